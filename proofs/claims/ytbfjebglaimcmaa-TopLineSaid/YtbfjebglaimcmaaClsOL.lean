/- The walk of the classer's open, where the line is valid and what else is asked is so; of answer. Conditions: the line is valid. The walks of the classer's Wrong and Keeps. Conditions: the line is valid, it can be, the bale is one. -/
import Derived.Test.YtbfjebglaimcmaaClsE
import Derived.Test.YtbfjebglaimcmaaClsIH
namespace Go.Proofs.Ytbfjebglaimcmaa
open Go.RowKit Go.Hav Go.Sq
attribute [local go_sem] Oper.semAt_some
theorem answerC_panicking (p : Addr) (x e : Int) (w : World) (hc : w.cell? p = some (.int .i64 x)) (hz : w.frozen? p = false) :
    CallsD Try.prog 87 #[.pointer (some p)] (.panicking [refC e]) w fun en u' w' =>
      en = .returned (.tuple #[]) ∧ u' = .panicking [{ refC e with recovered := true }] ∧ w' = w.setCell p (.int .i64 e) := by
  have hta : ∀ w, (Instr.typeAssert (.iface 165 (.int .i64 e)) 20 165 true).run Try.prog w = .ok (.tuple #[.int .i64 e, .bool true]) w := fun w => by kernel_rfl
  refine callsD_of_wpS Try.func87 rfl fun c₀ cs hu => ?_
  apply wpS_seq
  apply wpS_region
  simp [wpOpsS, go_sem, recoverD, hu, Try.ntmps87, Exit.thenS, refC]
  clear hu
  refine wpS_of_wp ?_
  simp only [Array.replicate_succ, Array.replicate_zero, List.push_toArray, List.append_toArray, List.nil_append, List.cons_append, List.setIfInBounds_toArray, List.set_cons_succ, List.set_cons_zero]
  go_wp2
  simp [bodyPostS, results, Try.results87, go_sem]
theorem answerC_idle (p : Addr) (w : World) :
    CallsD Try.prog 87 #[.pointer (some p)] .returning w fun e u' w' => e = .returned (.tuple #[]) ∧ u' = .returning ∧ w' = w := by
  refine callsD_of_wpS Try.func87 rfl fun c₀ cs hu => ?_
  apply wpS_seq
  apply wpS_region
  simp [wpOpsS, go_sem, recoverD, hu, Try.ntmps87, Exit.thenS]
  refine wpS_of_wp ?_
  simp only [Array.replicate_succ, Array.replicate_zero, List.push_toArray, List.append_toArray, List.nil_append, List.cons_append, List.setIfInBounds_toArray, List.set_cons_succ, List.set_cons_zero]
  go_wp2
  cases c₀
  simp_all [bodyPostS, results, Try.results87]
def ansC (b : Nat) : Deferred := { target := .fn (.func 87) #[], args := #[.pointer (some ⟨b, 0, none⟩)] }
theorem cls_panics {fn : Func} {R : Ending → World → Prop} {a : Act} {w : World} {b : Nat} {e x : Int} {v : Value} (hd : a.defers = [ansC b]) (hc : w.cell? ⟨b, 0, none⟩ = some (.int .i64 x)) (hz : w.frozen? ⟨b, 0, none⟩ = false)
    (hv : (results fn a.tmps).run Try.prog (w.setCell ⟨b, 0, none⟩ (.int .i64 e)) = .ok v (w.setCell ⟨b, 0, none⟩ (.int .i64 e))) (hR : R (.returned v) (w.setCell ⟨b, 0, none⟩ (.int .i64 e))) :
    bodyPostD Try.prog fn R (.panic [refC e]) a w := by
  show Leaves Try.prog fn a.tmps R a.defers (FrameMode.panicking [refC e]) w
  rw [hd]
  refine leaves_cons (f := 87) (args := #[.pointer (some ⟨b, 0, none⟩)]) (by simp) (by simp [go_sem]) ?_
  refine (answerC_panicking ⟨b, 0, none⟩ x e w hc hz).mono ?_
  rintro en u' w'' ⟨rfl, rfl, rfl⟩
  exact ⟨v, hv, hR⟩
theorem cls_returns {fn : Func} {R : Ending → World → Prop} {a : Act} {w : World} {b : Nat} {v : Value} (hd : a.defers = [ansC b])
    (hv : (results fn a.tmps).run Try.prog w = .ok v w) (hR : R (.returned v) w) :
    bodyPostD Try.prog fn R .ret a w := by
  show Leaves Try.prog fn a.tmps R a.defers FrameMode.returning w
  rw [hd]
  refine leaves_cons (f := 87) (args := #[.pointer (some ⟨b, 0, none⟩)]) (by simp) (by simp [go_sem]) ?_
  refine (answerC_idle ⟨b, 0, none⟩ w).mono ?_
  rintro en u' w'' ⟨rfl, rfl, rfl⟩
  exact ⟨v, hv, hR⟩
/-- A line's cells; its value; it is valid and lies in memory. -/
def clsC (ba : Option Addr) (bc : Nat) (c : Cls) : Array Value := #[.slice ba c.bl.length bc, .int .i64 c.may, .int .i64 c.drift, .int .i64 c.mis]
structure ClsIn (w : World) (B : Nat) (ba : Option Addr) (c : Cls) : Prop where
  ok : ClsOk c
  rd : RdG blF 3 w B ba c.bl
  hB : B ≤ w.heap.size
theorem ClsIn.below {w w' : World} {B : Nat} {ba : Option Addr} {c : Cls} (h : ClsIn w B ba c) (hb : Below B w w') : ClsIn w' B ba c := ⟨h.ok, h.rd.below hb, Nat.le_trans h.hB hb.size⟩
theorem ClsIn.grow {w w' : World} {ba : Option Addr} {c : Cls} (h : ClsIn w w.heap.size ba c) (hb : Below w.heap.size w w') : ClsIn w' w'.heap.size ba c := ⟨h.ok, h.rd.grow hb, Nat.le_refl _⟩
/-- What else is asked is so of a line that is looked at. -/
def IsTab (w : World) (ba : Option Addr) (bc : Nat) (c : Cls) (f : Nat) (cap : Array Value) : Prop := ∀ (wq : World) (d r : Nat), Below w.heap.size w wq → TabIn wq w.heap.size d r ba bc c → Calls Try.prog f (#[.pointer (some ⟨d, 0, none⟩)] ++ cap) wq fun e w' => e = .returned (.bool true) ∧ w' = wq
section
variable {w : World} {bc : Nat} {ba : Option Addr} {c : Cls}
set_option maxRecDepth 100000 in
set_option maxHeartbeats 6400000 in
theorem openC_any (f : Nat) (cap : Array Value) (eg : Enters Try.prog f) (his : IsTab w ba bc c f cap) (hC : ClsIn w w.heap.size ba c) :
    Calls Try.prog 88 #[.agg (clsC ba bc c), .func (.func f) #[] cap] w fun e w' => ∃ d r, e = .returned (.pointer (some ⟨d, 0, none⟩)) ∧ TabIn w' w.heap.size d r ba bc c ∧ Below w.heap.size w w' := by
  have HI := Lib.hid his
  have HC := Lib.hid hC
  have hok := hC.ok
  obtain ⟨m, hm⟩ : ∃ m, c.bl.length = m := ⟨_, rfl⟩
  have HM := Lib.hid hm
  have l1 := hok.l1
  have l6 := hok.l6
  rw [hm] at l1 l6
  have b1 : inB (m : Int) 1 6 = true := by simp [inB]; omega
  have b2 : inB (c.may : Int) 0 30 = true := by have := hok.may; simp [inB]; omega
  have b3 : inB (c.drift : Int) 0 30 = true := by have := hok.dr; simp [inB]; omega
  have b4 : inB (c.mis : Int) 0 6 = true := by have := hok.mi; simp [inB]; omega
  obtain ⟨W, hW⟩ : ∃ W, W = w.alloc (.cells (clsC ba bc c) 75) := ⟨_, rfl⟩
  have HX : Hid (Blk W w.heap.size 75 (clsC ba bc c)) := by rw [hW]; exact Blk.new w 75 _
  have HB : Hid (Below w.heap.size w W) := by rw [hW]; exact (Below.refl _ _).alloc (Nat.le_refl _) _
  have x0 := HX.out.cell 0
  have x1 := HX.out.cell 1
  have x2 := HX.out.cell 2
  have x3 := HX.out.cell 3
  have xl := HX.out.lt
  simp [clsC] at x0 x1 x2 x3
  rw [hm] at x0
  clear his hC hok hm
  go_enter Try.func88, Try.ntmps88
  go_upto_region 1 with (fail)
  rw [← hW]
  clear hW
  go_wp2_with (go_at_call 128; refine (withinC_any _ _ _ _).mono ?_; rintro e w' ⟨rfl, rfl⟩)
  refine (askC_any true 1 _).mono ?_
  rintro e w' ⟨q1, rfl⟩
  obtain rfl : e = .returned (.tuple #[]) := q1
  go_upto_region 3 with (fail)
  clear x1 x2 x3
  go_loopw [31] (fun i wr => ∃ k : Nat, k ≤ m ∧ i = .int .i64 k ∧ Below (w.heap.size + 1) w' wr) (fun i _ => m - (intOf i).toNat)
  case atStart => exact ⟨0, Nat.zero_le _, rfl, Below.refl _ _⟩
  case round =>
    obtain ⟨k, hk, rfl, hb⟩ := hrel
    have HBR := Lib.hid hb
    have hsz := hb.size
    clear hb
    by_cases hlt : k < m
    · obtain ⟨b, hbk⟩ : ∃ b, c.bl[k]? = some b := ⟨c.bl[k]'(by rw [HM.out]; exact hlt), by simp⟩
      obtain ⟨v1, v2, v3, v4⟩ := HC.out.ok.bl b (List.mem_of_getElem? hbk)
      obtain ⟨g, off, rfl, hgl, hcl⟩ := HC.out.rd k b hbk
      have HBW : Hid (Below w.heap.size w wr) := HB.out.trans (HBR.out.mono (by omega))
      have h0 : wr.cell? ⟨g, off + k * 3, none⟩ = some (.int .i64 b.f) := by have h := hcl 0 _ rfl; exact (HBW.out.cell (p := ⟨g, _, none⟩) hgl).trans (by simpa using h)
      have h1 : wr.cell? ⟨g, off + k * 3 + 1, none⟩ = some (.int .i64 b.l) := (HBW.out.cell (p := ⟨g, _, none⟩) hgl).trans (hcl 1 _ rfl)
      have h2 : wr.cell? ⟨g, off + k * 3 + 2, none⟩ = some (.int .i64 b.w) := (HBW.out.cell (p := ⟨g, _, none⟩) hgl).trans (hcl 2 _ rfl)
      have hgw : g < wr.heap.size := by omega
      have a1 : inB (b.f : Int) 1 30 = true := by simp [inB]; omega
      have a2 : inB (b.l : Int) 0 b.f = true := by simp [inB]; omega
      have a3 : inB (b.w : Int) 0 b.l = true := by simp [inB]; omega
      have hki : (k : Int) < m := by omega
      clear hcl hbk
      go_upto_region 5 with (fail)
      obtain ⟨Z, hZ⟩ : ∃ x, x = wr.alloc (.cells #[.int .i64 b.f, .int .i64 b.l, .int .i64 b.w] 77) := ⟨_, rfl⟩
      have hz := Blk.new wr 77 #[.int .i64 b.f, .int .i64 b.l, .int .i64 b.w]
      have HZB : Hid (Below (w.heap.size + 1) w' Z) := by
        show Below _ _ _
        rw [hZ]
        exact HBR.out.alloc (by omega) _
      rw [← hZ] at hz ⊢
      have z0 := hz.cell 0
      have z1 := hz.cell 1
      have z2 := hz.cell 2
      have zl := hz.lt
      simp at z0 z1 z2
      clear hZ hz h0 h1 h2
      go_wp2_with (go_at_call 128; refine (withinC_any _ _ _ _).mono ?_; rintro e w' ⟨rfl, rfl⟩)
      refine (askC_any true 1 _).mono ?_
      rintro e w' ⟨q1, rfl⟩
      obtain rfl : e = .returned (.tuple #[]) := q1
      go_wp2_with fail
      go_roundw
      case rel => exact ⟨k + 1, by omega, by go_num, HZB.out⟩
      case measure => simp [intOf]; omega
    · obtain rfl : m = k := by omega
      have hx := HX.out.below HBR.out (by omega)
      have x0 := hx.cell 0
      have x1 := hx.cell 1
      have x2 := hx.cell 2
      have x3 := hx.cell 3
      have xl := hx.lt
      simp [clsC] at x0 x1 x2 x3
      have hmm := @run_makeMap Try.prog
      have HBW : Hid (Below w.heap.size w wr) := HB.out.trans (HBR.out.mono (by omega))
      clear hx
      go_upto_region 8 with (fail)
      obtain ⟨Z, hZ⟩ : ∃ x, x = (wr.alloc (.map #[] 0)).alloc (.cells (tabC ba bc c wr.heap.size) 158) := ⟨_, rfl⟩
      have HT : Hid (TabIn Z w.heap.size (wr.heap.size + 1) wr.heap.size ba bc c) := by
        have hbz : Below w.heap.size w Z := by rw [hZ]; exact (HBW.out.alloc HBW.out.size _).alloc (by have := HBW.out.size; simp; omega) _
        have hbm : Z.heap[wr.heap.size]? = (wr.alloc (.map #[] 0)).heap[wr.heap.size]? := by rw [hZ]; exact Below.heap_alloc _ _ _ (by simp)
        exact ⟨HC.out.ok, by rw [hZ]; exact Blk.new_ (by simp) 158 _, HC.out.rd.below hbz, (MapK.made wr (kF c)).keep hbm, HBW.out.size, by have := HBW.out.size; omega, by omega, hbz.size⟩
      have HBZ : Hid (Below w.heap.size w Z) := by show Below _ _ _; rw [hZ]; exact (HBW.out.alloc HBW.out.size _).alloc (by have := HBW.out.size; simp; omega) _
      have hcall := HI.out Z (wr.heap.size + 1) wr.heap.size HBZ.out HT.out
      have hgo : ∀ x, tabC ba bc c x = #[.slice ba c.bl.length bc, .int .i64 c.may, .int .i64 c.drift, .int .i64 c.mis, .map (some x)] := fun _ => rfl
      rw [hgo] at hZ
      rw [← hZ]
      have heg : ∀ args w, (callFunc f args).run Try.prog w = .ok (.enter f args) w := eg
      clear hZ hgo x0 x1 x2 x3 xl
      go_wp2_with fail
      refine hcall.mono ?_
      rintro e w2 ⟨rfl, rfl⟩
      go_wp2_with fail
      refine (askC_any true 2 _).mono ?_
      rintro e w3 ⟨q1, rfl⟩
      obtain rfl : e = .returned (.tuple #[]) := q1
      go_wp2
      go_ret
      exact ⟨_, _, rfl, HT.out, HBZ.out⟩
end
end Go.Proofs.Ytbfjebglaimcmaa
namespace Go.Proofs.Ytbfjebglaimcmaa
open Go.RowKit Go.Hav Go.Sq
attribute [local go_sem] Oper.semAt_some
section
variable {w : World} {bc : Nat} {ba : Option Addr} {c : Cls} {n : Nat}
set_option maxRecDepth 100000 in
set_option maxHeartbeats 800000 in
theorem isTab100 {g : Nat} (h : Blk w g 3 #[.int .i64 n]) (hn : n < c.bl.length) : IsTab w ba bc c 100 #[.pointer (some ⟨g, 0, none⟩)] := by
  intro wq d r hb hT
  have HT := Lib.hid hT
  have c0 := (h.below hb h.lt).cell 0
  have cl := (h.below hb h.lt).lt
  simp at c0
  show Calls Try.prog _ #[.pointer (some ⟨d, 0, none⟩), .pointer (some ⟨g, 0, none⟩)] wq _
  clear hT h hb
  go_enter Try.func100, Try.ntmps100
  go_wp2_with fail
  refine (isBale_any wq HT.out hn).mono ?_
  rintro e w' ⟨rfl, rfl⟩
  go_wp2
  go_ret
  exact ⟨rfl, rfl⟩
set_option maxRecDepth 100000 in
set_option maxHeartbeats 800000 in
theorem isTab102 {g : Nat} (h : Blk w g 3 #[.int .i64 n]) (hn : n < c.bl.length) : IsTab w ba bc c 102 #[.pointer (some ⟨g, 0, none⟩)] := by
  intro wq d r hb hT
  have HT := Lib.hid hT
  have c0 := (h.below hb h.lt).cell 0
  have cl := (h.below hb h.lt).lt
  simp at c0
  show Calls Try.prog _ #[.pointer (some ⟨d, 0, none⟩), .pointer (some ⟨g, 0, none⟩)] wq _
  clear hT h hb
  go_enter Try.func102, Try.ntmps102
  go_wp2_with fail
  refine (isBale_any wq HT.out hn).mono ?_
  rintro e w' ⟨rfl, rfl⟩
  go_wp2
  go_ret
  exact ⟨rfl, rfl⟩
set_option maxRecDepth 100000 in
set_option maxHeartbeats 800000 in
theorem isTab124 {g : Nat} (h : Blk w g 3 #[.int .i64 n]) (hn : n < c.bl.length) : IsTab w ba bc c 124 #[.pointer (some ⟨g, 0, none⟩)] := by
  intro wq d r hb hT
  have HT := Lib.hid hT
  have c0 := (h.below hb h.lt).cell 0
  have cl := (h.below hb h.lt).lt
  simp at c0
  show Calls Try.prog _ #[.pointer (some ⟨d, 0, none⟩), .pointer (some ⟨g, 0, none⟩)] wq _
  clear hT h hb
  go_enter Try.func124, Try.ntmps124
  go_wp2_with fail
  refine (isBale_any wq HT.out hn).mono ?_
  rintro e w' ⟨rfl, rfl⟩
  go_wp2
  go_ret
  exact ⟨rfl, rfl⟩
theorem isTab89 : IsTab w ba bc c 89 #[] := by
  intro wq d r hb hT
  exact always_any _ wq
theorem clsC_cells {V : World} {g t : Nat} (h : Blk V g t (clsC ba bc c)) : V.cell? ⟨g, 0, none⟩ = some (.slice ba c.bl.length bc) ∧ V.cell? ⟨g, 1, none⟩ = some (.int .i64 c.may) ∧ V.cell? ⟨g, 2, none⟩ = some (.int .i64 c.drift) ∧ V.cell? ⟨g, 3, none⟩ = some (.int .i64 c.mis) ∧ g < V.heap.size :=
  ⟨h.cell 0, h.cell 1, h.cell 2, h.cell 3, h.lt⟩
theorem GK.under {B r : Nat} {F : KeyC → Nat → Int} {X Y Z : World} (h : Below B X Y) (hB : B ≤ Y.heap.size) (hr : B ≤ r) (k : (GK r F).G Y Z) : Below B X Z := h.trans (k.1.below hB (fun b e => by omega))
set_option maxRecDepth 100000 in
set_option maxHeartbeats 6400000 in
theorem CWrong_any (w : World) (hC : ClsIn w w.heap.size ba c) {b : Bl} (hb : c.bl[n]? = some b) (hcan : mistakenC c (fun _ => true) ≤ c.mis) :
    Calls Try.prog 51 #[.agg (clsC ba bc c), .int .i64 n] w fun e w' => e = .returned (.tuple #[.agg (spN (wrongC c n b)), .int .i64 0]) ∧ Below w.heap.size w w' := by
  have HC := Lib.hid hC
  have HBL := Lib.hid hb
  have HCAN := Lib.hid hcan
  have hn := (List.getElem?_eq_some_iff.1 hb).1
  have EG := Lib.hid (enters_of Try.func100 (by kernel_rfl) rfl)
  have hmf : ∀ (fn : Fn) (first cap : Array Value) (w : World), (Instr.makeFunc fn first cap).run Try.prog w = .ok (.func fn first cap) w := fun _ _ _ _ => rfl
  obtain ⟨W, hW⟩ : ∃ W, W = (((w.alloc (.cells (clsC ba bc c) 75)).alloc (.cells #[.int .i64 n] 3)).alloc (.cells #[.int .i64 0, .int .i64 0] 29)).alloc (.cells #[.int .i64 0] 30) := ⟨_, rfl⟩
  have HX0 : Hid (Blk W w.heap.size 75 (clsC ba bc c)) := by rw [hW]; exact (((Blk.new_ rfl _ _).alloc _).alloc _).alloc _
  have HX1 : Hid (Blk W (w.heap.size + 1) 3 #[.int .i64 n]) := by rw [hW]; exact ((Blk.new_ (by simp) _ _).alloc _).alloc _
  have HX2 : Hid (Blk W (w.heap.size + 1 + 1) 29 #[.int .i64 0, .int .i64 0]) := by rw [hW]; exact (Blk.new_ (by simp) _ _).alloc _
  have HX3 : Hid (Blk W (w.heap.size + 1 + 1 + 1) 30 #[.int .i64 0]) := by rw [hW]; exact Blk.new_ (by simp) _ _
  have HB : Hid (Below w.heap.size w W) := by rw [hW]; exact ((((Below.refl w.heap.size w).alloc (by simp) _).alloc (by simp) _).alloc (by simp; omega) _).alloc (by simp; omega) _
  have hs := HX3.out.lt
  clear hC hb hcan
  go_enter_defers Try.func51, Try.ntmps51
  go_upto_region 2 with fail
  rw [← hW]
  clear hW
  refine HavG.wp_region_stg (fun wv => Below W.heap.size W wv) [(0,false),(1,false),(3,false),(2,true),(4,true)] [5, 6] (fun _ _ => False) (by kernel_rfl) (by kernel_rfl) (fun _ _ _ _ h => h.elim) (Below.drew (Below.refl _ _)) ?_
  (apply HavG.stg_same (by simp only [List.getElem?_toArray, List.getElem?_cons_zero]; rfl) (by kernel_rfl); (focus (intro wv hI; obtain ⟨x0, x1, x2, x3, xl⟩ := clsC_cells (HX0.out.below hI HX0.out.lt); (try go_simp); try rfl; done)); simp only [Act.put, List.setIfInBounds_toArray, List.set_cons_succ, List.set_cons_zero])
  (apply HavG.stg_same (by simp only [List.getElem?_toArray, List.getElem?_cons_succ, List.getElem?_cons_zero]; rfl) (by kernel_rfl); (focus (intro wv hI; clear hI; (try go_simp); try rfl; done)); simp only [Act.put, List.setIfInBounds_toArray, List.set_cons_succ, List.set_cons_zero])
  (apply HavG.stg_same (by simp only [List.getElem?_toArray, List.getElem?_cons_succ, List.getElem?_cons_zero]; rfl) (by kernel_rfl); (focus (intro wv hI; have x0 := (HX1.out.below hI HX1.out.lt).cell 0; (simp at x0); (try go_simp); try rfl; done)); simp only [Act.put, List.setIfInBounds_toArray, List.set_cons_succ, List.set_cons_zero])
  (apply HavG.stg_call (by simp only [List.getElem?_toArray, List.getElem?_cons_succ, List.getElem?_cons_zero]; rfl) (by kernel_rfl); (focus (go_simp; try exact ⟨rfl, rfl⟩; done)))
  refine (openC_any 100 #[.pointer (some ⟨w.heap.size + 1, 0, none⟩)] EG.out (isTab100 (w := W.drew) HX1.out hn) (HC.out.grow (Below.drew HB.out))).mono ?_
  rintro e w1 ⟨d, r, rfl, hT, hb1⟩
  have HB1 : Hid (Below W.heap.size W w1) := (Below.drew (Below.refl _ _)).trans hb1
  have HT := Lib.hid hT
  refine .inl ⟨_, rfl, HB1.out, ?_⟩
  simp only [Act.put, List.setIfInBounds_toArray, List.set_cons_succ, List.set_cons_zero]
  (apply HavG.stg_call (by simp only [List.getElem?_toArray, List.getElem?_cons_succ, List.getElem?_cons_zero]; rfl) (by kernel_rfl); (focus (go_simp; try exact ⟨rfl, rfl⟩; done)))
  refine (wrongC_any w1 HT.out HBL.out HCAN.out).mono ?_
  rintro e w2 ⟨rfl, hg⟩
  have HB2 : Hid (Below W.heap.size W w2) := GK.under HB1.out HB1.out.size HT.out.hr hg
  refine .inl ⟨_, rfl, HB2.out, ?_⟩
  simp only [Act.put, List.setIfInBounds_toArray, List.set_cons_succ, List.set_cons_zero]
  simp only [HavG.wpStg, List.filterMap]
  have HY2 := Lib.hid (HX2.out.below HB2.out HX2.out.lt)
  have HY3 := Lib.hid (HX3.out.below HB2.out HX3.out.lt)
  have HBW : Hid (Below w.heap.size w w2) := HB.out.trans (HB2.out.mono HB.out.size)
  obtain ⟨p, hp⟩ : ∃ p : Int, ((wrongC c n b).1 : Int) = p := ⟨_, rfl⟩
  obtain ⟨q, hq⟩ : ∃ q : Int, ((wrongC c n b).2 : Int) = q := ⟨_, rfl⟩
  have HSP : Hid (spN (wrongC c n b) = #[.int .i64 p, .int .i64 q]) := by show _ = _; rw [← hp, ← hq]; rfl
  rw [HSP.out]
  have f0 := HY2.out.frozen 0
  have f1 := HY2.out.frozen 1
  have f3 := HY3.out.frozen 0
  have y0 := HY2.out.cell 0
  have y1 := HY2.out.cell 1
  have y3 := HY3.out.cell 0
  simp at y0 y1 y3
  clear hT hb1 hg hp hq
  go_wp2
  have hZ2 := ((HY2.out.set_ 0 (.int .i64 p)).set_ 1 (.int .i64 q)).far (p := ⟨w.heap.size + 1 + 1 + 1, 0, none⟩) (by show _ ≠ w.heap.size + 1 + 1 + 1; omega) (.int .i64 0)
  have hZ3 := ((HY3.out.far (p := ⟨w.heap.size + 1 + 1, 0, none⟩) (by show _ ≠ w.heap.size + 1 + 1; omega) (.int .i64 p)).far (p := ⟨w.heap.size + 1 + 1, 1, none⟩) (by show _ ≠ w.heap.size + 1 + 1; omega) (.int .i64 q)).set_ 0 (.int .i64 0)
  have g0 := hZ3.cell 0
  have g1 := hZ2.cell 0
  have g2 := hZ2.cell 1
  simp at g0 g1 g2
  exact cls_returns (b := w.heap.size + 1 + 1 + 1) rfl (v := .tuple #[.agg #[.int .i64 p, .int .i64 q], .int .i64 0]) (by simp [results, Try.results51, go_sem, g0, g1, g2]) ⟨by rw [HSP.out], setCell_below (setCell_below (setCell_below HBW.out (by omega) _ _) (by omega) _ _) (by omega) _ _⟩
set_option maxRecDepth 100000 in
set_option maxHeartbeats 6400000 in
theorem CKeeps_any (w : World) (hC : ClsIn w w.heap.size ba c) {b : Bl} (hb : c.bl[n]? = some b) (hcan : mistakenC c (fun _ => true) ≤ c.mis) :
    Calls Try.prog 52 #[.agg (clsC ba bc c), .int .i64 n] w fun e w' => e = .returned (.tuple #[.int .i64 (toldC c.may (wrongC c n b) : Nat), .int .i64 0]) ∧ Below w.heap.size w w' := by
  have HC := Lib.hid hC
  have HBL := Lib.hid hb
  have HCAN := Lib.hid hcan
  have hn := (List.getElem?_eq_some_iff.1 hb).1
  have EG := Lib.hid (enters_of Try.func102 (by kernel_rfl) rfl)
  have hmf : ∀ (fn : Fn) (first cap : Array Value) (w : World), (Instr.makeFunc fn first cap).run Try.prog w = .ok (.func fn first cap) w := fun _ _ _ _ => rfl
  obtain ⟨W, hW⟩ : ∃ W, W = ((w.alloc (.cells (clsC ba bc c) 75)).alloc (.cells #[.int .i64 n] 3)).alloc (.cells #[.int .i64 0] 30) := ⟨_, rfl⟩
  have HX0 : Hid (Blk W w.heap.size 75 (clsC ba bc c)) := by rw [hW]; exact ((Blk.new_ rfl _ _).alloc _).alloc _
  have HX1 : Hid (Blk W (w.heap.size + 1) 3 #[.int .i64 n]) := by rw [hW]; exact (Blk.new_ (by simp) _ _).alloc _
  have HX3 : Hid (Blk W (w.heap.size + 1 + 1) 30 #[.int .i64 0]) := by rw [hW]; exact Blk.new_ (by simp) _ _
  have HB : Hid (Below w.heap.size w W) := by rw [hW]; exact (((Below.refl w.heap.size w).alloc (by simp) _).alloc (by simp) _).alloc (by simp; omega) _
  have hs := HX3.out.lt
  obtain ⟨x0, x1, x2, x3, xl⟩ := clsC_cells HX0.out
  clear hC hb hcan
  go_enter_defers Try.func52, Try.ntmps52
  go_upto_region 2 with fail
  rw [← hW]
  clear hW
  go_wp2_with fail
  refine (openC_any 102 #[.pointer (some ⟨w.heap.size + 1, 0, none⟩)] EG.out (isTab102 (w := W) HX1.out hn) (HC.out.grow HB.out)).mono ?_
  rintro e w1 ⟨d, r, rfl, hT, hb1⟩
  have HB1 := Lib.hid hb1
  have HT := Lib.hid hT
  clear hT hb1 x0 x1 x2 x3 xl
  have y0 := (HX1.out.below HB1.out HX1.out.lt).cell 0
  have yl := (HX1.out.below HB1.out HX1.out.lt).lt
  simp at y0
  go_wp2_with fail
  refine (wrongC_any w1 HT.out HBL.out HCAN.out).mono ?_
  rintro e w2 ⟨rfl, hg⟩
  have HG := Lib.hid hg
  have HB2 : Hid (Below W.heap.size W w2) := GK.under HB1.out HB1.out.size HT.out.hr hg
  clear hg y0 yl
  go_wp2_with fail
  refine (toldC_any w2 (HT.out.keep HG.out) _).mono ?_
  rintro e w3 ⟨rfl, hb3⟩
  have HB3 : Hid (Below W.heap.size W w3) := HB2.out.trans (hb3.mono HB2.out.size)
  have HY3 := Lib.hid (HX3.out.below HB3.out HX3.out.lt)
  have HBW : Hid (Below w.heap.size w w3) := HB.out.trans (HB3.out.mono HB.out.size)
  obtain ⟨p, hp⟩ : ∃ p : Int, ((toldC c.may (wrongC c n b) : Nat) : Int) = p := ⟨_, rfl⟩
  have HPE := Lib.hid hp
  rw [hp]
  have f3 := HY3.out.frozen 0
  have y3 := HY3.out.cell 0
  simp at y3
  clear hp hb3
  go_wp2
  have g0 := (HY3.out.set_ 0 (.int .i64 0)).cell 0
  simp at g0
  exact cls_returns (b := w.heap.size + 1 + 1) rfl (v := .tuple #[.int .i64 p, .int .i64 0]) (by simp [results, Try.results52, go_sem, g0]) ⟨by rw [HPE.out], setCell_below HBW.out (by omega) _ _⟩
end
end Go.Proofs.Ytbfjebglaimcmaa
