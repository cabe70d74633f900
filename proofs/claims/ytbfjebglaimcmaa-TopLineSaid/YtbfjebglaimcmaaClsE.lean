/- The walk of the classer's table: the costs of all bales up to one, from an end. Conditions: the map holds what is right; the line is valid. -/
import Derived.Test.YtbfjebglaimcmaaClsAD
import Derived.Test.YtbfjebglaimcmaaHavC
namespace Go.Proofs.Ytbfjebglaimcmaa
open Go.RowKit Go.Hav Go.Sq
attribute [local go_sem] Oper.semAt_some
/-- Only the map changes, and it holds what it should. -/
def GK (r : Nat) (F : KeyC → Nat → Int) : HavG.Rel where
  G w w' := Turn (fun b => b = r) w w' ∧ (MapK w r F → MapK w' r F)
  refl w := ⟨Turn.refl _ w, id⟩
  trans h k := ⟨h.1.trans k.1, fun hm => k.2 (h.2 hm)⟩
  drew _ := ⟨Turn.of_below (Below.drew (Below.refl _ _)), fun hm => hm.keep rfl⟩
theorem GK.below {r : Nat} {F : KeyC → Nat → Int} {w w' : World} (h : Below w.heap.size w w') : (GK r F).G w w' := ⟨Turn.of_below h, fun hm => hm.keep (h.block r hm.lt)⟩
theorem exec_alloc162 {o : Oper} {a : Act} (w : World) (hop : o.op = .alloc 162) : (execOp a.eval o).run Try.prog w = .ok (.value (.pointer (some ⟨w.heap.size, 0, none⟩))) (w.alloc (.cells (costA fun _ => 0) 162)) := by
  have hz := Try.zero162
  unfold costV at hz
  unfold execOp
  rw [hop]
  go_simp
theorem exec_storeW {o : Oper} {a : Act} {w w' : World} {g : Nat} {V : Value} (ty : TypeId) (s x : Nat) (hop : o.op = .store ty (.tmp s) (.tmp x)) (hs : a.eval (.tmp s) = .pointer (some ⟨g, 0, none⟩)) (hx : a.eval (.tmp x) = V) (hl : (storeVar ty ⟨g, 0, none⟩ V).run Try.prog w = .ok () w') : (execOp a.eval o).run Try.prog w = .ok .skip w' := by
  simp [execOp, hop, hs, hx, Instr.storeAt, Instr.sureAddr, hl, Result.andThen]
theorem exec_lookup {o : Oper} {a : Act} {w : World} {V : Value} (ty : TypeId) (s x : Nat) (hop : o.op = .lookup ty (.tmp s) (.tmp x) true) {m k : Value} (hs : a.eval (.tmp s) = m) (hx : a.eval (.tmp x) = k) (hl : (Instr.lookup ty m k true).run Try.prog w = .ok V w) : (execOp a.eval o).run Try.prog w = .ok (.value V) w := by
  simp [execOp, hop, hs, hx, hl, Result.andThen]
set_option maxRecDepth 100000 in
theorem meth174 (d : Nat) (b : Bl) (wv : World) : (method 307 174 (.agg (baleC d b true)) "shearworks/classer.after").run Try.prog wv = .ok (135, .agg (baleC d b true)) wv := by kernel_rfl
set_option maxRecDepth 100000 in
theorem exec_nil174 (d : Nat) (b : Bl) (wv : World) {o : Oper} {a : Act} {s : Nat} (hop : o.op = .nilCheck (.tmp s)) (h1 : a.eval (.tmp s) = .func (.method "shearworks/classer.after") #[.iface 174 (.agg (baleC d b true))] #[]) :
   (execOp a.eval o).run Try.prog wv = .ok (.value (.func (.method "shearworks/classer.after") #[.iface 174 (.agg (baleC d b true))] #[])) wv := by
  unfold execOp
  rw [hop]
  simp only [h1]
  kernel_rfl
theorem exec_inv174 (d : Nat) (b : Bl) (v : Value) (wv : World) {o : Oper} {a : Act} {s t : Nat} (hop : o.op = Op.call { callee := Callee.invoke (Operand.tmp s) "shearworks/classer.after", args := #[Operand.tmp t], argTypes := #[162] }) (h1 : a.tmps[s]?.getD undef = .iface 174 (.agg (baleC d b true))) (h2 : a.tmps[t]?.getD undef = v) :
   (execOp a.eval o).run Try.prog wv = .ok (.enter 135 #[.agg (baleC d b true), v]) wv := by
  have hm := meth174 d b
  have EG := enters_of Try.func135 (by kernel_rfl) rfl
  unfold execOp
  rw [hop]

  go_simp
section
variable {w w' : World} {B d r bc : Nat} {ba : Option Addr} {c : Cls}
theorem TabIn.keep (h : TabIn w B d r ba bc c) (hg : (GK r (kF c)).G w w') : TabIn w' B d r ba bc c := h.turn hg.1 (hg.2 h.map)
theorem wide_store {g : Nat} {t ty : TypeId} {old cs : Array Value} {n : Nat} (h : Blk w g t old) (hi : (Try.prog.info? ty).map (·.size) = some n) (ho : old.size = n) (hn : cs.size = n) (h1 : cs.all (·.oneCell') = true) : (storeVar ty ⟨g, 0, none⟩ (.agg cs)).run Try.prog w = .ok () (w.setRow g cs) :=
  run_storeVar_row _ _ _ _ _ _ h (by rw [hn]; exact hi) (by rw [ho, hn]) h1
/-- Which bale is the first, which the one ahead, from an end. -/
def firstK (c : Cls) (back : Bool) : Nat := if back then c.bl.length - 1 else 0
def aheadK (back : Bool) (n : Nat) : Nat := if back then n + 1 else n - 1
theorem kF_first {n tk : Nat} {b : Bl} {back : Bool} (hb : c.bl[n]? = some b) (hn : n = firstK c back) : kF c ⟨tk, n, back⟩ = cI (ownC b true) := by
  have hl := (List.getElem?_eq_some_iff.1 hb).1
  unfold kF
  cases back
  · obtain rfl : n = 0 := hn
    simp only [Bool.false_eq_true, if_false]
    rw [front_zero hb]
  · simp only [if_true]
    rw [back_last hb (by have : n = c.bl.length - 1 := hn; omega)]
theorem kF_step {n tk : Nat} {b : Bl} {back : Bool} (hb : c.bl[n]? = some b) (hn : ¬ n = firstK c back) : ∃ C : Nat → Nat, kF c ⟨tk, aheadK back n, back⟩ = cI C ∧ kF c ⟨tk, n, back⟩ = cI (plusC (driftC c.drift C) (ownC b true)) := by
  have hl := (List.getElem?_eq_some_iff.1 hb).1
  refine ⟨_, rfl, ?_⟩
  unfold kF
  cases back
  · obtain ⟨m, rfl⟩ : ∃ m, n = m + 1 := ⟨n - 1, by have : ¬ n = 0 := hn; omega⟩
    simp only [Bool.false_eq_true, if_false, aheadK]
    rw [front_succ hb]
    rfl
  · simp only [if_true, aheadK]
    rw [back_step hb (by have : ¬ n = c.bl.length - 1 := hn; omega)]
theorem kF_far (h : ClsOk c) (k : KeyC) (i : Nat) : 0 ≤ kF c k i ∧ kF c k i ≤ 65536 := by
  have hf := fun l hl => toC_far (d := c.drift) (tk := fun _ => true) i l hl
  unfold kF cI
  have hz : ∀ p ∈ c.bl.zipIdx.map (fun p => (p.2, p.1)), BlOk p.2 := fun p hp => by
    rw [List.mem_map] at hp
    obtain ⟨q, hq, rfl⟩ := hp
    exact h.bl _ (List.fst_mem_of_mem_zipIdx hq)
  unfold farC at hf
  split
  · have := hf (backL c k.n) (fun p hp => hz p (List.mem_of_mem_drop hp))
    omega
  · have := hf (frontL c k.n) (fun p hp => by
      unfold frontL at hp
      rw [List.mem_reverse, List.mem_map] at hp
      obtain ⟨q, hq, rfl⟩ := hp
      exact h.bl _ (List.mem_of_mem_take (List.fst_mem_of_mem_zipIdx hq)))
    omega
/-- How far it is to the end. -/
def farK (c : Cls) (back : Bool) (n : Nat) : Nat := if back then c.bl.length - 1 - n else n
/-- The code behind the first n limbs of a chain. -/
def dropC : Nat → Code → Code
  | 0, c => c
  | n + 1, .seq _ b => dropC n b
  | _ + 1, c => c
noncomputable def toK (n : Nat) : Code := dropC n (Try.f141.body.getD .skip)
/-- What the table leaves. -/
def ToPost (w : World) (r : Nat) (c : Cls) (k : KeyC) (e : Ending) (w' : World) : Prop := e = .returned (costV (kF c k)) ∧ (GK r (kF c)).G w w'
def keyS (k : KeyC) : Array Value := #[.int .u64 k.tk, .int .i64 k.n, .bool k.back]
/-- What the table's code leans on: the key's block, the result's, the table. -/
structure ToIn (w V : World) (B d r : Nat) (ba : Option Addr) (bc : Nat) (c : Cls) (k : KeyC) (x y : Nat) : Prop where
  ko : k.Ok
  hx : Blk V x 186 (keyS k)
  hy : Blk V y 162 (costA fun _ => 0)
  t : TabIn V B d r ba bc c
  g : (GK r (kF c)).G w V
  xr : x ≠ r
  yr : y ≠ r
  wx : w.heap.size ≤ y
  dw : d < w.heap.size
variable {V : World} {x y : Nat} {k : KeyC} {b : Bl}
theorem ToIn.keep (h : ToIn w V B d r ba bc c k x y) (hg : (GK r (kF c)).G V w') : ToIn w w' B d r ba bc c k x y :=
  { h with hx := h.hx.turn hg.1 h.xr, hy := h.hy.turn hg.1 h.yr, t := h.t.keep hg, g := (GK r (kF c)).trans h.g hg }
theorem ToIn.below (h : ToIn w V B d r ba bc c k x y) (hb : Below V.heap.size V w') : ToIn w w' B d r ba bc c k x y := h.keep (GK.below hb)
theorem ToIn.set {g : Nat} (h : ToIn w V B d r ba bc c k x y) (cs : Array Value) (hw : w.heap.size ≤ g) (hx : g ≠ x) (hy : g ≠ y) (hr : g ≠ r) : ToIn w (V.setRow g cs) B d r ba bc c k x y := by
  have t := setRow_turn V g cs
  have hm : MapK (V.setRow g cs) r (kF c) := h.t.map.keep (t.block r h.t.map.lt (fun e => hr e.symm))
  have hd := h.dw
  exact { h with
    hx := h.hx.turn t (fun e => hx e.symm)
    hy := h.hy.turn t (fun e => hy e.symm)
    t := { h.t with blk := h.t.blk.turn t (fun e => by omega), rd := h.t.rd.keep fun z hz _ => t.block z (Nat.lt_of_lt_of_le hz h.t.hB) (fun e => by have := h.t.hd; omega), map := hm, hB := Nat.le_trans h.t.hB t.size }
    g := ⟨h.g.1.join t (fun z e hz => by omega), fun _ => hm⟩ }
theorem ToIn.fin (h : ToIn w V B d r ba bc c k x y) (cs : Array Value) : (GK r (kF c)).G w (V.setRow y cs) :=
  ⟨h.g.1.join (setRow_turn V y cs) (fun z e hz => by have := h.wx; omega), fun hm => (h.g.2 hm).keep ((setRow_turn V y cs).block r h.t.map.lt (fun e => h.yr e.symm))⟩
set_option maxRecDepth 100000 in
set_option maxHeartbeats 6400000 in
theorem to_t7 (hI : ToIn w V B d r ba bc c k x y) {g10 : Nat} (hg : Blk V g10 162 (costA (kF c k))) (hn : g10 ≠ r) {s1 s2 s5 s6 s7 s8 s9 s11 s12 s13 s14 s15 s16 s17 s18 s19 s20 s21 s22 s23 s24 s25 s26 s27 s28 s29 s30 s31 s32 s33 s34 s35 s36 s37 s38 s39 s40 s41 s42 s43 s44 s45 s46 s47 s48 s49 s50 s51 s52 s53 s54 s55 s56 s57 s58 s59 s60 s61 s62 s63 s64 s65 s66 s67 s68 : Value} :
    Code.wp Try.prog (toK 7) (bodyPost Try.prog Try.f141 (ToPost w r c k)) ⟨((.pointer (some ⟨d, 0, none⟩))::s1::s2::(.pointer (some ⟨x, 0, none⟩))::(.pointer (some ⟨y, 0, none⟩))::s5::s6::s7::s8::s9::(.pointer (some ⟨g10, 0, none⟩))::s11::s12::s13::s14::s15::s16::s17::s18::s19::s20::s21::s22::s23::s24::s25::s26::s27::s28::s29::s30::s31::s32::s33::s34::s35::s36::s37::s38::s39::s40::s41::s42::s43::s44::s45::s46::s47::s48::s49::s50::s51::s52::s53::s54::s55::s56::s57::s58::s59::s60::s61::s62::s63::s64::s65::s66::s67::s68::[]).toArray, []⟩ V := by
  have HI := Lib.hid hI
  have HG := Lib.hid hg
  have hx := hI.hx
  have x0 := hx.cell 0
  have x1 := hx.cell 1
  have x2 := hx.cell 2
  have xl := hx.lt
  have t4 := hI.t.blk.cell 4
  have tl := hI.t.blk.lt
  simp [tabC] at t4
  simp [keyS] at x0 x1 x2
  clear hI hg hx
  conv => arg 2; whnf
  go_upto_region 12 with (fail)
  refine wp_region_havoc [(0,false),(1,false),(2,false),(3,false),(4,false),(5,false)] [6] (fun _ _ => False) (by kernel_rfl) (by kernel_rfl) (fun _ _ _ _ h => h.elim) ?_
  (apply hav_same (by simp only [List.getElem?_toArray, List.getElem?_cons_zero]; rfl) (by kernel_rfl); (focus (intro wv hgv _; have hcv : ∀ b o, b < _ → wv.cell? ⟨b, o, none⟩ = _ := fun b o hb => Below.cell hgv (p := ⟨b, o, none⟩) hb; (try go_simp); try rfl; done)); simp only [Act.put, List.setIfInBounds_toArray, List.set_cons_succ, List.set_cons_zero])
  iterate 4 (apply hav_same (by simp only [List.getElem?_toArray, List.getElem?_cons_succ, List.getElem?_cons_zero]; rfl) (by kernel_rfl); (focus (intro wv hgv _; have hcv : ∀ b o, b < _ → wv.cell? ⟨b, o, none⟩ = _ := fun b o hb => Below.cell hgv (p := ⟨b, o, none⟩) hb; (try go_simp); try rfl; done)); simp only [Act.put, List.setIfInBounds_toArray, List.set_cons_succ, List.set_cons_zero])
  (apply hav_same (by simp only [List.getElem?_toArray, List.getElem?_cons_succ, List.getElem?_cons_zero]; rfl) (by kernel_rfl); (focus (intro wv hgv _; exact exec_loadW 162 _ rfl rfl (cost_load (HG.out.below hgv HG.out.lt)))); simp only [Act.put, List.setIfInBounds_toArray, List.set_cons_succ, List.set_cons_zero])
  refine hav_end (fun w5 hgw5 _ => ?_); simp only [List.filterMap]; have hcw5 : ∀ b o, b < _ → w5.cell? ⟨b, o, none⟩ = _ := fun b o hb => Below.cell hgw5 (p := ⟨b, o, none⟩) hb; have hfw5 : ∀ b o, b < _ → w5.frozen? ⟨b, o, none⟩ = _ := fun b o hb => Below.frozen hgw5 (p := ⟨b, o, none⟩) hb; have hzw5 := Below.size hgw5; (try simp at hzw5)
  obtain ⟨w6, hrun, hM6, hg6, hz6, -⟩ := (HI.out.t.map.keep (hgw5.block r HI.out.t.map.lt)).store k HI.out.ko
  unfold keyV keyC at hrun
  have HT6 : Hid (Turn (fun b => b = r) V w6) := (Turn.of_below hgw5).trans (Turn.of_grown hg6 (fun x e _ => (Option.some.inj e).symm))
  have HI6 := Lib.hid (HI.out.keep ⟨HT6.out, fun _ => hM6⟩)
  have HG6 := Lib.hid (HG.out.turn HT6.out (fun e => hn e))
  have hR := setRow_blk HI6.out.hy (costA (kF c k))
  have hld := res_load (cost_load hR)
  clear hgw5 hcw5 hfw5 hM6 hg6 hz6 x0 x1 x2 xl t4 tl
  go_wp2_with (first | refine wpList_loadW 162 _ rfl rfl rfl (cost_load HG6.out) ?_ | refine wpList_storeW 162 _ _ rfl rfl rfl rfl (cost_store HI6.out.hy _) ?_)
  refine bodyPost_ret (v := costV (kF c k)) ?_ rfl ⟨rfl, HI6.out.fin _⟩
  simp [results, Try.results141, Act.put, hld]
/-- Bytes of a bale, as what it leads from. -/
def stepV (dr : Nat) (b : Bl) : Value := .iface 174 (.agg (baleC dr b true))
set_option maxRecDepth 100000 in
set_option maxHeartbeats 6400000 in
theorem to_t6 (hI : ToIn w V B d r ba bc c k x y) (hb : c.bl[k.n]? = some b) (hk : k.tk = full c.bl.length) {g9 g10 : Nat} (h9 : Blk V g9 174 (baleC c.drift b true)) (hg : Blk V g10 162 (costA (cI (ownC b true)))) (hn : g10 ≠ r) (h9n : g9 ≠ r) (hgw : w.heap.size ≤ g10) {fi be : Int} (hgy : g10 ≠ y ∧ g10 ≠ x)
    (hfi : fi = (firstK c k.back : Nat)) (IH : ¬ k.n = firstK c k.back → IntKind.i64.wrap ((k.n : Int) + be) = (aheadK k.back k.n : Nat) ∧ ∀ wv, TabIn wv B d r ba bc c →
      Calls Try.prog 141 #[.pointer (some ⟨d, 0, none⟩), .agg #[.int .u64 k.tk, .int .i64 (aheadK k.back k.n : Nat), .bool k.back]] wv fun e w' => e = .returned (costV (kF c ⟨k.tk, aheadK k.back k.n, k.back⟩)) ∧ (GK r (kF c)).G wv w')
    {s1 s2 s5 s6 s11 s12 s13 s14 s15 s16 s17 s18 s19 s20 s21 s22 s23 s24 s25 s26 s27 s28 s29 s30 s31 s32 s33 s34 s35 s36 s37 s38 s39 s40 s41 s42 s43 s44 s45 s46 s47 s48 s49 s50 s51 s52 s53 s54 s55 s56 s57 s58 s59 s60 s61 s62 s63 s64 s65 s66 s67 s68 : Value} :
    Code.wp Try.prog (toK 6) (bodyPost Try.prog Try.f141 (ToPost w r c k)) ⟨((.pointer (some ⟨d, 0, none⟩))::s1::s2::(.pointer (some ⟨x, 0, none⟩))::(.pointer (some ⟨y, 0, none⟩))::s5::s6::(.int .i64 fi)::(.int .i64 be)::(.pointer (some ⟨g9, 0, none⟩))::(.pointer (some ⟨g10, 0, none⟩))::s11::s12::s13::s14::s15::s16::s17::s18::s19::s20::s21::s22::s23::s24::s25::s26::s27::s28::s29::s30::s31::s32::s33::s34::s35::s36::s37::s38::s39::s40::s41::s42::s43::s44::s45::s46::s47::s48::s49::s50::s51::s52::s53::s54::s55::s56::s57::s58::s59::s60::s61::s62::s63::s64::s65::s66::s67::s68::[]).toArray, []⟩ V := by
  obtain ⟨tk, n, back⟩ := k
  have HI := Lib.hid hI
  have HG := Lib.hid hg
  have H9 := Lib.hid h9
  have HBL : Hid (c.bl[n]? = some b) := hb
  have HIH := Lib.hid IH
  have hx := hI.hx
  have x0 := hx.cell 0
  have x1 := hx.cell 1
  have x2 := hx.cell 2
  have xl := hx.lt
  simp [keyS] at x0 x1 x2
  clear hI hg hx h9 IH hb
  have HTK : Hid (tk = full c.bl.length) := hk
  have HGN : Hid (w.heap.size ≤ g10 ∧ g10 ≠ y ∧ g10 ≠ x ∧ g10 ≠ r ∧ g9 ≠ r) := ⟨hgw, hgy.1, hgy.2, hn, h9n⟩
  clear hk hgw hgy
  conv => arg 2; whnf
  conv => arg 2; arg 2; change toK 7
  by_cases hf : n = firstK c back
  · have hfn : ((n : Int) != fi) = false := by rw [hfi, ← hf]; simp
    have HE := Lib.hid (kF_first (tk := tk) (c := c) HBL.out hf)
    clear hf hfi HIH
    go_wp2_with fail
    exact to_t7 HI.out (by rw [HE.out]; exact HG.out) hn
  · have hfn : ((n : Int) != fi) = true := by rw [hfi]; simp; omega
    obtain ⟨hw, hcall⟩ := HIH.out hf
    obtain ⟨m, hm⟩ : ∃ m, aheadK back n = m := ⟨_, rfl⟩
    have HKS := Lib.hid (kF_step (tk := tk) (c := c) HBL.out hf)
    simp only at hw hcall
    rw [hm] at hw hcall HKS
    have HCL := Lib.hid hcall
    clear hf hfi HIH hcall hm
    go_upto_region 11 with (first | refine wpList_loadW 174 _ rfl rfl rfl (wide_load (cs := baleC c.drift b true) rfl H9.out Try.underlying174 size174) ?_)
    clear x0 x1 x2 xl hfn
    have hmf : ∀ (fn : Fn) (first cap : Array Value) (w : World), (Instr.makeFunc fn first cap).run Try.prog w = .ok (.func fn first cap) w := fun _ _ _ _ => rfl
    refine HavG.wp_region_stg (fun wv => (GK r (kF c)).G V wv) [(0,false),(1,false),(2,false),(3,false),(4,false),(5,false),(6,false),(7,false),(8,false),(9,false),(10,false),(12,false),(13,false),(14,false),(11,true),(15,true)] [16] (fun _ _ => False) (by kernel_rfl) (by kernel_rfl) (fun _ _ _ _ h => h.elim) ((GK r (kF c)).drew _) ?_
    (apply HavG.stg_same (by simp only [List.getElem?_toArray, List.getElem?_cons_zero]; rfl) (by kernel_rfl); (focus (intro wv hI; skip; (try go_simp); try rfl; done)); simp only [Act.put, List.setIfInBounds_toArray, List.set_cons_succ, List.set_cons_zero])
    iterate 10 (apply HavG.stg_same (by simp only [List.getElem?_toArray, List.getElem?_cons_succ, List.getElem?_cons_zero]; rfl) (by kernel_rfl); (focus (intro wv hI; have hx := HI.out.hx.turn hI.1 HI.out.xr; have x0 := hx.cell 0; have x1 := hx.cell 1; have x2 := hx.cell 2; have xl := hx.lt; (simp [keyS] at x0 x1 x2); clear hx hI; (try go_simp); try rfl; done)); simp only [Act.put, List.setIfInBounds_toArray, List.set_cons_succ, List.set_cons_zero])
    (apply HavG.stg_same (by simp only [List.getElem?_toArray, List.getElem?_cons_succ, List.getElem?_cons_zero]; rfl) (by kernel_rfl); (focus (intro wv hI; clear hI; (try go_simp); try rfl; done)); simp only [Act.put, List.setIfInBounds_toArray, List.set_cons_succ, List.set_cons_zero])
    (apply HavG.stg_same (by simp only [List.getElem?_toArray, List.getElem?_cons_succ, List.getElem?_cons_zero]; rfl) (by kernel_rfl); (focus (intro wv hI; exact exec_nil174 c.drift b wv rfl rfl)); simp only [Act.put, List.setIfInBounds_toArray, List.set_cons_succ, List.set_cons_zero])
    (apply HavG.stg_same (by simp only [List.getElem?_toArray, List.getElem?_cons_succ, List.getElem?_cons_zero]; rfl) (by kernel_rfl); (focus (intro wv hI; clear hI; (try go_simp); try rfl; done)); simp only [Act.put, List.setIfInBounds_toArray, List.set_cons_succ, List.set_cons_zero])
    (apply HavG.stg_call (by simp only [List.getElem?_toArray, List.getElem?_cons_succ, List.getElem?_cons_zero]; rfl) (by kernel_rfl); (focus (go_simp; try exact ⟨rfl, rfl⟩; done)))
    refine (HCL.out _ (HI.out.t.keep ((GK r (kF c)).drew _))).mono ?_
    rintro e v1 ⟨rfl, hg1⟩
    refine .inl ⟨_, rfl, (GK r (kF c)).trans ((GK r (kF c)).drew _) hg1, ?_⟩
    simp only [Act.put, List.setIfInBounds_toArray, List.set_cons_succ, List.set_cons_zero]
    obtain ⟨C, hC1, hC2⟩ := HKS.out
    have HG1 : Hid ((GK r (kF c)).G V v1) := (GK r (kF c)).trans ((GK r (kF c)).drew _) hg1
    have hfar : ∀ i, i < 31 → C i ≤ farC := fun i _ => by
      have h := (kF_far HI.out.t.ok ⟨tk, m, back⟩ i).2
      rw [hC1] at h
      unfold cI at h
      unfold farC
      omega
    rw [hC1]
    apply HavG.stg_call (by simp only [List.getElem?_toArray, List.getElem?_cons_succ, List.getElem?_cons_zero]; rfl) (by kernel_rfl) (exec_inv174 c.drift b _ _ rfl rfl rfl)
    refine (after_any c.drift HI.out.t.ok.dr b (HI.out.t.ok.bl b (List.mem_of_getElem? HBL.out)) C hfar v1).mono ?_
    rintro e v2 ⟨rfl, hb2⟩
    have HG2 : Hid ((GK r (kF c)).G V v2) := (GK r (kF c)).trans HG1.out (GK.below hb2)
    refine .inl ⟨_, rfl, HG2.out, ?_⟩
    simp only [Act.put, List.setIfInBounds_toArray, List.set_cons_succ, List.set_cons_zero]
    simp only [HavG.wpStg, List.filterMap]
    have HBG := HG.out.turn HG2.out.1 HGN.out.2.2.2.1
    refine wpList_storeW 162 10 61 rfl rfl rfl rfl (cost_store HBG _) ?_
    have HI2 := Lib.hid ((HI.out.keep HG2.out).set (costA (cI (plusC (driftC c.drift C) (ownC b true)))) HGN.out.1 HGN.out.2.2.1 HGN.out.2.1 HGN.out.2.2.2.1)
    have HBS := Lib.hid (setRow_blk HBG (costA (cI (plusC (driftC c.drift C) (ownC b true)))))
    clear hC1 hg1 hfar hb2 HBG
    go_wp2_with fail
    exact to_t7 HI2.out (by rw [hC2]; exact HBS.out) HGN.out.2.2.2.1

set_option maxRecDepth 100000 in
set_option maxHeartbeats 6400000 in
theorem to_t4 (hI : ToIn w V B d r ba bc c k x y) (hb : c.bl[k.n]? = some b) (hk : k.tk = full c.bl.length) {fi be : Int}
    (hfi : fi = (firstK c k.back : Nat)) (IH : ¬ k.n = firstK c k.back → IntKind.i64.wrap ((k.n : Int) + be) = (aheadK k.back k.n : Nat) ∧ ∀ wv, TabIn wv B d r ba bc c →
      Calls Try.prog 141 #[.pointer (some ⟨d, 0, none⟩), .agg #[.int .u64 k.tk, .int .i64 (aheadK k.back k.n : Nat), .bool k.back]] wv fun e w' => e = .returned (costV (kF c ⟨k.tk, aheadK k.back k.n, k.back⟩)) ∧ (GK r (kF c)).G wv w')
    {s1 s2 s5 s6 s9 s10 s11 s12 s13 s14 s15 s16 s17 s18 s19 s20 s21 s22 s23 s24 s25 s26 s27 s28 s29 s30 s31 s32 s33 s34 s35 s36 s37 s38 s39 s40 s41 s42 s43 s44 s45 s46 s47 s48 s49 s50 s51 s52 s53 s54 s55 s56 s57 s58 s59 s60 s61 s62 s63 s64 s65 s66 s67 s68 : Value} :
    Code.wp Try.prog (toK 4) (bodyPost Try.prog Try.f141 (ToPost w r c k)) ⟨((.pointer (some ⟨d, 0, none⟩))::s1::s2::(.pointer (some ⟨x, 0, none⟩))::(.pointer (some ⟨y, 0, none⟩))::s5::s6::(.int .i64 fi)::(.int .i64 be)::s9::s10::s11::s12::s13::s14::s15::s16::s17::s18::s19::s20::s21::s22::s23::s24::s25::s26::s27::s28::s29::s30::s31::s32::s33::s34::s35::s36::s37::s38::s39::s40::s41::s42::s43::s44::s45::s46::s47::s48::s49::s50::s51::s52::s53::s54::s55::s56::s57::s58::s59::s60::s61::s62::s63::s64::s65::s66::s67::s68::[]).toArray, []⟩ V := by
  have HI := Lib.hid hI
  have HBL := Lib.hid hb
  have HFI := Lib.hid hfi
  have HIH := Lib.hid IH
  have HTK := Lib.hid hk
  have HBK : Hid (BlOk b) := hI.t.ok.bl b (List.mem_of_getElem? hb)
  have hx := hI.hx
  have x0 := hx.cell 0
  have x1 := hx.cell 1
  have x2 := hx.cell 2
  have xl := hx.lt
  simp [keyS] at x0 x1 x2
  clear hI hb hfi IH hk hx
  conv => arg 2; whnf
  conv => arg 2; arg 2; arg 2; change toK 6
  go_wp2_with fail
  have hq := step_any V HI.out.t HBL.out
  rw [← HTK.out] at hq
  refine hq.mono ?_
  rintro e w2 ⟨rfl, hb2⟩
  have hA : Blk (w2.alloc (.cells #[.int .i64 0, .int .i64 0, .int .i64 0, .int .i64 0, .bool false] 174)) w2.heap.size 174 #[.int .i64 0, .int .i64 0, .int .i64 0, .int .i64 0, .bool false] := Blk.new _ _ _
  have hst := wide_store (cs := baleC c.drift b true) hA size174 rfl rfl (by simp [baleC, Value.oneCell'])
  obtain ⟨W2, hW2⟩ : ∃ x, x = (w2.alloc (.cells #[.int .i64 0, .int .i64 0, .int .i64 0, .int .i64 0, .bool false] 174)).setRow w2.heap.size (baleC c.drift b true) := ⟨_, rfl⟩
  have HB2 : Hid (Below V.heap.size V W2) := by show Below _ _ _; rw [hW2]; exact below_setRow (hb2.alloc hb2.size _) hb2.size _
  have HG9 : Hid (Blk W2 w2.heap.size 174 (baleC c.drift b true)) := by rw [hW2]; exact setRow_blk hA _
  have HN9 : Hid (V.heap.size ≤ w2.heap.size) := hb2.size
  rw [← hW2] at hst
  clear hq hA hW2 hb2 x0 x1 x2 xl
  go_wp2_with (first | refine wpList_storeW 174 _ _ rfl rfl rfl rfl hst ?_ | refine wpList_loadW 174 _ rfl rfl rfl (wide_load (cs := baleC c.drift b true) rfl HG9.out Try.underlying174 size174) ?_)
  refine (own_any c.drift b HBK.out W2).mono ?_
  rintro e w3 ⟨rfl, hb3⟩
  have hst3 := cost_store (Blk.new w3 162 (costA fun _ => 0)) (cI (ownC b true))
  obtain ⟨W3, hW3⟩ : ∃ x, x = (w3.alloc (.cells (costA fun _ => 0) 162)).setRow w3.heap.size (costA (cI (ownC b true))) := ⟨_, rfl⟩
  have HB3 : Hid (Below W2.heap.size W2 W3) := by show Below _ _ _; rw [hW3]; exact below_setRow (hb3.alloc hb3.size _) hb3.size _
  have HG10 : Hid (Blk W3 w3.heap.size 162 (costA (cI (ownC b true)))) := by rw [hW3]; exact setRow_blk (Blk.new w3 162 _) _
  have HN10 : Hid (W2.heap.size ≤ w3.heap.size) := hb3.size
  rw [← hW3] at hst3
  have hz := Try.zero162
  unfold costV at hz
  clear hW3 hb3 hst
  go_wp2_with (first | refine wpList_storeW 162 _ _ rfl rfl rfl rfl hst3 ?_)
  have HB13 : Hid (Below V.heap.size V W3) := HB2.out.trans (HB3.out.mono HB2.out.size)
  have h1 := HI.out.hx.lt
  have h2 := HI.out.hy.lt
  have h3 := HI.out.t.map.lt
  have h4 := HI.out.g.1.size
  have h5 := HB2.out.size
  have h6 := HN9.out
  have h7 := HN10.out
  exact to_t6 (HI.out.below HB13.out) HBL.out HTK.out (HG9.out.below HB3.out HG9.out.lt) HG10.out (by omega) (by omega) (by omega) ⟨by omega, by omega⟩ HFI.out HIH.out
end
end Go.Proofs.Ytbfjebglaimcmaa
