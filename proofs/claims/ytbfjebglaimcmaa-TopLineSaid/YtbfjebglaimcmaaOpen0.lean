/- The shed's own copy of the fleeces: make and copy of a slice of structs; condition: few of them. The walk of open, where the press is not valid: it panics. Where it is: the shed, if what else is asked is so. The walk of open, where a fleece is not valid. The walk of open, where all fleeces are valid, and a bale that was weighed is not. -/
import Derived.Test.YtbfjebglaimcmaaDesk4
import Derived.Laws.CopyOwn
namespace Go.Proofs.Ytbfjebglaimcmaa
open Go.RowKit Go.Hav
theorem Try.infoE58 : (Try.prog.info? 58).map (fun i => (i.zero, i.size, i.bytes)) = some (some (.agg #[.int .i64 0, .int .i64 0, .int .i64 0]), 3, 24) := by kernel_rfl
def zeroFl (n : Nat) : Array Value := madeCells #[.int .i64 0, .int .i64 0, .int .i64 0] (n * 3)
theorem make_fl (n : Nat) (hn : n ≤ 1000) (w : World) : (Instr.makeSlice 22 (.int .i64 (n : Int)) (.int .i64 (n : Int))).run Try.prog w = .ok (.slice (some ⟨w.heap.size, 0, none⟩) n n) (w.alloc (.cells (zeroFl n) 58)) := by
  obtain ⟨i, hi, hz0, hz1, hz2⟩ := info_parts Try.infoE58
  have hr := run_make (P := Try.prog) w 22 58 i _ Try.underlying22 hi hz0 .i64 .i64 n n (by omega) (by omega) (by rw [hz2]; omega) (by omega)
  simp only [Int.toNat_natCast, hz1] at hr
  rw [hr]
  rfl
theorem copy_rows {P : Program} (W : World) (dT ty elem : TypeId) (t : TypeId) {α : Type} {f : α → List Value} {sz : Nat} (hsz : ∀ x, (f x).length = sz) (h0 : 0 < sz) (h1 : ∀ x, ∀ v ∈ f x, v.oneCell' = true) (hu : P.underlying dT = some (.slice elem)) (hs : (P.info? elem).map (·.size) = some sz)
    {g n cap B : Nat} {A : Option Addr} {l : List α} {old : Array Value} (hl : l.length = n) (ho : old.size = n * sz) (hb : Blk W g t old) (hr : RdG f sz W B A l) :
    ∃ w1, (Builtin.copy_ #[dT, dT] ty #[.slice (some ⟨g, 0, none⟩) n n, .slice A n cap]).run P W = .ok (.int .i64 n) w1 ∧ Blk w1 g t (l.flatMap f).toArray ∧ Below g W w1 := by
  cases hq : P.info? elem with
  | none => simp [hq] at hs
  | some i =>
    have hi : i.size = sz := by simpa [hq] using hs
    have hlen : (l.flatMap f).length = n * sz := by rw [flat_len f sz hsz, hl]
    by_cases hn : n = 0
    · subst hn
      obtain rfl := List.length_eq_zero_iff.1 hl
      have ho' : old = #[] := Array.eq_empty_of_size_eq_zero (by rw [ho, Nat.zero_mul])
      refine ⟨W, ?_, by subst ho'; exact hb, Below.refl _ _⟩
      cases A with
      | none => simp [Builtin.copy_, run_underlying hu, Builtin.lenOf, Builtin.firstCells, sizeOf, typeInfo, hq, storeCells, goInt]
      | some a =>
        have hl0 := run_loadCells_list (P := P) W a [] (fun j v h => by simp at h)
        simp only [List.length_nil] at hl0
        simp [Builtin.copy_, run_underlying hu, Builtin.lenOf, Builtin.firstCells, sizeOf, typeInfo, hq, storeCells, goInt, hl0]
    · obtain ⟨b, off, rfl, _, _⟩ := hr 0 (l[0]'(by omega)) (by simp)
      have hld := run_loadCells_list (P := P) W ⟨b, off, none⟩ (l.flatMap f) (hr.news hsz h0)
      have hst := run_storeCells_at P g 0 t (l.flatMap f) 0 old W hb (by rw [hlen, ho]; omega) (fun v hv => by
        obtain ⟨x, _, hx⟩ := List.mem_flatMap.1 hv
        exact h1 x v hx)
      rw [hlen] at hld hst
      simp only [Nat.zero_add, List.take_zero, List.nil_append] at hst
      rw [List.drop_of_length_le (by simp [ho]), List.append_nil] at hst
      refine ⟨_, ?_, setRow_heap W g old (l.flatMap f).toArray t (0, 0) hb, below_setRow (Below.refl _ _) (Nat.le_refl _) _⟩
      have hmin : Nat.min n n = n := Nat.min_self n
      simp [Builtin.copy_, run_underlying hu, Builtin.lenOf, Builtin.firstCells, sizeOf, typeInfo, hq, hi, goInt, hmin, hld, hst]
theorem copy_fl {W : World} {g n cap B : Nat} {A : Option Addr} {l : List Fl} (ty : TypeId) (hl : l.length = n) (hb : Blk W g 58 (zeroFl n)) (hr : RdG flF 3 W B A l) :
    ∃ w1, (Builtin.copy_ #[22, 22] ty #[.slice (some ⟨g, 0, none⟩) n n, .slice A n cap]).run Try.prog W = .ok (.int .i64 n) w1 ∧ Blk w1 g 58 (l.flatMap flF).toArray ∧ Below g W w1 :=
  copy_rows W 22 ty 58 58 flF_len (by decide) (fun x v hv => by
    simp only [flF, List.mem_cons, List.not_mem_nil, or_false] at hv
    rcases hv with rfl | rfl | rfl <;> rfl) Try.underlying22 (by kernel_rfl) hl (by simp [zeroFl, size_madeCells]) hb hr
/-- A block that holds just the list. -/
theorem rd_blk {α : Type} {f : α → List Value} {sz : Nat} (hsz : ∀ x, (f x).length = sz) {w : World} {g : Nat} {t : TypeId} {l : List α} (h : Blk w g t (l.flatMap f).toArray) : RdG f sz w (g + 1) (some ⟨g, 0, none⟩) l := fun k x hx => by
  refine ⟨g, 0, rfl, by omega, fun i u hu => ?_⟩
  have hi : i < sz := by rw [← hsz x]; exact (List.getElem?_eq_some_iff.1 hu).1
  rw [Nat.zero_add, h.cell, List.getElem?_toArray, flat_get f sz hsz l k i hi, hx]
  exact hu
end Go.Proofs.Ytbfjebglaimcmaa
namespace Go.Proofs.Ytbfjebglaimcmaa
open Go.RowKit Go.Hav
section
variable {low top bales : Int} {fa wa : Option Addr} {fl fc wl wc : Nat} {p : PressD}
set_option maxRecDepth 100000 in
set_option maxHeartbeats 800000 in
theorem open_head1 (v : Value) (h1 : ¬ fl ≤ 10) (m : fl ≤ 9223372036854775807) (w : World) :
    Calls Try.prog 55 #[pressV fa fl fc low top bales wa wl wc, v] w fun e w' => e = .panicked [refE 1] ∧ Below w.heap.size w w' := by
  have hd : decide ((fl : Int) ≤ 10) = false := by simp; omega
  unfold pressV
  go_enter Try.func55, Try.ntmps55
  go_wp2_with (go_at_call 104; refine (within_any _ _ _ _).mono ?_; rintro e w' ⟨rfl, rfl⟩)
  refine (ask_any false 1 _).mono ?_
  rintro e w' ⟨h1, rfl⟩
  obtain rfl : e = .panicked [refE 1] := h1
  go_wp2
  exact ⟨rfl, rfl, (by repeat (first | exact Below.refl _ _ | assumption | refine Below.drew ?_ | refine below_drewN ?_ _ | refine Below.alloc ?_ (by (try simp) <;> omega) _ | refine Below.setCell ?_ (by (try simp) <;> omega) _ | refine Below.trans ?_ (Below.mono (by assumption) (by (try simp) <;> omega))))⟩
set_option maxRecDepth 100000 in
set_option maxHeartbeats 800000 in
theorem open_head2 (v : Value) (h1 : fl ≤ 10) (h2 : inB low 1 200 = false) (w : World) :
    Calls Try.prog 55 #[pressV fa fl fc low top bales wa wl wc, v] w fun e w' => e = .panicked [refE 1] ∧ Below w.heap.size w w' := by
  unfold pressV
  go_enter Try.func55, Try.ntmps55
  go_wp2_with (go_at_call 104; refine (within_any _ _ _ _).mono ?_; rintro e w' ⟨rfl, rfl⟩)
  refine (ask_any false 1 _).mono ?_
  rintro e w' ⟨h1, rfl⟩
  obtain rfl : e = .panicked [refE 1] := h1
  go_wp2
  exact ⟨rfl, rfl, (by repeat (first | exact Below.refl _ _ | assumption | refine Below.drew ?_ | refine below_drewN ?_ _ | refine Below.alloc ?_ (by (try simp) <;> omega) _ | refine Below.setCell ?_ (by (try simp) <;> omega) _ | refine Below.trans ?_ (Below.mono (by assumption) (by (try simp) <;> omega))))⟩
set_option maxRecDepth 100000 in
set_option maxHeartbeats 800000 in
theorem open_head3 (v : Value) (h1 : fl ≤ 10) (h2 : inB low 1 200 = true) (h3 : inB top low 200 = false) (w : World) :
    Calls Try.prog 55 #[pressV fa fl fc low top bales wa wl wc, v] w fun e w' => e = .panicked [refE 1] ∧ Below w.heap.size w w' := by
  unfold pressV
  go_enter Try.func55, Try.ntmps55
  go_wp2_with (go_at_call 104; refine (within_any _ _ _ _).mono ?_; rintro e w' ⟨rfl, rfl⟩)
  refine (ask_any false 1 _).mono ?_
  rintro e w' ⟨h1, rfl⟩
  obtain rfl : e = .panicked [refE 1] := h1
  go_wp2
  exact ⟨rfl, rfl, (by repeat (first | exact Below.refl _ _ | assumption | refine Below.drew ?_ | refine below_drewN ?_ _ | refine Below.alloc ?_ (by (try simp) <;> omega) _ | refine Below.setCell ?_ (by (try simp) <;> omega) _ | refine Below.trans ?_ (Below.mono (by assumption) (by (try simp) <;> omega))))⟩
set_option maxRecDepth 100000 in
set_option maxHeartbeats 800000 in
theorem open_head4 (v : Value) (h1 : fl ≤ 10) (h2 : inB low 1 200 = true) (h3 : inB top low 200 = true) (h4 : inB bales 0 5 = false) (w : World) :
    Calls Try.prog 55 #[pressV fa fl fc low top bales wa wl wc, v] w fun e w' => e = .panicked [refE 1] ∧ Below w.heap.size w w' := by
  unfold pressV
  go_enter Try.func55, Try.ntmps55
  go_wp2_with (go_at_call 104; refine (within_any _ _ _ _).mono ?_; rintro e w' ⟨rfl, rfl⟩)
  refine (ask_any false 1 _).mono ?_
  rintro e w' ⟨h1, rfl⟩
  obtain rfl : e = .panicked [refE 1] := h1
  go_wp2
  exact ⟨rfl, rfl, (by repeat (first | exact Below.refl _ _ | assumption | refine Below.drew ?_ | refine below_drewN ?_ _ | refine Below.alloc ?_ (by (try simp) <;> omega) _ | refine Below.setCell ?_ (by (try simp) <;> omega) _ | refine Below.trans ?_ (Below.mono (by assumption) (by (try simp) <;> omega))))⟩
set_option maxRecDepth 100000 in
set_option maxHeartbeats 800000 in
theorem open_head5 (v : Value) (h1 : fl ≤ 10) (h2 : inB low 1 200 = true) (h3 : inB top low 200 = true) (h4 : inB bales 0 5 = true) (h5 : ¬ wl ≤ 4) (m : wl ≤ 9223372036854775807) (w : World) :
    Calls Try.prog 55 #[pressV fa fl fc low top bales wa wl wc, v] w fun e w' => e = .panicked [refE 1] ∧ Below w.heap.size w w' := by
  have hd : decide ((wl : Int) ≤ 4) = false := by simp; omega
  unfold pressV
  go_enter Try.func55, Try.ntmps55
  go_wp2_with (go_at_call 104; refine (within_any _ _ _ _).mono ?_; rintro e w' ⟨rfl, rfl⟩)
  refine (ask_any false 1 _).mono ?_
  rintro e w' ⟨h1, rfl⟩
  obtain rfl : e = .panicked [refE 1] := h1
  go_wp2
  exact ⟨rfl, rfl, (by repeat (first | exact Below.refl _ _ | assumption | refine Below.drew ?_ | refine below_drewN ?_ _ | refine Below.alloc ?_ (by (try simp) <;> omega) _ | refine Below.setCell ?_ (by (try simp) <;> omega) _ | refine Below.trans ?_ (Below.mono (by assumption) (by (try simp) <;> omega))))⟩
end
end Go.Proofs.Ytbfjebglaimcmaa
namespace Go.Proofs.Ytbfjebglaimcmaa
open Go.RowKit Go.Hav
theorem take_all_succ {α : Type} (f : α → Bool) (l : List α) (k : Nat) (x : α) (h : l[k]? = some x) : (l.take (k + 1)).all f = ((l.take k).all f && f x) := by
  rw [List.take_add_one, h]
  simp
section
variable {low top bales : Int} {fa wa : Option Addr} {fl fc wl wc : Nat} {p : PressD}
/-- The shed's cells, as open makes them. -/
def shedCs (fa : Option Addr) (fl fc : Nat) (low top bales : Int) (wa : Option Addr) (wl wc : Nat) (sv : Value) (r : Nat) : Array Value :=
  #[.slice fa fl fc, .int .i64 low, .int .i64 top, .int .i64 bales, .slice wa wl wc, sv, .map (some r)]
theorem shed_mk {w wq : World} {B d r : Nat} {ga : Option Addr} {gc : Nat} {sv : Value} (hk : Blk wq d 132 (shedCs ga fl gc low top bales wa wl wc sv r)) (hg : RdG flF 3 wq B ga p.fl) (hP : PressIn w w.heap.size fa fl low top bales wa wl p) (hb : Below w.heap.size w wq) (h1 : w.heap.size ≤ B) (h2 : d < B) (h3 : B ≤ wq.heap.size) :
    ShedIn wq B d ga fl gc low top bales wa wl wc p :=
  ⟨h3, h2, hk.cell 0, hk.cell 1, hk.cell 2, hk.cell 3, hk.cell 4, ⟨hP.elow, hP.etop, hP.ebales, hP.efl, hP.ewl, hP.mfl, hP.mwl, hg, (hP.hwl.below hb).more h1⟩⟩
set_option maxRecDepth 100000 in
set_option maxHeartbeats 6400000 in
theorem open_fl (v : Value) (g1 : 1 ≤ low) (g2 : low ≤ 200) (g3 : low ≤ top) (g4 : top ≤ 200) (g5 : 0 ≤ bales) (g6 : bales ≤ 5) (h1 : fl ≤ 10) (h6 : wl ≤ 4) (w : World) (hP : PressIn w w.heap.size fa fl low top bales wa wl p) (hbad : p.fl.all PressD.flB = false) :
    Calls Try.prog 55 #[pressV fa fl fc low top bales wa wl wc, v] w fun e w' => e = .panicked [refE 1] ∧ Below w.heap.size w w' := by
  have HF := Lib.hid hbad
  clear hbad
  have HP := Lib.hid hP
  have HE := Lib.hid hP.efl
  have HE2 := Lib.hid hP.ewl
  have HN : Hid (p.n = fl) := hP.efl
  have h2 : inB low 1 200 = true := by simp [inB]; omega
  have h3 : inB top low 200 = true := by simp [inB]; omega
  have h4 : inB bales 0 5 = true := by simp [inB]; omega
  have hd : decide ((wl : Int) ≤ 4) = true := by simp; omega
  have hmm := @run_makeMap Try.prog
  have hmk := make_fl fl (by omega)
  obtain ⟨w1, hcp, hb1, hw1⟩ := copy_fl (W := (w.alloc (Obj.cells #[Value.slice fa fl fc, Value.int IntKind.i64 low, Value.int IntKind.i64 top, Value.int IntKind.i64 bales, Value.slice wa wl wc] 25)).alloc (.cells (zeroFl fl) 58)) (cap := fc) 3 HE.out (Blk.new_ (g := w.heap.size + 1) (by simp) _ _) (HP.out.hfl.below (((Below.refl w.heap.size w).alloc (by simp) _).alloc (by simp) _))
  have HK1 := Lib.hid hb1
  have HB1 : Hid (Below w.heap.size w w1) := (((Below.refl w.heap.size w).alloc (by simp) _).alloc (by simp) _).trans (hw1.mono (by omega))
  have HBX : Hid (Blk w1 w.heap.size 25 #[.slice fa fl fc, .int .i64 low, .int .i64 top, .int .i64 bales, .slice wa wl wc]) := ((Blk.new_ rfl 25 _).alloc _).below hw1 (by omega)
  have l1 := hb1.lt
  have f5 : fl ≤ 9223372036854775807 := by omega
  clear hP hb1 hw1
  unfold pressV
  go_enter Try.func55, Try.ntmps55
  go_wp2_with (go_at_call 104; refine (within_any _ _ _ _).mono ?_; rintro e w' ⟨rfl, rfl⟩)
  refine (ask_any true 1 _).mono ?_
  rintro e w' ⟨q1, rfl⟩
  obtain rfl : e = .returned (.tuple #[]) := q1
  go_wp2
  clear hcp hmk
  go_loopw [51] (fun i wr => ∃ k : Nat, k ≤ fl ∧ i = .int .i64 k ∧ Hid ((p.fl.take k).all PressD.flB = true) ∧ Below (w.heap.size + 2) w1 wr) (fun i _ => fl - (intOf i).toNat)
  case atStart => exact ⟨0, Nat.zero_le _, rfl, by show _ = _; simp, Below.refl _ _⟩
  case round =>
    obtain ⟨k, hk, rfl, HA, hb⟩ := hrel
    have HBR := Lib.hid hb
    have hsz := hb.size
    have HBW : Hid (Below w.heap.size w wr) := HB1.out.trans (hb.mono (by omega))
    clear hb
    by_cases hlt : k < fl
    · obtain ⟨c, hc⟩ : ∃ c, p.fl[k]? = some c := ⟨p.fl[k]'(by have := HE.out; omega), by simp⟩
      have HS := Lib.hid (take_all_succ PressD.flB p.fl k c hc)
      obtain ⟨b, off, hbo, hbl, H0, H1, H2⟩ := rd_fl ((rd_blk flF_len HK1.out).below (HBR.out.mono (by omega))) k c hc
      obtain ⟨rfl, rfl⟩ : b = w.heap.size + 1 ∧ off = 0 := by injection hbo with hbo; injection hbo with e1 e2; exact ⟨e1.symm, e2.symm⟩
      simp only [Nat.zero_add] at H0 H1 H2
      have hq0 : w.heap.size + 1 < wr.heap.size := by omega
      obtain ⟨⟨c0, c1⟩, cl⟩ := c
      simp only at H0 H1 H2
      clear hc hbo hbl
      have HBD : Hid (Below w.heap.size w (wr.alloc (.cells #[.int .i64 c0, .int .i64 c1, .int .i64 cl] 58))) := HBW.out.alloc (by have := HBW.out.size; omega) _
      go_wp2_with fail
      refine (isIn_any ⟨c0, c1⟩ 1 20 _).mono ?_
      cases hsp : spanB ⟨c0, c1⟩ 1 20
      · rintro e w3 ⟨rfl, hbw3⟩; obtain ⟨hcw3, hfw3⟩ := bcell hbw3; have hzw3 := hbw3.size; (try simp at hzw3)
        go_wp2_with fail
        refine (ask_any false 1 _).mono ?_
        rintro e w' ⟨q2, rfl⟩
        obtain rfl : e = .panicked [refE 1] := q2
        go_wp2
        exact ⟨rfl, rfl, HBD.out.trans (hbw3.mono HBD.out.size)⟩
      · obtain ⟨s0, s1, s2⟩ := spanB_iff.1 hsp
        simp only at s0 s1 s2
        rintro e w3 ⟨rfl, hbw3⟩; obtain ⟨hcw3, hfw3⟩ := bcell hbw3; have hzw3 := hbw3.size; (try simp at hzw3)
        cases hdd : decide (c1 - c0 ≤ 3)
        · have hdn : ¬ c1 - c0 ≤ 3 := by simpa using hdd
          go_wp2_with fail
          refine (ask_any false 1 _).mono ?_
          rintro e w' ⟨q2, rfl⟩
          obtain rfl : e = .panicked [refE 1] := q2
          go_wp2
          exact ⟨rfl, rfl, HBD.out.trans (hbw3.mono HBD.out.size)⟩
        · have hdn : c1 - c0 ≤ 3 := by simpa using hdd
          go_wp2_with fail
          refine (within_any cl 0 2 _).mono ?_
          cases hln : inB cl 0 2
          · rintro e w' ⟨rfl, rfl⟩
            go_wp2_with fail
            refine (ask_any false 1 _).mono ?_
            rintro e w' ⟨q2, rfl⟩
            obtain rfl : e = .panicked [refE 1] := q2
            go_wp2
            exact ⟨rfl, rfl, HBD.out.trans (hbw3.mono HBD.out.size)⟩
          · have HOK : Hid (PressD.flB ⟨⟨c0, c1⟩, cl⟩ = true) := by show _ = _; simp [PressD.flB, hsp, hln]; omega
            have HG3 : Hid (Below (w.heap.size + 2) w1 w3) := (HBR.out.alloc (by omega) _).trans (hbw3.mono (by simp; omega))
            rintro e w' ⟨rfl, rfl⟩
            go_wp2_with fail
            refine (ask_any true 1 _).mono ?_
            rintro e w' ⟨q2, rfl⟩
            obtain rfl : e = .returned (.tuple #[]) := q2
            go_wp2
            go_roundw
            case rel => exact ⟨k + 1, by omega, by go_num, by show _ = _; rw [HS.out, HA.out, HOK.out]; rfl, HG3.out⟩
            case measure => simp [intOf]; omega
    · have h := HA.out
      rw [List.take_of_length_le (by have := HE.out; omega), HF.out] at h
      cases h
end
end Go.Proofs.Ytbfjebglaimcmaa
namespace Go.Proofs.Ytbfjebglaimcmaa
open Go.RowKit Go.Hav
theorem used_small {p : PressD} (hn : p.n ≤ 10) : ∀ {k : Nat}, (List.range k).all p.baB = true → p.used k < 1024 := by
  intro k
  induction k with
  | zero => intro _; simp [PressD.used]
  | succ k ih =>
    intro h
    rw [List.range_succ, List.all_append] at h
    simp only [Bool.and_eq_true, List.all_cons, List.all_nil, Bool.and_true] at h
    have h1 := ih h.1
    have h2 := h.2
    simp only [PressD.baB, PressD.setB, Bool.and_eq_true, inB_iff, decide_eq_true_eq] at h2
    have h3 : p.bs k ≤ full p.n := by unfold PressD.bs; omega
    have h4 := Nat.pow_le_pow_right (n := 2) (by omega) hn
    have h5 := le_full.1 h3
    exact Nat.or_lt_two_pow (n := 10) h1 (by omega)
section
variable {low top bales : Int} {fa wa : Option Addr} {fl fc wl wc : Nat} {p : PressD}
set_option maxRecDepth 100000 in
set_option maxHeartbeats 6400000 in
theorem open_ba (v : Value) (g1 : 1 ≤ low) (g2 : low ≤ 200) (g3 : low ≤ top) (g4 : top ≤ 200) (g5 : 0 ≤ bales) (g6 : bales ≤ 5) (h1 : fl ≤ 10) (h6 : wl ≤ 4) (w : World) (hP : PressIn w w.heap.size fa fl low top bales wa wl p) (hgood : p.fl.all PressD.flB = true) (hbad : (List.range p.weighed.length).all p.baB = false) :
    Calls Try.prog 55 #[pressV fa fl fc low top bales wa wl wc, v] w fun e w' => e = .panicked [refE 1] ∧ Below w.heap.size w w' := by
  have HF := Lib.hid hgood
  have HW := Lib.hid hbad
  clear hgood hbad
  have HP := Lib.hid hP
  have HE := Lib.hid hP.efl
  have HE2 := Lib.hid hP.ewl
  have HN : Hid (p.n = fl) := hP.efl
  have h2 : inB low 1 200 = true := by simp [inB]; omega
  have h3 : inB top low 200 = true := by simp [inB]; omega
  have h4 : inB bales 0 5 = true := by simp [inB]; omega
  have hd : decide ((wl : Int) ≤ 4) = true := by simp; omega
  have hmm := @run_makeMap Try.prog
  have hmk := make_fl fl (by omega)
  obtain ⟨w1, hcp, hb1, hw1⟩ := copy_fl (W := (w.alloc (Obj.cells #[Value.slice fa fl fc, Value.int IntKind.i64 low, Value.int IntKind.i64 top, Value.int IntKind.i64 bales, Value.slice wa wl wc] 25)).alloc (.cells (zeroFl fl) 58)) (cap := fc) 3 HE.out (Blk.new_ (g := w.heap.size + 1) (by simp) _ _) (HP.out.hfl.below (((Below.refl w.heap.size w).alloc (by simp) _).alloc (by simp) _))
  have HK1 := Lib.hid hb1
  have HB1 : Hid (Below w.heap.size w w1) := (((Below.refl w.heap.size w).alloc (by simp) _).alloc (by simp) _).trans (hw1.mono (by omega))
  have HBX : Hid (Blk w1 w.heap.size 25 #[.slice fa fl fc, .int .i64 low, .int .i64 top, .int .i64 bales, .slice wa wl wc]) := ((Blk.new_ rfl 25 _).alloc _).below hw1 (by omega)
  have l1 := hb1.lt
  have f5 : fl ≤ 9223372036854775807 := by omega
  clear hP hb1 hw1
  unfold pressV
  go_enter Try.func55, Try.ntmps55
  go_wp2_with (go_at_call 104; refine (within_any _ _ _ _).mono ?_; rintro e w' ⟨rfl, rfl⟩)
  refine (ask_any true 1 _).mono ?_
  rintro e w' ⟨q1, rfl⟩
  obtain rfl : e = .returned (.tuple #[]) := q1
  go_wp2
  clear hcp hmk
  go_loopw [51] (fun i wr => ∃ k : Nat, k ≤ fl ∧ i = .int .i64 k ∧ Hid ((p.fl.take k).all PressD.flB = true) ∧ Below (w.heap.size + 2) w1 wr) (fun i _ => fl - (intOf i).toNat)
  case atStart => exact ⟨0, Nat.zero_le _, rfl, by show _ = _; simp, Below.refl _ _⟩
  case round =>
    obtain ⟨k, hk, rfl, HA, hb⟩ := hrel
    have HBR := Lib.hid hb
    have hsz := hb.size
    have HBW : Hid (Below w.heap.size w wr) := HB1.out.trans (hb.mono (by omega))
    clear hb
    by_cases hlt : k < fl
    · obtain ⟨c, hc⟩ : ∃ c, p.fl[k]? = some c := ⟨p.fl[k]'(by have := HE.out; omega), by simp⟩
      have HS := Lib.hid (take_all_succ PressD.flB p.fl k c hc)
      obtain ⟨b, off, hbo, hbl, H0, H1, H2⟩ := rd_fl ((rd_blk flF_len HK1.out).below (HBR.out.mono (by omega))) k c hc
      obtain ⟨rfl, rfl⟩ : b = w.heap.size + 1 ∧ off = 0 := by injection hbo with hbo; injection hbo with e1 e2; exact ⟨e1.symm, e2.symm⟩
      simp only [Nat.zero_add] at H0 H1 H2
      have hq0 : w.heap.size + 1 < wr.heap.size := by omega
      obtain ⟨⟨c0, c1⟩, cl⟩ := c
      simp only at H0 H1 H2
      have HC := Lib.hid hc
      clear hc hbo hbl
      have HOK : Hid (PressD.flB ⟨⟨c0, c1⟩, cl⟩ = true) := List.all_eq_true.1 HF.out _ (List.mem_of_getElem? HC.out)
      obtain ⟨⟨hsp, hdd⟩, hln⟩ : (spanB ⟨c0, c1⟩ 1 20 = true ∧ decide (c1 - c0 ≤ 3) = true) ∧ inB cl 0 2 = true := by
        have h := HOK.out
        simp only [PressD.flB, Bool.and_eq_true] at h
        exact h
      obtain ⟨s0, s1, s2⟩ := spanB_iff.1 hsp
      simp only at s0 s1 s2
      go_wp2_with fail
      refine (isIn_any ⟨c0, c1⟩ 1 20 _).mono ?_
      rw [hsp]
      rintro e w3 ⟨rfl, hbw3⟩; obtain ⟨hcw3, hfw3⟩ := bcell hbw3; have hzw3 := hbw3.size; (try simp at hzw3)
      have HG3 : Hid (Below (w.heap.size + 2) w1 w3) := (HBR.out.alloc (by omega) _).trans (hbw3.mono (by simp; omega))
      go_wp2_with fail
      refine (within_any cl 0 2 _).mono ?_
      rw [hln]
      rintro e w' ⟨rfl, rfl⟩
      go_wp2_with fail
      refine (ask_any true 1 _).mono ?_
      rintro e w' ⟨q2, rfl⟩
      obtain rfl : e = .returned (.tuple #[]) := q2
      go_wp2
      go_roundw
      case rel => exact ⟨k + 1, by omega, by go_num, by show _ = _; rw [HS.out, HA.out, HOK.out]; rfl, HG3.out⟩
      case measure => simp [intOf]; omega
    · obtain rfl : fl = k := by omega
      obtain ⟨wo, rfl⟩ : ∃ wo : World, wo = wr := ⟨_, rfl⟩
      have x0 : wo.cell? ⟨w.heap.size, 0, none⟩ = some (.slice fa fl fc) := (HBX.out.below HBR.out (by omega)).cell 0
      have x1 : wo.cell? ⟨w.heap.size, 1, none⟩ = some (.int .i64 low) := (HBX.out.below HBR.out (by omega)).cell 1
      have x2 : wo.cell? ⟨w.heap.size, 2, none⟩ = some (.int .i64 top) := (HBX.out.below HBR.out (by omega)).cell 2
      have x3 : wo.cell? ⟨w.heap.size, 3, none⟩ = some (.int .i64 bales) := (HBX.out.below HBR.out (by omega)).cell 3
      have x4 : wo.cell? ⟨w.heap.size, 4, none⟩ = some (.slice wa wl wc) := (HBX.out.below HBR.out (by omega)).cell 4
      have hq0 : w.heap.size < wo.heap.size := by omega
      go_wp2
      obtain ⟨Wd, HWD⟩ : ∃ Wd, Hid (Wd = (wo.alloc (.map #[] 0)).alloc (.cells (shedCs (some ⟨w.heap.size + 1, 0, none⟩) fl fl low top bales wa wl wc (.slice none 0 0) wo.heap.size) 132)) := ⟨_, rfl⟩
      have HSH0 : Hid (Blk Wd (wo.heap.size + 1) 132 (shedCs (some ⟨w.heap.size + 1, 0, none⟩) fl fl low top bales wa wl wc (.slice none 0 0) wo.heap.size)) := by rw [HWD.out]; exact Blk.new_ (by simp) _ _
      have HMP0 : Hid (Wd.heap[wo.heap.size]? = some (.map #[] 0)) := by
        rw [HWD.out]
        exact (Below.heap_alloc _ _ wo.heap.size (by simp)).trans (heap_alloc_new wo _)
      have HBD0 : Hid (Below w.heap.size w Wd) := by rw [HWD.out]; exact (HBW.out.alloc (by omega) _).alloc (by simp; omega) _
      have HGD0 : Hid (RdG flF 3 Wd (w.heap.size + 2) (some ⟨w.heap.size + 1, 0, none⟩) p.fl) := by
        rw [HWD.out]
        exact ((rd_blk flF_len HK1.out).below ((HBR.out.alloc (by omega) _).alloc (by simp; omega) _))
      have HSZ0 : Hid (Wd.heap.size = wo.heap.size + 2) := by show _ = _; rw [HWD.out]; simp
      have hwd := HWD.out
      unfold shedCs at hwd
      rw [← hwd]
      clear hwd HWD
      go_loopw [10, 90] (fun u i wr => ∃ k : Nat, k ≤ wl ∧ i = .int .i64 k ∧ u = .int .i64 (p.used k : Nat) ∧ Hid ((List.range k).all p.baB = true) ∧ Below (wo.heap.size + 2) Wd wr) (fun _ i _ => wl - (intOf i).toNat)
      case atStart => exact ⟨0, Nat.zero_le _, rfl, rfl, rfl, Below.refl _ _⟩
      case round =>
        obtain ⟨k, hk, rfl, rfl, HA2, hb⟩ := hrel
        have HBQ := Lib.hid hb
        have hsq := hb.size
        rw [HSZ0.out] at hsq
        have HBV : Hid (Below w.heap.size w wr) := HBD0.out.trans (hb.mono (by omega))
        have HSH : Hid (ShedIn wr (wo.heap.size + 2) (wo.heap.size + 1) (some ⟨w.heap.size + 1, 0, none⟩) fl fl low top bales wa wl wc p) :=
          shed_mk (HSH0.out.below hb (by omega)) ((HGD0.out.below (hb.mono (by omega))).more (by omega)) HP.out HBV.out (by omega) (by omega) (by omega)
        clear hb
        by_cases hlt : k < wl
        · obtain ⟨c, hc⟩ : ∃ c, p.weighed[k]? = some c := ⟨p.weighed[k]'(by have := HE2.out; omega), by simp⟩
          have HBK := Lib.hid (ba_of hc)
          have hkl : k < p.weighed.length := by have := HE2.out; omega
          obtain ⟨b, off, rfl, hbl, H0, H1, H2⟩ := rd_ba (HP.out.hwl.below HBV.out) k c hc
          have hbq : b < wr.heap.size := by omega
          have hdq : wo.heap.size + 1 < wr.heap.size := by omega
          obtain ⟨cs, ⟨c0, c1⟩⟩ := c
          simp only at H0 H1 H2
          have HBD : Hid (Below w.heap.size w (wr.alloc (.cells #[.int .i64 cs, .int .i64 c0, .int .i64 c1] 56))) := HBV.out.alloc (by have := HBV.out.size; omega) _
          clear hc hkl
          go_wp2_with fail
          refine (isSet_any (p := p) (by have := HN.out; omega) cs _ (by exact HSH.out.grow (by repeat (first | exact Below.refl _ _ | assumption | refine Below.drew ?_ | refine below_drewN ?_ _ | refine Below.alloc ?_ (by (try simp) <;> omega) _ | refine Below.setCell ?_ (by (try simp) <;> omega) _ | refine Below.trans ?_ (Below.mono (by assumption) (by (try simp) <;> omega)))))).mono ?_
          cases hset : p.setB cs
          · rintro e w' ⟨rfl, rfl⟩
            go_wp2_with fail
            refine (ask_any false 1 _).mono ?_
            rintro e w' ⟨q2, rfl⟩
            obtain rfl : e = .panicked [refE 1] := q2
            go_wp2
            exact ⟨rfl, rfl, HBD.out⟩
          · rintro e w' ⟨rfl, rfl⟩
            by_cases hpos : 0 < cs
            case neg =>
              go_wp2_with fail
              refine (ask_any false 1 _).mono ?_
              rintro e w' ⟨q2, rfl⟩
              obtain rfl : e = .panicked [refE 1] := q2
              go_wp2
              exact ⟨rfl, rfl, HBD.out⟩
            case pos =>
              have hcs : cs ≤ 1024 := by
                have h := hset
                rw [PressD.setB, HN.out, full_int] at h
                have h2 := (inB_iff.1 h).2
                have h3 := Nat.pow_le_pow_right (n := 2) (by omega) h1
                have h4 : ((2 ^ fl : Nat) : Int) ≤ ((2 ^ 10 : Nat) : Int) := by exact_mod_cast h3
                have h5 : ((2 ^ fl : Nat) : Int) = 2 ^ fl := by simp
                omega
              obtain ⟨S, rfl⟩ : ∃ S : Nat, cs = S := ⟨cs.toNat, by omega⟩
              have HBS : Hid (p.bs k = S) := by show _ = _; unfold PressD.bs; rw [HBK.out]; simp
              have HUL : Hid (p.used k < 1024) := used_small (p := p) (by rw [HN.out]; omega) HA2.out
              have hA : bits BinOp.and IntKind.i64 (p.used k : Int) (S : Int) = ((p.used k &&& S : Nat) : Int) := and_i64 _ _ (by have := HUL.out; omega) (by omega)
              have hU0 : (0 : Int) ≤ (p.used k : Int) := by omega
              by_cases hz : p.used k &&& S = 0
              case neg =>
                have hzb : (((p.used k &&& S : Nat) : Int) == 0) = false := by simp; omega
                clear hz
                go_wp2_with fail
                refine (ask_any false 1 _).mono ?_
                rintro e w' ⟨q2, rfl⟩
                obtain rfl : e = .panicked [refE 1] := q2
                go_wp2
                exact ⟨rfl, rfl, HBD.out⟩
              case pos =>
                have hzb : (((p.used k &&& S : Nat) : Int) == 0) = true := by rw [hz]; rfl
                have HZ := Lib.hid hz
                clear hz
                go_wp2_with fail
                refine (isIn_any ⟨c0, c1⟩ 1 200 _).mono ?_
                cases hsp : spanB ⟨c0, c1⟩ 1 200
                · rintro e w3 ⟨rfl, hbw3⟩; obtain ⟨hcw3, hfw3⟩ := bcell hbw3; have hzw3 := hbw3.size; (try simp at hzw3)
                  go_wp2_with fail
                  refine (ask_any false 1 _).mono ?_
                  rintro e w' ⟨q2, rfl⟩
                  obtain rfl : e = .panicked [refE 1] := q2
                  go_wp2
                  exact ⟨rfl, rfl, HBD.out.trans (hbw3.mono HBD.out.size)⟩
                · rintro e w3 ⟨rfl, hbw3⟩; obtain ⟨hcw3, hfw3⟩ := bcell hbw3; have hzw3 := hbw3.size; (try simp at hzw3)
                  have HOK : Hid (p.baB k = true) := by show _ = _; simp [PressD.baB, HBK.out, hset, HBS.out, HZ.out, hsp]; omega
                  have hOr : bits BinOp.or IntKind.i64 (p.used k : Int) (S : Int) = (p.used (k + 1) : Int) := by
                    rw [or_i64 _ _ (by have := HUL.out; omega) (by omega), PressD.used, HBS.out]
                  have HG3 : Hid (Below (wo.heap.size + 2) Wd w3) := (HBQ.out.alloc (by omega) _).trans (hbw3.mono (by simp; omega))
                  go_wp2_with fail
                  refine (ask_any true 1 _).mono ?_
                  rintro e w' ⟨q2, rfl⟩
                  obtain rfl : e = .returned (.tuple #[]) := q2
                  go_wp2
                  go_roundw
                  case rel => exact ⟨k + 1, by omega, by go_num, rfl, by show _ = _; rw [List.range_succ, List.all_append, HA2.out]; simp [HOK.out], HG3.out⟩
                  case measure => simp [intOf]; omega
        · have h := HA2.out
          obtain rfl : wl = k := by omega
          rw [← HE2.out, HW.out] at h
          cases h
end
end Go.Proofs.Ytbfjebglaimcmaa
