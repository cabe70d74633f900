/- The walk of open, where a fleece is not valid. -/
import Derived.Test.YtbfjebglaimcmaaOpen1
namespace Go.Proofs.Ytbfjebglaimcmaa
open Go.RowKit Go.Hav
theorem take_all_succ {α : Type} (f : α → Bool) (l : List α) (k : Nat) (x : α) (h : l[k]? = some x) : (l.take (k + 1)).all f = ((l.take k).all f && f x) := by
  rw [List.take_add_one, h]
  simp
section
variable {low top bales : Int} {fa wa : Option Addr} {fl fc wl wc : Nat} {p : PressD}
/-- The shed's cells, as open makes them. -/
def shedCs (fa : Option Addr) (fl fc : Nat) (low top bales : Int) (wa : Option Addr) (wl wc : Nat) (sv : Value) (r : Nat) : Array Value :=
  #[.slice fa fl fc, .int .i64 low, .int .i64 top, .int .i64 bales, .slice wa wl wc, sv, .map (some r)]
theorem shed_mk {w wq : World} {B d r : Nat} {ga : Option Addr} {gc : Nat} {sv : Value} (hk : Blk wq d 132 (shedCs ga fl gc low top bales wa wl wc sv r)) (hg : RdG flF 3 wq B ga p.fl) (hP : PressIn w w.heap.size fa fl low top bales wa wl p) (hb : Below w.heap.size w wq) (h1 : w.heap.size ≤ B) (h2 : d < B) (h3 : B ≤ wq.heap.size) :
    ShedIn wq B d ga fl gc low top bales wa wl wc p :=
  ⟨h3, h2, hk.cell 0, hk.cell 1, hk.cell 2, hk.cell 3, hk.cell 4, ⟨hP.elow, hP.etop, hP.ebales, hP.efl, hP.ewl, hP.mfl, hP.mwl, hg, (hP.hwl.below hb).more h1⟩⟩
set_option maxRecDepth 100000 in
set_option maxHeartbeats 6400000 in
theorem open_fl (v : Value) (g1 : 1 ≤ low) (g2 : low ≤ 200) (g3 : low ≤ top) (g4 : top ≤ 200) (g5 : 0 ≤ bales) (g6 : bales ≤ 5) (h1 : fl ≤ 10) (h6 : wl ≤ 4) (w : World) (hP : PressIn w w.heap.size fa fl low top bales wa wl p) (hbad : p.fl.all PressD.flB = false) :
    Calls Try.prog 55 #[pressV fa fl fc low top bales wa wl wc, v] w fun e w' => e = .panicked [refE 1] ∧ Below w.heap.size w w' := by
  have HF := Lib.hid hbad
  clear hbad
  have HP := Lib.hid hP
  have HE := Lib.hid hP.efl
  have HE2 := Lib.hid hP.ewl
  have HN : Hid (p.n = fl) := hP.efl
  have h2 : inB low 1 200 = true := by simp [inB]; omega
  have h3 : inB top low 200 = true := by simp [inB]; omega
  have h4 : inB bales 0 5 = true := by simp [inB]; omega
  have hd : decide ((wl : Int) ≤ 4) = true := by simp; omega
  have hmm := @run_makeMap Try.prog
  have hmk := make_fl fl (by omega)
  obtain ⟨w1, hcp, hb1, hw1⟩ := copy_fl (W := (w.alloc (Obj.cells #[Value.slice fa fl fc, Value.int IntKind.i64 low, Value.int IntKind.i64 top, Value.int IntKind.i64 bales, Value.slice wa wl wc] 25)).alloc (.cells (zeroFl fl) 58)) (cap := fc) 3 HE.out (Blk.new_ (g := w.heap.size + 1) (by simp) _ _) (HP.out.hfl.below (((Below.refl w.heap.size w).alloc (by simp) _).alloc (by simp) _))
  have HK1 := Lib.hid hb1
  have HB1 : Hid (Below w.heap.size w w1) := (((Below.refl w.heap.size w).alloc (by simp) _).alloc (by simp) _).trans (hw1.mono (by omega))
  have HBX : Hid (Blk w1 w.heap.size 25 #[.slice fa fl fc, .int .i64 low, .int .i64 top, .int .i64 bales, .slice wa wl wc]) := ((Blk.new_ rfl 25 _).alloc _).below hw1 (by omega)
  have l1 := hb1.lt
  have f5 : fl ≤ 9223372036854775807 := by omega
  clear hP hb1 hw1
  unfold pressV
  go_enter Try.func55, Try.ntmps55
  go_wp2_with (go_at_call 104; refine (within_any _ _ _ _).mono ?_; rintro e w' ⟨rfl, rfl⟩)
  refine (ask_any true 1 _).mono ?_
  rintro e w' ⟨q1, rfl⟩
  obtain rfl : e = .returned (.tuple #[]) := q1
  go_wp2
  clear hcp hmk
  go_loopw [51] (fun i wr => ∃ k : Nat, k ≤ fl ∧ i = .int .i64 k ∧ Hid ((p.fl.take k).all PressD.flB = true) ∧ Below (w.heap.size + 2) w1 wr) (fun i _ => fl - (intOf i).toNat)
  case atStart => exact ⟨0, Nat.zero_le _, rfl, by show _ = _; simp, Below.refl _ _⟩
  case round =>
    obtain ⟨k, hk, rfl, HA, hb⟩ := hrel
    have HBR := Lib.hid hb
    have hsz := hb.size
    have HBW : Hid (Below w.heap.size w wr) := HB1.out.trans (hb.mono (by omega))
    clear hb
    by_cases hlt : k < fl
    · obtain ⟨c, hc⟩ : ∃ c, p.fl[k]? = some c := ⟨p.fl[k]'(by have := HE.out; omega), by simp⟩
      have HS := Lib.hid (take_all_succ PressD.flB p.fl k c hc)
      obtain ⟨b, off, hbo, hbl, H0, H1, H2⟩ := rd_fl ((rd_blk flF_len HK1.out).below (HBR.out.mono (by omega))) k c hc
      obtain ⟨rfl, rfl⟩ : b = w.heap.size + 1 ∧ off = 0 := by injection hbo with hbo; injection hbo with e1 e2; exact ⟨e1.symm, e2.symm⟩
      simp only [Nat.zero_add] at H0 H1 H2
      have hq0 : w.heap.size + 1 < wr.heap.size := by omega
      obtain ⟨⟨c0, c1⟩, cl⟩ := c
      simp only at H0 H1 H2
      clear hc hbo hbl
      have HBD : Hid (Below w.heap.size w (wr.alloc (.cells #[.int .i64 c0, .int .i64 c1, .int .i64 cl] 58))) := HBW.out.alloc (by have := HBW.out.size; omega) _
      go_wp2_with fail
      refine (isIn_any ⟨c0, c1⟩ 1 20 _).mono ?_
      cases hsp : spanB ⟨c0, c1⟩ 1 20
      · rintro e w3 ⟨rfl, hbw3⟩; obtain ⟨hcw3, hfw3⟩ := bcell hbw3; have hzw3 := hbw3.size; (try simp at hzw3)
        go_wp2_with fail
        refine (ask_any false 1 _).mono ?_
        rintro e w' ⟨q2, rfl⟩
        obtain rfl : e = .panicked [refE 1] := q2
        go_wp2
        exact ⟨rfl, rfl, HBD.out.trans (hbw3.mono HBD.out.size)⟩
      · obtain ⟨s0, s1, s2⟩ := spanB_iff.1 hsp
        simp only at s0 s1 s2
        rintro e w3 ⟨rfl, hbw3⟩; obtain ⟨hcw3, hfw3⟩ := bcell hbw3; have hzw3 := hbw3.size; (try simp at hzw3)
        cases hdd : decide (c1 - c0 ≤ 3)
        · have hdn : ¬ c1 - c0 ≤ 3 := by simpa using hdd
          go_wp2_with fail
          refine (ask_any false 1 _).mono ?_
          rintro e w' ⟨q2, rfl⟩
          obtain rfl : e = .panicked [refE 1] := q2
          go_wp2
          exact ⟨rfl, rfl, HBD.out.trans (hbw3.mono HBD.out.size)⟩
        · have hdn : c1 - c0 ≤ 3 := by simpa using hdd
          go_wp2_with fail
          refine (within_any cl 0 2 _).mono ?_
          cases hln : inB cl 0 2
          · rintro e w' ⟨rfl, rfl⟩
            go_wp2_with fail
            refine (ask_any false 1 _).mono ?_
            rintro e w' ⟨q2, rfl⟩
            obtain rfl : e = .panicked [refE 1] := q2
            go_wp2
            exact ⟨rfl, rfl, HBD.out.trans (hbw3.mono HBD.out.size)⟩
          · have HOK : Hid (PressD.flB ⟨⟨c0, c1⟩, cl⟩ = true) := by show _ = _; simp [PressD.flB, hsp, hln]; omega
            have HG3 : Hid (Below (w.heap.size + 2) w1 w3) := (HBR.out.alloc (by omega) _).trans (hbw3.mono (by simp; omega))
            rintro e w' ⟨rfl, rfl⟩
            go_wp2_with fail
            refine (ask_any true 1 _).mono ?_
            rintro e w' ⟨q2, rfl⟩
            obtain rfl : e = .returned (.tuple #[]) := q2
            go_wp2
            go_roundw
            case rel => exact ⟨k + 1, by omega, by go_num, by show _ = _; rw [HS.out, HA.out, HOK.out]; rfl, HG3.out⟩
            case measure => simp [intOf]; omega
    · have h := HA.out
      rw [List.take_of_length_le (by have := HE.out; omega), HF.out] at h
      cases h
end
end Go.Proofs.Ytbfjebglaimcmaa
