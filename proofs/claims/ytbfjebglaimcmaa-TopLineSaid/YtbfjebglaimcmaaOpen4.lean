/- The walk of open, where all of the press is valid: what else is asked is so, or is not. -/
import Derived.Test.YtbfjebglaimcmaaOpen0
namespace Go.Proofs.Ytbfjebglaimcmaa
open Go.RowKit Go.Hav
/-- What else is asked of the shed: in every world in which it reads as the press. -/
def IsShed (w : World) (fl : Nat) (low top bales : Int) (wa : Option Addr) (wl wc : Nat) (p : PressD) (g : Nat) (cap : Array Value) (b : Bool) : Prop :=
  ∀ (wq : World) (B d : Nat) (ga : Option Addr) (gc : Nat), Below w.heap.size w wq → w.heap.size ≤ d → ShedIn wq B d ga fl gc low top bales wa wl wc p → Calls Try.prog g (#[.pointer (some ⟨d, 0, none⟩)] ++ cap) wq fun e w' => e = .returned (.bool b) ∧ Below wq.heap.size wq w'
/-- The shed at block d, its map at block r ahead of it; all that it reads lies below r. -/
structure ShedS (w : World) (r d : Nat) (ga : Option Addr) (fl : Nat) (low top bales : Int) (wa : Option Addr) (wl wc : Nat) (sv : Value) (p : PressD) : Prop where
  hd : r < d
  blk : Blk w d 132 (shedCs ga fl fl low top bales wa wl wc sv r)
  hfl : RdG flF 3 w r ga p.fl
  hwl : RdG baF 3 w r wa p.weighed
  efl : p.fl.length = fl
  ewl : p.weighed.length = wl
  elow : p.low = low
  etop : p.top = top
  ebales : p.bales = bales
def Opened (fl : Nat) (low top bales : Int) (wa : Option Addr) (wl wc : Nat) (p : PressD) (w : World) (e : Ending) (w' : World) : Prop :=
  ∃ d r ga, e = .returned (.pointer (some ⟨d, 0, none⟩)) ∧ ShedS w' r d ga fl low top bales wa wl wc (.slice none 0 0) p ∧ w'.heap[r]? = some (.map #[] 0) ∧ w.heap.size ≤ r ∧ Below w.heap.size w w'
section
variable {low top bales : Int} {fa wa : Option Addr} {fl fc wl wc : Nat} {p : PressD}
set_option maxRecDepth 100000 in
set_option maxHeartbeats 6400000 in
theorem open_no (g : Nat) (cap : Array Value) (eg : ∀ args w, (callFunc g args).run Try.prog w = .ok (.enter g args) w) (g1 : 1 ≤ low) (g2 : low ≤ 200) (g3 : low ≤ top) (g4 : top ≤ 200) (g5 : 0 ≤ bales) (g6 : bales ≤ 5) (h1 : fl ≤ 10) (h6 : wl ≤ 4) (w : World) (hP : PressIn w w.heap.size fa fl low top bales wa wl p) (hgood : p.fl.all PressD.flB = true) (hbad : (List.range p.weighed.length).all p.baB = true)
    (hg : IsShed w fl low top bales wa wl wc p g cap false) :
    Calls Try.prog 55 #[pressV fa fl fc low top bales wa wl wc, .func (.func g) #[] cap] w fun e w' => e = .panicked [refE 2] ∧ Below w.heap.size w w' := by
  have HF := Lib.hid hgood
  have HW := Lib.hid hbad
  have HG := Lib.hid hg
  clear hgood hbad hg
  have HP := Lib.hid hP
  have HE := Lib.hid hP.efl
  have HE2 := Lib.hid hP.ewl
  have HN : Hid (p.n = fl) := hP.efl
  have h2 : inB low 1 200 = true := by simp [inB]; omega
  have h3 : inB top low 200 = true := by simp [inB]; omega
  have h4 : inB bales 0 5 = true := by simp [inB]; omega
  have hd : decide ((wl : Int) ≤ 4) = true := by simp; omega
  have hmm := @run_makeMap Try.prog
  have hmk := make_fl fl (by omega)
  obtain ⟨w1, hcp, hb1, hw1⟩ := copy_fl (W := (w.alloc (Obj.cells #[Value.slice fa fl fc, Value.int IntKind.i64 low, Value.int IntKind.i64 top, Value.int IntKind.i64 bales, Value.slice wa wl wc] 25)).alloc (.cells (zeroFl fl) 58)) (cap := fc) 3 HE.out (Blk.new_ (g := w.heap.size + 1) (by simp) _ _) (HP.out.hfl.below (((Below.refl w.heap.size w).alloc (by simp) _).alloc (by simp) _))
  have HK1 := Lib.hid hb1
  have HB1 : Hid (Below w.heap.size w w1) := (((Below.refl w.heap.size w).alloc (by simp) _).alloc (by simp) _).trans (hw1.mono (by omega))
  have HBX : Hid (Blk w1 w.heap.size 25 #[.slice fa fl fc, .int .i64 low, .int .i64 top, .int .i64 bales, .slice wa wl wc]) := ((Blk.new_ rfl 25 _).alloc _).below hw1 (by omega)
  have l1 := hb1.lt
  have f5 : fl ≤ 9223372036854775807 := by omega
  clear hP hb1 hw1
  unfold pressV
  go_enter Try.func55, Try.ntmps55
  go_wp2_with (go_at_call 104; refine (within_any _ _ _ _).mono ?_; rintro e w' ⟨rfl, rfl⟩)
  refine (ask_any true 1 _).mono ?_
  rintro e w' ⟨q1, rfl⟩
  obtain rfl : e = .returned (.tuple #[]) := q1
  go_wp2
  clear hcp hmk
  go_loopw [51] (fun i wr => ∃ k : Nat, k ≤ fl ∧ i = .int .i64 k ∧ Hid ((p.fl.take k).all PressD.flB = true) ∧ Below (w.heap.size + 2) w1 wr) (fun i _ => fl - (intOf i).toNat)
  case atStart => exact ⟨0, Nat.zero_le _, rfl, by show _ = _; simp, Below.refl _ _⟩
  case round =>
    obtain ⟨k, hk, rfl, HA, hb⟩ := hrel
    have HBR := Lib.hid hb
    have hsz := hb.size
    have HBW : Hid (Below w.heap.size w wr) := HB1.out.trans (hb.mono (by omega))
    clear hb
    by_cases hlt : k < fl
    · obtain ⟨c, hc⟩ : ∃ c, p.fl[k]? = some c := ⟨p.fl[k]'(by have := HE.out; omega), by simp⟩
      have HS := Lib.hid (take_all_succ PressD.flB p.fl k c hc)
      obtain ⟨b, off, hbo, hbl, H0, H1, H2⟩ := rd_fl ((rd_blk flF_len HK1.out).below (HBR.out.mono (by omega))) k c hc
      obtain ⟨rfl, rfl⟩ : b = w.heap.size + 1 ∧ off = 0 := by injection hbo with hbo; injection hbo with e1 e2; exact ⟨e1.symm, e2.symm⟩
      simp only [Nat.zero_add] at H0 H1 H2
      have hq0 : w.heap.size + 1 < wr.heap.size := by omega
      obtain ⟨⟨c0, c1⟩, cl⟩ := c
      simp only at H0 H1 H2
      have HC := Lib.hid hc
      clear hc hbo hbl
      have HOK : Hid (PressD.flB ⟨⟨c0, c1⟩, cl⟩ = true) := List.all_eq_true.1 HF.out _ (List.mem_of_getElem? HC.out)
      obtain ⟨⟨hsp, hdd⟩, hln⟩ : (spanB ⟨c0, c1⟩ 1 20 = true ∧ decide (c1 - c0 ≤ 3) = true) ∧ inB cl 0 2 = true := by
        have h := HOK.out
        simp only [PressD.flB, Bool.and_eq_true] at h
        exact h
      obtain ⟨s0, s1, s2⟩ := spanB_iff.1 hsp
      simp only at s0 s1 s2
      go_wp2_with fail
      refine (isIn_any ⟨c0, c1⟩ 1 20 _).mono ?_
      rw [hsp]
      rintro e w3 ⟨rfl, hbw3⟩; obtain ⟨hcw3, hfw3⟩ := bcell hbw3; have hzw3 := hbw3.size; (try simp at hzw3)
      have HG3 : Hid (Below (w.heap.size + 2) w1 w3) := (HBR.out.alloc (by omega) _).trans (hbw3.mono (by simp; omega))
      go_wp2_with fail
      refine (within_any cl 0 2 _).mono ?_
      rw [hln]
      rintro e w' ⟨rfl, rfl⟩
      go_wp2_with fail
      refine (ask_any true 1 _).mono ?_
      rintro e w' ⟨q2, rfl⟩
      obtain rfl : e = .returned (.tuple #[]) := q2
      go_wp2
      go_roundw
      case rel => exact ⟨k + 1, by omega, by go_num, by show _ = _; rw [HS.out, HA.out, HOK.out]; rfl, HG3.out⟩
      case measure => simp [intOf]; omega
    · obtain rfl : fl = k := by omega
      obtain ⟨wo, rfl⟩ : ∃ wo : World, wo = wr := ⟨_, rfl⟩
      have x0 : wo.cell? ⟨w.heap.size, 0, none⟩ = some (.slice fa fl fc) := (HBX.out.below HBR.out (by omega)).cell 0
      have x1 : wo.cell? ⟨w.heap.size, 1, none⟩ = some (.int .i64 low) := (HBX.out.below HBR.out (by omega)).cell 1
      have x2 : wo.cell? ⟨w.heap.size, 2, none⟩ = some (.int .i64 top) := (HBX.out.below HBR.out (by omega)).cell 2
      have x3 : wo.cell? ⟨w.heap.size, 3, none⟩ = some (.int .i64 bales) := (HBX.out.below HBR.out (by omega)).cell 3
      have x4 : wo.cell? ⟨w.heap.size, 4, none⟩ = some (.slice wa wl wc) := (HBX.out.below HBR.out (by omega)).cell 4
      have hq0 : w.heap.size < wo.heap.size := by omega
      go_wp2
      obtain ⟨Wd, HWD⟩ : ∃ Wd, Hid (Wd = (wo.alloc (.map #[] 0)).alloc (.cells (shedCs (some ⟨w.heap.size + 1, 0, none⟩) fl fl low top bales wa wl wc (.slice none 0 0) wo.heap.size) 132)) := ⟨_, rfl⟩
      have HSH0 : Hid (Blk Wd (wo.heap.size + 1) 132 (shedCs (some ⟨w.heap.size + 1, 0, none⟩) fl fl low top bales wa wl wc (.slice none 0 0) wo.heap.size)) := by rw [HWD.out]; exact Blk.new_ (by simp) _ _
      have HMP0 : Hid (Wd.heap[wo.heap.size]? = some (.map #[] 0)) := by
        rw [HWD.out]
        exact (Below.heap_alloc _ _ wo.heap.size (by simp)).trans (heap_alloc_new wo _)
      have HBD0 : Hid (Below w.heap.size w Wd) := by rw [HWD.out]; exact (HBW.out.alloc (by omega) _).alloc (by simp; omega) _
      have HGD0 : Hid (RdG flF 3 Wd (w.heap.size + 2) (some ⟨w.heap.size + 1, 0, none⟩) p.fl) := by
        rw [HWD.out]
        exact ((rd_blk flF_len HK1.out).below ((HBR.out.alloc (by omega) _).alloc (by simp; omega) _))
      have HSZ0 : Hid (Wd.heap.size = wo.heap.size + 2) := by show _ = _; rw [HWD.out]; simp
      have hwd := HWD.out
      unfold shedCs at hwd
      rw [← hwd]
      clear hwd HWD
      go_loopw [10, 90] (fun u i wr => ∃ k : Nat, k ≤ wl ∧ i = .int .i64 k ∧ u = .int .i64 (p.used k : Nat) ∧ Hid ((List.range k).all p.baB = true) ∧ Below (wo.heap.size + 2) Wd wr) (fun _ i _ => wl - (intOf i).toNat)
      case atStart => exact ⟨0, Nat.zero_le _, rfl, rfl, rfl, Below.refl _ _⟩
      case round =>
        obtain ⟨k, hk, rfl, rfl, HA2, hb⟩ := hrel
        have HBQ := Lib.hid hb
        have hsq := hb.size
        rw [HSZ0.out] at hsq
        have HBV : Hid (Below w.heap.size w wr) := HBD0.out.trans (hb.mono (by omega))
        have HSH : Hid (ShedIn wr (wo.heap.size + 2) (wo.heap.size + 1) (some ⟨w.heap.size + 1, 0, none⟩) fl fl low top bales wa wl wc p) :=
          shed_mk (HSH0.out.below hb (by omega)) ((HGD0.out.below (hb.mono (by omega))).more (by omega)) HP.out HBV.out (by omega) (by omega) (by omega)
        clear hb
        by_cases hlt : k < wl
        · obtain ⟨c, hc⟩ : ∃ c, p.weighed[k]? = some c := ⟨p.weighed[k]'(by have := HE2.out; omega), by simp⟩
          have HBK := Lib.hid (ba_of hc)
          have hkl : k < p.weighed.length := by have := HE2.out; omega
          obtain ⟨b, off, rfl, hbl, H0, H1, H2⟩ := rd_ba (HP.out.hwl.below HBV.out) k c hc
          have hbq : b < wr.heap.size := by omega
          have hdq : wo.heap.size + 1 < wr.heap.size := by omega
          obtain ⟨cs, ⟨c0, c1⟩⟩ := c
          simp only at H0 H1 H2
          have HOK2 : Hid (p.baB k = true) := by
            have h := HW.out
            rw [List.all_eq_true] at h
            exact h k (List.mem_range.2 hkl)
          obtain ⟨⟨⟨hset, hpos⟩, hz⟩, hsp⟩ : ((p.setB cs = true ∧ 0 < cs) ∧ p.used k &&& p.bs k = 0) ∧ spanB ⟨c0, c1⟩ 1 200 = true := by
            have h := HOK2.out
            simp only [PressD.baB, HBK.out, Bool.and_eq_true, decide_eq_true_eq, beq_iff_eq] at h
            exact h
          clear hc hkl
          have hcs : cs ≤ 1024 := by
            have h := hset
            rw [PressD.setB, HN.out, full_int] at h
            have h2 := (inB_iff.1 h).2
            have h3 := Nat.pow_le_pow_right (n := 2) (by omega) h1
            have h4 : ((2 ^ fl : Nat) : Int) ≤ ((2 ^ 10 : Nat) : Int) := by exact_mod_cast h3
            have h5 : ((2 ^ fl : Nat) : Int) = 2 ^ fl := by simp
            omega
          obtain ⟨S, rfl⟩ : ∃ S : Nat, cs = S := ⟨cs.toNat, by omega⟩
          have HBS : Hid (p.bs k = S) := by show _ = _; unfold PressD.bs; rw [HBK.out]; simp
          rw [HBS.out] at hz
          have HUL : Hid (p.used k < 1024) := used_small (p := p) (by rw [HN.out]; omega) HA2.out
          have hA : bits BinOp.and IntKind.i64 (p.used k : Int) (S : Int) = ((p.used k &&& S : Nat) : Int) := and_i64 _ _ (by have := HUL.out; omega) (by omega)
          have hU0 : (0 : Int) ≤ (p.used k : Int) := by omega
          have hzb : (((p.used k &&& S : Nat) : Int) == 0) = true := by rw [hz]; rfl
          have hOr : bits BinOp.or IntKind.i64 (p.used k : Int) (S : Int) = (p.used (k + 1) : Int) := by
            rw [or_i64 _ _ (by have := HUL.out; omega) (by omega), PressD.used, HBS.out]
          clear hz
          go_wp2_with fail
          refine (isSet_any (p := p) (by have := HN.out; omega) S _ (by exact HSH.out.grow (by repeat (first | exact Below.refl _ _ | assumption | refine Below.drew ?_ | refine below_drewN ?_ _ | refine Below.alloc ?_ (by (try simp) <;> omega) _ | refine Below.setCell ?_ (by (try simp) <;> omega) _ | refine Below.trans ?_ (Below.mono (by assumption) (by (try simp) <;> omega)))))).mono ?_
          rw [hset]
          rintro e w' ⟨rfl, rfl⟩
          go_wp2_with fail
          refine (isIn_any ⟨c0, c1⟩ 1 200 _).mono ?_
          rw [hsp]
          rintro e w3 ⟨rfl, hbw3⟩; obtain ⟨hcw3, hfw3⟩ := bcell hbw3; have hzw3 := hbw3.size; (try simp at hzw3)
          have HG3 : Hid (Below (wo.heap.size + 2) Wd w3) := (HBQ.out.alloc (by omega) _).trans (hbw3.mono (by simp; omega))
          go_wp2_with fail
          refine (ask_any true 1 _).mono ?_
          rintro e w' ⟨q2, rfl⟩
          obtain rfl : e = .returned (.tuple #[]) := q2
          go_wp2
          go_roundw
          case rel => exact ⟨k + 1, by omega, by go_num, rfl, by show _ = _; rw [List.range_succ, List.all_append, HA2.out]; simp [HOK2.out], HG3.out⟩
          case measure => simp [intOf]; omega
        · obtain rfl : wl = k := by omega
          go_wp2_with fail
          refine (HG.out _ _ _ _ _ HBV.out (by omega) HSH.out).mono ?_
          rintro e w3 ⟨rfl, hbw3⟩; obtain ⟨hcw3, hfw3⟩ := bcell hbw3; have hzw3 := hbw3.size; (try simp at hzw3)
          go_wp2_with fail
          refine (ask_any false 2 _).mono ?_
          rintro e w' ⟨q2, rfl⟩
          obtain rfl : e = .panicked [refE 2] := q2
          go_wp2
          exact ⟨rfl, rfl, HBV.out.trans (hbw3.mono (by omega))⟩
set_option maxRecDepth 100000 in
set_option maxHeartbeats 6400000 in
theorem open_yes (g : Nat) (cap : Array Value) (eg : ∀ args w, (callFunc g args).run Try.prog w = .ok (.enter g args) w) (g1 : 1 ≤ low) (g2 : low ≤ 200) (g3 : low ≤ top) (g4 : top ≤ 200) (g5 : 0 ≤ bales) (g6 : bales ≤ 5) (h1 : fl ≤ 10) (h6 : wl ≤ 4) (w : World) (hP : PressIn w w.heap.size fa fl low top bales wa wl p) (hgood : p.fl.all PressD.flB = true) (hbad : (List.range p.weighed.length).all p.baB = true)
    (hg : IsShed w fl low top bales wa wl wc p g cap true) :
    Calls Try.prog 55 #[pressV fa fl fc low top bales wa wl wc, .func (.func g) #[] cap] w (Opened fl low top bales wa wl wc p w) := by
  have HF := Lib.hid hgood
  have HW := Lib.hid hbad
  have HG := Lib.hid hg
  clear hgood hbad hg
  have HP := Lib.hid hP
  have HE := Lib.hid hP.efl
  have HE2 := Lib.hid hP.ewl
  have HN : Hid (p.n = fl) := hP.efl
  have h2 : inB low 1 200 = true := by simp [inB]; omega
  have h3 : inB top low 200 = true := by simp [inB]; omega
  have h4 : inB bales 0 5 = true := by simp [inB]; omega
  have hd : decide ((wl : Int) ≤ 4) = true := by simp; omega
  have hmm := @run_makeMap Try.prog
  have hmk := make_fl fl (by omega)
  obtain ⟨w1, hcp, hb1, hw1⟩ := copy_fl (W := (w.alloc (Obj.cells #[Value.slice fa fl fc, Value.int IntKind.i64 low, Value.int IntKind.i64 top, Value.int IntKind.i64 bales, Value.slice wa wl wc] 25)).alloc (.cells (zeroFl fl) 58)) (cap := fc) 3 HE.out (Blk.new_ (g := w.heap.size + 1) (by simp) _ _) (HP.out.hfl.below (((Below.refl w.heap.size w).alloc (by simp) _).alloc (by simp) _))
  have HK1 := Lib.hid hb1
  have HB1 : Hid (Below w.heap.size w w1) := (((Below.refl w.heap.size w).alloc (by simp) _).alloc (by simp) _).trans (hw1.mono (by omega))
  have HBX : Hid (Blk w1 w.heap.size 25 #[.slice fa fl fc, .int .i64 low, .int .i64 top, .int .i64 bales, .slice wa wl wc]) := ((Blk.new_ rfl 25 _).alloc _).below hw1 (by omega)
  have l1 := hb1.lt
  have f5 : fl ≤ 9223372036854775807 := by omega
  clear hP hb1 hw1
  unfold pressV
  go_enter Try.func55, Try.ntmps55
  go_wp2_with (go_at_call 104; refine (within_any _ _ _ _).mono ?_; rintro e w' ⟨rfl, rfl⟩)
  refine (ask_any true 1 _).mono ?_
  rintro e w' ⟨q1, rfl⟩
  obtain rfl : e = .returned (.tuple #[]) := q1
  go_wp2
  clear hcp hmk
  go_loopw [51] (fun i wr => ∃ k : Nat, k ≤ fl ∧ i = .int .i64 k ∧ Hid ((p.fl.take k).all PressD.flB = true) ∧ Below (w.heap.size + 2) w1 wr) (fun i _ => fl - (intOf i).toNat)
  case atStart => exact ⟨0, Nat.zero_le _, rfl, by show _ = _; simp, Below.refl _ _⟩
  case round =>
    obtain ⟨k, hk, rfl, HA, hb⟩ := hrel
    have HBR := Lib.hid hb
    have hsz := hb.size
    have HBW : Hid (Below w.heap.size w wr) := HB1.out.trans (hb.mono (by omega))
    clear hb
    by_cases hlt : k < fl
    · obtain ⟨c, hc⟩ : ∃ c, p.fl[k]? = some c := ⟨p.fl[k]'(by have := HE.out; omega), by simp⟩
      have HS := Lib.hid (take_all_succ PressD.flB p.fl k c hc)
      obtain ⟨b, off, hbo, hbl, H0, H1, H2⟩ := rd_fl ((rd_blk flF_len HK1.out).below (HBR.out.mono (by omega))) k c hc
      obtain ⟨rfl, rfl⟩ : b = w.heap.size + 1 ∧ off = 0 := by injection hbo with hbo; injection hbo with e1 e2; exact ⟨e1.symm, e2.symm⟩
      simp only [Nat.zero_add] at H0 H1 H2
      have hq0 : w.heap.size + 1 < wr.heap.size := by omega
      obtain ⟨⟨c0, c1⟩, cl⟩ := c
      simp only at H0 H1 H2
      have HC := Lib.hid hc
      clear hc hbo hbl
      have HOK : Hid (PressD.flB ⟨⟨c0, c1⟩, cl⟩ = true) := List.all_eq_true.1 HF.out _ (List.mem_of_getElem? HC.out)
      obtain ⟨⟨hsp, hdd⟩, hln⟩ : (spanB ⟨c0, c1⟩ 1 20 = true ∧ decide (c1 - c0 ≤ 3) = true) ∧ inB cl 0 2 = true := by
        have h := HOK.out
        simp only [PressD.flB, Bool.and_eq_true] at h
        exact h
      obtain ⟨s0, s1, s2⟩ := spanB_iff.1 hsp
      simp only at s0 s1 s2
      go_wp2_with fail
      refine (isIn_any ⟨c0, c1⟩ 1 20 _).mono ?_
      rw [hsp]
      rintro e w3 ⟨rfl, hbw3⟩; obtain ⟨hcw3, hfw3⟩ := bcell hbw3; have hzw3 := hbw3.size; (try simp at hzw3)
      have HG3 : Hid (Below (w.heap.size + 2) w1 w3) := (HBR.out.alloc (by omega) _).trans (hbw3.mono (by simp; omega))
      go_wp2_with fail
      refine (within_any cl 0 2 _).mono ?_
      rw [hln]
      rintro e w' ⟨rfl, rfl⟩
      go_wp2_with fail
      refine (ask_any true 1 _).mono ?_
      rintro e w' ⟨q2, rfl⟩
      obtain rfl : e = .returned (.tuple #[]) := q2
      go_wp2
      go_roundw
      case rel => exact ⟨k + 1, by omega, by go_num, by show _ = _; rw [HS.out, HA.out, HOK.out]; rfl, HG3.out⟩
      case measure => simp [intOf]; omega
    · obtain rfl : fl = k := by omega
      obtain ⟨wo, rfl⟩ : ∃ wo : World, wo = wr := ⟨_, rfl⟩
      have x0 : wo.cell? ⟨w.heap.size, 0, none⟩ = some (.slice fa fl fc) := (HBX.out.below HBR.out (by omega)).cell 0
      have x1 : wo.cell? ⟨w.heap.size, 1, none⟩ = some (.int .i64 low) := (HBX.out.below HBR.out (by omega)).cell 1
      have x2 : wo.cell? ⟨w.heap.size, 2, none⟩ = some (.int .i64 top) := (HBX.out.below HBR.out (by omega)).cell 2
      have x3 : wo.cell? ⟨w.heap.size, 3, none⟩ = some (.int .i64 bales) := (HBX.out.below HBR.out (by omega)).cell 3
      have x4 : wo.cell? ⟨w.heap.size, 4, none⟩ = some (.slice wa wl wc) := (HBX.out.below HBR.out (by omega)).cell 4
      have hq0 : w.heap.size < wo.heap.size := by omega
      go_wp2
      obtain ⟨Wd, HWD⟩ : ∃ Wd, Hid (Wd = (wo.alloc (.map #[] 0)).alloc (.cells (shedCs (some ⟨w.heap.size + 1, 0, none⟩) fl fl low top bales wa wl wc (.slice none 0 0) wo.heap.size) 132)) := ⟨_, rfl⟩
      have HSH0 : Hid (Blk Wd (wo.heap.size + 1) 132 (shedCs (some ⟨w.heap.size + 1, 0, none⟩) fl fl low top bales wa wl wc (.slice none 0 0) wo.heap.size)) := by rw [HWD.out]; exact Blk.new_ (by simp) _ _
      have HMP0 : Hid (Wd.heap[wo.heap.size]? = some (.map #[] 0)) := by
        rw [HWD.out]
        exact (Below.heap_alloc _ _ wo.heap.size (by simp)).trans (heap_alloc_new wo _)
      have HBD0 : Hid (Below w.heap.size w Wd) := by rw [HWD.out]; exact (HBW.out.alloc (by omega) _).alloc (by simp; omega) _
      have HGD0 : Hid (RdG flF 3 Wd (w.heap.size + 2) (some ⟨w.heap.size + 1, 0, none⟩) p.fl) := by
        rw [HWD.out]
        exact ((rd_blk flF_len HK1.out).below ((HBR.out.alloc (by omega) _).alloc (by simp; omega) _))
      have HSZ0 : Hid (Wd.heap.size = wo.heap.size + 2) := by show _ = _; rw [HWD.out]; simp
      have hwd := HWD.out
      unfold shedCs at hwd
      rw [← hwd]
      clear hwd HWD
      go_loopw [10, 90] (fun u i wr => ∃ k : Nat, k ≤ wl ∧ i = .int .i64 k ∧ u = .int .i64 (p.used k : Nat) ∧ Hid ((List.range k).all p.baB = true) ∧ Below (wo.heap.size + 2) Wd wr) (fun _ i _ => wl - (intOf i).toNat)
      case atStart => exact ⟨0, Nat.zero_le _, rfl, rfl, rfl, Below.refl _ _⟩
      case round =>
        obtain ⟨k, hk, rfl, rfl, HA2, hb⟩ := hrel
        have HBQ := Lib.hid hb
        have hsq := hb.size
        rw [HSZ0.out] at hsq
        have HBV : Hid (Below w.heap.size w wr) := HBD0.out.trans (hb.mono (by omega))
        have HSH : Hid (ShedIn wr (wo.heap.size + 2) (wo.heap.size + 1) (some ⟨w.heap.size + 1, 0, none⟩) fl fl low top bales wa wl wc p) :=
          shed_mk (HSH0.out.below hb (by omega)) ((HGD0.out.below (hb.mono (by omega))).more (by omega)) HP.out HBV.out (by omega) (by omega) (by omega)
        clear hb
        by_cases hlt : k < wl
        · obtain ⟨c, hc⟩ : ∃ c, p.weighed[k]? = some c := ⟨p.weighed[k]'(by have := HE2.out; omega), by simp⟩
          have HBK := Lib.hid (ba_of hc)
          have hkl : k < p.weighed.length := by have := HE2.out; omega
          obtain ⟨b, off, rfl, hbl, H0, H1, H2⟩ := rd_ba (HP.out.hwl.below HBV.out) k c hc
          have hbq : b < wr.heap.size := by omega
          have hdq : wo.heap.size + 1 < wr.heap.size := by omega
          obtain ⟨cs, ⟨c0, c1⟩⟩ := c
          simp only at H0 H1 H2
          have HOK2 : Hid (p.baB k = true) := by
            have h := HW.out
            rw [List.all_eq_true] at h
            exact h k (List.mem_range.2 hkl)
          obtain ⟨⟨⟨hset, hpos⟩, hz⟩, hsp⟩ : ((p.setB cs = true ∧ 0 < cs) ∧ p.used k &&& p.bs k = 0) ∧ spanB ⟨c0, c1⟩ 1 200 = true := by
            have h := HOK2.out
            simp only [PressD.baB, HBK.out, Bool.and_eq_true, decide_eq_true_eq, beq_iff_eq] at h
            exact h
          clear hc hkl
          have hcs : cs ≤ 1024 := by
            have h := hset
            rw [PressD.setB, HN.out, full_int] at h
            have h2 := (inB_iff.1 h).2
            have h3 := Nat.pow_le_pow_right (n := 2) (by omega) h1
            have h4 : ((2 ^ fl : Nat) : Int) ≤ ((2 ^ 10 : Nat) : Int) := by exact_mod_cast h3
            have h5 : ((2 ^ fl : Nat) : Int) = 2 ^ fl := by simp
            omega
          obtain ⟨S, rfl⟩ : ∃ S : Nat, cs = S := ⟨cs.toNat, by omega⟩
          have HBS : Hid (p.bs k = S) := by show _ = _; unfold PressD.bs; rw [HBK.out]; simp
          rw [HBS.out] at hz
          have HUL : Hid (p.used k < 1024) := used_small (p := p) (by rw [HN.out]; omega) HA2.out
          have hA : bits BinOp.and IntKind.i64 (p.used k : Int) (S : Int) = ((p.used k &&& S : Nat) : Int) := and_i64 _ _ (by have := HUL.out; omega) (by omega)
          have hU0 : (0 : Int) ≤ (p.used k : Int) := by omega
          have hzb : (((p.used k &&& S : Nat) : Int) == 0) = true := by rw [hz]; rfl
          have hOr : bits BinOp.or IntKind.i64 (p.used k : Int) (S : Int) = (p.used (k + 1) : Int) := by
            rw [or_i64 _ _ (by have := HUL.out; omega) (by omega), PressD.used, HBS.out]
          clear hz
          go_wp2_with fail
          refine (isSet_any (p := p) (by have := HN.out; omega) S _ (by exact HSH.out.grow (by repeat (first | exact Below.refl _ _ | assumption | refine Below.drew ?_ | refine below_drewN ?_ _ | refine Below.alloc ?_ (by (try simp) <;> omega) _ | refine Below.setCell ?_ (by (try simp) <;> omega) _ | refine Below.trans ?_ (Below.mono (by assumption) (by (try simp) <;> omega)))))).mono ?_
          rw [hset]
          rintro e w' ⟨rfl, rfl⟩
          go_wp2_with fail
          refine (isIn_any ⟨c0, c1⟩ 1 200 _).mono ?_
          rw [hsp]
          rintro e w3 ⟨rfl, hbw3⟩; obtain ⟨hcw3, hfw3⟩ := bcell hbw3; have hzw3 := hbw3.size; (try simp at hzw3)
          have HG3 : Hid (Below (wo.heap.size + 2) Wd w3) := (HBQ.out.alloc (by omega) _).trans (hbw3.mono (by simp; omega))
          go_wp2_with fail
          refine (ask_any true 1 _).mono ?_
          rintro e w' ⟨q2, rfl⟩
          obtain rfl : e = .returned (.tuple #[]) := q2
          go_wp2
          go_roundw
          case rel => exact ⟨k + 1, by omega, by go_num, rfl, by show _ = _; rw [List.range_succ, List.all_append, HA2.out]; simp [HOK2.out], HG3.out⟩
          case measure => simp [intOf]; omega
        · obtain rfl : wl = k := by omega
          go_wp2_with fail
          refine (HG.out _ _ _ _ _ HBV.out (by omega) HSH.out).mono ?_
          rintro e w3 ⟨rfl, hbw3⟩; obtain ⟨hcw3, hfw3⟩ := bcell hbw3; have hzw3 := hbw3.size; (try simp at hzw3)
          have HB3 := Lib.hid hbw3
          clear hbw3 hcw3 hfw3
          go_wp2_with fail
          refine (ask_any true 2 _).mono ?_
          rintro e w' ⟨q2, rfl⟩
          obtain rfl : e = .returned (.tuple #[]) := q2
          have HBE : Hid (Below (wo.heap.size + 2) Wd w') := HBQ.out.trans (HB3.out.mono (by omega))
          have HBF : Hid (Below w.heap.size w w') := HBV.out.trans (HB3.out.mono (by omega))
          have HOP : Hid (Opened fl low top bales wa wl wc p w (.returned (.pointer (some ⟨wo.heap.size + 1, 0, none⟩))) w') :=
            ⟨wo.heap.size + 1, wo.heap.size, _, rfl, ⟨by omega, HSH0.out.below HBE.out (by omega), (HGD0.out.below (HBE.out.mono (by omega))).more (by omega), (HP.out.hwl.below HBF.out).more (by omega), HN.out, HE2.out, HP.out.elow, HP.out.etop, HP.out.ebales⟩,
              (HBE.out.block _ (by omega)).trans HMP0.out, by omega, HBF.out⟩
          go_wp2
          go_ret
          exact HOP.out
end
end Go.Proofs.Ytbfjebglaimcmaa
