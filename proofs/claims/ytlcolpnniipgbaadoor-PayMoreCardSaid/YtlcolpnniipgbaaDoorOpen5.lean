/- The walk of open, where all of the pay is valid, but what else is asked is not. -/
import Derived.Test.YtlcolpnniipgbaaDoorOpen1
namespace Go.Proofs.YtlcolpnniipgbaaDoor
open Go.RowKit Go.Hav
section
variable {people rate bill : Int} {ra ca da pa : Option Addr} {rl rc cl cc dl dc pl pc : Nat} {p : PayD}
set_option maxRecDepth 100000 in
set_option maxHeartbeats 6400000 in
theorem open_invalid (g : Nat) (cap : Array Value) (eg : ∀ args w, (callFunc g args).run Tryd.prog w = .ok (.enter g args) w) (g1 : 1 ≤ people) (g2 : people ≤ 4) (g3 : 1 ≤ rl) (g4 : rl ≤ 4) (h3 : cl ≤ 12) (g5 : 0 ≤ rate) (g6 : rate ≤ 1000) (g7 : 0 ≤ bill) (g8 : bill ≤ 10000) (h6 : (dl : Int) = people) (h7 : pl ≤ 8) (w : World) (hP : PayIn w w.heap.size people ra rl ca cl rate bill da dl pa pl p)
    (hruns : p.runs.all (spanB · 400) = true) (hdays : p.days.all (inB · 0 10) = true) (hcalls : p.calls.all (callB p) = true) (hpaid : p.paid.all (paidB p) = true) (hg : ∀ wq, Below w.heap.size w wq → DeskIn wq (w.heap.size + 4) (w.heap.size + 1 + 1) (w.heap.size + 1) people ra rl rc ca cl cc rate bill da dl dc pa pl pc p → Calls Tryd.prog g (#[.pointer (some ⟨w.heap.size + 1 + 1, 0, none⟩)] ++ cap) wq fun e w' => e = .returned (.bool false) ∧ Below wq.heap.size wq w') :
    Calls Tryd.prog 42 #[payV people ra rl rc ca cl cc rate bill da dl dc pa pl pc, .func (.func g) #[] cap] w fun e w' => e = .panicked [refE 2] ∧ Below w.heap.size w w' := by
  have HP := Lib.hid hP
  have HB := Lib.hid hpaid
  have HG := Lib.hid hg
  have HCL := Lib.hid hcalls
  have HE4 := Lib.hid hP.epl
  have HR := Lib.hid hruns
  have HDY := Lib.hid hdays
  have HE := Lib.hid hP.erl
  have HE2 := Lib.hid hP.edl
  have HE3 := Lib.hid hP.ecl
  have h1 : inB people 1 4 = true := by simp [inB]; omega
  have h2 : inB (rl : Int) 1 4 = true := by simp [inB]; omega
  have h4 : inB rate 0 1000 = true := by simp [inB]; omega
  have h5 : inB bill 0 10000 = true := by simp [inB]; omega
  have hd : decide ((pl : Int) ≤ 8) = true := by simp; omega
  have hmm := @run_makeMap Tryd.prog
  clear hP hpaid hg hruns hdays hcalls
  unfold payV
  go_enter Tryd.func42, Tryd.ntmps42
  go_wp2_with (go_at_call 74; refine (within_any _ _ _ _).mono ?_; rintro e w' ⟨rfl, rfl⟩)
  refine (ask_any true 1 _).mono ?_
  rintro e w' ⟨q1, rfl⟩
  obtain rfl : e = .returned (.tuple #[]) := q1
  go_wp2_with fail
  refine (contains1_any ra rl rc (by omega) p.runs HE.out _ (by exact (HP.out.grow (by exact (by repeat (first | exact Below.refl _ _ | assumption | refine Below.drew ?_ | refine below_drewN ?_ _ | refine Below.alloc ?_ (by (try simp) <;> omega) _ | refine Below.setCell ?_ (by (try simp) <;> omega) _ | refine Below.trans ?_ (Below.mono (by assumption) (by (try simp) <;> omega)))))).hruns)).mono ?_
  rw [HR.out]
  simp only [Bool.not_true]
  rintro e w1 ⟨rfl, hbw1⟩; obtain ⟨hcw1, hfw1⟩ := bcell hbw1; have hzw1 := hbw1.size; (try simp at hzw1)
  have q0 : w.heap.size < w1.heap.size := by omega
  have HBX := Lib.hid (show Below (w.heap.size + 4) (openW w #[Value.int IntKind.i64 people, Value.slice ra rl rc, Value.slice ca cl cc, Value.int IntKind.i64 rate, Value.int IntKind.i64 bill, Value.slice da dl dc, Value.slice pa pl pc]) w1 from hbw1.mono (by simp))
  have HB1 : Hid (Below w.heap.size w w1) := Below.trans (by repeat (first | exact Below.refl _ _ | assumption | refine Below.drew ?_ | refine below_drewN ?_ _ | refine Below.alloc ?_ (by (try simp) <;> omega) _ | refine Below.setCell ?_ (by (try simp) <;> omega) _ | refine Below.trans ?_ (Below.mono (by assumption) (by (try simp) <;> omega)))) (hbw1.mono (by simp <;> omega))
  go_wp2_with fail
  refine (ask_any true 1 _).mono ?_
  rintro e w' ⟨q1, rfl⟩
  obtain rfl : e = .returned (.tuple #[]) := q1
  go_wp2_with fail
  refine (contains2_any da dl dc (by omega) p.days HE2.out _ (by exact (HP.out.grow HB1.out).hdays)).mono ?_
  rw [HDY.out]
  simp only [Bool.not_true]
  rintro e w2 ⟨rfl, hbw2⟩; obtain ⟨hcw2, hfw2⟩ := bcell hbw2; have hzw2 := hbw2.size; (try simp at hzw2)
  have HBY := Lib.hid (HBX.out.trans (hbw2.mono (by have := HBX.out.size; simp [openW] at this; omega)))
  go_wp2_with fail
  refine (ask_any true 1 _).mono ?_
  rintro e w' ⟨q2, rfl⟩
  obtain rfl : e = .returned (.tuple #[]) := q2
  go_wp2
  go_loopw [72] (fun i wr => ∃ k : Nat, k ≤ cl ∧ i = .int .i64 k ∧ Hid ((p.calls.take k).all (callB p) = true) ∧ Below (w.heap.size + 4) (openW w (payCs people ra rl rc ca cl cc rate bill da dl dc pa pl pc)) wr) (fun i _ => cl - (intOf i).toNat)
  case atStart => exact ⟨0, Nat.zero_le _, rfl, by show _ = _; simp, HBY.out⟩
  case round =>
    obtain ⟨k, hk, rfl, HA, hb⟩ := hrel
    have HDK := Lib.hid (openW_desk (p := p) w wr HP.out hb)
    have HBW : Hid (Below w.heap.size w wr) := (openW_below w _).trans (hb.mono (by omega))
    have hsz : w.heap.size + 4 ≤ wr.heap.size := by have := hb.size; rwa [openW_size] at this
    have t5 : wr.cell? ⟨w.heap.size + 1 + 1 + 1, 0, none⟩ = some (.pointer (some ⟨w.heap.size + 1 + 1, 0, none⟩)) :=
      ((Blk.new_ (by simp) 71 #[.pointer (some ⟨w.heap.size + 1 + 1, 0, none⟩)]).below hb (by omega)).cell 0
    have b6 : wr.cell? ⟨w.heap.size, 6, none⟩ = some (.slice pa pl pc) := (((((Blk.new_ (w := w) rfl 27 (payCs people ra rl rc ca cl cc rate bill da dl dc pa pl pc)).alloc _).alloc _).alloc _).below hb (by omega)).cell 6
    have q6 : w.heap.size < wr.heap.size := by omega
    have HBR := Lib.hid hb
    clear hb
    have q5 : w.heap.size + 1 + 1 + 1 < wr.heap.size := by omega
    by_cases hlt : k < cl
    · obtain ⟨c, hc⟩ : ∃ c, p.calls[k]? = some c := ⟨p.calls[k]'(by have := HE3.out; omega), by simp⟩
      have HC := Lib.hid hc
      have HS := Lib.hid (take_all_succ (callB p) p.calls k c hc)
      obtain ⟨b, off, rfl, hbl, H0, H1, H2, H3, H4⟩ := HDK.out.pay.hcalls k c hc
      obtain ⟨cw, cr, ⟨clo, chi⟩, cst⟩ := c
      simp only at H0 H1 H2 H3 H4
      have HOK : Hid (callB p ⟨cw, cr, ⟨clo, chi⟩, cst⟩ = true) := List.all_eq_true.1 HCL.out _ (List.mem_of_getElem? hc)
      obtain ⟨⟨hw, hr⟩, hsb⟩ : (whoB p cw = true ∧ runB p cr = true) ∧ spanB ⟨clo, chi⟩ 100 = true := by
        have h := HOK.out
        simp only [callB, Bool.and_eq_true] at h
        exact h
      clear hc
      go_wp2_with fail
      refine (isWho_any (p := p) cw _ (by exact HDK.out.grow (by repeat (first | exact Below.refl _ _ | assumption | refine Below.drew ?_ | refine below_drewN ?_ _ | refine Below.alloc ?_ (by (try simp) <;> omega) _ | refine Below.setCell ?_ (by (try simp) <;> omega) _ | refine Below.trans ?_ (Below.mono (by assumption) (by (try simp) <;> omega))))) g1 g2).mono ?_
      rw [hw]
      rintro e w' ⟨rfl, rfl⟩
      go_wp2_with fail
      refine (isRun_any (p := p) cr _ (by exact HDK.out.grow (by repeat (first | exact Below.refl _ _ | assumption | refine Below.drew ?_ | refine below_drewN ?_ _ | refine Below.alloc ?_ (by (try simp) <;> omega) _ | refine Below.setCell ?_ (by (try simp) <;> omega) _ | refine Below.trans ?_ (Below.mono (by assumption) (by (try simp) <;> omega)))))).mono ?_
      rw [hr]
      rintro e w' ⟨rfl, rfl⟩
      go_wp2_with fail
      refine (isIn_any ⟨clo, chi⟩ 100 _).mono ?_
      rw [hsb]
      rintro e w3 ⟨rfl, hbw3⟩; obtain ⟨hcw3, hfw3⟩ := bcell hbw3; have hzw3 := hbw3.size; (try simp at hzw3)
      have HG3 : Hid (Below (w.heap.size + 4) (openW w (payCs people ra rl rc (some ⟨b, off, none⟩) cl cc rate bill da dl dc pa pl pc)) w3) := (HBR.out.alloc (by omega) _).trans (hbw3.mono (by simp; omega))
      go_wp2_with fail
      refine (ask_any true 1 _).mono ?_
      rintro e w' ⟨q2, rfl⟩
      obtain rfl : e = .returned (.tuple #[]) := q2
      go_wp2
      go_roundw
      case rel => exact ⟨k + 1, by omega, by go_num, by show _ = _; rw [HS.out, HA.out, HOK.out]; rfl, HG3.out⟩
      case measure => simp [intOf]; omega
    · obtain rfl : cl = k := by omega
      go_wp2
      go_loopw [97] (fun i wq => ∃ k : Nat, k ≤ pl ∧ i = .int .i64 k ∧ Hid ((p.paid.take k).all (paidB p) = true) ∧ Below (w.heap.size + 4) (openW w (payCs people ra rl rc ca cl cc rate bill da dl dc pa pl pc)) wq) (fun i _ => pl - (intOf i).toNat)
      case atStart => exact ⟨0, Nat.zero_le _, rfl, by show _ = _; simp, HBR.out⟩
      case round =>
        clear HDK HBW hsz t5 b6 q5 q6 HBR
        obtain ⟨k, hk, rfl, HA, hb⟩ := hrel
        have HDK := Lib.hid (openW_desk (p := p) w wr HP.out hb)
        have HBW : Hid (Below w.heap.size w wr) := (openW_below w _).trans (hb.mono (by omega))
        have hsz : w.heap.size + 4 ≤ wr.heap.size := by have := hb.size; rwa [openW_size] at this
        have t5 : wr.cell? ⟨w.heap.size + 1 + 1 + 1, 0, none⟩ = some (.pointer (some ⟨w.heap.size + 1 + 1, 0, none⟩)) :=
          ((Blk.new_ (by simp) 71 #[.pointer (some ⟨w.heap.size + 1 + 1, 0, none⟩)]).below hb (by omega)).cell 0
        have HBR := Lib.hid hb
        clear hb
        have q5 : w.heap.size + 1 + 1 + 1 < wr.heap.size := by omega
        by_cases hlt : k < pl
        · obtain ⟨c, hc⟩ : ∃ c, p.paid[k]? = some c := ⟨p.paid[k]'(by have := HE4.out; omega), by simp⟩
          have HS := Lib.hid (take_all_succ (paidB p) p.paid k c hc)
          obtain ⟨b, off, rfl, hbl, H0, H1, H2⟩ := HDK.out.pay.hpaid k c hc
          obtain ⟨cw, cr, cp⟩ := c
          simp only at H0 H1 H2
          have HOK : Hid (paidB p ⟨cw, cr, cp⟩ = true) := List.all_eq_true.1 HB.out _ (List.mem_of_getElem? hc)
          obtain ⟨⟨hw, hr⟩, hsb⟩ : (whoB p cw = true ∧ runB p cr = true) ∧ inB cp 0 10000 = true := by
            have h := HOK.out
            simp only [paidB, Bool.and_eq_true] at h
            exact h
          clear hc
          go_wp2_with fail
          refine (isWho_any (p := p) cw _ (by exact HDK.out.grow (by repeat (first | exact Below.refl _ _ | assumption | refine Below.drew ?_ | refine below_drewN ?_ _ | refine Below.alloc ?_ (by (try simp) <;> omega) _ | refine Below.setCell ?_ (by (try simp) <;> omega) _ | refine Below.trans ?_ (Below.mono (by assumption) (by (try simp) <;> omega))))) g1 g2).mono ?_
          rw [hw]
          rintro e w' ⟨rfl, rfl⟩
          go_wp2_with fail
          refine (isRun_any (p := p) cr _ (by exact HDK.out.grow (by repeat (first | exact Below.refl _ _ | assumption | refine Below.drew ?_ | refine below_drewN ?_ _ | refine Below.alloc ?_ (by (try simp) <;> omega) _ | refine Below.setCell ?_ (by (try simp) <;> omega) _ | refine Below.trans ?_ (Below.mono (by assumption) (by (try simp) <;> omega)))))).mono ?_
          rw [hr]
          rintro e w' ⟨rfl, rfl⟩
          go_wp2_with fail
          refine (within_any cp 0 10000 _).mono ?_
          rw [hsb]
          rintro e w' ⟨rfl, rfl⟩
          go_wp2_with fail
          refine (ask_any true 1 _).mono ?_
          rintro e w' ⟨q2, rfl⟩
          obtain rfl : e = .returned (.tuple #[]) := q2
          go_wp2
          go_roundw
          case rel => exact ⟨k + 1, by omega, by go_num, by show _ = _; rw [HS.out, HA.out, HOK.out]; rfl, HBR.out.alloc (by omega) _⟩
          case measure => simp [intOf]; omega
        · obtain rfl : pl = k := by omega
          go_wp2_with fail
          refine (HG.out _ HBW.out HDK.out).mono ?_
          rintro e w3 ⟨rfl, hbw3⟩; obtain ⟨hcw3, hfw3⟩ := bcell hbw3; have hzw3 := hbw3.size; (try simp at hzw3)
          go_wp2_with fail
          refine (ask_any false 2 _).mono ?_
          rintro e w' ⟨q2, rfl⟩
          obtain rfl : e = .panicked [refE 2] := q2
          go_wp2
          exact ⟨rfl, rfl, HBW.out.trans (hbw3.mono (by omega))⟩
end
end Go.Proofs.YtlcolpnniipgbaaDoor
