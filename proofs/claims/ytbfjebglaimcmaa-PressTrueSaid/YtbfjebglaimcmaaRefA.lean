/- The walks of the reference's small functions: in, span, power, Has, Every, Set, Apart, Size; and of the law's: far, inside, every, span, weighed, fleece. -/
import Derived.Test.YtbfjebglaimcmaaApi7
namespace Go.Proofs.Ytbfjebglaimcmaa
open Go.RowKit Go.Hav
theorem rin_any (n lo hi : Int) (w : World) : Calls Try.prog 79 #[.int .i64 n, .int .i64 lo, .int .i64 hi] w fun e w' => e = .returned (.bool (inB n lo hi)) ∧ w' = w := by
  cases h : decide (lo ≤ n)
  · have hr : inB n lo hi = false := by simp [inB, h]
    go_enter Try.func79, Try.ntmps79
    go_wp2
    go_ret
    exact ⟨ret_bool hr.symm, rfl⟩
  · have hr : inB n lo hi = decide (n ≤ hi) := by simp [inB, h]
    go_enter Try.func79, Try.ntmps79
    go_wp2
    go_ret
    exact ⟨ret_bool hr.symm, rfl⟩
theorem rspan_any (s : Sp) (lo hi : Int) (w : World) : Calls Try.prog 80 #[spV s, .int .i64 lo, .int .i64 hi] w fun e w' => e = .returned (.bool (spanB s lo hi)) ∧ Below w.heap.size w w' := by
  obtain ⟨c0, c1⟩ := s
  unfold spV
  cases h : decide (lo ≤ c0)
  · have hr : spanB ⟨c0, c1⟩ lo hi = false := by simp [spanB, h]
    go_enter Try.func80, Try.ntmps80
    go_wp2
    go_ret
    exact ⟨ret_bool hr.symm, (by repeat (first | exact Below.refl _ _ | assumption | refine Below.drew ?_ | refine below_drewN ?_ _ | refine Below.alloc ?_ (by (try simp) <;> omega) _ | refine Below.setCell ?_ (by (try simp) <;> omega) _ | refine Below.trans ?_ (Below.mono (by assumption) (by (try simp) <;> omega))))⟩
  · cases h2 : decide (c0 ≤ c1)
    · have hr : spanB ⟨c0, c1⟩ lo hi = false := by simp [spanB, h2]
      go_enter Try.func80, Try.ntmps80
      go_wp2
      go_ret
      exact ⟨ret_bool hr.symm, (by repeat (first | exact Below.refl _ _ | assumption | refine Below.drew ?_ | refine below_drewN ?_ _ | refine Below.alloc ?_ (by (try simp) <;> omega) _ | refine Below.setCell ?_ (by (try simp) <;> omega) _ | refine Below.trans ?_ (Below.mono (by assumption) (by (try simp) <;> omega))))⟩
    · have hr : spanB ⟨c0, c1⟩ lo hi = decide (c1 ≤ hi) := by simp [spanB, h, h2]
      go_enter Try.func80, Try.ntmps80
      go_wp2
      go_ret
      exact ⟨ret_bool hr.symm, (by repeat (first | exact Below.refl _ _ | assumption | refine Below.drew ?_ | refine below_drewN ?_ _ | refine Below.alloc ?_ (by (try simp) <;> omega) _ | refine Below.setCell ?_ (by (try simp) <;> omega) _ | refine Below.trans ?_ (Below.mono (by assumption) (by (try simp) <;> omega))))⟩
theorem pow_le60 (k : Nat) (h : k ≤ 40) : (1 : Int) ≤ 2 ^ k ∧ (2 : Int) ^ k ≤ 1099511627776 := by
  have h1 := Nat.pow_le_pow_right (n := 2) (by omega) h
  have h2 := pow_cast k
  have h3 := Nat.two_pow_pos k
  omega
set_option maxRecDepth 100000 in
set_option maxHeartbeats 1600000 in
theorem power_any (n : Nat) (hn : n ≤ 40) (w : World) : Calls Try.prog 68 #[.int .i64 n] w fun e w' => e = .returned (.int .i64 (2 ^ n)) ∧ w' = w := by
  go_enter Try.func68, Try.ntmps68
  go_wp2
  go_loopw [3, 4] (fun x i wr => ∃ (k : Nat) (t : Int), k ≤ n ∧ i = .int .i64 k ∧ x = .int .i64 t ∧ Hid (t = 2 ^ k) ∧ wr = w) (fun _ i _ => n - (intOf i).toNat)
  case atStart => exact ⟨0, 1, Nat.zero_le _, rfl, rfl, rfl, rfl⟩
  case round =>
    obtain ⟨k, t, hk, rfl, rfl, HT, rfl⟩ := hrel
    have hb := pow_le60 k (by omega)
    rw [← HT.out] at hb
    obtain ⟨hb0, hb1⟩ := hb
    by_cases hlt : k < n
    · go_wp2
      go_roundw
      case rel => exact ⟨k + 1, 2 * t, by omega, by go_num, rfl, by show _ = _; rw [HT.out]; exact (Int.pow_succ' 2 k).symm, trivial⟩
      case measure => simp [intOf]; omega
    · obtain rfl : n = k := by omega
      go_wp2
      go_ret
      exact ⟨ret_int HT.out, rfl⟩
theorem tb_quo (s k : Nat) : (((s : Int) / 2 ^ k) % 2 == 1) = s.testBit k := by
  have h1 : (s : Int) / 2 ^ k = ((s / 2 ^ k : Nat) : Int) := by rw [← pow_cast k]; rfl
  rw [h1]
  have h2 : ((s / 2 ^ k : Nat) : Int) % 2 = ((s / 2 ^ k % 2 : Nat) : Int) := rfl
  rw [h2]
  have h3 : s.testBit k = decide (s / 2 ^ k % 2 = 1) := by rw [Nat.testBit_eq_decide_div_mod_eq]
  rw [h3]
  by_cases h : s / 2 ^ k % 2 = 1
  · simp [h]
  · have : s / 2 ^ k % 2 = 0 := by omega
    simp [this]
set_option maxRecDepth 100000 in
set_option maxHeartbeats 1600000 in
theorem has_any (s k : Nat) (hs : s < 4611686018427387904) (hk : k ≤ 40) (w : World) : Calls Try.prog 67 #[.int .i64 s, .int .i64 k] w fun e w' => e = .returned (.bool (s.testBit k)) ∧ w' = w := by
  have htb := tb_quo s k
  obtain ⟨hp0, hp1⟩ := pow_le60 k hk
  have hq0 : (0 : Int) ≤ s / 2 ^ k := Int.ediv_nonneg (by omega) (by omega)
  have hq1 : (s : Int) / 2 ^ k ≤ s := Int.ediv_le_self _ (by omega)
  have HT : Hid (((wrap64 ((s : Int) / 2 ^ k)).tmod 2 == 1) = s.testBit k) := by
    show _ = _
    have h : wrap64 ((s : Int) / 2 ^ k) = s / 2 ^ k := by unfold wrap64; omega
    rw [h, Int.tmod_eq_emod_of_nonneg hq0, htb]
  clear htb hq0 hq1
  go_enter Try.func67, Try.ntmps67
  go_wp2_with fail
  refine (power_any k hk w).mono ?_
  rintro e w' ⟨rfl, rfl⟩
  go_wp2
  go_ret
  exact ⟨ret_bool HT.out, rfl⟩
section
variable {low top bales : Int} {fa wa : Option Addr} {fl fc wl wc : Nat} {p : PressD}
set_option maxRecDepth 100000 in
set_option maxHeartbeats 1600000 in
theorem revery_any (hn : fl ≤ 40) (w : World) : Calls Try.prog 81 #[pressV fa fl fc low top bales wa wl wc] w fun e w' => e = .returned (.int .i64 (full fl : Nat)) ∧ Below w.heap.size w w' := by
  obtain ⟨hp0, hp1⟩ := pow_le60 fl hn
  have HF := Lib.hid (full_int fl)
  unfold pressV
  go_enter Try.func81, Try.ntmps81
  go_wp2_with fail
  refine (power_any fl hn _).mono ?_
  rintro e w' ⟨rfl, rfl⟩
  go_wp2
  go_ret
  exact ⟨ret_int HF.out.symm, (by repeat (first | exact Below.refl _ _ | assumption | refine Below.drew ?_ | refine below_drewN ?_ _ | refine Below.alloc ?_ (by (try simp) <;> omega) _ | refine Below.setCell ?_ (by (try simp) <;> omega) _ | refine Below.trans ?_ (Below.mono (by assumption) (by (try simp) <;> omega))))⟩
set_option maxRecDepth 100000 in
set_option maxHeartbeats 1600000 in
theorem every_any (hn : fl ≤ 40) (w : World) : Calls Try.prog 31 #[pressV fa fl fc low top bales wa wl wc] w fun e w' => e = .returned (.int .i64 (full fl : Nat)) ∧ Below w.heap.size w w' := by
  obtain ⟨hp0, hp1⟩ := pow_le60 fl hn
  have HF := Lib.hid (full_int fl)
  unfold pressV
  go_enter Try.func31, Try.ntmps31
  go_wp2
  go_ret
  exact ⟨ret_int HF.out.symm, (by repeat (first | exact Below.refl _ _ | assumption | refine Below.drew ?_ | refine below_drewN ?_ _ | refine Below.alloc ?_ (by (try simp) <;> omega) _ | refine Below.setCell ?_ (by (try simp) <;> omega) _ | refine Below.trans ?_ (Below.mono (by assumption) (by (try simp) <;> omega))))⟩
set_option maxRecDepth 100000 in
set_option maxHeartbeats 1600000 in
theorem rset_any (hn : fl ≤ 40) (n : Int) (w : World) : Calls Try.prog 61 #[pressV fa fl fc low top bales wa wl wc, .int .i64 n] w fun e w' => e = .returned (.bool (inB n 0 (full fl : Nat))) ∧ Below w.heap.size w w' := by
  unfold pressV
  go_enter Try.func61, Try.ntmps61
  go_wp2_with fail
  refine (revery_any (low := low) (top := top) (bales := bales) (fa := fa) (wa := wa) (fc := fc) (wl := wl) (wc := wc) hn _).mono ?_
  rintro e w1 ⟨rfl, hbw1⟩; obtain ⟨hcw1, hfw1⟩ := bcell hbw1; have hzw1 := hbw1.size; (try simp at hzw1)
  go_wp2_with fail
  refine (rin_any _ _ _ _).mono ?_
  rintro e w' ⟨rfl, rfl⟩
  go_wp2
  go_ret
  exact ⟨rfl, (by repeat (first | exact Below.refl _ _ | assumption | refine Below.drew ?_ | refine below_drewN ?_ _ | refine Below.alloc ?_ (by (try simp) <;> omega) _ | refine Below.setCell ?_ (by (try simp) <;> omega) _ | refine Below.trans ?_ (Below.mono (by assumption) (by (try simp) <;> omega))))⟩
theorem far_any (w : World) (m1 : fl ≤ 9223372036854775807) (m2 : wl ≤ 9223372036854775807) :
    Calls Try.prog 36 #[pressV fa fl fc low top bales wa wl wc] w fun e w' => (∃ b, e = .returned (.bool b) ∧ (b = false → fl ≤ 40 ∧ wl ≤ 40)) ∧ Below w.heap.size w w' := by
  obtain ⟨m, hm, hle⟩ : ∃ m : Int, (∀ w, (Builtin.max_ #[3, 3] 3 #[.int .i64 (fl : Int), .int .i64 (wl : Int)]).run Try.prog w = .ok (.int .i64 m) w) ∧ Hid (decide (40 < m) = false → fl ≤ 40 ∧ wl ≤ 40) := by
    refine ⟨max (fl : Int) wl, fun w => max_run _ _ w, show _ → _ from fun h => by simp at h; omega⟩
  unfold pressV
  go_enter Try.func36, Try.ntmps36
  go_wp2
  go_ret
  exact ⟨⟨_, rfl, hle.out⟩, (by repeat (first | exact Below.refl _ _ | assumption | refine Below.drew ?_ | refine below_drewN ?_ _ | refine Below.alloc ?_ (by (try simp) <;> omega) _ | refine Below.setCell ?_ (by (try simp) <;> omega) _ | refine Below.trans ?_ (Below.mono (by assumption) (by (try simp) <;> omega))))⟩
end
theorem inside_any (n : Int) (s : Sp) (w : World) : Calls Try.prog 35 #[.int .i64 n, spV s] w fun e w' => e = .returned (.bool (inB n s.lo s.hi)) ∧ Below w.heap.size w w' := by
  obtain ⟨c0, c1⟩ := s
  unfold spV
  cases h : decide (c0 ≤ n)
  · have hr : inB n c0 c1 = false := by simp [inB, h]
    go_enter Try.func35, Try.ntmps35
    go_wp2
    go_ret
    exact ⟨ret_bool hr.symm, (by repeat (first | exact Below.refl _ _ | assumption | refine Below.drew ?_ | refine below_drewN ?_ _ | refine Below.alloc ?_ (by (try simp) <;> omega) _ | refine Below.setCell ?_ (by (try simp) <;> omega) _ | refine Below.trans ?_ (Below.mono (by assumption) (by (try simp) <;> omega))))⟩
  · have hr : inB n c0 c1 = decide (n ≤ c1) := by simp [inB, h]
    go_enter Try.func35, Try.ntmps35
    go_wp2
    go_ret
    exact ⟨ret_bool hr.symm, (by repeat (first | exact Below.refl _ _ | assumption | refine Below.drew ?_ | refine below_drewN ?_ _ | refine Below.alloc ?_ (by (try simp) <;> omega) _ | refine Below.setCell ?_ (by (try simp) <;> omega) _ | refine Below.trans ?_ (Below.mono (by assumption) (by (try simp) <;> omega))))⟩
theorem lspan_any (lo hi : Int) (w : World) : Calls Try.prog 38 #[.int .i64 lo, .int .i64 hi] w fun e w' => e = .returned (spV ⟨lo, hi⟩) ∧ Below w.heap.size w w' := by
  go_enter Try.func38, Try.ntmps38
  go_wp2
  refine bodyPost_ret (v := spV ⟨lo, hi⟩) (by simp [results, Try.results38, go_sem, spV]) rfl ⟨rfl, (by repeat (first | exact Below.refl _ _ | assumption | refine Below.drew ?_ | refine below_drewN ?_ _ | refine Below.alloc ?_ (by (try simp) <;> omega) _ | refine Below.setCell ?_ (by (try simp) <;> omega) _ | refine Below.trans ?_ (Below.mono (by assumption) (by (try simp) <;> omega))))⟩
theorem fleece_any (lo hi line : Int) (w : World) : Calls Try.prog 103 #[.int .i64 lo, .int .i64 hi, .int .i64 line] w fun e w' => e = .returned (.agg #[.int .i64 lo, .int .i64 hi, .int .i64 line]) ∧ Below w.heap.size w w' := by
  go_enter Try.func103, Try.ntmps103
  go_wp2_with fail
  refine (lspan_any lo hi _).mono ?_
  unfold spV
  rintro e w1 ⟨rfl, hbw1⟩; obtain ⟨hcw1, hfw1⟩ := bcell hbw1; have hzw1 := hbw1.size; (try simp at hzw1)
  go_wp2
  have hk := (((Blk.new_ (w := w) rfl 58 #[.int .i64 0, .int .i64 0, .int .i64 0]).below hbw1 (by simp)).set_ 0 (.int .i64 lo)).set_ 1 (.int .i64 hi) |>.set_ 2 (.int .i64 line)
  have e0 := hk.cell 0
  have e1 := hk.cell 1
  have e2 := hk.cell 2
  simp at e0 e1 e2
  refine bodyPost_ret (v := .agg #[.int .i64 lo, .int .i64 hi, .int .i64 line]) (by simp [results, Try.results103, go_sem, e0, e1, e2]) rfl ⟨rfl, ?_⟩
  exact setCell_below (setCell_below (setCell_below (((Below.refl w.heap.size w).alloc (Nat.le_refl _) _).trans (hbw1.mono (by simp))) (Nat.le_refl _) 0 _) (Nat.le_refl _) 1 _) (Nat.le_refl _) 2 _
theorem weighed_any (set lo hi : Int) (w : World) : Calls Try.prog 39 #[.int .i64 set, .int .i64 lo, .int .i64 hi] w fun e w' => e = .returned (.agg #[.int .i64 set, .int .i64 lo, .int .i64 hi]) ∧ Below w.heap.size w w' := by
  go_enter Try.func39, Try.ntmps39
  go_wp2_with fail
  refine (lspan_any lo hi _).mono ?_
  unfold spV
  rintro e w1 ⟨rfl, hbw1⟩; obtain ⟨hcw1, hfw1⟩ := bcell hbw1; have hzw1 := hbw1.size; (try simp at hzw1)
  go_wp2
  have hk := (((Blk.new_ (w := w) rfl 56 #[.int .i64 0, .int .i64 0, .int .i64 0]).below hbw1 (by simp)).set_ 0 (.int .i64 set)).set_ 1 (.int .i64 lo) |>.set_ 2 (.int .i64 hi)
  have e0 := hk.cell 0
  have e1 := hk.cell 1
  have e2 := hk.cell 2
  simp at e0 e1 e2
  refine bodyPost_ret (v := .agg #[.int .i64 set, .int .i64 lo, .int .i64 hi]) (by simp [results, Try.results39, go_sem, e0, e1, e2]) rfl ⟨rfl, ?_⟩
  exact setCell_below (setCell_below (setCell_below (((Below.refl w.heap.size w).alloc (Nat.le_refl _) _).trans (hbw1.mono (by simp))) (Nat.le_refl _) 0 _) (Nat.le_refl _) 1 _) (Nat.le_refl _) 2 _
end Go.Proofs.Ytbfjebglaimcmaa
