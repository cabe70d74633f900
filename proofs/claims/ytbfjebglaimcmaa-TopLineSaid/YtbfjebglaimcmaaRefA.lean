/- The walks of the reference's small functions: in, span, power, Has, Every, Set, Apart, Size; and of the law's: far, inside, every, span, weighed, fleece. The walks of the reference's Apart, Size, Ints; of the law's total, alike. The walks of the law's alike, total, of the reference's Ints; of the law's fine, heavy. The walk of the reference's Press: is a press valid? -/
import Derived.Test.YtbfjebglaimcmaaApi7
namespace Go.Proofs.Ytbfjebglaimcmaa
open Go.RowKit Go.Hav
theorem rin_any (n lo hi : Int) (w : World) : Calls Try.prog 79 #[.int .i64 n, .int .i64 lo, .int .i64 hi] w fun e w' => e = .returned (.bool (inB n lo hi)) ∧ w' = w := by
  cases h : decide (lo ≤ n)
  · have hr : inB n lo hi = false := by simp [inB, h]
    go_enter Try.func79, Try.ntmps79
    go_wp2
    go_ret
    exact ⟨ret_bool hr.symm, rfl⟩
  · have hr : inB n lo hi = decide (n ≤ hi) := by simp [inB, h]
    go_enter Try.func79, Try.ntmps79
    go_wp2
    go_ret
    exact ⟨ret_bool hr.symm, rfl⟩
theorem rspan_any (s : Sp) (lo hi : Int) (w : World) : Calls Try.prog 80 #[spV s, .int .i64 lo, .int .i64 hi] w fun e w' => e = .returned (.bool (spanB s lo hi)) ∧ Below w.heap.size w w' := by
  obtain ⟨c0, c1⟩ := s
  unfold spV
  cases h : decide (lo ≤ c0)
  · have hr : spanB ⟨c0, c1⟩ lo hi = false := by simp [spanB, h]
    go_enter Try.func80, Try.ntmps80
    go_wp2
    go_ret
    exact ⟨ret_bool hr.symm, (by repeat (first | exact Below.refl _ _ | assumption | refine Below.drew ?_ | refine below_drewN ?_ _ | refine Below.alloc ?_ (by (try simp) <;> omega) _ | refine Below.setCell ?_ (by (try simp) <;> omega) _ | refine Below.trans ?_ (Below.mono (by assumption) (by (try simp) <;> omega))))⟩
  · cases h2 : decide (c0 ≤ c1)
    · have hr : spanB ⟨c0, c1⟩ lo hi = false := by simp [spanB, h2]
      go_enter Try.func80, Try.ntmps80
      go_wp2
      go_ret
      exact ⟨ret_bool hr.symm, (by repeat (first | exact Below.refl _ _ | assumption | refine Below.drew ?_ | refine below_drewN ?_ _ | refine Below.alloc ?_ (by (try simp) <;> omega) _ | refine Below.setCell ?_ (by (try simp) <;> omega) _ | refine Below.trans ?_ (Below.mono (by assumption) (by (try simp) <;> omega))))⟩
    · have hr : spanB ⟨c0, c1⟩ lo hi = decide (c1 ≤ hi) := by simp [spanB, h, h2]
      go_enter Try.func80, Try.ntmps80
      go_wp2
      go_ret
      exact ⟨ret_bool hr.symm, (by repeat (first | exact Below.refl _ _ | assumption | refine Below.drew ?_ | refine below_drewN ?_ _ | refine Below.alloc ?_ (by (try simp) <;> omega) _ | refine Below.setCell ?_ (by (try simp) <;> omega) _ | refine Below.trans ?_ (Below.mono (by assumption) (by (try simp) <;> omega))))⟩
theorem pow_le60 (k : Nat) (h : k ≤ 40) : (1 : Int) ≤ 2 ^ k ∧ (2 : Int) ^ k ≤ 1099511627776 := by
  have h1 := Nat.pow_le_pow_right (n := 2) (by omega) h
  have h2 := pow_cast k
  have h3 := Nat.two_pow_pos k
  omega
set_option maxRecDepth 100000 in
set_option maxHeartbeats 1600000 in
theorem power_any (n : Nat) (hn : n ≤ 40) (w : World) : Calls Try.prog 68 #[.int .i64 n] w fun e w' => e = .returned (.int .i64 (2 ^ n)) ∧ w' = w := by
  go_enter Try.func68, Try.ntmps68
  go_wp2
  go_loopw [3, 4] (fun x i wr => ∃ (k : Nat) (t : Int), k ≤ n ∧ i = .int .i64 k ∧ x = .int .i64 t ∧ Hid (t = 2 ^ k) ∧ wr = w) (fun _ i _ => n - (intOf i).toNat)
  case atStart => exact ⟨0, 1, Nat.zero_le _, rfl, rfl, rfl, rfl⟩
  case round =>
    obtain ⟨k, t, hk, rfl, rfl, HT, rfl⟩ := hrel
    have hb := pow_le60 k (by omega)
    rw [← HT.out] at hb
    obtain ⟨hb0, hb1⟩ := hb
    by_cases hlt : k < n
    · go_wp2
      go_roundw
      case rel => exact ⟨k + 1, 2 * t, by omega, by go_num, rfl, by show _ = _; rw [HT.out]; exact (Int.pow_succ' 2 k).symm, trivial⟩
      case measure => simp [intOf]; omega
    · obtain rfl : n = k := by omega
      go_wp2
      go_ret
      exact ⟨ret_int HT.out, rfl⟩
theorem tb_quo (s k : Nat) : (((s : Int) / 2 ^ k) % 2 == 1) = s.testBit k := by
  have h1 : (s : Int) / 2 ^ k = ((s / 2 ^ k : Nat) : Int) := by rw [← pow_cast k]; rfl
  rw [h1]
  have h2 : ((s / 2 ^ k : Nat) : Int) % 2 = ((s / 2 ^ k % 2 : Nat) : Int) := rfl
  rw [h2]
  have h3 : s.testBit k = decide (s / 2 ^ k % 2 = 1) := by rw [Nat.testBit_eq_decide_div_mod_eq]
  rw [h3]
  by_cases h : s / 2 ^ k % 2 = 1
  · simp [h]
  · have : s / 2 ^ k % 2 = 0 := by omega
    simp [this]
set_option maxRecDepth 100000 in
set_option maxHeartbeats 1600000 in
theorem has_any (s k : Nat) (hs : s < 4611686018427387904) (hk : k ≤ 40) (w : World) : Calls Try.prog 67 #[.int .i64 s, .int .i64 k] w fun e w' => e = .returned (.bool (s.testBit k)) ∧ w' = w := by
  have htb := tb_quo s k
  obtain ⟨hp0, hp1⟩ := pow_le60 k hk
  have hq0 : (0 : Int) ≤ s / 2 ^ k := Int.ediv_nonneg (by omega) (by omega)
  have hq1 : (s : Int) / 2 ^ k ≤ s := Int.ediv_le_self _ (by omega)
  have HT : Hid (((wrap64 ((s : Int) / 2 ^ k)).tmod 2 == 1) = s.testBit k) := by
    show _ = _
    have h : wrap64 ((s : Int) / 2 ^ k) = s / 2 ^ k := by unfold wrap64; omega
    rw [h, Int.tmod_eq_emod_of_nonneg hq0, htb]
  clear htb hq0 hq1
  go_enter Try.func67, Try.ntmps67
  go_wp2_with fail
  refine (power_any k hk w).mono ?_
  rintro e w' ⟨rfl, rfl⟩
  go_wp2
  go_ret
  exact ⟨ret_bool HT.out, rfl⟩
section
variable {low top bales : Int} {fa wa : Option Addr} {fl fc wl wc : Nat} {p : PressD}
set_option maxRecDepth 100000 in
set_option maxHeartbeats 1600000 in
theorem revery_any (hn : fl ≤ 40) (w : World) : Calls Try.prog 81 #[pressV fa fl fc low top bales wa wl wc] w fun e w' => e = .returned (.int .i64 (full fl : Nat)) ∧ Below w.heap.size w w' := by
  obtain ⟨hp0, hp1⟩ := pow_le60 fl hn
  have HF := Lib.hid (full_int fl)
  unfold pressV
  go_enter Try.func81, Try.ntmps81
  go_wp2_with fail
  refine (power_any fl hn _).mono ?_
  rintro e w' ⟨rfl, rfl⟩
  go_wp2
  go_ret
  exact ⟨ret_int HF.out.symm, (by repeat (first | exact Below.refl _ _ | assumption | refine Below.drew ?_ | refine below_drewN ?_ _ | refine Below.alloc ?_ (by (try simp) <;> omega) _ | refine Below.setCell ?_ (by (try simp) <;> omega) _ | refine Below.trans ?_ (Below.mono (by assumption) (by (try simp) <;> omega))))⟩
set_option maxRecDepth 100000 in
set_option maxHeartbeats 1600000 in
theorem every_any (hn : fl ≤ 40) (w : World) : Calls Try.prog 31 #[pressV fa fl fc low top bales wa wl wc] w fun e w' => e = .returned (.int .i64 (full fl : Nat)) ∧ Below w.heap.size w w' := by
  obtain ⟨hp0, hp1⟩ := pow_le60 fl hn
  have HF := Lib.hid (full_int fl)
  unfold pressV
  go_enter Try.func31, Try.ntmps31
  go_wp2
  go_ret
  exact ⟨ret_int HF.out.symm, (by repeat (first | exact Below.refl _ _ | assumption | refine Below.drew ?_ | refine below_drewN ?_ _ | refine Below.alloc ?_ (by (try simp) <;> omega) _ | refine Below.setCell ?_ (by (try simp) <;> omega) _ | refine Below.trans ?_ (Below.mono (by assumption) (by (try simp) <;> omega))))⟩
set_option maxRecDepth 100000 in
set_option maxHeartbeats 1600000 in
theorem rset_any (hn : fl ≤ 40) (n : Int) (w : World) : Calls Try.prog 61 #[pressV fa fl fc low top bales wa wl wc, .int .i64 n] w fun e w' => e = .returned (.bool (inB n 0 (full fl : Nat))) ∧ Below w.heap.size w w' := by
  unfold pressV
  go_enter Try.func61, Try.ntmps61
  go_wp2_with fail
  refine (revery_any (low := low) (top := top) (bales := bales) (fa := fa) (wa := wa) (fc := fc) (wl := wl) (wc := wc) hn _).mono ?_
  rintro e w1 ⟨rfl, hbw1⟩; obtain ⟨hcw1, hfw1⟩ := bcell hbw1; have hzw1 := hbw1.size; (try simp at hzw1)
  go_wp2_with fail
  refine (rin_any _ _ _ _).mono ?_
  rintro e w' ⟨rfl, rfl⟩
  go_wp2
  go_ret
  exact ⟨rfl, (by repeat (first | exact Below.refl _ _ | assumption | refine Below.drew ?_ | refine below_drewN ?_ _ | refine Below.alloc ?_ (by (try simp) <;> omega) _ | refine Below.setCell ?_ (by (try simp) <;> omega) _ | refine Below.trans ?_ (Below.mono (by assumption) (by (try simp) <;> omega))))⟩
theorem far_any (w : World) (m1 : fl ≤ 9223372036854775807) (m2 : wl ≤ 9223372036854775807) :
    Calls Try.prog 36 #[pressV fa fl fc low top bales wa wl wc] w fun e w' => (∃ b, e = .returned (.bool b) ∧ (b = false → fl ≤ 40 ∧ wl ≤ 40)) ∧ Below w.heap.size w w' := by
  obtain ⟨m, hm, hle⟩ : ∃ m : Int, (∀ w, (Builtin.max_ #[3, 3] 3 #[.int .i64 (fl : Int), .int .i64 (wl : Int)]).run Try.prog w = .ok (.int .i64 m) w) ∧ Hid (decide (40 < m) = false → fl ≤ 40 ∧ wl ≤ 40) := by
    refine ⟨max (fl : Int) wl, fun w => max_run _ _ w, show _ → _ from fun h => by simp at h; omega⟩
  unfold pressV
  go_enter Try.func36, Try.ntmps36
  go_wp2
  go_ret
  exact ⟨⟨_, rfl, hle.out⟩, (by repeat (first | exact Below.refl _ _ | assumption | refine Below.drew ?_ | refine below_drewN ?_ _ | refine Below.alloc ?_ (by (try simp) <;> omega) _ | refine Below.setCell ?_ (by (try simp) <;> omega) _ | refine Below.trans ?_ (Below.mono (by assumption) (by (try simp) <;> omega))))⟩
end
theorem inside_any (n : Int) (s : Sp) (w : World) : Calls Try.prog 35 #[.int .i64 n, spV s] w fun e w' => e = .returned (.bool (inB n s.lo s.hi)) ∧ Below w.heap.size w w' := by
  obtain ⟨c0, c1⟩ := s
  unfold spV
  cases h : decide (c0 ≤ n)
  · have hr : inB n c0 c1 = false := by simp [inB, h]
    go_enter Try.func35, Try.ntmps35
    go_wp2
    go_ret
    exact ⟨ret_bool hr.symm, (by repeat (first | exact Below.refl _ _ | assumption | refine Below.drew ?_ | refine below_drewN ?_ _ | refine Below.alloc ?_ (by (try simp) <;> omega) _ | refine Below.setCell ?_ (by (try simp) <;> omega) _ | refine Below.trans ?_ (Below.mono (by assumption) (by (try simp) <;> omega))))⟩
  · have hr : inB n c0 c1 = decide (n ≤ c1) := by simp [inB, h]
    go_enter Try.func35, Try.ntmps35
    go_wp2
    go_ret
    exact ⟨ret_bool hr.symm, (by repeat (first | exact Below.refl _ _ | assumption | refine Below.drew ?_ | refine below_drewN ?_ _ | refine Below.alloc ?_ (by (try simp) <;> omega) _ | refine Below.setCell ?_ (by (try simp) <;> omega) _ | refine Below.trans ?_ (Below.mono (by assumption) (by (try simp) <;> omega))))⟩
theorem lspan_any (lo hi : Int) (w : World) : Calls Try.prog 38 #[.int .i64 lo, .int .i64 hi] w fun e w' => e = .returned (spV ⟨lo, hi⟩) ∧ Below w.heap.size w w' := by
  go_enter Try.func38, Try.ntmps38
  go_wp2
  refine bodyPost_ret (v := spV ⟨lo, hi⟩) (by simp [results, Try.results38, go_sem, spV]) rfl ⟨rfl, (by repeat (first | exact Below.refl _ _ | assumption | refine Below.drew ?_ | refine below_drewN ?_ _ | refine Below.alloc ?_ (by (try simp) <;> omega) _ | refine Below.setCell ?_ (by (try simp) <;> omega) _ | refine Below.trans ?_ (Below.mono (by assumption) (by (try simp) <;> omega))))⟩
theorem fleece_any (lo hi line : Int) (w : World) : Calls Try.prog 103 #[.int .i64 lo, .int .i64 hi, .int .i64 line] w fun e w' => e = .returned (.agg #[.int .i64 lo, .int .i64 hi, .int .i64 line]) ∧ Below w.heap.size w w' := by
  go_enter Try.func103, Try.ntmps103
  go_wp2_with fail
  refine (lspan_any lo hi _).mono ?_
  unfold spV
  rintro e w1 ⟨rfl, hbw1⟩; obtain ⟨hcw1, hfw1⟩ := bcell hbw1; have hzw1 := hbw1.size; (try simp at hzw1)
  go_wp2
  have hk := (((Blk.new_ (w := w) rfl 58 #[.int .i64 0, .int .i64 0, .int .i64 0]).below hbw1 (by simp)).set_ 0 (.int .i64 lo)).set_ 1 (.int .i64 hi) |>.set_ 2 (.int .i64 line)
  have e0 := hk.cell 0
  have e1 := hk.cell 1
  have e2 := hk.cell 2
  simp at e0 e1 e2
  refine bodyPost_ret (v := .agg #[.int .i64 lo, .int .i64 hi, .int .i64 line]) (by simp [results, Try.results103, go_sem, e0, e1, e2]) rfl ⟨rfl, ?_⟩
  exact setCell_below (setCell_below (setCell_below (((Below.refl w.heap.size w).alloc (Nat.le_refl _) _).trans (hbw1.mono (by simp))) (Nat.le_refl _) 0 _) (Nat.le_refl _) 1 _) (Nat.le_refl _) 2 _
theorem weighed_any (set lo hi : Int) (w : World) : Calls Try.prog 39 #[.int .i64 set, .int .i64 lo, .int .i64 hi] w fun e w' => e = .returned (.agg #[.int .i64 set, .int .i64 lo, .int .i64 hi]) ∧ Below w.heap.size w w' := by
  go_enter Try.func39, Try.ntmps39
  go_wp2_with fail
  refine (lspan_any lo hi _).mono ?_
  unfold spV
  rintro e w1 ⟨rfl, hbw1⟩; obtain ⟨hcw1, hfw1⟩ := bcell hbw1; have hzw1 := hbw1.size; (try simp at hzw1)
  go_wp2
  have hk := (((Blk.new_ (w := w) rfl 56 #[.int .i64 0, .int .i64 0, .int .i64 0]).below hbw1 (by simp)).set_ 0 (.int .i64 set)).set_ 1 (.int .i64 lo) |>.set_ 2 (.int .i64 hi)
  have e0 := hk.cell 0
  have e1 := hk.cell 1
  have e2 := hk.cell 2
  simp at e0 e1 e2
  refine bodyPost_ret (v := .agg #[.int .i64 set, .int .i64 lo, .int .i64 hi]) (by simp [results, Try.results39, go_sem, e0, e1, e2]) rfl ⟨rfl, ?_⟩
  exact setCell_below (setCell_below (setCell_below (((Below.refl w.heap.size w).alloc (Nat.le_refl _) _).trans (hbw1.mono (by simp))) (Nat.le_refl _) 0 _) (Nat.le_refl _) 1 _) (Nat.le_refl _) 2 _
end Go.Proofs.Ytbfjebglaimcmaa
namespace Go.Proofs.Ytbfjebglaimcmaa
open Go.RowKit Go.Hav
theorem and_of_bits {a b : Nat} (ha : a < 2 ^ 10) (h : ∀ i, i < 10 → ¬ (a.testBit i = true ∧ b.testBit i = true)) : (a &&& b == 0) = true := by
  rw [beq_iff_eq]
  refine Nat.eq_of_testBit_eq fun i => ?_
  rw [Nat.testBit_and, Nat.zero_testBit]
  by_cases hi : i < 10
  · have := h i hi
    cases h1 : a.testBit i <;> cases h2 : b.testBit i <;> simp_all
  · have : a.testBit i = false := Nat.testBit_lt_two_pow (Nat.lt_of_lt_of_le ha (Nat.pow_le_pow_right (by omega) (by omega)))
    rw [this]
    rfl
theorem and_of_bit {a b i : Nat} (h1 : a.testBit i = true) (h2 : b.testBit i = true) : (a &&& b == 0) = false := by
  rw [beq_eq_false_iff_ne]
  intro e
  have := congrArg (Nat.testBit · i) e
  simp [Nat.testBit_and, h1, h2] at this
set_option maxRecDepth 100000 in
set_option maxHeartbeats 1600000 in
theorem apart_any (a b : Nat) (ha : a < 1024) (hb : b < 1024) (w : World) : Calls Try.prog 82 #[.int .i64 a, .int .i64 b] w fun e w' => e = .returned (.bool (a &&& b == 0)) ∧ w' = w := by
  go_enter Try.func82, Try.ntmps82
  go_wp2
  go_loopw [5] (fun i wr => ∃ k : Nat, k ≤ 10 ∧ i = .int .i64 k ∧ Hid (∀ i, i < k → ¬ (a.testBit i = true ∧ b.testBit i = true)) ∧ wr = w) (fun i _ => 10 - (intOf i).toNat)
  case atStart => exact ⟨0, Nat.zero_le _, rfl, by show ∀ i, _ → _; intro i hi; omega, rfl⟩
  case round =>
    obtain ⟨k, hk, rfl, HA, rfl⟩ := hrel
    by_cases hlt : k < 10
    · have hkt : decide ((k : Int) < 10) = true := by simp; omega
      go_wp2_with fail
      refine (has_any a k (by omega) (by omega) _).mono ?_
      cases h1 : a.testBit k
      · have HA2 : Hid (∀ i, i < k + 1 → ¬ (a.testBit i = true ∧ b.testBit i = true)) := show ∀ i, _ → _ from fun i hi => by
          by_cases e : i = k
          · subst e; rw [h1]; simp
          · exact HA.out i (by omega)
        clear h1
        rintro e w' ⟨rfl, rfl⟩
        go_wp2
        go_roundw
        case rel => exact ⟨k + 1, by omega, by go_num, HA2, trivial⟩
        case measure => simp [intOf]; omega
      · rintro e w' ⟨rfl, rfl⟩
        go_wp2_with fail
        refine (has_any b k (by omega) (by omega) _).mono ?_
        cases h2 : b.testBit k
        · have HA2 : Hid (∀ i, i < k + 1 → ¬ (a.testBit i = true ∧ b.testBit i = true)) := show ∀ i, _ → _ from fun i hi => by
            by_cases e : i = k
            · subst e; rw [h2]; simp
            · exact HA.out i (by omega)
          clear h1 h2
          rintro e w' ⟨rfl, rfl⟩
          go_wp2
          go_roundw
          case rel => exact ⟨k + 1, by omega, by go_num, HA2, trivial⟩
          case measure => simp [intOf]; omega
        · have HF := Lib.hid (and_of_bit h1 h2)
          clear h1 h2
          rintro e w' ⟨rfl, rfl⟩
          go_wp2
          go_ret
          exact ⟨ret_bool HF.out.symm, rfl⟩
    · obtain rfl : k = 10 := by omega
      have HF := Lib.hid (and_of_bits (by omega) HA.out)
      go_wp2
      go_ret
      exact ⟨ret_bool HF.out.symm, rfl⟩
theorem pop_half : ∀ m, m < 1024 → pop m 10 = (m : Int) % 2 + pop (m / 2) 10 := of_decide_eq_true (by kernel_rfl)
set_option maxRecDepth 100000 in
set_option maxHeartbeats 1600000 in
theorem size_any (s : Nat) (hs : s < 1024) (w : World) : Calls Try.prog 40 #[.int .i64 s] w fun e w' => e = .returned (.int .i64 (pop s 10)) ∧ w' = w := by
  have hps := pop_bd s 10
  obtain ⟨P, HP⟩ : ∃ P, Hid (pop s 10 = P) := ⟨_, rfl⟩
  rw [HP.out] at hps ⊢
  obtain ⟨hp0, hp1⟩ := hps
  go_enter Try.func40, Try.ntmps40
  go_wp2
  go_loopw [0, 3] (fun x y wr => ∃ (m : Nat) (t : Int), m < 1024 ∧ x = .int .i64 m ∧ y = .int .i64 t ∧ 0 ≤ t ∧ t ≤ 10 ∧ Hid (t + pop m 10 = P) ∧ wr = w) (fun x _ _ => (intOf x).toNat)
  case atStart => exact ⟨s, 0, hs, rfl, rfl, by omega, by omega, by show _ = _; rw [← HP.out]; omega, rfl⟩
  case round =>
    obtain ⟨m, t, hm, rfl, rfl, ht0, ht1, HT, rfl⟩ := hrel
    by_cases h0 : 0 < m
    · have hd : decide ((0 : Int) < m) = true := by simp; omega
      have HH := Lib.hid (pop_half m hm)
      have hpb := pop_bd (m / 2) 10
      have HTD : Hid ((m : Int) / 2 = ((m / 2 : Nat) : Int)) := rfl
      have HTM : Hid ((m : Int).tmod 2 = (m : Int) % 2) := by show _ = _; rw [Int.tmod_eq_emod_of_nonneg (by omega)]
      have hmd : 0 ≤ (m : Int) % 2 ∧ (m : Int) % 2 ≤ 1 := by omega
      have hsum : t + (m : Int) % 2 + pop (m / 2) 10 = P := by have h1 := HH.out; have h2 := HT.out; omega
      have HS := Lib.hid hsum
      have hb2 : t + (m : Int) % 2 ≤ 10 := by omega
      have htm := HTM.out
      clear hsum
      go_wp2
      go_roundw
      case rel => exact ⟨m / 2, t + (m : Int) % 2, by omega, by go_num, rfl, by omega, by omega, HS.out, trivial⟩
      case measure => simp [intOf]; omega
    · obtain rfl : m = 0 := by omega
      have hd : decide ((0 : Int) < ((0 : Nat) : Int)) = false := rfl
      have hz : Hid (t = P) := by
        have h := HT.out
        have h0 : pop 0 10 = 0 := rfl
        show _ = _
        omega
      go_wp2
      go_ret
      exact ⟨ret_int hz.out, rfl⟩
end Go.Proofs.Ytbfjebglaimcmaa
namespace Go.Proofs.Ytbfjebglaimcmaa
open Go.RowKit Go.Hav
section
variable {low top bales : Int} {fa wa : Option Addr} {fl fc wl wc : Nat} {p : PressD}
set_option maxRecDepth 100000 in
set_option maxHeartbeats 1600000 in
theorem lalike_any (hv : p.ok = true) (s : Nat) (hs : s < 1024) (w : World) (hP : PressIn w w.heap.size fa fl low top bales wa wl p) :
    Calls Try.prog 34 #[pressV fa fl fc low top bales wa wl wc, .int .i64 s] w fun e w' => e = .returned (.bool (p.alike s)) ∧ Below w.heap.size w w' := by
  have HP := Lib.hid hP
  have HV := Lib.hid hv
  have hn := (PressD.ok_head hv).1
  have HE : Hid (p.n = fl) := hP.efl
  have hfl : fl ≤ 10 := by have := HE.out; omega
  clear hv hP hn
  unfold pressV
  go_enter Try.func34, Try.ntmps34
  go_wp2
  go_loopw [5, 11] (fun l i wr => ∃ (k : Nat) (L : Int), k ≤ fl ∧ i = .int .i64 k ∧ l = .int .i64 L ∧ Hid (lineF p s k = L) ∧ -1 ≤ L ∧ L ≤ 2 ∧ Hid (∀ i, i < k → s.testBit i = true → p.line i = L) ∧ Below w.heap.size w wr ∧ w.heap.size < wr.heap.size) (fun _ i _ => fl - (intOf i).toNat)
  case atStart => exact ⟨0, -1, Nat.zero_le _, rfl, rfl, rfl, by omega, by omega, fun i hi => by omega, (Below.refl _ _).alloc (Nat.le_refl _) _, by simp⟩
  case round =>
    obtain ⟨k, L, hk, rfl, rfl, HL, hl1, hl2, HS, hbw, hsz⟩ := hrel
    have HB := Lib.hid hbw
    clear hbw
    by_cases hlt : k < fl
    · obtain ⟨c, hc⟩ : ∃ c, p.fl[k]? = some c := ⟨p.fl[k]'(by have := HE.out; unfold PressD.n at this; omega), by simp⟩
      have HC := Lib.hid (fw_of hc)
      have hcl : 0 ≤ c.line ∧ c.line ≤ 2 := by
        have := PressD.ok_fl HV.out (i := k) (by rw [HE.out]; exact hlt)
        rw [HC.out.2] at this; omega
      obtain ⟨hcl0, hcl1⟩ := hcl
      obtain ⟨b, off, rfl, hbl, H0, H1, H2⟩ := rd_fl ((HP.out.grow HB.out).hfl) k c hc
      have hbw : b < wr.heap.size := hbl
      have htb := tb0_i64 s k (by omega)
      obtain ⟨⟨c0, c1⟩, cl⟩ := c
      simp only at H0 H1 H2 hcl0 hcl1 HC
      clear hc
      cases hbit : s.testBit k
      · have HL2 : Hid (lineF p s (k + 1) = L) := by show _ = _; rw [lineF, if_neg (by rw [hbit]; simp), HL.out]
        have HS2 : Hid (∀ i, i < k + 1 → s.testBit i = true → p.line i = L) := fun i hi hb => by
          by_cases e : i = k
          · subst e; rw [hbit] at hb; cases hb
          · exact HS.out i (by omega) hb
        rw [hbit] at htb
        simp only [Bool.not_false] at htb
        clear hbit
        go_wp2
        go_roundw
        case rel => exact ⟨k + 1, L, by omega, by go_num, rfl, HL2, by omega, by omega, HS2, HB.out.alloc (by omega) _, by simp; omega⟩
        case measure => simp [intOf]; omega
      · rw [hbit] at htb
        simp only [Bool.not_true] at htb
        by_cases hL : L < 0
        · have HL2 : Hid (lineF p s (k + 1) = cl) := by show _ = _; rw [lineF, if_pos hbit, HL.out, if_pos hL, HC.out.2]
          have HS2 : Hid (∀ i, i < k + 1 → s.testBit i = true → p.line i = cl) := fun i hi hb => by
            by_cases e : i = k
            · subst e; exact HC.out.2
            · have h0 := (lineF_neg HV.out s (k := k) (by rw [HE.out]; omega)).2.2.1 (by rw [HL.out]; exact hL) i (by omega)
              rw [hb] at h0; cases h0
          clear hbit
          go_wp2
          go_roundw
          case rel => exact ⟨k + 1, cl, by omega, by go_num, rfl, HL2, by omega, by omega, HS2, HB.out.alloc (by omega) _, by simp; omega⟩
          case measure => simp [intOf]; omega
        · by_cases hne : L = cl
          · subst hne
            have HL2 : Hid (lineF p s (k + 1) = L) := by show _ = _; rw [lineF, if_pos hbit, HL.out, if_neg hL]
            have HS2 : Hid (∀ i, i < k + 1 → s.testBit i = true → p.line i = L) := fun i hi hb => by
              by_cases e : i = k
              · subst e; exact HC.out.2
              · exact HS.out i (by omega) hb
            have hbn : (L != L) = false := by simp
            clear hbit
            go_wp2
            go_roundw
            case rel => exact ⟨k + 1, L, by omega, by go_num, rfl, HL2, by omega, by omega, HS2, HB.out.alloc (by omega) _, by simp; omega⟩
            case measure => simp [intOf]; omega
          · have HF : Hid (p.alike s = false) := by
              obtain ⟨i, h1, h2, h3⟩ := lineF_at (p := p) (s := s) (k := k) (by rw [HL.out]; omega)
              exact alike_no (by have := HE.out; omega) (by rw [HE.out]; exact hlt) h2 hbit (by rw [h3, HL.out, HC.out.2]; exact hne)
            have hbn : (cl != L) = true := by simp [Ne.symm hne]
            clear hbit hne
            go_wp2
            go_ret
            exact ⟨ret_bool HF.out.symm, HB.out.alloc (by omega) _⟩
    · obtain rfl : fl = k := by omega
      have HF : Hid (p.alike s = decide (0 ≤ L)) := by
        have h := alike_iff HV.out s (fun i hi hb => by rw [HE.out] at hi ⊢; rw [HL.out]; exact HS.out i hi hb)
        rw [HE.out, HL.out] at h
        exact h
      go_wp2
      go_ret
      exact ⟨ret_bool (by rw [HF.out]), HB.out⟩
end
/-- The numbers of a list, added up over a set. -/
def totL (l : List Int) (s k : Nat) : Int := sb (fun i => (l[i]?).getD 0) s k
theorem totL_bd {l : List Int} (hb : ∀ x ∈ l, -1000 ≤ x ∧ x ≤ 1000) (s k : Nat) : -(1000 * k : Int) ≤ totL l s k ∧ totL l s k ≤ 1000 * k := by
  have h := sb_bd (f := fun i => (l[i]?).getD 0) (s := s) (l := -1000) (h := 1000) (by omega) (by omega) k (fun i _ _ => by
    cases hx : l[i]? with
    | none => simp
    | some x => simpa using hb x (List.mem_of_getElem? hx))
  unfold totL
  omega
section
variable {A A2 : Option Addr} {n c n2 c2 : Nat} {l l2 : List Int}
set_option maxRecDepth 100000 in
set_option maxHeartbeats 1600000 in
theorem total_any (hn : n ≤ 40) (hl : l.length = n) (hb : ∀ x ∈ l, -1000 ≤ x ∧ x ≤ 1000) (s : Nat) (hs : s < 1024) (w : World) (hR : RdG inF 1 w w.heap.size A l) :
    Calls Try.prog 33 #[.slice A n c, .int .i64 s] w fun e w' => e = .returned (.int .i64 (totL l s n)) ∧ w' = w := by
  have HR := Lib.hid hR
  have HL := Lib.hid hl
  have HBD := Lib.hid (totL_bd hb s)
  have HBX := Lib.hid hb
  clear hR hl hb
  go_enter Try.func33, Try.ntmps33
  go_wp2
  go_loopw [4, 9] (fun x i wr => ∃ (k : Nat) (t : Int), k ≤ n ∧ i = .int .i64 k ∧ x = .int .i64 t ∧ Hid (t = totL l s k) ∧ wr = w) (fun _ i _ => n - (intOf i).toNat)
  case atStart => exact ⟨0, 0, Nat.zero_le _, rfl, rfl, rfl, rfl⟩
  case round =>
    obtain ⟨k, t, hk, rfl, rfl, HT, rfl⟩ := hrel
    have hb := HBD.out k
    rw [← HT.out] at hb
    obtain ⟨hb0, hb1⟩ := hb
    by_cases hlt : k < n
    · obtain ⟨x, hx⟩ : ∃ x, l[k]? = some x := ⟨l[k]'(by have := HL.out; omega), by simp⟩
      obtain ⟨gb, off, hsa, hbl, H0⟩ := rd_in HR.out k x hx
      subst hsa
      have hxb := HBX.out x (List.mem_of_getElem? hx)
      obtain ⟨hx0, hx1⟩ := hxb
      have HX := Lib.hid hx
      clear hx
      have htb := tb_i64 s k (by omega)
      cases hbit : s.testBit k
      · have HN : Hid (t = totL l s (k + 1)) := by show _ = _; rw [HT.out, totL, totL, sb, if_neg (by rw [hbit]; simp)]; omega
        rw [hbit] at htb
        clear hbit
        go_wp2
        go_roundw
        case rel => exact ⟨k + 1, t, by omega, by go_num, rfl, HN, trivial⟩
        case measure => simp [intOf]; omega
      · have HN : Hid (t + x = totL l s (k + 1)) := by show _ = _; rw [HT.out, totL, totL, sb, if_pos hbit, HX.out]; rfl
        rw [hbit] at htb
        clear hbit
        go_wp2
        go_roundw
        case rel => exact ⟨k + 1, t + x, by omega, by go_num, rfl, HN, trivial⟩
        case measure => simp [intOf]; omega
    · obtain rfl : n = k := by omega
      go_wp2
      go_ret
      exact ⟨ret_int HT.out, rfl⟩
theorem take_ne {k : Nat} {x y : Int} (hx : l[k]? = some x) (hy : l2[k]? = some y) (h : x ≠ y) : l ≠ l2 := fun e => by
  rw [e, hy] at hx
  exact h (Option.some.inj hx).symm
set_option maxRecDepth 100000 in
set_option maxHeartbeats 1600000 in
theorem ints_any (hn : n ≤ 1000) (hl : l.length = n) (hn2 : n2 ≤ 1000) (hl2 : l2.length = n2) (w : World) (hR : RdG inF 1 w w.heap.size A l) (hR2 : RdG inF 1 w w.heap.size A2 l2) :
    Calls Try.prog 28 #[.slice A n c, .slice A2 n2 c2] w fun e w' => e = .returned (.bool (decide (l = l2))) ∧ Below w.heap.size w w' := by
  have HR := Lib.hid hR
  have HL := Lib.hid hl
  have HR2 := Lib.hid hR2
  have HL2 := Lib.hid hl2
  clear hR hl hR2 hl2
  by_cases hnn : n = n2
  · subst hnn
    have h00 : ((n : Int) != n) = false := by simp
    go_enter Try.func28, Try.ntmps28
    go_wp2
    go_loopw [5] (fun i wr => ∃ k : Nat, k ≤ n ∧ i = .int .i64 k ∧ Hid (l.take k = l2.take k) ∧ Below w.heap.size w wr) (fun i _ => n - (intOf i).toNat)
    case atStart => exact ⟨0, Nat.zero_le _, rfl, rfl, Below.refl _ _⟩
    case round =>
      obtain ⟨k, hk, rfl, HT, hb⟩ := hrel
      have HB := Lib.hid hb
      clear hb
      by_cases hlt : k < n
      · obtain ⟨x, hx⟩ : ∃ x, l[k]? = some x := ⟨l[k]'(by have := HL.out; omega), by simp⟩
        obtain ⟨y, hy⟩ : ∃ y, l2[k]? = some y := ⟨l2[k]'(by have := HL2.out; omega), by simp⟩
        obtain ⟨gb, off, hsa, hbl, H0⟩ := rd_in (HR.out.grow HB.out) k x hx
        subst hsa
        obtain ⟨gb2, off2, hsa2, hbl2, H02⟩ := rd_in (HR2.out.grow HB.out) k y hy
        subst hsa2
        have HX := Lib.hid hx
        have HY := Lib.hid hy
        clear hx hy
        by_cases hxy : x = y
        · have HN : Hid (l.take (k + 1) = l2.take (k + 1)) := by show _ = _; rw [List.take_add_one, List.take_add_one, HT.out, HX.out, HY.out, hxy]
          have hne : (x != y) = false := by simp [hxy]
          clear hxy
          go_wp2
          refine wp_region_havoc [(0,false),(1,false),(2,false),(3,false),(4,false),(5,false),(6,false),(7,false),(8,false)] [] (fun _ _ => False) (by kernel_rfl) (by kernel_rfl) (fun _ _ _ _ h => h.elim) ?_
          (apply hav_same (by simp only [List.getElem?_toArray, List.getElem?_cons_zero]; rfl) (by kernel_rfl); (focus (intro wv hgv _; have hcv : ∀ b o, b < _ → wv.cell? ⟨b, o, none⟩ = _ := fun b o hb => Below.cell hgv (p := ⟨b, o, none⟩) hb; (try go_simp); try rfl; done)); simp only [Act.put, List.setIfInBounds_toArray, List.set_cons_succ, List.set_cons_zero])
          iterate 8 (apply hav_same (by simp only [List.getElem?_toArray, List.getElem?_cons_succ, List.getElem?_cons_zero]; rfl) (by kernel_rfl); (focus (intro wv hgv _; have hcv : ∀ b o, b < _ → wv.cell? ⟨b, o, none⟩ = _ := fun b o hb => Below.cell hgv (p := ⟨b, o, none⟩) hb; (try go_simp); try rfl; done)); simp only [Act.put, List.setIfInBounds_toArray, List.set_cons_succ, List.set_cons_zero])
          refine hav_end (fun w3 hgw3 _ => ?_); simp only [List.filterMap]; have hcw3 : ∀ b o, b < _ → w3.cell? ⟨b, o, none⟩ = _ := fun b o hb => Below.cell hgw3 (p := ⟨b, o, none⟩) hb; have hfw3 : ∀ b o, b < _ → w3.frozen? ⟨b, o, none⟩ = _ := fun b o hb => Below.frozen hgw3 (p := ⟨b, o, none⟩) hb; have hzw3 := Below.size hgw3; (try simp at hzw3)
          have HB3 : Hid (Below w.heap.size w w3) := HB.out.trans (hgw3.mono HB.out.size)
          clear hgw3 hcw3 hfw3
          go_wp2
          go_roundw
          case rel => exact ⟨k + 1, by omega, by go_num, HN, HB3.out⟩
          case measure => simp [intOf]; omega
        · have HF := Lib.hid (take_ne HX.out HY.out hxy)
          have hne : (x != y) = true := by simp [hxy]
          clear hxy
          go_wp2
          refine wp_region_havoc [(0,false),(1,false),(2,false),(3,false),(4,false),(5,false),(6,false),(7,false),(8,false)] [] (fun _ _ => False) (by kernel_rfl) (by kernel_rfl) (fun _ _ _ _ h => h.elim) ?_
          (apply hav_same (by simp only [List.getElem?_toArray, List.getElem?_cons_zero]; rfl) (by kernel_rfl); (focus (intro wv hgv _; have hcv : ∀ b o, b < _ → wv.cell? ⟨b, o, none⟩ = _ := fun b o hb => Below.cell hgv (p := ⟨b, o, none⟩) hb; (try go_simp); try rfl; done)); simp only [Act.put, List.setIfInBounds_toArray, List.set_cons_succ, List.set_cons_zero])
          iterate 8 (apply hav_same (by simp only [List.getElem?_toArray, List.getElem?_cons_succ, List.getElem?_cons_zero]; rfl) (by kernel_rfl); (focus (intro wv hgv _; have hcv : ∀ b o, b < _ → wv.cell? ⟨b, o, none⟩ = _ := fun b o hb => Below.cell hgv (p := ⟨b, o, none⟩) hb; (try go_simp); try rfl; done)); simp only [Act.put, List.setIfInBounds_toArray, List.set_cons_succ, List.set_cons_zero])
          refine hav_end (fun w3 hgw3 _ => ?_); simp only [List.filterMap]; have hcw3 : ∀ b o, b < _ → w3.cell? ⟨b, o, none⟩ = _ := fun b o hb => Below.cell hgw3 (p := ⟨b, o, none⟩) hb; have hfw3 : ∀ b o, b < _ → w3.frozen? ⟨b, o, none⟩ = _ := fun b o hb => Below.frozen hgw3 (p := ⟨b, o, none⟩) hb; have hzw3 := Below.size hgw3; (try simp at hzw3)
          have HB3 : Hid (Below w.heap.size w w3) := HB.out.trans (hgw3.mono HB.out.size)
          clear hgw3 hcw3 hfw3
          go_wp2
          go_ret
          exact ⟨ret_bool (by simp [HF.out]), HB3.out⟩
      · obtain rfl : n = k := by omega
        have HF : Hid (l = l2) := by
          show _ = _
          have h := HT.out
          rwa [List.take_of_length_le (by have := HL.out; omega), List.take_of_length_le (by have := HL2.out; omega)] at h
        go_wp2
        go_ret
        exact ⟨ret_bool (by simp [HF.out]), HB.out⟩
  · have HF : Hid (l ≠ l2) := show l ≠ l2 from fun e => hnn (by have h1 := HL.out; have h2 := HL2.out; rw [e] at h1; omega)
    have h01 : (n != n2) = true := by simp [hnn]
    have h00 : ((n : Int) != n2) = true := by simp; omega
    go_enter Try.func28, Try.ntmps28
    go_wp2
    go_ret
    exact ⟨ret_bool (by simp [HF.out]), Below.refl _ _⟩
end
end Go.Proofs.Ytbfjebglaimcmaa
namespace Go.Proofs.Ytbfjebglaimcmaa
open Go.RowKit Go.Hav
theorem used_and (p : PressD) (s : Nat) : ∀ k, (p.used k &&& s = 0 ↔ ∀ j, j < k → p.bs j &&& s = 0) := by
  intro k
  induction k with
  | zero => simp [PressD.used]
  | succ k ih =>
    rw [PressD.used, Nat.and_or_distrib_right, Nat.or_eq_zero_iff, ih]
    constructor
    · rintro ⟨h1, h2⟩ j hj
      by_cases e : j = k
      · subst e; exact h2
      · exact h1 j (by omega)
    · intro h
      exact ⟨fun j hj => h j (by omega), h k (by omega)⟩
theorem take_all {α : Type} {P : α → Bool} {l : List α} {k : Nat} {c : α} (hc : l[k]? = some c) (h : (l.take k).all P = true) (hP : P c = true) : (l.take (k + 1)).all P = true := by
  rw [List.take_add_one, hc, List.all_append, h]
  simp [hP]
theorem range_all {P : Nat → Bool} {k : Nat} (h : (List.range k).all P = true) (hP : P k = true) : (List.range (k + 1)).all P = true := by
  rw [List.range_succ, List.all_append, h]
  simp [hP]
section
variable {low top bales : Int} {fa wa : Option Addr} {fl fc wl wc : Nat} {p : PressD}
set_option maxRecDepth 100000 in
set_option maxHeartbeats 1600000 in
theorem rpress_head (w : World) (hP : PressIn w w.heap.size fa fl low top bales wa wl p) (hh : p.headB = false) : Calls Try.prog 37 #[pressV fa fl fc low top bales wa wl wc] w fun e w' => e = .returned (.bool p.ok) ∧ Below w.heap.size w w' := by
  have HR : Hid (p.ok = false) := by show _ = _; rw [PressD.ok, hh]; rfl
  rw [headB_eq hP] at hh
  have m1 := hP.mfl
  have m2 := hP.mwl
  clear hP
  unfold pressV
  by_cases h1 : fl ≤ 10
  case neg =>
    have hd : decide ((10 : Int) < fl) = true := by simp; omega
    go_enter Try.func37, Try.ntmps37
    go_wp2
    go_ret
    exact ⟨ret_bool HR.out.symm, (by repeat (first | exact Below.refl _ _ | assumption | refine Below.drew ?_ | refine below_drewN ?_ _ | refine Below.alloc ?_ (by (try simp) <;> omega) _ | refine Below.setCell ?_ (by (try simp) <;> omega) _ | refine Below.trans ?_ (Below.mono (by assumption) (by (try simp) <;> omega))))⟩
  have hd : decide ((10 : Int) < fl) = false := by simp; omega
  cases h2 : inB low 1 200
  · go_enter Try.func37, Try.ntmps37
    go_wp2_with fail
    refine (rin_any _ _ _ _).mono ?_
    rw [h2]
    rintro e w' ⟨rfl, rfl⟩
    go_wp2
    go_ret
    exact ⟨ret_bool HR.out.symm, (by repeat (first | exact Below.refl _ _ | assumption | refine Below.drew ?_ | refine below_drewN ?_ _ | refine Below.alloc ?_ (by (try simp) <;> omega) _ | refine Below.setCell ?_ (by (try simp) <;> omega) _ | refine Below.trans ?_ (Below.mono (by assumption) (by (try simp) <;> omega))))⟩
  cases h3 : inB top low 200
  · go_enter Try.func37, Try.ntmps37
    go_wp2_with fail
    refine (rin_any _ _ _ _).mono ?_
    rw [h2]
    rintro e w' ⟨rfl, rfl⟩
    go_wp2_with fail
    refine (rin_any _ _ _ _).mono ?_
    rw [h3]
    rintro e w' ⟨rfl, rfl⟩
    go_wp2
    go_ret
    exact ⟨ret_bool HR.out.symm, (by repeat (first | exact Below.refl _ _ | assumption | refine Below.drew ?_ | refine below_drewN ?_ _ | refine Below.alloc ?_ (by (try simp) <;> omega) _ | refine Below.setCell ?_ (by (try simp) <;> omega) _ | refine Below.trans ?_ (Below.mono (by assumption) (by (try simp) <;> omega))))⟩
  cases h4 : inB bales 0 5
  · go_enter Try.func37, Try.ntmps37
    go_wp2_with fail
    refine (rin_any _ _ _ _).mono ?_
    rw [h2]
    rintro e w' ⟨rfl, rfl⟩
    go_wp2_with fail
    refine (rin_any _ _ _ _).mono ?_
    rw [h3]
    rintro e w' ⟨rfl, rfl⟩
    go_wp2_with fail
    refine (rin_any _ _ _ _).mono ?_
    rw [h4]
    rintro e w' ⟨rfl, rfl⟩
    go_wp2
    go_ret
    exact ⟨ret_bool HR.out.symm, (by repeat (first | exact Below.refl _ _ | assumption | refine Below.drew ?_ | refine below_drewN ?_ _ | refine Below.alloc ?_ (by (try simp) <;> omega) _ | refine Below.setCell ?_ (by (try simp) <;> omega) _ | refine Below.trans ?_ (Below.mono (by assumption) (by (try simp) <;> omega))))⟩
  have h5 : ¬ wl ≤ 4 := fun h => by simp [h1, h2, h3, h4, h] at hh
  have hd5 : decide ((4 : Int) < wl) = true := by simp; omega
  clear hh
  go_enter Try.func37, Try.ntmps37
  go_wp2_with fail
  refine (rin_any _ _ _ _).mono ?_
  rw [h2]
  rintro e w' ⟨rfl, rfl⟩
  go_wp2_with fail
  refine (rin_any _ _ _ _).mono ?_
  rw [h3]
  rintro e w' ⟨rfl, rfl⟩
  go_wp2_with fail
  refine (rin_any _ _ _ _).mono ?_
  rw [h4]
  rintro e w' ⟨rfl, rfl⟩
  go_wp2
  go_ret
  exact ⟨ret_bool HR.out.symm, (by repeat (first | exact Below.refl _ _ | assumption | refine Below.drew ?_ | refine below_drewN ?_ _ | refine Below.alloc ?_ (by (try simp) <;> omega) _ | refine Below.setCell ?_ (by (try simp) <;> omega) _ | refine Below.trans ?_ (Below.mono (by assumption) (by (try simp) <;> omega))))⟩
end
end Go.Proofs.Ytbfjebglaimcmaa
