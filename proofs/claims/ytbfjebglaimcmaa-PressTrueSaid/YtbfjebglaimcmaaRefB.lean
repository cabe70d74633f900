/- The walks of the reference's Apart, Size, Ints; of the law's total, alike. -/
import Derived.Test.YtbfjebglaimcmaaRefA
namespace Go.Proofs.Ytbfjebglaimcmaa
open Go.RowKit Go.Hav
theorem and_of_bits {a b : Nat} (ha : a < 2 ^ 10) (h : ∀ i, i < 10 → ¬ (a.testBit i = true ∧ b.testBit i = true)) : (a &&& b == 0) = true := by
  rw [beq_iff_eq]
  refine Nat.eq_of_testBit_eq fun i => ?_
  rw [Nat.testBit_and, Nat.zero_testBit]
  by_cases hi : i < 10
  · have := h i hi
    cases h1 : a.testBit i <;> cases h2 : b.testBit i <;> simp_all
  · have : a.testBit i = false := Nat.testBit_lt_two_pow (Nat.lt_of_lt_of_le ha (Nat.pow_le_pow_right (by omega) (by omega)))
    rw [this]
    rfl
theorem and_of_bit {a b i : Nat} (h1 : a.testBit i = true) (h2 : b.testBit i = true) : (a &&& b == 0) = false := by
  rw [beq_eq_false_iff_ne]
  intro e
  have := congrArg (Nat.testBit · i) e
  simp [Nat.testBit_and, h1, h2] at this
set_option maxRecDepth 100000 in
set_option maxHeartbeats 1600000 in
theorem apart_any (a b : Nat) (ha : a < 1024) (hb : b < 1024) (w : World) : Calls Try.prog 82 #[.int .i64 a, .int .i64 b] w fun e w' => e = .returned (.bool (a &&& b == 0)) ∧ w' = w := by
  go_enter Try.func82, Try.ntmps82
  go_wp2
  go_loopw [5] (fun i wr => ∃ k : Nat, k ≤ 10 ∧ i = .int .i64 k ∧ Hid (∀ i, i < k → ¬ (a.testBit i = true ∧ b.testBit i = true)) ∧ wr = w) (fun i _ => 10 - (intOf i).toNat)
  case atStart => exact ⟨0, Nat.zero_le _, rfl, by show ∀ i, _ → _; intro i hi; omega, rfl⟩
  case round =>
    obtain ⟨k, hk, rfl, HA, rfl⟩ := hrel
    by_cases hlt : k < 10
    · have hkt : decide ((k : Int) < 10) = true := by simp; omega
      go_wp2_with fail
      refine (has_any a k (by omega) (by omega) _).mono ?_
      cases h1 : a.testBit k
      · have HA2 : Hid (∀ i, i < k + 1 → ¬ (a.testBit i = true ∧ b.testBit i = true)) := show ∀ i, _ → _ from fun i hi => by
          by_cases e : i = k
          · subst e; rw [h1]; simp
          · exact HA.out i (by omega)
        clear h1
        rintro e w' ⟨rfl, rfl⟩
        go_wp2
        go_roundw
        case rel => exact ⟨k + 1, by omega, by go_num, HA2, trivial⟩
        case measure => simp [intOf]; omega
      · rintro e w' ⟨rfl, rfl⟩
        go_wp2_with fail
        refine (has_any b k (by omega) (by omega) _).mono ?_
        cases h2 : b.testBit k
        · have HA2 : Hid (∀ i, i < k + 1 → ¬ (a.testBit i = true ∧ b.testBit i = true)) := show ∀ i, _ → _ from fun i hi => by
            by_cases e : i = k
            · subst e; rw [h2]; simp
            · exact HA.out i (by omega)
          clear h1 h2
          rintro e w' ⟨rfl, rfl⟩
          go_wp2
          go_roundw
          case rel => exact ⟨k + 1, by omega, by go_num, HA2, trivial⟩
          case measure => simp [intOf]; omega
        · have HF := Lib.hid (and_of_bit h1 h2)
          clear h1 h2
          rintro e w' ⟨rfl, rfl⟩
          go_wp2
          go_ret
          exact ⟨ret_bool HF.out.symm, rfl⟩
    · obtain rfl : k = 10 := by omega
      have HF := Lib.hid (and_of_bits (by omega) HA.out)
      go_wp2
      go_ret
      exact ⟨ret_bool HF.out.symm, rfl⟩
theorem pop_half : ∀ m, m < 1024 → pop m 10 = (m : Int) % 2 + pop (m / 2) 10 := of_decide_eq_true (by kernel_rfl)
set_option maxRecDepth 100000 in
set_option maxHeartbeats 1600000 in
theorem size_any (s : Nat) (hs : s < 1024) (w : World) : Calls Try.prog 40 #[.int .i64 s] w fun e w' => e = .returned (.int .i64 (pop s 10)) ∧ w' = w := by
  have hps := pop_bd s 10
  obtain ⟨P, HP⟩ : ∃ P, Hid (pop s 10 = P) := ⟨_, rfl⟩
  rw [HP.out] at hps ⊢
  obtain ⟨hp0, hp1⟩ := hps
  go_enter Try.func40, Try.ntmps40
  go_wp2
  go_loopw [0, 3] (fun x y wr => ∃ (m : Nat) (t : Int), m < 1024 ∧ x = .int .i64 m ∧ y = .int .i64 t ∧ 0 ≤ t ∧ t ≤ 10 ∧ Hid (t + pop m 10 = P) ∧ wr = w) (fun x _ _ => (intOf x).toNat)
  case atStart => exact ⟨s, 0, hs, rfl, rfl, by omega, by omega, by show _ = _; rw [← HP.out]; omega, rfl⟩
  case round =>
    obtain ⟨m, t, hm, rfl, rfl, ht0, ht1, HT, rfl⟩ := hrel
    by_cases h0 : 0 < m
    · have hd : decide ((0 : Int) < m) = true := by simp; omega
      have HH := Lib.hid (pop_half m hm)
      have hpb := pop_bd (m / 2) 10
      have HTD : Hid ((m : Int) / 2 = ((m / 2 : Nat) : Int)) := rfl
      have HTM : Hid ((m : Int).tmod 2 = (m : Int) % 2) := by show _ = _; rw [Int.tmod_eq_emod_of_nonneg (by omega)]
      have hmd : 0 ≤ (m : Int) % 2 ∧ (m : Int) % 2 ≤ 1 := by omega
      have hsum : t + (m : Int) % 2 + pop (m / 2) 10 = P := by have h1 := HH.out; have h2 := HT.out; omega
      have HS := Lib.hid hsum
      have hb2 : t + (m : Int) % 2 ≤ 10 := by omega
      have htm := HTM.out
      clear hsum
      go_wp2
      go_roundw
      case rel => exact ⟨m / 2, t + (m : Int) % 2, by omega, by go_num, rfl, by omega, by omega, HS.out, trivial⟩
      case measure => simp [intOf]; omega
    · obtain rfl : m = 0 := by omega
      have hd : decide ((0 : Int) < ((0 : Nat) : Int)) = false := rfl
      have hz : Hid (t = P) := by
        have h := HT.out
        have h0 : pop 0 10 = 0 := rfl
        show _ = _
        omega
      go_wp2
      go_ret
      exact ⟨ret_int hz.out, rfl⟩
end Go.Proofs.Ytbfjebglaimcmaa
