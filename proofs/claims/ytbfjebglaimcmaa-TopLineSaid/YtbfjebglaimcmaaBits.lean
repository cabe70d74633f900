/- Sets of bits as the model computes them; no condition but that numbers are not negative, and below 2 to the 62nd. -/
import Derived.Test.YtbfjebglaimcmaaCore
import Derived.Test.YtbfjebglaimcmaaSpec
import Derived.Laws.BitsAllLaws
import Derived.WalkSmall
namespace Go.Proofs.Ytbfjebglaimcmaa
open Go.RowKit
theorem ofInt64 (a : Nat) (ha : a < 18446744073709551616) : (BitVec.ofInt 64 (a : Int)).toNat = a := by
  rw [BitVec.ofInt_natCast, BitVec.toNat_ofNat]; exact Nat.mod_eq_of_lt (by omega)
theorem wrap_small (a : Nat) (ha : a < 4611686018427387904) : IntKind.i64.wrap (a : Int) = a := by
  rw [IntKind.wrap_i64]; omega
theorem dif_and (a b n : Nat) (ha : a < 2 ^ n) (hb : b < 2 ^ n) : a &&& (2 ^ n - 1 - b) = dif a b := by
  refine Nat.eq_of_testBit_eq fun i => ?_
  rw [Nat.testBit_and, tb_dif, show 2 ^ n - 1 - b = 2 ^ n - (b + 1) by omega, Nat.testBit_two_pow_sub_succ hb]
  by_cases hi : i < n
  · simp [hi]
  · simp [hi, tb_lt ha (by omega : n ≤ i)]
theorem and_u64 (a b : Nat) (ha : a < 4611686018427387904) (hb : b < 4611686018427387904) : bits BinOp.and IntKind.u64 (a : Int) (b : Int) = ((a &&& b : Nat) : Int) := bits_and_u64_nat a b (by omega) (by omega)
theorem or_u64 (a b : Nat) (ha : a < 4611686018427387904) (hb : b < 4611686018427387904) : bits BinOp.or IntKind.u64 (a : Int) (b : Int) = ((a ||| b : Nat) : Int) := bits_or_u64_nat a b (by omega) (by omega)
theorem not_u64 (a b : Nat) (ha : a < 4611686018427387904) (hb : b < 4611686018427387904) : bits BinOp.andNot IntKind.u64 (a : Int) (b : Int) = ((dif a b : Nat) : Int) := by
  have hx : dif a b ≤ a := dif_le a b
  show IntKind.u64.wrap ((BitVec.ofInt 64 (a : Int) &&& ~~~BitVec.ofInt 64 (b : Int)).toNat : Int) = _
  rw [BitVec.toNat_and, BitVec.toNat_not, ofInt64 a (by omega), ofInt64 b (by omega), dif_and a b 64 (by omega) (by omega), IntKind.wrap_u64]
  omega
theorem and_i64 (a b : Nat) (ha : a < 4611686018427387904) (hb : b < 4611686018427387904) : bits BinOp.and IntKind.i64 (a : Int) (b : Int) = ((a &&& b : Nat) : Int) := by
  have hx : a &&& b ≤ a := Nat.and_le_left
  show IntKind.i64.wrap ((BitVec.ofInt 64 (a : Int) &&& BitVec.ofInt 64 (b : Int)).toNat : Int) = _
  rw [BitVec.toNat_and, ofInt64 a (by omega), ofInt64 b (by omega), wrap_small _ (by omega)]
theorem or_i64 (a b : Nat) (ha : a < 4611686018427387904) (hb : b < 4611686018427387904) : bits BinOp.or IntKind.i64 (a : Int) (b : Int) = ((a ||| b : Nat) : Int) := by
  have hx : a ||| b < 2 ^ 62 := Nat.or_lt_two_pow (by omega) (by omega)
  show IntKind.i64.wrap ((BitVec.ofInt 64 (a : Int) ||| BitVec.ofInt 64 (b : Int)).toNat : Int) = _
  rw [BitVec.toNat_or, ofInt64 a (by omega), ofInt64 b (by omega), wrap_small _ (by omega)]
theorem not_i64 (a b : Nat) (ha : a < 4611686018427387904) (hb : b < 4611686018427387904) : bits BinOp.andNot IntKind.i64 (a : Int) (b : Int) = ((dif a b : Nat) : Int) := by
  have hx : dif a b ≤ a := dif_le a b
  show IntKind.i64.wrap ((BitVec.ofInt 64 (a : Int) &&& ~~~BitVec.ofInt 64 (b : Int)).toNat : Int) = _
  rw [BitVec.toNat_and, BitVec.toNat_not, ofInt64 a (by omega), ofInt64 b (by omega), dif_and a b 64 (by omega) (by omega), wrap_small _ (by omega)]
theorem tb_div (s k : Nat) : s.testBit k = decide (((s / 2 ^ k : Nat) : Int) % 2 = 1) := by
  rw [Nat.testBit_eq_decide_div_mod_eq]
  simp only [decide_eq_decide]
  omega
theorem div_cast (s k : Nat) : (s : Int) / 2 ^ k = ((s / 2 ^ k : Nat) : Int) := by
  rw [Int.natCast_ediv]; simp
theorem and_one (k : IntKind) (hk : k = .u64 ∨ k = .i64) (s i : Nat) (hs : s < 4611686018427387904) : bits BinOp.and k ((s : Int) / 2 ^ i) 1 = if s.testBit i = true then 1 else 0 := by
  have h1 : s / 2 ^ i ≤ s := Nat.div_le_self _ _
  have h2 : bits BinOp.and k ((s : Int) / 2 ^ i) 1 = ((s / 2 ^ i &&& 1 : Nat) : Int) := by
    rw [div_cast]
    rcases hk with rfl | rfl
    · exact and_u64 _ 1 (by omega) (by omega)
    · exact and_i64 _ 1 (by omega) (by omega)
  rw [h2, Nat.and_one_is_mod, Nat.testBit_eq_decide_div_mod_eq]
  have : s / 2 ^ i % 2 < 2 := Nat.mod_lt _ (by omega)
  split
  · rename_i h; simp only [decide_eq_true_eq] at h; omega
  · rename_i h; simp only [decide_eq_true_eq] at h; omega
theorem tb_u64 (s k : Nat) (hs : s < 4611686018427387904) : (bits BinOp.and IntKind.u64 ((s : Int) / 2 ^ k) 1 == 1) = s.testBit k := by
  rw [and_one _ (.inl rfl) s k hs]
  cases s.testBit k <;> rfl
theorem tb_i64 (s k : Nat) (hs : s < 4611686018427387904) : (bits BinOp.and IntKind.i64 ((s : Int) / 2 ^ k) 1 == 1) = s.testBit k := by
  rw [and_one _ (.inr rfl) s k hs]
  cases s.testBit k <;> rfl
theorem tb0_u64 (s k : Nat) (hs : s < 4611686018427387904) : (bits BinOp.and IntKind.u64 ((s : Int) / 2 ^ k) 1 == 0) = !s.testBit k := by
  rw [and_one _ (.inl rfl) s k hs]
  cases s.testBit k <;> rfl
theorem tb0_i64 (s k : Nat) (hs : s < 4611686018427387904) : (bits BinOp.and IntKind.i64 ((s : Int) / 2 ^ k) 1 == 0) = !s.testBit k := by
  rw [and_one _ (.inr rfl) s k hs]
  cases s.testBit k <;> rfl
theorem pow_cast (k : Nat) : ((2 ^ k : Nat) : Int) = 2 ^ k := by simp
end Go.Proofs.Ytbfjebglaimcmaa
