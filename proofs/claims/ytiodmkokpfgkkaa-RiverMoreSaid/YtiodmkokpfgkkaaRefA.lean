/- The walks of the reference's small functions, of River (is a river valid?), of the law's long. Condition: none, or as each says. -/
import Derived.Test.YtiodmkokpfgkkaaClashX
namespace Go.Proofs.Ytiodmkokpfgkkaa
open Go.RowKit Go.Hav Go.Shelf Go.Sq
attribute [local go_sem] Oper.semAt_some
theorem rin_any (n lo hi : Int) (w : World) : Calls Try.prog 96 #[.int .i64 n, .int .i64 lo, .int .i64 hi] w fun e w' => e = .returned (.bool (inB n lo hi)) ∧ w' = w := by
 cases h : decide (lo ≤ n)
 ·have hr : inB n lo hi = false := by simp [inB, h]
  go_enter Try.func96, Try.ntmps96
  go_wp2
  go_ret
  exact ⟨ret_bool hr.symm, rfl⟩
 ·have hr : inB n lo hi = decide (n ≤ hi) := by simp [inB, h]
  go_enter Try.func96, Try.ntmps96
  go_wp2
  go_ret
  exact ⟨ret_bool hr.symm, rfl⟩
theorem rspan_any (s : ISp) (low high much : Int) (h0 : 0 ≤ low) (h1 : high ≤ 1000) (w : World) :
  Calls Try.prog 95 #[.agg #[.int .i64 s.lo, .int .i64 s.hi], .int .i64 low, .int .i64 high, .int .i64 much] w fun e w' => e = .returned (.bool (spB s low high much)) ∧ Below w.heap.size w w' := by
 obtain ⟨lo, hi⟩ := s
 by_cases q1 : low ≤ lo
 case neg =>
  have hb : spB ⟨lo, hi⟩ low high much = false := by unfold spB; simp [q1]
  rw [hb]
  clear hb
  go_enter Try.func95, Try.ntmps95
  go_wp2
  go_ret
  exact ⟨rfl, (by repeat (first | exact Below.refl _ _ | assumption | refine Below.drew ?_ | refine below_drewN ?_ _ | refine Below.alloc ?_ (by (try simp) <;> omega) _ | refine Below.setCell ?_ (by (try simp) <;> omega) _ | refine Below.trans ?_ (Below.mono (by assumption) (by (try simp) <;> omega))))⟩
 by_cases q2 : lo ≤ hi
 case neg =>
  have hb : spB ⟨lo, hi⟩ low high much = false := by unfold spB; simp [q2]
  rw [hb]
  clear hb
  go_enter Try.func95, Try.ntmps95
  go_wp2
  go_ret
  exact ⟨rfl, (by repeat (first | exact Below.refl _ _ | assumption | refine Below.drew ?_ | refine below_drewN ?_ _ | refine Below.alloc ?_ (by (try simp) <;> omega) _ | refine Below.setCell ?_ (by (try simp) <;> omega) _ | refine Below.trans ?_ (Below.mono (by assumption) (by (try simp) <;> omega))))⟩
 by_cases q3 : hi ≤ high
 case neg =>
  have hb : spB ⟨lo, hi⟩ low high much = false := by unfold spB; simp [q3]
  rw [hb]
  clear hb
  go_enter Try.func95, Try.ntmps95
  go_wp2
  go_ret
  exact ⟨rfl, (by repeat (first | exact Below.refl _ _ | assumption | refine Below.drew ?_ | refine below_drewN ?_ _ | refine Below.alloc ?_ (by (try simp) <;> omega) _ | refine Below.setCell ?_ (by (try simp) <;> omega) _ | refine Below.trans ?_ (Below.mono (by assumption) (by (try simp) <;> omega))))⟩
 have p1 : 0 ≤ hi - lo := by omega
 have p2 : hi - lo ≤ 1000 := by omega
 by_cases q4 : hi - lo ≤ much
 ·have hb : spB ⟨lo, hi⟩ low high much = true := spB_iff.2 ⟨q1, q2, q3, q4⟩
  rw [hb]
  clear hb
  go_enter Try.func95, Try.ntmps95
  go_wp2
  go_ret
  exact ⟨rfl, (by repeat (first | exact Below.refl _ _ | assumption | refine Below.drew ?_ | refine below_drewN ?_ _ | refine Below.alloc ?_ (by (try simp) <;> omega) _ | refine Below.setCell ?_ (by (try simp) <;> omega) _ | refine Below.trans ?_ (Below.mono (by assumption) (by (try simp) <;> omega))))⟩
 ·have hb : spB ⟨lo, hi⟩ low high much = false := by unfold spB; simp [q4]
  rw [hb]
  clear hb
  go_enter Try.func95, Try.ntmps95
  go_wp2
  go_ret
  exact ⟨rfl, (by repeat (first | exact Below.refl _ _ | assumption | refine Below.drew ?_ | refine below_drewN ?_ _ | refine Below.alloc ?_ (by (try simp) <;> omega) _ | refine Below.setCell ?_ (by (try simp) <;> omega) _ | refine Below.trans ?_ (Below.mono (by assumption) (by (try simp) <;> omega))))⟩
theorem pow_le60 (k : Nat) (h : k ≤ 40) : (1 : Int) ≤ 2 ^ k ∧ (2 : Int) ^ k ≤ 1099511627776 := by
 have h1 := Nat.pow_le_pow_right (n := 2) (by omega) h
 have h2 := pow_cast k
 have h3 := Nat.two_pow_pos k
 omega
set_option maxRecDepth 100000 in
set_option maxHeartbeats 1600000 in
theorem rpower_any (n : Nat) (hn : n ≤ 40) (w : World) : Calls Try.prog 68 #[.int .i64 n] w fun e w' => e = .returned (.int .i64 (2 ^ n)) ∧ w' = w := by
 go_enter Try.func68, Try.ntmps68
 go_wp2
 go_loopw [3, 4] (fun x i wr => ∃ (k : Nat) (t : Int), k ≤ n ∧ i = .int .i64 k ∧ x = .int .i64 t ∧ Hid (t = 2 ^ k) ∧ wr = w) (fun _ i _ => n - (intOf i).toNat)
 case atStart => exact ⟨0, 1, Nat.zero_le _, rfl, rfl, rfl, rfl⟩
 case round =>
  obtain ⟨k, t, hk, rfl, rfl, HT, rfl⟩ := hrel
  have hb := pow_le60 k (by omega)
  rw [← HT.out] at hb
  obtain ⟨hb0, hb1⟩ := hb
  by_cases hlt : k < n
  ·go_wp2
   go_roundw
   case rel => exact ⟨k + 1, 2 * t, by omega, by go_num, rfl, by show _ = _; rw [HT.out]; exact (Int.pow_succ' 2 k).symm, trivial⟩
   case measure => simp [intOf]; omega
  ·obtain rfl : n = k := by omega
   go_wp2
   go_ret
   exact ⟨ret_int HT.out, rfl⟩
theorem tb_quo (s k : Nat) : (((s : Int) / 2 ^ k) % 2 == 1) = s.testBit k := by
 have h1 : (s : Int) / 2 ^ k = ((s / 2 ^ k : Nat) : Int) := by rw [← pow_cast k]; rfl
 rw [h1]
 have h2 : ((s / 2 ^ k : Nat) : Int) % 2 = ((s / 2 ^ k % 2 : Nat) : Int) := rfl
 rw [h2]
 have h3 : s.testBit k = decide (s / 2 ^ k % 2 = 1) := by rw [Nat.testBit_eq_decide_div_mod_eq]
 rw [h3]
 by_cases h : s / 2 ^ k % 2 = 1
 ·simp [h]
 ·have : s / 2 ^ k % 2 = 0 := by omega
  simp [this]
set_option maxRecDepth 100000 in
set_option maxHeartbeats 1600000 in
theorem rhas_any (s k : Nat) (hs : s < 4611686018427387904) (hk : k ≤ 40) (w : World) : Calls Try.prog 67 #[.int .i64 s, .int .i64 k] w fun e w' => e = .returned (.bool (s.testBit k)) ∧ w' = w := by
 have htb := tb_quo s k
 obtain ⟨hp0, hp1⟩ := pow_le60 k hk
 have hq0 : (0 : Int) ≤ s / 2 ^ k := Int.ediv_nonneg (by omega) (by omega)
 have hq1 : (s : Int) / 2 ^ k ≤ s := Int.ediv_le_self _ (by omega)
 have HT : Hid (((wrap64 ((s : Int) / 2 ^ k)).tmod 2 == 1) = s.testBit k) := by
  show _ = _
  have h : wrap64 ((s : Int) / 2 ^ k) = s / 2 ^ k := by unfold wrap64; omega
  rw [h, Int.tmod_eq_emod_of_nonneg hq0, htb]
 clear htb hq0 hq1
 go_enter Try.func67, Try.ntmps67
 go_wp2_with fail
 refine (rpower_any k hk w).mono ?_
 rintro e w' ⟨rfl, rfl⟩
 go_wp2
 go_ret
 exact ⟨ret_bool HT.out, rfl⟩
theorem size_half : ∀ m, m < 32 → sizeP m = m % 2 + sizeP (m / 2) := of_decide_eq_true (by kernel_rfl)
set_option maxRecDepth 100000 in
set_option maxHeartbeats 1600000 in
theorem rsize_any (s : Nat) (hs : s < 32) (w : World) : Calls Try.prog 42 #[.int .i64 s] w fun e w' => e = .returned (.int .i64 (sizeP s)) ∧ w' = w := by
 go_enter Try.func42, Try.ntmps42
 go_wp2
 go_loopw [0, 3] (fun x n wr => ∃ (m k : Nat), x = .int .i64 m ∧ n = .int .i64 k ∧ m < 32 ∧ k ≤ 5 ∧ Hid (k + sizeP m = sizeP s) ∧ wr = w) (fun x _ _ => (intOf x).toNat)
 case atStart => exact ⟨s, 0, rfl, rfl, hs, by omega, by show _ = _; omega, rfl⟩
 case round =>
  obtain ⟨m, k, rfl, rfl, hm, hk, HS, rfl⟩ := hrel
  by_cases hz : m = 0
  ·have hf : k = sizeP s := by have h := HS.out; rwa [hz, show sizeP 0 = 0 from rfl, Nat.add_zero] at h
   have HF := Lib.hid hf
   have h0 : decide ((0 : Int) < m) = false := by simp; omega
   have h1 : ¬ 0 < m := by omega
   have h2 : ¬ (0 : Int) < m := by omega
   clear hf hz
   go_wp2
   go_ret
   exact ⟨by rw [HF.out]; rfl, rfl⟩
  ·have h0 : (0 : Int) < m := by omega
   have hm0 : 0 < m := by omega
   obtain ⟨q, hq⟩ : ∃ q, q = m / 2 := ⟨_, rfl⟩
   obtain ⟨b, hb⟩ : ∃ b, b = m % 2 := ⟨_, rfl⟩
   have t1 : (m : Int).tmod 2 = (b : Int) := by rw [Int.tmod_eq_emod_of_nonneg (by omega)]; omega
   have t2 : (m : Int).tdiv 2 = (q : Int) := by rw [Int.tdiv_eq_ediv_of_nonneg (by omega)]; omega
   have HS2 : Hid ((k + b) + sizeP q = sizeP s) := by
    have h := HS.out
    rw [size_half m hm, ← hq, ← hb] at h
    show _ = _; omega
   have hk2 : k + b ≤ 5 := by
    have h := HS2.out
    have bd : sizeP s ≤ 5 := by
     unfold sizeP sizeN sizeN sizeN sizeN sizeN sizeN
     repeat' split
     all_goals omega
    omega
   have hq32 : q < 32 := by omega
   have hqm : q < m := by omega
   have t3 : (m : Int) / 2 = (q : Int) := by omega
   have t4 : (m : Int) % 2 = (b : Int) := by omega
   clear hq hb
   go_wp2
   go_roundw
   case rel => exact ⟨q, k + b, by first | rfl | (simp; omega), by first | go_num | (simp), hq32, hk2, HS2, trivial⟩
   case measure => simp [intOf]; omega
section
variable {fa la : Option Addr} {fl fc ll lc : Nat} {r : IRiv} {w : World}
set_option maxRecDepth 100000 in
set_option maxHeartbeats 1600000 in
theorem long_any (w : World) (m1 : fl ≤ 9223372036854775807) (m2 : ll ≤ 9223372036854775807) :
  Calls Try.prog 34 #[(.agg #[.int .i64 r.depth.lo, .int .i64 r.depth.hi, .int .i64 r.fall.lo, .int .i64 r.fall.hi, .int .i64 r.days, .slice fa fl fc, .slice la ll lc])] w fun e w' => (∃ b, e = .returned (.bool b) ∧ (b = false → fl ≤ 40 ∧ ll ≤ 40)) ∧ Below w.heap.size w w' := by
 obtain ⟨m, hm, hle⟩ : ∃ m : Int, (∀ w, (Builtin.max_ #[3, 3] 3 #[.int .i64 (fl : Int), .int .i64 (ll : Int)]).run Try.prog w = .ok (.int .i64 m) w) ∧ Hid (decide (40 < m) = false → fl ≤ 40 ∧ ll ≤ 40) := by
  refine ⟨max (fl : Int) ll, fun w => max_run _ _ w, show _ → _ from fun h => by simp at h; omega⟩
 go_enter Try.func34, Try.ntmps34
 go_wp2
 go_ret
 exact ⟨⟨_, rfl, hle.out⟩, (by repeat (first | exact Below.refl _ _ | assumption | refine Below.drew ?_ | refine below_drewN ?_ _ | refine Below.alloc ?_ (by (try simp) <;> omega) _ | refine Below.setCell ?_ (by (try simp) <;> omega) _ | refine Below.trans ?_ (Below.mono (by assumption) (by (try simp) <;> omega))))⟩
set_option maxRecDepth 100000 in
set_option maxHeartbeats 1600000 in
theorem rday_any (n : Int) (w : World) : Calls Try.prog 52 #[(.agg #[.int .i64 r.depth.lo, .int .i64 r.depth.hi, .int .i64 r.fall.lo, .int .i64 r.fall.hi, .int .i64 r.days, .slice fa fl fc, .slice la ll lc]), .int .i64 n] w fun e w' => e = .returned (.bool (isDayB r n)) ∧ Below w.heap.size w w' := by
 go_enter Try.func52, Try.ntmps52
 go_wp2_with fail
 refine (rin_any _ _ _ _).mono ?_
 rintro e w' ⟨rfl, rfl⟩
 go_wp2
 go_ret
 exact ⟨rfl, (by repeat (first | exact Below.refl _ _ | assumption | refine Below.drew ?_ | refine below_drewN ?_ _ | refine Below.alloc ?_ (by (try simp) <;> omega) _ | refine Below.setCell ?_ (by (try simp) <;> omega) _ | refine Below.trans ?_ (Below.mono (by assumption) (by (try simp) <;> omega))))⟩
end
end Go.Proofs.Ytiodmkokpfgkkaa
