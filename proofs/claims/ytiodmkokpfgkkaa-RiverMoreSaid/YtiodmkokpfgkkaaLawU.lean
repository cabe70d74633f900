/- What the api returns of a valid river that has a truth, said short. Plain, and what its calls leave. -/
import Derived.Test.YtiodmkokpfgkkaaRefB
import Derived.Test.YtiodmkokpfgkkaaBearsP
namespace Go.Proofs.Ytiodmkokpfgkkaa
open Go.RowKit Go.Hav Go.Shelf Go.Sq
attribute [local go_sem] Oper.semAt_some
theorem days_nat {r : IRiv} (hv : okR r = true) : r.days = (r.nat.days : Int) ∧ 1 ≤ r.nat.days ∧ r.nat.days ≤ 10 := by
 obtain ⟨h1, h2⟩ := inB_iff.1 (okR_parts hv).1.2.2.1
 have e : r.nat.days = r.days.toNat := rfl
 omega
theorem isDay_nat {r : IRiv} (hv : okR r = true) {d : Nat} (hd : d ≤ r.nat.days) : isDayB r (d : Int) = true := by
 have := (days_nat hv).1
 exact inB_iff.2 (by omega)
theorem isDr_nat {n : Nat} (h : n ≤ 200) : isDrB (n : Int) = true := inB_iff.2 (by omega)
section
variable {r : IRiv} (hv : okR r = true) (ht : truthsA r.nat ≠ [])
include hv ht
theorem depth_fine {d : Nat} (hd : d ≤ r.nat.days) : Value.tuple #[hullV (depthV r (d : Int)), .int .i64 (depthE r (d : Int))] = .tuple #[.agg #[.int .i64 ((depthP r.nat d).1 : Nat), .int .i64 ((depthP r.nat d).2 : Nat)], .int .i64 0] := by
 have e : depthE r (d : Int) = 0 := toldE_fine hv (isDay_nat hv hd) ht
 unfold depthV
 rw [if_pos e, e, Int.toNat_natCast]
 rfl
theorem fall_fine : Value.tuple #[hullV (fallV r), .int .i64 (fallE r)] = .tuple #[.agg #[.int .i64 ((fallQ r.nat).1 : Nat), .int .i64 ((fallQ r.nat).2 : Nat)], .int .i64 0] := by
 have e : fallE r = 0 := toldE_fine hv rfl ht
 unfold fallV
 rw [if_pos e, e]
 rfl
theorem bears_fine {n d : Nat} (hn : n ≤ 200) (hd : d ≤ r.nat.days) : Value.tuple #[.int .i64 (bearsV r (n : Int) (d : Int)), .int .i64 (bearsE r (n : Int) (d : Int))] = .tuple #[.int .i64 (bearsP r.nat n d : Nat), .int .i64 0] := by
 have e : bearsE r (n : Int) (d : Int) = 0 := toldE_fine hv (by rw [isDr_nat hn, isDay_nat hv hd]; rfl) ht
 unfold bearsV
 rw [if_pos e, e, Int.toNat_natCast, Int.toNat_natCast]
 rfl
theorem days_fine {n : Nat} (hn : n ≤ 200) : Value.tuple #[.int .i64 (surelyV r (n : Int)), .int .i64 (perhapsV r (n : Int)), .int .i64 (daysE r (n : Int))] = .tuple #[.int .i64 (surelyP r.nat n : Nat), .int .i64 (perhapsP r.nat n : Nat), .int .i64 0] := by
 have e : daysE r (n : Int) = 0 := toldE_fine hv (isDr_nat hn) ht
 unfold surelyV perhapsV
 rw [if_pos e, if_pos e, e, Int.toNat_natCast]
 rfl
theorem until_fine {n : Nat} (hn : n ≤ 200) : Value.tuple #[.int .i64 (untilV r (n : Int)), .int .i64 (untilE r (n : Int))] = if untilP r.nat n = 0 then .tuple #[.int .i64 0, .int .i64 4] else .tuple #[.int .i64 ((untilP r.nat n - 1 : Nat) : Int), .int .i64 0] := by
 have e : daysE r (n : Int) = 0 := toldE_fine hv (isDr_nat hn) ht
 unfold untilV untilE
 simp only [e, if_true, Int.toNat_natCast]
 by_cases h : untilP r.nat n = 0
 ·rw [if_pos h, if_pos h, if_neg (by omega)]; rfl
 ·rw [if_neg h, if_neg h, if_pos rfl]; rfl
theorem last_fine {n : Nat} (hn : n ≤ 200) : Value.tuple #[.int .i64 (lastV r (n : Int)), .int .i64 (lastE r (n : Int))] = if lastP r.nat n = 0 then .tuple #[.int .i64 0, .int .i64 4] else .tuple #[.int .i64 ((lastP r.nat n - 1 : Nat) : Int), .int .i64 0] := by
 have e : daysE r (n : Int) = 0 := toldE_fine hv (isDr_nat hn) ht
 unfold lastV lastE
 simp only [e, if_true, Int.toNat_natCast]
 by_cases h : lastP r.nat n = 0
 ·rw [if_pos h, if_pos h, if_neg (by omega)]; rfl
 ·rw [if_neg h, if_neg h, if_pos rfl]; rfl
end
section
variable {r : IRiv} (hv : okR r = true) (ht : truthsA r.nat = [])
include hv ht
theorem days_clash {n : Nat} (hn : n ≤ 200) : Value.tuple #[.int .i64 (surelyV r (n : Int)), .int .i64 (perhapsV r (n : Int)), .int .i64 (daysE r (n : Int))] = .tuple #[.int .i64 0, .int .i64 0, .int .i64 10] := by
 have e : daysE r (n : Int) = 10 := toldE_clash hv (isDr_nat hn) ht
 unfold surelyV perhapsV
 rw [if_neg (by omega), if_neg (by omega), e]
 rfl
theorem until_clash {n : Nat} (hn : n ≤ 200) : Value.tuple #[.int .i64 (untilV r (n : Int)), .int .i64 (untilE r (n : Int))] = .tuple #[.int .i64 0, .int .i64 10] := by
 have e : daysE r (n : Int) = 10 := toldE_clash hv (isDr_nat hn) ht
 unfold untilV untilE
 simp only [e]
 rfl
theorem last_clash {n : Nat} (hn : n ≤ 200) : Value.tuple #[.int .i64 (lastV r (n : Int)), .int .i64 (lastE r (n : Int))] = .tuple #[.int .i64 0, .int .i64 10] := by
 have e : daysE r (n : Int) = 10 := toldE_clash hv (isDr_nat hn) ht
 unfold lastV lastE
 simp only [e]
 rfl
end
end Go.Proofs.Ytiodmkokpfgkkaa
