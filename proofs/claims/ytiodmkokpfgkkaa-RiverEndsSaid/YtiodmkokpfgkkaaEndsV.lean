/- What the api returns that the law RiverEnds asks for, in few numbers. -/
import Derived.Test.YtiodmkokpfgkkaaLawU
import Derived.Test.YtiodmkokpfgkkaaEndsP
import Derived.Test.YtiodmkokpfgkkaaTrueP
namespace Go.Proofs.Ytiodmkokpfgkkaa
open Go.RowKit Go.Hav Go.Shelf Go.Sq
theorem told2 {r : IRiv} (hv : okR r = true) {is : Bool} (h : is = false) : toldE r is = 2 := by rw [toldE_bad (.inr h), if_neg (by rw [hv]; decide)]
theorem told1 {r : IRiv} (hv : okR r = false) {is : Bool} : toldE r is = 1 := by rw [toldE_bad (.inl hv), if_pos hv]
theorem inB_no {n a b : Int} (h : ¬ (a ≤ n ∧ n ≤ b)) : inB n a b = false := by
 cases e : inB n a b
 ·rfl
 ·exact absurd (inB_iff.1 e) h
theorem depth_bad {r : IRiv} (hv : okR r = false) : Value.tuple #[hullV (depthV r 0), .int .i64 (depthE r 0)] = .tuple #[.agg #[.int .i64 0, .int .i64 0], .int .i64 1] := by
 have e : depthE r 0 = 1 := told1 hv
 unfold depthV
 rw [if_neg (by omega), e]
 rfl
theorem clash_bad {r : IRiv} (hv : okR r = false) : Value.tuple #[.int .i64 (clashV r), .int .i64 (clashE r)] = .tuple #[.int .i64 0, .int .i64 1] := by
 have e : clashE r = 1 := by unfold clashE; rw [if_pos hv]
 unfold clashV
 rw [if_neg (by omega), e]
 rfl
section
variable {r : IRiv} (hv : okR r = true)
include hv
theorem depth_no : Value.tuple #[hullV (depthV r (r.days + 1)), .int .i64 (depthE r (r.days + 1))] = .tuple #[.agg #[.int .i64 0, .int .i64 0], .int .i64 2] := by
 have e : depthE r (r.days + 1) = 2 := told2 hv (inB_no (by omega))
 unfold depthV
 rw [if_neg (by omega), e]
 rfl
theorem fresh_no : Value.tuple #[.int .i64 (freshV r (r.fr.length : Int)), .int .i64 (freshE r (r.fr.length : Int))] = .tuple #[.int .i64 0, .int .i64 2] := by
 have e : freshE r (r.fr.length : Int) = 2 := told2 hv (inB_no (by omega))
 unfold freshV
 rw [if_neg (by omega), e]
 rfl
theorem bears_no : Value.tuple #[.int .i64 (bearsV r (-1) 0), .int .i64 (bearsE r (-1) 0)] = .tuple #[.int .i64 0, .int .i64 2] := by
 have e : bearsE r (-1) 0 = 2 := told2 hv rfl
 unfold bearsV
 rw [if_neg (by omega), e]
 rfl
theorem until_no : Value.tuple #[.int .i64 (untilV r 201), .int .i64 (untilE r 201)] = .tuple #[.int .i64 0, .int .i64 2] := by
 have e : daysE r 201 = 2 := told2 hv rfl
 unfold untilV untilE
 simp only [e]
 rfl
theorem days_no : Value.tuple #[.int .i64 (surelyV r (-1)), .int .i64 (perhapsV r (-1)), .int .i64 (daysE r (-1))] = .tuple #[.int .i64 0, .int .i64 0, .int .i64 2] := by
 have e : daysE r (-1) = 2 := told2 hv rfl
 unfold surelyV perhapsV
 rw [if_neg (by omega), if_neg (by omega), e]
 rfl
/-- The depth, the fall and the clash, of a river with a truth or without. -/
theorem ends_vals {d : Nat} (hd : d ≤ r.nat.days) : ∃ lo hi flo fhi cv : Nat, ∃ E G : Int, Value.tuple #[hullV (depthV r (d : Int)), .int .i64 (depthE r (d : Int))] = .tuple #[.agg #[.int .i64 lo, .int .i64 hi], .int .i64 E] ∧ Value.tuple #[hullV (fallV r), .int .i64 (fallE r)] = .tuple #[.agg #[.int .i64 flo, .int .i64 fhi], .int .i64 E] ∧
  Value.tuple #[.int .i64 (clashV r), .int .i64 (clashE r)] = .tuple #[.int .i64 cv, .int .i64 G] ∧ ((E = 0 ∧ G = 4 ∧ truthsA r.nat ≠ [] ∧ lo = (depthP r.nat d).1 ∧ hi = (depthP r.nat d).2 ∧ flo = (fallQ r.nat).1 ∧ fhi = (fallQ r.nat).2) ∨ (E = 10 ∧ G = 0 ∧ lo = 0 ∧ hi = 0 ∧ flo = 0 ∧ fhi = 0)) := by
 by_cases ht : truthsA r.nat = []
 ·have e1 : depthE r (d : Int) = 10 := toldE_clash hv (isDay_nat hv hd) ht
  have e2 : fallE r = 10 := toldE_clash hv rfl ht
  have e3 : clashE r = 0 := by unfold clashE; rw [if_neg (by rw [hv]; decide), if_pos ht]
  refine ⟨0, 0, 0, 0, clashV r, 10, 0, ?_, ?_, ?_, .inr ⟨rfl, rfl, rfl, rfl, rfl, rfl⟩⟩
  ·unfold depthV; rw [if_neg (by omega), e1]; rfl
  ·unfold fallV; rw [if_neg (by omega), e2]; rfl
  ·rw [e3]; rfl
 ·have e : clashE r = 4 := by unfold clashE; rw [if_neg (by rw [hv]; decide), if_neg ht]
  refine ⟨_, _, _, _, clashV r, 0, 4, depth_fine hv ht hd, fall_fine hv ht, ?_, .inl ⟨rfl, rfl, ht, rfl, rfl, rfl, rfl⟩⟩
  rw [e]; rfl
theorem clash_vals : ∃ cv : Nat, ∃ G : Int, Value.tuple #[.int .i64 (clashV r), .int .i64 (clashE r)] = .tuple #[.int .i64 cv, .int .i64 G] ∧ ((G = 4 ∧ truthsA r.nat ≠ []) ∨ (G = 0 ∧ truthsA r.nat = [])) := by
 by_cases ht : truthsA r.nat = []
 ·have e3 : clashE r = 0 := by unfold clashE; rw [if_neg (by rw [hv]; decide), if_pos ht]
  exact ⟨clashV r, 0, by rw [e3]; rfl, .inr ⟨rfl, ht⟩⟩
 ·have e : clashE r = 4 := by unfold clashE; rw [if_neg (by rw [hv]; decide), if_neg ht]
  exact ⟨clashV r, 4, by rw [e]; rfl, .inl ⟨rfl, ht⟩⟩
theorem fall_vals (ht : truthsA r.nat ≠ []) {n : Int} (h1 : r.fall.lo ≤ n) (h2 : n ≤ r.fall.hi) : ∃ cv : Nat, ∃ G : Int, Value.tuple #[.int .i64 (clashV (fallR r n)), .int .i64 (clashE (fallR r n))] = .tuple #[.int .i64 cv, .int .i64 G] ∧
  ((G = 4 ∧ ((fallQ r.nat).1 : Int) ≤ n ∧ n ≤ ((fallQ r.nat).2 : Int)) ∨ (G = 0 ∧ n ≠ ((fallQ r.nat).1 : Int) ∧ n ≠ ((fallQ r.nat).2 : Int))) := by
 obtain ⟨cv, G, e, h⟩ := clash_vals (fall_ok hv h1 h2)
 refine ⟨cv, G, e, h.imp (fun h => ⟨h.1, fall_in hv h1 h2 h.2⟩) (fun h => ⟨h.1, fun hn => ?_, fun hn => ?_⟩)⟩
 ·exact fall_end hv ht h1 h2 (.inl hn) h.2
 ·exact fall_end hv ht h1 h2 (.inr hn) h.2
theorem at_le120 {t : Tr} (hm : t ∈ truthsA r.nat) (day : Nat) : t.at_ day ≤ 120 := by
 obtain ⟨⟨h1, h2, h3, h4, h5⟩, h6, h7⟩ := okR_pts hv
 obtain ⟨c1, c2, c3, c4, c5⟩ := (mem_truthsA hv).1 hm
 have hl : t.ds.length = r.fr.length := by rw [c1]; show (r.fr.map _).length = _; rw [List.length_map]
 have a := at_come t.d t.by_ t.ds.length t.dsF t.rsF day
 have b := comeS_le (ds := t.dsF) (rs := t.rsF) (day := day) t.ds.length (fun i hi => by
  rw [hl] at hi
  have hf : r.fr[i]? = some r.fr[i] := List.getElem?_eq_getElem hi
  have hs := (c5.sp i (r.fr[i]).nat (by show (r.fr.map _)[i]? = _; rw [List.getElem?_map, hf]; rfl)).2.2.2
  have := (up_ok hv hf (m := 0) (by omega)).2.2.2.1
  have e : (r.fr[i]).nat.rise.hi = (r.fr[i]).rise.hi.toNat := rfl
  omega)
 have hd := c5.hi
 have e : r.nat.depth.hi = r.depth.hi.toNat := rfl
 have := (okR_sp hv).2.2.1
 unfold Tr.at_
 omega
theorem depth_le120 (ht : truthsA r.nat ≠ []) (d : Nat) : (depthP r.nat d).1 ≤ (depthP r.nat d).2 ∧ (depthP r.nat d).2 ≤ 120 := by
 have H := depthP_hull ht d
 obtain ⟨t, hm, e⟩ := List.mem_map.1 H.hi
 have h1 := H.le _ H.hi
 have := at_le120 hv hm d
 exact ⟨h1, by rw [← e]; exact this⟩
/-- The depth on a day on which one is seen, at both ends and next to them. -/
theorem own_vals (ht : truthsA r.nat ≠ []) {d n : Nat} (h5 : r.lk.length < 5) (hd : d ≤ r.nat.days) (he : n + 1 = (depthP r.nat d).1 ∨ n = (depthP r.nat d).1 ∨ n = (depthP r.nat d).2 ∨ n = (depthP r.nat d).2 + 1) :
  ∃ lo hi : Nat, ∃ E : Int, Value.tuple #[hullV (depthV (withR r (lookN d n)) (d : Int)), .int .i64 (depthE (withR r (lookN d n)) (d : Int))] = .tuple #[.agg #[.int .i64 lo, .int .i64 hi], .int .i64 E] ∧
   ((E = 0 ∧ lo = n ∧ hi = n ∧ (depthP r.nat d).1 ≤ n ∧ n ≤ (depthP r.nat d).2) ∨ (E = 10 ∧ ¬ ((depthP r.nat d).1 ≤ n ∧ n ≤ (depthP r.nat d).2))) := by
 have hle := depth_le120 hv ht d
 have hn : n ≤ 200 := by omega
 have hv2 := with_ok hv h5 (look_ok hv hd hn)
 by_cases h : truthsA (withR r (lookN d n)).nat = []
 ·have e1 : depthE (withR r (lookN d n)) (d : Int) = 10 := toldE_clash hv2 (isDay_nat hv2 hd) h
  refine ⟨0, 0, 10, ?_, .inr ⟨rfl, fun hx => ?_⟩⟩
  ·unfold depthV; rw [if_neg (by omega), e1]; rfl
  ·exact look_end hv ht h5 hd hn (by omega) h
 ·obtain ⟨a, b, c⟩ := look_in hv h5 hd hn h
  have := depth_fine hv2 h hd
  rw [c] at this
  exact ⟨_, _, _, this, .inl ⟨rfl, rfl, rfl, a, b⟩⟩
end
end Go.Proofs.Ytiodmkokpfgkkaa
