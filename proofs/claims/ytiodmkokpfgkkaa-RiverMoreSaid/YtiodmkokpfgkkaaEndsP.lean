/- What the law RiverEnds asks, in plain Lean: the truths of a river of which the fall, the day of a fresh, or the depth on a day is known. -/
import Derived.Test.YtiodmkokpfgkkaaOkR
namespace Go.Proofs.Ytiodmkokpfgkkaa
theorem lk_ok {r : IRiv} (hv : okR r = true) : LkOk r.nat := fun l hl => by
 obtain ⟨g, hg, rfl⟩ := List.mem_map.1 hl
 obtain ⟨⟨h1, h2, h3, h4, h5⟩, h6, h7⟩ := okR_pts hv
 have := List.all_eq_true.1 h7 g hg
 unfold lkB at this
 rw [Bool.and_eq_true] at this
 have := inB_iff.1 this.1
 show g.day.toNat ≤ r.days.toNat
 omega
theorem mem_truthsA {r : IRiv} (hv : okR r = true) {t : Tr} : t ∈ truthsA r.nat ↔ t.ds.length = r.nat.fr.length ∧ t.rs.length = r.nat.fr.length ∧ r.nat.fall.lo ≤ t.by_ ∧ t.by_ ≤ r.nat.fall.hi ∧ TruthF r.nat t.by_ (full r.nat.lk.length) t.d t.dsF t.rsF := mem_truthsP (lk_ok hv)
/-- The river with a fall that is known. -/
def fallR (r : IRiv) (n : Int) : IRiv := { r with fall := ⟨n, n⟩ }
/-- The river with a day of a fresh that is known. -/
def dayR (r : IRiv) (k : Nat) (f : IFr) (n : Int) : IRiv := { r with fr := r.fr.set k { f with days := ⟨n, n⟩ } }
/-- The river with a look more. -/
def withR (r : IRiv) (l : ILk) : IRiv := { r with lk := r.lk ++ [l] }
section
variable {r : IRiv} (hv : okR r = true)
include hv
theorem fall_ok {n : Int} (h1 : r.fall.lo ≤ n) (h2 : n ≤ r.fall.hi) : okR (fallR r n) = true := by
 obtain ⟨⟨a1, a2, a3, a4, a5⟩, a6, a7⟩ := okR_pts hv
 obtain ⟨b1, b2, b3, b4⟩ := spB_iff.1 a2
 exact okR_mk a1 (spB_iff.2 ⟨by show (0 : Int) ≤ n; omega, Int.le_refl n, by show n ≤ (5 : Int); omega, by show n - n ≤ (2 : Int); omega⟩) a3 a4 a5 (fun f hf => List.all_eq_true.1 a6 f hf) (fun l hl => List.all_eq_true.1 a7 l hl)
theorem fall_mem {n : Int} (h1 : r.fall.lo ≤ n) (h2 : n ≤ r.fall.hi) {t : Tr} : t ∈ truthsA (fallR r n).nat ↔ t ∈ truthsA r.nat ∧ t.by_ = n.toNat := by
 rw [mem_truthsA (fall_ok hv h1 h2), mem_truthsA hv]
 have b := (okR_sp hv)
 have e1 : r.nat.fall.lo = r.fall.lo.toNat := rfl
 have e2 : r.nat.fall.hi = r.fall.hi.toNat := rfl
 have e3 : (fallR r n).nat.fall.lo = n.toNat := rfl
 have e4 : (fallR r n).nat.fall.hi = n.toNat := rfl
 constructor
 ·rintro ⟨c1, c2, c3, c4, c5⟩
  exact ⟨⟨c1, c2, by omega, by omega, ⟨c5.lo, c5.hi, c5.sp, c5.ok⟩⟩, by omega⟩
 ·rintro ⟨⟨c1, c2, c3, c4, c5⟩, e⟩
  exact ⟨c1, c2, by omega, by omega, ⟨c5.lo, c5.hi, c5.sp, c5.ok⟩⟩
theorem day_ok {k : Nat} {f : IFr} (hf : r.fr[k]? = some f) {n : Int} (h1 : f.days.lo ≤ n) (h2 : n ≤ f.days.hi) : okR (dayR r k f n) = true := by
 obtain ⟨⟨a1, a2, a3, a4, a5⟩, a6, a7⟩ := okR_pts hv
 refine okR_mk a1 a2 a3 (by show (r.fr.set k _).length ≤ 3; rw [List.length_set]; exact a4) a5 (fun g hg => ?_) (fun l hl => List.all_eq_true.1 a7 l hl)
 rcases List.mem_or_eq_of_mem_set hg with h | h
 ·exact List.all_eq_true.1 a6 g h
 ·have := List.all_eq_true.1 a6 f (List.mem_of_getElem? hf)
  subst h
  unfold frB at this ⊢
  rw [Bool.and_eq_true] at this ⊢
  obtain ⟨b1, b2, b3, b4⟩ := spB_iff.1 this.1
  have b3' : f.days.hi ≤ r.days := b3
  exact ⟨spB_iff.2 ⟨by show (1 : Int) ≤ n; omega, Int.le_refl n, by show n ≤ r.days; omega, by show n - n ≤ (3 : Int); omega⟩, this.2⟩
theorem day_mem {k : Nat} {f : IFr} (hf : r.fr[k]? = some f) {n : Int} (h1 : f.days.lo ≤ n) (h2 : n ≤ f.days.hi) {t : Tr} : t ∈ truthsA (dayR r k f n).nat ↔ t ∈ truthsA r.nat ∧ t.dsF k = n.toNat := by
 rw [mem_truthsA (day_ok hv hf h1 h2), mem_truthsA hv]
 have hk : k < r.fr.length := (List.getElem?_eq_some_iff.1 hf).1
 have hlen : (dayR r k f n).nat.fr.length = r.nat.fr.length := by show ((r.fr.set k _).map _).length = (r.fr.map _).length; simp
 have hat : ∀ i, (dayR r k f n).nat.fr[i]? = if i = k then some (IFr.nat { f with days := ⟨n, n⟩ }) else r.nat.fr[i]? := fun i => by
  show ((r.fr.set k _).map (·.nat))[i]? = _
  rw [List.getElem?_map, List.getElem?_set]
  by_cases e : k = i
  ·subst e; simp [hk]
  ·rw [if_neg e, if_neg (fun h => e h.symm)]; exact (List.getElem?_map ..).symm
 have hfk : r.nat.fr[k]? = some f.nat := by show (r.fr.map _)[k]? = _; rw [List.getElem?_map, hf]; rfl
 have e1 : f.nat.days.lo = f.days.lo.toNat := rfl
 have e2 : f.nat.days.hi = f.days.hi.toNat := rfl
 rw [hlen]
 constructor
 ·rintro ⟨c1, c2, c3, c4, c5⟩
  have hk5 := c5.sp k _ (by rw [hat, if_pos rfl])
  have hd : t.dsF k = n.toNat := by have h3 : n.toNat ≤ t.dsF k := hk5.1; have h4 : t.dsF k ≤ n.toNat := hk5.2.1; omega
  refine ⟨⟨c1, c2, c3, c4, ⟨c5.lo, c5.hi, fun i g hg => ?_, fun day hd => by have := c5.ok day hd; rw [hlen] at this; exact this⟩⟩, hd⟩
  by_cases e : i = k
  ·subst e
   rw [hfk] at hg
   injection hg with hg
   subst hg
   exact ⟨by omega, by omega, hk5.2.2⟩
  ·exact c5.sp i g (by rw [hat, if_neg e]; exact hg)
 ·rintro ⟨⟨c1, c2, c3, c4, c5⟩, hd⟩
  have hk5 := c5.sp k _ hfk
  refine ⟨c1, c2, c3, c4, ⟨c5.lo, c5.hi, fun i g hg => ?_, fun day hd => by rw [hlen]; exact c5.ok day hd⟩⟩
  rw [hat] at hg
  by_cases e : i = k
  ·subst e
   rw [if_pos rfl] at hg
   injection hg with hg
   subst hg
   exact ⟨by show n.toNat ≤ _; omega, by show _ ≤ n.toNat; omega, hk5.2.2⟩
  ·rw [if_neg e] at hg
   exact c5.sp i g hg
theorem with_ok {l : ILk} (h5 : r.lk.length < 5) (hl : lkB r.days l = true) : okR (withR r l) = true := by
 obtain ⟨⟨a1, a2, a3, a4, a5⟩, a6, a7⟩ := okR_pts hv
 refine okR_mk a1 a2 a3 a4 (by show (r.lk ++ [l]).length ≤ 5; rw [List.length_append]; show r.lk.length + 1 ≤ 5; omega) (fun f hf => List.all_eq_true.1 a6 f hf) (fun g hg => ?_)
 rcases List.mem_append.1 hg with h | h
 ·exact List.all_eq_true.1 a7 g h
 ·obtain rfl : g = l := by simpa using h
  exact hl
theorem with_mem {l : ILk} (h5 : r.lk.length < 5) (hl : lkB r.days l = true) {t : Tr} : t ∈ truthsA (withR r l).nat ↔ t ∈ truthsA r.nat ∧ l.dep.lo.toNat ≤ t.at_ l.day.toNat ∧ t.at_ l.day.toNat ≤ l.dep.hi.toNat := by
 rw [mem_truthsA (with_ok hv h5 hl), mem_truthsA hv]
 have hday : l.day.toNat ≤ r.nat.days := by
  unfold lkB at hl
  rw [Bool.and_eq_true] at hl
  have := inB_iff.1 hl.1
  show l.day.toNat ≤ r.days.toNat
  omega
 have hlk : (withR r l).nat.lk = r.nat.lk ++ [l.nat] := by show (r.lk ++ [l]).map _ = _; rw [List.map_append]; rfl
 have hfull : ∀ (m i : Nat), i < m → (full m).testBit i = true := fun m i h => by
  unfold full
  rw [Nat.testBit_two_pow_sub_one]
  exact decide_eq_true h
 constructor
 ·rintro ⟨c1, c2, c3, c4, c5⟩
  refine ⟨⟨c1, c2, c3, c4, ⟨c5.lo, c5.hi, c5.sp, fun day hd => fits_iff.2 fun k g hg hb he => ?_⟩⟩, ?_⟩
  ·have hk := (List.getElem?_eq_some_iff.1 hg).1
   exact fits_iff.1 (c5.ok day hd) k g (by rw [hlk, List.getElem?_append_left hk]; exact hg) (hfull _ _ (by rw [hlk, List.length_append]; show k < _ + 1; omega)) he
  ·have h := fits_iff.1 (c5.ok l.day.toNat hday) r.nat.lk.length l.nat (by rw [hlk, List.getElem?_append_right (Nat.le_refl _), Nat.sub_self]; rfl) (hfull _ _ (by rw [hlk, List.length_append]; show _ < _ + 1; omega)) rfl
   unfold Tr.at_
   rw [c1]
   exact h
 ·rintro ⟨⟨c1, c2, c3, c4, c5⟩, h⟩
  refine ⟨c1, c2, c3, c4, ⟨c5.lo, c5.hi, c5.sp, fun day hd => fits_iff.2 fun k g hg hb he => ?_⟩⟩
  rw [hlk] at hg
  by_cases e : k < r.nat.lk.length
  ·rw [List.getElem?_append_left e] at hg
   exact fits_iff.1 (c5.ok day hd) k g hg (hfull _ _ e) he
  ·have hk := (List.getElem?_eq_some_iff.1 hg).1
   rw [List.length_append] at hk
   have e2 : k = r.nat.lk.length := by have h1 : [l.nat].length = 1 := rfl; omega
   subst e2
   rw [List.getElem?_append_right (Nat.le_refl _), Nat.sub_self] at hg
   obtain rfl : l.nat = g := by simpa using hg
   have he' : l.day.toNat = day := he
   subst he'
   unfold Tr.at_ at h
   rw [c1] at h
   exact h
theorem fall_in {n : Int} (h1 : r.fall.lo ≤ n) (h2 : n ≤ r.fall.hi) (ht : truthsA (fallR r n).nat ≠ []) : ((fallQ r.nat).1 : Int) ≤ n ∧ n ≤ ((fallQ r.nat).2 : Int) := by
 obtain ⟨t, hm⟩ := List.exists_mem_of_ne_nil _ ht
 obtain ⟨hm, he⟩ := (fall_mem hv h1 h2).1 hm
 have H : IsHull ((truthsA r.nat).map (·.by_)) (fallQ r.nat) := hullP_is (fun e => by rw [List.map_eq_nil_iff.1 e] at hm; cases hm)
 have hx := List.mem_map_of_mem (f := fun t : Tr => t.by_) hm
 have a := H.le _ hx
 have b := H.ge _ hx
 have := (okR_sp hv).2.2.2.1
 omega
theorem fall_end {n : Int} (ht : truthsA r.nat ≠ []) (h1 : r.fall.lo ≤ n) (h2 : n ≤ r.fall.hi) (he : n = ((fallQ r.nat).1 : Int) ∨ n = ((fallQ r.nat).2 : Int)) : truthsA (fallR r n).nat ≠ [] := by
 have H : IsHull ((truthsA r.nat).map (·.by_)) (fallQ r.nat) := hullP_is (fun e => ht (List.map_eq_nil_iff.1 e))
 have hm : n.toNat ∈ (truthsA r.nat).map (·.by_) := by
  rcases he with e | e
  ·rw [e, Int.toNat_natCast]; exact H.lo
  ·rw [e, Int.toNat_natCast]; exact H.hi
 obtain ⟨t, hx, e⟩ := List.mem_map.1 hm
 exact List.ne_nil_of_mem ((fall_mem hv h1 h2).2 ⟨hx, e⟩)
/-- The days, of the first m of a fresh's, on which it can come. -/
def canN (r : IRiv) (k : Nat) (f : IFr) : Nat → Nat
 | 0 => 0
 | m + 1 => canN r k f m ||| (if truthsA (dayR r k f (f.days.lo + m)).nat = [] then 0 else 2 ^ (f.days.lo.toNat + m))
omit hv in
theorem tb_canN (k : Nat) (f : IFr) (j : Nat) : ∀ m, (canN r k f m).testBit j = true ↔ ∃ i, i < m ∧ f.days.lo.toNat + i = j ∧ truthsA (dayR r k f (f.days.lo + i)).nat ≠ []
 | 0 => by simp [canN]
 | m + 1 => by
  rw [canN, Nat.testBit_or, Bool.or_eq_true, tb_canN k f j m]
  constructor
  ·rintro (⟨i, h1, h2, h3⟩ | h)
   ·exact ⟨i, by omega, h2, h3⟩
   ·split at h
    ·simp at h
    ·rename_i hh
     rw [Nat.testBit_two_pow] at h
     exact ⟨m, by omega, of_decide_eq_true h, hh⟩
  ·rintro ⟨i, h1, h2, h3⟩
   by_cases e : i = m
   ·subst e
    right
    rw [if_neg h3, Nat.testBit_two_pow]
    exact decide_eq_true h2
   ·exact .inl ⟨i, by omega, h2, h3⟩
theorem fresh_can {k : Nat} {f : IFr} (hf : r.fr[k]? = some f) : freshP r.nat k = canN r k f (f.days.hi - f.days.lo + 1).toNat := Nat.eq_of_testBit_eq fun j => by
 obtain ⟨-, -, -, -, u1, u2⟩ := up_ok hv hf (m := 0) (by omega)
 rw [Bool.eq_iff_iff, tb_canN]
 unfold freshP
 rw [tb_orP, decide_eq_true_iff, List.mem_map]
 constructor
 ·rintro ⟨t, ht, e⟩
  have hk5 := ((mem_truthsA hv).1 ht).2.2.2.2.sp k f.nat (by show (r.fr.map _)[k]? = _; rw [List.getElem?_map, hf]; rfl)
  have e1 : f.nat.days.lo = f.days.lo.toNat := rfl
  have e2 : f.nat.days.hi = f.days.hi.toNat := rfl
  refine ⟨j - f.days.lo.toNat, by omega, by omega, ?_⟩
  exact List.ne_nil_of_mem ((day_mem hv hf (n := f.days.lo + ((j - f.days.lo.toNat : Nat) : Int)) (by omega) (by omega)).2 ⟨ht, by omega⟩)
 ·rintro ⟨i, h1, h2, h3⟩
  obtain ⟨t, hm⟩ := List.exists_mem_of_ne_nil _ h3
  obtain ⟨hm, he⟩ := (day_mem hv hf (n := f.days.lo + (i : Int)) (by omega) (by omega)).1 hm
  exact ⟨t, hm, by omega⟩
omit hv in
theorem fresh_pos {k : Nat} (ht : truthsA r.nat ≠ []) : freshP r.nat k ≠ 0 := fun e => by
 obtain ⟨t, hm⟩ := List.exists_mem_of_ne_nil _ ht
 have h : (freshP r.nat k).testBit (t.dsF k) = true := by
  unfold freshP
  rw [tb_orP]
  exact decide_eq_true (List.mem_map_of_mem (f := fun t : Tr => t.dsF k) hm)
 rw [e, Nat.zero_testBit] at h
 cases h
/-- A look that shows a depth. -/
def lookN (d n : Nat) : ILk := ⟨(d : Int), ⟨(n : Int), (n : Int)⟩⟩
theorem look_ok {d n : Nat} (hd : d ≤ r.nat.days) (hn : n ≤ 200) : lkB r.days (lookN d n) = true := by
 have h3 := inB_iff.1 (okR_pts hv).1.2.2.1
 have e : r.nat.days = r.days.toNat := rfl
 unfold lkB lookN
 rw [Bool.and_eq_true]
 exact ⟨inB_iff.2 (by show (0 : Int) ≤ (d : Int) ∧ (d : Int) ≤ r.days; omega), spB_iff.2 ⟨by show (0 : Int) ≤ (n : Int); omega, Int.le_refl _, by show (n : Int) ≤ 200; omega, by show (n : Int) - n ≤ 200; omega⟩⟩
theorem look_mem {d n : Nat} (h5 : r.lk.length < 5) (hd : d ≤ r.nat.days) (hn : n ≤ 200) {t : Tr} : t ∈ truthsA (withR r (lookN d n)).nat ↔ t ∈ truthsA r.nat ∧ t.at_ d = n := by
 rw [with_mem hv h5 (look_ok hv hd hn)]
 have e1 : (lookN d n).dep.lo.toNat = n := Int.toNat_natCast n
 have e2 : (lookN d n).dep.hi.toNat = n := Int.toNat_natCast n
 have e3 : (lookN d n).day.toNat = d := Int.toNat_natCast d
 rw [e1, e2, e3]
 exact ⟨fun h => ⟨h.1, by omega⟩, fun h => ⟨h.1, by omega⟩⟩
theorem look_in {d n : Nat} (h5 : r.lk.length < 5) (hd : d ≤ r.nat.days) (hn : n ≤ 200) (ht : truthsA (withR r (lookN d n)).nat ≠ []) : (depthP r.nat d).1 ≤ n ∧ n ≤ (depthP r.nat d).2 ∧ depthP (withR r (lookN d n)).nat d = (n, n) := by
 obtain ⟨t, hm⟩ := List.exists_mem_of_ne_nil _ ht
 obtain ⟨hm', he⟩ := (look_mem hv h5 hd hn).1 hm
 have H := depthP_hull (R := r.nat) (fun e => by rw [e] at hm'; cases hm') d
 have hx := List.mem_map_of_mem (f := fun t : Tr => t.at_ d) hm'
 have a := H.le _ hx
 have b := H.ge _ hx
 refine ⟨by omega, by omega, ?_⟩
 have H2 := depthP_hull ht d
 have h3 : ∀ x ∈ (truthsA (withR r (lookN d n)).nat).map (fun t => t.at_ d), x = n := fun x hx => by
  obtain ⟨u, hu, rfl⟩ := List.mem_map.1 hx
  exact ((look_mem hv h5 hd hn).1 hu).2
 exact Prod.ext (h3 _ H2.lo) (h3 _ H2.hi)
theorem look_end {d n : Nat} (ht : truthsA r.nat ≠ []) (h5 : r.lk.length < 5) (hd : d ≤ r.nat.days) (hn : n ≤ 200) (he : n = (depthP r.nat d).1 ∨ n = (depthP r.nat d).2) : truthsA (withR r (lookN d n)).nat ≠ [] := by
 have H := depthP_hull ht d
 have hm : n ∈ (truthsA r.nat).map (·.at_ d) := by
  rcases he with e | e
  ·rw [e]; exact H.lo
  ·rw [e]; exact H.hi
 obtain ⟨t, hx, e⟩ := List.mem_map.1 hm
 exact List.ne_nil_of_mem ((look_mem hv h5 hd hn).2 ⟨hx, e⟩)
end
end Go.Proofs.Ytiodmkokpfgkkaa
