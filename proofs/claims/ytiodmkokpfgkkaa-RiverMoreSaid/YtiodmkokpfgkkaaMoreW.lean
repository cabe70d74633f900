/- What the law RiverMore asks, in plain Lean: what a river that is known better tells, and the same river told the other way round. What the api returns that the law RiverMore asks for, in few numbers. -/
import Derived.Test.YtiodmkokpfgkkaaEndsP
import Derived.Test.YtiodmkokpfgkkaaBearsP
import Derived.Test.YtiodmkokpfgkkaaLawU
namespace Go.Proofs.Ytiodmkokpfgkkaa
/-- Each truth of the one is one of the other. -/
structure SubT (Q R : Riv) : Prop where
 mem : ∀ t ∈ truthsA Q, t ∈ truthsA R
 days : Q.days = R.days
section
variable {Q R : Riv} (h : SubT Q R) (hq : truthsA Q ≠ [])
include h hq
theorem SubT.ne : truthsA R ≠ [] := by
 obtain ⟨t, ht⟩ := List.exists_mem_of_ne_nil _ hq
 exact List.ne_nil_of_mem (h.mem t ht)
theorem SubT.hull (f : Tr → Nat) : (hullP ((truthsA R).map f)).1 ≤ (hullP ((truthsA Q).map f)).1 ∧ (hullP ((truthsA Q).map f)).2 ≤ (hullP ((truthsA R).map f)).2 := by
 have a := hullP_is (l := (truthsA Q).map f) (fun e => hq (List.map_eq_nil_iff.1 e))
 have b := hullP_is (l := (truthsA R).map f) (fun e => h.ne hq (List.map_eq_nil_iff.1 e))
 have s : ∀ x ∈ (truthsA Q).map f, x ∈ (truthsA R).map f := fun x hx => by
  obtain ⟨t, ht, rfl⟩ := List.mem_map.1 hx
  exact List.mem_map_of_mem (h.mem t ht)
 exact ⟨b.le _ (s _ a.lo), b.ge _ (s _ a.hi)⟩
theorem SubT.depth (d : Nat) : (depthP R d).1 ≤ (depthP Q d).1 ∧ (depthP Q d).2 ≤ (depthP R d).2 := h.hull hq (·.at_ d)
theorem SubT.fall : (fallQ R).1 ≤ (fallQ Q).1 ∧ (fallQ Q).2 ≤ (fallQ R).2 := h.hull hq (·.by_)
theorem SubT.surely (m : Nat) : dif (surelyP R m) (surelyP Q m) = 0 := Nat.eq_of_testBit_eq fun j => by
 rw [tb_dif, Nat.zero_testBit]
 cases ha : (surelyP R m).testBit j
 ·rfl
 ·rw [surely_lo, tb_setN, Bool.and_eq_true, decide_eq_true_iff] at ha
  have hb : (surelyP Q m).testBit j = true := by
   rw [surely_lo, tb_setN, Bool.and_eq_true, decide_eq_true_iff, h.days]
   refine ⟨ha.1, ?_⟩
   have h1 := ha.2
   unfold loB at h1 ⊢
   exact decide_eq_true (Nat.le_trans (of_decide_eq_true h1) (h.depth hq j).1)
  rw [hb]
  rfl
theorem SubT.perhaps (m : Nat) : dif (perhapsP Q m) (perhapsP R m) = 0 := Nat.eq_of_testBit_eq fun j => by
 rw [tb_dif, Nat.zero_testBit]
 cases ha : (perhapsP Q m).testBit j
 ·rfl
 ·rw [perhaps_hi hq, tb_setN, Bool.and_eq_true, decide_eq_true_iff, h.days] at ha
  have hb : (perhapsP R m).testBit j = true := by
   rw [perhaps_hi (h.ne hq), tb_setN, Bool.and_eq_true, decide_eq_true_iff]
   refine ⟨ha.1, ?_⟩
   have h1 := ha.2
   unfold hiB at h1 ⊢
   exact decide_eq_true (Nat.le_trans (of_decide_eq_true h1) (h.depth hq j).2)
  rw [hb]
  rfl
end
section
variable {r : IRiv} (hv : okR r = true)
include hv
theorem with_sub {l : ILk} (hx : okR (withR r l) = true) : SubT (withR r l).nat r.nat := by
 obtain ⟨⟨-, -, -, -, h5⟩, -, h7⟩ := okR_pts hx
 have hl : lkB r.days l = true := List.all_eq_true.1 h7 l (by show l ∈ r.lk ++ [l]; simp)
 have h5' : r.lk.length < 5 := by
  have h : (r.lk ++ [l]).length ≤ 5 := h5
  rw [List.length_append] at h
  have : [l].length = 1 := rfl
  omega
 exact ⟨fun t ht => ((with_mem hv h5' hl).1 ht).1, rfl⟩
/-- The river with a span less wide: of the depth, the fall, or a fresh's days or rise. -/
theorem sub_of {q : IRiv} (hq : okR q = true) (h1 : r.depth.lo ≤ q.depth.lo) (h2 : q.depth.hi = r.depth.hi) (h3 : r.fall.lo ≤ q.fall.lo) (h4 : q.fall.hi = r.fall.hi) (h5 : q.days = r.days) (h6 : q.lk = r.lk) (h7 : q.fr.length = r.fr.length)
  (h8 : ∀ (i : Nat) (f : IFr), r.fr[i]? = some f → ∃ g : IFr, q.fr[i]? = some g ∧ f.days.lo ≤ g.days.lo ∧ g.days.hi = f.days.hi ∧ f.rise.lo ≤ g.rise.lo ∧ g.rise.hi = f.rise.hi) : SubT q.nat r.nat := by
 have hl : q.nat.fr.length = r.nat.fr.length := by show (q.fr.map _).length = (r.fr.map _).length; rw [List.length_map, List.length_map, h7]
 have hk : q.nat.lk = r.nat.lk := by show q.lk.map _ = r.lk.map _; rw [h6]
 have hd : q.nat.days = r.nat.days := by show q.days.toNat = r.days.toNat; rw [h5]
 refine ⟨fun t ht => ?_, hd⟩
 obtain ⟨c1, c2, c3, c4, c5⟩ := (mem_truthsA hq).1 ht
 have e1 : q.nat.fall.lo = q.fall.lo.toNat := rfl
 have e2 : q.nat.fall.hi = q.fall.hi.toNat := rfl
 have e3 : r.nat.fall.lo = r.fall.lo.toNat := rfl
 have e4 : r.nat.fall.hi = r.fall.hi.toNat := rfl
 have e5 : q.nat.depth.lo = q.depth.lo.toNat := rfl
 have e6 : q.nat.depth.hi = q.depth.hi.toNat := rfl
 have e7 : r.nat.depth.lo = r.depth.lo.toNat := rfl
 have e8 : r.nat.depth.hi = r.depth.hi.toNat := rfl
 have d1 := c5.lo
 have d2 := c5.hi
 refine (mem_truthsA hv).2 ⟨c1.trans hl, c2.trans hl, by omega, by omega, ⟨by omega, by omega, fun i f hf => ?_, fun day hday => ?_⟩⟩
 ·obtain ⟨f0, hf0, rfl⟩ : ∃ f0, r.fr[i]? = some f0 ∧ f0.nat = f := by
   have h : (r.fr.map (·.nat))[i]? = some f := hf
   rw [List.getElem?_map] at h
   exact Option.map_eq_some_iff.1 h
  obtain ⟨g, hg, a1, a2, a3, a4⟩ := h8 i f0 hf0
  obtain ⟨b1, b2, b3, b4⟩ := c5.sp i g.nat (by show (q.fr.map _)[i]? = _; rw [List.getElem?_map, hg]; rfl)
  have k1 : g.nat.days.lo = g.days.lo.toNat := rfl
  have k2 : g.nat.days.hi = g.days.hi.toNat := rfl
  have k3 : g.nat.rise.lo = g.rise.lo.toNat := rfl
  have k4 : g.nat.rise.hi = g.rise.hi.toNat := rfl
  have k5 : f0.nat.days.lo = f0.days.lo.toNat := rfl
  have k6 : f0.nat.days.hi = f0.days.hi.toNat := rfl
  have k7 : f0.nat.rise.lo = f0.rise.lo.toNat := rfl
  have k8 : f0.nat.rise.hi = f0.rise.hi.toNat := rfl
  exact ⟨by omega, by omega, by omega, by omega⟩
 ·have h := c5.ok day (by rw [hd]; exact hday)
  rw [hl] at h
  rw [fits_iff] at h ⊢
  intro k l hkl hb he
  exact h k l (by rw [hk]; exact hkl) (by rw [hk]; exact hb) he
end
/-! The other way round. -/
def sumN (g : Nat → Nat) : Nat → Nat
 | 0 => 0
 | n + 1 => sumN g n + g n
theorem sumN_ext {g h : Nat → Nat} : ∀ n, (∀ i, i < n → g i = h i) → sumN g n = sumN h n
 | 0, _ => rfl
 | n + 1, e => by rw [sumN, sumN, sumN_ext n (fun i hi => e i (by omega)), e n (by omega)]
theorem sumN_front (g : Nat → Nat) : ∀ n, sumN g (n + 1) = g 0 + sumN (fun i => g (i + 1)) n
 | 0 => by simp [sumN]
 | n + 1 => by rw [sumN, sumN_front g n, sumN]; omega
theorem sumN_flip (g : Nat → Nat) : ∀ n, sumN (fun i => g (n - 1 - i)) n = sumN g n
 | 0 => rfl
 | n + 1 => by
  have h := sumN_flip (fun i => g (i + 1)) n
  have e : sumN (fun i => g (n + 1 - 1 - i)) n = sumN (fun i => g (n - 1 - i + 1)) n := sumN_ext n fun i hi => by show g _ = g _; congr 1; omega
  rw [sumN_front g n, ← h, sumN, e, show n + 1 - 1 - n = 0 by omega]
  omega
/-- The list of a river's freshes, by their numbers, the other way round. -/
def flipF (n : Nat) (f : Nat → Nat) (i : Nat) : Nat := f (n - 1 - i)
theorem riseN_sum (ds rs : Nat → Nat) (day : Nat) : ∀ n, riseN ds rs day n = sumN (fun i => if ds i = day then rs i else 0) n
 | 0 => rfl
 | n + 1 => by rw [riseN, sumN, riseN_sum ds rs day n]
theorem riseN_flip (ds rs : Nat → Nat) (day n : Nat) : riseN (flipF n ds) (flipF n rs) day n = riseN ds rs day n := by
 rw [riseN_sum, riseN_sum]
 exact sumN_flip (fun i => if ds i = day then rs i else 0) n
theorem atF_flip (d b n : Nat) (ds rs : Nat → Nat) : ∀ day, atF d b n (flipF n ds) (flipF n rs) day = atF d b n ds rs day
 | 0 => rfl
 | k + 1 => by rw [atF, atF, atF_flip d b n ds rs k, riseN_flip]
/-- The river told the other way round. -/
def flipR (r : IRiv) : IRiv := { r with fr := r.fr.reverse, lk := r.lk.reverse }
theorem flip_flip (r : IRiv) : flipR (flipR r) = r := by
 unfold flipR
 simp only [List.reverse_reverse]
theorem flip_ok {r : IRiv} (hv : okR r = true) : okR (flipR r) = true := by
 obtain ⟨⟨a1, a2, a3, a4, a5⟩, a6, a7⟩ := okR_pts hv
 exact okR_mk a1 a2 a3 (by show r.fr.reverse.length ≤ 3; rw [List.length_reverse]; exact a4) (by show r.lk.reverse.length ≤ 5; rw [List.length_reverse]; exact a5) (fun f hf => List.all_eq_true.1 a6 f (List.mem_reverse.1 hf)) (fun l hl => List.all_eq_true.1 a7 l (List.mem_reverse.1 hl))
/-- The truth told the other way round. -/
def Tr.flip (t : Tr) : Tr := Tr.of t.d t.by_ t.ds.length (flipF t.ds.length t.dsF) (flipF t.ds.length t.rsF)
theorem Tr.flip_at (t : Tr) (day : Nat) : t.flip.at_ day = t.at_ day := by
 unfold Tr.flip
 rw [Tr.of_at, atF_flip]
 rfl
theorem Tr.flip_ds (t : Tr) {i : Nat} (h : i < t.ds.length) : t.flip.dsF i = t.dsF (t.ds.length - 1 - i) := (Tr.of_ds (d := t.d) (by_ := t.by_) (ds := flipF t.ds.length t.dsF) (rs := flipF t.ds.length t.rsF) h).1
theorem flip_mem {r : IRiv} (hv : okR r = true) {t : Tr} (ht : t ∈ truthsA r.nat) : t.flip ∈ truthsA (flipR r).nat := by
 obtain ⟨c1, c2, c3, c4, c5⟩ := (mem_truthsA hv).1 ht
 have hn : t.ds.length = r.fr.length := by rw [c1]; show (r.fr.map _).length = _; rw [List.length_map]
 have hfn : (flipR r).nat.fr.length = t.ds.length := by show (r.fr.reverse.map _).length = _; rw [List.length_map, List.length_reverse, hn]
 have hfl : (flipR r).nat.fr = r.nat.fr.reverse := by show r.fr.reverse.map _ = (r.fr.map _).reverse; rw [List.map_reverse]
 have hll : (flipR r).nat.lk = r.nat.lk.reverse := by show r.lk.reverse.map _ = (r.lk.map _).reverse; rw [List.map_reverse]
 unfold Tr.flip
 rw [← hfn]
 refine truth_of (lk_ok (flip_ok hv)) c3 c4 ⟨c5.lo, c5.hi, fun i f hf => ?_, fun day hd => ?_⟩
 ·rw [hfl] at hf
  have hi : i < r.nat.fr.length := by have := (List.getElem?_eq_some_iff.1 hf).1; rwa [List.length_reverse] at this
  rw [List.getElem?_reverse hi] at hf
  rw [hfn, c1]
  exact c5.sp _ f hf
 ·rw [hfn, atF_flip, c1]
  rw [fits_iff]
  intro k l hl _ he
  have hm : l ∈ r.nat.lk := by have := List.mem_of_getElem? hl; rw [hll] at this; exact List.mem_reverse.1 this
  obtain ⟨j, hj⟩ := List.getElem?_of_mem hm
  refine fits_iff.1 (c5.ok day hd) j l hj ?_ he
  rw [tb_full]
  exact decide_eq_true (List.getElem?_eq_some_iff.1 hj).1
section
variable {r : IRiv} (hv : okR r = true)
include hv
theorem flip_map {α : Type} (f : Tr → α) (hf : ∀ t : Tr, f t.flip = f t) (x : α) : x ∈ (truthsA (flipR r).nat).map f ↔ x ∈ (truthsA r.nat).map f := by
 constructor
 ·intro h
  obtain ⟨t, ht, rfl⟩ := List.mem_map.1 h
  have := flip_mem (flip_ok hv) ht
  rw [flip_flip] at this
  rw [← hf t]
  exact List.mem_map_of_mem (f := f) this
 ·intro h
  obtain ⟨t, ht, rfl⟩ := List.mem_map.1 h
  rw [← hf t]
  exact List.mem_map_of_mem (f := f) (flip_mem hv ht)
theorem flip_none : truthsA (flipR r).nat = [] ↔ truthsA r.nat = [] := by
 constructor
 ·intro h
  refine List.eq_nil_iff_forall_not_mem.2 fun t ht => ?_
  have := flip_mem hv ht
  rw [h] at this
  cases this
 ·intro h
  refine List.eq_nil_iff_forall_not_mem.2 fun t ht => ?_
  have := flip_mem (flip_ok hv) ht
  rw [flip_flip, h] at this
  cases this
theorem flip_depth (d : Nat) : depthP (flipR r).nat d = depthP r.nat d := hullP_congr (flip_map hv (·.at_ d) (fun t => t.flip_at d))
theorem flip_fall : fallQ (flipR r).nat = fallQ r.nat := hullP_congr (flip_map hv (·.by_) (fun _ => rfl))
theorem flip_surely (n : Nat) : surelyP (flipR r).nat n = surelyP r.nat n := setN_congr _ fun d _ => by unfold bearsP; rw [flip_depth hv]
theorem flip_perhaps (n : Nat) : perhapsP (flipR r).nat n = perhapsP r.nat n := setN_congr _ fun d _ => by unfold bearsP; rw [flip_depth hv]
theorem flip_fresh {i : Nat} (hi : i < r.fr.length) : freshP (flipR r).nat (r.fr.length - 1 - i) = freshP r.nat i := Nat.eq_of_testBit_eq fun j => by
 have hlen : ∀ {s : IRiv}, okR s = true → ∀ t ∈ truthsA s.nat, t.ds.length = s.fr.length := fun hs t ht => by
  rw [((mem_truthsA hs).1 ht).1]; show (List.map _ _).length = _; rw [List.length_map]
 unfold freshP
 rw [tb_orP, tb_orP]
 refine decide_eq_decide.2 ⟨fun h => ?_, fun h => ?_⟩
 ·obtain ⟨t, ht, rfl⟩ := List.mem_map.1 h
  have hl := hlen (flip_ok hv) t ht
  have hl' : t.ds.length = r.fr.length := by rw [hl]; exact List.length_reverse
  have hm := flip_mem (flip_ok hv) ht
  rw [flip_flip] at hm
  refine List.mem_map.2 ⟨_, hm, ?_⟩
  rw [Tr.flip_ds t (by omega), hl']
 ·obtain ⟨t, ht, rfl⟩ := List.mem_map.1 h
  have hl := hlen hv t ht
  refine List.mem_map.2 ⟨_, flip_mem hv ht, ?_⟩
  rw [Tr.flip_ds t (by omega), hl]
  congr 1
  omega
end
end Go.Proofs.Ytiodmkokpfgkkaa
namespace Go.Proofs.Ytiodmkokpfgkkaa
open Go.RowKit Go.Hav Go.Shelf Go.Sq
/-- The depth on a day, the fall, and the days on which it bears a boat, of a river with a truth or without. -/
structure MV (r : IRiv) (d n lo hi flo fhi sv pv : Nat) (E : Int) : Prop where
 vd : Value.tuple #[hullV (depthV r (d : Int)), .int .i64 (depthE r (d : Int))] = .tuple #[.agg #[.int .i64 lo, .int .i64 hi], .int .i64 E]
 vf : Value.tuple #[hullV (fallV r), .int .i64 (fallE r)] = .tuple #[.agg #[.int .i64 flo, .int .i64 fhi], .int .i64 E]
 vy : Value.tuple #[.int .i64 (surelyV r (n : Int)), .int .i64 (perhapsV r (n : Int)), .int .i64 (daysE r (n : Int))] = .tuple #[.int .i64 sv, .int .i64 pv, .int .i64 E]
 is : (E = 0 ∧ truthsA r.nat ≠ [] ∧ lo = (depthP r.nat d).1 ∧ hi = (depthP r.nat d).2 ∧ flo = (fallQ r.nat).1 ∧ fhi = (fallQ r.nat).2 ∧ sv = surelyP r.nat n ∧ pv = perhapsP r.nat n) ∨ (E = 10 ∧ truthsA r.nat = [] ∧ lo = 0 ∧ hi = 0 ∧ flo = 0 ∧ fhi = 0 ∧ sv = 0 ∧ pv = 0)
 ls : sv < 2048
 lp : pv < 2048
theorem set_lt {f : Nat → Bool} {n : Nat} (h : n ≤ 10) : setN f (n + 1) < 2048 := by
 have h1 := setN_lt f (n + 1)
 have h2 := Nat.pow_le_pow_right (n := 2) (by omega) (show n + 1 ≤ 11 by omega)
 omega
theorem mv_of {r : IRiv} (hv : okR r = true) {d n : Nat} (hd : d ≤ r.nat.days) (hn : n ≤ 200) : ∃ (lo hi flo fhi sv pv : Nat) (E : Int), MV r d n lo hi flo fhi sv pv E := by
 by_cases ht : truthsA r.nat = []
 ·have e1 : depthE r (d : Int) = 10 := toldE_clash hv (isDay_nat hv hd) ht
  have e2 : fallE r = 10 := toldE_clash hv rfl ht
  refine ⟨0, 0, 0, 0, 0, 0, 10, ?_, ?_, days_clash hv ht hn, .inr ⟨rfl, ht, rfl, rfl, rfl, rfl, rfl, rfl⟩, by omega, by omega⟩
  ·unfold depthV; rw [if_neg (by omega), e1]; rfl
  ·unfold fallV; rw [if_neg (by omega), e2]; rfl
 ·have h10 := (days_nat hv).2.2
  exact ⟨_, _, _, _, _, _, 0, depth_fine hv ht hd, fall_fine hv ht, days_fine hv ht hn, .inl ⟨rfl, ht, rfl, rfl, rfl, rfl, rfl, rfl⟩, set_lt h10, set_lt h10⟩
theorem MV.sub {r q : IRiv} {d n lo hi flo fhi sv pv lo' hi' flo' fhi' sv' pv' : Nat} {E E' : Int} (hs : SubT q.nat r.nat) (M : MV r d n lo hi flo fhi sv pv E) (M' : MV q d n lo' hi' flo' fhi' sv' pv' E') :
  E' = 10 ∨ (E' = 0 ∧ E = 0 ∧ lo ≤ lo' ∧ hi' ≤ hi ∧ flo ≤ flo' ∧ fhi' ≤ fhi ∧ dif sv sv' = 0 ∧ dif pv' pv = 0) := by
 rcases M'.is with ⟨e, hq, rfl, rfl, rfl, rfl, rfl, rfl⟩ | ⟨e, -⟩
 ·right
  rcases M.is with ⟨e0, hr, rfl, rfl, rfl, rfl, rfl, rfl⟩ | ⟨-, h, -⟩
  ·have h1 := hs.depth hq d
   have h2 := hs.fall hq
   exact ⟨e, e0, h1.1, h1.2, h2.1, h2.2, hs.surely hq n, hs.perhaps hq n⟩
  ·exact absurd h (hs.ne hq)
 ·exact .inl e
section
variable {r : IRiv} (hv : okR r = true)
include hv
theorem told_flip (is : Bool) : toldE (flipR r) is = toldE r is := by
 unfold toldE
 rw [flip_ok hv, hv]
 by_cases h : truthsA r.nat = []
 ·rw [if_pos h, if_pos ((flip_none hv).2 h)]
 ·rw [if_neg h, if_neg (fun e => h ((flip_none hv).1 e))]
theorem MV.flip {d n lo hi flo fhi sv pv : Nat} {E : Int} (M : MV r d n lo hi flo fhi sv pv E) : MV (flipR r) d n lo hi flo fhi sv pv E := by
 have e1 : depthE (flipR r) (d : Int) = depthE r (d : Int) := told_flip hv _
 have e2 : fallE (flipR r) = fallE r := told_flip hv _
 have e3 : daysE (flipR r) (n : Int) = daysE r (n : Int) := told_flip hv _
 have v1 : depthV (flipR r) (d : Int) = depthV r (d : Int) := by unfold depthV; rw [e1, flip_depth hv]
 have v2 : fallV (flipR r) = fallV r := by unfold fallV; rw [e2, flip_fall hv]
 have v3 : surelyV (flipR r) (n : Int) = surelyV r (n : Int) := by unfold surelyV; rw [e3, flip_surely hv]
 have v4 : perhapsV (flipR r) (n : Int) = perhapsV r (n : Int) := by unfold perhapsV; rw [e3, flip_perhaps hv]
 refine ⟨by rw [e1, v1]; exact M.vd, by rw [e2, v2]; exact M.vf, by rw [e3, v3, v4]; exact M.vy, ?_, M.ls, M.lp⟩
 rw [flip_depth hv, flip_fall hv, flip_surely hv, flip_perhaps hv, flip_none hv, Ne, flip_none hv]
 exact M.is
theorem MV.fresh {d n lo hi flo fhi sv pv : Nat} {E : Int} (M : MV r d n lo hi flo fhi sv pv E) {i : Nat} (hi2 : i < r.fr.length) : ∃ c : Nat, Value.tuple #[.int .i64 (freshV r (i : Int)), .int .i64 (freshE r (i : Int))] = .tuple #[.int .i64 c, .int .i64 E] ∧
  Value.tuple #[.int .i64 (freshV (flipR r) ((r.fr.length : Int) - 1 - i)), .int .i64 (freshE (flipR r) ((r.fr.length : Int) - 1 - i))] = .tuple #[.int .i64 c, .int .i64 E] := by
 have i1 : isFrB r (i : Int) = true := inB_iff.2 (by omega)
 have hlen : (flipR r).fr.length = r.fr.length := List.length_reverse
 have i2 : isFrB (flipR r) ((r.fr.length : Int) - 1 - i) = true := inB_iff.2 (by rw [hlen]; omega)
 have e1 : freshE (flipR r) ((r.fr.length : Int) - 1 - i) = freshE r (i : Int) := by unfold freshE; rw [i2, i1]; exact told_flip hv _
 have v1 : freshV (flipR r) ((r.fr.length : Int) - 1 - i) = freshV r (i : Int) := by
  unfold freshV
  rw [e1, show ((r.fr.length : Int) - 1 - i).toNat = r.fr.length - 1 - i by omega, Int.toNat_natCast, flip_fresh hv hi2]
 have eE : ((freshE r (i : Int) : Nat) : Int) = E := by
  rcases M.is with ⟨e, ht, -⟩ | ⟨e, ht, -⟩
  ·rw [e]; exact congrArg _ (toldE_fine hv i1 ht)
  ·rw [e]; exact congrArg _ (toldE_clash hv i1 ht)
 exact ⟨freshV r (i : Int), by rw [eE], by rw [v1, e1, eE]⟩
end
end Go.Proofs.Ytiodmkokpfgkkaa
