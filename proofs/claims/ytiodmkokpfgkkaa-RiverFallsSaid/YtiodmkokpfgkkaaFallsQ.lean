/- The five rivers of the law RiverFalls: they are valid, and their depths are to each other as it says. Plain. -/
import Derived.Test.YtiodmkokpfgkkaaFallsP
namespace Go.Proofs.Ytiodmkokpfgkkaa
theorem okR_mk {r : IRiv} (h1 : spB r.depth 0 60 4 = true) (h2 : spB r.fall 0 5 2 = true) (h3 : inB r.days 1 10 = true) (h4 : r.fr.length ≤ 3) (h5 : r.lk.length ≤ 5) (h6 : ∀ f ∈ r.fr, frB r.days f = true) (h7 : ∀ l ∈ r.lk, lkB r.days l = true) : okR r = true := by
  unfold okR headB
  simp only [Bool.and_eq_true, decide_eq_true_eq, List.all_eq_true]
  exact ⟨⟨⟨⟨⟨⟨h1, h2⟩, h3⟩, h4⟩, h5⟩, h6⟩, h7⟩
theorem okR_pts {r : IRiv} (h : okR r = true) : (spB r.depth 0 60 4 = true ∧ spB r.fall 0 5 2 = true ∧ inB r.days 1 10 = true ∧ r.fr.length ≤ 3 ∧ r.lk.length ≤ 5) ∧ r.fr.all (frB r.days) = true ∧ r.lk.all (lkB r.days) = true := by
  unfold okR headB at h
  simp only [Bool.and_eq_true, decide_eq_true_eq] at h
  exact ⟨⟨h.1.1.1.1.1.1, h.1.1.1.1.1.2, h.1.1.1.1.2, h.1.1.1.2, h.1.1.2⟩, h.1.2, h.2⟩
theorem map_erase {α β : Type} (f : α → β) : ∀ (l : List α) (k : Nat), (l.eraseIdx k).map f = (l.map f).eraseIdx k
  | [], _ => rfl
  | _ :: _, 0 => rfl
  | a :: l, k + 1 => by simp [List.eraseIdx, map_erase f l k]
def xR (r : IRiv) : IRiv := { r with lk := [] }
def yR (r : IRiv) : IRiv := { r with fr := [], lk := [] }
def zR (r : IRiv) (k : Nat) : IRiv := { r with fr := r.fr.eraseIdx k, lk := [] }
def moreF (m : Int) (f : IFr) : IFr := { f with rise := ⟨min 20 (f.rise.lo + m), min 20 (f.rise.hi + m)⟩ }
def tR (r : IRiv) (k : Nat) (m : Int) (f : IFr) : IRiv := { r with fr := r.fr.set k (moreF m f), lk := [] }
def uR (r : IRiv) : IRiv := { r with fall := ⟨r.fall.lo - 1, r.fall.hi - 1⟩, lk := [] }
section
variable {r : IRiv} (hv : okR r = true)
include hv
theorem okR_sp : 0 ≤ r.depth.lo ∧ r.depth.lo ≤ r.depth.hi ∧ r.depth.hi ≤ 60 ∧ 0 ≤ r.fall.lo ∧ r.fall.lo ≤ r.fall.hi ∧ r.fall.hi ≤ 5 ∧ r.fall.hi - r.fall.lo ≤ 2 := by
  obtain ⟨⟨h1, h2, -⟩, -⟩ := okR_pts hv
  obtain ⟨a1, a2, a3, a4⟩ := spB_iff.1 h1
  obtain ⟨b1, b2, b3, b4⟩ := spB_iff.1 h2
  exact ⟨a1, a2, a3, b1, b2, b3, b4⟩
theorem x_ok : okR (xR r) = true := by
  obtain ⟨⟨h1, h2, h3, h4, h5⟩, h6, h7⟩ := okR_pts hv
  exact okR_mk h1 h2 h3 h4 (by show 0 ≤ 5; omega) (fun f hf => List.all_eq_true.1 h6 f hf) (fun l hl => by simp [xR] at hl)
theorem y_ok : okR (yR r) = true := by
  obtain ⟨⟨h1, h2, h3, h4, h5⟩, h6, h7⟩ := okR_pts hv
  exact okR_mk h1 h2 h3 (by show 0 ≤ 3; omega) (by show 0 ≤ 5; omega) (fun f hf => by simp [yR] at hf) (fun l hl => by simp [yR] at hl)
theorem z_ok (k : Nat) : okR (zR r k) = true := by
  obtain ⟨⟨h1, h2, h3, h4, h5⟩, h6, h7⟩ := okR_pts hv
  refine okR_mk h1 h2 h3 ?_ (by show 0 ≤ 5; omega) (fun f hf => List.all_eq_true.1 h6 f (List.mem_of_mem_eraseIdx hf)) (fun l hl => by simp [zR] at hl)
  have := List.length_eraseIdx_le r.fr k
  show (r.fr.eraseIdx k).length ≤ 3
  omega
theorem up_ok {k : Nat} {f : IFr} (hf : r.fr[k]? = some f) {m : Int} (h0 : 0 ≤ m) : frB r.days (moreF m f) = true ∧ 1 ≤ f.rise.lo ∧ f.rise.lo ≤ f.rise.hi ∧ f.rise.hi ≤ 20 ∧ 1 ≤ f.days.lo ∧ f.days.lo ≤ f.days.hi := by
  obtain ⟨-, h6, -⟩ := okR_pts hv
  have h := List.all_eq_true.1 h6 f (List.mem_of_getElem? hf)
  unfold frB at h ⊢
  rw [Bool.and_eq_true] at h ⊢
  obtain ⟨a1, a2, a3, a4⟩ := spB_iff.1 h.1
  obtain ⟨b1, b2, b3, b4⟩ := spB_iff.1 h.2
  exact ⟨⟨h.1, spB_iff.2 ⟨by show (1 : Int) ≤ min 20 _; omega, by show min 20 _ ≤ min (20 : Int) _; omega, by show min 20 _ ≤ (20 : Int); omega, by show min 20 _ - min 20 _ ≤ (3 : Int); omega⟩⟩, b1, b2, b3, a1, a2⟩
theorem t_ok {k : Nat} {f : IFr} (hf : r.fr[k]? = some f) {m : Int} (h0 : 0 ≤ m) : okR (tR r k m f) = true := by
  obtain ⟨⟨h1, h2, h3, h4, h5⟩, h6, h7⟩ := okR_pts hv
  refine okR_mk h1 h2 h3 ?_ (by show 0 ≤ 5; omega) (fun g hg => ?_) (fun l hl => by simp [tR] at hl)
  · show (r.fr.set k _).length ≤ 3
    rw [List.length_set]; exact h4
  · rcases List.mem_or_eq_of_mem_set hg with h | h
    · exact List.all_eq_true.1 h6 g h
    · rw [h]; exact (up_ok hv hf h0).1
theorem u_ok (h0 : 0 < r.fall.lo) : okR (uR r) = true := by
  obtain ⟨⟨h1, h2, h3, h4, h5⟩, h6, h7⟩ := okR_pts hv
  obtain ⟨b1, b2, b3, b4⟩ := spB_iff.1 h2
  exact okR_mk h1 (spB_iff.2 ⟨by show (0 : Int) ≤ r.fall.lo - 1; omega, by show r.fall.lo - 1 ≤ r.fall.hi - 1; omega, by show r.fall.hi - 1 ≤ (5 : Int); omega, by show r.fall.hi - 1 - (r.fall.lo - 1) ≤ (2 : Int); omega⟩) h3 h4 (by show 0 ≤ 5; omega) (fun f hf => List.all_eq_true.1 h6 f hf) (fun l hl => by simp [uR] at hl)
theorem frOk_nat : FrOk r.nat := fun f hf => by
  obtain ⟨g, hg, rfl⟩ := List.mem_map.1 hf
  obtain ⟨k, hk⟩ := List.getElem?_of_mem hg
  obtain ⟨-, b1, b2, b3, a1, a2⟩ := up_ok hv hk (m := 0) (by omega)
  refine ⟨?_, ?_, ?_⟩
  · show 1 ≤ g.days.lo.toNat; omega
  · show g.days.lo.toNat ≤ g.days.hi.toNat; omega
  · show g.rise.lo.toNat ≤ g.rise.hi.toNat; omega
theorem sp_nat : r.nat.fall.lo ≤ r.nat.fall.hi ∧ r.nat.depth.lo ≤ r.nat.depth.hi := by
  obtain ⟨a1, a2, a3, b1, b2, b3, b4⟩ := okR_sp hv
  refine ⟨?_, ?_⟩
  · show r.fall.lo.toNat ≤ r.fall.hi.toNat; omega
  · show r.depth.lo.toNat ≤ r.depth.hi.toNat; omega
theorem free_truths (hl : r.lk = []) : truthsA r.nat ≠ [] :=
  truths_free (by show r.lk.map _ = []; rw [hl]; rfl) (frOk_nat hv) (sp_nat hv).1 (sp_nat hv).2
theorem y_falls (d : Nat) : depthP (yR r).nat d = (leftF r.depth.lo.toNat r.fall.hi.toNat d, leftF r.depth.hi.toNat r.fall.lo.toNat d) :=
  falls_none (R := (yR r).nat) rfl rfl (sp_nat (y_ok hv)).1 (sp_nat (y_ok hv)).2 d
theorem z_falls {k : Nat} (hk : k < r.fr.length) (d : Nat) : (depthP (zR r k).nat d).1 ≤ (depthP (xR r).nat d).1 ∧ (depthP (zR r k).nat d).2 ≤ (depthP (xR r).nat d).2 := by
  have h := falls_less (R := (xR r).nat) rfl (frOk_nat (x_ok hv)) (sp_nat (x_ok hv)).1 (sp_nat (x_ok hv)).2 (k := k) (by show k < (r.fr.map _).length; simpa using hk) d
  have e : (zR r k).nat = { (xR r).nat with fr := (xR r).nat.fr.eraseIdx k } := by
    unfold zR xR IRiv.nat
    simp [map_erase]
  rw [e]; exact h
theorem t_falls {k : Nat} {f : IFr} (hf : r.fr[k]? = some f) {m : Int} (h0 : 0 ≤ m) (d : Nat) : (depthP (xR r).nat d).1 ≤ (depthP (tR r k m f).nat d).1 ∧ (depthP (xR r).nat d).2 ≤ (depthP (tR r k m f).nat d).2 := by
  obtain ⟨-, b1, b2, b3, a1, a2⟩ := up_ok hv hf h0
  have h := falls_more (R := (xR r).nat) rfl (frOk_nat (x_ok hv)) (sp_nat (x_ok hv)).1 (sp_nat (x_ok hv)).2 (k := k) (f := f.nat) (g := (moreF m f).nat) (by show (r.fr.map _)[k]? = _; rw [List.getElem?_map, hf]; rfl) rfl
    (by show f.rise.lo.toNat ≤ (min 20 (f.rise.lo + m)).toNat; omega) (by show f.rise.hi.toNat ≤ (min 20 (f.rise.hi + m)).toNat; omega) (by show (min 20 (f.rise.lo + m)).toNat ≤ (min 20 (f.rise.hi + m)).toNat; omega) d
  have e : (tR r k m f).nat = { (xR r).nat with fr := (xR r).nat.fr.set k (moreF m f).nat } := by
    unfold tR xR IRiv.nat
    simp [List.map_set]
  rw [e]; exact h
theorem u_falls (h0 : 0 < r.fall.lo) (d : Nat) : (depthP (xR r).nat d).1 ≤ (depthP (uR r).nat d).1 ∧ (depthP (xR r).nat d).2 ≤ (depthP (uR r).nat d).2 := by
  have h := falls_slow (R := (xR r).nat) rfl (frOk_nat (x_ok hv)) (sp_nat (x_ok hv)).1 (sp_nat (x_ok hv)).2 (by show 0 < r.fall.lo.toNat; omega) d
  have e : (uR r).nat = { (xR r).nat with fall := ⟨(xR r).nat.fall.lo - 1, (xR r).nat.fall.hi - 1⟩ } := by
    unfold uR xR IRiv.nat ISp.nat
    simp only [Riv.mk.injEq, NSp.mk.injEq, true_and, and_true]
    omega
  rw [e]; exact h
end
end Go.Proofs.Ytiodmkokpfgkkaa
