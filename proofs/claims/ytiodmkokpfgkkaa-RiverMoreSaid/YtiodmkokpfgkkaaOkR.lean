/- A valid river by its parts; the depth's span. Plain. -/
import Derived.Test.YtiodmkokpfgkkaaPlainA
namespace Go.Proofs.Ytiodmkokpfgkkaa
theorem depthP_hull {R : Riv} (h : truthsA R ≠ []) (day : Nat) : IsHull ((truthsA R).map (·.at_ day)) (depthP R day) := hullP_is (fun e => h (List.map_eq_nil_iff.1 e))
theorem okR_mk {r : IRiv} (h1 : spB r.depth 0 60 4 = true) (h2 : spB r.fall 0 5 2 = true) (h3 : inB r.days 1 10 = true) (h4 : r.fr.length ≤ 3) (h5 : r.lk.length ≤ 5) (h6 : ∀ f ∈ r.fr, frB r.days f = true) (h7 : ∀ l ∈ r.lk, lkB r.days l = true) : okR r = true := by
 unfold okR headB
 simp only [Bool.and_eq_true, decide_eq_true_eq, List.all_eq_true]
 exact ⟨⟨⟨⟨⟨⟨h1, h2⟩, h3⟩, h4⟩, h5⟩, h6⟩, h7⟩
theorem okR_pts {r : IRiv} (h : okR r = true) : (spB r.depth 0 60 4 = true ∧ spB r.fall 0 5 2 = true ∧ inB r.days 1 10 = true ∧ r.fr.length ≤ 3 ∧ r.lk.length ≤ 5) ∧ r.fr.all (frB r.days) = true ∧ r.lk.all (lkB r.days) = true := by
 unfold okR headB at h
 simp only [Bool.and_eq_true, decide_eq_true_eq] at h
 exact ⟨⟨h.1.1.1.1.1.1, h.1.1.1.1.1.2, h.1.1.1.1.2, h.1.1.1.2, h.1.1.2⟩, h.1.2, h.2⟩
def moreF (m : Int) (f : IFr) : IFr := { f with rise := ⟨min 20 (f.rise.lo + m), min 20 (f.rise.hi + m)⟩ }
section
variable {r : IRiv} (hv : okR r = true)
include hv
theorem okR_sp : 0 ≤ r.depth.lo ∧ r.depth.lo ≤ r.depth.hi ∧ r.depth.hi ≤ 60 ∧ 0 ≤ r.fall.lo ∧ r.fall.lo ≤ r.fall.hi ∧ r.fall.hi ≤ 5 ∧ r.fall.hi - r.fall.lo ≤ 2 := by
 obtain ⟨⟨h1, h2, -⟩, -⟩ := okR_pts hv
 obtain ⟨a1, a2, a3, a4⟩ := spB_iff.1 h1
 obtain ⟨b1, b2, b3, b4⟩ := spB_iff.1 h2
 exact ⟨a1, a2, a3, b1, b2, b3, b4⟩
theorem up_ok {k : Nat} {f : IFr} (hf : r.fr[k]? = some f) {m : Int} (h0 : 0 ≤ m) : frB r.days (moreF m f) = true ∧ 1 ≤ f.rise.lo ∧ f.rise.lo ≤ f.rise.hi ∧ f.rise.hi ≤ 20 ∧ 1 ≤ f.days.lo ∧ f.days.lo ≤ f.days.hi := by
 obtain ⟨-, h6, -⟩ := okR_pts hv
 have h := List.all_eq_true.1 h6 f (List.mem_of_getElem? hf)
 unfold frB at h ⊢
 rw [Bool.and_eq_true] at h ⊢
 obtain ⟨a1, a2, a3, a4⟩ := spB_iff.1 h.1
 obtain ⟨b1, b2, b3, b4⟩ := spB_iff.1 h.2
 exact ⟨⟨h.1, spB_iff.2 ⟨by show (1 : Int) ≤ min 20 _; omega, by show min 20 _ ≤ min (20 : Int) _; omega, by show min 20 _ ≤ (20 : Int); omega, by show min 20 _ - min 20 _ ≤ (3 : Int); omega⟩⟩, b1, b2, b3, a1, a2⟩
end
end Go.Proofs.Ytiodmkokpfgkkaa
