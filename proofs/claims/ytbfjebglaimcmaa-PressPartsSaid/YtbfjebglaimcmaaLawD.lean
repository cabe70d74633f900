/- A relation for a region that draws its order, makes a block of two cells and stores into it: what lay ahead is kept; a block of two cells that was made since holds what it held, or what is stored. -/
import Derived.Test.YtbfjebglaimcmaaLawC
namespace Go.Proofs.Ytbfjebglaimcmaa
open Go.RowKit Go.Hav
def GT (B : Nat) (t : TypeId) (s0 s1 : Value) : HavG.Rel where
  G w w' := Below B w w' ∧ ∀ g, B ≤ g → ∀ a b, Blk w g t #[a, b] → ∃ a' b', Blk w' g t #[a', b'] ∧ (a' = a ∨ a' = s0) ∧ (b' = b ∨ b' = s1)
  refl w := ⟨Below.refl _ _, fun g _ a b h => ⟨a, b, h, .inl rfl, .inl rfl⟩⟩
  trans := fun h k => ⟨h.1.trans k.1, fun g hg a b hb => by
    obtain ⟨a1, b1, h1, h2, h3⟩ := h.2 g hg a b hb
    obtain ⟨a2, b2, k1, k2, k3⟩ := k.2 g hg a1 b1 h1
    refine ⟨a2, b2, k1, ?_, ?_⟩
    · rcases k2 with rfl | rfl
      · exact h2
      · exact .inr rfl
    · rcases k3 with rfl | rfl
      · exact h3
      · exact .inr rfl⟩
  drew w := ⟨Below.drew (Below.refl _ _), fun g _ a b h => ⟨a, b, h, .inl rfl, .inl rfl⟩⟩
section
variable {B : Nat} {t : TypeId} {s0 s1 : Value}
theorem GT.below {w w' : World} (hB : B ≤ w.heap.size) (h : Below w.heap.size w w') : (GT B t s0 s1).G w w' := ⟨h.mono hB, fun _ _ a b hb => ⟨a, b, hb.below h hb.lt, .inl rfl, .inl rfl⟩⟩
theorem GT.size {w w' : World} (h : (GT B t s0 s1).G w w') (hB : B ≤ w.heap.size) : B ≤ w'.heap.size := Nat.le_trans hB h.1.size
theorem blk_two {w : World} {g : Nat} {a b a' b' : Value} (h : Blk w g t #[a, b]) (k : Blk w g t #[a', b']) : a = a' ∧ b = b' := by
  have h1 := h.symm.trans k
  injection h1 with h1
  injection h1 with h1
  simpa using h1
theorem GT.set {w : World} {g : Nat} {a b : Value} (hg : B ≤ g) (h : Blk w g t #[a, b]) :
    (GT B t s0 s1).G w ((w.setCell ⟨g, 0, none⟩ s0).setCell ⟨g, 1, none⟩ s1) ∧ Blk ((w.setCell ⟨g, 0, none⟩ s0).setCell ⟨g, 1, none⟩ s1) g t #[s0, s1] := by
  have hk : Blk ((w.setCell ⟨g, 0, none⟩ s0).setCell ⟨g, 1, none⟩ s1) g t #[s0, s1] := (h.set_ 0 s0).set_ 1 s1
  refine ⟨⟨setCell_below (setCell_below (Below.refl _ _) hg 0 s0) hg 1 s1, fun g' hg' a' b' hb => ?_⟩, hk⟩
  by_cases e : g' = g
  · subst e
    obtain ⟨rfl, rfl⟩ := blk_two h hb
    exact ⟨s0, s1, hk, .inr rfl, .inr rfl⟩
  · exact ⟨a', b', (hb.far (p := ⟨g, 0, none⟩) e s0).far (p := ⟨g, 1, none⟩) e s1, .inl rfl, .inl rfl⟩
/-- The place of such a block. -/
def PlaceT (B : Nat) (t : TypeId) (v : Value) (w : World) : Prop := ∃ g, v = .pointer (some ⟨g, 0, none⟩) ∧ B ≤ g ∧ ∃ a b, Blk w g t #[a, b]
def StoredT (B : Nat) (t : TypeId) (s0 s1 : Value) (v : Value) (w : World) : Prop := ∃ g, v = .pointer (some ⟨g, 0, none⟩) ∧ B ≤ g ∧ Blk w g t #[s0, s1]
theorem PlaceT.stable {v : Value} {w w' : World} (h : PlaceT B t v w) (hg : (GT B t s0 s1).G w w') : PlaceT B t v w' := by
  obtain ⟨g, e, hb, a, b, hk⟩ := h
  obtain ⟨a', b', h1, _⟩ := hg.2 g hb a b hk
  exact ⟨g, e, hb, a', b', h1⟩
theorem StoredT.stable {v : Value} {w w' : World} (h : StoredT B t s0 s1 v w) (hg : (GT B t s0 s1).G w w') : StoredT B t s0 s1 v w' := by
  obtain ⟨g, e, hb, hk⟩ := h
  obtain ⟨a', b', h1, h2, h3⟩ := hg.2 g hb _ _ hk
  obtain rfl : a' = s0 := by rcases h2 with h | h <;> exact h
  obtain rfl : b' = s1 := by rcases h3 with h | h <;> exact h
  exact ⟨g, e, hb, h1⟩
end
end Go.Proofs.Ytbfjebglaimcmaa
