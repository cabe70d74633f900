/- Pieces for the laws that copy a press: a row that is copied by append, a bale of it that is changed, a byte that is turned into a number; conditions: lengths are small. -/
import Derived.Test.YtbfjebglaimcmaaLawD
namespace Go.Proofs.Ytbfjebglaimcmaa
open Go.RowKit Go.Hav
theorem Try.infoE56 : (Try.prog.info? 56).map (fun i => (i.zero, i.size, i.bytes)) = some (some (.agg #[.int .i64 0, .int .i64 0, .int .i64 0]), 3, 24) := by kernel_rfl
theorem own_blk {w : World} {B n c g : Nat} {e : TypeId} {sz : Nat} {xs : List Value} (h : w.ownsRow B e sz (.slice (some ⟨g, 0, none⟩) n c) n xs) : ∃ cur, Blk w g e cur ∧ B ≤ g ∧ n ≤ c ∧ c ≤ maxLen ∧ cur.size = c * sz ∧ cur.toList.take (n * sz) = xs := by
  rcases h.2 with ⟨h1, _⟩ | ⟨g', c', cur, h1, h2, h3, h4, h5, h6, h7⟩
  · cases h1
  · cases h1
    exact ⟨cur, h3, h2, h4, h5, h6, h7⟩
/-- The upper end of one bale is stored. -/
theorem RdG.set_hi {w : World} {B g : Nat} {t : TypeId} {cur : Array Value} {l : List Ba} {j : Nat} {b : Ba} (h : RdG baF 3 w B (some ⟨g, 0, none⟩) l) (hk : Blk w g t cur) (hs : l.length * 3 ≤ cur.size) (hb : l[j]? = some b) (v : Int) :
    RdG baF 3 (w.setCell ⟨g, j * 3 + 2, none⟩ (.int .i64 v)) B (some ⟨g, 0, none⟩) (l.set j ⟨b.set, ⟨b.w.lo, v⟩⟩) := by
  have hj : j < l.length := (List.getElem?_eq_some_iff.1 hb).1
  have hk2 := hk.set_ (j * 3 + 2) (.int .i64 v)
  have hold : ∀ m u, m ≠ j * 3 + 2 → w.cell? ⟨g, m, none⟩ = some u → (w.setCell ⟨g, j * 3 + 2, none⟩ (.int .i64 v)).cell? ⟨g, m, none⟩ = some u := fun m u hm hu => by
    rw [hk2.cell, Array.getElem?_setIfInBounds_ne (Ne.symm hm), ← hk.cell]
    exact hu
  intro k x hx
  by_cases e : k = j
  · subst e
    rw [List.getElem?_set_self hj] at hx
    injection hx with hx
    subst hx
    obtain ⟨b', off, he, hlt, hc⟩ := h k b hb
    injection he with he
    injection he with e1 e2
    subst e1 e2
    refine ⟨g, 0, rfl, hlt, fun i u hu => ?_⟩
    match i, hu with
    | 0, hu => exact hold _ _ (by omega) (hc 0 u hu)
    | 1, hu => exact hold _ _ (by omega) (hc 1 u hu)
    | 2, hu =>
      simp only [baF, List.getElem?_cons_succ, List.getElem?_cons_zero, Option.some.injEq] at hu
      subst hu
      rw [Nat.zero_add, hk2.cell, Array.getElem?_setIfInBounds_self_of_lt (by omega)]
    | i + 3, hu => simp [baF] at hu
  · rw [List.getElem?_set_ne (Ne.symm e)] at hx
    obtain ⟨b', off, he, hlt, hc⟩ := h k x hx
    refine ⟨b', off, he, hlt, fun i u hu => ?_⟩
    injection he with he
    injection he with e1 e2
    subst e1 e2
    have hi : i < 3 := (List.getElem?_eq_some_iff.1 hu).1
    exact hold _ _ (by omega) (hc i u hu)
/-- A row that lies in a block reads alike wherever the block is the same. -/
theorem RdG.blk {α : Type} {f : α → List Value} {sz : Nat} {w w' : World} {B B' g : Nat} {t : TypeId} {cur : Array Value} {l : List α} (h : RdG f sz w B (some ⟨g, 0, none⟩) l) (hk : Blk w g t cur) (hk' : Blk w' g t cur) (hB : g < B') : RdG f sz w' B' (some ⟨g, 0, none⟩) l := by
  intro k x hx
  obtain ⟨b', off, he, hlt, hc⟩ := h k x hx
  injection he with he
  injection he with e1 e2
  subst e1 e2
  refine ⟨g, 0, rfl, hB, fun i u hu => ?_⟩
  rw [hk'.cell, ← hk.cell]
  exact hc i u hu
/-- A row that was made by an append to a new one: its place, and that it reads. -/
theorem own_read {w : World} {B n : Nat} {v : Value} {t : TypeId} {l : List Ba} (hn : 0 < n) (h : w.ownsRow B t 3 v n (l.flatMap baF)) : ∃ g c cur, v = .slice (some ⟨g, 0, none⟩) n c ∧ B ≤ g ∧ Blk w g t cur ∧ n * 3 ≤ cur.size ∧ n ≤ c ∧ RdG baF 3 w w.heap.size (some ⟨g, 0, none⟩) l := by
  rcases h.2 with ⟨_, h0⟩ | ⟨g, cap, cur, rfl, hg, hh, hle, hm, hsz, ht⟩
  · omega
  · exact ⟨g, cap, cur, rfl, hg, hh, by rw [hsz]; exact Nat.mul_le_mul hle (Nat.le_refl _), hle, RdG.of_own baF_len (by decide) h (Nat.le_refl _) rfl⟩
end Go.Proofs.Ytbfjebglaimcmaa
