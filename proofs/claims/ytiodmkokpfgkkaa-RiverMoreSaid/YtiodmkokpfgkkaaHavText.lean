/- The rule for a region that draws its order, at a region that goes in the text's order: nothing is asked of the region. -/
import Derived.Test.YtiodmkokpfgkkaaHavoc
namespace Go.Hav
open Go.RowKit
/-- The rule for a region that draws, at one that goes in the text's order: nothing is asked of the region. -/
theorem text_ops {P : Program} {ops : Array Oper} {Q : Exit → Act → World → Prop} {w0 : World} : ∀ (π : List (Nat × Bool)) (a : Act) (w : World) (F : World → Prop), (∀ w w', F w → Grow w w' → F w') → F w → Grow w0 w →
  wpHav P ops (fun _ _ => False) w0 (fun a F => ∀ w', Grow w0 w' → F w' → wpList P ops Q (([] : List Nat).filterMap (ops[·]?)) a w') π a F → wpOps P ops Q (π.map (·.1)) a w := by
 intro π
 induction π with
 | nil => intro a w F _ hF hG h; exact h w hG hF
 | cons x rest ih =>
  obtain ⟨i, g⟩ := x
  intro a w F hFs hF hG h
  obtain ⟨o, ho, h⟩ := h
  have fin : ∀ (Φ : Value → World → Prop), Obl P ops (fun _ _ => False) o a w Φ → (∀ v w', Grow w w' → Φ v w' → wpOps P ops Q (rest.map (·.1)) (a.put o.dst v) w') → wpOps P ops Q (((i, g) :: rest).map (·.1)) a w := fun Φ hO hN => by
   unfold Obl stepOf at hO
   simp only [List.map_cons, wpOps, ho]
   split
   ·rename_i hw
    rw [if_pos hw] at hO
    exact .inl (Oper.wp_mono (fun a' w' ⟨v, e, h1, h2⟩ => by rw [e]; exact hN v w' h1 h2) (wp_of_Qh (fun ch w' hc => hc.elim) hO))
   ·rename_i hw
    rw [if_neg hw] at hO
    obtain ⟨v, e, h1, h2⟩ := hO
    rw [e]
    exact hN v w h1 h2
  cases g
  ·simp only [Bool.false_eq_true, if_false] at h
   obtain ⟨V, hV, h⟩ := h
   exact fin _ (hV w hG hF) fun v w' h1 h2 => by rw [h2]; exact ih _ _ F hFs (hFs w w' hF h1) (hG.trans h1) h
  ·simp only [if_true] at h
   obtain ⟨Φ, hst, hV, h⟩ := h
   exact fin _ (hV w hG hF) fun v w' h1 h2 => ih _ _ (fun w => F w ∧ Φ v w) (fun a b h hg => ⟨hFs a b h.1 hg, hst v a b h.2 hg⟩) ⟨hFs w w' hF h1, h2⟩ (hG.trans h1) (h v)
theorem wp_region_text {P : Program} {ops : Array Oper} {Q : Exit → Act → World → Prop} (π : List (Nat × Bool)) {id : Nat} {a : Act} {w : World} (hl : List.range ops.size = π.map (·.1))
  (h : wpHav P ops (fun _ _ => False) w (fun a F => ∀ w', Grow w w' → F w' → wpList P ops Q (([] : List Nat).filterMap (ops[·]?)) a w') π a (fun _ => True)) : (Code.region id ops false).wp P Q a w := by
 refine wp_region ?_
 rw [hl]
 exact text_ops π a w _ (fun _ _ _ _ => trivial) trivial (Grow.refl _) h
end Go.Hav
