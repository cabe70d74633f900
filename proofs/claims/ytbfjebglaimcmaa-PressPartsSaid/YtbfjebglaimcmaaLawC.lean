/- A relation for a region that draws its order and stores into two cells of one block: each is as it was, or what is stored. -/
import Derived.Test.YtbfjebglaimcmaaLawB
namespace Go.Proofs.Ytbfjebglaimcmaa
open Go.RowKit Go.Hav
/-- The block bx, of five cells: the second and the third may be stored. -/
def GS (bx : Nat) (t : TypeId) (x0 x3 x4 s1 s2 : Value) : HavG.Rel where
  G w w' := w.grownBy w' (some bx) ∧ ∀ a b, Blk w bx t #[x0, a, b, x3, x4] → ∃ a' b', Blk w' bx t #[x0, a', b', x3, x4] ∧ (a' = a ∨ a' = s1) ∧ (b' = b ∨ b' = s2)
  refl w := ⟨World.grownBy.refl w _, fun a b h => ⟨a, b, h, .inl rfl, .inl rfl⟩⟩
  trans := fun {A B C} h k => ⟨h.1.trans k.1, fun a b hb => by
    obtain ⟨a1, b1, h1, h2, h3⟩ := h.2 a b hb
    obtain ⟨a2, b2, k1, k2, k3⟩ := k.2 a1 b1 h1
    refine ⟨a2, b2, k1, ?_, ?_⟩
    · rcases k2 with rfl | rfl
      · exact h2
      · exact .inr rfl
    · rcases k3 with rfl | rfl
      · exact h3
      · exact .inr rfl⟩
  drew w := ⟨below_grown (Below.drew (Below.refl _ _)) _, fun a b h => ⟨a, b, h, .inl rfl, .inl rfl⟩⟩
section
variable {bx : Nat} {t : TypeId} {x0 x3 x4 s1 s2 : Value}
theorem GS.below {w w' : World} (h : Below w.heap.size w w') : (GS bx t x0 x3 x4 s1 s2).G w w' := ⟨below_grown h _, fun a b hb => ⟨a, b, hb.below h hb.lt, .inl rfl, .inl rfl⟩⟩
theorem GS.set1 {w : World} {a b : Value} (h : Blk w bx t #[x0, a, b, x3, x4]) : (GS bx t x0 x3 x4 s1 s2).G w (w.setCell ⟨bx, 1, none⟩ s1) ∧ Blk (w.setCell ⟨bx, 1, none⟩ s1) bx t #[x0, s1, b, x3, x4] := by
  have hk := h.set_ 1 s1
  refine ⟨⟨⟨rfl, rfl, rfl, by simp [World.setCell], fun k hk hn => Below.heap_setCell w ⟨bx, 1, none⟩ s1 k (fun e => hn (by rw [e]))⟩, fun a' b' hb => ?_⟩, hk⟩
  have e : (#[x0, a, b, x3, x4] : Array Value) = #[x0, a', b', x3, x4] := by
    have h1 := h.symm.trans hb
    injection h1 with h1
    injection h1 with h1
  simp only [Array.mk.injEq, List.cons.injEq, true_and, and_true] at e
  obtain ⟨rfl, rfl⟩ := e
  exact ⟨s1, b, hk, .inr rfl, .inl rfl⟩
theorem GS.set2 {w : World} {a b : Value} (h : Blk w bx t #[x0, a, b, x3, x4]) : (GS bx t x0 x3 x4 s1 s2).G w (w.setCell ⟨bx, 2, none⟩ s2) ∧ Blk (w.setCell ⟨bx, 2, none⟩ s2) bx t #[x0, a, s2, x3, x4] := by
  have hk := h.set_ 2 s2
  refine ⟨⟨⟨rfl, rfl, rfl, by simp [World.setCell], fun k hk hn => Below.heap_setCell w ⟨bx, 2, none⟩ s2 k (fun e => hn (by rw [e]))⟩, fun a' b' hb => ?_⟩, hk⟩
  have e : (#[x0, a, b, x3, x4] : Array Value) = #[x0, a', b', x3, x4] := by
    have h1 := h.symm.trans hb
    injection h1 with h1
    injection h1 with h1
  simp only [Array.mk.injEq, List.cons.injEq, true_and, and_true] at e
  obtain ⟨rfl, rfl⟩ := e
  exact ⟨a, s2, hk, .inl rfl, .inr rfl⟩
end
end Go.Proofs.Ytbfjebglaimcmaa
namespace Go.HavG
open Go.RowKit
/-- An operation that leaves no value (a store). -/
theorem hav_store {R : Rel} {P : Program} {ops : Array Oper} {Qp : List PanicEntry → World → Prop} {w0 : World} {Cont : Act → (World → Prop) → Prop} {i : Nat} {rest : List (Nat × Bool)} {a : Act} {F : World → Prop} {o : Oper} (Φ : World → Prop) (ho : ops[i]? = some o)
    (hw : Region.wanted o (yielded ops a.tmps) = true) (hd : o.dst = none) (hst : ∀ w w', Φ w → R.G w w' → Φ w')
    (h1 : ∀ w, R.G w0 w → F w → ∃ w', (execOp a.eval o).run P w = .ok .skip w' ∧ R.G w w' ∧ Φ w')
    (h2 : wpHav R P ops Qp w0 Cont rest a (fun w => F w ∧ Φ w)) : wpHav R P ops Qp w0 Cont ((i, true) :: rest) a F :=
  hav_ghost (fun _ => Φ) ho (fun _ => hst) (fun w hg hF K hK => by
    unfold stepOf Oper.wp
    obtain ⟨w', hr, hgg, hp⟩ := h1 w hg hF
    rw [if_pos hw, hr]
    have := hK undef w' hgg hp
    rw [hd] at this
    simp only [Oper.upon, hd]
    exact this) (fun v => by rw [hd]; exact h2)
end Go.HavG
