/- The rule for a region that draws its order, for any relation, in a round; a relation for the append of one element to a row that is owned. -/
import Derived.Test.YtbfjebglaimcmaaIter
namespace Go.HavG
open Go.RowKit
section
variable {R : Rel} {P : Program} {ops : Array Oper}
theorem wpAny_havoc {Q : Exit → Act → World → Prop} (π : List (Nat × Bool)) (τ : List Nat) (Qp : List PanicEntry → World → Prop) {a : Act} {w : World} (hok : havOk ops π τ = true)
    (hQ : ∀ ch a' w', Agree ops (π.map (·.1)) a a' → Qp ch w' → Q (.panic ch) a' w')
    (h : wpHav R P ops Qp w (fun a F => ∀ w', R.G w w' → F w' → wpList P ops Q (τ.filterMap (ops[·]?)) a w') π a (fun _ => True)) : wpAny P .any ops Q ops.size (Array.replicate ops.size false) a { w with drawn := w.drawn + 1 } := by
  simp only [havOk, Bool.and_eq_true, List.all_eq_true, List.mem_range, Bool.or_eq_true, List.any_eq_true, beq_iff_eq, decide_eq_true_eq, bne_iff_ne, List.contains_iff_mem] at hok
  obtain ⟨c1, c2, c3, c4, c5, ⟨c6, c7⟩, c8, c9⟩ := hok
  have hg0 : R.G w { w with drawn := w.drawn + 1 } := R.drew w
  have hlow : ∀ i o e, ops[i]? = some o → e ∈ o.after → Region.binds .any e = true → e.on < i := fun i o e ho he hb => by
    have h1 := c9 i (Array.getElem?_eq_some_iff.1 ho).1
    simp only [ho, Array.all_eq_true_iff_forall_mem, Bool.or_eq_true, Bool.not_eq_true', decide_eq_true_eq] at h1
    exact (h1 e he).resolve_left (by simp [hb])
  rw [← c8]
  refine hav_any (w0 := w) (a0 := a) (Qp := Qp) c1 hlow hQ τ c3 c7 π.length π _ a _ (fun _ => True) rfl (by simp [c8]) ?_ c2 c4 c6 (fun x hx => List.mem_map.2 ⟨x, hx, rfl⟩) (fun i hi => ?_) (fun _ _ _ _ => trivial) trivial hg0 ⟨rfl, rfl, fun _ _ => rfl⟩ h
  · intro i o e _ hl
    simp [Array.getD_eq_getD_getElem?, Array.getElem?_replicate] at hl
    split at hl <;> simp at hl
  · have hr : ¬ (Array.replicate (π.length + τ.length) false).getD i false = true := by
      simp [Array.getD_eq_getD_getElem?, Array.getElem?_replicate]
      split <;> rfl
    refine ⟨fun _ => ?_, fun _ => by simpa [c8] using hr⟩
    rcases c5 i hi with ⟨x, hx, he⟩ | hx
    · exact .inl (List.mem_map.2 ⟨x, hx, he⟩)
    · exact .inr hx


/-- The rule, in a round. -/
theorem wpIn_region_havoc {l n : Nat} {Q : Exit → Act → World → Prop} (π : List (Nat × Bool)) (τ : List Nat) (Qp : List PanicEntry → World → Prop) {id : Nat} {a : Act} {w : World} (hm : P.follows .mixedOrders = true) (hok : havOk ops π τ = true)
    (hnd : Hav.noDefer ops = true) (hlo : ¬ LetsOut Q) (hQ : ∀ ch a' w', Agree ops (π.map (·.1)) a a' → Qp ch w' → Q (.panic ch) a' w')
    (h : wpHav R P ops Qp w (fun a F => ∀ w', R.G w w' → F w' → wpList P ops Q (τ.filterMap (ops[·]?)) a w') π a (fun _ => True)) : (Code.region id ops true).wpIn (Fence.wide.inRound l) n P Q a w :=
  wpIn_region_any hm (Hav.wpAny_in (Hav.noDefer_spec hnd) hlo _ _ _ _ (wpAny_havoc π τ Qp hok hQ h))
end
end Go.HavG
namespace Go.Proofs.Ytbfjebglaimcmaa
open Go.RowKit Go.Hav
/-- All is kept but the row's block, which keeps what it held, also with one element more. -/
def GA (B e : Nat) (v : Value) (n : Nat) (xs : List Value) (u : Value) : HavG.Rel where
  G w w' := w.grownBy w' v.ownBlock ∧ (w.ownsRow B e 1 v n xs → w'.ownsRow B e 1 v n xs) ∧ ∀ v2, w.ownsRow B e 1 v2 (n + 1) (xs ++ [u]) → w'.ownsRow B e 1 v2 (n + 1) (xs ++ [u])
  refl w := ⟨World.grownBy.refl w _, id, fun _ => id⟩
  trans h k := ⟨h.1.trans k.1, fun hm => k.2.1 (h.2.1 hm), fun v2 hm => k.2.2 v2 (h.2.2 v2 hm)⟩
  drew _ := ⟨below_grown (Below.drew (Below.refl _ _)) _, fun hm => own_below hm (Below.drew (Below.refl _ _)), fun _ hm => own_below hm (Below.drew (Below.refl _ _))⟩
theorem GA.below {B e : Nat} {v : Value} {n : Nat} {xs : List Value} {u : Value} {w w' : World} (h : Below w.heap.size w w') : (GA B e v n xs u).G w w' := ⟨below_grown h _, fun hm => own_below hm h, fun _ hm => own_below hm h⟩
theorem GA.low {B e : Nat} {v : Value} {n : Nat} {xs : List Value} {u : Value} {w w' : World} (h : (GA B e v n xs u).G w w') (hw : w.ownsRow B e 1 v n xs) (hB : B ≤ w.heap.size) {b : Nat} (hb : b < B) : w'.heap[b]? = w.heap[b]? :=
  h.1.block b (by omega) (fun hx => by have := (hw.lt b hx.symm).1; omega)
end Go.Proofs.Ytbfjebglaimcmaa
