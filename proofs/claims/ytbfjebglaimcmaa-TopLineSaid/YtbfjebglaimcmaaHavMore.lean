/- One more step for regions that draw their order: an operation that makes a block; where the block lies is bound. No condition. -/
import Derived.Test.YtbfjebglaimcmaaHavoc
namespace Go.Hav
open Go.RowKit
section
variable {P : Program} {ops : Array Oper}
/-- An operation that makes a block, whose value tells where. -/
def NewAt (V : Nat → Value) (ob : Obj) (B : Nat) (v : Value) (w : World) : Prop := ∃ g, v = V g ∧ B ≤ g ∧ w.heap[g]? = some ob
theorem hav_new {Qp : List PanicEntry → World → Prop} {w0 : World} {Cont : Act → (World → Prop) → Prop} {i : Nat} {rest : List (Nat × Bool)} {a : Act} {F : World → Prop} {o : Oper} (V : Nat → Value) (ob : Obj) (ho : ops[i]? = some o)
    (hw : Region.wanted o (yielded ops a.tmps) = true) (h1 : ∀ w, Grow w0 w → F w → (execOp a.eval o).run P w = .ok (.value (V w.heap.size)) (w.alloc ob))
    (h2 : ∀ v, wpHav P ops Qp w0 Cont rest (a.put o.dst v) (fun w => F w ∧ NewAt V ob w0.heap.size v w)) : wpHav P ops Qp w0 Cont ((i, true) :: rest) a F :=
  hav_ghost (NewAt V ob w0.heap.size) ho
    (fun v w w' ⟨g, h1, h2, h3⟩ hg => ⟨g, h1, h2, (hg.block g (Array.getElem?_eq_some_iff.1 h3).1).trans h3⟩)
    (fun w hg hF K hK => by
      unfold stepOf Oper.wp
      rw [if_pos hw, h1 w hg hF]
      exact hK _ _ ((Below.refl _ _).alloc (Nat.le_refl _) _) ⟨w.heap.size, rfl, hg.size, heap_alloc_new w _⟩) h2
end
end Go.Hav
