/- A slice of numbers of type uint16 that comes in. -/
import Derived.Test.YtlcolpnniipgbaaDoorRow0
import Derived.Test.YtlcolpnniipgbaaDoorLawU1
namespace Go.Proofs.YtlcolpnniipgbaaDoor
open Go.RowKit Go.Hav Go.ChangeShapes Go.WideShapes Go.Deep
set_option maxRecDepth 100000
section
variable {H : Type} {enc : TypeId × Value → H} {W : World} {base : Nat} {spare : Nat → Bool} {held : Bool}
theorem u16_wf {a : Int} (h : (Lit.int .u16 a).wf = true) : 0 ≤ a ∧ a ≤ 65535 := by
  simp [Lit.wf, IntKind.min, IntKind.max, IntKind.signed, IntKind.bits] at h
  omega
theorem open_u16s {r : Reach} {b0 : Nat} {v : Value} {d : DataW H} {p : List MemPlace} (hv : Value.okWide Tryd.prog W r b0 43 v) (h : DataW.Trod enc Tryd.prog W base spare held 43 v d p) :
    ∃ (A : Option Addr) (al ac : Nat), v = .slice A al ac ∧ U16In W W.heap.size A al ∧ al ≤ 9223372036854775807 := by
  obtain ⟨A, al, ac, rfl⟩ := okWide_slice Tryd.underlying43 hv
  obtain ⟨fuel, hf⟩ := h
  obtain ⟨A', al', ac', e, hm, hi⟩ := open_rows (sz := 1) (c := .slice A al ac) Tryd.underlying43 (by kernel_rfl) (by decide) (by simpa [Value.cells] using hf)
  obtain ⟨rfl, rfl, rfl⟩ : A = A' ∧ al = al' ∧ ac = ac' := by simpa using e
  refine ⟨A, al, ac, rfl, fun k hk => ?_, by unfold maxLen at hm; omega⟩
  obtain ⟨b, off, n, cs, y, e1, hl, hc, ht⟩ := hi k hk
  obtain ⟨a, e2, _, hw⟩ := DataW.trod_int Tryd.underlying97 ht
  subst e2
  have h0 := hc 0 (.int .u16 a) (by rfl)
  rw [Nat.mul_one, Nat.add_zero] at h0
  have hb := u16_wf hw
  refine ⟨b, off, a, e1, ?_, h0, hb.1, hb.2⟩
  rcases Nat.lt_or_ge b W.heap.size with hlt | hge
  · exact hlt
  · unfold World.cell? at h0
    simp [Array.getElem?_eq_none hge] at h0
end
end Go.Proofs.YtlcolpnniipgbaaDoor
