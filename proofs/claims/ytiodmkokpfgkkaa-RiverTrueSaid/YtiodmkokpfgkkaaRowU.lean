/- A slice of numbers of type uint16 that comes in. -/
import Derived.Test.YtiodmkokpfgkkaaRow0
import Derived.Test.YtiodmkokpfgkkaaLawDraws
namespace Go.Proofs.Ytiodmkokpfgkkaa
open Go.RowKit Go.Hav Go.ChangeShapes Go.WideShapes Go.Deep
set_option maxRecDepth 100000
section
variable {H : Type} {enc : TypeId × Value → H} {W : World} {base : Nat} {spare : Nat → Bool} {held : Bool}
theorem open_u16s {r : Reach} {b0 : Nat} {v : Value} {d : DataW H} {p : List MemPlace} (hv : Value.okWide Try.prog W r b0 45 v) (h : DataW.Trod enc Try.prog W base spare held 45 v d p) :
  ∃ (A : Option Addr) (al ac : Nat) (us : List Nat), v = .slice A al ac ∧ us.length = al ∧ (∀ x ∈ us, x ≤ 65535) ∧ al ≤ 9223372036854775807 ∧ RdG uV 1 W W.heap.size A us := by
 obtain ⟨A, al, ac, rfl⟩ := okWide_slice Try.underlying45 hv
 obtain ⟨fuel, hf⟩ := h
 obtain ⟨A', al', ac', e, hm, hi⟩ := open_rows (sz := 1) (c := .slice A al ac) Try.underlying45 (by kernel_rfl) (by decide) (by simpa [Value.cells] using hf)
 obtain ⟨rfl, rfl, rfl⟩ : A = A' ∧ al = al' ∧ ac = ac' := by simpa using e
 obtain ⟨l, hl, hp⟩ := list_of (fun i (x : Nat) => x ≤ 65535 ∧ ∃ b off, A = some ⟨b, off, none⟩ ∧ b < W.heap.size ∧ ∀ j u, (uV x)[j]? = some u → W.cell? ⟨b, off + (i * 1 + j), none⟩ = some u) al (fun i hlt => by
  obtain ⟨b, off, n, cs, y, e1, _, hc, ht⟩ := hi i hlt
  obtain ⟨a, e2, _, hw⟩ := DataW.trod_int Try.underlying125 ht
  subst e2
  have hb := u16_wf hw
  have h0 := hc 0 (.int .u16 a) (by rfl)
  obtain ⟨m, rfl⟩ : ∃ m : Nat, a = m := ⟨a.toNat, by omega⟩
  refine ⟨m, by omega, b, off, e1, ?_, hc⟩
  rcases Nat.lt_or_ge b W.heap.size with hlt | hge
  ·exact hlt
  ·unfold World.cell? at h0
   simp [Array.getElem?_eq_none hge] at h0)
 refine ⟨A, al, ac, l, rfl, hl, fun x hx => ?_, by unfold maxLen at hm; omega, fun k x hx => (hp k x hx).2⟩
 obtain ⟨k, hk⟩ := List.getElem?_of_mem hx
 exact (hp k x hk).1
end
end Go.Proofs.Ytiodmkokpfgkkaa
