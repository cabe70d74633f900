/- A river that comes in: its slices have room for what they hold. -/
import Derived.Test.YtiodmkokpfgkkaaRow0
namespace Go.Proofs.Ytiodmkokpfgkkaa
open Go.RowKit Go.Hav Go.ChangeShapes Go.WideShapes Go.Deep
set_option maxRecDepth 100000
section
variable {H : Type} {enc : TypeId × Value → H} {W : World} {base : Nat} {spare : Nat → Bool} {held : Bool}
theorem cap_of {t e : TypeId} {fuel : Nat} {A : Option Addr} {len cap : Nat} {x : DataW H × List MemPlace} (ht : Try.prog.underlying t = some (.slice e)) (h : DataW.trod enc Try.prog W base spare held fuel t [.slice A len cap] = some x) : len ≤ cap := by
 rcases open_slice ht h with ⟨e1, _⟩ | ⟨a, len', cap', m, n, D, Pl, e1, _, hl, hm, hmm, _, hi⟩
 ·obtain ⟨rfl, rfl, rfl⟩ : A = none ∧ len = 0 ∧ cap = 0 := by simpa using e1
  exact Nat.le_refl _
 ·obtain ⟨rfl, rfl, rfl⟩ : A = some a ∧ len = len' ∧ cap = cap' := by simpa using e1
  exact hl
theorem open_cap {d0 d1 f0 f1 dy : Int} {fa la : Option Addr} {fl fc ll lc : Nat} {d : DataW H} {p : List MemPlace} (h : DataW.Trod enc Try.prog W base spare held 27 (.agg #[.int .i64 d0, .int .i64 d1, .int .i64 f0, .int .i64 f1, .int .i64 dy, .slice fa fl fc, .slice la ll lc]) d p) : fl ≤ fc ∧ ll ≤ lc := by
 have c24 : Try.prog.cellsOf 24 = 1 := by kernel_rfl
 have c25 : Try.prog.cellsOf 25 = 1 := by kernel_rfl
 obtain ⟨fuel, hf⟩ := h
 obtain ⟨xs, m, _, _, _, hx, hg⟩ := DataW.trod_struct Try.underlying27 hf
 match xs, hx with
 | [x0, x1, x2, x3, x4], _ =>
  have g3 := hg 3 _ rfl
  have g4 := hg 4 _ rfl
  simp [Value.cells, c24, c25] at g3 g4
  exact ⟨cap_of Try.underlying24 g3, cap_of Try.underlying25 g4⟩
end
end Go.Proofs.Ytiodmkokpfgkkaa
