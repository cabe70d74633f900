/- A pay that comes in, with the bound of its payments' slice. A call that comes in; a slice of calls that is nil has no room. -/
import Derived.Test.YtlcolpnniipgbaaDoorRow0
namespace Go.Proofs.YtlcolpnniipgbaaDoor
open Go.RowKit Go.Hav Go.ChangeShapes Go.WideShapes Go.Deep
set_option maxRecDepth 100000
theorem u8_wf {a : Int} (h : (Lit.int .u8 a).wf = true) : 0 ≤ a ∧ a ≤ 255 := by
  simp [Lit.wf, IntKind.min, IntKind.max, IntKind.signed, IntKind.bits] at h
  omega
section
variable {H : Type} {enc : TypeId × Value → H} {W : World} {base : Nat} {spare : Nat → Bool} {held : Bool}
theorem cap_of {t e : TypeId} {fuel : Nat} {A : Option Addr} {len cap : Nat} {x : DataW H × List MemPlace} (ht : Tryd.prog.underlying t = some (.slice e)) (h : DataW.trod enc Tryd.prog W base spare held fuel t [.slice A len cap] = some x) : len ≤ cap := by
  rcases open_slice ht h with ⟨e1, _⟩ | ⟨a, len', cap', m, n, D, Pl, e1, _, hl, hm, hmm, _, hi⟩
  · obtain ⟨rfl, rfl, rfl⟩ : A = none ∧ len = 0 ∧ cap = 0 := by simpa using e1
    exact Nat.le_refl _
  · obtain ⟨rfl, rfl, rfl⟩ : A = some a ∧ len = len' ∧ cap = cap' := by simpa using e1
    exact hl
theorem open_cap {people rate bill : Int} {ra ca da pa : Option Addr} {rl rc cl cc dl dc pl pc : Nat} {d : DataW H} {p : List MemPlace} (h : DataW.Trod enc Tryd.prog W base spare held 27 (payV people ra rl rc ca cl cc rate bill da dl dc pa pl pc) d p) : rl ≤ rc ∧ cl ≤ cc ∧ dl ≤ dc ∧ pl ≤ pc := by
  have c22 : Tryd.prog.cellsOf 22 = 1 := by kernel_rfl
  have c23 : Tryd.prog.cellsOf 23 = 1 := by kernel_rfl
  have c24 : Tryd.prog.cellsOf 24 = 1 := by kernel_rfl
  have c25 : Tryd.prog.cellsOf 25 = 1 := by kernel_rfl
  obtain ⟨fuel, hf⟩ := h
  obtain ⟨xs, m, _, _, _, hx, hg⟩ := DataW.trod_struct Tryd.underlying27 hf
  match xs, hx with
  | [x0, x1, x2, x3, x4, x5, x6], _ =>
    have g1 := hg 1 _ rfl
    have g2 := hg 2 _ rfl
    have g5 := hg 5 _ rfl
    have g6 := hg 6 _ rfl
    simp [payV, Value.cells, c22, c23, c24, c25] at g1 g2 g5 g6
    exact ⟨cap_of Tryd.underlying22 g1, cap_of Tryd.underlying23 g2, cap_of Tryd.underlying24 g5, cap_of Tryd.underlying25 g6⟩
end
end Go.Proofs.YtlcolpnniipgbaaDoor
namespace Go.Proofs.YtlcolpnniipgbaaDoor
open Go.RowKit Go.Hav Go.ChangeShapes Go.WideShapes Go.Deep
set_option maxRecDepth 100000
section
variable {H : Type} {enc : TypeId × Value → H} {W : World} {base : Nat} {spare : Nat → Bool} {held : Bool}
theorem nil_cap {t e : TypeId} {fuel : Nat} {A : Option Addr} {len cap : Nat} {x : DataW H × List MemPlace} (ht : Tryd.prog.underlying t = some (.slice e)) (h : DataW.trod enc Tryd.prog W base spare held fuel t [.slice A len cap] = some x) : A = none → cap = 0 := by
  rcases open_slice ht h with ⟨e1, _⟩ | ⟨a, len', cap', m, n, D, Pl, e1, _, hl, hm, hmm, _, hi⟩
  · obtain ⟨rfl, rfl, rfl⟩ : A = none ∧ len = 0 ∧ cap = 0 := by simpa using e1
    exact fun _ => rfl
  · obtain ⟨rfl, rfl, rfl⟩ : A = some a ∧ len = len' ∧ cap = cap' := by simpa using e1
    intro h; cases h
theorem open_nil {people rate bill : Int} {ra ca da pa : Option Addr} {rl rc cl cc dl dc pl pc : Nat} {d : DataW H} {p : List MemPlace} (h : DataW.Trod enc Tryd.prog W base spare held 27 (payV people ra rl rc ca cl cc rate bill da dl dc pa pl pc) d p) : ca = none → cc = 0 := by
  have c23 : Tryd.prog.cellsOf 23 = 1 := by kernel_rfl
  obtain ⟨fuel, hf⟩ := h
  obtain ⟨xs, m, _, _, _, hx, hg⟩ := DataW.trod_struct Tryd.underlying27 hf
  match xs, hx with
  | [x0, x1, x2, x3, x4, x5, x6], _ =>
    have g2 := hg 2 _ rfl
    simp [payV, Value.cells, c23] at g2
    exact nil_cap Tryd.underlying23 g2
theorem open_call {r : Reach} {b0 : Nat} {v : Value} {d : DataW H} {p : List MemPlace} (hv : Value.okWide Tryd.prog W r b0 55 v) (h : DataW.Trod enc Tryd.prog W base spare held 55 v d p) :
    ∃ c : Ca, v = .agg #[.int .i64 c.who, .int .i64 c.run, .int .i64 c.sh.lo, .int .i64 c.sh.hi, .bool c.struck] := by
  obtain ⟨cs, rfl, hsz⟩ := okWide_struct Tryd.underlying55 hv
  obtain ⟨l⟩ := cs
  obtain ⟨fuel, hf⟩ := h
  obtain ⟨c, hc⟩ := call_cells hf
  simp [Value.cells] at hc
  exact ⟨c, by rw [hc]; rfl⟩
end
end Go.Proofs.YtlcolpnniipgbaaDoor
