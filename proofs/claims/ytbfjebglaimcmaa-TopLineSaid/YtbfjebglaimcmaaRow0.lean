/- A press that comes in: what its value is, and that it reads as a press. The row's step, once for all laws. No condition. -/
import Derived.Test.YtbfjebglaimcmaaData
import Derived.ProofKit
import Derived.LaidMore
import Derived.OpenShut
import Derived.Stop.Joined
import Derived.Deep.Slices
import Derived.Carry
import Derived.Test.YtbfjebglaimcmaaRows
import Derived.Below
namespace Go.Proofs.Ytbfjebglaimcmaa
open Go.RowKit Go.Hav Go.ChangeShapes Go.WideShapes Go.Deep
set_option maxRecDepth 100000
theorem list_of {α : Type} (P : Nat → α → Prop) : ∀ n : Nat, (∀ i, i < n → ∃ x, P i x) → ∃ l : List α, l.length = n ∧ ∀ i x, l[i]? = some x → P i x := by
  intro n
  induction n with
  | zero => intro _; exact ⟨[], rfl, fun i x h => by simp at h⟩
  | succ n ih =>
    intro h
    obtain ⟨l, hl, hp⟩ := ih (fun i hi => h i (by omega))
    obtain ⟨x, hx⟩ := h n (by omega)
    refine ⟨l ++ [x], by simp [hl], fun i y hy => ?_⟩
    rcases Nat.lt_or_ge i n with hi | hi
    · rw [List.getElem?_append_left (by omega)] at hy
      exact hp i y hy
    · rw [List.getElem?_append_right (by omega)] at hy
      by_cases e : i = n
      · subst e
        rw [hl, Nat.sub_self] at hy
        obtain rfl : x = y := by simpa using hy
        exact hx
      · rw [hl, List.getElem?_eq_none (by simp; omega)] at hy
        cases hy
section
variable {H : Type} {enc : TypeId × Value → H} {W : World} {base : Nat} {spare : Nat → Bool} {held : Bool}
/-- What a slice that comes in holds: the cells of each element, and each reads. -/
theorem open_rows {t e : TypeId} {fuel sz : Nat} {c : Value} {x : DataW H × List MemPlace} (ht : Try.prog.underlying t = some (.slice e)) (hc : Try.prog.cellsOf e = sz) (h0 : 0 < sz) (h : DataW.trod enc Try.prog W base spare held fuel t [c] = some x) :
    ∃ (A : Option Addr) (len cap : Nat), c = .slice A len cap ∧ len ≤ maxLen ∧ ∀ i, i < len → ∃ (b off n : Nat) (cs : List Value) (y : DataW H × List MemPlace), A = some ⟨b, off, none⟩ ∧ cs.length = sz ∧ (∀ j v, cs[j]? = some v → W.cell? ⟨b, off + (i * sz + j), none⟩ = some v) ∧ DataW.trod enc Try.prog W base spare held n e cs = some y := by
  rcases open_slice ht h with ⟨e1, _⟩ | ⟨a, len, cap, m, n, D, Pl, e1, _, hl, hm, hmm, _, hi⟩
  · obtain rfl : c = .slice none 0 0 := by simpa using e1
    exact ⟨none, 0, 0, rfl, Nat.zero_le _, fun i hi => by omega⟩
  · obtain rfl : c = .slice (some a) len cap := by simpa using e1
    refine ⟨some a, len, cap, rfl, Nat.le_trans hl hm, fun i hlt => ?_⟩
    obtain ⟨cs, hcs, ht⟩ := hi i (by rw [hmm]; split <;> omega)
    rw [hc] at hcs
    obtain ⟨_, hlen, hat⟩ := World.cells?_some hcs
    -- the address has no spot
    obtain ⟨cs0, hcs0, _⟩ := hi 0 (by rw [hmm]; split <;> omega)
    rw [hc, Nat.zero_mul] at hcs0
    obtain ⟨_, hlen0, hat0⟩ := World.cells?_some hcs0
    have h00 := hat0 0 h0
    rw [List.getElem?_eq_getElem (by omega)] at h00
    have hs : a.spot = none := by
      have := World.cell?_spot h00
      simpa [Addr.add] using this
    obtain ⟨b, off, spot⟩ := a
    simp only at hs
    subst hs
    refine ⟨b, off, n, cs, _, rfl, hlen, fun j v hv => ?_, ht⟩
    have hj : j < sz := by rw [← hlen]; exact (List.getElem?_eq_some_iff.1 hv).1
    have h1 := hat j hj
    rw [hv] at h1
    rw [← h1]
    congr 1
    unfold Addr.add
    split <;> split <;> simp_all <;> omega
theorem one_int {n : Nat} {cs : List Value} {y : DataW H × List MemPlace} (h : DataW.trod enc Try.prog W base spare held n 3 cs = some y) : ∃ a, cs = [.int .i64 a] := by
  obtain ⟨a, e, _⟩ := DataW.trod_int Try.underlying3 h
  exact ⟨a, e⟩
theorem two_ints {n : Nat} {cs : List Value} {y : DataW H × List MemPlace} (h : DataW.trod enc Try.prog W base spare held n 29 cs = some y) : ∃ a b, cs = [.int .i64 a, .int .i64 b] := by
  have c3 : Try.prog.cellsOf 3 = 1 := by kernel_rfl
  have c29 : Try.prog.cellsOf 29 = 2 := by kernel_rfl
  obtain ⟨xs, m, _, _, hlen, hx, hf⟩ := DataW.trod_struct Try.underlying29 h
  rw [c29] at hlen
  match cs, hlen with
  | [u, v], _ =>
    match xs, hx with
    | [x0, x1], _ =>
      obtain ⟨a, ha⟩ := one_int (hf 0 _ rfl)
      obtain ⟨b, hb⟩ := one_int (hf 1 _ rfl)
      simp [c3] at ha hb
      exact ⟨a, b, by rw [ha, hb]⟩
theorem fl_cells {n : Nat} {cs : List Value} {y : DataW H × List MemPlace} (h : DataW.trod enc Try.prog W base spare held n 58 cs = some y) : ∃ c : Fl, cs = flF c := by
  have c3 : Try.prog.cellsOf 3 = 1 := by kernel_rfl
  have c29 : Try.prog.cellsOf 29 = 2 := by kernel_rfl
  have c58 : Try.prog.cellsOf 58 = 3 := by kernel_rfl
  obtain ⟨xs, m, _, _, hlen, hx, hf⟩ := DataW.trod_struct Try.underlying58 h
  rw [c58] at hlen
  match cs, hlen with
  | [u0, u1, u2], _ =>
    match xs, hx with
    | [x0, x1], _ =>
      obtain ⟨c, d, hcd⟩ := two_ints (hf 0 _ rfl)
      obtain ⟨a, ha⟩ := one_int (hf 1 _ rfl)
      simp [c3, c29] at ha hcd
      exact ⟨⟨⟨c, d⟩, a⟩, by simp [flF, ha, hcd]⟩
theorem ba_cells {n : Nat} {cs : List Value} {y : DataW H × List MemPlace} (h : DataW.trod enc Try.prog W base spare held n 56 cs = some y) : ∃ c : Ba, cs = baF c := by
  have c3 : Try.prog.cellsOf 3 = 1 := by kernel_rfl
  have c29 : Try.prog.cellsOf 29 = 2 := by kernel_rfl
  have c56 : Try.prog.cellsOf 56 = 3 := by kernel_rfl
  obtain ⟨xs, m, _, _, hlen, hx, hf⟩ := DataW.trod_struct Try.underlying56 h
  rw [c56] at hlen
  match cs, hlen with
  | [u0, u1, u2], _ =>
    match xs, hx with
    | [x0, x1], _ =>
      obtain ⟨a, ha⟩ := one_int (hf 0 _ rfl)
      obtain ⟨c, d, hcd⟩ := two_ints (hf 1 _ rfl)
      simp [c3, c29] at ha hcd
      exact ⟨⟨a, ⟨c, d⟩⟩, by simp [baF, ha, hcd]⟩
/-- A slice that comes in, as a list. -/
theorem rows_list {α : Type} {f : α → List Value} {A : Option Addr} {len sz : Nat} {e : TypeId} (he : ∀ (n : Nat) (cs : List Value) (y : DataW H × List MemPlace), DataW.trod enc Try.prog W base spare held n e cs = some y → ∃ x, cs = f x) (hf0 : ∀ x, 0 < (f x).length)
    (h : ∀ i, i < len → ∃ (b off n : Nat) (cs : List Value) (y : DataW H × List MemPlace), A = some ⟨b, off, none⟩ ∧ cs.length = sz ∧ (∀ j v, cs[j]? = some v → W.cell? ⟨b, off + (i * sz + j), none⟩ = some v) ∧ DataW.trod enc Try.prog W base spare held n e cs = some y) :
    ∃ l : List α, l.length = len ∧ RdG f sz W W.heap.size A l := by
  obtain ⟨l, hl, hp⟩ := list_of (fun i x => ∃ b off, A = some ⟨b, off, none⟩ ∧ b < W.heap.size ∧ ∀ j u, (f x)[j]? = some u → W.cell? ⟨b, off + (i * sz + j), none⟩ = some u) len (fun i hi => by
    obtain ⟨b, off, n, cs, y, e1, _, hc, ht⟩ := h i hi
    obtain ⟨x, rfl⟩ := he n cs y ht
    refine ⟨x, b, off, e1, ?_, hc⟩
    have h0 := hc 0 _ (List.getElem?_eq_getElem (hf0 x))
    rcases Nat.lt_or_ge b W.heap.size with hlt | hge
    · exact hlt
    · unfold World.cell? at h0
      simp [Array.getElem?_eq_none hge] at h0)
  exact ⟨l, hl, fun k x hx => hp k x hx⟩
theorem open_press {r : Reach} {b0 : Nat} {v : Value} {d : DataW H} {p : List MemPlace} (hv : Value.okWide Try.prog W r b0 25 v) (h : DataW.Trod enc Try.prog W base spare held 25 v d p) :
    ∃ (low top bales : Int) (fa wa : Option Addr) (fl fc wl wc : Nat) (q : PressD), v = pressV fa fl fc low top bales wa wl wc ∧ PressIn W W.heap.size fa fl low top bales wa wl q := by
  have c3 : Try.prog.cellsOf 3 = 1 := by kernel_rfl
  have c22 : Try.prog.cellsOf 22 = 1 := by kernel_rfl
  have c23 : Try.prog.cellsOf 23 = 1 := by kernel_rfl
  have c25 : Try.prog.cellsOf 25 = 5 := by kernel_rfl
  obtain ⟨cs, rfl, hsz⟩ := okWide_struct Try.underlying25 hv
  rw [c25] at hsz
  obtain ⟨l⟩ := cs
  match l, hsz with
  | [u0, u1, u2, u3, u4], _ =>
    obtain ⟨fuel, hf⟩ := h
    obtain ⟨xs, m, _, _, _, hx, hg⟩ := DataW.trod_struct Try.underlying25 hf
    match xs, hx with
    | [x0, x1, x2, x3, x4], _ =>
      have g0 := hg 0 _ rfl
      have g1 := hg 1 _ rfl
      have g2 := hg 2 _ rfl
      have g3 := hg 3 _ rfl
      have g4 := hg 4 _ rfl
      simp [Value.cells, c3, c22, c23] at g0 g1 g2 g3 g4
      obtain ⟨low, e1⟩ := one_int g1
      obtain ⟨top, e2⟩ := one_int g2
      obtain ⟨bales, e3⟩ := one_int g3
      obtain rfl : u1 = .int .i64 low := by simpa using e1
      obtain rfl : u2 = .int .i64 top := by simpa using e2
      obtain rfl : u3 = .int .i64 bales := by simpa using e3
      obtain ⟨fa, fl, fc, rfl, m0, h0⟩ := open_rows (sz := 3) Try.underlying22 (by kernel_rfl) (by decide) g0
      obtain ⟨wa, wl, wc, rfl, m4, h4⟩ := open_rows (sz := 3) Try.underlying23 (by kernel_rfl) (by decide) g4
      obtain ⟨fls, k0, r0⟩ := rows_list (f := flF) (fun n cs y h => fl_cells h) (fun x => by simp [flF]) h0
      obtain ⟨bas, k4, r4⟩ := rows_list (f := baF) (fun n cs y h => ba_cells h) (fun x => by simp [baF]) h4
      unfold maxLen at m0 m4
      exact ⟨low, top, bales, fa, wa, fl, fc, wl, wc, ⟨fls, low, top, bales, bas⟩, rfl, rfl, rfl, rfl, k0, k4, by omega, by omega, r0, r4⟩
end
theorem u16_wf {a : Int} (h : (Lit.int .u16 a).wf = true) : 0 ≤ a ∧ a ≤ 65535 := by
  simp [Lit.wf, IntKind.min, IntKind.max, IntKind.signed, IntKind.bits] at h
  omega
theorem u8_wf {a : Int} (h : (Lit.int .u8 a).wf = true) : 0 ≤ a ∧ a ≤ 255 := by
  simp [Lit.wf, IntKind.min, IntKind.max, IntKind.signed, IntKind.bits] at h
  omega
theorem rowOwn : ownKnob Try.prog.godebug = none := by kernel_rfl
theorem rowLaidOut : laidOutB Try.prog = true := by kernel_rfl
end Go.Proofs.Ytbfjebglaimcmaa
