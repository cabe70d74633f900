/- The shed's own copy of the fleeces: make and copy of a slice of structs; condition: few of them. -/
import Derived.Test.YtbfjebglaimcmaaDesk4
import Derived.Laws.CopyOwn
namespace Go.Proofs.Ytbfjebglaimcmaa
open Go.RowKit Go.Hav
theorem Try.infoE58 : (Try.prog.info? 58).map (fun i => (i.zero, i.size, i.bytes)) = some (some (.agg #[.int .i64 0, .int .i64 0, .int .i64 0]), 3, 24) := by kernel_rfl
def zeroFl (n : Nat) : Array Value := madeCells #[.int .i64 0, .int .i64 0, .int .i64 0] (n * 3)
theorem make_fl (n : Nat) (hn : n ≤ 1000) (w : World) : (Instr.makeSlice 22 (.int .i64 (n : Int)) (.int .i64 (n : Int))).run Try.prog w = .ok (.slice (some ⟨w.heap.size, 0, none⟩) n n) (w.alloc (.cells (zeroFl n) 58)) := by
  obtain ⟨i, hi, hz0, hz1, hz2⟩ := info_parts Try.infoE58
  have hr := run_make (P := Try.prog) w 22 58 i _ Try.underlying22 hi hz0 .i64 .i64 n n (by omega) (by omega) (by rw [hz2]; omega) (by omega)
  simp only [Int.toNat_natCast, hz1] at hr
  rw [hr]
  rfl
theorem copy_rows {P : Program} (W : World) (dT ty elem : TypeId) (t : TypeId) {α : Type} {f : α → List Value} {sz : Nat} (hsz : ∀ x, (f x).length = sz) (h0 : 0 < sz) (h1 : ∀ x, ∀ v ∈ f x, v.oneCell' = true) (hu : P.underlying dT = some (.slice elem)) (hs : (P.info? elem).map (·.size) = some sz)
    {g n cap B : Nat} {A : Option Addr} {l : List α} {old : Array Value} (hl : l.length = n) (ho : old.size = n * sz) (hb : Blk W g t old) (hr : RdG f sz W B A l) :
    ∃ w1, (Builtin.copy_ #[dT, dT] ty #[.slice (some ⟨g, 0, none⟩) n n, .slice A n cap]).run P W = .ok (.int .i64 n) w1 ∧ Blk w1 g t (l.flatMap f).toArray ∧ Below g W w1 := by
  cases hq : P.info? elem with
  | none => simp [hq] at hs
  | some i =>
    have hi : i.size = sz := by simpa [hq] using hs
    have hlen : (l.flatMap f).length = n * sz := by rw [flat_len f sz hsz, hl]
    by_cases hn : n = 0
    · subst hn
      obtain rfl := List.length_eq_zero_iff.1 hl
      have ho' : old = #[] := Array.eq_empty_of_size_eq_zero (by rw [ho, Nat.zero_mul])
      refine ⟨W, ?_, by subst ho'; exact hb, Below.refl _ _⟩
      cases A with
      | none => simp [Builtin.copy_, run_underlying hu, Builtin.lenOf, Builtin.firstCells, sizeOf, typeInfo, hq, storeCells, goInt]
      | some a =>
        have hl0 := run_loadCells_list (P := P) W a [] (fun j v h => by simp at h)
        simp only [List.length_nil] at hl0
        simp [Builtin.copy_, run_underlying hu, Builtin.lenOf, Builtin.firstCells, sizeOf, typeInfo, hq, storeCells, goInt, hl0]
    · obtain ⟨b, off, rfl, _, _⟩ := hr 0 (l[0]'(by omega)) (by simp)
      have hld := run_loadCells_list (P := P) W ⟨b, off, none⟩ (l.flatMap f) (hr.news hsz h0)
      have hst := run_storeCells_at P g 0 t (l.flatMap f) 0 old W hb (by rw [hlen, ho]; omega) (fun v hv => by
        obtain ⟨x, _, hx⟩ := List.mem_flatMap.1 hv
        exact h1 x v hx)
      rw [hlen] at hld hst
      simp only [Nat.zero_add, List.take_zero, List.nil_append] at hst
      rw [List.drop_of_length_le (by simp [ho]), List.append_nil] at hst
      refine ⟨_, ?_, setRow_heap W g old (l.flatMap f).toArray t (0, 0) hb, below_setRow (Below.refl _ _) (Nat.le_refl _) _⟩
      have hmin : Nat.min n n = n := Nat.min_self n
      simp [Builtin.copy_, run_underlying hu, Builtin.lenOf, Builtin.firstCells, sizeOf, typeInfo, hq, hi, goInt, hmin, hld, hst]
theorem copy_fl {W : World} {g n cap B : Nat} {A : Option Addr} {l : List Fl} (ty : TypeId) (hl : l.length = n) (hb : Blk W g 58 (zeroFl n)) (hr : RdG flF 3 W B A l) :
    ∃ w1, (Builtin.copy_ #[22, 22] ty #[.slice (some ⟨g, 0, none⟩) n n, .slice A n cap]).run Try.prog W = .ok (.int .i64 n) w1 ∧ Blk w1 g 58 (l.flatMap flF).toArray ∧ Below g W w1 :=
  copy_rows W 22 ty 58 58 flF_len (by decide) (fun x v hv => by
    simp only [flF, List.mem_cons, List.not_mem_nil, or_false] at hv
    rcases hv with rfl | rfl | rfl <;> rfl) Try.underlying22 (by kernel_rfl) hl (by simp [zeroFl, size_madeCells]) hb hr
/-- A block that holds just the list. -/
theorem rd_blk {α : Type} {f : α → List Value} {sz : Nat} (hsz : ∀ x, (f x).length = sz) {w : World} {g : Nat} {t : TypeId} {l : List α} (h : Blk w g t (l.flatMap f).toArray) : RdG f sz w (g + 1) (some ⟨g, 0, none⟩) l := fun k x hx => by
  refine ⟨g, 0, rfl, by omega, fun i u hu => ?_⟩
  have hi : i < sz := by rw [← hsz x]; exact (List.getElem?_eq_some_iff.1 hu).1
  rw [Nat.zero_add, h.cell, List.getElem?_toArray, flat_get f sz hsz l k i hi, hx]
  exact hu
end Go.Proofs.Ytbfjebglaimcmaa
