/- Truths of a river in memory; the spans of a river; plain. Conditions: the river is valid. -/
import Derived.Test.YtiodmkokpfgkkaaRefE
namespace Go.Proofs.Ytiodmkokpfgkkaa
open Go.RowKit Go.Hav Go.Shelf Go.Sq
def spC (s : NSp) : List Value := [nV s.lo, nV s.hi]
theorem spC_len (s : NSp) : (spC s).length = 2 := rfl
/-- Spans that appends have made. -/
theorem SpR.of_own {w : World} {B m : Nat} {v : Value} {l : List NSp} (h : w.ownsRow B 23 2 v m (l.flatMap spC)) (hl : l.length = m) : ∃ A c, v = .slice A m c ∧ SpR w A l := by
  rcases h.2 with ⟨rfl, hn⟩ | ⟨g, cap, cur, rfl, hg, hh, hnc, _, _, ht⟩
  · refine ⟨none, 0, by rw [← hn], ?_⟩
    rw [List.eq_nil_of_length_eq_zero (by rw [hl, hn] : l.length = 0)]
    exact fun k s hs => by simp at hs
  · refine ⟨_, _, rfl, fun k s hs => ⟨g, 0, cur, rfl, hh, ?_, ?_⟩⟩
    · have hk : k < l.length := (List.getElem?_eq_some_iff.1 hs).1
      have : (l.flatMap spC)[k * 2 + 0]? = some (nV s.lo) := by rw [flat_get spC 2 spC_len l k 0 (by omega), hs]; rfl
      rw [← ht, List.getElem?_take, if_pos (by omega), Array.getElem?_toList] at this
      rw [Nat.zero_add]
      exact this
    · have hk : k < l.length := (List.getElem?_eq_some_iff.1 hs).1
      have : (l.flatMap spC)[k * 2 + 1]? = some (nV s.hi) := by rw [flat_get spC 2 spC_len l k 1 (by omega), hs]; rfl
      rw [← ht, List.getElem?_take, if_pos (by omega), Array.getElem?_toList] at this
      rw [Nat.zero_add]
      exact this
/-- A part of a row. -/
theorem RowN.part {w : World} {b off m : Nat} {x y : List Nat} (h : RowN nV 3 w (some ⟨b, off, none⟩) x) (hy : ∀ k v, y[k]? = some v → x[m + k]? = some v) : RowN nV 3 w (some ⟨b, off + m, none⟩) y := fun k v hv => by
  obtain ⟨b', off', cur, e, h1, h2⟩ := h _ _ (hy k v hv)
  injection e with e
  injection e with e1 e2
  subst e1 e2
  exact ⟨_, _, cur, rfl, h1, by rw [Nat.add_assoc]; exact h2⟩
/-- Cells of truths. -/
def TRows (w : World) (n : Nat) (xs : List Value) (Ts : List Tr) : Prop :=
  xs.length = Ts.length * 4 ∧ ∀ (j : Nat) (t : Tr), Ts[j]? = some t → ∃ dA dc rA rc, TrIn w t dA rA ∧ xs[j * 4]? = some (nV t.d) ∧ xs[j * 4 + 1]? = some (nV t.by_) ∧ xs[j * 4 + 2]? = some (.slice dA n dc) ∧ xs[j * 4 + 3]? = some (.slice rA n rc)
theorem TRows.nil {w : World} {n : Nat} : TRows w n [] [] := ⟨rfl, fun j t h => by simp at h⟩
theorem TRows.below {w w' : World} {n : Nat} {xs : List Value} {Ts : List Tr} (h : TRows w n xs Ts) (hb : Below w.heap.size w w') : TRows w' n xs Ts := ⟨h.1, fun j t ht => by
  obtain ⟨dA, dc, rA, rc, h1, h2⟩ := h.2 j t ht
  exact ⟨dA, dc, rA, rc, h1.below hb, h2⟩⟩
theorem TRows.kt {w w' : World} {n : Nat} {xs : List Value} {Ts : List Tr} {B : Nat} {ty : TypeId} (h : TRows w n xs Ts) (hk : KT B ty w w') (hne : 3 ≠ ty) : TRows w' n xs Ts := ⟨h.1, fun j t ht => by
  obtain ⟨dA, dc, rA, rc, h1, h2⟩ := h.2 j t ht
  exact ⟨dA, dc, rA, rc, h1.kt hk hne, h2⟩⟩
theorem TRows.snoc {w : World} {n : Nat} {xs : List Value} {Ts : List Tr} (h : TRows w n xs Ts) {t : Tr} {dA rA : Option Addr} {dc rc : Nat} (ht : TrIn w t dA rA) : TRows w n (xs ++ [nV t.d, nV t.by_, .slice dA n dc, .slice rA n rc]) (Ts ++ [t]) := by
  refine ⟨by simp [h.1]; omega, fun j u hu => ?_⟩
  rcases Nat.lt_or_ge j Ts.length with hj | hj
  · rw [List.getElem?_append_left hj] at hu
    obtain ⟨dA', dc', rA', rc', h1, h2, h3, h4, h5⟩ := h.2 j u hu
    have hl := h.1
    exact ⟨dA', dc', rA', rc', h1, by rw [List.getElem?_append_left (by omega)]; exact h2, by rw [List.getElem?_append_left (by omega)]; exact h3, by rw [List.getElem?_append_left (by omega)]; exact h4, by rw [List.getElem?_append_left (by omega)]; exact h5⟩
  · rw [List.getElem?_append_right hj] at hu
    have hj0 : j = Ts.length := by
      rcases Nat.eq_zero_or_pos (j - Ts.length) with h | h
      · omega
      · rw [List.getElem?_eq_none (by simp; omega)] at hu
        cases hu
    subst hj0
    rw [Nat.sub_self] at hu
    obtain rfl : t = u := by simpa using hu
    have hl := h.1
    refine ⟨dA, dc, rA, rc, ht, ?_, ?_, ?_, ?_⟩
    · rw [List.getElem?_append_right (by omega), hl, Nat.sub_self]; rfl
    · rw [List.getElem?_append_right (by omega), hl, Nat.add_sub_cancel_left]; rfl
    · rw [List.getElem?_append_right (by omega), hl, Nat.add_sub_cancel_left]; rfl
    · rw [List.getElem?_append_right (by omega), hl, Nat.add_sub_cancel_left]; rfl
/-- Truths that lie in memory. -/
def TrsIn (w : World) (n : Nat) (A : Option Addr) (Ts : List Tr) : Prop :=
  ∀ (j : Nat) (t : Tr), Ts[j]? = some t → ∃ b off dA dc rA rc, A = some ⟨b, off, none⟩ ∧ b < w.heap.size ∧ TrIn w t dA rA ∧ w.cell? ⟨b, off + j * 4, none⟩ = some (.int .i64 t.d) ∧ w.cell? ⟨b, off + j * 4 + 1, none⟩ = some (.int .i64 t.by_) ∧
    w.cell? ⟨b, off + j * 4 + 2, none⟩ = some (.slice dA n dc) ∧ w.cell? ⟨b, off + j * 4 + 3, none⟩ = some (.slice rA n rc)
theorem TrsIn.below {w w' : World} {n : Nat} {A : Option Addr} {Ts : List Tr} (h : TrsIn w n A Ts) (hb : Below w.heap.size w w') : TrsIn w' n A Ts := fun j t ht => by
  obtain ⟨b, off, dA, dc, rA, rc, h1, h2, h3, h4, h5, h6, h7⟩ := h j t ht
  have hc : ∀ o, w'.cell? ⟨b, o, none⟩ = w.cell? ⟨b, o, none⟩ := fun o => Below.cell hb (p := ⟨b, o, none⟩) h2
  exact ⟨b, off, dA, dc, rA, rc, h1, Nat.lt_of_lt_of_le h2 hb.size, h3.below hb, by rw [hc]; exact h4, by rw [hc]; exact h5, by rw [hc]; exact h6, by rw [hc]; exact h7⟩
theorem TrsIn.of_own {w : World} {B N n : Nat} {v : Value} {xs : List Value} {Ts : List Tr} (h : w.ownsRow B 86 4 v N xs) (hT : TRows w n xs Ts) : N = Ts.length ∧ ∃ A c, v = .slice A N c ∧ TrsIn w n A Ts := by
  have hN : N = Ts.length := by have h1 := h.1; have h2 := hT.1; omega
  refine ⟨hN, ?_⟩
  rcases h.2 with ⟨rfl, hn⟩ | ⟨g, cap, cur, rfl, hg, hh, hnc, _, _, ht⟩
  · refine ⟨none, 0, by rw [← hn], ?_⟩
    rw [List.eq_nil_of_length_eq_zero (by rw [← hN, hn] : Ts.length = 0)]
    exact fun k s hs => by simp at hs
  · refine ⟨_, _, rfl, fun j t hj => ?_⟩
    obtain ⟨dA, dc, rA, rc, h1, h2, h3, h4, h5⟩ := hT.2 j t hj
    have hb : Blk w g 86 cur := hh
    have key : ∀ (i : Nat) (u : Value), xs[i]? = some u → w.cell? ⟨g, 0 + i, none⟩ = some u := fun i u hu => by
      have hi : i < N * 4 := by
        rcases Nat.lt_or_ge i (N * 4) with hi | hi
        · exact hi
        · rw [← ht, List.getElem?_take, if_neg (by omega)] at hu; cases hu
      rw [← ht, List.getElem?_take, if_pos hi, Array.getElem?_toList] at hu
      rw [Nat.zero_add, hb.cell]
      exact hu
    exact ⟨g, 0, dA, dc, rA, rc, rfl, hb.lt, h1, key _ _ h2, key _ _ h3, key _ _ h4, key _ _ h5⟩
/-! Plain. -/
section
variable {r : IRiv} (hv : okR r = true)
include hv
theorem spans_small : SmallS (spansP r.nat) := by
  have g := good_of hv
  obtain ⟨⟨h1, h2, h3, h4, h5⟩, h6, h7⟩ := okR_parts hv
  obtain ⟨a1, a2, a3, a4⟩ := spB_iff.1 h1
  obtain ⟨b1, b2, b3, b4⟩ := spB_iff.1 h2
  have gd := inB_iff.1 h3
  intro s hs
  simp only [spansP, List.mem_cons, List.mem_append, List.mem_map] at hs
  rcases hs with rfl | rfl | ⟨f, hf, rfl⟩ | ⟨f, hf, rfl⟩
  · simp only [IRiv.nat, ISp.nat]; omega
  · simp only [IRiv.nat, ISp.nat]; omega
  · simp only [IRiv.nat, List.mem_map] at hf
    obtain ⟨c, hc, rfl⟩ := hf
    have := List.all_eq_true.1 h6 c hc
    unfold frB at this
    rw [Bool.and_eq_true] at this
    obtain ⟨d1, d2, d3, d4⟩ := spB_iff.1 this.1
    simp only [IFr.nat, ISp.nat]
    omega
  · simp only [IRiv.nat, List.mem_map] at hf
    obtain ⟨c, hc, rfl⟩ := hf
    have := List.all_eq_true.1 h6 c hc
    unfold frB at this
    rw [Bool.and_eq_true] at this
    obtain ⟨d1, d2, d3, d4⟩ := spB_iff.1 this.2
    simp only [IFr.nat, ISp.nat]
    omega
theorem fr_le3 : r.nat.fr.length ≤ 3 := by
  have := (okR_parts hv).1.2.2.2.1
  simp only [IRiv.nat, List.length_map]; exact this
omit hv in
theorem spans_len : (spansP r.nat).length = 2 + (r.nat.fr.length + r.nat.fr.length) := by simp [spansP]; omega
theorem list_bd {x : List Nat} (hx : x ∈ listsP (spansP r.nat)) : x.length = 2 + (r.nat.fr.length + r.nat.fr.length) ∧ ∀ y ∈ x, y ≤ 60 := by
  obtain ⟨h1, h2⟩ := (mem_listsP _ _).1 hx
  refine ⟨by rw [h1, spans_len], fun y hy => ?_⟩
  obtain ⟨i, hi⟩ := List.getElem?_of_mem hy
  have hil : i < (spansP r.nat).length := by rw [← h1]; exact (List.getElem?_eq_some_iff.1 hi).1
  have h3 := h2 i _ (List.getElem?_eq_getElem hil)
  have h4 := spans_small hv _ (List.getElem_mem hil)
  rw [List.getD_eq_getElem?_getD, hi] at h3
  simp only [Option.getD_some] at h3
  omega
theorem trOf_small {x : List Nat} (hx : x ∈ listsP (spansP r.nat)) : (trOf r.nat.fr.length x).Small r.nat.fr.length := by
  obtain ⟨h1, h2⟩ := list_bd hv hx
  have key : ∀ i, x.getD i 0 ≤ 60 := fun i => by
    rw [List.getD_eq_getElem?_getD]
    cases hi : x[i]? with
    | none => simp
    | some y => exact h2 y (List.mem_of_getElem? hi)
  exact ⟨key 0, key 1, fr_le3 hv, by simp [trOf]; omega, by simp [trOf]; omega, fun y hy => h2 y (List.mem_of_mem_drop (List.mem_of_mem_take hy)), fun y hy => h2 y (List.mem_of_mem_drop hy)⟩
theorem truth_small {s : Nat} {t : Tr} (ht : t ∈ truthsP r.nat s) : t.Small r.nat.fr.length := by
  unfold truthsP at ht
  obtain ⟨h1, _⟩ := List.mem_filter.1 ht
  obtain ⟨x, hx, rfl⟩ := List.mem_map.1 h1
  exact trOf_small hv hx
theorem lists_len : (listsP (spansP r.nat)).length ≤ 390625 := by
  have h := listsP_len (spans_small hv)
  have h2 := Nat.pow_le_pow_right (n := 5) (by omega) (show (spansP r.nat).length ≤ 8 by rw [spans_len]; have := fr_le3 hv; omega)
  omega
end
/-- The truths among the first j lists. -/
def filT (R : Riv) (s j : Nat) : List Tr := (((listsP (spansP R)).take j).map (trOf R.fr.length)).filter (rightP R s)
theorem filT_zero {R : Riv} {s : Nat} : filT R s 0 = [] := rfl
theorem filT_next {R : Riv} {s j : Nat} {x : List Nat} (h : (listsP (spansP R))[j]? = some x) : filT R s (j + 1) = filT R s j ++ if rightP R s (trOf R.fr.length x) = true then [trOf R.fr.length x] else [] := by
  unfold filT
  rw [List.take_add_one, h, List.map_append, List.filter_append]
  congr 1
  simp only [Option.toList_some, List.map_cons, List.map_nil, List.filter_cons, List.filter_nil]
theorem filT_all {R : Riv} {s j : Nat} (h : (listsP (spansP R)).length ≤ j) : filT R s j = truthsP R s := by
  unfold filT truthsP
  rw [List.take_of_length_le h]
theorem filT_len {R : Riv} {s j : Nat} : (filT R s j).length ≤ j := by
  unfold filT
  refine Nat.le_trans (List.length_filter_le _ _) ?_
  rw [List.length_map, List.length_take]
  omega
/-- The first spans of freshes: days, rises. -/
theorem days_next {R : Riv} {k : Nat} {f : NFr} (h : R.fr[k]? = some f) : (R.fr.take (k + 1)).map (·.days) = (R.fr.take k).map (·.days) ++ [f.days] := by rw [List.take_add_one, h, List.map_append]; rfl
theorem rises_next {R : Riv} {k : Nat} {f : NFr} (h : R.fr[k]? = some f) : (R.fr.take (k + 1)).map (·.rise) = (R.fr.take k).map (·.rise) ++ [f.rise] := by rw [List.take_add_one, h, List.map_append]; rfl
end Go.Proofs.Ytiodmkokpfgkkaa
