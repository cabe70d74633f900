/- A relation for a region that draws its order and stores into two cells of one block: each is as it was, or what is stored. A relation for a region that draws its order, makes a block of two cells and stores into it: what lay ahead is kept; a block of two cells that was made since holds what it held, or what is stored. Pieces for the laws that copy a press: a row that is copied by append, a bale of it that is changed, a byte that is turned into a number; conditions: lengths are small. -/
import Derived.Test.YtbfjebglaimcmaaLawB
namespace Go.Proofs.Ytbfjebglaimcmaa
open Go.RowKit Go.Hav
/-- The block bx, of five cells: the second and the third may be stored. -/
def GS (bx : Nat) (t : TypeId) (x0 x3 x4 s1 s2 : Value) : HavG.Rel where
  G w w' := w.grownBy w' (some bx) ∧ ∀ a b, Blk w bx t #[x0, a, b, x3, x4] → ∃ a' b', Blk w' bx t #[x0, a', b', x3, x4] ∧ (a' = a ∨ a' = s1) ∧ (b' = b ∨ b' = s2)
  refl w := ⟨World.grownBy.refl w _, fun a b h => ⟨a, b, h, .inl rfl, .inl rfl⟩⟩
  trans := fun {A B C} h k => ⟨h.1.trans k.1, fun a b hb => by
    obtain ⟨a1, b1, h1, h2, h3⟩ := h.2 a b hb
    obtain ⟨a2, b2, k1, k2, k3⟩ := k.2 a1 b1 h1
    refine ⟨a2, b2, k1, ?_, ?_⟩
    · rcases k2 with rfl | rfl
      · exact h2
      · exact .inr rfl
    · rcases k3 with rfl | rfl
      · exact h3
      · exact .inr rfl⟩
  drew w := ⟨below_grown (Below.drew (Below.refl _ _)) _, fun a b h => ⟨a, b, h, .inl rfl, .inl rfl⟩⟩
section
variable {bx : Nat} {t : TypeId} {x0 x3 x4 s1 s2 : Value}
theorem GS.below {w w' : World} (h : Below w.heap.size w w') : (GS bx t x0 x3 x4 s1 s2).G w w' := ⟨below_grown h _, fun a b hb => ⟨a, b, hb.below h hb.lt, .inl rfl, .inl rfl⟩⟩
theorem GS.set1 {w : World} {a b : Value} (h : Blk w bx t #[x0, a, b, x3, x4]) : (GS bx t x0 x3 x4 s1 s2).G w (w.setCell ⟨bx, 1, none⟩ s1) ∧ Blk (w.setCell ⟨bx, 1, none⟩ s1) bx t #[x0, s1, b, x3, x4] := by
  have hk := h.set_ 1 s1
  refine ⟨⟨⟨rfl, rfl, rfl, by simp [World.setCell], fun k hk hn => Below.heap_setCell w ⟨bx, 1, none⟩ s1 k (fun e => hn (by rw [e]))⟩, fun a' b' hb => ?_⟩, hk⟩
  have e : (#[x0, a, b, x3, x4] : Array Value) = #[x0, a', b', x3, x4] := by
    have h1 := h.symm.trans hb
    injection h1 with h1
    injection h1 with h1
  simp only [Array.mk.injEq, List.cons.injEq, true_and, and_true] at e
  obtain ⟨rfl, rfl⟩ := e
  exact ⟨s1, b, hk, .inr rfl, .inl rfl⟩
theorem GS.set2 {w : World} {a b : Value} (h : Blk w bx t #[x0, a, b, x3, x4]) : (GS bx t x0 x3 x4 s1 s2).G w (w.setCell ⟨bx, 2, none⟩ s2) ∧ Blk (w.setCell ⟨bx, 2, none⟩ s2) bx t #[x0, a, s2, x3, x4] := by
  have hk := h.set_ 2 s2
  refine ⟨⟨⟨rfl, rfl, rfl, by simp [World.setCell], fun k hk hn => Below.heap_setCell w ⟨bx, 2, none⟩ s2 k (fun e => hn (by rw [e]))⟩, fun a' b' hb => ?_⟩, hk⟩
  have e : (#[x0, a, b, x3, x4] : Array Value) = #[x0, a', b', x3, x4] := by
    have h1 := h.symm.trans hb
    injection h1 with h1
    injection h1 with h1
  simp only [Array.mk.injEq, List.cons.injEq, true_and, and_true] at e
  obtain ⟨rfl, rfl⟩ := e
  exact ⟨a, s2, hk, .inl rfl, .inr rfl⟩
end
end Go.Proofs.Ytbfjebglaimcmaa
namespace Go.HavG
open Go.RowKit
/-- An operation that leaves no value (a store). -/
theorem hav_store {R : Rel} {P : Program} {ops : Array Oper} {Qp : List PanicEntry → World → Prop} {w0 : World} {Cont : Act → (World → Prop) → Prop} {i : Nat} {rest : List (Nat × Bool)} {a : Act} {F : World → Prop} {o : Oper} (Φ : World → Prop) (ho : ops[i]? = some o)
    (hw : Region.wanted o (yielded ops a.tmps) = true) (hd : o.dst = none) (hst : ∀ w w', Φ w → R.G w w' → Φ w')
    (h1 : ∀ w, R.G w0 w → F w → ∃ w', (execOp a.eval o).run P w = .ok .skip w' ∧ R.G w w' ∧ Φ w')
    (h2 : wpHav R P ops Qp w0 Cont rest a (fun w => F w ∧ Φ w)) : wpHav R P ops Qp w0 Cont ((i, true) :: rest) a F :=
  hav_ghost (fun _ => Φ) ho (fun _ => hst) (fun w hg hF K hK => by
    unfold stepOf Oper.wp
    obtain ⟨w', hr, hgg, hp⟩ := h1 w hg hF
    rw [if_pos hw, hr]
    have := hK undef w' hgg hp
    rw [hd] at this
    simp only [Oper.upon, hd]
    exact this) (fun v => by rw [hd]; exact h2)
end Go.HavG
namespace Go.Proofs.Ytbfjebglaimcmaa
open Go.RowKit Go.Hav
def GT (B : Nat) (t : TypeId) (s0 s1 : Value) : HavG.Rel where
  G w w' := Below B w w' ∧ ∀ g, B ≤ g → ∀ a b, Blk w g t #[a, b] → ∃ a' b', Blk w' g t #[a', b'] ∧ (a' = a ∨ a' = s0) ∧ (b' = b ∨ b' = s1)
  refl w := ⟨Below.refl _ _, fun g _ a b h => ⟨a, b, h, .inl rfl, .inl rfl⟩⟩
  trans := fun h k => ⟨h.1.trans k.1, fun g hg a b hb => by
    obtain ⟨a1, b1, h1, h2, h3⟩ := h.2 g hg a b hb
    obtain ⟨a2, b2, k1, k2, k3⟩ := k.2 g hg a1 b1 h1
    refine ⟨a2, b2, k1, ?_, ?_⟩
    · rcases k2 with rfl | rfl
      · exact h2
      · exact .inr rfl
    · rcases k3 with rfl | rfl
      · exact h3
      · exact .inr rfl⟩
  drew w := ⟨Below.drew (Below.refl _ _), fun g _ a b h => ⟨a, b, h, .inl rfl, .inl rfl⟩⟩
section
variable {B : Nat} {t : TypeId} {s0 s1 : Value}
theorem GT.below {w w' : World} (hB : B ≤ w.heap.size) (h : Below w.heap.size w w') : (GT B t s0 s1).G w w' := ⟨h.mono hB, fun _ _ a b hb => ⟨a, b, hb.below h hb.lt, .inl rfl, .inl rfl⟩⟩
theorem GT.size {w w' : World} (h : (GT B t s0 s1).G w w') (hB : B ≤ w.heap.size) : B ≤ w'.heap.size := Nat.le_trans hB h.1.size
theorem blk_two {w : World} {g : Nat} {a b a' b' : Value} (h : Blk w g t #[a, b]) (k : Blk w g t #[a', b']) : a = a' ∧ b = b' := by
  have h1 := h.symm.trans k
  injection h1 with h1
  injection h1 with h1
  simpa using h1
theorem GT.set {w : World} {g : Nat} {a b : Value} (hg : B ≤ g) (h : Blk w g t #[a, b]) :
    (GT B t s0 s1).G w ((w.setCell ⟨g, 0, none⟩ s0).setCell ⟨g, 1, none⟩ s1) ∧ Blk ((w.setCell ⟨g, 0, none⟩ s0).setCell ⟨g, 1, none⟩ s1) g t #[s0, s1] := by
  have hk : Blk ((w.setCell ⟨g, 0, none⟩ s0).setCell ⟨g, 1, none⟩ s1) g t #[s0, s1] := (h.set_ 0 s0).set_ 1 s1
  refine ⟨⟨setCell_below (setCell_below (Below.refl _ _) hg 0 s0) hg 1 s1, fun g' hg' a' b' hb => ?_⟩, hk⟩
  by_cases e : g' = g
  · subst e
    obtain ⟨rfl, rfl⟩ := blk_two h hb
    exact ⟨s0, s1, hk, .inr rfl, .inr rfl⟩
  · exact ⟨a', b', (hb.far (p := ⟨g, 0, none⟩) e s0).far (p := ⟨g, 1, none⟩) e s1, .inl rfl, .inl rfl⟩
/-- The place of such a block. -/
def PlaceT (B : Nat) (t : TypeId) (v : Value) (w : World) : Prop := ∃ g, v = .pointer (some ⟨g, 0, none⟩) ∧ B ≤ g ∧ ∃ a b, Blk w g t #[a, b]
def StoredT (B : Nat) (t : TypeId) (s0 s1 : Value) (v : Value) (w : World) : Prop := ∃ g, v = .pointer (some ⟨g, 0, none⟩) ∧ B ≤ g ∧ Blk w g t #[s0, s1]
theorem PlaceT.stable {v : Value} {w w' : World} (h : PlaceT B t v w) (hg : (GT B t s0 s1).G w w') : PlaceT B t v w' := by
  obtain ⟨g, e, hb, a, b, hk⟩ := h
  obtain ⟨a', b', h1, _⟩ := hg.2 g hb a b hk
  exact ⟨g, e, hb, a', b', h1⟩
theorem StoredT.stable {v : Value} {w w' : World} (h : StoredT B t s0 s1 v w) (hg : (GT B t s0 s1).G w w') : StoredT B t s0 s1 v w' := by
  obtain ⟨g, e, hb, hk⟩ := h
  obtain ⟨a', b', h1, h2, h3⟩ := hg.2 g hb _ _ hk
  obtain rfl : a' = s0 := by rcases h2 with h | h <;> exact h
  obtain rfl : b' = s1 := by rcases h3 with h | h <;> exact h
  exact ⟨g, e, hb, h1⟩
end
end Go.Proofs.Ytbfjebglaimcmaa
namespace Go.Proofs.Ytbfjebglaimcmaa
open Go.RowKit Go.Hav
theorem Try.infoE56 : (Try.prog.info? 56).map (fun i => (i.zero, i.size, i.bytes)) = some (some (.agg #[.int .i64 0, .int .i64 0, .int .i64 0]), 3, 24) := by kernel_rfl
theorem own_blk {w : World} {B n c g : Nat} {e : TypeId} {sz : Nat} {xs : List Value} (h : w.ownsRow B e sz (.slice (some ⟨g, 0, none⟩) n c) n xs) : ∃ cur, Blk w g e cur ∧ B ≤ g ∧ n ≤ c ∧ c ≤ maxLen ∧ cur.size = c * sz ∧ cur.toList.take (n * sz) = xs := by
  rcases h.2 with ⟨h1, _⟩ | ⟨g', c', cur, h1, h2, h3, h4, h5, h6, h7⟩
  · cases h1
  · cases h1
    exact ⟨cur, h3, h2, h4, h5, h6, h7⟩
/-- The upper end of one bale is stored. -/
theorem RdG.set_hi {w : World} {B g : Nat} {t : TypeId} {cur : Array Value} {l : List Ba} {j : Nat} {b : Ba} (h : RdG baF 3 w B (some ⟨g, 0, none⟩) l) (hk : Blk w g t cur) (hs : l.length * 3 ≤ cur.size) (hb : l[j]? = some b) (v : Int) :
    RdG baF 3 (w.setCell ⟨g, j * 3 + 2, none⟩ (.int .i64 v)) B (some ⟨g, 0, none⟩) (l.set j ⟨b.set, ⟨b.w.lo, v⟩⟩) := by
  have hj : j < l.length := (List.getElem?_eq_some_iff.1 hb).1
  have hk2 := hk.set_ (j * 3 + 2) (.int .i64 v)
  have hold : ∀ m u, m ≠ j * 3 + 2 → w.cell? ⟨g, m, none⟩ = some u → (w.setCell ⟨g, j * 3 + 2, none⟩ (.int .i64 v)).cell? ⟨g, m, none⟩ = some u := fun m u hm hu => by
    rw [hk2.cell, Array.getElem?_setIfInBounds_ne (Ne.symm hm), ← hk.cell]
    exact hu
  intro k x hx
  by_cases e : k = j
  · subst e
    rw [List.getElem?_set_self hj] at hx
    injection hx with hx
    subst hx
    obtain ⟨b', off, he, hlt, hc⟩ := h k b hb
    injection he with he
    injection he with e1 e2
    subst e1 e2
    refine ⟨g, 0, rfl, hlt, fun i u hu => ?_⟩
    match i, hu with
    | 0, hu => exact hold _ _ (by omega) (hc 0 u hu)
    | 1, hu => exact hold _ _ (by omega) (hc 1 u hu)
    | 2, hu =>
      simp only [baF, List.getElem?_cons_succ, List.getElem?_cons_zero, Option.some.injEq] at hu
      subst hu
      rw [Nat.zero_add, hk2.cell, Array.getElem?_setIfInBounds_self_of_lt (by omega)]
    | i + 3, hu => simp [baF] at hu
  · rw [List.getElem?_set_ne (Ne.symm e)] at hx
    obtain ⟨b', off, he, hlt, hc⟩ := h k x hx
    refine ⟨b', off, he, hlt, fun i u hu => ?_⟩
    injection he with he
    injection he with e1 e2
    subst e1 e2
    have hi : i < 3 := (List.getElem?_eq_some_iff.1 hu).1
    exact hold _ _ (by omega) (hc i u hu)
/-- A row that lies in a block reads alike wherever the block is the same. -/
theorem RdG.blk {α : Type} {f : α → List Value} {sz : Nat} {w w' : World} {B B' g : Nat} {t : TypeId} {cur : Array Value} {l : List α} (h : RdG f sz w B (some ⟨g, 0, none⟩) l) (hk : Blk w g t cur) (hk' : Blk w' g t cur) (hB : g < B') : RdG f sz w' B' (some ⟨g, 0, none⟩) l := by
  intro k x hx
  obtain ⟨b', off, he, hlt, hc⟩ := h k x hx
  injection he with he
  injection he with e1 e2
  subst e1 e2
  refine ⟨g, 0, rfl, hB, fun i u hu => ?_⟩
  rw [hk'.cell, ← hk.cell]
  exact hc i u hu
/-- A row that was made by an append to a new one: its place, and that it reads. -/
theorem own_read {w : World} {B n : Nat} {v : Value} {t : TypeId} {l : List Ba} (hn : 0 < n) (h : w.ownsRow B t 3 v n (l.flatMap baF)) : ∃ g c cur, v = .slice (some ⟨g, 0, none⟩) n c ∧ B ≤ g ∧ Blk w g t cur ∧ n * 3 ≤ cur.size ∧ n ≤ c ∧ RdG baF 3 w w.heap.size (some ⟨g, 0, none⟩) l := by
  rcases h.2 with ⟨_, h0⟩ | ⟨g, cap, cur, rfl, hg, hh, hle, hm, hsz, ht⟩
  · omega
  · exact ⟨g, cap, cur, rfl, hg, hh, by rw [hsz]; exact Nat.mul_le_mul hle (Nat.le_refl _), hle, RdG.of_own baF_len (by decide) h (Nat.le_refl _) rfl⟩
/-- An append of a row that is read, wherever it lies, to a row of its own. -/
theorem append_row {α : Type} {f : α → List Value} {P : Program} (t ty e : TypeId) (i : TypeInfo) (z : Value) (size bytes : Nat) (ht : P.underlying t = some (.slice e)) (hi : P.info? e = some i) (hz : i.zero = some z)
    (hsize : i.size = size) (hby : i.bytes = bytes) (hzs : z.cells.size = size) (hsz : 0 < size) (hf : ∀ x, (f x).length = size) (hone : ∀ x, ∀ u ∈ f x, u.oneCell' = true) {w : World} {B R g n c0 k c : Nat} {A : Option Addr} {xs : List Value} {l : List α} (hl : l.length = k)
    (hr : RdG f size w R A l) (hn : n + k ≤ 1000) (hby2 : bytes ≤ 1000) (hB : B ≤ w.heap.size) (hown : w.ownsRow B e size (.slice (some ⟨g, 0, none⟩) n c0) n xs) :
    ∃ v' w', (Builtin.append_ #[t, t] ty #[.slice (some ⟨g, 0, none⟩) n c0, .slice A k c]).run P w = .ok v' w' ∧ (∃ g c, v' = .slice (some ⟨g, 0, none⟩) (n + k) c) ∧ w'.ownsRow B e size v' (n + k) (xs ++ l.flatMap f) ∧ Below B w w' := by
  have hm : (n + k) * bytes ≤ 1000 * 1000 := Nat.mul_le_mul hn hby2
  have fin : ∀ a : Addr, (∀ j u, (l.flatMap f)[j]? = some u → w.cell? (a.add j) = some u) → ∃ v' w', (Builtin.append_ #[t, t] ty #[.slice (some ⟨g, 0, none⟩) n c0, .slice (some a) k c]).run P w = .ok v' w' ∧ (∃ g c, v' = .slice (some ⟨g, 0, none⟩) (n + k) c) ∧ w'.ownsRow B e size v' (n + k) (xs ++ l.flatMap f) ∧ Below B w w' := fun a ha => by
    obtain ⟨v', w', h1, h2, h3, h4⟩ := run_append_own (P := P) w B t ty e i z size bytes ht hi hz hsize hby hzs hsz _ n xs hown a k c (l.flatMap f) (by rw [flat_len f size hf, hl]) ha (fun u hu => by
      obtain ⟨x, _, hx⟩ := List.mem_flatMap.1 hu
      exact hone x u hx) (by unfold maxLen; omega) (by omega) hB
    refine ⟨v', w', h1, ?_, h2, (Below.refl B w).grown h3 hB (fun k' hk' => (hown.lt k' hk').1)⟩
    rcases h2.2 with ⟨h, _⟩ | ⟨g', c', _, h, _⟩
    · have := (h4.1 h).1
      cases this
    · exact ⟨g', c', h⟩
  cases A with
  | some a =>
    cases l with
    | nil => exact fin a (fun j u h => by simp at h)
    | cons x l =>
      obtain ⟨b, off, he, _, _⟩ := hr 0 x rfl
      obtain rfl : a = ⟨b, off, none⟩ := by injection he
      exact fin ⟨b, off, none⟩ (hr.news hf hsz)
  | none =>
    cases l with
    | nil =>
      obtain rfl : k = 0 := by simpa using hl.symm
      refine ⟨.slice (some ⟨g, 0, none⟩) n c0, w, ?_, ⟨g, c0, rfl⟩, by simpa using hown, Below.refl _ _⟩
      obtain ⟨_, _, _, hnc, _⟩ := own_blk hown
      have hnc' : ¬ c0 < n := by omega
      simp [Builtin.append_, run_underlying ht, sizeOf, typeInfo, hi, Builtin.lenOf, Builtin.firstCells, storeCells, hnc']
    | cons x l =>
      obtain ⟨b, off, he, _, _⟩ := hr 0 x rfl
      cases he
theorem wpList_append_row {α : Type} {f : α → List Value} {P : Program} {ops : Array Oper} {rest : List Oper} {o : Oper} {a : Act} {w : World} {Q : Exit → Act → World → Prop} (hgd : o.guard = none) (s x : Operand) (t : TypeId)
    (ho : o.op = .call { callee := .builtin .append, args := #[s, x], argTypes := #[t, t] })
    (B : Nat) (e : TypeId) (i : TypeInfo) (z : Value) (size bytes : Nat) (ht : P.underlying t = some (.slice e)) (hi : P.info? e = some i) (hz : i.zero = some z)
    (hsize : i.size = size) (hby : i.bytes = bytes) (hzs : z.cells.size = size) (hsz : 0 < size) (hf : ∀ x, (f x).length = size) (hone : ∀ x, ∀ u ∈ f x, u.oneCell' = true)
    (g n c0 : Nat) (xs : List Value) (hs : a.eval s = .slice (some ⟨g, 0, none⟩) n c0) (hown : w.ownsRow B e size (.slice (some ⟨g, 0, none⟩) n c0) n xs)
    (A : Option Addr) (k c R : Nat) (l : List α) (hx : a.eval x = .slice A k c) (hl : l.length = k) (hr : RdG f size w R A l) (hn : n + k ≤ 1000) (hby2 : bytes ≤ 1000) (hB : B ≤ w.heap.size)
    (h : ∀ g' c' w', w'.ownsRow B e size (.slice (some ⟨g', 0, none⟩) (n + k) c') (n + k) (xs ++ l.flatMap f) → Below B w w' → wpList P ops Q rest (a.put o.dst (.slice (some ⟨g', 0, none⟩) (n + k) c')) w') :
    wpList P ops Q (o :: rest) a w := by
  refine wpList_plain hgd fun K hK => ?_
  obtain ⟨v', w', hr, ⟨g', c', rfl⟩, h2, h3⟩ := append_row (P := P) t o.type e i z size bytes ht hi hz hsize hby hzs hsz hf hone (c := c) hl hr hn hby2 hB hown
  unfold Oper.wp execOp
  simp only [ho, resolve, invoke, builtin, Sem.run_bind, Sem.run_pure, Result.andThen_ok, List.map_toArray, List.map_cons, List.map_nil, hs, hx, hr]
  exact hK _ _ (h g' c' w' h2 h3)
theorem baF_one (x : Ba) : ∀ u ∈ baF x, u.oneCell' = true := fun u hu => by simp [baF] at hu; rcases hu with rfl | rfl | rfl <;> rfl
theorem flF_one (x : Fl) : ∀ u ∈ flF x, u.oneCell' = true := fun u hu => by simp [flF] at hu; rcases hu with rfl | rfl | rfl <;> rfl
end Go.Proofs.Ytbfjebglaimcmaa
