/- Plain facts for the law PressFits. A relation for a region that draws its order and stores into two cells of one block: each is as it was, or what is stored. A relation for a region that draws its order, makes a block of two cells and stores into it: what lay ahead is kept; a block of two cells that was made since holds what it held, or what is stored. Pieces for the laws that copy a press: a row that is copied by append, a bale of it that is changed, a byte that is turned into a number; conditions: lengths are small. -/
import Derived.Test.YtbfjebglaimcmaaLawA
namespace Go.Proofs.Ytbfjebglaimcmaa
open Go.RowKit Go.Hav
theorem min_run (a b : Int) (w : World) : (Builtin.min_ #[3, 3] 3 #[.int .i64 a, .int .i64 b]).run Try.prog w = .ok (.int .i64 (min a b)) w := by
  rcases Int.lt_or_le b a with h | h
  · simp [Builtin.min_, Builtin.min2, h]; omega
  · simp [Builtin.min_, Builtin.min2]; omega
/-- The first of the first k fleeces that makes a set fit. -/
def firstF (p : PressD) (s : Nat) : Nat → Int
  | 0 => -1
  | k + 1 => if firstF p s k < 0 ∧ addB p s k = true then k else firstF p s k
theorem firstF_spec (p : PressD) (s : Nat) : ∀ k : Nat, (firstF p s k = -1 ∧ ∀ i, i < k → addB p s i = false) ∨ (∃ j : Nat, j < k ∧ firstF p s k = j ∧ addB p s j = true ∧ ∀ i, i < j → addB p s i = false) := by
  intro k
  induction k with
  | zero => exact .inl ⟨rfl, fun i hi => by omega⟩
  | succ k ih =>
    rw [firstF]
    rcases ih with ⟨h1, h2⟩ | ⟨j, h1, h2, h3, h4⟩
    · rw [h1]
      by_cases hb : addB p s k = true
      · rw [if_pos ⟨by omega, hb⟩]
        exact .inr ⟨k, by omega, rfl, hb, h2⟩
      · rw [if_neg (fun h => hb h.2)]
        refine .inl ⟨rfl, fun i hi => ?_⟩
        by_cases e : i = k
        · subst e; simpa using hb
        · exact h2 i (by omega)
    · rw [h2, if_neg (by omega)]
      exact .inr ⟨j, by omega, rfl, h3, h4⟩
theorem firstF_addI (p : PressD) (s : Nat) : firstF p s p.n = addI p s := by
  rcases firstF_spec p s p.n with ⟨h1, h2⟩ | ⟨j, h1, h2, h3, h4⟩
  · rw [h1, addI_none h2]
  · rw [h2, addI_some h1 h4 h3]
theorem firstF_bd (p : PressD) (s k : Nat) : -1 ≤ firstF p s k ∧ firstF p s k < k := by
  rcases firstF_spec p s k with ⟨h1, _⟩ | ⟨j, h1, h2, _⟩ <;> omega
theorem fits_sure (p : PressD) (s : Nat) : (p.fits s == 2) = p.sure s := by
  unfold PressD.fits
  cases h : p.sure s
  · cases h2 : p.may s <;> simp
  · simp
theorem fits_bd (p : PressD) (s : Nat) : 0 ≤ p.fits s ∧ p.fits s ≤ 2 := by
  unfold PressD.fits
  split
  · omega
  · split <;> omega
theorem may_sure {p : PressD} (hv : p.ok = true) (hw : p.wrong = 0) {s : Nat} (h : p.sure s = true) : p.may s = true := by
  have hle := PressD.weight_le hv hw s
  simp only [PressD.sure, PressD.may, Bool.and_eq_true, decide_eq_true_eq, spanB_iff] at h ⊢
  obtain ⟨h1, h2, h3, h4⟩ := h
  exact ⟨⟨h1, by omega⟩, by omega⟩
theorem fits_may {p : PressD} (hv : p.ok = true) (hw : p.wrong = 0) (s : Nat) : (p.fits s == 0) = !p.may s := by
  unfold PressD.fits
  cases h : p.sure s
  · cases h2 : p.may s <;> simp
  · simp [may_sure hv hw h]
theorem sure_eq {p : PressD} (hv : p.ok = true) (hw : p.wrong = 0) (s : Nat) : p.sure s = (p.alike s && decide (p.low ≤ (p.weight s).lo) && decide ((p.weight s).hi ≤ p.top)) := by
  have hle := PressD.weight_le hv hw s
  simp only [PressD.sure, spanB, decide_eq_true hle, Bool.and_true, Bool.and_assoc]
/-- The same fleeces and weighings, other bounds and bales. -/
def bound (p : PressD) (l t b : Int) : PressD := { p with low := l, top := t, bales := b }
section
variable (p : PressD) (l t b : Int)
theorem bound_used : ∀ k, (bound p l t b).used k = p.used k := by
  intro k
  induction k with
  | zero => rfl
  | succ k ih => rw [PressD.used, PressD.used, ih]; rfl
theorem bound_rest (s : Nat) : ∀ k, (bound p l t b).rest s k = p.rest s k := by
  intro k
  induction k with
  | zero => rfl
  | succ k ih => rw [PressD.rest, PressD.rest, ih]; rfl
theorem bound_wSum (s : Nat) : ∀ k, (bound p l t b).wSum s k = p.wSum s k := by
  intro k
  induction k with
  | zero => rfl
  | succ k ih => rw [PressD.wSum, PressD.wSum, ih]; rfl
theorem bound_wrongF : ∀ k, (bound p l t b).wrongF k = p.wrongF k := by
  intro k
  induction k with
  | zero => rfl
  | succ k ih => rw [PressD.wrongF, PressD.wrongF, ih]; rfl
theorem bound_weight (s : Nat) : (bound p l t b).weight s = p.weight s := by
  rw [PressD.weight, PressD.weight, bound_wSum, bound_rest]; rfl
theorem bound_wrong : (bound p l t b).wrong = p.wrong := bound_wrongF p l t b _
theorem bound_alike (s : Nat) : (bound p l t b).alike s = p.alike s := rfl
theorem bound_baB (k : Nat) : (bound p l t b).baB k = p.baB k := by
  rw [PressD.baB, PressD.baB, bound_used]; rfl
end
theorem bound_ok {p : PressD} (hv : p.ok = true) {l t b : Int} (h1 : 1 ≤ l) (h2 : l ≤ t) (h3 : t ≤ 200) (h4 : 0 ≤ b) (h5 : b ≤ 5) : (bound p l t b).ok = true := by
  have hb := (PressD.ok_head hv)
  simp only [PressD.ok, PressD.headB, Bool.and_eq_true, inB_iff, decide_eq_true_eq] at hv ⊢
  obtain ⟨⟨⟨⟨⟨⟨g1, g2⟩, g3⟩, g4⟩, g5⟩, hf⟩, hb⟩ := hv
  refine ⟨⟨⟨⟨⟨⟨g1, ?_⟩, ?_⟩, ?_⟩, g5⟩, hf⟩, ?_⟩
  · show 1 ≤ l ∧ l ≤ 200; omega
  · show l ≤ t ∧ t ≤ 200; omega
  · show 0 ≤ b ∧ b ≤ 5; omega
  · rw [List.all_eq_true] at hb ⊢
    intro k hk
    rw [bound_baB]
    exact hb k hk
theorem bound_fits {p : PressD} (hv : p.ok = true) (hw : p.wrong = 0) {l t b : Int} (h2 : l ≤ p.low) (h3 : p.top ≤ t) (s : Nat) : p.fits s ≤ (bound p l t b).fits s := by
  have e1 : (bound p l t b).weight s = p.weight s := bound_weight _ _ _ _ _
  have e2 : (bound p l t b).alike s = p.alike s := rfl
  have hle := PressD.weight_le hv hw s
  have s1 : p.sure s = true → (bound p l t b).sure s = true := fun h => by
    simp only [PressD.sure, e1, e2, Bool.and_eq_true, spanB_iff] at h ⊢
    exact ⟨h.1, by show l ≤ _; omega, h.2.2.1, by show _ ≤ t; omega⟩
  have s2 : p.may s = true → (bound p l t b).may s = true := fun h => by
    simp only [PressD.may, e1, e2, Bool.and_eq_true, decide_eq_true_eq] at h ⊢
    exact ⟨⟨h.1.1, by show l ≤ _; omega⟩, by show _ ≤ t; omega⟩
  have hb := fits_bd (bound p l t b) s
  unfold PressD.fits at hb ⊢
  cases h : p.sure s
  · cases h' : p.may s
    · simp; omega
    · rw [s2 h']; cases (bound p l t b).sure s <;> simp
  · rw [s1 h]; simp
theorem setE_ok {p : PressD} (hv : p.ok = true) {s : Nat} (hs : s ≤ full p.n) : setE p s = if p.wrong = 0 then 0 else 10 := by
  have : p.setB s = true := by rw [PressD.setB, inB_iff]; omega
  simp [setE, hv, this]
end Go.Proofs.Ytbfjebglaimcmaa
namespace Go.Proofs.Ytbfjebglaimcmaa
open Go.RowKit Go.Hav
/-- The block bx, of five cells: the second and the third may be stored. -/
def GS (bx : Nat) (t : TypeId) (x0 x3 x4 s1 s2 : Value) : HavG.Rel where
  G w w' := w.grownBy w' (some bx) ∧ ∀ a b, Blk w bx t #[x0, a, b, x3, x4] → ∃ a' b', Blk w' bx t #[x0, a', b', x3, x4] ∧ (a' = a ∨ a' = s1) ∧ (b' = b ∨ b' = s2)
  refl w := ⟨World.grownBy.refl w _, fun a b h => ⟨a, b, h, .inl rfl, .inl rfl⟩⟩
  trans := fun {A B C} h k => ⟨h.1.trans k.1, fun a b hb => by
    obtain ⟨a1, b1, h1, h2, h3⟩ := h.2 a b hb
    obtain ⟨a2, b2, k1, k2, k3⟩ := k.2 a1 b1 h1
    refine ⟨a2, b2, k1, ?_, ?_⟩
    · rcases k2 with rfl | rfl
      · exact h2
      · exact .inr rfl
    · rcases k3 with rfl | rfl
      · exact h3
      · exact .inr rfl⟩
  drew w := ⟨below_grown (Below.drew (Below.refl _ _)) _, fun a b h => ⟨a, b, h, .inl rfl, .inl rfl⟩⟩
section
variable {bx : Nat} {t : TypeId} {x0 x3 x4 s1 s2 : Value}
theorem GS.below {w w' : World} (h : Below w.heap.size w w') : (GS bx t x0 x3 x4 s1 s2).G w w' := ⟨below_grown h _, fun a b hb => ⟨a, b, hb.below h hb.lt, .inl rfl, .inl rfl⟩⟩
theorem GS.set1 {w : World} {a b : Value} (h : Blk w bx t #[x0, a, b, x3, x4]) : (GS bx t x0 x3 x4 s1 s2).G w (w.setCell ⟨bx, 1, none⟩ s1) ∧ Blk (w.setCell ⟨bx, 1, none⟩ s1) bx t #[x0, s1, b, x3, x4] := by
  have hk := h.set_ 1 s1
  refine ⟨⟨⟨rfl, rfl, rfl, by simp [World.setCell], fun k hk hn => Below.heap_setCell w ⟨bx, 1, none⟩ s1 k (fun e => hn (by rw [e]))⟩, fun a' b' hb => ?_⟩, hk⟩
  have e : (#[x0, a, b, x3, x4] : Array Value) = #[x0, a', b', x3, x4] := by
    have h1 := h.symm.trans hb
    injection h1 with h1
    injection h1 with h1
  simp only [Array.mk.injEq, List.cons.injEq, true_and, and_true] at e
  obtain ⟨rfl, rfl⟩ := e
  exact ⟨s1, b, hk, .inr rfl, .inl rfl⟩
theorem GS.set2 {w : World} {a b : Value} (h : Blk w bx t #[x0, a, b, x3, x4]) : (GS bx t x0 x3 x4 s1 s2).G w (w.setCell ⟨bx, 2, none⟩ s2) ∧ Blk (w.setCell ⟨bx, 2, none⟩ s2) bx t #[x0, a, s2, x3, x4] := by
  have hk := h.set_ 2 s2
  refine ⟨⟨⟨rfl, rfl, rfl, by simp [World.setCell], fun k hk hn => Below.heap_setCell w ⟨bx, 2, none⟩ s2 k (fun e => hn (by rw [e]))⟩, fun a' b' hb => ?_⟩, hk⟩
  have e : (#[x0, a, b, x3, x4] : Array Value) = #[x0, a', b', x3, x4] := by
    have h1 := h.symm.trans hb
    injection h1 with h1
    injection h1 with h1
  simp only [Array.mk.injEq, List.cons.injEq, true_and, and_true] at e
  obtain ⟨rfl, rfl⟩ := e
  exact ⟨a, s2, hk, .inl rfl, .inr rfl⟩
end
end Go.Proofs.Ytbfjebglaimcmaa
namespace Go.HavG
open Go.RowKit
/-- An operation that leaves no value (a store). -/
theorem hav_store {R : Rel} {P : Program} {ops : Array Oper} {Qp : List PanicEntry → World → Prop} {w0 : World} {Cont : Act → (World → Prop) → Prop} {i : Nat} {rest : List (Nat × Bool)} {a : Act} {F : World → Prop} {o : Oper} (Φ : World → Prop) (ho : ops[i]? = some o)
    (hw : Region.wanted o (yielded ops a.tmps) = true) (hd : o.dst = none) (hst : ∀ w w', Φ w → R.G w w' → Φ w')
    (h1 : ∀ w, R.G w0 w → F w → ∃ w', (execOp a.eval o).run P w = .ok .skip w' ∧ R.G w w' ∧ Φ w')
    (h2 : wpHav R P ops Qp w0 Cont rest a (fun w => F w ∧ Φ w)) : wpHav R P ops Qp w0 Cont ((i, true) :: rest) a F :=
  hav_ghost (fun _ => Φ) ho (fun _ => hst) (fun w hg hF K hK => by
    unfold stepOf Oper.wp
    obtain ⟨w', hr, hgg, hp⟩ := h1 w hg hF
    rw [if_pos hw, hr]
    have := hK undef w' hgg hp
    rw [hd] at this
    simp only [Oper.upon, hd]
    exact this) (fun v => by rw [hd]; exact h2)
end Go.HavG
namespace Go.Proofs.Ytbfjebglaimcmaa
open Go.RowKit Go.Hav
def GT (B : Nat) (t : TypeId) (s0 s1 : Value) : HavG.Rel where
  G w w' := Below B w w' ∧ ∀ g, B ≤ g → ∀ a b, Blk w g t #[a, b] → ∃ a' b', Blk w' g t #[a', b'] ∧ (a' = a ∨ a' = s0) ∧ (b' = b ∨ b' = s1)
  refl w := ⟨Below.refl _ _, fun g _ a b h => ⟨a, b, h, .inl rfl, .inl rfl⟩⟩
  trans := fun h k => ⟨h.1.trans k.1, fun g hg a b hb => by
    obtain ⟨a1, b1, h1, h2, h3⟩ := h.2 g hg a b hb
    obtain ⟨a2, b2, k1, k2, k3⟩ := k.2 g hg a1 b1 h1
    refine ⟨a2, b2, k1, ?_, ?_⟩
    · rcases k2 with rfl | rfl
      · exact h2
      · exact .inr rfl
    · rcases k3 with rfl | rfl
      · exact h3
      · exact .inr rfl⟩
  drew w := ⟨Below.drew (Below.refl _ _), fun g _ a b h => ⟨a, b, h, .inl rfl, .inl rfl⟩⟩
section
variable {B : Nat} {t : TypeId} {s0 s1 : Value}
theorem GT.below {w w' : World} (hB : B ≤ w.heap.size) (h : Below w.heap.size w w') : (GT B t s0 s1).G w w' := ⟨h.mono hB, fun _ _ a b hb => ⟨a, b, hb.below h hb.lt, .inl rfl, .inl rfl⟩⟩
theorem GT.size {w w' : World} (h : (GT B t s0 s1).G w w') (hB : B ≤ w.heap.size) : B ≤ w'.heap.size := Nat.le_trans hB h.1.size
theorem blk_two {w : World} {g : Nat} {a b a' b' : Value} (h : Blk w g t #[a, b]) (k : Blk w g t #[a', b']) : a = a' ∧ b = b' := by
  have h1 := h.symm.trans k
  injection h1 with h1
  injection h1 with h1
  simpa using h1
theorem GT.set {w : World} {g : Nat} {a b : Value} (hg : B ≤ g) (h : Blk w g t #[a, b]) :
    (GT B t s0 s1).G w ((w.setCell ⟨g, 0, none⟩ s0).setCell ⟨g, 1, none⟩ s1) ∧ Blk ((w.setCell ⟨g, 0, none⟩ s0).setCell ⟨g, 1, none⟩ s1) g t #[s0, s1] := by
  have hk : Blk ((w.setCell ⟨g, 0, none⟩ s0).setCell ⟨g, 1, none⟩ s1) g t #[s0, s1] := (h.set_ 0 s0).set_ 1 s1
  refine ⟨⟨setCell_below (setCell_below (Below.refl _ _) hg 0 s0) hg 1 s1, fun g' hg' a' b' hb => ?_⟩, hk⟩
  by_cases e : g' = g
  · subst e
    obtain ⟨rfl, rfl⟩ := blk_two h hb
    exact ⟨s0, s1, hk, .inr rfl, .inr rfl⟩
  · exact ⟨a', b', (hb.far (p := ⟨g, 0, none⟩) e s0).far (p := ⟨g, 1, none⟩) e s1, .inl rfl, .inl rfl⟩
/-- The place of such a block. -/
def PlaceT (B : Nat) (t : TypeId) (v : Value) (w : World) : Prop := ∃ g, v = .pointer (some ⟨g, 0, none⟩) ∧ B ≤ g ∧ ∃ a b, Blk w g t #[a, b]
def StoredT (B : Nat) (t : TypeId) (s0 s1 : Value) (v : Value) (w : World) : Prop := ∃ g, v = .pointer (some ⟨g, 0, none⟩) ∧ B ≤ g ∧ Blk w g t #[s0, s1]
theorem PlaceT.stable {v : Value} {w w' : World} (h : PlaceT B t v w) (hg : (GT B t s0 s1).G w w') : PlaceT B t v w' := by
  obtain ⟨g, e, hb, a, b, hk⟩ := h
  obtain ⟨a', b', h1, _⟩ := hg.2 g hb a b hk
  exact ⟨g, e, hb, a', b', h1⟩
theorem StoredT.stable {v : Value} {w w' : World} (h : StoredT B t s0 s1 v w) (hg : (GT B t s0 s1).G w w') : StoredT B t s0 s1 v w' := by
  obtain ⟨g, e, hb, hk⟩ := h
  obtain ⟨a', b', h1, h2, h3⟩ := hg.2 g hb _ _ hk
  obtain rfl : a' = s0 := by rcases h2 with h | h <;> exact h
  obtain rfl : b' = s1 := by rcases h3 with h | h <;> exact h
  exact ⟨g, e, hb, h1⟩
end
end Go.Proofs.Ytbfjebglaimcmaa
namespace Go.Proofs.Ytbfjebglaimcmaa
open Go.RowKit Go.Hav
theorem Try.infoE56 : (Try.prog.info? 56).map (fun i => (i.zero, i.size, i.bytes)) = some (some (.agg #[.int .i64 0, .int .i64 0, .int .i64 0]), 3, 24) := by kernel_rfl
theorem own_blk {w : World} {B n c g : Nat} {e : TypeId} {sz : Nat} {xs : List Value} (h : w.ownsRow B e sz (.slice (some ⟨g, 0, none⟩) n c) n xs) : ∃ cur, Blk w g e cur ∧ B ≤ g ∧ n ≤ c ∧ c ≤ maxLen ∧ cur.size = c * sz ∧ cur.toList.take (n * sz) = xs := by
  rcases h.2 with ⟨h1, _⟩ | ⟨g', c', cur, h1, h2, h3, h4, h5, h6, h7⟩
  · cases h1
  · cases h1
    exact ⟨cur, h3, h2, h4, h5, h6, h7⟩
/-- The upper end of one bale is stored. -/
theorem RdG.set_hi {w : World} {B g : Nat} {t : TypeId} {cur : Array Value} {l : List Ba} {j : Nat} {b : Ba} (h : RdG baF 3 w B (some ⟨g, 0, none⟩) l) (hk : Blk w g t cur) (hs : l.length * 3 ≤ cur.size) (hb : l[j]? = some b) (v : Int) :
    RdG baF 3 (w.setCell ⟨g, j * 3 + 2, none⟩ (.int .i64 v)) B (some ⟨g, 0, none⟩) (l.set j ⟨b.set, ⟨b.w.lo, v⟩⟩) := by
  have hj : j < l.length := (List.getElem?_eq_some_iff.1 hb).1
  have hk2 := hk.set_ (j * 3 + 2) (.int .i64 v)
  have hold : ∀ m u, m ≠ j * 3 + 2 → w.cell? ⟨g, m, none⟩ = some u → (w.setCell ⟨g, j * 3 + 2, none⟩ (.int .i64 v)).cell? ⟨g, m, none⟩ = some u := fun m u hm hu => by
    rw [hk2.cell, Array.getElem?_setIfInBounds_ne (Ne.symm hm), ← hk.cell]
    exact hu
  intro k x hx
  by_cases e : k = j
  · subst e
    rw [List.getElem?_set_self hj] at hx
    injection hx with hx
    subst hx
    obtain ⟨b', off, he, hlt, hc⟩ := h k b hb
    injection he with he
    injection he with e1 e2
    subst e1 e2
    refine ⟨g, 0, rfl, hlt, fun i u hu => ?_⟩
    match i, hu with
    | 0, hu => exact hold _ _ (by omega) (hc 0 u hu)
    | 1, hu => exact hold _ _ (by omega) (hc 1 u hu)
    | 2, hu =>
      simp only [baF, List.getElem?_cons_succ, List.getElem?_cons_zero, Option.some.injEq] at hu
      subst hu
      rw [Nat.zero_add, hk2.cell, Array.getElem?_setIfInBounds_self_of_lt (by omega)]
    | i + 3, hu => simp [baF] at hu
  · rw [List.getElem?_set_ne (Ne.symm e)] at hx
    obtain ⟨b', off, he, hlt, hc⟩ := h k x hx
    refine ⟨b', off, he, hlt, fun i u hu => ?_⟩
    injection he with he
    injection he with e1 e2
    subst e1 e2
    have hi : i < 3 := (List.getElem?_eq_some_iff.1 hu).1
    exact hold _ _ (by omega) (hc i u hu)
/-- A row that lies in a block reads alike wherever the block is the same. -/
theorem RdG.blk {α : Type} {f : α → List Value} {sz : Nat} {w w' : World} {B B' g : Nat} {t : TypeId} {cur : Array Value} {l : List α} (h : RdG f sz w B (some ⟨g, 0, none⟩) l) (hk : Blk w g t cur) (hk' : Blk w' g t cur) (hB : g < B') : RdG f sz w' B' (some ⟨g, 0, none⟩) l := by
  intro k x hx
  obtain ⟨b', off, he, hlt, hc⟩ := h k x hx
  injection he with he
  injection he with e1 e2
  subst e1 e2
  refine ⟨g, 0, rfl, hB, fun i u hu => ?_⟩
  rw [hk'.cell, ← hk.cell]
  exact hc i u hu
/-- A row that was made by an append to a new one: its place, and that it reads. -/
theorem own_read {w : World} {B n : Nat} {v : Value} {t : TypeId} {l : List Ba} (hn : 0 < n) (h : w.ownsRow B t 3 v n (l.flatMap baF)) : ∃ g c cur, v = .slice (some ⟨g, 0, none⟩) n c ∧ B ≤ g ∧ Blk w g t cur ∧ n * 3 ≤ cur.size ∧ n ≤ c ∧ RdG baF 3 w w.heap.size (some ⟨g, 0, none⟩) l := by
  rcases h.2 with ⟨_, h0⟩ | ⟨g, cap, cur, rfl, hg, hh, hle, hm, hsz, ht⟩
  · omega
  · exact ⟨g, cap, cur, rfl, hg, hh, by rw [hsz]; exact Nat.mul_le_mul hle (Nat.le_refl _), hle, RdG.of_own baF_len (by decide) h (Nat.le_refl _) rfl⟩
/-- An append of a row that is read, wherever it lies, to a row of its own. -/
theorem append_row {α : Type} {f : α → List Value} {P : Program} (t ty e : TypeId) (i : TypeInfo) (z : Value) (size bytes : Nat) (ht : P.underlying t = some (.slice e)) (hi : P.info? e = some i) (hz : i.zero = some z)
    (hsize : i.size = size) (hby : i.bytes = bytes) (hzs : z.cells.size = size) (hsz : 0 < size) (hf : ∀ x, (f x).length = size) (hone : ∀ x, ∀ u ∈ f x, u.oneCell' = true) {w : World} {B R g n c0 k c : Nat} {A : Option Addr} {xs : List Value} {l : List α} (hl : l.length = k)
    (hr : RdG f size w R A l) (hn : n + k ≤ 1000) (hby2 : bytes ≤ 1000) (hB : B ≤ w.heap.size) (hown : w.ownsRow B e size (.slice (some ⟨g, 0, none⟩) n c0) n xs) :
    ∃ v' w', (Builtin.append_ #[t, t] ty #[.slice (some ⟨g, 0, none⟩) n c0, .slice A k c]).run P w = .ok v' w' ∧ (∃ g c, v' = .slice (some ⟨g, 0, none⟩) (n + k) c) ∧ w'.ownsRow B e size v' (n + k) (xs ++ l.flatMap f) ∧ Below B w w' := by
  have hm : (n + k) * bytes ≤ 1000 * 1000 := Nat.mul_le_mul hn hby2
  have fin : ∀ a : Addr, (∀ j u, (l.flatMap f)[j]? = some u → w.cell? (a.add j) = some u) → ∃ v' w', (Builtin.append_ #[t, t] ty #[.slice (some ⟨g, 0, none⟩) n c0, .slice (some a) k c]).run P w = .ok v' w' ∧ (∃ g c, v' = .slice (some ⟨g, 0, none⟩) (n + k) c) ∧ w'.ownsRow B e size v' (n + k) (xs ++ l.flatMap f) ∧ Below B w w' := fun a ha => by
    obtain ⟨v', w', h1, h2, h3, h4⟩ := run_append_own (P := P) w B t ty e i z size bytes ht hi hz hsize hby hzs hsz _ n xs hown a k c (l.flatMap f) (by rw [flat_len f size hf, hl]) ha (fun u hu => by
      obtain ⟨x, _, hx⟩ := List.mem_flatMap.1 hu
      exact hone x u hx) (by unfold maxLen; omega) (by omega) hB
    refine ⟨v', w', h1, ?_, h2, (Below.refl B w).grown h3 hB (fun k' hk' => (hown.lt k' hk').1)⟩
    rcases h2.2 with ⟨h, _⟩ | ⟨g', c', _, h, _⟩
    · have := (h4.1 h).1
      cases this
    · exact ⟨g', c', h⟩
  cases A with
  | some a =>
    cases l with
    | nil => exact fin a (fun j u h => by simp at h)
    | cons x l =>
      obtain ⟨b, off, he, _, _⟩ := hr 0 x rfl
      obtain rfl : a = ⟨b, off, none⟩ := by injection he
      exact fin ⟨b, off, none⟩ (hr.news hf hsz)
  | none =>
    cases l with
    | nil =>
      obtain rfl : k = 0 := by simpa using hl.symm
      refine ⟨.slice (some ⟨g, 0, none⟩) n c0, w, ?_, ⟨g, c0, rfl⟩, by simpa using hown, Below.refl _ _⟩
      obtain ⟨_, _, _, hnc, _⟩ := own_blk hown
      have hnc' : ¬ c0 < n := by omega
      simp [Builtin.append_, run_underlying ht, sizeOf, typeInfo, hi, Builtin.lenOf, Builtin.firstCells, storeCells, hnc']
    | cons x l =>
      obtain ⟨b, off, he, _, _⟩ := hr 0 x rfl
      cases he
theorem wpList_append_row {α : Type} {f : α → List Value} {P : Program} {ops : Array Oper} {rest : List Oper} {o : Oper} {a : Act} {w : World} {Q : Exit → Act → World → Prop} (hgd : o.guard = none) (s x : Operand) (t : TypeId)
    (ho : o.op = .call { callee := .builtin .append, args := #[s, x], argTypes := #[t, t] })
    (B : Nat) (e : TypeId) (i : TypeInfo) (z : Value) (size bytes : Nat) (ht : P.underlying t = some (.slice e)) (hi : P.info? e = some i) (hz : i.zero = some z)
    (hsize : i.size = size) (hby : i.bytes = bytes) (hzs : z.cells.size = size) (hsz : 0 < size) (hf : ∀ x, (f x).length = size) (hone : ∀ x, ∀ u ∈ f x, u.oneCell' = true)
    (g n c0 : Nat) (xs : List Value) (hs : a.eval s = .slice (some ⟨g, 0, none⟩) n c0) (hown : w.ownsRow B e size (.slice (some ⟨g, 0, none⟩) n c0) n xs)
    (A : Option Addr) (k c R : Nat) (l : List α) (hx : a.eval x = .slice A k c) (hl : l.length = k) (hr : RdG f size w R A l) (hn : n + k ≤ 1000) (hby2 : bytes ≤ 1000) (hB : B ≤ w.heap.size)
    (h : ∀ g' c' w', w'.ownsRow B e size (.slice (some ⟨g', 0, none⟩) (n + k) c') (n + k) (xs ++ l.flatMap f) → Below B w w' → wpList P ops Q rest (a.put o.dst (.slice (some ⟨g', 0, none⟩) (n + k) c')) w') :
    wpList P ops Q (o :: rest) a w := by
  refine wpList_plain hgd fun K hK => ?_
  obtain ⟨v', w', hr, ⟨g', c', rfl⟩, h2, h3⟩ := append_row (P := P) t o.type e i z size bytes ht hi hz hsize hby hzs hsz hf hone (c := c) hl hr hn hby2 hB hown
  unfold Oper.wp execOp
  simp only [ho, resolve, invoke, builtin, Sem.run_bind, Sem.run_pure, Result.andThen_ok, List.map_toArray, List.map_cons, List.map_nil, hs, hx, hr]
  exact hK _ _ (h g' c' w' h2 h3)
theorem baF_one (x : Ba) : ∀ u ∈ baF x, u.oneCell' = true := fun u hu => by simp [baF] at hu; rcases hu with rfl | rfl | rfl <;> rfl
theorem flF_one (x : Fl) : ∀ u ∈ flF x, u.oneCell' = true := fun u hu => by simp [flF] at hu; rcases hu with rfl | rfl | rfl <;> rfl
end Go.Proofs.Ytbfjebglaimcmaa
