/- The law CartMore. Condition: what the statements say. -/
import Derived.Test.YtgmfhngcehkibaaGreatPkQ25
set_option maxRecDepth 100000
set_option maxHeartbeats 6400000
namespace Go.Proofs.YtgmfhngcehkibaaGreat
open Go.RowKit Go.Hav Go.Shelf Go.Sq
attribute [local go_sem] Oper.semAt_some
theorem append_copy2 {α : Type} {f : α -> List Value} {P : Program} (t ty e : TypeId) (i : TypeInfo) (z : Value) (size bytes : Nat) (ht : P.underlying t = some (.slice e)) (hi : P.info? e = some i) (hz : i.zero = some z)
  (hsize : i.size = size) (hby : i.bytes = bytes) (hzs : z.cells.size = size) (hsz : 0 < size) (hf : ∀ x, (f x).length = size) {w : World} {B R g n c : Nat} {A : Option Addr} {l : List α} (hl : l.length = n) (hr : RdG f size w R A l)
  (hn : n <= 1000) (hby2 : bytes <= 1000) (hB : B <= w.heap.size) (hown : w.ownsRow B e size (.slice (some ⟨g, 0, none⟩) 0 0) 0 []) :
  ∃ w' g' c', (Builtin.append_ #[t, t] ty #[.slice (some ⟨g, 0, none⟩) 0 0, .slice A n c]).run P w = .ok (.slice (some ⟨g', 0, none⟩) n c') w' ∧ (g' = g ∨ w.heap.size <= g') ∧ w'.ownsRow B e size (.slice (some ⟨g', 0, none⟩) n c') n (l.flatMap f) ∧ Below w.heap.size w w' := by
 rcases Nat.eq_zero_or_pos n with h0 | h0
 ·subst h0; obtain rfl : l = [] := List.eq_nil_of_length_eq_zero hl; refine ⟨w, g, 0, ?_, .inl rfl, hown, Below.refl _ w⟩
  cases A with
  | some a => exact run_append_room_cells w t ty e i ht hi g 0 0 0 a 0 c [] (by simp) (by simp) (by simp) (by omega) (by simp) (by simp)
  | none => simp [Builtin.append_, run_underlying ht, sizeOf, typeInfo, hi, Builtin.lenOf, Builtin.firstCells, storeCells]
 ·obtain ⟨v', w', h1, ⟨g', c', rfl, h2⟩, h3, h4⟩ := append_copy (P := P) t ty e i z size bytes ht hi hz hsize hby hzs hsz hf hl hr hn hby2 hB hown (c := c); exact ⟨w', g', c', h1, .inr (h2 h0), h3, h4⟩
def WR7b (k : Nat) (w0 : World) (v4 v5 v6 v7 v8 v11 v12 v13 v14 v15 : Value) (K : World) : Prop := ∀ (v18 v19 v20 v21 v22 v23 v24 v25 v42 v43 : Value), WG k w0 v4 v5 v6 v7 v8 v11 v12 v13 v14 v15 v18 v19 v20 v21 v22 v23 v24 v25 v42 v43 K
theorem WR7b.go {k : Nat} {w0 K : World} {v4 v5 v6 v7 v8 v11 v12 v13 v14 v15 v18 v19 v20 v21 v22 v23 v24 v25 v42 v43 : Value} (h : WR7b k w0 v4 v5 v6 v7 v8 v11 v12 v13 v14 v15 K) : WG k w0 v4 v5 v6 v7 v8 v11 v12 v13 v14 v15 v18 v19 v20 v21 v22 v23 v24 v25 v42 v43 K := h _ _ _ _ _ _ _ _ _ _
structure J4 (BW wn : Nat) (c : ICart) (w_ : IWag) (rem : List Nat) (a : Act) (w : World) : Prop where
 oa : Ch BW 65 4 0 3 6 60 63 66 wn (wn + 1) (c.wg.flatMap wgI) ((c.wg ++ [w_]).flatMap wgI) rem a w
 ob : Ch BW 65 4 7 10 10 67 70 70 wn wn (c.wg.flatMap wgI) (c.wg.flatMap wgI) rem a w
 ap : ∀ g, (ch 0 3 6 60 63 66 rem a).ownBlock = some g -> ¬ (ch 7 10 10 67 70 70 rem a).ownBlock = some g
 c5 : One 65 5 6 65 [Value.int .i64 w_.leaves, .int .i64 w_.takes.lo, .int .i64 w_.takes.hi, .int .i64 w_.room] rem a w
section
variable {BW wn i : Nat} {c : ICart} {w_ : IWag} {rem : List Nat} {a : Act} {w w' : World} {d : Option Tmp} {v : Value}
theorem ch_lt {B e sz n : Nat} {v : Value} {xs : List Value} {w : World} (h : w.ownsRow B e sz v n xs) {g : Nat} (hg : v.ownBlock = some g) : g < w.heap.size := by
 obtain ⟨-, cs, hb⟩ := own_block h hg; exact hb.lt
theorem J4.skip (h : J4 BW wn c w_ rem a w) (h0 : i ≠ 0 ∧ i ≠ 3 ∧ i ≠ 6 ∧ i ≠ 7 ∧ i ≠ 10 ∧ i ≠ 5) (hd : d ≠ some 60 ∧ d ≠ some 63 ∧ d ≠ some 66 ∧ d ≠ some 67 ∧ d ≠ some 70 ∧ d ≠ some 65) (k1 : ∀ v n xs, w.ownsRow BW 65 4 v n xs -> w'.ownsRow BW 65 4 v n xs) (k2 : ∀ g cs, Blk w g 65 cs -> Blk w' g 65 cs) : J4 BW wn c w_ (rem.erase i) (a.put d v) w' := by
 obtain ⟨a1, a2, a3, a4, a5, a6⟩ := h0; obtain ⟨d1, d2, d3, d4, d5, d6⟩ := hd; refine ⟨h.oa.skip a1 a2 a3 d1 d2 d3 k1, h.ob.skip a4 a5 a5 d4 d5 d5 k1, ?_, h.c5.skip a6 d6 k2⟩; rw [ch_skip a1 a2 a3 d1 d2 d3, ch_skip a4 a5 a5 d4 d5 d5]; exact h.ap
theorem J4.below (h : J4 BW wn c w_ rem a w) (h0 : i ≠ 0 ∧ i ≠ 3 ∧ i ≠ 6 ∧ i ≠ 7 ∧ i ≠ 10 ∧ i ≠ 5) (hd : d ≠ some 60 ∧ d ≠ some 63 ∧ d ≠ some 66 ∧ d ≠ some 67 ∧ d ≠ some 70 ∧ d ≠ some 65) (hb : Below w.heap.size w w') : J4 BW wn c w_ (rem.erase i) (a.put d v) w' := h.skip h0 hd (fun _ _ _ ho => own_below ho hb) (fun _ _ hk => hk.below hb hk.lt)
theorem J4.sa (h : J4 BW wn c w_ rem a w) {g : Nat} {n cp : Nat} (hi : i ≠ 7 ∧ i ≠ 10 ∧ i ≠ 5) (hd : d ≠ some 67 ∧ d ≠ some 70 ∧ d ≠ some 65) (hb : Below w.heap.size w w') (ha : Ch BW 65 4 0 3 6 60 63 66 wn (wn + 1) (c.wg.flatMap wgI) ((c.wg ++ [w_]).flatMap wgI) (rem.erase i) (a.put d (.slice (some ⟨g, 0, none⟩) n cp)) w') (he : ch 0 3 6 60 63 66 (rem.erase i) (a.put d (.slice (some ⟨g, 0, none⟩) n cp)) = .slice (some ⟨g, 0, none⟩) n cp)
  (hf : (ch 0 3 6 60 63 66 rem a).ownBlock = some g ∨ w.heap.size <= g) : J4 BW wn c w_ (rem.erase i) (a.put d (.slice (some ⟨g, 0, none⟩) n cp)) w' := by
 obtain ⟨a1, a2, a3⟩ := hi; obtain ⟨d1, d2, d3⟩ := hd
 refine ⟨ha, h.ob.skip a1 a2 a2 d1 d2 d2 (fun _ _ _ ho => own_below ho hb), fun g' e1 => ?_, h.c5.skip a3 d3 (fun _ _ hk => hk.below hb hk.lt)⟩
 rw [he] at e1; rw [ch_skip a1 a2 a2 d1 d2 d2]; intro e2; obtain rfl : g = g' := by cases e1; rfl
 rcases hf with hf | hf
 ·exact h.ap _ hf e2
 ·have := ch_lt h.ob.own e2; omega
theorem J4.sb (h : J4 BW wn c w_ rem a w) {g : Nat} {n cp : Nat} (hi : i ≠ 0 ∧ i ≠ 3 ∧ i ≠ 6 ∧ i ≠ 5) (hd : d ≠ some 60 ∧ d ≠ some 63 ∧ d ≠ some 66 ∧ d ≠ some 65) (hb : Below w.heap.size w w') (ha : Ch BW 65 4 7 10 10 67 70 70 wn wn (c.wg.flatMap wgI) (c.wg.flatMap wgI) (rem.erase i) (a.put d (.slice (some ⟨g, 0, none⟩) n cp)) w') (he : ch 7 10 10 67 70 70 (rem.erase i) (a.put d (.slice (some ⟨g, 0, none⟩) n cp)) = .slice (some ⟨g, 0, none⟩) n cp)
  (hf : (ch 7 10 10 67 70 70 rem a).ownBlock = some g ∨ w.heap.size <= g) : J4 BW wn c w_ (rem.erase i) (a.put d (.slice (some ⟨g, 0, none⟩) n cp)) w' := by
 obtain ⟨a1, a2, a3, a4⟩ := hi; obtain ⟨d1, d2, d3, d4⟩ := hd
 refine ⟨h.oa.skip a1 a2 a3 d1 d2 d3 (fun _ _ _ ho => own_below ho hb), ha, fun g' e1 => ?_, h.c5.skip a4 d4 (fun _ _ hk => hk.below hb hk.lt)⟩
 rw [ch_skip a1 a2 a3 d1 d2 d3] at e1; rw [he]; intro e2; obtain rfl : g = g' := by cases e2; rfl
 rcases hf with hf | hf
 ·exact h.ap _ e1 hf
 ·have := ch_lt h.oa.own e1; omega
theorem J4.last (h : J4 BW wn c w_ rem a w) {g cp : Nat} (m : 6 ∈ rem) (m3 : ¬ 3 ∈ rem) (hnd : rem.Nodup) (hs : 66 < a.tmps.size) (t : Turn (fun b => (HavG.slot a 63).ownBlock = some b) w w') (ho : w'.ownsRow BW 65 4 (.slice (some ⟨g, 0, none⟩) (wn + 1) cp) (wn + 1) ((c.wg ++ [w_]).flatMap wgI)) (hf : (HavG.slot a 63).ownBlock = some g ∨ w.heap.size <= g) : J4 BW wn c w_ (rem.erase 6) (a.put (some 66) (.slice (some ⟨g, 0, none⟩) (wn + 1) cp)) w' := by
 have e63 := (h.oa.at1 m3 m).2
 have hap : ∀ g, (HavG.slot a 63).ownBlock = some g -> ¬ (ch 7 10 10 67 70 70 rem a).ownBlock = some g := fun g hg => h.ap g (by rw [e63]; exact hg)
 refine ⟨Ch.two hnd hs ho, ⟨?_⟩, fun g' e1 => ?_, One.off hnd⟩
 ·have hb := own_turn h.ob.own t (fun g hg e => hap g e hg)
  rw [ch_skip (by decide) (by decide) (by decide) (by decide) (by decide) (by decide)]
  unfold chN chX at hb ⊢; simp only [List.mem_erase_of_ne (show (10 : Nat) ≠ 6 by decide)]
  exact hb
 ·rw [ch_two hnd hs] at e1; rw [ch_skip (by decide) (by decide) (by decide) (by decide) (by decide) (by decide)]
  intro e2; obtain rfl : g = g' := by cases e1; rfl
  rcases hf with hf | hf
  ·exact hap _ hf e2
  ·have := ch_lt h.ob.own e2; omega
end
def r4T (b5 b11 b12 fl fc ll lc wn wc tn tc : Nat) (fa la wa ta : Option Addr) (c : ICart) (w_ : IWag) (i : Nat) (V : Nat -> Value) (w : World) : Prop :=
 match i with
 | 0 => ∃ g, V 0 = .slice (some ⟨g, 0, none⟩) 0 0
 | 1 => V 1 = (.pointer (some ⟨b5, 8, none⟩))
 | 2 => V 2 = .slice wa wn wc
 | 3 => ∃ g cp, V 3 = .slice (some ⟨g, 0, none⟩) wn cp
 | 4 => V 4 = .agg #[.int .i64 w_.leaves, .int .i64 w_.takes.lo, .int .i64 w_.takes.hi, .int .i64 w_.room]
 | 5 => ∃ g, V 5 = .slice (some ⟨g, 0, none⟩) 1 1
 | 6 => ∃ g cp, V 6 = .slice (some ⟨g, 0, none⟩) (wn + 1) cp
 | 7 => ∃ g, V 7 = .slice (some ⟨g, 0, none⟩) 0 0
 | 8 => V 8 = (.pointer (some ⟨b5, 8, none⟩))
 | 9 => V 9 = .slice wa wn wc
 | 10 => ∃ g cp, V 10 = .slice (some ⟨g, 0, none⟩) wn cp
 | 11 => V 11 = (.pointer (some ⟨b11, 8, none⟩))
 | 12 => ∃ g cp, V 6 = .slice (some ⟨g, 0, none⟩) (wn + 1) cp ∧ Blk w b11 31 #[.int .i64 c.riv.depth.lo, .int .i64 c.riv.depth.hi, .int .i64 c.riv.fall.lo, .int .i64 c.riv.fall.hi, .int .i64 c.riv.days, .slice fa fl fc, .slice la ll lc, .int .i64 c.draws, .slice (some ⟨g, 0, none⟩) (wn + 1) cp, .slice ta tn tc]
 | 13 => V 13 = (.pointer (some ⟨b12, 8, none⟩))
 | 14 => ∃ g cp, V 10 = .slice (some ⟨g, 0, none⟩) wn cp ∧ Blk w b12 31 #[.int .i64 c.riv.depth.lo, .int .i64 c.riv.depth.hi, .int .i64 c.riv.fall.lo, .int .i64 c.riv.fall.hi, .int .i64 c.riv.days, .slice fa fl fc, .slice la ll lc, .int .i64 c.draws, .slice (some ⟨g, 0, none⟩) wn cp, .slice ta tn tc]
 | _ => True
def r4S (b11 b12 fl fc ll lc wn wc tn tc : Nat) (fa la wa ta : Option Addr) (c : ICart) (i : Nat) (w : World) : Prop :=
 match i with
 | 12 => Blk w b11 31 (CX9 c fa fl fc la ll lc wa wn wc ta tn tc)
 | 14 => Blk w b12 31 (CX9 c fa fl fc la ll lc wa wn wc ta tn tc)
 | _ => True
section
variable {b5 b11 b12 fl fc ll lc wn wc tn tc i : Nat} {fa la wa ta : Option Addr} {c : ICart} {w_ : IWag} {V : Nat -> Value} {w w' : World} {S : Nat -> Prop}
theorem r4_turn (h : r4T b5 b11 b12 fl fc ll lc wn wc tn tc fa la wa ta c w_ i V w) (t : Turn S w w') (hs : ∀ b, S b -> b ≠ b11 ∧ b ≠ b12) : r4T b5 b11 b12 fl fc ll lc wn wc tn tc fa la wa ta c w_ i V w' := by
 unfold r4T at h ⊢
 split at h
 case h_13 => obtain ⟨g, cp, e, h⟩ := h; exact ⟨g, cp, e, h.turn t (fun e => (hs _ e).1 rfl)⟩
 case h_15 => obtain ⟨g, cp, e, h⟩ := h; exact ⟨g, cp, e, h.turn t (fun e => (hs _ e).2 rfl)⟩
 all_goals exact h
theorem r4_grow (h : r4T b5 b11 b12 fl fc ll lc wn wc tn tc fa la wa ta c w_ i V w) (hb : Below w.heap.size w w') : r4T b5 b11 b12 fl fc ll lc wn wc tn tc fa la wa ta c w_ i V w' := r4_turn (S := fun _ => False) h (Turn.of_below hb) (fun _ h => h.elim)
theorem r4_setx (h : r4T b5 b11 b12 fl fc ll lc wn wc tn tc fa la wa ta c w_ i V w) (t : Turn (fun b => b = b11) w w') (hn : b11 ≠ b12) (hi : i ≠ 12) : r4T b5 b11 b12 fl fc ll lc wn wc tn tc fa la wa ta c w_ i V w' := by
 unfold r4T at h ⊢
 split at h
 case h_13 => exact absurd rfl hi
 case h_15 => obtain ⟨g, cp, e, h⟩ := h; exact ⟨g, cp, e, h.turn t (fun e => hn e.symm)⟩
 all_goals exact h
theorem r4_sety (h : r4T b5 b11 b12 fl fc ll lc wn wc tn tc fa la wa ta c w_ i V w) (t : Turn (fun b => b = b12) w w') (hn : b11 ≠ b12) (hi : i ≠ 14) : r4T b5 b11 b12 fl fc ll lc wn wc tn tc fa la wa ta c w_ i V w' := by
 unfold r4T at h ⊢
 split at h
 case h_13 => obtain ⟨g, cp, e, h⟩ := h; exact ⟨g, cp, e, h.turn t hn⟩
 case h_15 => exact absurd rfl hi
 all_goals exact h
theorem r4S_turn (h : r4S b11 b12 fl fc ll lc wn wc tn tc fa la wa ta c i w) (t : Turn S w w') (hs : ∀ b, S b -> b ≠ b11 ∧ b ≠ b12) : r4S b11 b12 fl fc ll lc wn wc tn tc fa la wa ta c i w' := by
 unfold r4S at h ⊢
 split at h
 ·exact h.turn t (fun e => (hs _ e).1 rfl)
 ·exact h.turn t (fun e => (hs _ e).2 rfl)
 ·trivial
theorem r4S_grow (h : r4S b11 b12 fl fc ll lc wn wc tn tc fa la wa ta c i w) (hb : Below w.heap.size w w') : r4S b11 b12 fl fc ll lc wn wc tn tc fa la wa ta c i w' := r4S_turn (S := fun _ => False) h (Turn.of_below hb) (fun _ h => h.elim)
theorem r4S_setx (h : r4S b11 b12 fl fc ll lc wn wc tn tc fa la wa ta c i w) (t : Turn (fun b => b = b11) w w') (hn : b11 ≠ b12) (hi : i ≠ 12) : r4S b11 b12 fl fc ll lc wn wc tn tc fa la wa ta c i w' := by
 unfold r4S at h ⊢
 split at h
 ·exact absurd rfl hi
 ·exact h.turn t (fun e => hn e.symm)
 ·trivial
theorem r4S_sety (h : r4S b11 b12 fl fc ll lc wn wc tn tc fa la wa ta c i w) (t : Turn (fun b => b = b12) w w') (hn : b11 ≠ b12) (hi : i ≠ 14) : r4S b11 b12 fl fc ll lc wn wc tn tc fa la wa ta c i w' := by
 unfold r4S at h ⊢
 split at h
 ·exact h.turn t hn
 ·exact absurd rfl hi
 ·trivial
theorem r4S_zero (h1 : Blk w b11 31 (CX9 c fa fl fc la ll lc wa wn wc ta tn tc)) (h2 : Blk w b12 31 (CX9 c fa fl fc la ll lc wa wn wc ta tn tc)) (i : Nat) : r4S b11 b12 fl fc ll lc wn wc tn tc fa la wa ta c i w := by
 unfold r4S
 split
 ·exact h1
 ·exact h2
 ·trivial
end
structure J5 (BW ll tn : Nat) (c : ICart) (l_ : ILot) (o_ : ILk) (rem : List Nat) (a : Act) (w : World) : Prop where
 oa : Ch BW 68 5 0 3 6 73 76 79 tn (tn + 1) (c.lt.flatMap ltI) ((c.lt ++ [l_]).flatMap ltI) rem a w
 ob : Ch BW 61 3 7 11 14 80 84 87 ll (ll + 1) (c.riv.lk.flatMap lkI) ((c.riv.lk ++ [o_]).flatMap lkI) rem a w
 c5 : One 68 5 6 78 [Value.int .i64 l_.from_, .int .i64 l_.bales, .int .i64 l_.price, .int .i64 l_.until_, .int .i64 l_.less] rem a w
 c13 : One 61 13 14 86 [Value.int .i64 o_.day, .int .i64 o_.dep.lo, .int .i64 o_.dep.hi] rem a w
section
variable {BW ll tn i : Nat} {c : ICart} {l_ : ILot} {o_ : ILk} {rem : List Nat} {a : Act} {w w' : World} {d : Option Tmp} {v : Value}
theorem J5.skip (h : J5 BW ll tn c l_ o_ rem a w) (h0 : i ≠ 0 ∧ i ≠ 3 ∧ i ≠ 6 ∧ i ≠ 7 ∧ i ≠ 11 ∧ i ≠ 14 ∧ i ≠ 5 ∧ i ≠ 13) (hd : d ≠ some 73 ∧ d ≠ some 76 ∧ d ≠ some 79 ∧ d ≠ some 80 ∧ d ≠ some 84 ∧ d ≠ some 87 ∧ d ≠ some 78 ∧ d ≠ some 86) (k1 : ∀ (e sz : Nat) v n xs, e ≠ 31 -> w.ownsRow BW e sz v n xs -> w'.ownsRow BW e sz v n xs) (k2 : ∀ (e : Nat) g cs, e ≠ 31 -> Blk w g e cs -> Blk w' g e cs) : J5 BW ll tn c l_ o_ (rem.erase i) (a.put d v) w' := by
 obtain ⟨a1, a2, a3, a4, a5, a6, a7, a8⟩ := h0; obtain ⟨d1, d2, d3, d4, d5, d6, d7, d8⟩ := hd
 exact ⟨h.oa.skip a1 a2 a3 d1 d2 d3 (fun _ _ _ => k1 _ _ _ _ _ (by decide)), h.ob.skip a4 a5 a6 d4 d5 d6 (fun _ _ _ => k1 _ _ _ _ _ (by decide)), h.c5.skip a7 d7 (fun _ _ => k2 _ _ _ (by decide)), h.c13.skip a8 d8 (fun _ _ => k2 _ _ _ (by decide))⟩
theorem J5.below (h : J5 BW ll tn c l_ o_ rem a w) (h0 : i ≠ 0 ∧ i ≠ 3 ∧ i ≠ 6 ∧ i ≠ 7 ∧ i ≠ 11 ∧ i ≠ 14 ∧ i ≠ 5 ∧ i ≠ 13) (hd : d ≠ some 73 ∧ d ≠ some 76 ∧ d ≠ some 79 ∧ d ≠ some 80 ∧ d ≠ some 84 ∧ d ≠ some 87 ∧ d ≠ some 78 ∧ d ≠ some 86) (hb : Below w.heap.size w w') : J5 BW ll tn c l_ o_ (rem.erase i) (a.put d v) w' := h.skip h0 hd (fun _ _ _ _ _ _ ho => own_below ho hb) (fun _ _ _ _ hk => hk.below hb hk.lt)
theorem J5.sa (h : J5 BW ll tn c l_ o_ rem a w) (h0 : i ≠ 7 ∧ i ≠ 11 ∧ i ≠ 14 ∧ i ≠ 5 ∧ i ≠ 13) (hd : d ≠ some 80 ∧ d ≠ some 84 ∧ d ≠ some 87 ∧ d ≠ some 78 ∧ d ≠ some 86) (hb : Below w.heap.size w w') (ha : Ch BW 68 5 0 3 6 73 76 79 tn (tn + 1) (c.lt.flatMap ltI) ((c.lt ++ [l_]).flatMap ltI) (rem.erase i) (a.put d v) w') : J5 BW ll tn c l_ o_ (rem.erase i) (a.put d v) w' := by
 obtain ⟨a4, a5, a6, a7, a8⟩ := h0; obtain ⟨d4, d5, d6, d7, d8⟩ := hd
 exact ⟨ha, h.ob.skip a4 a5 a6 d4 d5 d6 (fun _ _ _ ho => own_below ho hb), h.c5.skip a7 d7 (fun _ _ hk => hk.below hb hk.lt), h.c13.skip a8 d8 (fun _ _ hk => hk.below hb hk.lt)⟩
theorem J5.sb (h : J5 BW ll tn c l_ o_ rem a w) (h0 : i ≠ 0 ∧ i ≠ 3 ∧ i ≠ 6 ∧ i ≠ 5 ∧ i ≠ 13) (hd : d ≠ some 73 ∧ d ≠ some 76 ∧ d ≠ some 79 ∧ d ≠ some 78 ∧ d ≠ some 86) (hb : Below w.heap.size w w') (ha : Ch BW 61 3 7 11 14 80 84 87 ll (ll + 1) (c.riv.lk.flatMap lkI) ((c.riv.lk ++ [o_]).flatMap lkI) (rem.erase i) (a.put d v) w') : J5 BW ll tn c l_ o_ (rem.erase i) (a.put d v) w' := by
 obtain ⟨a4, a5, a6, a7, a8⟩ := h0; obtain ⟨d4, d5, d6, d7, d8⟩ := hd
 exact ⟨h.oa.skip a4 a5 a6 d4 d5 d6 (fun _ _ _ ho => own_below ho hb), ha, h.c5.skip a7 d7 (fun _ _ hk => hk.below hb hk.lt), h.c13.skip a8 d8 (fun _ _ hk => hk.below hb hk.lt)⟩
theorem J5.la (h : J5 BW ll tn c l_ o_ rem a w) (hnd : rem.Nodup) {S : Nat -> Prop} (t : Turn S w w') (hs : ∀ e g cs, Blk w g e cs -> e ≠ 68 -> ¬ S g) (ha : Ch BW 68 5 0 3 6 73 76 79 tn (tn + 1) (c.lt.flatMap ltI) ((c.lt ++ [l_]).flatMap ltI) (rem.erase 6) (a.put (some 79) v) w') : J5 BW ll tn c l_ o_ (rem.erase 6) (a.put (some 79) v) w' :=
 ⟨ha, h.ob.skip (by decide) (by decide) (by decide) (by decide) (by decide) (by decide) (fun _ _ _ ho => own_turn ho t (fun g hg => by obtain ⟨-, cs, hk⟩ := own_block ho hg; exact hs _ _ _ hk (by decide))), One.off hnd, h.c13.skip (by decide) (by decide) (fun g cs hk => hk.turn t (hs _ _ _ hk (by decide)))⟩
theorem J5.lb (h : J5 BW ll tn c l_ o_ rem a w) (hnd : rem.Nodup) {S : Nat -> Prop} (t : Turn S w w') (hs : ∀ e g cs, Blk w g e cs -> e ≠ 61 -> ¬ S g) (ha : Ch BW 61 3 7 11 14 80 84 87 ll (ll + 1) (c.riv.lk.flatMap lkI) ((c.riv.lk ++ [o_]).flatMap lkI) (rem.erase 14) (a.put (some 87) v) w') : J5 BW ll tn c l_ o_ (rem.erase 14) (a.put (some 87) v) w' :=
 ⟨h.oa.skip (by decide) (by decide) (by decide) (by decide) (by decide) (by decide) (fun _ _ _ ho => own_turn ho t (fun g hg => by obtain ⟨-, cs, hk⟩ := own_block ho hg; exact hs _ _ _ hk (by decide))), ha, h.c5.skip (by decide) (by decide) (fun g cs hk => hk.turn t (hs _ _ _ hk (by decide))), One.off hnd⟩
end
def r5T (b5 b13 b14 b15 fl fc ll lc wn wc tn tc : Nat) (fa la wa ta : Option Addr) (c : ICart) (l_ : ILot) (o_ : ILk) (i : Nat) (V : Nat -> Value) (w : World) : Prop :=
 match i with
 | 0 => ∃ g, V 0 = .slice (some ⟨g, 0, none⟩) 0 0
 | 1 => V 1 = (.pointer (some ⟨b5, 9, none⟩))
 | 2 => V 2 = .slice ta tn tc
 | 3 => ∃ g cp, V 3 = .slice (some ⟨g, 0, none⟩) tn cp
 | 4 => V 4 = .agg #[.int .i64 l_.from_, .int .i64 l_.bales, .int .i64 l_.price, .int .i64 l_.until_, .int .i64 l_.less]
 | 5 => ∃ g, V 5 = .slice (some ⟨g, 0, none⟩) 1 1
 | 6 => ∃ g cp, V 6 = .slice (some ⟨g, 0, none⟩) (tn + 1) cp
 | 7 => ∃ g, V 7 = .slice (some ⟨g, 0, none⟩) 0 0
 | 8 => V 8 = (.pointer (some ⟨b5, 0, none⟩))
 | 9 => V 9 = (.pointer (some ⟨b5, 6, none⟩))
 | 10 => V 10 = .slice la ll lc
 | 11 => ∃ g cp, V 11 = .slice (some ⟨g, 0, none⟩) ll cp
 | 12 => V 12 = .agg #[.int .i64 o_.day, .int .i64 o_.dep.lo, .int .i64 o_.dep.hi]
 | 13 => ∃ g, V 13 = .slice (some ⟨g, 0, none⟩) 1 1
 | 14 => ∃ g cp, V 14 = .slice (some ⟨g, 0, none⟩) (ll + 1) cp
 | 15 => V 15 = (.pointer (some ⟨b13, 9, none⟩))
 | 16 => ∃ g cp, V 6 = .slice (some ⟨g, 0, none⟩) (tn + 1) cp ∧ Blk w b13 31 #[.int .i64 c.riv.depth.lo, .int .i64 c.riv.depth.hi, .int .i64 c.riv.fall.lo, .int .i64 c.riv.fall.hi, .int .i64 c.riv.days, .slice fa fl fc, .slice la ll lc, .int .i64 c.draws, .slice wa wn wc, .slice (some ⟨g, 0, none⟩) (tn + 1) cp]
 | 17 => V 17 = (.pointer (some ⟨b14, 0, none⟩))
 | 18 => V 18 = (.pointer (some ⟨b14, 6, none⟩))
 | 19 => ∃ g cp, V 14 = .slice (some ⟨g, 0, none⟩) (ll + 1) cp ∧ Blk w b14 31 #[.int .i64 c.riv.depth.lo, .int .i64 c.riv.depth.hi, .int .i64 c.riv.fall.lo, .int .i64 c.riv.fall.hi, .int .i64 c.riv.days, .slice fa fl fc, .slice (some ⟨g, 0, none⟩) (ll + 1) cp, .int .i64 c.draws, .slice wa wn wc, .slice ta tn tc]
 | 20 => V 20 = (.pointer (some ⟨b15, 8, none⟩))
 | 21 => Blk w b15 31 #[.int .i64 c.riv.depth.lo, .int .i64 c.riv.depth.hi, .int .i64 c.riv.fall.lo, .int .i64 c.riv.fall.hi, .int .i64 c.riv.days, .slice fa fl fc, .slice la ll lc, .int .i64 c.draws, .slice none 0 0, .slice ta tn tc]
 | _ => True
def r5S (b13 b14 b15 fl fc ll lc wn wc tn tc : Nat) (fa la wa ta : Option Addr) (c : ICart) (i : Nat) (w : World) : Prop :=
 match i with
 | 16 => Blk w b13 31 (CX9 c fa fl fc la ll lc wa wn wc ta tn tc)
 | 19 => Blk w b14 31 (CX9 c fa fl fc la ll lc wa wn wc ta tn tc)
 | 21 => Blk w b15 31 (CX9 c fa fl fc la ll lc wa wn wc ta tn tc)
 | _ => True
section
variable {b5 b13 b14 b15 fl fc ll lc wn wc tn tc i : Nat} {fa la wa ta : Option Addr} {c : ICart} {l_ : ILot} {o_ : ILk} {V : Nat -> Value} {w w' : World} {S : Nat -> Prop}
theorem r5_turn (h : r5T b5 b13 b14 b15 fl fc ll lc wn wc tn tc fa la wa ta c l_ o_ i V w) (t : Turn S w w') (h1 : i = 16 -> ¬ S b13) (h2 : i = 19 -> ¬ S b14) (h3 : i = 21 -> ¬ S b15) : r5T b5 b13 b14 b15 fl fc ll lc wn wc tn tc fa la wa ta c l_ o_ i V w' := by
 unfold r5T at h ⊢
 split at h
 case h_17 => obtain ⟨g, cp, e, h⟩ := h; exact ⟨g, cp, e, h.turn t (h1 rfl)⟩
 case h_20 => obtain ⟨g, cp, e, h⟩ := h; exact ⟨g, cp, e, h.turn t (h2 rfl)⟩
 case h_22 => exact h.turn t (h3 rfl)
 all_goals exact h
theorem r5_grow (h : r5T b5 b13 b14 b15 fl fc ll lc wn wc tn tc fa la wa ta c l_ o_ i V w) (hb : Below w.heap.size w w') : r5T b5 b13 b14 b15 fl fc ll lc wn wc tn tc fa la wa ta c l_ o_ i V w' := r5_turn (S := fun _ => False) h (Turn.of_below hb) (fun _ h => h) (fun _ h => h) (fun _ h => h)
theorem r5S_turn (h : r5S b13 b14 b15 fl fc ll lc wn wc tn tc fa la wa ta c i w) (t : Turn S w w') (h1 : i = 16 -> ¬ S b13) (h2 : i = 19 -> ¬ S b14) (h3 : i = 21 -> ¬ S b15) : r5S b13 b14 b15 fl fc ll lc wn wc tn tc fa la wa ta c i w' := by
 unfold r5S at h ⊢
 split at h
 ·exact h.turn t (h1 rfl)
 ·exact h.turn t (h2 rfl)
 ·exact h.turn t (h3 rfl)
 ·trivial
theorem r5S_grow (h : r5S b13 b14 b15 fl fc ll lc wn wc tn tc fa la wa ta c i w) (hb : Below w.heap.size w w') : r5S b13 b14 b15 fl fc ll lc wn wc tn tc fa la wa ta c i w' := r5S_turn (S := fun _ => False) h (Turn.of_below hb) (fun _ h => h) (fun _ h => h) (fun _ h => h)
theorem r5S_zero (h1 : Blk w b13 31 (CX9 c fa fl fc la ll lc wa wn wc ta tn tc)) (h2 : Blk w b14 31 (CX9 c fa fl fc la ll lc wa wn wc ta tn tc)) (h3 : Blk w b15 31 (CX9 c fa fl fc la ll lc wa wn wc ta tn tc)) (i : Nat) : r5S b13 b14 b15 fl fc ll lc wn wc tn tc fa la wa ta c i w := by
 unfold r5S
 split
 ·exact h1
 ·exact h2
 ·exact h3
 ·trivial
end
theorem Tryz.infoW61 : (Tryz.prog.info? 61).map (fun i => (i.zero, i.size, i.bytes)) = some (some (.agg #[.int .i64 0, .int .i64 0, .int .i64 0]), 3, 24) := by kernel_rfl
section
variable {w0 K : World} {b5 b6 b7 b8 b11 b12 b13 b14 b15 fl fc ll lc wn wc tn tc gx gy cx cy : Nat} {fa la wa ta : Option Addr} {c : ICart} {w_ : IWag} {l_ : ILot} {o_ : ILk}
structure M3 (w0 w : World) (b5 b7 b8 b11 b12 b13 b14 b15 fl fc ll lc wn wc tn tc : Nat) (fa la wa ta : Option Addr) (c : ICart) (l_ : ILot) (o_ : ILk) : Prop where
 hC : MrIn w0 w b5 fa fl fc la ll lc wa wn wc ta tn tc c
 k7 : Blk w b7 68 #[.int .i64 l_.from_, .int .i64 l_.bales, .int .i64 l_.price, .int .i64 l_.until_, .int .i64 l_.less]
 k8 : Blk w b8 61 #[.int .i64 o_.day, .int .i64 o_.dep.lo, .int .i64 o_.dep.hi]
 k13 : Blk w b13 31 (CX9 c fa fl fc la ll lc wa wn wc ta tn tc)
 k14 : Blk w b14 31 (CX9 c fa fl fc la ll lc wa wn wc ta tn tc)
 k15 : Blk w b15 31 (CX9 c fa fl fc la ll lc wa wn wc ta tn tc)
 g15 : w0.heap.size <= b11 ∧ w0.heap.size <= b12 ∧ w0.heap.size <= b13 ∧ w0.heap.size <= b14 ∧ w0.heap.size <= b15
 n5 : b5 ≠ b11 ∧ b5 ≠ b12 ∧ b5 ≠ b13 ∧ b5 ≠ b14 ∧ b5 ≠ b15
 nn : b11 ≠ b12 ∧ b11 ≠ b13 ∧ b11 ≠ b14 ∧ b11 ≠ b15 ∧ b12 ≠ b13 ∧ b12 ≠ b14 ∧ b12 ≠ b15 ∧ b13 ≠ b14 ∧ b13 ≠ b15 ∧ b14 ≠ b15
structure M4b (w0 w : World) (b5 b7 b8 b11 b12 b13 b14 b15 gx gy cx cy fl fc ll lc wn wc tn tc : Nat) (fa la wa ta : Option Addr) (c : ICart) (w_ : IWag) (l_ : ILot) (o_ : ILk) : Prop extends M3 w0 w b5 b7 b8 b11 b12 b13 b14 b15 fl fc ll lc wn wc tn tc fa la wa ta c l_ o_ where
 k11 : Blk w b11 31 #[.int .i64 c.riv.depth.lo, .int .i64 c.riv.depth.hi, .int .i64 c.riv.fall.lo, .int .i64 c.riv.fall.hi, .int .i64 c.riv.days, .slice fa fl fc, .slice la ll lc, .int .i64 c.draws, .slice (some ⟨gx, 0, none⟩) (wn + 1) cx, .slice ta tn tc]
 k12 : Blk w b12 31 #[.int .i64 c.riv.depth.lo, .int .i64 c.riv.depth.hi, .int .i64 c.riv.fall.lo, .int .i64 c.riv.fall.hi, .int .i64 c.riv.days, .slice fa fl fc, .slice la ll lc, .int .i64 c.draws, .slice (some ⟨gy, 0, none⟩) wn cy, .slice ta tn tc]
 ox : w.ownsRow w0.heap.size 65 4 (.slice (some ⟨gx, 0, none⟩) (wn + 1) cx) (wn + 1) ((c.wg ++ [w_]).flatMap wgI)
 oy : w.ownsRow w0.heap.size 65 4 (.slice (some ⟨gy, 0, none⟩) wn cy) wn (c.wg.flatMap wgI)
 nxy : gx ≠ gy
theorem mr4 (hM : M4b w0 K b5 b7 b8 b11 b12 b13 b14 b15 gx gy cx cy fl fc ll lc wn wc tn tc fa la wa ta c w_ l_ o_) {which : Nat} (hwh : which <= 255) : WR7 4 w0 (.int .u8 which) (.pointer (some ⟨b5, 0, none⟩)) (.pointer (some ⟨b7, 0, none⟩)) (.pointer (some ⟨b8, 0, none⟩)) (.pointer (some ⟨b11, 0, none⟩)) (.pointer (some ⟨b12, 0, none⟩)) (.pointer (some ⟨b13, 0, none⟩)) (.pointer (some ⟨b14, 0, none⟩)) (.pointer (some ⟨b15, 0, none⟩)) K := by
 unfold WR7 WG
 intros
 have ht5 := hM.hC.t5; have hll : ll <= 5 := by rw [<- hM.hC.hP.riv.ell]; exact (okR_pts (okC_parts hM.hC.ok).1).1.2.2.2.2
 have HS : Hid (∀ b, (b = b13 ∨ b = b14 ∨ b = b15 ∨ K.heap.size <= b) -> w0.heap.size <= b) := fun b e => by have := hM.g15; have := hM.hC.bw.size; omega
 have HF : Hid (∀ (wz : World) (gz gt cz ct : Nat), Turn (fun b => b = b13 ∨ b = b14 ∨ b = b15 ∨ K.heap.size <= b) K wz -> Blk wz b13 31 #[.int .i64 c.riv.depth.lo, .int .i64 c.riv.depth.hi, .int .i64 c.riv.fall.lo, .int .i64 c.riv.fall.hi, .int .i64 c.riv.days, .slice fa fl fc, .slice la ll lc, .int .i64 c.draws, .slice wa wn wc, .slice (some ⟨gz, 0, none⟩) (tn + 1) cz] -> Blk wz b14 31 #[.int .i64 c.riv.depth.lo, .int .i64 c.riv.depth.hi, .int .i64 c.riv.fall.lo, .int .i64 c.riv.fall.hi, .int .i64 c.riv.days, .slice fa fl fc, .slice (some ⟨gt, 0, none⟩) (ll + 1) ct, .int .i64 c.draws, .slice wa wn wc, .slice ta tn tc] -> Blk wz b15 31 #[.int .i64 c.riv.depth.lo, .int .i64 c.riv.depth.hi, .int .i64 c.riv.fall.lo, .int .i64 c.riv.fall.hi, .int .i64 c.riv.days, .slice fa fl fc, .slice la ll lc, .int .i64 c.draws, .slice none 0 0, .slice ta tn tc] -> wz.ownsRow w0.heap.size 68 5 (.slice (some ⟨gz, 0, none⟩) (tn + 1) cz) (tn + 1) ((c.lt ++ [l_]).flatMap ltI) -> wz.ownsRow w0.heap.size 61 3 (.slice (some ⟨gt, 0, none⟩) (ll + 1) ct) (ll + 1) ((c.riv.lk ++ [o_]).flatMap lkI) -> WR6 5 w0 (.int .u8 which) (.pointer (some ⟨b5, 0, none⟩)) (.pointer (some ⟨b11, 0, none⟩)) (.pointer (some ⟨b12, 0, none⟩)) (.pointer (some ⟨b13, 0, none⟩)) (.pointer (some ⟨b14, 0, none⟩)) (.pointer (some ⟨b15, 0, none⟩)) wz) := fun wz gz gt cz ct t k13 k14 k15 oz ot => by
  obtain ⟨n1, n2, n3, n4, n5⟩ := hM.n5; obtain ⟨m1, m2, m3, m4, m5, m6, m7, m8, m9, m10⟩ := hM.nn; obtain ⟨p1, p2, p3, p4, p5⟩ := hM.g15; have l5 := hM.hC.box.lt; have l11 := hM.k11.lt; have l12 := hM.k12.lt
  have fr : ∀ {v : Value} {n : Nat} {xs : List Value}, K.ownsRow w0.heap.size 65 4 v n xs -> wz.ownsRow w0.heap.size 65 4 v n xs := fun ho => own_turn ho t (fun g hg e => by
   obtain ⟨-, cs, hk⟩ := own_block ho hg; have := hk.lt; rcases e with e | e | e | e
   ·exact blk_ne hk hM.k13 (by decide) e
   ·exact blk_ne hk hM.k14 (by decide) e
   ·exact blk_ne hk hM.k15 (by decide) e
   ·omega)
  exact mr5 (gx := gx) (gy := gy) (cx := cx) (cy := cy) (w_ := w_) (gz := gz) (gt := gt) (cz := cz) (ct := ct) (l_ := l_) (o_ := o_) ⟨hM.hC.turned t HS.out (by omega), hM.k11.turn t (by omega), hM.k12.turn t (by omega), k13, k14, k15, fr hM.ox, fr hM.oy, oz, ot, hM.nxy, p5, n5, m4, m7, m9, m10⟩ hwh
 have HN5 : Hid (¬ (b5 = b13 ∨ b5 = b14 ∨ b5 = b15 ∨ K.heap.size <= b5)) := by have := hM.n5; have := hM.hC.box.lt; show ¬ _; omega
 have HN7 : Hid (¬ (b7 = b13 ∨ b7 = b14 ∨ b7 = b15 ∨ K.heap.size <= b7)) := by have := blk_ne hM.k7 hM.k13 (by decide); have := blk_ne hM.k7 hM.k14 (by decide); have := blk_ne hM.k7 hM.k15 (by decide); have := hM.k7.lt; show ¬ _; omega
 have HN8 : Hid (¬ (b8 = b13 ∨ b8 = b14 ∨ b8 = b15 ∨ K.heap.size <= b8)) := by have := blk_ne hM.k8 hM.k13 (by decide); have := blk_ne hM.k8 hM.k14 (by decide); have := blk_ne hM.k8 hM.k15 (by decide); have := hM.k8.lt; show ¬ _; omega
 have HNN : Hid (b13 ≠ b14 ∧ b13 ≠ b15 ∧ b14 ≠ b15) := by obtain ⟨m1, m2, m3, m4, m5, m6, m7, m8, m9, m10⟩ := hM.nn; exact ⟨m8, m9, m10⟩
 have HLT : Hid (b13 < K.heap.size ∧ b14 < K.heap.size ∧ b15 < K.heap.size) := ⟨hM.k13.lt, hM.k14.lt, hM.k15.lt⟩; have HP := hd9 hM.hC.hP; have HBW := hd9 hM.hC.bw; have HET : Hid (c.lt.length = tn) := hM.hC.hP.etn; have HEL : Hid (c.riv.lk.length = ll) := hM.hC.hP.riv.ell; have HC := hd9 hM.hC; have H7 := hd9 hM.k7; have H8 := hd9 hM.k8; have HK13 := hd9 hM.k13; have HK14 := hd9 hM.k14; have HK15 := hd9 hM.k15; obtain ⟨I, hi, hz0, hz1, hz2⟩ := info_parts Tryz.infoW68; have HI := hd9 hi; have HI0 := hd9 hz0; have HI1 := hd9 hz1; have HI2 := hd9 hz2; obtain ⟨J, hjj, hy0, hy1, hy2⟩ := info_parts Tryz.infoW61; have HJ := hd9 hjj; have HJ0 := hd9 hy0; have HJ1 := hd9 hy1; have HJ2 := hd9 hy2; clear hM hwh hi hz0 hz1 hz2 hjj hy0 hy1 hy2
 conv => arg 2; whnf
 conv => arg 2; arg 2; change mrK 5
 go_upto_region 5 with (fail)
 rename ∀ a w, Code.wp Tryz.prog (mrK 5) _ a w -> _ => hKU
 have HKU := hd9 hKU; clear hKU
 refine HavG.wp_region_tabQ (R := (TP (ι := Empty) (fun b => b = b13 ∨ b = b14 ∨ b = b15 ∨ K.heap.size <= b) (fun i _ => i.elim) (fun i => i.elim))) (fun i V wx => r5T b5 b13 b14 b15 fl fc ll lc wn wc tn tc fa la wa ta c l_ o_ i V wx) (fun i wx => r5S b13 b14 b15 fl fc ll lc wn wc tn tc fa la wa ta c i wx) (J5 K.heap.size ll tn c l_ o_) (fun _ _ => False) [] [some 73, some 74, some 75, some 76, some 77, some 78, some 79, some 80, some 81, some 82, some 83, some 84, some 85, some 86, some 87, some 88, none, some 89, some 90, none, some 91, none] (by kernel_rfl) (by kernel_rfl) (by rfl) (fun i _ => r5S_grow (r5S_zero HK13.out HK14.out HK15.out i) (Below.drew (Below.refl _ _))) ⟨Ch.start (by simp) (by simp) (by simp), Ch.start (by simp) (by simp) (by simp), fun h _ => absurd (by simp) h, fun h _ => absurd (by simp) h⟩ (fun _ _ h => h.elim) (fun _ _ _ _ h => h.elim) (fun h => h.1.size) ?_ (fun i hi => by cases hi) ?_ ?_
 ·intro i hi V V' w h hV
  match i, hi, h, hV with
  | 0, _, h, hV => (obtain ⟨g, e⟩ := h; exact ⟨g, (hV 0 (.inl rfl)).symm.trans e⟩)
  | 1, _, h, hV => exact (hV _ (.inl rfl)).symm.trans h
  | 2, _, h, hV => exact (hV _ (.inl rfl)).symm.trans h
  | 3, _, h, hV => (obtain ⟨g, cp, e⟩ := h; exact ⟨g, cp, (hV 3 (.inl rfl)).symm.trans e⟩)
  | 4, _, h, hV => exact (hV _ (.inl rfl)).symm.trans h
  | 5, _, h, hV => (obtain ⟨g, e⟩ := h; exact ⟨g, (hV 5 (.inl rfl)).symm.trans e⟩)
  | 6, _, h, hV => (obtain ⟨g, cp, e⟩ := h; exact ⟨g, cp, (hV 6 (.inl rfl)).symm.trans e⟩)
  | 7, _, h, hV => (obtain ⟨g, e⟩ := h; exact ⟨g, (hV 7 (.inl rfl)).symm.trans e⟩)
  | 8, _, h, hV => exact (hV _ (.inl rfl)).symm.trans h
  | 9, _, h, hV => exact (hV _ (.inl rfl)).symm.trans h
  | 10, _, h, hV => exact (hV _ (.inl rfl)).symm.trans h
  | 11, _, h, hV => (obtain ⟨g, cp, e⟩ := h; exact ⟨g, cp, (hV 11 (.inl rfl)).symm.trans e⟩)
  | 12, _, h, hV => exact (hV _ (.inl rfl)).symm.trans h
  | 13, _, h, hV => (obtain ⟨g, e⟩ := h; exact ⟨g, (hV 13 (.inl rfl)).symm.trans e⟩)
  | 14, _, h, hV => (obtain ⟨g, cp, e⟩ := h; exact ⟨g, cp, (hV 14 (.inl rfl)).symm.trans e⟩)
  | 15, _, h, hV => exact (hV _ (.inl rfl)).symm.trans h
  | 16, _, h, hV => (obtain ⟨g, cp, e, h⟩ := h; exact ⟨g, cp, (hV 6 (.inr (by kernel_rfl))).symm.trans e, h⟩)
  | 17, _, h, hV => exact (hV _ (.inl rfl)).symm.trans h
  | 18, _, h, hV => exact (hV _ (.inl rfl)).symm.trans h
  | 19, _, h, hV => (obtain ⟨g, cp, e, h⟩ := h; exact ⟨g, cp, (hV 14 (.inr (by kernel_rfl))).symm.trans e, h⟩)
  | 20, _, h, hV => exact (hV _ (.inl rfl)).symm.trans h
  | 21, _, h, hV => exact h
  | j + 22, hj, _, _ => exact absurd hj (by simp)
 ·intro i hi oo a' w' ho hag hg hd hap hps hsl rem him hnd hdep hdp hj
  match i, hi, ho, hd, hap, hps, hsl, him, hdep, hdp with
  | 0, _, ho, hd, hap, hps, hsl, him, hdep, hdp =>
   (simp only [qD9, qF9, sI9] at ho; subst ho)
   have HB : Below w'.heap.size w' (w'.alloc (.cells #[] 68)) := (Below.refl _ _).alloc (Nat.le_refl _) _; have hso : 73 < a'.tmps.size := by rw [hag.2.1]; simp
   refine HavG.tabY_val rfl (by simp) ⟨.slice (some ⟨w'.heap.size, 0, none⟩) 0 0, w'.alloc (.cells #[] 68), ?_, ⟨⟨Turn.of_below HB, fun i => i.elim⟩, hj.sa (by decide) (by decide) HB (Ch.zero (Classical.byContradiction fun hn => Bool.false_ne_true ((hdp 3 (by decide) hn).symm.trans (by kernel_rfl))) (Classical.byContradiction fun hn => Bool.false_ne_true ((hdp 6 (by decide) hn).symm.trans (by kernel_rfl))) hnd (by decide) (by decide) hso (own_base (ownsRow_empty rfl 68 5) hg.1.size))⟩, fun j V _ _ _ _ h => r5_grow h HB, fun j _ _ _ h => r5S_grow h HB, fun V _ hv => ⟨_, hv⟩, fun h => by simp at h⟩
   go_simp
  | 1, _, ho, hd, hap, hps, hsl, him, hdep, hdp =>
   (simp only [qD9, qE9, qF9, sI9] at ho; subst ho)
   have s5 : a'.tmps[5]?.getD undef = (.pointer (some ⟨b5, 0, none⟩)) := by rw [<- gD9]; exact hag.slot 5 (by kernel_rfl)
   have r5 : a'.tmps.getD 5 undef = (.pointer (some ⟨b5, 0, none⟩)) := hag.slot 5 (by kernel_rfl)
   refine HavG.tabY_val rfl (by simp) ⟨.pointer (some ⟨b5, 9, none⟩), w', ?_, ⟨HavG.Rel.refl _ _, hj.below (by decide) (by decide) (Below.refl _ _)⟩, fun _ _ _ _ _ _ h => h, fun _ _ _ _ h => h, fun V _ hv => hv, fun h => by simp at h⟩
   go_simp
   try rfl
  | 2, _, ho, hd, hap, hps, hsl, him, hdep, hdp =>
   (simp only [qD9, qE9, qF9, sI9] at ho; subst ho)
   have d74 : a'.tmps.getD 74 undef = (.pointer (some ⟨b5, 9, none⟩)) := hd 1 (by kernel_rfl) (by decide)
   have c74 : a'.tmps[74]?.getD undef = (.pointer (some ⟨b5, 9, none⟩)) := by rw [<- gD9]; exact d74
   have hk := HC.out.box.turn hg.1 HN5.out; obtain ⟨q0, q1, q2, q3, q4, q5, q6, q7, q8, q9, ql⟩ := cx31 hk; clear hk
   refine HavG.tabY_val rfl (by simp) ⟨.slice ta tn tc, w', ?_, ⟨HavG.Rel.refl _ _, hj.below (by decide) (by decide) (Below.refl _ _)⟩, fun _ _ _ _ _ _ h => h, fun _ _ _ _ h => h, fun V _ hv => hv, fun h => by simp at h⟩
   go_simp
   try rfl
  | 3, _, ho, hd, hap, hps, hsl, him, hdep, hdp =>
   (simp only [qD9, qE9, qF9, sI9] at ho; subst ho)
   obtain ⟨g, e3⟩ : ∃ g, HavG.slot a' 73 = .slice (some ⟨g, 0, none⟩) 0 0 := hd 0 (by kernel_rfl) (by decide)
   have e4 : HavG.slot a' 75 = .slice ta tn tc := hd 2 (by kernel_rfl) (by decide)
   have h3 := hj.oa.at0 (fun hm => Bool.false_ne_true ((hdep 0 hm).symm.trans (by kernel_rfl))) him (Classical.byContradiction fun hn => Bool.false_ne_true ((hdp 6 (by decide) hn).symm.trans (by kernel_rfl)))
   rw [e3] at h3; have hso : 76 < a'.tmps.size := by rw [hag.2.1]; simp
   obtain ⟨w2, g', c', hrun, -, hown, hb⟩ := append_copy2 (P := Tryz.prog) (f := ltI) (n := tn) (c := tc) (A := ta) (l := c.lt) 29 29 68 I _ 5 40 Tryz.underlying29 HI.out HI0.out HI1.out HI2.out rfl (by decide) ltI_len HET.out (HP.out.hlt.below (HBW.out.trans (hg.1.below HBW.out.size HS.out))) (by omega) (by omega) hg.1.size h3
   exact HavG.tabY_val rfl (by simp) ⟨_, w2, append_oper rfl e3 e4 hrun, ⟨⟨Turn.of_below hb, fun i => i.elim⟩, hj.sa (by decide) (by decide) hb (Ch.one (Classical.byContradiction fun hn => Bool.false_ne_true ((hdp 6 (by decide) hn).symm.trans (by kernel_rfl))) hnd (by decide) hso hown)⟩, fun j V _ _ _ _ h => r5_grow h hb, fun j _ _ _ h => r5S_grow h hb, fun V _ hv => ⟨_, _, hv⟩, fun h => by simp at h⟩
  | 4, _, ho, hd, hap, hps, hsl, him, hdep, hdp =>
   (simp only [qD9, qE9, qF9, sI9] at ho; subst ho)
   have s7 : a'.tmps[7]?.getD undef = (.pointer (some ⟨b7, 0, none⟩)) := by rw [<- gD9]; exact hag.slot 7 (by kernel_rfl)
   have r7 : a'.tmps.getD 7 undef = (.pointer (some ⟨b7, 0, none⟩)) := hag.slot 7 (by kernel_rfl)
   have hk := H7.out.turn hg.1 HN7.out; have z0 := hk.cell 0; have z1 := hk.cell 1; have z2 := hk.cell 2; have z3 := hk.cell 3; have z4 := hk.cell 4; have zl := hk.lt; simp at z0 z1 z2 z3 z4; clear hk
   refine HavG.tabY_val rfl (by simp) ⟨.agg #[.int .i64 l_.from_, .int .i64 l_.bales, .int .i64 l_.price, .int .i64 l_.until_, .int .i64 l_.less], w', ?_, ⟨HavG.Rel.refl _ _, hj.below (by decide) (by decide) (Below.refl _ _)⟩, fun _ _ _ _ _ _ h => h, fun _ _ _ _ h => h, fun V _ hv => hv, fun h => by simp at h⟩
   go_simp
   try rfl
  | 5, _, ho, hd, hap, hps, hsl, him, hdep, hdp =>
   (simp only [qD9, qE9, qF9, sI9] at ho; subst ho)
   have d77 : a'.tmps.getD 77 undef = .agg #[.int .i64 l_.from_, .int .i64 l_.bales, .int .i64 l_.price, .int .i64 l_.until_, .int .i64 l_.less] := hd 4 (by kernel_rfl) (by decide)
   have c77 : a'.tmps[77]?.getD undef = .agg #[.int .i64 l_.from_, .int .i64 l_.bales, .int .i64 l_.price, .int .i64 l_.until_, .int .i64 l_.less] := by rw [<- gD9]; exact d77
   have HB : Below w'.heap.size w' (w'.alloc (.cells #[.int .i64 l_.from_, .int .i64 l_.bales, .int .i64 l_.price, .int .i64 l_.until_, .int .i64 l_.less] 68)) := (Below.refl _ _).alloc (Nat.le_refl _) _; have hso : 78 < a'.tmps.size := by rw [hag.2.1]; simp
   refine HavG.tabY_val rfl (by simp) ⟨.slice (some ⟨w'.heap.size, 0, none⟩) 1 1, w'.alloc (.cells #[.int .i64 l_.from_, .int .i64 l_.bales, .int .i64 l_.price, .int .i64 l_.until_, .int .i64 l_.less] 68), ?_, ⟨⟨Turn.of_below HB, fun i => i.elim⟩, ⟨hj.oa.skip (by decide) (by decide) (by decide) (by decide) (by decide) (by decide) (fun _ _ _ ho => own_below ho HB), hj.ob.skip (by decide) (by decide) (by decide) (by decide) (by decide) (by decide) (fun _ _ _ ho => own_below ho HB), One.new hso (Blk.new w' 68 _), hj.c13.skip (by decide) (by decide) (fun _ _ hk => hk.below HB hk.lt)⟩⟩, fun j V _ _ _ _ h => r5_grow h HB, fun j _ _ _ h => r5S_grow h HB, fun V _ hv => ⟨_, hv⟩, fun h => by simp at h⟩
   go_simp
   try rfl
  | 6, _, ho, hd, hap, hps, hsl, him, hdep, hdp =>
   (simp only [qD9, qE9, qF9, sI9] at ho; subst ho)
   obtain ⟨g, e5, hk5⟩ := hj.c5 (fun hm => Bool.false_ne_true ((hdep 5 hm).symm.trans (by kernel_rfl))) him
   obtain ⟨g3, c3, e3⟩ : ∃ g cp, HavG.slot a' 76 = .slice (some ⟨g, 0, none⟩) tn cp := hd 3 (by kernel_rfl) (by decide)
   have h3 := (hj.oa.at1 (fun hm => Bool.false_ne_true ((hdep 3 hm).symm.trans (by kernel_rfl))) him).1
   rw [e3] at h3; have hso : 79 < a'.tmps.size := by rw [hag.2.1]; simp
   obtain ⟨g2, cp, w2, hrun, hown, ht, -⟩ := append_at (P := Tryz.prog) K.heap.size 29 29 68 I _ 5 40 Tryz.underlying29 HI.out HI0.out HI1.out HI2.out rfl (by decide) _ tn _ h3 ⟨g, 0, none⟩ 1 [Value.int .i64 l_.from_, .int .i64 l_.bales, .int .i64 l_.price, .int .i64 l_.until_, .int .i64 l_.less] rfl (news_block hk5) (by simp [Value.oneCell']) (by omega) (by omega) hg.1.size
   have hown' : w2.ownsRow K.heap.size 68 5 (.slice (some ⟨g2, 0, none⟩) (tn + 1) cp) (tn + 1) ((c.lt ++ [l_]).flatMap ltI) := by rw [List.flatMap_append]; exact hown
   have hge : ∀ b, (Value.slice (some ⟨g3, 0, none⟩) tn c3).ownBlock = some b -> K.heap.size <= b ∧ ∃ cs, Blk w' b 68 cs := fun b e => own_block h3 e
   exact HavG.tabY_val rfl (by simp) ⟨_, w2, append_oper rfl e3 e5 hrun, ⟨⟨ht.mono (fun b e => .inr (.inr (.inr (hge b e).1))), fun i => i.elim⟩, hj.la hnd ht (fun e g cs hk hne hb => by obtain ⟨-, cs', hk'⟩ := hge g hb; exact blk_ne hk hk' hne rfl) (Ch.two hnd hso hown')⟩, fun j V _ _ _ _ h => r5_turn h ht (fun _ e => by have := (hge _ e).1; have := HLT.out; omega) (fun _ e => by have := (hge _ e).1; have := HLT.out; omega) (fun _ e => by have := (hge _ e).1; have := HLT.out; omega), fun j _ _ _ h => r5S_turn h ht (fun _ e => by have := (hge _ e).1; have := HLT.out; omega) (fun _ e => by have := (hge _ e).1; have := HLT.out; omega) (fun _ e => by have := (hge _ e).1; have := HLT.out; omega), fun V _ hv => ⟨_, _, hv⟩, fun h => by simp at h⟩
  | 7, _, ho, hd, hap, hps, hsl, him, hdep, hdp =>
   (simp only [qD9, qE9, qF9, sI9] at ho; subst ho)
   have HB : Below w'.heap.size w' (w'.alloc (.cells #[] 61)) := (Below.refl _ _).alloc (Nat.le_refl _) _; have hso : 80 < a'.tmps.size := by rw [hag.2.1]; simp
   refine HavG.tabY_val rfl (by simp) ⟨.slice (some ⟨w'.heap.size, 0, none⟩) 0 0, w'.alloc (.cells #[] 61), ?_, ⟨⟨Turn.of_below HB, fun i => i.elim⟩, hj.sb (by decide) (by decide) HB (Ch.zero (Classical.byContradiction fun hn => Bool.false_ne_true ((hdp 11 (by decide) hn).symm.trans (by kernel_rfl))) (Classical.byContradiction fun hn => Bool.false_ne_true ((hdp 14 (by decide) hn).symm.trans (by kernel_rfl))) hnd (by decide) (by decide) hso (own_base (ownsRow_empty rfl 61 3) hg.1.size))⟩, fun j V _ _ _ _ h => r5_grow h HB, fun j _ _ _ h => r5S_grow h HB, fun V _ hv => ⟨_, hv⟩, fun h => by simp at h⟩
   go_simp
  | 8, _, ho, hd, hap, hps, hsl, him, hdep, hdp =>
   (simp only [qD9, qE9, qF9, sI9] at ho; subst ho)
   have s5 : a'.tmps[5]?.getD undef = (.pointer (some ⟨b5, 0, none⟩)) := by rw [<- gD9]; exact hag.slot 5 (by kernel_rfl)
   have r5 : a'.tmps.getD 5 undef = (.pointer (some ⟨b5, 0, none⟩)) := hag.slot 5 (by kernel_rfl)
   refine HavG.tabY_val rfl (by simp) ⟨.pointer (some ⟨b5, 0, none⟩), w', ?_, ⟨HavG.Rel.refl _ _, hj.below (by decide) (by decide) (Below.refl _ _)⟩, fun _ _ _ _ _ _ h => h, fun _ _ _ _ h => h, fun V _ hv => hv, fun h => by simp at h⟩
   go_simp
   try rfl
  | 9, _, ho, hd, hap, hps, hsl, him, hdep, hdp =>
   (simp only [qD9, qE9, qF9, sI9] at ho; subst ho)
   have d81 : a'.tmps.getD 81 undef = (.pointer (some ⟨b5, 0, none⟩)) := hd 8 (by kernel_rfl) (by decide)
   have c81 : a'.tmps[81]?.getD undef = (.pointer (some ⟨b5, 0, none⟩)) := by rw [<- gD9]; exact d81
   refine HavG.tabY_val rfl (by simp) ⟨.pointer (some ⟨b5, 6, none⟩), w', ?_, ⟨HavG.Rel.refl _ _, hj.below (by decide) (by decide) (Below.refl _ _)⟩, fun _ _ _ _ _ _ h => h, fun _ _ _ _ h => h, fun V _ hv => hv, fun h => by simp at h⟩
   go_simp
   try rfl
  | 10, _, ho, hd, hap, hps, hsl, him, hdep, hdp =>
   (simp only [qD9, qE9, qF9, sI9] at ho; subst ho)
   have d82 : a'.tmps.getD 82 undef = (.pointer (some ⟨b5, 6, none⟩)) := hd 9 (by kernel_rfl) (by decide)
   have c82 : a'.tmps[82]?.getD undef = (.pointer (some ⟨b5, 6, none⟩)) := by rw [<- gD9]; exact d82
   have hk := HC.out.box.turn hg.1 HN5.out; obtain ⟨q0, q1, q2, q3, q4, q5, q6, q7, q8, q9, ql⟩ := cx31 hk; clear hk
   refine HavG.tabY_val rfl (by simp) ⟨.slice la ll lc, w', ?_, ⟨HavG.Rel.refl _ _, hj.below (by decide) (by decide) (Below.refl _ _)⟩, fun _ _ _ _ _ _ h => h, fun _ _ _ _ h => h, fun V _ hv => hv, fun h => by simp at h⟩
   go_simp
   try rfl
  | 11, _, ho, hd, hap, hps, hsl, him, hdep, hdp =>
   (simp only [qD9, qE9, qF9, sI9] at ho; subst ho)
   obtain ⟨g, e3⟩ : ∃ g, HavG.slot a' 80 = .slice (some ⟨g, 0, none⟩) 0 0 := hd 7 (by kernel_rfl) (by decide)
   have e4 : HavG.slot a' 83 = .slice la ll lc := hd 10 (by kernel_rfl) (by decide)
   have h3 := hj.ob.at0 (fun hm => Bool.false_ne_true ((hdep 7 hm).symm.trans (by kernel_rfl))) him (Classical.byContradiction fun hn => Bool.false_ne_true ((hdp 14 (by decide) hn).symm.trans (by kernel_rfl)))
   rw [e3] at h3; have hso : 84 < a'.tmps.size := by rw [hag.2.1]; simp
   obtain ⟨w2, g', c', hrun, -, hown, hb⟩ := append_copy2 (P := Tryz.prog) (f := lkI) (n := ll) (c := lc) (A := la) (l := c.riv.lk) 25 25 61 J _ 3 24 Tryz.underlying25 HJ.out HJ0.out HJ1.out HJ2.out rfl (by decide) lkI_len HEL.out (HP.out.riv.hlk.below (HBW.out.trans (hg.1.below HBW.out.size HS.out))) (by omega) (by omega) hg.1.size h3
   exact HavG.tabY_val rfl (by simp) ⟨_, w2, append_oper rfl e3 e4 hrun, ⟨⟨Turn.of_below hb, fun i => i.elim⟩, hj.sb (by decide) (by decide) hb (Ch.one (Classical.byContradiction fun hn => Bool.false_ne_true ((hdp 14 (by decide) hn).symm.trans (by kernel_rfl))) hnd (by decide) hso hown)⟩, fun j V _ _ _ _ h => r5_grow h hb, fun j _ _ _ h => r5S_grow h hb, fun V _ hv => ⟨_, _, hv⟩, fun h => by simp at h⟩
  | 12, _, ho, hd, hap, hps, hsl, him, hdep, hdp =>
   (simp only [qD9, qE9, qF9, sI9] at ho; subst ho)
   have s8 : a'.tmps[8]?.getD undef = (.pointer (some ⟨b8, 0, none⟩)) := by rw [<- gD9]; exact hag.slot 8 (by kernel_rfl)
   have r8 : a'.tmps.getD 8 undef = (.pointer (some ⟨b8, 0, none⟩)) := hag.slot 8 (by kernel_rfl)
   have hk := H8.out.turn hg.1 HN8.out; have z0 := hk.cell 0; have z1 := hk.cell 1; have z2 := hk.cell 2; have zl := hk.lt; simp at z0 z1 z2; clear hk
   refine HavG.tabY_val rfl (by simp) ⟨.agg #[.int .i64 o_.day, .int .i64 o_.dep.lo, .int .i64 o_.dep.hi], w', ?_, ⟨HavG.Rel.refl _ _, hj.below (by decide) (by decide) (Below.refl _ _)⟩, fun _ _ _ _ _ _ h => h, fun _ _ _ _ h => h, fun V _ hv => hv, fun h => by simp at h⟩
   go_simp
   try rfl
  | 13, _, ho, hd, hap, hps, hsl, him, hdep, hdp =>
   (simp only [qD9, qE9, qF9, sI9] at ho; subst ho)
   have d85 : a'.tmps.getD 85 undef = .agg #[.int .i64 o_.day, .int .i64 o_.dep.lo, .int .i64 o_.dep.hi] := hd 12 (by kernel_rfl) (by decide)
   have c85 : a'.tmps[85]?.getD undef = .agg #[.int .i64 o_.day, .int .i64 o_.dep.lo, .int .i64 o_.dep.hi] := by rw [<- gD9]; exact d85
   have HB : Below w'.heap.size w' (w'.alloc (.cells #[.int .i64 o_.day, .int .i64 o_.dep.lo, .int .i64 o_.dep.hi] 61)) := (Below.refl _ _).alloc (Nat.le_refl _) _; have hso : 86 < a'.tmps.size := by rw [hag.2.1]; simp
   refine HavG.tabY_val rfl (by simp) ⟨.slice (some ⟨w'.heap.size, 0, none⟩) 1 1, w'.alloc (.cells #[.int .i64 o_.day, .int .i64 o_.dep.lo, .int .i64 o_.dep.hi] 61), ?_, ⟨⟨Turn.of_below HB, fun i => i.elim⟩, ⟨hj.oa.skip (by decide) (by decide) (by decide) (by decide) (by decide) (by decide) (fun _ _ _ ho => own_below ho HB), hj.ob.skip (by decide) (by decide) (by decide) (by decide) (by decide) (by decide) (fun _ _ _ ho => own_below ho HB), hj.c5.skip (by decide) (by decide) (fun _ _ hk => hk.below HB hk.lt), One.new hso (Blk.new w' 61 _)⟩⟩, fun j V _ _ _ _ h => r5_grow h HB, fun j _ _ _ h => r5S_grow h HB, fun V _ hv => ⟨_, hv⟩, fun h => by simp at h⟩
   go_simp
   try rfl
  | 14, _, ho, hd, hap, hps, hsl, him, hdep, hdp =>
   (simp only [qD9, qE9, qF9, sI9] at ho; subst ho)
   obtain ⟨g, e5, hk5⟩ := hj.c13 (fun hm => Bool.false_ne_true ((hdep 13 hm).symm.trans (by kernel_rfl))) him
   obtain ⟨g3, c3, e3⟩ : ∃ g cp, HavG.slot a' 84 = .slice (some ⟨g, 0, none⟩) ll cp := hd 11 (by kernel_rfl) (by decide)
   have h3 := (hj.ob.at1 (fun hm => Bool.false_ne_true ((hdep 11 hm).symm.trans (by kernel_rfl))) him).1
   rw [e3] at h3; have hso : 87 < a'.tmps.size := by rw [hag.2.1]; simp
   obtain ⟨g2, cp, w2, hrun, hown, ht, -⟩ := append_at (P := Tryz.prog) K.heap.size 25 25 61 J _ 3 24 Tryz.underlying25 HJ.out HJ0.out HJ1.out HJ2.out rfl (by decide) _ ll _ h3 ⟨g, 0, none⟩ 1 [Value.int .i64 o_.day, .int .i64 o_.dep.lo, .int .i64 o_.dep.hi] rfl (news_block hk5) (by simp [Value.oneCell']) (by omega) (by omega) hg.1.size
   have hown' : w2.ownsRow K.heap.size 61 3 (.slice (some ⟨g2, 0, none⟩) (ll + 1) cp) (ll + 1) ((c.riv.lk ++ [o_]).flatMap lkI) := by rw [List.flatMap_append]; exact hown
   have hge : ∀ b, (Value.slice (some ⟨g3, 0, none⟩) ll c3).ownBlock = some b -> K.heap.size <= b ∧ ∃ cs, Blk w' b 61 cs := fun b e => own_block h3 e
   exact HavG.tabY_val rfl (by simp) ⟨_, w2, append_oper rfl e3 e5 hrun, ⟨⟨ht.mono (fun b e => .inr (.inr (.inr (hge b e).1))), fun i => i.elim⟩, hj.lb hnd ht (fun e g cs hk hne hb => by obtain ⟨-, cs', hk'⟩ := hge g hb; exact blk_ne hk hk' hne rfl) (Ch.two hnd hso hown')⟩, fun j V _ _ _ _ h => r5_turn h ht (fun _ e => by have := (hge _ e).1; have := HLT.out; omega) (fun _ e => by have := (hge _ e).1; have := HLT.out; omega) (fun _ e => by have := (hge _ e).1; have := HLT.out; omega), fun j _ _ _ h => r5S_turn h ht (fun _ e => by have := (hge _ e).1; have := HLT.out; omega) (fun _ e => by have := (hge _ e).1; have := HLT.out; omega) (fun _ e => by have := (hge _ e).1; have := HLT.out; omega), fun V _ hv => ⟨_, _, hv⟩, fun h => by simp at h⟩
  | 15, _, ho, hd, hap, hps, hsl, him, hdep, hdp =>
   (simp only [qD9, qE9, qF9, sI9] at ho; subst ho)
   have s13 : a'.tmps[13]?.getD undef = (.pointer (some ⟨b13, 0, none⟩)) := by rw [<- gD9]; exact hag.slot 13 (by kernel_rfl)
   have r13 : a'.tmps.getD 13 undef = (.pointer (some ⟨b13, 0, none⟩)) := hag.slot 13 (by kernel_rfl)
   refine HavG.tabY_val rfl (by simp) ⟨.pointer (some ⟨b13, 9, none⟩), w', ?_, ⟨HavG.Rel.refl _ _, hj.below (by decide) (by decide) (Below.refl _ _)⟩, fun _ _ _ _ _ _ h => h, fun _ _ _ _ h => h, fun V _ hv => hv, fun h => by simp at h⟩
   go_simp
   try rfl
  | 16, _, ho, hd, hap, hps, hsl, him, hdep, hdp =>
   (simp only [qD9, qE9, qF9, sI9] at ho; subst ho)
   have d88 : a'.tmps.getD 88 undef = (.pointer (some ⟨b13, 9, none⟩)) := hd 15 (by kernel_rfl) (by decide)
   have c88 : a'.tmps[88]?.getD undef = (.pointer (some ⟨b13, 9, none⟩)) := by rw [<- gD9]; exact d88
   obtain ⟨g2, cp, e6⟩ : ∃ g cp, HavG.slot a' 79 = .slice (some ⟨g, 0, none⟩) (tn + 1) cp := hd 6 (by kernel_rfl) (by decide)
   have d79 : a'.tmps.getD 79 undef = .slice (some ⟨g2, 0, none⟩) (tn + 1) cp := e6; have c79 : a'.tmps[79]?.getD undef = .slice (some ⟨g2, 0, none⟩) (tn + 1) cp := by rw [<- gD9]; exact d79
   have hps' : Blk w' b13 31 (CX9 c fa fl fc la ll lc wa wn wc ta tn tc) := hps; have z8 := hps'.cell 9; have z9 := hps'.frozen 9; have zl := hps'.lt; simp at z8
   have hset : Turn (fun b => b = b13) w' (w'.setCell ⟨b13, 9, none⟩ (.slice (some ⟨g2, 0, none⟩) (tn + 1) cp)) := Turn.set _ _ (fun _ => rfl)
   have hnew : Blk (w'.setCell ⟨b13, 9, none⟩ (.slice (some ⟨g2, 0, none⟩) (tn + 1) cp)) b13 31 #[.int .i64 c.riv.depth.lo, .int .i64 c.riv.depth.hi, .int .i64 c.riv.fall.lo, .int .i64 c.riv.fall.hi, .int .i64 c.riv.days, .slice fa fl fc, .slice la ll lc, .int .i64 c.draws, .slice wa wn wc, .slice (some ⟨g2, 0, none⟩) (tn + 1) cp] := by have h := hps'.set_ 9 (.slice (some ⟨g2, 0, none⟩) (tn + 1) cp); simpa using h
   refine HavG.tabY_store rfl rfl (by simp) ⟨w'.setCell ⟨b13, 9, none⟩ (.slice (some ⟨g2, 0, none⟩) (tn + 1) cp), ?_, ⟨⟨hset.mono (fun b e => .inl e), fun i => i.elim⟩, hj.skip (by decide) (by decide) (fun _ _ _ _ _ hne ho => own_turn ho hset (fun g hg e => by obtain ⟨-, cs, hk⟩ := own_block ho hg; exact blk_ne hk hps' hne e)) (fun _ _ _ hne hk => hk.turn hset (blk_ne hk hps' hne))⟩, fun j V _ _ hji _ h => r5_turn h hset (fun e => absurd e hji) (fun _ e => by have e' : b14 = b13 := e; have := HNN.out; omega) (fun _ e => by have e' : b15 = b13 := e; have := HNN.out; omega), fun j _ hji _ h => r5S_turn h hset (fun e => absurd e hji) (fun _ e => by have e' : b14 = b13 := e; have := HNN.out; omega) (fun _ e => by have e' : b15 = b13 := e; have := HNN.out; omega), fun V hV => ⟨g2, cp, (hV 6 (by decide)).trans e6, hnew⟩⟩
   clear hnew hset hps hps' hj
   go_simp
   try rfl
  | 17, _, ho, hd, hap, hps, hsl, him, hdep, hdp =>
   (simp only [qD9, qE9, qF9, sI9] at ho; subst ho)
   have s14 : a'.tmps[14]?.getD undef = (.pointer (some ⟨b14, 0, none⟩)) := by rw [<- gD9]; exact hag.slot 14 (by kernel_rfl)
   have r14 : a'.tmps.getD 14 undef = (.pointer (some ⟨b14, 0, none⟩)) := hag.slot 14 (by kernel_rfl)
   refine HavG.tabY_val rfl (by simp) ⟨.pointer (some ⟨b14, 0, none⟩), w', ?_, ⟨HavG.Rel.refl _ _, hj.below (by decide) (by decide) (Below.refl _ _)⟩, fun _ _ _ _ _ _ h => h, fun _ _ _ _ h => h, fun V _ hv => hv, fun h => by simp at h⟩
   go_simp
   try rfl
  | 18, _, ho, hd, hap, hps, hsl, him, hdep, hdp =>
   (simp only [qD9, qE9, qF9, sI9] at ho; subst ho)
   have d89 : a'.tmps.getD 89 undef = (.pointer (some ⟨b14, 0, none⟩)) := hd 17 (by kernel_rfl) (by decide)
   have c89 : a'.tmps[89]?.getD undef = (.pointer (some ⟨b14, 0, none⟩)) := by rw [<- gD9]; exact d89
   refine HavG.tabY_val rfl (by simp) ⟨.pointer (some ⟨b14, 6, none⟩), w', ?_, ⟨HavG.Rel.refl _ _, hj.below (by decide) (by decide) (Below.refl _ _)⟩, fun _ _ _ _ _ _ h => h, fun _ _ _ _ h => h, fun V _ hv => hv, fun h => by simp at h⟩
   go_simp
   try rfl
  | 19, _, ho, hd, hap, hps, hsl, him, hdep, hdp =>
   (simp only [qD9, qE9, qF9, sI9] at ho; subst ho)
   have d90 : a'.tmps.getD 90 undef = (.pointer (some ⟨b14, 6, none⟩)) := hd 18 (by kernel_rfl) (by decide)
   have c90 : a'.tmps[90]?.getD undef = (.pointer (some ⟨b14, 6, none⟩)) := by rw [<- gD9]; exact d90
   obtain ⟨g2, cp, e6⟩ : ∃ g cp, HavG.slot a' 87 = .slice (some ⟨g, 0, none⟩) (ll + 1) cp := hd 14 (by kernel_rfl) (by decide)
   have d87 : a'.tmps.getD 87 undef = .slice (some ⟨g2, 0, none⟩) (ll + 1) cp := e6; have c87 : a'.tmps[87]?.getD undef = .slice (some ⟨g2, 0, none⟩) (ll + 1) cp := by rw [<- gD9]; exact d87
   have hps' : Blk w' b14 31 (CX9 c fa fl fc la ll lc wa wn wc ta tn tc) := hps; have z8 := hps'.cell 6; have z9 := hps'.frozen 6; have zl := hps'.lt; simp at z8
   have hset : Turn (fun b => b = b14) w' (w'.setCell ⟨b14, 6, none⟩ (.slice (some ⟨g2, 0, none⟩) (ll + 1) cp)) := Turn.set _ _ (fun _ => rfl)
   have hnew : Blk (w'.setCell ⟨b14, 6, none⟩ (.slice (some ⟨g2, 0, none⟩) (ll + 1) cp)) b14 31 #[.int .i64 c.riv.depth.lo, .int .i64 c.riv.depth.hi, .int .i64 c.riv.fall.lo, .int .i64 c.riv.fall.hi, .int .i64 c.riv.days, .slice fa fl fc, .slice (some ⟨g2, 0, none⟩) (ll + 1) cp, .int .i64 c.draws, .slice wa wn wc, .slice ta tn tc] := by have h := hps'.set_ 6 (.slice (some ⟨g2, 0, none⟩) (ll + 1) cp); simpa using h
   refine HavG.tabY_store rfl rfl (by simp) ⟨w'.setCell ⟨b14, 6, none⟩ (.slice (some ⟨g2, 0, none⟩) (ll + 1) cp), ?_, ⟨⟨hset.mono (fun b e => .inr (.inl e)), fun i => i.elim⟩, hj.skip (by decide) (by decide) (fun _ _ _ _ _ hne ho => own_turn ho hset (fun g hg e => by obtain ⟨-, cs, hk⟩ := own_block ho hg; exact blk_ne hk hps' hne e)) (fun _ _ _ hne hk => hk.turn hset (blk_ne hk hps' hne))⟩, fun j V _ _ hji _ h => r5_turn h hset (fun _ e => by have e' : b13 = b14 := e; have := HNN.out; omega) (fun e => absurd e hji) (fun _ e => by have e' : b15 = b14 := e; have := HNN.out; omega), fun j _ hji _ h => r5S_turn h hset (fun _ e => by have e' : b13 = b14 := e; have := HNN.out; omega) (fun e => absurd e hji) (fun _ e => by have e' : b15 = b14 := e; have := HNN.out; omega), fun V hV => ⟨g2, cp, (hV 14 (by decide)).trans e6, hnew⟩⟩
   clear hnew hset hps hps' hj
   go_simp
   try rfl
  | 20, _, ho, hd, hap, hps, hsl, him, hdep, hdp =>
   (simp only [qD9, qE9, qF9, sI9] at ho; subst ho)
   have s15 : a'.tmps[15]?.getD undef = (.pointer (some ⟨b15, 0, none⟩)) := by rw [<- gD9]; exact hag.slot 15 (by kernel_rfl)
   have r15 : a'.tmps.getD 15 undef = (.pointer (some ⟨b15, 0, none⟩)) := hag.slot 15 (by kernel_rfl)
   refine HavG.tabY_val rfl (by simp) ⟨.pointer (some ⟨b15, 8, none⟩), w', ?_, ⟨HavG.Rel.refl _ _, hj.below (by decide) (by decide) (Below.refl _ _)⟩, fun _ _ _ _ _ _ h => h, fun _ _ _ _ h => h, fun V _ hv => hv, fun h => by simp at h⟩
   go_simp
   try rfl
  | 21, _, ho, hd, hap, hps, hsl, him, hdep, hdp =>
   (simp only [qD9, qE9, qF9, sI9] at ho; subst ho)
   have d91 : a'.tmps.getD 91 undef = (.pointer (some ⟨b15, 8, none⟩)) := hd 20 (by kernel_rfl) (by decide)
   have c91 : a'.tmps[91]?.getD undef = (.pointer (some ⟨b15, 8, none⟩)) := by rw [<- gD9]; exact d91
   have hps' : Blk w' b15 31 (CX9 c fa fl fc la ll lc wa wn wc ta tn tc) := hps; have z8 := hps'.cell 8; have z9 := hps'.frozen 8; have zl := hps'.lt; simp at z8
   have hset : Turn (fun b => b = b15) w' (w'.setCell ⟨b15, 8, none⟩ (.slice none 0 0)) := Turn.set _ _ (fun _ => rfl)
   have hnew : Blk (w'.setCell ⟨b15, 8, none⟩ (.slice none 0 0)) b15 31 #[.int .i64 c.riv.depth.lo, .int .i64 c.riv.depth.hi, .int .i64 c.riv.fall.lo, .int .i64 c.riv.fall.hi, .int .i64 c.riv.days, .slice fa fl fc, .slice la ll lc, .int .i64 c.draws, .slice none 0 0, .slice ta tn tc] := by have h := hps'.set_ 8 (.slice none 0 0); simpa using h
   refine HavG.tabY_store rfl rfl (by simp) ⟨w'.setCell ⟨b15, 8, none⟩ (.slice none 0 0), ?_, ⟨⟨hset.mono (fun b e => .inr (.inr (.inl e))), fun i => i.elim⟩, hj.skip (by decide) (by decide) (fun _ _ _ _ _ hne ho => own_turn ho hset (fun g hg e => by obtain ⟨-, cs, hk⟩ := own_block ho hg; exact blk_ne hk hps' hne e)) (fun _ _ _ hne hk => hk.turn hset (blk_ne hk hps' hne))⟩, fun j V _ _ hji _ h => r5_turn h hset (fun _ e => by have e' : b13 = b15 := e; have := HNN.out; omega) (fun _ e => by have e' : b14 = b15 := e; have := HNN.out; omega) (fun e => absurd e hji), fun j _ hji _ h => r5S_turn h hset (fun _ e => by have e' : b13 = b15 := e; have := HNN.out; omega) (fun _ e => by have e' : b14 = b15 := e; have := HNN.out; omega) (fun e => absurd e hji), fun V hV => hnew⟩
   clear hnew hset hps hps' hj
   go_simp
   try rfl
  | j + 22, hj, _, _, _, _, _, _, _, _ => exact absurd hj (by simp)
 intro f w2 hg hjj hf hap; obtain ⟨gz, cz, ex, kx⟩ : ∃ g cp, f 79 = .slice (some ⟨g, 0, none⟩) (tn + 1) cp ∧ Blk w2 b13 31 #[.int .i64 c.riv.depth.lo, .int .i64 c.riv.depth.hi, .int .i64 c.riv.fall.lo, .int .i64 c.riv.fall.hi, .int .i64 c.riv.days, .slice fa fl fc, .slice la ll lc, .int .i64 c.draws, .slice wa wn wc, .slice (some ⟨g, 0, none⟩) (tn + 1) cp] := hf 16 (by decide)
 obtain ⟨gt, ct, ey, ky⟩ : ∃ g cp, f 87 = .slice (some ⟨g, 0, none⟩) (ll + 1) cp ∧ Blk w2 b14 31 #[.int .i64 c.riv.depth.lo, .int .i64 c.riv.depth.hi, .int .i64 c.riv.fall.lo, .int .i64 c.riv.fall.hi, .int .i64 c.riv.days, .slice fa fl fc, .slice (some ⟨g, 0, none⟩) (ll + 1) cp, .int .i64 c.draws, .slice wa wn wc, .slice ta tn tc] := hf 19 (by decide)
 have k15 : Blk w2 b15 31 #[.int .i64 c.riv.depth.lo, .int .i64 c.riv.depth.hi, .int .i64 c.riv.fall.lo, .int .i64 c.riv.fall.hi, .int .i64 c.riv.days, .slice fa fl fc, .slice la ll lc, .int .i64 c.draws, .slice none 0 0, .slice ta tn tc] := hf 21 (by decide)
 have oa := hjj.oa.end_; have ob := hjj.ob.end_; simp only [List.filterMap, HavG.puts, List.foldl_cons, List.foldl_nil, Act.put, List.setIfInBounds_toArray, List.set_cons_succ, List.set_cons_zero] at oa ob; have oa' : w2.ownsRow K.heap.size 68 5 (f 79) (tn + 1) ((c.lt ++ [l_]).flatMap ltI) := oa; have ob' : w2.ownsRow K.heap.size 61 3 (f 87) (ll + 1) ((c.riv.lk ++ [o_]).flatMap lkI) := ob; rw [ex] at oa'; rw [ey] at ob'; have HFIN := hd9 (HF.out w2 gz gt cz ct hg.1 kx ky k15 (own_base oa' HBW.out.size) (own_base ob' HBW.out.size)); simp only [List.filterMap, HavG.puts, List.foldl_cons, List.foldl_nil, Act.put, List.setIfInBounds_toArray, List.set_cons_succ, List.set_cons_zero]; clear hf hap hjj hg ex kx ey ky k15 oa ob oa' ob'; go_wp2; exact HKU.out _ _ ((HFIN.out).go.go)
theorem mr3 (hM : M3 w0 K b5 b7 b8 b11 b12 b13 b14 b15 fl fc ll lc wn wc tn tc fa la wa ta c l_ o_) (h6 : Blk K b6 65 #[.int .i64 w_.leaves, .int .i64 w_.takes.lo, .int .i64 w_.takes.hi, .int .i64 w_.room]) (h11 : Blk K b11 31 (CX9 c fa fl fc la ll lc wa wn wc ta tn tc)) (h12 : Blk K b12 31 (CX9 c fa fl fc la ll lc wa wn wc ta tn tc)) {which : Nat} (hwh : which <= 255) : WR7b 3 w0 (.int .u8 which) (.pointer (some ⟨b5, 0, none⟩)) (.pointer (some ⟨b6, 0, none⟩)) (.pointer (some ⟨b7, 0, none⟩)) (.pointer (some ⟨b8, 0, none⟩)) (.pointer (some ⟨b11, 0, none⟩)) (.pointer (some ⟨b12, 0, none⟩)) (.pointer (some ⟨b13, 0, none⟩)) (.pointer (some ⟨b14, 0, none⟩)) (.pointer (some ⟨b15, 0, none⟩)) K := by
 unfold WR7b WG
 intros
 have hw3 := hM.hC.w3
 have HS : Hid (∀ b, (b = b11 ∨ b = b12 ∨ K.heap.size <= b) -> w0.heap.size <= b) := fun b e => by have := hM.g15; have := hM.hC.bw.size; omega
 have HF : Hid (∀ (wz : World) (gx gy cx cy : Nat), Turn (fun b => b = b11 ∨ b = b12 ∨ K.heap.size <= b) K wz -> Blk wz b11 31 #[.int .i64 c.riv.depth.lo, .int .i64 c.riv.depth.hi, .int .i64 c.riv.fall.lo, .int .i64 c.riv.fall.hi, .int .i64 c.riv.days, .slice fa fl fc, .slice la ll lc, .int .i64 c.draws, .slice (some ⟨gx, 0, none⟩) (wn + 1) cx, .slice ta tn tc] -> Blk wz b12 31 #[.int .i64 c.riv.depth.lo, .int .i64 c.riv.depth.hi, .int .i64 c.riv.fall.lo, .int .i64 c.riv.fall.hi, .int .i64 c.riv.days, .slice fa fl fc, .slice la ll lc, .int .i64 c.draws, .slice (some ⟨gy, 0, none⟩) wn cy, .slice ta tn tc] -> wz.ownsRow w0.heap.size 65 4 (.slice (some ⟨gx, 0, none⟩) (wn + 1) cx) (wn + 1) ((c.wg ++ [w_]).flatMap wgI) -> wz.ownsRow w0.heap.size 65 4 (.slice (some ⟨gy, 0, none⟩) wn cy) wn (c.wg.flatMap wgI) -> gx ≠ gy -> WR7 4 w0 (.int .u8 which) (.pointer (some ⟨b5, 0, none⟩)) (.pointer (some ⟨b7, 0, none⟩)) (.pointer (some ⟨b8, 0, none⟩)) (.pointer (some ⟨b11, 0, none⟩)) (.pointer (some ⟨b12, 0, none⟩)) (.pointer (some ⟨b13, 0, none⟩)) (.pointer (some ⟨b14, 0, none⟩)) (.pointer (some ⟨b15, 0, none⟩)) wz) := fun wz gx gy cx cy t k11 k12 ox oy nxy => by
  obtain ⟨n1, n2, n3, n4, n5⟩ := hM.n5; obtain ⟨m1, m2, m3, m4, m5, m6, m7, m8, m9, m10⟩ := hM.nn; have l5 := hM.hC.box.lt; have l13 := hM.k13.lt; have l14 := hM.k14.lt; have l15 := hM.k15.lt; have l7 := hM.k7.lt; have l8 := hM.k8.lt; have x7 := blk_ne hM.k7 h11 (by decide)
  have y7 := blk_ne hM.k7 h12 (by decide)
  have x8 := blk_ne hM.k8 h11 (by decide)
  have y8 := blk_ne hM.k8 h12 (by decide)
  exact mr4 (gx := gx) (gy := gy) (cx := cx) (cy := cy) (w_ := w_) ⟨⟨hM.hC.turned t HS.out (by omega), hM.k7.turn t (by omega), hM.k8.turn t (by omega), hM.k13.turn t (by omega), hM.k14.turn t (by omega), hM.k15.turn t (by omega), hM.g15, hM.n5, hM.nn⟩, k11, k12, ox, oy, nxy⟩ hwh
 have HN5 : Hid (¬ (b5 = b11 ∨ b5 = b12 ∨ K.heap.size <= b5)) := by have := hM.n5; have := hM.hC.box.lt; show ¬ _; omega
 have HN6 : Hid (¬ (b6 = b11 ∨ b6 = b12 ∨ K.heap.size <= b6)) := by have := blk_ne h6 h11 (by decide); have := blk_ne h6 h12 (by decide); have := h6.lt; show ¬ _; omega
 have HN12 : Hid (b11 ≠ b12) := hM.nn.1; have HLT : Hid (b11 < K.heap.size ∧ b12 < K.heap.size) := ⟨h11.lt, h12.lt⟩; have HP := hd9 hM.hC.hP; have HBW := hd9 hM.hC.bw; have HEW : Hid (c.wg.length = wn) := hM.hC.hP.ewn; have HC := hd9 hM.hC; have HL := hd9 h6; have HK11 := hd9 h11; have HK12 := hd9 h12; obtain ⟨I, hi, hz0, hz1, hz2⟩ := info_parts Tryz.infoW65; have HI := hd9 hi; have HI0 := hd9 hz0; have HI1 := hd9 hz1; have HI2 := hd9 hz2; clear hM h6 h11 h12 hwh hi hz0 hz1 hz2
 conv => arg 2; whnf
 conv => arg 2; arg 2; change mrK 4
 go_upto_region 4 with (fail)
 rename ∀ a w, Code.wp Tryz.prog (mrK 4) _ a w -> _ => hKU
 have HKU := hd9 hKU; clear hKU
 refine HavG.wp_region_tabQ (R := (TP (ι := Empty) (fun b => b = b11 ∨ b = b12 ∨ K.heap.size <= b) (fun i _ => i.elim) (fun i => i.elim))) (fun i V wx => r4T b5 b11 b12 fl fc ll lc wn wc tn tc fa la wa ta c w_ i V wx) (fun i wx => r4S b11 b12 fl fc ll lc wn wc tn tc fa la wa ta c i wx) (J4 K.heap.size wn c w_) (fun _ _ => False) [] [some 60, some 61, some 62, some 63, some 64, some 65, some 66, some 67, some 68, some 69, some 70, some 71, none, some 72, none] (by kernel_rfl) (by kernel_rfl) (by rfl) (fun i _ => r4S_grow (r4S_zero HK11.out HK12.out i) (Below.drew (Below.refl _ _))) ⟨Ch.start (by simp) (by simp) (by simp), Ch.start (by simp) (by simp) (by simp), fun g e => by have h : (ch 0 3 6 60 63 66 (List.range 15) _).ownBlock = some g := e; simp [ch, Value.ownBlock] at h, fun h _ => absurd (by simp) h⟩ (fun _ _ h => h.elim) (fun _ _ _ _ h => h.elim) (fun h => h.1.size) ?_ (fun i hi => by cases hi) ?_ ?_
 ·intro i hi V V' w h hV
  match i, hi, h, hV with
  | 0, _, h, hV => (obtain ⟨g, e⟩ := h; exact ⟨g, (hV 0 (.inl rfl)).symm.trans e⟩)
  | 1, _, h, hV => exact (hV _ (.inl rfl)).symm.trans h
  | 2, _, h, hV => exact (hV _ (.inl rfl)).symm.trans h
  | 3, _, h, hV => (obtain ⟨g, cp, e⟩ := h; exact ⟨g, cp, (hV 3 (.inl rfl)).symm.trans e⟩)
  | 4, _, h, hV => exact (hV _ (.inl rfl)).symm.trans h
  | 5, _, h, hV => (obtain ⟨g, e⟩ := h; exact ⟨g, (hV 5 (.inl rfl)).symm.trans e⟩)
  | 6, _, h, hV => (obtain ⟨g, cp, e⟩ := h; exact ⟨g, cp, (hV 6 (.inl rfl)).symm.trans e⟩)
  | 7, _, h, hV => (obtain ⟨g, e⟩ := h; exact ⟨g, (hV 7 (.inl rfl)).symm.trans e⟩)
  | 8, _, h, hV => exact (hV _ (.inl rfl)).symm.trans h
  | 9, _, h, hV => exact (hV _ (.inl rfl)).symm.trans h
  | 10, _, h, hV => (obtain ⟨g, cp, e⟩ := h; exact ⟨g, cp, (hV 10 (.inl rfl)).symm.trans e⟩)
  | 11, _, h, hV => exact (hV _ (.inl rfl)).symm.trans h
  | 12, _, h, hV => (obtain ⟨g, cp, e, h⟩ := h; exact ⟨g, cp, (hV 6 (.inr (by kernel_rfl))).symm.trans e, h⟩)
  | 13, _, h, hV => exact (hV _ (.inl rfl)).symm.trans h
  | 14, _, h, hV => (obtain ⟨g, cp, e, h⟩ := h; exact ⟨g, cp, (hV 10 (.inr (by kernel_rfl))).symm.trans e, h⟩)
  | j + 15, hj, _, _ => exact absurd hj (by simp)
 ·intro i hi oo a' w' ho hag hg hd hap hps hsl rem him hnd hdep hdp hj
  match i, hi, ho, hd, hap, hps, hsl, him, hdep, hdp with
  | 0, _, ho, hd, hap, hps, hsl, him, hdep, hdp =>
   (simp only [qD9, qF9, sI9] at ho; subst ho)
   have HB : Below w'.heap.size w' (w'.alloc (.cells #[] 65)) := (Below.refl _ _).alloc (Nat.le_refl _) _; have hso : 60 < a'.tmps.size := by rw [hag.2.1]; simp
   refine HavG.tabY_val rfl (by simp) ⟨.slice (some ⟨w'.heap.size, 0, none⟩) 0 0, w'.alloc (.cells #[] 65), ?_, ⟨⟨Turn.of_below HB, fun i => i.elim⟩, hj.sa (by decide) (by decide) HB (Ch.zero (Classical.byContradiction fun hn => Bool.false_ne_true ((hdp 3 (by decide) hn).symm.trans (by kernel_rfl))) (Classical.byContradiction fun hn => Bool.false_ne_true ((hdp 6 (by decide) hn).symm.trans (by kernel_rfl))) hnd (by decide) (by decide) hso (own_base (ownsRow_empty rfl 65 4) (hg.1.size))) (ch_zero (Classical.byContradiction fun hn => Bool.false_ne_true ((hdp 3 (by decide) hn).symm.trans (by kernel_rfl))) (Classical.byContradiction fun hn => Bool.false_ne_true ((hdp 6 (by decide) hn).symm.trans (by kernel_rfl))) hnd (by decide) (by decide) hso) (.inr (Nat.le_refl _))⟩, fun j V _ _ _ _ h => r4_grow h HB, fun j _ _ _ h => r4S_grow h HB, fun V _ hv => ⟨_, hv⟩, fun h => by simp at h⟩
   go_simp
  | 1, _, ho, hd, hap, hps, hsl, him, hdep, hdp =>
   (simp only [qD9, qE9, qF9, sI9] at ho; subst ho)
   have s5 : a'.tmps[5]?.getD undef = (.pointer (some ⟨b5, 0, none⟩)) := by rw [<- gD9]; exact hag.slot 5 (by kernel_rfl)
   have r5 : a'.tmps.getD 5 undef = (.pointer (some ⟨b5, 0, none⟩)) := hag.slot 5 (by kernel_rfl)
   refine HavG.tabY_val rfl (by simp) ⟨.pointer (some ⟨b5, 8, none⟩), w', ?_, ⟨HavG.Rel.refl _ _, hj.below (by decide) (by decide) (Below.refl _ _)⟩, fun _ _ _ _ _ _ h => h, fun _ _ _ _ h => h, fun V _ hv => hv, fun h => by simp at h⟩
   go_simp
   try rfl
  | 2, _, ho, hd, hap, hps, hsl, him, hdep, hdp =>
   (simp only [qD9, qE9, qF9, sI9] at ho; subst ho)
   have d61 : a'.tmps.getD 61 undef = (.pointer (some ⟨b5, 8, none⟩)) := hd 1 (by kernel_rfl) (by decide)
   have c61 : a'.tmps[61]?.getD undef = (.pointer (some ⟨b5, 8, none⟩)) := by rw [<- gD9]; exact d61
   have hk := HC.out.box.turn hg.1 HN5.out; obtain ⟨q0, q1, q2, q3, q4, q5, q6, q7, q8, q9, ql⟩ := cx31 hk; clear hk
   refine HavG.tabY_val rfl (by simp) ⟨.slice wa wn wc, w', ?_, ⟨HavG.Rel.refl _ _, hj.below (by decide) (by decide) (Below.refl _ _)⟩, fun _ _ _ _ _ _ h => h, fun _ _ _ _ h => h, fun V _ hv => hv, fun h => by simp at h⟩
   go_simp
   try rfl
  | 3, _, ho, hd, hap, hps, hsl, him, hdep, hdp =>
   (simp only [qD9, qE9, qF9, sI9] at ho; subst ho)
   obtain ⟨g, e3⟩ : ∃ g, HavG.slot a' 60 = .slice (some ⟨g, 0, none⟩) 0 0 := hd 0 (by kernel_rfl) (by decide)
   have e4 : HavG.slot a' 62 = .slice wa wn wc := hd 2 (by kernel_rfl) (by decide)
   have m1 : 3 ∈ rem := him
   have h3 := hj.oa.at0 (fun hm => Bool.false_ne_true ((hdep 0 hm).symm.trans (by kernel_rfl))) m1 (Classical.byContradiction fun hn => Bool.false_ne_true ((hdp 6 (by decide) hn).symm.trans (by kernel_rfl)))
   rw [e3] at h3; have hso : 63 < a'.tmps.size := by rw [hag.2.1]; simp
   obtain ⟨w2, g', c', hrun, hgg, hown, hb⟩ := append_copy2 (P := Tryz.prog) (f := wgI) (n := wn) (c := wc) (A := wa) (l := c.wg) 28 28 65 I _ 4 32 Tryz.underlying28 HI.out HI0.out HI1.out HI2.out rfl (by decide) wgI_len HEW.out (HP.out.hwg.below (HBW.out.trans (hg.1.below HBW.out.size HS.out))) (by omega) (by omega) hg.1.size h3
   exact HavG.tabY_val rfl (by simp) ⟨_, w2, append_oper rfl e3 e4 hrun, ⟨⟨Turn.of_below hb, fun i => i.elim⟩, hj.sa (by decide) (by decide) hb (Ch.one (Classical.byContradiction fun hn => Bool.false_ne_true ((hdp 6 (by decide) hn).symm.trans (by kernel_rfl))) hnd (by decide) hso hown) (ch_one (Classical.byContradiction fun hn => Bool.false_ne_true ((hdp 6 (by decide) hn).symm.trans (by kernel_rfl))) hnd (by decide) hso) (hgg.imp (fun e => by rw [e]; unfold ch; rw [if_pos (Classical.byContradiction fun hn => Bool.false_ne_true ((hdp 6 (by decide) hn).symm.trans (by kernel_rfl))), if_pos m1, if_neg (fun hm => Bool.false_ne_true ((hdep 0 hm).symm.trans (by kernel_rfl))), e3]; rfl) id)⟩, fun j V _ _ _ _ h => r4_grow h hb, fun j _ _ _ h => r4S_grow h hb, fun V _ hv => ⟨_, _, hv⟩, fun h => by simp at h⟩
  | 4, _, ho, hd, hap, hps, hsl, him, hdep, hdp =>
   (simp only [qD9, qE9, qF9, sI9] at ho; subst ho)
   have s6 : a'.tmps[6]?.getD undef = (.pointer (some ⟨b6, 0, none⟩)) := by rw [<- gD9]; exact hag.slot 6 (by kernel_rfl)
   have r6 : a'.tmps.getD 6 undef = (.pointer (some ⟨b6, 0, none⟩)) := hag.slot 6 (by kernel_rfl)
   have hk := HL.out.turn hg.1 HN6.out; have z0 := hk.cell 0; have z1 := hk.cell 1; have z2 := hk.cell 2; have z3 := hk.cell 3; have zl := hk.lt; simp at z0 z1 z2 z3; clear hk
   refine HavG.tabY_val rfl (by simp) ⟨.agg #[.int .i64 w_.leaves, .int .i64 w_.takes.lo, .int .i64 w_.takes.hi, .int .i64 w_.room], w', ?_, ⟨HavG.Rel.refl _ _, hj.below (by decide) (by decide) (Below.refl _ _)⟩, fun _ _ _ _ _ _ h => h, fun _ _ _ _ h => h, fun V _ hv => hv, fun h => by simp at h⟩
   go_simp
   try rfl
  | 5, _, ho, hd, hap, hps, hsl, him, hdep, hdp =>
   (simp only [qD9, qE9, qF9, sI9] at ho; subst ho)
   have d64 : a'.tmps.getD 64 undef = .agg #[.int .i64 w_.leaves, .int .i64 w_.takes.lo, .int .i64 w_.takes.hi, .int .i64 w_.room] := hd 4 (by kernel_rfl) (by decide)
   have c64 : a'.tmps[64]?.getD undef = .agg #[.int .i64 w_.leaves, .int .i64 w_.takes.lo, .int .i64 w_.takes.hi, .int .i64 w_.room] := by rw [<- gD9]; exact d64
   have HB : Below w'.heap.size w' (w'.alloc (.cells #[.int .i64 w_.leaves, .int .i64 w_.takes.lo, .int .i64 w_.takes.hi, .int .i64 w_.room] 65)) := (Below.refl _ _).alloc (Nat.le_refl _) _; have hso : 65 < a'.tmps.size := by rw [hag.2.1]; simp
   refine HavG.tabY_val rfl (by simp) ⟨.slice (some ⟨w'.heap.size, 0, none⟩) 1 1, w'.alloc (.cells #[.int .i64 w_.leaves, .int .i64 w_.takes.lo, .int .i64 w_.takes.hi, .int .i64 w_.room] 65), ?_, ⟨⟨Turn.of_below HB, fun i => i.elim⟩, ⟨hj.oa.skip (by decide) (by decide) (by decide) (by decide) (by decide) (by decide) (fun _ _ _ ho => own_below ho HB), hj.ob.skip (by decide) (by decide) (by decide) (by decide) (by decide) (by decide) (fun _ _ _ ho => own_below ho HB), by rw [ch_skip (by decide) (by decide) (by decide) (by decide) (by decide) (by decide), ch_skip (by decide) (by decide) (by decide) (by decide) (by decide) (by decide)]; exact hj.ap, One.new hso (Blk.new w' 65 _)⟩⟩, fun j V _ _ _ _ h => r4_grow h HB, fun j _ _ _ h => r4S_grow h HB, fun V _ hv => ⟨_, hv⟩, fun h => by simp at h⟩
   go_simp
   try rfl
  | 6, _, ho, hd, hap, hps, hsl, him, hdep, hdp =>
   (simp only [qD9, qE9, qF9, sI9] at ho; subst ho)
   obtain ⟨g, e5, hk5⟩ := hj.c5 (fun hm => Bool.false_ne_true ((hdep 5 hm).symm.trans (by kernel_rfl))) him
   obtain ⟨g3, c3, e3⟩ : ∃ g cp, HavG.slot a' 63 = .slice (some ⟨g, 0, none⟩) wn cp := hd 3 (by kernel_rfl) (by decide)
   obtain ⟨h3, e63⟩ := hj.oa.at1 (fun hm => Bool.false_ne_true ((hdep 3 hm).symm.trans (by kernel_rfl))) him
   rw [e3] at h3; have hso : 66 < a'.tmps.size := by rw [hag.2.1]; simp
   obtain ⟨g2, cp, w2, hrun, hown, ht, hgg⟩ := append_at (P := Tryz.prog) K.heap.size 28 28 65 I _ 4 32 Tryz.underlying28 HI.out HI0.out HI1.out HI2.out rfl (by decide) _ wn _ h3 ⟨g, 0, none⟩ 1 [Value.int .i64 w_.leaves, .int .i64 w_.takes.lo, .int .i64 w_.takes.hi, .int .i64 w_.room] rfl (news_block hk5) (by simp [Value.oneCell']) (by omega) (by omega) hg.1.size
   have hown' : w2.ownsRow K.heap.size 65 4 (.slice (some ⟨g2, 0, none⟩) (wn + 1) cp) (wn + 1) ((c.wg ++ [w_]).flatMap wgI) := by rw [List.flatMap_append]; exact hown
   have hge : ∀ b, (Value.slice (some ⟨g3, 0, none⟩) wn c3).ownBlock = some b -> K.heap.size <= b := fun b e => (own_block h3 e).1
   exact HavG.tabY_val rfl (by simp) ⟨_, w2, append_oper rfl e3 e5 hrun, ⟨⟨ht.mono (fun b e => .inr (.inr (hge b e))), fun i => i.elim⟩, hj.last him (fun hm => Bool.false_ne_true ((hdep 3 hm).symm.trans (by kernel_rfl))) hnd hso (by rw [e3]; exact ht) hown' (by rw [e3]; exact hgg)⟩, fun j V _ _ _ _ h => r4_turn h ht (fun b e => by have := hge b e; have := HLT.out; omega), fun j _ _ _ h => r4S_turn h ht (fun b e => by have := hge b e; have := HLT.out; omega), fun V _ hv => ⟨_, _, hv⟩, fun h => by simp at h⟩
  | 7, _, ho, hd, hap, hps, hsl, him, hdep, hdp =>
   (simp only [qD9, qE9, qF9, sI9] at ho; subst ho)
   have HB : Below w'.heap.size w' (w'.alloc (.cells #[] 65)) := (Below.refl _ _).alloc (Nat.le_refl _) _; have hso : 67 < a'.tmps.size := by rw [hag.2.1]; simp
   refine HavG.tabY_val rfl (by simp) ⟨.slice (some ⟨w'.heap.size, 0, none⟩) 0 0, w'.alloc (.cells #[] 65), ?_, ⟨⟨Turn.of_below HB, fun i => i.elim⟩, hj.sb (by decide) (by decide) HB (Ch.zero (Classical.byContradiction fun hn => Bool.false_ne_true ((hdp 10 (by decide) hn).symm.trans (by kernel_rfl))) (Classical.byContradiction fun hn => Bool.false_ne_true ((hdp 10 (by decide) hn).symm.trans (by kernel_rfl))) hnd (by decide) (by decide) hso (own_base (ownsRow_empty rfl 65 4) (hg.1.size))) (ch_zero (Classical.byContradiction fun hn => Bool.false_ne_true ((hdp 10 (by decide) hn).symm.trans (by kernel_rfl))) (Classical.byContradiction fun hn => Bool.false_ne_true ((hdp 10 (by decide) hn).symm.trans (by kernel_rfl))) hnd (by decide) (by decide) hso) (.inr (Nat.le_refl _))⟩, fun j V _ _ _ _ h => r4_grow h HB, fun j _ _ _ h => r4S_grow h HB, fun V _ hv => ⟨_, hv⟩, fun h => by simp at h⟩
   go_simp
  | 8, _, ho, hd, hap, hps, hsl, him, hdep, hdp =>
   (simp only [qD9, qE9, qF9, sI9] at ho; subst ho)
   have s5 : a'.tmps[5]?.getD undef = (.pointer (some ⟨b5, 0, none⟩)) := by rw [<- gD9]; exact hag.slot 5 (by kernel_rfl)
   have r5 : a'.tmps.getD 5 undef = (.pointer (some ⟨b5, 0, none⟩)) := hag.slot 5 (by kernel_rfl)
   refine HavG.tabY_val rfl (by simp) ⟨.pointer (some ⟨b5, 8, none⟩), w', ?_, ⟨HavG.Rel.refl _ _, hj.below (by decide) (by decide) (Below.refl _ _)⟩, fun _ _ _ _ _ _ h => h, fun _ _ _ _ h => h, fun V _ hv => hv, fun h => by simp at h⟩
   go_simp
   try rfl
  | 9, _, ho, hd, hap, hps, hsl, him, hdep, hdp =>
   (simp only [qD9, qE9, qF9, sI9] at ho; subst ho)
   have d68 : a'.tmps.getD 68 undef = (.pointer (some ⟨b5, 8, none⟩)) := hd 8 (by kernel_rfl) (by decide)
   have c68 : a'.tmps[68]?.getD undef = (.pointer (some ⟨b5, 8, none⟩)) := by rw [<- gD9]; exact d68
   have hk := HC.out.box.turn hg.1 HN5.out; obtain ⟨q0, q1, q2, q3, q4, q5, q6, q7, q8, q9, ql⟩ := cx31 hk; clear hk
   refine HavG.tabY_val rfl (by simp) ⟨.slice wa wn wc, w', ?_, ⟨HavG.Rel.refl _ _, hj.below (by decide) (by decide) (Below.refl _ _)⟩, fun _ _ _ _ _ _ h => h, fun _ _ _ _ h => h, fun V _ hv => hv, fun h => by simp at h⟩
   go_simp
   try rfl
  | 10, _, ho, hd, hap, hps, hsl, him, hdep, hdp =>
   (simp only [qD9, qE9, qF9, sI9] at ho; subst ho)
   obtain ⟨g, e3⟩ : ∃ g, HavG.slot a' 67 = .slice (some ⟨g, 0, none⟩) 0 0 := hd 7 (by kernel_rfl) (by decide)
   have e4 : HavG.slot a' 69 = .slice wa wn wc := hd 9 (by kernel_rfl) (by decide)
   have h3 := hj.ob.at0 (fun hm => Bool.false_ne_true ((hdep 7 hm).symm.trans (by kernel_rfl))) him him
   rw [e3] at h3; have hso : 70 < a'.tmps.size := by rw [hag.2.1]; simp
   obtain ⟨w2, g', c', hrun, hgg, hown, hb⟩ := append_copy2 (P := Tryz.prog) (f := wgI) (n := wn) (c := wc) (A := wa) (l := c.wg) 28 28 65 I _ 4 32 Tryz.underlying28 HI.out HI0.out HI1.out HI2.out rfl (by decide) wgI_len HEW.out (HP.out.hwg.below (HBW.out.trans (hg.1.below HBW.out.size HS.out))) (by omega) (by omega) hg.1.size h3
   exact HavG.tabY_val rfl (by simp) ⟨_, w2, append_oper rfl e3 e4 hrun, ⟨⟨Turn.of_below hb, fun i => i.elim⟩, hj.sb (by decide) (by decide) hb (Ch.two hnd hso hown) (ch_two hnd hso) (hgg.imp (fun e => by rw [e]; unfold ch; rw [if_pos him, if_pos him, if_neg (fun hm => Bool.false_ne_true ((hdep 7 hm).symm.trans (by kernel_rfl))), e3]; rfl) id)⟩, fun j V _ _ _ _ h => r4_grow h hb, fun j _ _ _ h => r4S_grow h hb, fun V _ hv => ⟨_, _, hv⟩, fun h => by simp at h⟩
  | 11, _, ho, hd, hap, hps, hsl, him, hdep, hdp =>
   (simp only [qD9, qE9, qF9, sI9] at ho; subst ho)
   have s11 : a'.tmps[11]?.getD undef = (.pointer (some ⟨b11, 0, none⟩)) := by rw [<- gD9]; exact hag.slot 11 (by kernel_rfl)
   have r11 : a'.tmps.getD 11 undef = (.pointer (some ⟨b11, 0, none⟩)) := hag.slot 11 (by kernel_rfl)
   refine HavG.tabY_val rfl (by simp) ⟨.pointer (some ⟨b11, 8, none⟩), w', ?_, ⟨HavG.Rel.refl _ _, hj.below (by decide) (by decide) (Below.refl _ _)⟩, fun _ _ _ _ _ _ h => h, fun _ _ _ _ h => h, fun V _ hv => hv, fun h => by simp at h⟩
   go_simp
   try rfl
  | 12, _, ho, hd, hap, hps, hsl, him, hdep, hdp =>
   (simp only [qD9, qE9, qF9, sI9] at ho; subst ho)
   have d71 : a'.tmps.getD 71 undef = (.pointer (some ⟨b11, 8, none⟩)) := hd 11 (by kernel_rfl) (by decide)
   have c71 : a'.tmps[71]?.getD undef = (.pointer (some ⟨b11, 8, none⟩)) := by rw [<- gD9]; exact d71
   obtain ⟨g2, cp, e6⟩ : ∃ g cp, HavG.slot a' 66 = .slice (some ⟨g, 0, none⟩) (wn + 1) cp := hd 6 (by kernel_rfl) (by decide)
   have d66 : a'.tmps.getD 66 undef = .slice (some ⟨g2, 0, none⟩) (wn + 1) cp := e6; have c66 : a'.tmps[66]?.getD undef = .slice (some ⟨g2, 0, none⟩) (wn + 1) cp := by rw [<- gD9]; exact d66
   have hps' : Blk w' b11 31 (CX9 c fa fl fc la ll lc wa wn wc ta tn tc) := hps; have z8 := hps'.cell 8; have z9 := hps'.frozen 8; have zl := hps'.lt; simp at z8
   have hset : Turn (fun b => b = b11) w' (w'.setCell ⟨b11, 8, none⟩ (.slice (some ⟨g2, 0, none⟩) (wn + 1) cp)) := Turn.set _ _ (fun _ => rfl)
   have hnew : Blk (w'.setCell ⟨b11, 8, none⟩ (.slice (some ⟨g2, 0, none⟩) (wn + 1) cp)) b11 31 #[.int .i64 c.riv.depth.lo, .int .i64 c.riv.depth.hi, .int .i64 c.riv.fall.lo, .int .i64 c.riv.fall.hi, .int .i64 c.riv.days, .slice fa fl fc, .slice la ll lc, .int .i64 c.draws, .slice (some ⟨g2, 0, none⟩) (wn + 1) cp, .slice ta tn tc] := by have h := hps'.set_ 8 (.slice (some ⟨g2, 0, none⟩) (wn + 1) cp); simpa using h
   refine HavG.tabY_store rfl rfl (by simp) ⟨w'.setCell ⟨b11, 8, none⟩ (.slice (some ⟨g2, 0, none⟩) (wn + 1) cp), ?_, ⟨⟨hset.mono (fun b e => .inl e), fun i => i.elim⟩, hj.skip (by decide) (by decide) (fun _ _ _ ho => own_turn ho hset (fun g hg e => by obtain ⟨-, cs, hk⟩ := own_block ho hg; exact blk_ne hk hps' (by decide) e)) (fun _ _ hk => hk.turn hset (blk_ne hk hps' (by decide)))⟩, fun j V _ _ hji _ h => r4_setx h hset HN12.out hji, fun j _ hji _ h => r4S_setx h hset HN12.out hji, fun V hV => ⟨g2, cp, (hV 6 (by decide)).trans e6, hnew⟩⟩
   clear hnew hset hps hps' e6 hj
   go_simp
   try rfl
  | 13, _, ho, hd, hap, hps, hsl, him, hdep, hdp =>
   (simp only [qD9, qE9, qF9, sI9] at ho; subst ho)
   have s12 : a'.tmps[12]?.getD undef = (.pointer (some ⟨b12, 0, none⟩)) := by rw [<- gD9]; exact hag.slot 12 (by kernel_rfl)
   have r12 : a'.tmps.getD 12 undef = (.pointer (some ⟨b12, 0, none⟩)) := hag.slot 12 (by kernel_rfl)
   refine HavG.tabY_val rfl (by simp) ⟨.pointer (some ⟨b12, 8, none⟩), w', ?_, ⟨HavG.Rel.refl _ _, hj.below (by decide) (by decide) (Below.refl _ _)⟩, fun _ _ _ _ _ _ h => h, fun _ _ _ _ h => h, fun V _ hv => hv, fun h => by simp at h⟩
   go_simp
   try rfl
  | 14, _, ho, hd, hap, hps, hsl, him, hdep, hdp =>
   (simp only [qD9, qE9, qF9, sI9] at ho; subst ho)
   have d72 : a'.tmps.getD 72 undef = (.pointer (some ⟨b12, 8, none⟩)) := hd 13 (by kernel_rfl) (by decide)
   have c72 : a'.tmps[72]?.getD undef = (.pointer (some ⟨b12, 8, none⟩)) := by rw [<- gD9]; exact d72
   obtain ⟨g2, cp, e6⟩ : ∃ g cp, HavG.slot a' 70 = .slice (some ⟨g, 0, none⟩) wn cp := hd 10 (by kernel_rfl) (by decide)
   have d70 : a'.tmps.getD 70 undef = .slice (some ⟨g2, 0, none⟩) wn cp := e6; have c70 : a'.tmps[70]?.getD undef = .slice (some ⟨g2, 0, none⟩) wn cp := by rw [<- gD9]; exact d70
   have hps' : Blk w' b12 31 (CX9 c fa fl fc la ll lc wa wn wc ta tn tc) := hps; have z8 := hps'.cell 8; have z9 := hps'.frozen 8; have zl := hps'.lt; simp at z8
   have hset : Turn (fun b => b = b12) w' (w'.setCell ⟨b12, 8, none⟩ (.slice (some ⟨g2, 0, none⟩) wn cp)) := Turn.set _ _ (fun _ => rfl)
   have hnew : Blk (w'.setCell ⟨b12, 8, none⟩ (.slice (some ⟨g2, 0, none⟩) wn cp)) b12 31 #[.int .i64 c.riv.depth.lo, .int .i64 c.riv.depth.hi, .int .i64 c.riv.fall.lo, .int .i64 c.riv.fall.hi, .int .i64 c.riv.days, .slice fa fl fc, .slice la ll lc, .int .i64 c.draws, .slice (some ⟨g2, 0, none⟩) wn cp, .slice ta tn tc] := by have h := hps'.set_ 8 (.slice (some ⟨g2, 0, none⟩) wn cp); simpa using h
   refine HavG.tabY_store rfl rfl (by simp) ⟨w'.setCell ⟨b12, 8, none⟩ (.slice (some ⟨g2, 0, none⟩) wn cp), ?_, ⟨⟨hset.mono (fun b e => .inr (.inl e)), fun i => i.elim⟩, hj.skip (by decide) (by decide) (fun _ _ _ ho => own_turn ho hset (fun g hg e => by obtain ⟨-, cs, hk⟩ := own_block ho hg; exact blk_ne hk hps' (by decide) e)) (fun _ _ hk => hk.turn hset (blk_ne hk hps' (by decide)))⟩, fun j V _ _ hji _ h => r4_sety h hset HN12.out hji, fun j _ hji _ h => r4S_sety h hset HN12.out hji, fun V hV => ⟨g2, cp, (hV 10 (by decide)).trans e6, hnew⟩⟩
   clear hnew hset hps hps' e6 hj
   go_simp
   try rfl
  | j + 15, hj, _, _, _, _, _, _, _, _ => exact absurd hj (by simp)
 intro f w2 hg hjj hf hap; obtain ⟨gx, cx, ex, kx⟩ : ∃ g cp, f 66 = .slice (some ⟨g, 0, none⟩) (wn + 1) cp ∧ Blk w2 b11 31 #[.int .i64 c.riv.depth.lo, .int .i64 c.riv.depth.hi, .int .i64 c.riv.fall.lo, .int .i64 c.riv.fall.hi, .int .i64 c.riv.days, .slice fa fl fc, .slice la ll lc, .int .i64 c.draws, .slice (some ⟨g, 0, none⟩) (wn + 1) cp, .slice ta tn tc] := hf 12 (by decide)
 obtain ⟨gy, cy, ey, ky⟩ : ∃ g cp, f 70 = .slice (some ⟨g, 0, none⟩) wn cp ∧ Blk w2 b12 31 #[.int .i64 c.riv.depth.lo, .int .i64 c.riv.depth.hi, .int .i64 c.riv.fall.lo, .int .i64 c.riv.fall.hi, .int .i64 c.riv.days, .slice fa fl fc, .slice la ll lc, .int .i64 c.draws, .slice (some ⟨g, 0, none⟩) wn cp, .slice ta tn tc] := hf 14 (by decide)
 have oa := hjj.oa.end_; have ob := hjj.ob.end_; have ap := hjj.ap; simp only [List.filterMap, HavG.puts, List.foldl_cons, List.foldl_nil, Act.put, List.setIfInBounds_toArray, List.set_cons_succ, List.set_cons_zero] at oa ob ap; have oa' : w2.ownsRow K.heap.size 65 4 (f 66) (wn + 1) ((c.wg ++ [w_]).flatMap wgI) := oa; have ob' : w2.ownsRow K.heap.size 65 4 (f 70) wn (c.wg.flatMap wgI) := ob; have ap' : ∀ g, (f 66).ownBlock = some g -> ¬ (f 70).ownBlock = some g := ap; rw [ex] at oa' ap'; rw [ey] at ob' ap'
 have nxy : gx ≠ gy := fun e => ap' gx rfl (by rw [e]; rfl)
 have HFIN := hd9 (HF.out w2 gx gy cx cy hg.1 kx ky (own_base oa' HBW.out.size) (own_base ob' HBW.out.size) nxy); simp only [List.filterMap, HavG.puts, List.foldl_cons, List.foldl_nil, Act.put, List.setIfInBounds_toArray, List.set_cons_succ, List.set_cons_zero]; clear hf hap hjj hg ex kx ey ky oa ob ap oa' ob' ap' nxy; go_wp2; exact HKU.out _ _ ((HFIN.out).go.go)
end
end Go.Proofs.YtgmfhngcehkibaaGreat
