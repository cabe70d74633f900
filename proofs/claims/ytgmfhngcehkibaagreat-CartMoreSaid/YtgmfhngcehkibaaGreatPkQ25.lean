/- The law CartMore. Condition: what the statements say. -/
import Derived.Test.YtgmfhngcehkibaaGreatPkQ24
set_option maxRecDepth 100000
set_option maxHeartbeats 6400000
namespace Go.Proofs.YtgmfhngcehkibaaGreat
open Go.RowKit Go.Hav Go.Shelf Go.Sq
attribute [local go_sem] Oper.semAt_some
theorem lkI_len (s : ILk) : (lkI s).length = 3 := rfl
theorem own_cell2 {w : World} {B n c g e sz : Nat} {xs : List Value} (h : w.ownsRow B e sz (.slice (some ⟨g, 0, none⟩) n c) n xs) (j : Nat) (x : Value) (hx : xs[j]? = some x) : w.cell? ⟨g, j, none⟩ = some x := by
 have := h.cells (g := g) rfl j x hx; unfold Addr.add at this
 split at this
 ·rename_i hz; subst hz; exact this
 ·simpa using this
def Away (A : Option Addr) (g : Nat) : Prop := ∀ b off, A = some ⟨b, off, none⟩ -> b ≠ g
theorem own_addr {w : World} {B e sz n k c : Nat} {A : Option Addr} {xs : List Value} (h : w.ownsRow B e sz (.slice A n c) k xs) {a : Addr} (ha : A = some a) : a.block < w.heap.size := by
 obtain ⟨-, cs, hb⟩ := own_block h (g := a.block) (by rw [ha]; rfl)
 exact hb.lt
theorem RdG.awayB {α : Type} {f : α -> List Value} {sz g : Nat} {w w' : World} {A : Option Addr} {l : List α} (h : RdG f sz w w.heap.size A l) (t : Turn (fun x => x = g ∨ w.heap.size <= x) w w') (ha : l ≠ [] -> Away A g) : RdG f sz w' w.heap.size A l := by
 cases l with
 | nil => exact RdG.nil _ _ _ _ _
 | cons x l => exact h.keep fun b hb ⟨off, e⟩ => t.block b hb (fun hs => hs.elim (ha (by simp) b off e) (by omega))
structure CFar (g : Nat) (fa la wa ta : Option Addr) (q : ICart) : Prop where
 f : q.riv.fr ≠ [] -> Away fa g
 l : q.riv.lk ≠ [] -> Away la g
 w : q.wg ≠ [] -> Away wa g
 t : q.lt ≠ [] -> Away ta g
theorem CBox.away {w w' : World} {b g fl fc ll lc wn wc tn tc : Nat} {fa la wa ta : Option Addr} {q : ICart} (h : CBox w b fa fl fc la ll lc wa wn wc ta tn tc q) (t : Turn (fun x => x = g ∨ w.heap.size <= x) w w') (hb : b ≠ g) (hf : CFar g fa la wa ta q) : CBox w' b fa fl fc la ll lc wa wn wc ta tn tc q :=
 ⟨h.box.turn t (by have := h.box.lt; omega), { h.inn with riv := { h.inn.riv with hfr := (h.inn.riv.hfr.awayB t hf.f).more t.size, hlk := (h.inn.riv.hlk.awayB t hf.l).more t.size }, hwg := (h.inn.hwg.awayB t hf.w).more t.size, hlt := (h.inn.hlt.awayB t hf.t).more t.size }⟩
structure ML (w0 w : World) (b5 b11 b12 b13 b14 b15 fl fc ll lc wn wc tn tc cx cy cz ct : Nat) (fa la wa ta wx wy tz lt : Option Addr) (c x y z t : ICart) : Prop where
 hC : MrIn w0 w b5 fa fl fc la ll lc wa wn wc ta tn tc c
 hx : CBox w b11 fa fl fc la ll lc wx (wn + 1) cx ta tn tc x
 hy : CBox w b12 fa fl fc la ll lc wy wn cy ta tn tc y
 hz : CBox w b13 fa fl fc la ll lc wa wn wc tz (tn + 1) cz z
 ht : CBox w b14 fa fl fc lt (ll + 1) ct wa wn wc ta tn tc t
 qx : QOk c x 0
 qy : QOk c y 1
 qz : QOk c z 2
 qt : QOk c t 3
 ge : w0.heap.size <= b15
 n5 : b5 ≠ b15
 n11 : b11 ≠ b15
 n12 : b12 ≠ b15
 n13 : b13 ≠ b15
 n14 : b14 ≠ b15
 ax : CFar b15 fa la wx ta x
 ay : CFar b15 fa la wy ta y
 az : CFar b15 fa la wa tz z
 at_ : CFar b15 fa lt wa ta t
theorem ML.turned {w0 w w' : World} {b5 b11 b12 b13 b14 b15 fl fc ll lc wn wc tn tc cx cy cz ct : Nat} {fa la wa ta wx wy tz lt : Option Addr} {c x y z t : ICart} (h : ML w0 w b5 b11 b12 b13 b14 b15 fl fc ll lc wn wc tn tc cx cy cz ct fa la wa ta wx wy tz lt c x y z t) (tn' : Turn (fun x => x = b15 ∨ w.heap.size <= x) w w') : ML w0 w' b5 b11 b12 b13 b14 b15 fl fc ll lc wn wc tn tc cx cy cz ct fa la wa ta wx wy tz lt c x y z t :=
 { h with hC := h.hC.turned tn' (fun b e => by have := h.ge; have := h.hC.bw.size; omega) (by have := h.n5; have := h.hC.box.lt; omega), hx := h.hx.away tn' h.n11 h.ax, hy := h.hy.away tn' h.n12 h.ay, hz := h.hz.away tn' h.n13 h.az, ht := h.ht.away tn' h.n14 h.at_ }
def flipT (e sz : Nat) (ys xs : List Value) (B b15 b5 o : Nat) (cs : Value -> Array Value) (A : Option Addr) (k ck : Nat) (fa : Option Addr) (fl fc j bf fo : Nat) (i : Nat) (V : Nat -> Value) (w : World) : Prop :=
 match i with
 | 0 => V 0 = .pointer (some ⟨b15, o, none⟩)
 | 1 => V 1 = .slice A k ck
 | 2 => V 2 = .pointer (some ⟨b5, o, none⟩)
 | 3 => V 3 = .slice fa fl fc
 | 4 => V 4 = .pointer (some ⟨b5, o, none⟩)
 | 5 => V 5 = .slice fa fl fc
 | 6 => V 6 = .int .i64 fl
 | 7 => V 7 = .int .i64 ((fl : Int) - 1)
 | 8 => V 8 = .int .i64 k
 | 9 => V 9 = .int .i64 j
 | 10 => V 10 = .pointer (some ⟨bf, fo + j * sz, none⟩)
 | 11 => V 11 = .agg ys.toArray
 | 12 => ∃ g, V 12 = .slice (some ⟨g, 0, none⟩) 1 1 ∧ Blk w g e ys.toArray ∧ B <= g ∧ ∀ a, A = some a -> a.block ≠ g
 | 13 => ∃ g cp, V 13 = .slice (some ⟨g, 0, none⟩) (k + 1) cp ∧ w.ownsRow B e sz (.slice (some ⟨g, 0, none⟩) (k + 1) cp) (k + 1) (xs ++ ys)
 | 14 => V 14 = .pointer (some ⟨b15, o, none⟩)
 | 15 => ∃ g cp, V 13 = .slice (some ⟨g, 0, none⟩) (k + 1) cp ∧ Blk w b15 31 (cs (.slice (some ⟨g, 0, none⟩) (k + 1) cp))
 | _ => True
def flipS (e sz : Nat) (xs : List Value) (B b15 : Nat) (cs : Value -> Array Value) (A : Option Addr) (k ck : Nat) (i : Nat) (w : World) : Prop :=
 match i with
 | 1 => Blk w b15 31 (cs (.slice A k ck))
 | 12 => w.ownsRow B e sz (.slice A k ck) k xs
 | 13 => w.ownsRow B e sz (.slice A k ck) k xs
 | 15 => Blk w b15 31 (cs (.slice A k ck))
 | _ => True
section
variable {e sz B b15 b5 o k ck fl fc j bf fo i : Nat} {ys xs : List Value} {cs : Value -> Array Value} {A fa : Option Addr} {V : Nat -> Value} {w w' : World} {S : Nat -> Prop}
theorem flip_grow (h : flipT e sz ys xs B b15 b5 o cs A k ck fa fl fc j bf fo i V w) (hb : Below w.heap.size w w') : flipT e sz ys xs B b15 b5 o cs A k ck fa fl fc j bf fo i V w' := by
 unfold flipT at h ⊢
 split at h
 case h_13 => obtain ⟨g, e1, h, r⟩ := h; exact ⟨g, e1, h.below hb h.lt, r⟩
 case h_14 => obtain ⟨g, c, e1, h⟩ := h; exact ⟨g, c, e1, own_below h hb⟩
 case h_16 => obtain ⟨g, c, e1, h⟩ := h; exact ⟨g, c, e1, h.below hb h.lt⟩
 all_goals exact h
theorem flipS_grow (h : flipS e sz xs B b15 cs A k ck i w) (hb : Below w.heap.size w w') : flipS e sz xs B b15 cs A k ck i w' := by
 unfold flipS at h ⊢
 split at h
 case h_1 => exact h.below hb h.lt
 case h_2 => exact own_below h hb
 case h_3 => exact own_below h hb
 case h_4 => exact h.below hb h.lt
 all_goals exact h
theorem flipS_zero (hz : Blk w b15 31 (cs (.slice A k ck))) (ho : w.ownsRow B e sz (.slice A k ck) k xs) (i : Nat) : flipS e sz xs B b15 cs A k ck i w := by
 unfold flipS
 split
 ·exact hz
 ·exact ho
 ·exact ho
 ·exact hz
 ·trivial
theorem flip_app (h : flipT e sz ys xs B b15 b5 o cs A k ck fa fl fc j bf fo i V w) (t : Turn (fun b => (Value.slice A k ck).ownBlock = some b) w w') (hb : ∀ b, (Value.slice A k ck).ownBlock = some b -> b ≠ b15) (hi : i ≠ 13) : flipT e sz ys xs B b15 b5 o cs A k ck fa fl fc j bf fo i V w' := by
 unfold flipT at h ⊢
 split at h
 case h_13 =>
  obtain ⟨g, e1, h, h2, h3⟩ := h
  refine ⟨g, e1, h.turn t (fun e2 => ?_), h2, h3⟩
  cases A with
  | none => cases e2
  | some a => injection e2 with e2; exact h3 a rfl e2
 case h_14 => exact absurd rfl hi
 case h_16 => obtain ⟨g, c, e1, h⟩ := h; exact ⟨g, c, e1, h.turn t (fun e2 => hb _ e2 rfl)⟩
 all_goals exact h
theorem flipS_app (h : flipS e sz xs B b15 cs A k ck i w) (t : Turn (fun b => (Value.slice A k ck).ownBlock = some b) w w') (hb : ∀ b, (Value.slice A k ck).ownBlock = some b -> b ≠ b15) (hi : i ≠ 13) (hi2 : i ≠ 12) : flipS e sz xs B b15 cs A k ck i w' := by
 unfold flipS at h ⊢
 split at h
 case h_1 => exact h.turn t (fun e2 => hb _ e2 rfl)
 case h_2 => exact absurd rfl hi2
 case h_3 => exact absurd rfl hi
 case h_4 => exact h.turn t (fun e2 => hb _ e2 rfl)
 all_goals exact h
theorem flip_set (h : flipT e sz ys xs B b15 b5 o cs A k ck fa fl fc j bf fo i V w) (t : Turn (fun b => b = b15) w w') (hb : b15 < B) (hi : i ≠ 15) : flipT e sz ys xs B b15 b5 o cs A k ck fa fl fc j bf fo i V w' := by
 unfold flipT at h ⊢
 split at h
 case h_13 => obtain ⟨g, e1, h, h2, h3⟩ := h; exact ⟨g, e1, h.turn t (fun e2 => by have e3 : g = b15 := e2; omega), h2, h3⟩
 case h_14 => obtain ⟨g, c, e1, h⟩ := h; exact ⟨g, c, e1, own_turn h t (fun q hq e2 => by have := (own_block h hq).1; have e3 : q = b15 := e2; omega)⟩
 case h_16 => exact absurd rfl hi
 all_goals exact h
theorem flipS_set (hi : i ≠ 15) (hi2 : ¬ (i = 1 ∨ i = 12 ∨ i = 13)) : flipS e sz xs B b15 cs A k ck i w' := by
 unfold flipS
 split
 ·exact absurd (.inl rfl) hi2
 ·exact absurd (.inr (.inl rfl)) hi2
 ·exact absurd (.inr (.inr rfl)) hi2
 ·exact absurd rfl hi
 ·trivial
end
section
variable {w0 : World} {b5 b11 b12 b13 b14 b15 fl fc ll lc wn wc tn tc cx cy cz ct : Nat} {fa la wa ta wx wy tz lt : Option Addr} {c x y z t : ICart}
theorem mr6 {W : World} (hM : ML w0 W b5 b11 b12 b13 b14 b15 fl fc ll lc wn wc tn tc cx cy cz ct fa la wa ta wx wy tz lt c x y z t) (h15 : Blk W b15 31 #[.int .i64 c.riv.depth.lo, .int .i64 c.riv.depth.hi, .int .i64 c.riv.fall.lo, .int .i64 c.riv.fall.hi, .int .i64 c.riv.days, .slice fa fl fc, .slice la ll lc, .int .i64 c.draws, .slice none 0 0, .slice ta tn tc]) : WR5 6 w0 (.pointer (some ⟨b5, 0, none⟩)) (.pointer (some ⟨b11, 0, none⟩)) (.pointer (some ⟨b12, 0, none⟩)) (.pointer (some ⟨b13, 0, none⟩)) (.pointer (some ⟨b14, 0, none⟩)) (.pointer (some ⟨b15, 0, none⟩)) W := by
 unfold WR5 WG
 intros
 have hw3 := hM.hC.w3
 have HF : Hid (∀ wz A ck, Turn (fun b => b = b15 ∨ W.heap.size <= b) W wz -> Blk wz b15 31 #[.int .i64 c.riv.depth.lo, .int .i64 c.riv.depth.hi, .int .i64 c.riv.fall.lo, .int .i64 c.riv.fall.hi, .int .i64 c.riv.days, .slice fa fl fc, .slice la ll lc, .int .i64 c.draws, .slice A wn ck, .slice ta tn tc] -> RdG wgI 4 wz wz.heap.size A c.wg.reverse -> WR5 7 w0 (.pointer (some ⟨b5, 0, none⟩)) (.pointer (some ⟨b11, 0, none⟩)) (.pointer (some ⟨b12, 0, none⟩)) (.pointer (some ⟨b13, 0, none⟩)) (.pointer (some ⟨b14, 0, none⟩)) (.pointer (some ⟨b15, 0, none⟩)) wz) := fun wz A ck t hb hr => by
  have hM' := hM.turned t; exact mr7 (cu := ck) (wu := A) hM'.hC ⟨hM'.hx, hM'.hy, hM'.hz, hM'.ht, ⟨hb, { hM'.hC.inn with ewn := by show c.wg.reverse.length = wn; rw [List.length_reverse]; exact hM'.hC.hP.ewn, hwg := hr }⟩, hM'.qx, hM'.qy, hM'.qz, hM'.qt⟩
 have HEF : Hid (c.wg.length = wn) := hM.hC.hP.ewn
 have HRDA : Hid (∀ w', Turn (fun b => b = b15 ∨ W.heap.size <= b) W w' -> RdG wgI 4 w' w0.heap.size wa c.wg) := fun w' t => hM.hC.hP.hwg.below (hM.hC.bw.trans (t.below hM.hC.bw.size (fun b e => by have := hM.ge; have := hM.hC.bw.size; omega)))
 have HW0 : Hid (w0.heap.size <= W.heap.size) := hM.hC.bw.size; have HN5 : Hid (¬ (b5 = b15 ∨ W.heap.size <= b5)) := by have := hM.n5; have := hM.hC.box.lt; show ¬ _; omega
 have HL15 : Hid (b15 < W.heap.size) := h15.lt; have HFZ := hd9 h15; have HC := hd9 hM.hC; obtain ⟨I, hi, hz0, hz1, hz2⟩ := info_parts Tryz.infoW65; have HI := hd9 hi; have HI0 := hd9 hz0; have HI1 := hd9 hz1; have HI2 := hd9 hz2; have hx := hM.hC.box; obtain ⟨q0, q1, q2, q3, q4, q5, q6, q7, q8, q9, ql⟩ := cx31 hx; clear hx hM h15 hi hz0 hz1 hz2
 conv => arg 2; whnf
 conv => arg 2; arg 2; change mrK 7
 go_wp2; clear q0 q1 q2 q3 q4 q5 q6 q7 q8 q9 ql
 rename ∀ a w, Code.wp Tryz.prog (mrK 7) _ a w -> _ => hKU
 have HKU := hd9 hKU; clear hKU
 go_loopw [119] (fun i wr => ∃ (k : Nat) (A : Option Addr) (ck : Nat), k <= wn ∧ i = .int .i64 k ∧ Hid (Turn (fun b => b = b15 ∨ W.heap.size <= b) W wr) ∧ Hid (Blk wr b15 31 #[.int .i64 c.riv.depth.lo, .int .i64 c.riv.depth.hi, .int .i64 c.riv.fall.lo, .int .i64 c.riv.fall.hi, .int .i64 c.riv.days, .slice fa fl fc, .slice la ll lc, .int .i64 c.draws, .slice A k ck, .slice ta tn tc]) ∧ Hid (wr.ownsRow W.heap.size 65 4 (.slice A k ck) k ((c.wg.reverse.take k).flatMap wgI))) (fun i _ => wn - (intOf i).toNat)
 case atStart => exact ⟨0, none, 0, Nat.zero_le _, rfl, Turn.refl _ _, HFZ.out, own_nil _ _ _ _⟩
 case round =>
  obtain ⟨k, A, ck, hk, rfl, HT, HZR, HOR⟩ := hrel
  by_cases hlt : k < wn
  ·obtain ⟨j, hj⟩ : ∃ j, j = wn - 1 - k := ⟨_, rfl⟩; have HJ := hd9 hj; have hjl : j < wn := by omega
   obtain ⟨gw, hc⟩ : ∃ gw, c.wg[j]? = some gw := ⟨_, List.getElem?_eq_getElem (by rw [HEF.out]; exact hjl)⟩
   have hsucc : ((c.wg.reverse.take (k + 1)).flatMap wgI) = (c.wg.reverse.take k).flatMap wgI ++ [Value.int .i64 gw.leaves, .int .i64 gw.takes.lo, .int .i64 gw.takes.hi, .int .i64 gw.room] := by
    have h1 : c.wg.reverse[k]? = some gw := by rw [List.getElem?_reverse (by rw [HEF.out]; exact hlt), HEF.out, <- hj]; exact hc
    rw [List.take_add_one, h1, List.flatMap_append]
    simp [wgI]
   obtain ⟨XS, hXS⟩ : ∃ XS, XS = (c.wg.reverse.take k).flatMap wgI := ⟨_, rfl⟩; rw [<- hXS] at hsucc HOR; have HSU := hd9 hsucc; have HCJ := hd9 hc; obtain ⟨bf, fo, rfl, -⟩ := rd_wg (HRDA.out W (Turn.refl _ _)) j gw hc; have HRD := HRDA; clear hsucc hXS hc hj; go_upto_region 12 with (fail)
   refine HavG.wp_region_tabX (R := (TP (ι := Empty) (fun b => b = b15 ∨ W.heap.size <= b) (fun i _ => i.elim) (fun i => i.elim))) (fun i V w => flipT 65 4 [Value.int .i64 gw.leaves, .int .i64 gw.takes.lo, .int .i64 gw.takes.hi, .int .i64 gw.room] XS W.heap.size b15 b5 8 (fun v => #[.int .i64 c.riv.depth.lo, .int .i64 c.riv.depth.hi, .int .i64 c.riv.fall.lo, .int .i64 c.riv.fall.hi, .int .i64 c.riv.days, .slice fa fl fc, .slice la ll lc, .int .i64 c.draws, v, .slice ta tn tc]) A k ck (some ⟨bf, fo, none⟩) wn wc j bf fo i V w) (fun i w => flipS 65 4 XS W.heap.size b15 (fun v => #[.int .i64 c.riv.depth.lo, .int .i64 c.riv.depth.hi, .int .i64 c.riv.fall.lo, .int .i64 c.riv.fall.hi, .int .i64 c.riv.days, .slice fa fl fc, .slice la ll lc, .int .i64 c.draws, v, .slice ta tn tc]) A k ck i w) [] [some 122, some 123, some 124, some 125, some 126, some 127, some 128, some 129, some 130, some 131, some 132, some 133, some 134, some 135, some 136, none] (by kernel_rfl) (by kernel_rfl) (by rfl) (fun i _ => flipS_grow (flipS_zero HZR.out HOR.out i) (Below.drew (Below.refl _ _))) ?_ (fun i hi => by cases hi) ?_ ?_
   ·intro i hi V V' w h hV
    match i, hi, h, hV with
    | 0, _, h, hV => exact (hV _ (.inl rfl)).symm.trans h
    | 1, _, h, hV => exact (hV _ (.inl rfl)).symm.trans h
    | 2, _, h, hV => exact (hV _ (.inl rfl)).symm.trans h
    | 3, _, h, hV => exact (hV _ (.inl rfl)).symm.trans h
    | 4, _, h, hV => exact (hV _ (.inl rfl)).symm.trans h
    | 5, _, h, hV => exact (hV _ (.inl rfl)).symm.trans h
    | 6, _, h, hV => exact (hV _ (.inl rfl)).symm.trans h
    | 7, _, h, hV => exact (hV _ (.inl rfl)).symm.trans h
    | 8, _, h, hV => exact (hV _ (.inl rfl)).symm.trans h
    | 9, _, h, hV => exact (hV _ (.inl rfl)).symm.trans h
    | 10, _, h, hV => exact (hV _ (.inl rfl)).symm.trans h
    | 11, _, h, hV => exact (hV _ (.inl rfl)).symm.trans h
    | 12, _, h, hV => (obtain ⟨g, e, h⟩ := h; exact ⟨g, (hV 12 (.inl rfl)).symm.trans e, h⟩)
    | 13, _, h, hV => (obtain ⟨g, c, e, h⟩ := h; exact ⟨g, c, (hV 13 (.inl rfl)).symm.trans e, h⟩)
    | 14, _, h, hV => exact (hV _ (.inl rfl)).symm.trans h
    | 15, _, h, hV => (obtain ⟨g, c, e, h⟩ := h; exact ⟨g, c, (hV 13 (.inr (by kernel_rfl))).symm.trans e, h⟩)
    | j + 16, hj, _, _ => exact absurd hj (by simp)
   ·intro i hi oo a' w' ho hag hg hd hps
    match i, hi, ho, hd, hps with
    | 0, _, ho, hd, hps =>
     (simp only [qD9, qF9, sI9] at ho; subst ho)
     have s15 : a'.tmps[15]?.getD undef = (.pointer (some ⟨b15, 0, none⟩)) := by rw [<- gD9]; exact hag.slot 15 (by kernel_rfl)
     have r15 : a'.tmps.getD 15 undef = (.pointer (some ⟨b15, 0, none⟩)) := hag.slot 15 (by kernel_rfl)
     refine HavG.tabX_val rfl (by simp) ⟨.pointer (some ⟨b15, 8, none⟩), w', ?_, HavG.Rel.refl _ _, fun _ _ _ _ h => h, fun _ _ _ _ h => h, fun V _ hv => hv, fun h => by simp at h⟩
     go_simp
     try rfl
    | 1, _, ho, hd, hps =>
     (simp only [qD9, qE9, qF9, sI9] at ho; subst ho)
     have d122 : a'.tmps.getD 122 undef = (.pointer (some ⟨b15, 8, none⟩)) := hd 0 (by kernel_rfl) (by decide)
     have c122 : a'.tmps[122]?.getD undef = (.pointer (some ⟨b15, 8, none⟩)) := by rw [<- gD9]; exact d122
     have hps' : Blk w' b15 31 #[.int .i64 c.riv.depth.lo, .int .i64 c.riv.depth.hi, .int .i64 c.riv.fall.lo, .int .i64 c.riv.fall.hi, .int .i64 c.riv.days, .slice fa fl fc, .slice la ll lc, .int .i64 c.draws, .slice A k ck, .slice ta tn tc] := hps; have z8 := hps'.cell 8; have zl := hps'.lt; simp at z8; clear hps hps'
     refine HavG.tabX_val rfl (by simp) ⟨.slice A k ck, w', ?_, HavG.Rel.refl _ _, fun _ _ _ _ h => h, fun _ _ _ _ h => h, fun V _ hv => hv, fun h => by simp at h⟩
     go_simp
     try rfl
    | 2, _, ho, hd, hps =>
     (simp only [qD9, qE9, qF9, sI9] at ho; subst ho)
     have s5 : a'.tmps[5]?.getD undef = (.pointer (some ⟨b5, 0, none⟩)) := by rw [<- gD9]; exact hag.slot 5 (by kernel_rfl)
     have r5 : a'.tmps.getD 5 undef = (.pointer (some ⟨b5, 0, none⟩)) := hag.slot 5 (by kernel_rfl)
     refine HavG.tabX_val rfl (by simp) ⟨.pointer (some ⟨b5, 8, none⟩), w', ?_, HavG.Rel.refl _ _, fun _ _ _ _ h => h, fun _ _ _ _ h => h, fun V _ hv => hv, fun h => by simp at h⟩
     go_simp
     try rfl
    | 3, _, ho, hd, hps =>
     (simp only [qD9, qE9, qF9, sI9] at ho; subst ho)
     have d124 : a'.tmps.getD 124 undef = (.pointer (some ⟨b5, 8, none⟩)) := hd 2 (by kernel_rfl) (by decide)
     have c124 : a'.tmps[124]?.getD undef = (.pointer (some ⟨b5, 8, none⟩)) := by rw [<- gD9]; exact d124
     have HX := HC.out.box.turn (HT.out.trans hg.1) HN5.out; have z8 := HX.cell 8; have zl := HX.lt; simp at z8; clear HX
     refine HavG.tabX_val rfl (by simp) ⟨.slice (some ⟨bf, fo, none⟩) wn wc, w', ?_, HavG.Rel.refl _ _, fun _ _ _ _ h => h, fun _ _ _ _ h => h, fun V _ hv => hv, fun h => by simp at h⟩
     go_simp
     try rfl
    | 4, _, ho, hd, hps =>
     (simp only [qD9, qE9, qF9, sI9] at ho; subst ho)
     have s5 : a'.tmps[5]?.getD undef = (.pointer (some ⟨b5, 0, none⟩)) := by rw [<- gD9]; exact hag.slot 5 (by kernel_rfl)
     have r5 : a'.tmps.getD 5 undef = (.pointer (some ⟨b5, 0, none⟩)) := hag.slot 5 (by kernel_rfl)
     refine HavG.tabX_val rfl (by simp) ⟨.pointer (some ⟨b5, 8, none⟩), w', ?_, HavG.Rel.refl _ _, fun _ _ _ _ h => h, fun _ _ _ _ h => h, fun V _ hv => hv, fun h => by simp at h⟩
     go_simp
     try rfl
    | 5, _, ho, hd, hps =>
     (simp only [qD9, qE9, qF9, sI9] at ho; subst ho)
     have d126 : a'.tmps.getD 126 undef = (.pointer (some ⟨b5, 8, none⟩)) := hd 4 (by kernel_rfl) (by decide)
     have c126 : a'.tmps[126]?.getD undef = (.pointer (some ⟨b5, 8, none⟩)) := by rw [<- gD9]; exact d126
     have HX := HC.out.box.turn (HT.out.trans hg.1) HN5.out; have z8 := HX.cell 8; have zl := HX.lt; simp at z8; clear HX
     refine HavG.tabX_val rfl (by simp) ⟨.slice (some ⟨bf, fo, none⟩) wn wc, w', ?_, HavG.Rel.refl _ _, fun _ _ _ _ h => h, fun _ _ _ _ h => h, fun V _ hv => hv, fun h => by simp at h⟩
     go_simp
     try rfl
    | 6, _, ho, hd, hps =>
     (simp only [qD9, qE9, qF9, sI9] at ho; subst ho)
     have d127 : a'.tmps.getD 127 undef = (.slice (some ⟨bf, fo, none⟩) wn wc) := hd 5 (by kernel_rfl) (by decide)
     have c127 : a'.tmps[127]?.getD undef = (.slice (some ⟨bf, fo, none⟩) wn wc) := by rw [<- gD9]; exact d127
     refine HavG.tabX_val rfl (by simp) ⟨.int .i64 wn, w', ?_, HavG.Rel.refl _ _, fun _ _ _ _ h => h, fun _ _ _ _ h => h, fun V _ hv => hv, fun h => by simp at h⟩
     go_simp
     try rfl
    | 7, _, ho, hd, hps =>
     (simp only [qD9, qE9, qF9, sI9] at ho; subst ho)
     have d128 : a'.tmps.getD 128 undef = (.int .i64 wn) := hd 6 (by kernel_rfl) (by decide)
     have c128 : a'.tmps[128]?.getD undef = (.int .i64 wn) := by rw [<- gD9]; exact d128
     have hw7 : IntKind.i64.wrap ((wn : Int) - 1) = (wn : Int) - 1 := IntWalk.i64_in _ (by omega)
     refine HavG.tabX_val rfl (by simp) ⟨.int .i64 ((wn : Int) - 1), w', ?_, HavG.Rel.refl _ _, fun _ _ _ _ h => h, fun _ _ _ _ h => h, fun V _ hv => hv, fun h => by simp at h⟩
     go_simp
     try rfl
    | 8, _, ho, hd, hps =>
     (simp only [qD9, qE9, qF9, sI9] at ho; subst ho)
     have s17 : a'.tmps[17]?.getD undef = (.int .i64 k) := by rw [<- gD9]; exact hag.slot 17 (by kernel_rfl)
     have r17 : a'.tmps.getD 17 undef = (.int .i64 k) := hag.slot 17 (by kernel_rfl)
     refine HavG.tabX_val rfl (by simp) ⟨.int .i64 k, w', ?_, HavG.Rel.refl _ _, fun _ _ _ _ h => h, fun _ _ _ _ h => h, fun V _ hv => hv, fun h => by simp at h⟩
     go_simp
     try rfl
    | 9, _, ho, hd, hps =>
     (simp only [qD9, qE9, qF9, sI9] at ho; subst ho)
     have d129 : a'.tmps.getD 129 undef = (.int .i64 ((wn : Int) - 1)) := hd 7 (by kernel_rfl) (by decide)
     have c129 : a'.tmps[129]?.getD undef = (.int .i64 ((wn : Int) - 1)) := by rw [<- gD9]; exact d129
     have d130 : a'.tmps.getD 130 undef = (.int .i64 k) := hd 8 (by kernel_rfl) (by decide)
     have c130 : a'.tmps[130]?.getD undef = (.int .i64 k) := by rw [<- gD9]; exact d130
     have hw9 : IntKind.i64.wrap ((wn : Int) - 1 - (k : Int)) = (wn : Int) - 1 - (k : Int) := IntWalk.i64_in _ (by omega)
     have hj9 : (wn : Int) - 1 - (k : Int) = (j : Int) := by have := HJ.out; omega
     have hw9' : IntKind.i64.wrap (j : Int) = (j : Int) := IntWalk.i64_in _ (by omega)
     refine HavG.tabX_val rfl (by simp) ⟨.int .i64 j, w', ?_, HavG.Rel.refl _ _, fun _ _ _ _ h => h, fun _ _ _ _ h => h, fun V _ hv => hv, fun h => by simp at h⟩
     go_simp
     try rfl
    | 10, _, ho, hd, hps =>
     (simp only [qD9, qE9, qF9, sI9] at ho; subst ho)
     have d125 : a'.tmps.getD 125 undef = (.slice (some ⟨bf, fo, none⟩) wn wc) := hd 3 (by kernel_rfl) (by decide)
     have c125 : a'.tmps[125]?.getD undef = (.slice (some ⟨bf, fo, none⟩) wn wc) := by rw [<- gD9]; exact d125
     have d131 : a'.tmps.getD 131 undef = (.int .i64 j) := hd 9 (by kernel_rfl) (by decide)
     have c131 : a'.tmps[131]?.getD undef = (.int .i64 j) := by rw [<- gD9]; exact d131
     refine HavG.tabX_val rfl (by simp) ⟨.pointer (some ⟨bf, fo + j * 4, none⟩), w', ?_, HavG.Rel.refl _ _, fun _ _ _ _ h => h, fun _ _ _ _ h => h, fun V _ hv => hv, fun h => by simp at h⟩
     go_simp
     try rfl
    | 11, _, ho, hd, hps =>
     (simp only [qD9, qE9, qF9, sI9] at ho; subst ho)
     have d132 : a'.tmps.getD 132 undef = (.pointer (some ⟨bf, fo + j * 4, none⟩)) := hd 10 (by kernel_rfl) (by decide)
     have c132 : a'.tmps[132]?.getD undef = (.pointer (some ⟨bf, fo + j * 4, none⟩)) := by rw [<- gD9]; exact d132
     obtain ⟨bf', fo', e, hl, y0, y1, y2, y3⟩ := rd_wg (HRD.out w' (HT.out.trans hg.1)) j gw HCJ.out; cases e
     have hl2 : bf < w'.heap.size := Nat.lt_of_lt_of_le hl (Nat.le_trans HW0.out (HT.out.trans hg.1).size)
     refine HavG.tabX_val rfl (by simp) ⟨.agg #[.int .i64 gw.leaves, .int .i64 gw.takes.lo, .int .i64 gw.takes.hi, .int .i64 gw.room], w', ?_, HavG.Rel.refl _ _, fun _ _ _ _ h => h, fun _ _ _ _ h => h, fun V _ hv => hv, fun h => by simp at h⟩
     go_simp
     try rfl
    | 12, _, ho, hd, hps =>
     (simp only [qD9, qE9, qF9, sI9] at ho; subst ho)
     have d133 : a'.tmps.getD 133 undef = (.agg #[.int .i64 gw.leaves, .int .i64 gw.takes.lo, .int .i64 gw.takes.hi, .int .i64 gw.room]) := hd 11 (by kernel_rfl) (by decide)
     have c133 : a'.tmps[133]?.getD undef = (.agg #[.int .i64 gw.leaves, .int .i64 gw.takes.lo, .int .i64 gw.takes.hi, .int .i64 gw.room]) := by rw [<- gD9]; exact d133
     have HB : Below w'.heap.size w' (w'.alloc (.cells #[.int .i64 gw.leaves, .int .i64 gw.takes.lo, .int .i64 gw.takes.hi, .int .i64 gw.room] 65)) := (Below.refl _ _).alloc (Nat.le_refl _) _
     have hfar : ∀ a, A = some a -> a.block ≠ w'.heap.size := fun a ha => by have := own_addr (show w'.ownsRow W.heap.size 65 4 (.slice A k ck) k _ from hps) ha; omega
     clear hps
     refine HavG.tabX_val rfl (by simp) ⟨.slice (some ⟨w'.heap.size, 0, none⟩) 1 1, w'.alloc (.cells #[.int .i64 gw.leaves, .int .i64 gw.takes.lo, .int .i64 gw.takes.hi, .int .i64 gw.room] 65), ?_, ⟨Turn.of_below HB, fun i => i.elim⟩, fun j V _ _ h => flip_grow h HB, fun j _ _ _ h => flipS_grow h HB, fun V _ hv => ⟨w'.heap.size, hv, Blk.new w' 65 _, (HT.out.trans hg.1).size, hfar⟩, fun h => by simp at h⟩
     clear hfar
     go_simp
     try rfl
    | 13, _, ho, hd, hps =>
     (simp only [qD9, qE9, qF9, sI9] at ho; subst ho)
     have e3 : HavG.slot a' 123 = .slice A k ck := hd 1 (by kernel_rfl) (by decide)
     obtain ⟨g, e5, hk5, hgB, hgA⟩ : ∃ g, HavG.slot a' 134 = .slice (some ⟨g, 0, none⟩) 1 1 ∧ Blk w' g 65 [Value.int .i64 gw.leaves, .int .i64 gw.takes.lo, .int .i64 gw.takes.hi, .int .i64 gw.room].toArray ∧ W.heap.size <= g ∧ ∀ a, A = some a -> a.block ≠ g := hd 12 (by kernel_rfl) (by decide)
     have h3 : w'.ownsRow W.heap.size 65 4 (.slice A k ck) k XS := hps; obtain ⟨g2, cp, w2, hrun, hown, ht, -⟩ := append_at (P := Tryz.prog) W.heap.size 28 28 65 I _ 4 32 Tryz.underlying28 HI.out HI0.out HI1.out HI2.out rfl (by decide) _ k _ h3 ⟨g, 0, none⟩ 1 [Value.int .i64 gw.leaves, .int .i64 gw.takes.lo, .int .i64 gw.takes.hi, .int .i64 gw.room] rfl (news_block hk5) (by simp [Value.oneCell']) (by omega) (by omega) (HT.out.trans hg.1).size
     have hge : ∀ b, (Value.slice A k ck).ownBlock = some b -> W.heap.size <= b := fun b e => (own_block h3 e).1
     exact HavG.tabX_val rfl (by simp) ⟨_, w2, append_oper rfl e3 e5 hrun, ⟨ht.mono (fun b e => .inr (hge b e)), fun i => i.elim⟩, fun j V _ hji h => flip_app h ht (fun b e => by have := hge b e; have := HL15.out; omega) hji, fun j _ hji hbf h => flipS_app h ht (fun b e => by have := hge b e; have := HL15.out; omega) hji (fun e => by subst e; exact Bool.false_ne_true (hbf.symm.trans (by kernel_rfl))), fun V _ hv => ⟨_, _, hv, hown⟩, fun h => by simp at h⟩
    | 14, _, ho, hd, hps =>
     (simp only [qD9, qE9, qF9, sI9] at ho; subst ho)
     have s15 : a'.tmps[15]?.getD undef = (.pointer (some ⟨b15, 0, none⟩)) := by rw [<- gD9]; exact hag.slot 15 (by kernel_rfl)
     have r15 : a'.tmps.getD 15 undef = (.pointer (some ⟨b15, 0, none⟩)) := hag.slot 15 (by kernel_rfl)
     refine HavG.tabX_val rfl (by simp) ⟨.pointer (some ⟨b15, 8, none⟩), w', ?_, HavG.Rel.refl _ _, fun _ _ _ _ h => h, fun _ _ _ _ h => h, fun V _ hv => hv, fun h => by simp at h⟩
     go_simp
     try rfl
    | 15, _, ho, hd, hps =>
     (simp only [qD9, qE9, qF9, sI9] at ho; subst ho)
     have d136 : a'.tmps.getD 136 undef = (.pointer (some ⟨b15, 8, none⟩)) := hd 14 (by kernel_rfl) (by decide)
     have c136 : a'.tmps[136]?.getD undef = (.pointer (some ⟨b15, 8, none⟩)) := by rw [<- gD9]; exact d136
     obtain ⟨g2, cp, e6, ho⟩ : ∃ g cp, HavG.slot a' 135 = .slice (some ⟨g, 0, none⟩) (k + 1) cp ∧ w'.ownsRow W.heap.size 65 4 (.slice (some ⟨g, 0, none⟩) (k + 1) cp) (k + 1) (XS ++ [Value.int .i64 gw.leaves, .int .i64 gw.takes.lo, .int .i64 gw.takes.hi, .int .i64 gw.room]) := hd 13 (by kernel_rfl) (by decide)
     have d135 : a'.tmps.getD 135 undef = .slice (some ⟨g2, 0, none⟩) (k + 1) cp := e6; have c135 : a'.tmps[135]?.getD undef = .slice (some ⟨g2, 0, none⟩) (k + 1) cp := by rw [<- gD9]; exact d135
     have hps' : Blk w' b15 31 #[.int .i64 c.riv.depth.lo, .int .i64 c.riv.depth.hi, .int .i64 c.riv.fall.lo, .int .i64 c.riv.fall.hi, .int .i64 c.riv.days, .slice fa fl fc, .slice la ll lc, .int .i64 c.draws, .slice A k ck, .slice ta tn tc] := hps; have z8 := hps'.cell 8; have z9 := hps'.frozen 8; have zl := hps'.lt; simp at z8
     have hset : Turn (fun b => b = b15) w' (w'.setCell ⟨b15, 8, none⟩ (.slice (some ⟨g2, 0, none⟩) (k + 1) cp)) := Turn.set _ _ (fun _ => rfl)
     have hnew : Blk (w'.setCell ⟨b15, 8, none⟩ (.slice (some ⟨g2, 0, none⟩) (k + 1) cp)) b15 31 #[.int .i64 c.riv.depth.lo, .int .i64 c.riv.depth.hi, .int .i64 c.riv.fall.lo, .int .i64 c.riv.fall.hi, .int .i64 c.riv.days, .slice fa fl fc, .slice la ll lc, .int .i64 c.draws, .slice (some ⟨g2, 0, none⟩) (k + 1) cp, .slice ta tn tc] := by have h := hps'.set_ 8 (.slice (some ⟨g2, 0, none⟩) (k + 1) cp); simpa using h
     refine HavG.tabX_store rfl rfl (by simp) ⟨w'.setCell ⟨b15, 8, none⟩ (.slice (some ⟨g2, 0, none⟩) (k + 1) cp), ?_, ⟨hset.mono (fun b e => .inl e), fun i => i.elim⟩, fun j V _ hji h => flip_set h hset HL15.out hji, fun j _ hji hbf h => flipS_set hji (fun e => by rcases e with rfl | rfl | rfl <;> exact Bool.false_ne_true (hbf.symm.trans (by kernel_rfl))), fun V hv => ⟨g2, cp, (hv 13 (by decide)).trans e6, hnew⟩⟩
     clear hnew hset hps hps' e6 ho
     go_simp
     try rfl
    | j + 16, hj, _, _, _ => exact absurd hj (by simp)
   intro f w2 hg hf _; have q0 : f 122 = _ := hf 0 (by decide)
   have q1 : f 123 = _ := hf 1 (by decide)
   have q2 : f 124 = _ := hf 2 (by decide)
   have q3 : f 125 = _ := hf 3 (by decide)
   have q4 : f 126 = _ := hf 4 (by decide)
   have q5 : f 127 = _ := hf 5 (by decide)
   have q6 : f 128 = _ := hf 6 (by decide)
   have q7 : f 129 = _ := hf 7 (by decide)
   have q8 : f 130 = _ := hf 8 (by decide)
   have q9 : f 131 = _ := hf 9 (by decide)
   have q10 : f 132 = _ := hf 10 (by decide)
   have q11 : f 133 = _ := hf 11 (by decide)
   obtain ⟨g12, q12, -⟩ : ∃ g, f 134 = .slice (some ⟨g, 0, none⟩) 1 1 ∧ _ := hf 12 (by decide)
   obtain ⟨g2, cp, q13, ho⟩ : ∃ g cp, f 135 = .slice (some ⟨g, 0, none⟩) (k + 1) cp ∧ w2.ownsRow W.heap.size 65 4 (.slice (some ⟨g, 0, none⟩) (k + 1) cp) (k + 1) (XS ++ [Value.int .i64 gw.leaves, .int .i64 gw.takes.lo, .int .i64 gw.takes.hi, .int .i64 gw.room]) := hf 13 (by decide)
   have q14 : f 136 = _ := hf 14 (by decide)
   obtain ⟨g9, c9, k9, hb2⟩ : ∃ g cp, f 135 = .slice (some ⟨g, 0, none⟩) (k + 1) cp ∧ Blk w2 b15 31 #[.int .i64 c.riv.depth.lo, .int .i64 c.riv.depth.hi, .int .i64 c.riv.fall.lo, .int .i64 c.riv.fall.hi, .int .i64 c.riv.days, .slice fa fl fc, .slice la ll lc, .int .i64 c.draws, .slice (some ⟨g, 0, none⟩) (k + 1) cp, .slice ta tn tc] := hf 15 (by decide)
   obtain ⟨rfl, rfl⟩ : g2 = g9 ∧ cp = c9 := by rw [q13] at k9; injection k9 with a1 a2 a3; injection a1 with a1; injection a1 with a1; exact ⟨a1, a3⟩
   rw [<- HSU.out] at ho
   have HT2 : Hid (Turn (fun b => b = b15 ∨ W.heap.size <= b) W w2) := HT.out.trans hg.1
   have HB2 := hd9 hb2; have HO2 := hd9 ho; simp only [List.filterMap, HavG.puts, List.foldl_cons, List.foldl_nil, Act.put, List.setIfInBounds_toArray, List.set_cons_succ, List.set_cons_zero]; rw [q0, q1, q2, q3, q4, q5, q6, q7, q8, q9, q10, q11, q12, q13, q14]; clear hf hg k9 hb2 ho q0 q1 q2 q3 q4 q5 q6 q7 q8 q9 q10 q11 q12 q13 q14; go_wp2; go_roundw
   case rel => exact ⟨k + 1, _, _, by omega, by go_num, HT2, HB2, HO2⟩
   case measure => simp [intOf]; omega
  ·obtain rfl : wn = k := by omega
   have HRW : Hid (RdG wgI 4 wr wr.heap.size A c.wg.reverse) := by
    have h := HOR.out; rw [List.take_of_length_le (by rw [List.length_reverse, HEF.out]; exact Nat.le_refl _)] at h
    exact RdG.of_own2 wgI_len (by decide) h (by rw [List.length_reverse, HEF.out])
   go_wp2; exact HKU.out _ _ ((HF.out wr A ck HT.out HZR.out HRW.out).go.go)
end
structure M5 (w0 w : World) (b5 b11 b12 b13 b14 b15 gx gy gz gt fl fc ll lc wn wc tn tc cx cy cz ct : Nat) (fa la wa ta : Option Addr) (c : ICart) (w_ : IWag) (l_ : ILot) (o_ : ILk) : Prop where
 hC : MrIn w0 w b5 fa fl fc la ll lc wa wn wc ta tn tc c
 k11 : Blk w b11 31 #[.int .i64 c.riv.depth.lo, .int .i64 c.riv.depth.hi, .int .i64 c.riv.fall.lo, .int .i64 c.riv.fall.hi, .int .i64 c.riv.days, .slice fa fl fc, .slice la ll lc, .int .i64 c.draws, .slice (some ⟨gx, 0, none⟩) (wn + 1) cx, .slice ta tn tc]
 k12 : Blk w b12 31 #[.int .i64 c.riv.depth.lo, .int .i64 c.riv.depth.hi, .int .i64 c.riv.fall.lo, .int .i64 c.riv.fall.hi, .int .i64 c.riv.days, .slice fa fl fc, .slice la ll lc, .int .i64 c.draws, .slice (some ⟨gy, 0, none⟩) wn cy, .slice ta tn tc]
 k13 : Blk w b13 31 #[.int .i64 c.riv.depth.lo, .int .i64 c.riv.depth.hi, .int .i64 c.riv.fall.lo, .int .i64 c.riv.fall.hi, .int .i64 c.riv.days, .slice fa fl fc, .slice la ll lc, .int .i64 c.draws, .slice wa wn wc, .slice (some ⟨gz, 0, none⟩) (tn + 1) cz]
 k14 : Blk w b14 31 #[.int .i64 c.riv.depth.lo, .int .i64 c.riv.depth.hi, .int .i64 c.riv.fall.lo, .int .i64 c.riv.fall.hi, .int .i64 c.riv.days, .slice fa fl fc, .slice (some ⟨gt, 0, none⟩) (ll + 1) ct, .int .i64 c.draws, .slice wa wn wc, .slice ta tn tc]
 k15 : Blk w b15 31 #[.int .i64 c.riv.depth.lo, .int .i64 c.riv.depth.hi, .int .i64 c.riv.fall.lo, .int .i64 c.riv.fall.hi, .int .i64 c.riv.days, .slice fa fl fc, .slice la ll lc, .int .i64 c.draws, .slice none 0 0, .slice ta tn tc]
 ox : w.ownsRow w0.heap.size 65 4 (.slice (some ⟨gx, 0, none⟩) (wn + 1) cx) (wn + 1) ((c.wg ++ [w_]).flatMap wgI)
 oy : w.ownsRow w0.heap.size 65 4 (.slice (some ⟨gy, 0, none⟩) wn cy) wn (c.wg.flatMap wgI)
 oz : w.ownsRow w0.heap.size 68 5 (.slice (some ⟨gz, 0, none⟩) (tn + 1) cz) (tn + 1) ((c.lt ++ [l_]).flatMap ltI)
 ot : w.ownsRow w0.heap.size 61 3 (.slice (some ⟨gt, 0, none⟩) (ll + 1) ct) (ll + 1) ((withR c.riv o_).lk.flatMap lkI)
 nxy : gx ≠ gy
 ge : w0.heap.size <= b15
 n5 : b5 ≠ b15
 n11 : b11 ≠ b15
 n12 : b12 ≠ b15
 n13 : b13 ≠ b15
 n14 : b14 ≠ b15
section
variable {w0 : World} {b5 b11 b12 b13 b14 b15 gx gy gz gt fl fc ll lc wn wc tn tc cx cy cz ct : Nat} {fa la wa ta : Option Addr} {c : ICart} {w_ : IWag} {l_ : ILot} {o_ : ILk}
theorem M5.below {w w' : World} (h : M5 w0 w b5 b11 b12 b13 b14 b15 gx gy gz gt fl fc ll lc wn wc tn tc cx cy cz ct fa la wa ta c w_ l_ o_) (hb : Below w.heap.size w w') : M5 w0 w' b5 b11 b12 b13 b14 b15 gx gy gz gt fl fc ll lc wn wc tn tc cx cy cz ct fa la wa ta c w_ l_ o_ :=
 { h with hC := h.hC.below hb, k11 := h.k11.below hb h.k11.lt, k12 := h.k12.below hb h.k12.lt, k13 := h.k13.below hb h.k13.lt, k14 := h.k14.below hb h.k14.lt, k15 := h.k15.below hb h.k15.lt, ox := own_below h.ox hb, oy := own_below h.oy hb, oz := own_below h.oz hb, ot := own_below h.ot hb }
theorem far_c {g : Nat} {α : Type} {f : α -> List Value} {sz : Nat} {w : World} {A : Option Addr} {l : List α} (h : RdG f sz w w.heap.size A l) (hg : w.heap.size <= g) (hne : l ≠ []) : Away A g := fun b off e => by
 obtain ⟨x, hx⟩ := List.exists_mem_of_ne_nil l hne; obtain ⟨k, hk⟩ := List.getElem?_of_mem hx; obtain ⟨b', off', e', hb, -⟩ := h k x hk; rw [e] at e'
 cases e'
 omega
theorem M5.to {w w' : World} (h : M5 w0 w b5 b11 b12 b13 b14 b15 gx gy gz gt fl fc ll lc wn wc tn tc cx cy cz ct fa la wa ta c w_ l_ o_) {L : List IWag} (hL : L.length = wn) (t : Turn (fun x => x = gy) w w') (oy : w'.ownsRow w0.heap.size 65 4 (.slice (some ⟨gy, 0, none⟩) wn cy) wn (L.flatMap wgI)) (qy : QOk c { c with wg := L } 1) :
  ML w0 w' b5 b11 b12 b13 b14 b15 fl fc ll lc wn wc tn tc cx cy cz ct fa la wa ta (some ⟨gx, 0, none⟩) (some ⟨gy, 0, none⟩) (some ⟨gz, 0, none⟩) (some ⟨gt, 0, none⟩) c (cartX c w_) { c with wg := L } (cartZ c l_) (cartT c o_) ∧ Blk w' b15 31 #[.int .i64 c.riv.depth.lo, .int .i64 c.riv.depth.hi, .int .i64 c.riv.fall.lo, .int .i64 c.riv.fall.hi, .int .i64 c.riv.days, .slice fa fl fc, .slice la ll lc, .int .i64 c.draws, .slice none 0 0, .slice ta tn tc] := by
 obtain ⟨ckx, kx, -⟩ := own_blk h.ox; obtain ⟨cky, ky, hgy, -⟩ := own_blk h.oy; obtain ⟨ckz, kz, -⟩ := own_blk h.oz; obtain ⟨ckt, kt, -⟩ := own_blk h.ot
 have hC := h.hC.turned t (fun b e => by have e' : b = gy := e; omega) (blk_ne h.hC.box ky (by decide))
 have P' := hC.inn
 have no : ∀ {g : Nat} {cs : Array Value}, Blk w g 31 cs -> ¬ g = gy := fun hg => blk_ne hg ky (by decide)
 have ox' := own_turn h.ox t (fun g hg e => by cases hg; exact h.nxy e)
 have oz' := own_turn h.oz t (fun g hg e => by cases hg; exact blk_ne kz ky (by decide) e)
 have ot' := own_turn h.ot t (fun g hg e => by cases hg; exact blk_ne kt ky (by decide) e)
 have hv := h.hC.hv; have ht5 := hC.t5; have hw3 := hC.w3; have hll : ll <= 5 := by rw [<- hC.hP.riv.ell]; exact (okR_pts (okC_parts hC.ok).1).1.2.2.2.2
 have af : ∀ (q : c.riv.fr ≠ []), Away fa b15 := far_c hC.hP.riv.hfr h.ge; have al : ∀ (q : c.riv.lk ≠ []), Away la b15 := far_c hC.hP.riv.hlk h.ge; have aw : ∀ (q : c.wg ≠ []), Away wa b15 := far_c hC.hP.hwg h.ge; have at_ : ∀ (q : c.lt ≠ []), Away ta b15 := far_c hC.hP.hlt h.ge; have ew := hC.hP.ewn; have et := hC.hP.etn
 refine ⟨⟨hC, ⟨h.k11.turn t (no h.k11), { P' with ewn := by show (c.wg ++ [w_]).length = wn + 1; rw [List.length_append, ew]; rfl, hwg := RdG.of_own2 wgI_len (by decide) ox' (by show (c.wg ++ [w_]).length = wn + 1; rw [List.length_append, ew]; rfl), mwn := by omega }⟩,
  ⟨h.k12.turn t (no h.k12), { P' with ewn := hL, hwg := RdG.of_own2 wgI_len (by decide) oy hL }⟩,
  ⟨h.k13.turn t (no h.k13), { P' with etn := by show (c.lt ++ [l_]).length = tn + 1; rw [List.length_append, et]; rfl, hlt := RdG.of_own2 ltI_len (by decide) oz' (by show (c.lt ++ [l_]).length = tn + 1; rw [List.length_append, et]; rfl), mtn := by omega }⟩,
  ⟨h.k14.turn t (no h.k14), { P' with riv := { P'.riv with ell := by show (c.riv.lk ++ [o_]).length = ll + 1; rw [List.length_append, P'.riv.ell]; rfl, hlk := RdG.of_own2 lkI_len (by decide) ot' (by show (c.riv.lk ++ [o_]).length = ll + 1; rw [List.length_append, P'.riv.ell]; rfl), mll := by omega } }⟩,
  qok_x hv w_ 0, qy, qok_z hv l_ 2, qok_t hv o_, h.ge, h.n5, h.n11, h.n12, h.n13, h.n14,
  ⟨af, al, fun _ b off e => by cases e; exact blk_ne kx h.k15 (by decide), at_⟩, ⟨af, al, fun _ b off e => by cases e; exact blk_ne ky h.k15 (by decide), at_⟩, ⟨af, al, aw, fun _ b off e => by cases e; exact blk_ne kz h.k15 (by decide)⟩, ⟨af, fun _ b off e => by cases e; exact blk_ne kt h.k15 (by decide), aw, at_⟩⟩, h.k15.turn t (no h.k15)⟩
theorem convR {a : Act} {o : Oper} {x : Operand} {n : Int} (ho : o.op = .convert 5 3 x) (hx : a.eval x = .int .u8 n) (h0 : 0 <= n) (h1 : n <= 255) (w : World) : (execOp a.eval o).run Tryz.prog w = .ok (.value (.int .i64 n)) w := by
 have hd' : Tryz.prog.underlying 3 = some (.int (Tryz.prog.intKind 3)) := by kernel_rfl
 have hk : Tryz.prog.intKind 3 = .i64 := by kernel_rfl
 have h := run_convert_int (P := Tryz.prog) w 5 3 .u8 n (by kernel_rfl) hd'
 rw [hk, show IntKind.i64.wrap n = n from IntWalk.i64_in _ (by omega)] at h
 unfold execOp; rw [ho]; simp only [hx]
 show Sem.run Tryz.prog (do pure (Next.value (<- convert 5 3 (.int .u8 n)))) w = _
 simp [go_sem, h]
theorem min_runR (a b : Int) (w : World) : (Builtin.min_ #[3, 3] 3 #[.int .i64 a, .int .i64 b]).run Tryz.prog w = .ok (.int .i64 (min a b)) w := by
 simp [Builtin.min_, Builtin.min2]
 split <;> omega
theorem mr5 {K : World} (hM : M5 w0 K b5 b11 b12 b13 b14 b15 gx gy gz gt fl fc ll lc wn wc tn tc cx cy cz ct fa la wa ta c w_ l_ o_) {which : Nat} (hwh : which <= 255) : WR6 5 w0 (.int .u8 which) (.pointer (some ⟨b5, 0, none⟩)) (.pointer (some ⟨b11, 0, none⟩)) (.pointer (some ⟨b12, 0, none⟩)) (.pointer (some ⟨b13, 0, none⟩)) (.pointer (some ⟨b14, 0, none⟩)) (.pointer (some ⟨b15, 0, none⟩)) K := by
 unfold WR6 WG
 intros
 have hw3 := hM.hC.w3; have hx := hM.k12; obtain ⟨q0, q1, q2, q3, q4, q5, q6, q7, q8, q9, ql⟩ := cx31 hx; clear hx
 conv => arg 2; whnf
 conv => arg 2; arg 2; change mrK 6
 by_cases h0 : 0 < wn
 ·obtain ⟨kk, hke⟩ : ∃ kk, kk = which % wn := ⟨_, rfl⟩; have hkl : kk < wn := by rw [hke]; exact Nat.mod_lt _ h0
  obtain ⟨gg, hgg⟩ : ∃ f, c.wg[kk]? = some f := ⟨c.wg[kk]'(by rw [hM.hC.hP.ewn]; exact hkl), by simp⟩
  have hgb := wagB_iff.1 ((okC_parts hM.hC.ok).2.2.2.2.1 gg (List.mem_of_getElem? hgg)); obtain ⟨dd, hdd⟩ : ∃ dd, dd = which % 5 := ⟨_, rfl⟩; obtain ⟨m, hm⟩ : ∃ m : Int, min 30 (gg.room + dd) = m := ⟨_, rfl⟩; have hmr : gg.room <= m := by omega
  have HG : Hid (∀ w5, Below K.heap.size K w5 -> WR5 6 w0 (.pointer (some ⟨b5, 0, none⟩)) (.pointer (some ⟨b11, 0, none⟩)) (.pointer (some ⟨b12, 0, none⟩)) (.pointer (some ⟨b13, 0, none⟩)) (.pointer (some ⟨b14, 0, none⟩)) (.pointer (some ⟨b15, 0, none⟩)) (w5.setCell ⟨gy, kk * 4 + 3, none⟩ (.int .i64 m))) := fun w5 hb => by
   have h5 := hM.below hb
   have t : Turn (fun x => x = gy) w5 (w5.setCell ⟨gy, kk * 4 + 3, none⟩ (.int .i64 m)) := Turn.set (S := fun x => x = gy) ⟨gy, kk * 4 + 3, none⟩ _ (fun _ => rfl)
   have oy := own_set h5.oy (kk * 4 + 3) (.int .i64 m); rw [flat_set wgI_len (x' := { gg with room := m }) (by omega) hgg rfl] at oy
   obtain ⟨h6, h7⟩ := h5.to (by rw [List.length_set]; exact hM.hC.hP.ewn) t oy (qok_y hM.hC.hv hgg hmr 1)
   exact mr6 h6 h7
  have HK0 := hd9 hM; have tk : (which : Int).tmod (wn : Int) = (kk : Int) := by rw [Int.tmod_eq_emod_of_nonneg (by omega), hke]; exact (Int.natCast_emod _ _).symm
  have hfi : (0 : Int) < (wn : Int) := by omega
  have hf1 : ((wn : Int) == 0) = false := by simp; omega
  have hf2 : ¬ wn = 0 := by omega
  have hf3 : ¬ (wn : Int) = 0 := by omega
  have k0 : (0 : Int) <= (which : Int) := by omega
  have k1 : (which : Int) <= 255 := by omega
  have hkli : (kk : Int) < (wn : Int) := by omega
  have hm2 := hM.hC.hP.mwn; have HR : Hid (gg.room + dd <= 35 ∧ 0 <= gg.room + dd) := ⟨by omega, by omega⟩
  have HGG := hd9 hgg; have HM := hd9 hm; have HDD := hd9 hdd; clear hM hke hgg hgb h0 hm hdd hmr; go_upto_region 7 with (fail)
  refine wp_region_havoc [(0,false),(1,false),(2,false),(3,false),(4,false),(5,false),(6,false),(7,false),(8,false),(9,false),(10,false)] [] (fun _ _ => False) (by kernel_rfl) (by kernel_rfl) (fun _ _ _ _ h => h.elim) ?_
  (apply hav_same (by exact ho rfl) (by kernel_rfl); (focus (intro wv hgv _; have hcv := cvB hgv; (try go_simp); try rfl; done)); simp only [Act.put, qA9, qB9, qC9])
  iterate 2 (apply hav_same (by exact ho rfl) (by kernel_rfl); (focus (intro wv hgv _; have hcv := cvB hgv; (try go_simp); try rfl; done)); simp only [Act.put, qA9, qB9, qC9])
  (apply hav_same (by exact ho rfl) (by kernel_rfl); (focus (intro wv hgv _; exact convR rfl rfl k0 k1 _)); simp only [Act.put, qA9, qB9, qC9])
  iterate 7 (apply hav_same (by exact ho rfl) (by kernel_rfl); (focus (intro wv hgv _; have hcv := cvB hgv; (try go_simp); try rfl; done)); simp only [Act.put, qA9, qB9, qC9])
  refine hav_end (fun w5 hgz _ => ?_)
  simp only [List.filterMap]; have HWD : Hid (Below K.heap.size K w5) := hgz; clear hgz; clear q0 q1 q2 q3 q4 q5 q6 q7 q8 q9 ql; obtain ⟨cky, ky, -⟩ := own_blk (HK0.out.below HWD.out).oy; have y3 : w5.cell? ⟨gy, kk * 4 + 3, none⟩ = some (.int .i64 gg.room) := own_cell2 (HK0.out.below HWD.out).oy (kk * 4 + 3) _ (by rw [flat_get wgI 4 wgI_len _ _ _ (by omega), HGG.out]; rfl)
  have yf := ky.frozen (kk * 4 + 3); have yl := ky.lt; clear ky; have t5 : (which : Int).tmod 5 = (dd : Int) := by rw [Int.tmod_eq_emod_of_nonneg (by omega), HDD.out]; exact (Int.natCast_emod _ _).symm
  have hmn : ∀ w, (Builtin.min_ #[3, 3] 3 #[.int .i64 30, .int .i64 (gg.room + dd)]).run Tryz.prog w = .ok (.int .i64 m) w := fun w => by rw [min_runR, HM.out]
  have hwr : IntKind.i64.wrap (gg.room + dd) = gg.room + dd := IntWalk.i64_in _ (by have := HR.out; omega)
  go_wp2; exact (HG.out w5 HWD.out).go.go
 ·obtain rfl : wn = 0 := by omega
  have hL : c.wg = [] := List.eq_nil_of_length_eq_zero hM.hC.hP.ewn
  have HG : Hid (WR5 6 w0 (.pointer (some ⟨b5, 0, none⟩)) (.pointer (some ⟨b11, 0, none⟩)) (.pointer (some ⟨b12, 0, none⟩)) (.pointer (some ⟨b13, 0, none⟩)) (.pointer (some ⟨b14, 0, none⟩)) (.pointer (some ⟨b15, 0, none⟩)) K) := by
   obtain ⟨h6, h7⟩ := hM.to hM.hC.hP.ewn (Turn.refl _ _) hM.oy (qok_c hM.hC.hv 1); exact mr6 h6 h7
  clear hM hL h0; go_wp2; exact (HG.out).go.go
end
end Go.Proofs.YtgmfhngcehkibaaGreat
namespace Go.HavG
open Go.RowKit
section
variable {R : Rel} {P : Program} {ops : Array Oper}
theorem wp_region_tabQ {Q : Exit -> Act -> World -> Prop} (Φ : Nat -> (Nat -> Value) -> World -> Prop) (Ψ : Nat -> World -> Prop) (J : List Nat -> Act -> World -> Prop) (Old : Nat -> Nat -> Prop) (nw : List Nat) (sl : List (Option Nat)) {id : Nat} {a : Act} {w : World} (hm : P.follows .mixedOrders = true) (hok : tabSOk ops sl = true)
  (hsz : (sl.all fun d => match d with | some d => decide (d < a.tmps.size) | none => true) = true) (h0 : ∀ i, i < sl.length -> Ψ i { w with drawn := w.drawn + 1 }) (hJ : J (List.range sl.length) a { w with drawn := w.drawn + 1 }) (hold : ∀ i b, Old i b -> b < w.heap.size) (hdis : ∀ i j b, i ≠ j -> Old i b -> ¬ Old j b) (hG : ∀ {u u' : World}, R.G u u' -> u.heap.size <= u'.heap.size)
  (hcg : ∀ i, i < sl.length -> ∀ V V' w, Φ i V w -> (∀ j, j = i ∨ ((Region.before ops).getD i 0).testBit j = true -> V j = V' j) -> Φ i V' w)
  (hnw : ∀ i ∈ nw, ∀ V w, Φ i V w -> bkV (V i) < w.heap.size)
  (hstep : ∀ i, i < sl.length -> ∀ o a' w', ops[i]? = some o -> Agree ops (List.range sl.length) a a' -> R.G w w' -> (∀ j, ((Region.before ops).getD i 0).testBit j = true -> j < sl.length -> Φ j (valV sl (slot a')) w') -> (∀ j k, j ∈ nw -> k ∈ nw -> j ≠ k -> j < sl.length -> k < sl.length -> ((Region.before ops).getD i 0).testBit j = true -> ((Region.before ops).getD i 0).testBit k = true -> bkV (valV sl (slot a') j) ≠ bkV (valV sl (slot a') k)) -> Ψ i w' -> (∀ d, ((List.range sl.length).all fun k => !(sl[k]? == some (some d)) || ((Region.before ops).getD k 0).testBit i) = true -> slot a' d = slot a d) -> ∀ rem : List Nat, i ∈ rem -> rem.Nodup -> (∀ j ∈ rem, ((Region.before ops).getD i 0).testBit j = false) -> (∀ k, k < sl.length -> k ∉ rem -> ((Region.before ops).getD k 0).testBit i = false) -> J rem a' w' ->
   stepOf P ops o a' w' (fun a'' w'' => ∃ v, a'' = a'.put o.dst v ∧ (R.G w' w'' ∧ J (rem.erase i) (a'.put o.dst v) w'') ∧ (∀ k V, V = valV sl (slot a') -> k < sl.length -> k ≠ i -> ((Region.before ops).getD k 0).testBit i = false -> Φ k V w' -> Φ k V w'') ∧ (∀ k, k < sl.length -> k ≠ i -> ((Region.before ops).getD i 0).testBit k = false -> Ψ k w' -> Ψ k w'') ∧ (∀ V, (∀ j, j ≠ i -> V j = valV sl (slot a') j) -> (o.dst ≠ none -> V i = v) -> Φ i V w'') ∧ (i ∈ nw -> o.dst ≠ none ∧ (w'.heap.size <= bkV v ∨ Old i (bkV v)))) Q)
  (hend : ∀ (f : Nat -> Value) w', R.G w w' -> J [] (puts f (sl.filterMap fun d => d) a) w' -> (∀ i, i < sl.length -> Φ i (valV sl f) w') -> (∀ i j, i ∈ nw -> j ∈ nw -> i ≠ j -> i < sl.length -> j < sl.length -> bkV (valV sl f i) ≠ bkV (valV sl f j)) -> wpList P ops Q [] (puts f (sl.filterMap fun d => d) a) w') : (Code.region id ops true).wp P Q a w := by
 simp only [tabSOk, Bool.and_eq_true] at hok; obtain ⟨k1, k2, k3⟩ := hok
 have hdst : ∀ i o, i < sl.length -> ops[i]? = some o -> sl[i]? = some o.dst := fun i o hi ho => by
  have := List.all_eq_true.1 k2 i (List.mem_range.2 hi); rw [ho] at this
  simpa using this
 have hinj : ∀ i k d, i < sl.length -> k < sl.length -> sl[i]? = some (some d) -> sl[k]? = some (some d) -> i = k := fun i k d hi hk h1 h2 => by
  have := List.all_eq_true.1 (List.all_eq_true.1 k3 i (List.mem_range.2 hi)) k (List.mem_range.2 hk); rw [h1, h2] at this
  simpa using this
 refine wp_region_gen (P := P) (fun rem a' w' => R.G w w' ∧ a'.tmps.size = a.tmps.size ∧ (∀ i ∈ rem, i < sl.length) ∧ (∀ k, k < sl.length -> k ∉ rem -> ∀ i ∈ rem, ((Region.before ops).getD k 0).testBit i = false) ∧ (∀ i, i < sl.length -> i ∉ rem -> Φ i (valV sl (slot a')) w') ∧ (∀ i ∈ rem, Ψ i w') ∧ (∀ d, (∀ k, k < sl.length -> sl[k]? = some (some d) -> k ∈ rem) -> slot a' d = slot a d) ∧ J rem a' w' ∧ (∀ i ∈ nw, i < sl.length -> i ∉ rem -> w.heap.size <= bkV (valV sl (slot a') i) ∨ Old i (bkV (valV sl (slot a') i))) ∧
   ∀ i j, i ∈ nw -> j ∈ nw -> i ≠ j -> i < sl.length -> j < sl.length -> i ∉ rem -> j ∉ rem -> bkV (valV sl (slot a') i) ≠ bkV (valV sl (slot a') j)) (List.range sl.length) [] hm k1
  ⟨R.drew w, rfl, fun i hi => List.mem_range.1 hi, fun k hk hn => absurd (List.mem_range.2 hk) hn, fun i hi hn => absurd (List.mem_range.2 hi) hn, fun i hi => h0 i (List.mem_range.1 hi), fun _ _ => rfl, hJ, fun i _ hi hn => absurd (List.mem_range.2 hi) hn, fun i j _ _ _ hi _ hn => absurd (List.mem_range.2 hi) hn⟩ ?_ ?_
 ·rintro rem i o a' w' hmem hnd ho hag hdep ⟨hg, hs, hlt, hdp, hf, hpsi, hsl, hj, hno, hap⟩; have hil := hlt i hmem; have hd := hdst i o hil ho
  have h := hstep i hil o a' w' ho hag hg (fun j hj hjl => hf j hjl (fun hm => by have := hdep j hm; rw [this] at hj; cases hj)) (fun j k hj hk hjk hjl hkl bj bk => hap j k hj hk hjk hjl hkl (fun hm => by have := hdep j hm; rw [this] at bj; cases bj) (fun hm => by have := hdep k hm; rw [this] at bk; cases bk)) (hpsi i hmem) (fun d hd => hsl d fun k hk hkd => by
   have h1 := List.all_eq_true.1 hd k (List.mem_range.2 hk); rw [hkd] at h1
   apply Classical.byContradiction
   intro hn; have h2 := hdp k hk hn i hmem; rw [h2] at h1
   simp at h1) rem hmem hnd hdep (fun k hk hn => hdp k hk hn i hmem) hj
  have next : ∀ a'' w'', (∃ v, a'' = a'.put o.dst v ∧ (R.G w' w'' ∧ J (rem.erase i) (a'.put o.dst v) w'') ∧ (∀ k V, V = valV sl (slot a') -> k < sl.length -> k ≠ i -> ((Region.before ops).getD k 0).testBit i = false -> Φ k V w' -> Φ k V w'') ∧ (∀ k, k < sl.length -> k ≠ i -> ((Region.before ops).getD i 0).testBit k = false -> Ψ k w' -> Ψ k w'') ∧ (∀ V, (∀ j, j ≠ i -> V j = valV sl (slot a') j) -> (o.dst ≠ none -> V i = v) -> Φ i V w'') ∧ (i ∈ nw -> o.dst ≠ none ∧ (w'.heap.size <= bkV v ∨ Old i (bkV v)))) ->
    ∃ v, a'' = a'.put o.dst v ∧ R.G w w'' ∧ a''.tmps.size = a.tmps.size ∧ (∀ k ∈ rem.erase i, k < sl.length) ∧ (∀ k, k < sl.length -> k ∉ rem.erase i -> ∀ j ∈ rem.erase i, ((Region.before ops).getD k 0).testBit j = false) ∧ (∀ k, k < sl.length -> k ∉ rem.erase i -> Φ k (valV sl (slot a'')) w'') ∧ (∀ k ∈ rem.erase i, Ψ k w'') ∧ (∀ d, (∀ k, k < sl.length -> sl[k]? = some (some d) -> k ∈ rem.erase i) -> slot a'' d = slot a d) ∧ J (rem.erase i) a'' w'' ∧ (∀ k ∈ nw, k < sl.length -> k ∉ rem.erase i -> w.heap.size <= bkV (valV sl (slot a'') k) ∨ Old k (bkV (valV sl (slot a'') k))) ∧
    ∀ k j, k ∈ nw -> j ∈ nw -> k ≠ j -> k < sl.length -> j < sl.length -> k ∉ rem.erase i -> j ∉ rem.erase i -> bkV (valV sl (slot a'') k) ≠ bkV (valV sl (slot a'') j) := by
   rintro a'' w'' ⟨v, rfl, ⟨hg2, hj2⟩, hkp, hps2, hphi, hnew⟩
   have was : ∀ k, k ≠ i -> k ∉ rem.erase i -> k ∉ rem := fun k e hk hm => hk (hnd.mem_erase_iff.2 ⟨e, hm⟩)
   have keep : ∀ j, j ≠ i -> valV sl (slot (a'.put o.dst v)) j = valV sl (slot a') j := fun j e => by
    unfold valV
    cases hj : sl[j]? with
    | none => rfl
    | some dj =>
     cases dj with
     | none => rfl
     | some d =>
      show slot (a'.put o.dst v) d = slot a' d
      exact slot_put _ (fun he => e (hinj j i d (List.getElem?_eq_some_iff.1 hj).1 hil hj (by rw [hd, he])))
   have self : o.dst ≠ none -> valV sl (slot (a'.put o.dst v)) i = v := fun hn => by
    unfold valV; rw [hd]
    cases hod : o.dst with
    | none => exact absurd hod hn
    | some d =>
     rw [hod] at hd
     exact slot_self v (by
      rw [hs]; have := List.all_eq_true.1 hsz (some d) (List.mem_of_getElem? hd)
      simpa using this)
   have dif : ∀ k, k ∈ nw -> i ∈ nw -> k ≠ i -> k < sl.length -> k ∉ rem.erase i -> bkV (valV sl (slot a') k) ≠ bkV v := fun k hk hi e hkl hr he => by
    have h1 := hnw k hk _ _ (hf k hkl (was k e hr)); rcases (hnew hi).2 with h2 | h2
    ·omega
    ·rcases hno k hk hkl (was k e hr) with h3 | h3
     ·have := hold _ _ h2; omega
     ·exact hdis k i _ e h3 (by rw [he]; exact h2)
   refine ⟨v, rfl, R.trans hg hg2, ?_, fun k hk => hlt k (List.mem_of_mem_erase hk), fun k hkl hk j hj => ?_, fun k hkl hk => ?_, fun k hk => hps2 k (hlt k (List.mem_of_mem_erase hk)) (fun e => (hnd.mem_erase_iff.1 hk).1 e) (hdep k (List.mem_of_mem_erase hk)) (hpsi k (List.mem_of_mem_erase hk)), fun d hdd => ?_, hj2, fun k hkn hkl hk => ?_, fun k j hkn hjn hkj hkl hjl hk hj => ?_⟩
   ·cases hod : o.dst with
    | none => exact hs
    | some d => simp [Act.put, hs]
   ·by_cases e : k = i
    ·subst e; exact hdep j (List.mem_of_mem_erase hj)
    ·exact hdp k hkl (was k e hk) j (List.mem_of_mem_erase hj)
   ·by_cases e : k = i
    ·subst e
     exact hphi _ (fun j hj => keep j hj) self
    ·refine hcg k hkl _ _ _ (hkp k _ rfl hkl e (hdp k hkl (was k e hk) i hmem) (hf k hkl (was k e hk))) (fun j hj => (keep j (fun ej => ?_)).symm)
     subst ej; rcases hj with rfl | hj
     ·exact e rfl
     ·have := hdp k hkl (was k e hk) j hmem; rw [this] at hj; cases hj
   ·rw [slot_put _ (fun e => (hnd.mem_erase_iff.1 (hdd i hil (by rw [hd, e]))).1 rfl)]
    exact hsl d (fun k hk hkd => List.mem_of_mem_erase (hdd k hk hkd))
   ·by_cases e : k = i
    ·subst e; rw [self (hnew hkn).1]
     exact (hnew hkn).2.imp (fun h => Nat.le_trans (hG hg) h) (fun h => h)
    ·rw [keep k e]; exact hno k hkn hkl (was k e hk)
   ·by_cases e1 : k = i
    ·subst e1; rw [self (hnew hkn).1, keep j (Ne.symm hkj)]; exact (dif j hjn hkn (Ne.symm hkj) hjl hj).symm
    ·by_cases e2 : j = i
     ·subst e2; rw [self (hnew hjn).1, keep k e1]; exact dif k hkn hjn e1 hkl hk
     ·rw [keep k e1, keep j e2]; exact hap k j hkn hjn hkj hkl hjl (was k e1 hk) (was j e2 hj)
  unfold stepOf at h ⊢
  split
  ·rename_i hw
   rw [if_pos hw] at h; exact Oper.wp_mono next h
  ·rename_i hw
   rw [if_neg hw] at h; exact next _ _ h
 ·rintro a' w' hag ⟨hg, hs, _, _, hf, _, _, hj, _, hap⟩
  have he := agree_puts hag (sl.filterMap fun d => d) (by
   rw [List.all_eq_true]; intro i hi; have hil := List.mem_range.1 hi
   cases ho : ops[i]? with
   | none => rfl
   | some o =>
    have hd := hdst i o hil ho
    cases hod : o.dst with
    | none => simp [hod]
    | some d =>
     simp only [hod]; rw [hod] at hd
     simpa using List.mem_of_getElem? hd)
  rw [he]
  exact hend (slot a') w' hg (by rw [<- he]; exact hj) (fun i hi => hf i hi (by simp)) (fun i j hi hj hij hil hjl => hap i j hi hj hij hil hjl (by simp) (by simp))
end
end Go.HavG
namespace Go.Proofs.YtgmfhngcehkibaaGreat
open Go.RowKit Go.Hav Go.Shelf Go.Sq
open Go.HavG (slot slot_put slot_self)
def ch (p0 p1 p2 s0 s1 s2 : Nat) (rem : List Nat) (a : Act) : Value := if p2 ∈ rem then (if p1 ∈ rem then (if p0 ∈ rem then .slice none 0 0 else slot a s0) else slot a s1) else slot a s2
def chN (p1 p2 n1 n2 : Nat) (rem : List Nat) : Nat := if p2 ∈ rem then (if p1 ∈ rem then 0 else n1) else n2
def chX (p1 p2 : Nat) (x1 x2 : List Value) (rem : List Nat) : List Value := if p2 ∈ rem then (if p1 ∈ rem then [] else x1) else x2
structure Ch (B e sz p0 p1 p2 s0 s1 s2 n1 n2 : Nat) (x1 x2 : List Value) (rem : List Nat) (a : Act) (w : World) : Prop where
 own : w.ownsRow B e sz (ch p0 p1 p2 s0 s1 s2 rem a) (chN p1 p2 n1 n2 rem) (chX p1 p2 x1 x2 rem)
section
variable {B e sz p0 p1 p2 s0 s1 s2 n1 n2 i : Nat} {x1 x2 : List Value} {rem : List Nat} {a : Act} {w w' : World} {d : Option Tmp} {v : Value}
theorem ch_skip (h0 : i ≠ p0) (h1 : i ≠ p1) (h2 : i ≠ p2) (d0 : d ≠ some s0) (d1 : d ≠ some s1) (d2 : d ≠ some s2) : ch p0 p1 p2 s0 s1 s2 (rem.erase i) (a.put d v) = ch p0 p1 p2 s0 s1 s2 rem a := by
 unfold ch; simp only [List.mem_erase_of_ne (Ne.symm h0), List.mem_erase_of_ne (Ne.symm h1), List.mem_erase_of_ne (Ne.symm h2), slot_put v d0, slot_put v d1, slot_put v d2]
theorem Ch.skip (h : Ch B e sz p0 p1 p2 s0 s1 s2 n1 n2 x1 x2 rem a w) (h0 : i ≠ p0) (h1 : i ≠ p1) (h2 : i ≠ p2) (d0 : d ≠ some s0) (d1 : d ≠ some s1) (d2 : d ≠ some s2) (k : ∀ v n xs, w.ownsRow B e sz v n xs -> w'.ownsRow B e sz v n xs) : Ch B e sz p0 p1 p2 s0 s1 s2 n1 n2 x1 x2 (rem.erase i) (a.put d v) w' := by
 refine ⟨?_⟩; rw [ch_skip h0 h1 h2 d0 d1 d2]; have e1 : chN p1 p2 n1 n2 (rem.erase i) = chN p1 p2 n1 n2 rem := by unfold chN; simp only [List.mem_erase_of_ne (Ne.symm h1), List.mem_erase_of_ne (Ne.symm h2)]
 have e2 : chX p1 p2 x1 x2 (rem.erase i) = chX p1 p2 x1 x2 rem := by unfold chX; simp only [List.mem_erase_of_ne (Ne.symm h1), List.mem_erase_of_ne (Ne.symm h2)]
 rw [e1, e2]; exact k _ _ _ h.own
theorem ch_zero (m1 : p1 ∈ rem) (m2 : p2 ∈ rem) (hnd : rem.Nodup) (n01 : p0 ≠ p1) (n02 : p0 ≠ p2) (hs : s0 < a.tmps.size) : ch p0 p1 p2 s0 s1 s2 (rem.erase p0) (a.put (some s0) v) = v := by
 unfold ch
 rw [if_pos (hnd.mem_erase_iff.2 ⟨Ne.symm n02, m2⟩), if_pos (hnd.mem_erase_iff.2 ⟨Ne.symm n01, m1⟩), if_neg (fun h => (hnd.mem_erase_iff.1 h).1 rfl), slot_self v hs]
theorem Ch.zero (m1 : p1 ∈ rem) (m2 : p2 ∈ rem) (hnd : rem.Nodup) (n01 : p0 ≠ p1) (n02 : p0 ≠ p2) (hs : s0 < a.tmps.size) (ho : w'.ownsRow B e sz v 0 []) : Ch B e sz p0 p1 p2 s0 s1 s2 n1 n2 x1 x2 (rem.erase p0) (a.put (some s0) v) w' := by
 refine ⟨?_⟩; rw [ch_zero m1 m2 hnd n01 n02 hs]; unfold chN chX; rw [if_pos (hnd.mem_erase_iff.2 ⟨Ne.symm n02, m2⟩), if_pos (hnd.mem_erase_iff.2 ⟨Ne.symm n01, m1⟩), if_pos (hnd.mem_erase_iff.2 ⟨Ne.symm n02, m2⟩), if_pos (hnd.mem_erase_iff.2 ⟨Ne.symm n01, m1⟩)]; exact ho
theorem Ch.at0 (h : Ch B e sz p0 p1 p2 s0 s1 s2 n1 n2 x1 x2 rem a w) (m0 : ¬ p0 ∈ rem) (m1 : p1 ∈ rem) (m2 : p2 ∈ rem) : w.ownsRow B e sz (slot a s0) 0 [] := by
 have := h.own; unfold ch chN chX at this; rw [if_pos m2, if_pos m1, if_neg m0, if_pos m2, if_pos m1, if_pos m2, if_pos m1] at this; exact this
theorem ch_one (m2 : p2 ∈ rem) (hnd : rem.Nodup) (n12 : p1 ≠ p2) (hs : s1 < a.tmps.size) : ch p0 p1 p2 s0 s1 s2 (rem.erase p1) (a.put (some s1) v) = v := by
 unfold ch
 rw [if_pos (hnd.mem_erase_iff.2 ⟨Ne.symm n12, m2⟩), if_neg (fun h => (hnd.mem_erase_iff.1 h).1 rfl), slot_self v hs]
theorem Ch.one (m2 : p2 ∈ rem) (hnd : rem.Nodup) (n12 : p1 ≠ p2) (hs : s1 < a.tmps.size) (ho : w'.ownsRow B e sz v n1 x1) : Ch B e sz p0 p1 p2 s0 s1 s2 n1 n2 x1 x2 (rem.erase p1) (a.put (some s1) v) w' := by
 refine ⟨?_⟩; rw [ch_one m2 hnd n12 hs]; unfold chN chX
 rw [if_pos (hnd.mem_erase_iff.2 ⟨Ne.symm n12, m2⟩), if_neg (fun h => (hnd.mem_erase_iff.1 h).1 rfl), if_pos (hnd.mem_erase_iff.2 ⟨Ne.symm n12, m2⟩), if_neg (fun h => (hnd.mem_erase_iff.1 h).1 rfl)]
 exact ho
theorem Ch.at1 (h : Ch B e sz p0 p1 p2 s0 s1 s2 n1 n2 x1 x2 rem a w) (m1 : ¬ p1 ∈ rem) (m2 : p2 ∈ rem) : w.ownsRow B e sz (slot a s1) n1 x1 ∧ ch p0 p1 p2 s0 s1 s2 rem a = slot a s1 := by
 have := h.own; have e : ch p0 p1 p2 s0 s1 s2 rem a = slot a s1 := by unfold ch; rw [if_pos m2, if_neg m1]
 rw [e] at this; unfold chN chX at this; rw [if_pos m2, if_neg m1, if_pos m2, if_neg m1] at this; exact ⟨this, e⟩
theorem ch_two (hnd : rem.Nodup) (hs : s2 < a.tmps.size) : ch p0 p1 p2 s0 s1 s2 (rem.erase p2) (a.put (some s2) v) = v := by
 unfold ch
 rw [if_neg (fun h => (hnd.mem_erase_iff.1 h).1 rfl), slot_self v hs]
theorem Ch.two (hnd : rem.Nodup) (hs : s2 < a.tmps.size) (ho : w'.ownsRow B e sz v n2 x2) : Ch B e sz p0 p1 p2 s0 s1 s2 n1 n2 x1 x2 (rem.erase p2) (a.put (some s2) v) w' := by
 refine ⟨?_⟩; rw [ch_two hnd hs]; unfold chN chX
 rw [if_neg (fun h => (hnd.mem_erase_iff.1 h).1 rfl), if_neg (fun h => (hnd.mem_erase_iff.1 h).1 rfl)]
 exact ho
theorem Ch.end_ (h : Ch B e sz p0 p1 p2 s0 s1 s2 n1 n2 x1 x2 [] a w) : w.ownsRow B e sz (slot a s2) n2 x2 := h.own
theorem Ch.start {w : World} (m0 : p0 ∈ rem) (m1 : p1 ∈ rem) (m2 : p2 ∈ rem) : Ch B e sz p0 p1 p2 s0 s1 s2 n1 n2 x1 x2 rem a w := by
 refine ⟨?_⟩; unfold ch chN chX; rw [if_pos m2, if_pos m1, if_pos m0, if_pos m2, if_pos m1, if_pos m2, if_pos m1]; exact own_nil _ _ _ _
def One (e q p s : Nat) (xs : List Value) (rem : List Nat) (a : Act) (w : World) : Prop := q ∉ rem -> p ∈ rem -> ∃ g, slot a s = .slice (some ⟨g, 0, none⟩) 1 1 ∧ Blk w g e xs.toArray
variable {q p s : Nat} {xs : List Value}
theorem One.skip (h : One e q p s xs rem a w) (h1 : i ≠ q) (h2 : d ≠ some s) (k : ∀ g cs, Blk w g e cs -> Blk w' g e cs) : One e q p s xs (rem.erase i) (a.put d v) w' := fun m1 m2 => by
 obtain ⟨g, e1, hb⟩ := h (fun hm => m1 ((List.mem_erase_of_ne (Ne.symm h1)).2 hm)) (List.mem_of_mem_erase m2)
 exact ⟨g, by rw [slot_put v h2]; exact e1, k _ _ hb⟩
theorem One.new {g : Nat} (hs : s < a.tmps.size) (hb : Blk w' g e xs.toArray) : One e q p s xs (rem.erase q) (a.put (some s) (.slice (some ⟨g, 0, none⟩) 1 1)) w' := fun _ _ => ⟨g, slot_self _ hs, hb⟩
theorem One.off (hnd : rem.Nodup) : One e q p s xs (rem.erase p) a w' := fun _ m2 => absurd rfl (hnd.mem_erase_iff.1 m2).1
end
end Go.Proofs.YtgmfhngcehkibaaGreat
