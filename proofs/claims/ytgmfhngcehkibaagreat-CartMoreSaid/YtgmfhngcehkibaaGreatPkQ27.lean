/- The law CartMore. Condition: what the statements say. -/
import Derived.Test.YtgmfhngcehkibaaGreatPkQ26
import Derived.ChangeOld
set_option maxRecDepth 100000
set_option maxHeartbeats 6400000
namespace Go.Proofs.YtgmfhngcehkibaaGreat
section
open Go.RowKit Go.Hav Go.Shelf Go.Sq
attribute [local go_sem] Oper.semAt_some
def r3T (BW fl fc ll lc wn wc tn tc : Nat) (fa la wa ta : Option Addr) (c : ICart) (i : Nat) (V : Nat -> Value) (w : World) : Prop :=
 match i with
 | 0 => V 0 = .agg (CX9 c fa fl fc la ll lc wa wn wc ta tn tc)
 | 1 => V 1 = .agg (CX9 c fa fl fc la ll lc wa wn wc ta tn tc)
 | 2 => V 2 = .agg (CX9 c fa fl fc la ll lc wa wn wc ta tn tc)
 | 3 => V 3 = .agg (CX9 c fa fl fc la ll lc wa wn wc ta tn tc)
 | 4 => V 4 = .agg (CX9 c fa fl fc la ll lc wa wn wc ta tn tc)
 | 5 => ∃ g, V 5 = .pointer (some ⟨g, 0, none⟩) ∧ BW <= g ∧ ∃ u0 u1 u2 u3 u4 u5 u6 u7 u8 u9, Blk w g 31 #[u0, u1, u2, u3, u4, u5, u6, u7, u8, u9]
 | 6 => ∃ g, V 6 = .pointer (some ⟨g, 0, none⟩) ∧ BW <= g ∧ ∃ u0 u1 u2 u3 u4 u5 u6 u7 u8 u9, Blk w g 31 #[u0, u1, u2, u3, u4, u5, u6, u7, u8, u9]
 | 7 => ∃ g, V 7 = .pointer (some ⟨g, 0, none⟩) ∧ BW <= g ∧ ∃ u0 u1 u2 u3 u4 u5 u6 u7 u8 u9, Blk w g 31 #[u0, u1, u2, u3, u4, u5, u6, u7, u8, u9]
 | 8 => ∃ g, V 8 = .pointer (some ⟨g, 0, none⟩) ∧ BW <= g ∧ ∃ u0 u1 u2 u3 u4 u5 u6 u7 u8 u9, Blk w g 31 #[u0, u1, u2, u3, u4, u5, u6, u7, u8, u9]
 | 9 => ∃ g, V 9 = .pointer (some ⟨g, 0, none⟩) ∧ BW <= g ∧ ∃ u0 u1 u2 u3 u4 u5 u6 u7 u8 u9, Blk w g 31 #[u0, u1, u2, u3, u4, u5, u6, u7, u8, u9]
 | 10 => ∃ h, V 5 = .pointer (some ⟨h, 0, none⟩) ∧ Blk w h 31 (CX9 c fa fl fc la ll lc wa wn wc ta tn tc)
 | 11 => ∃ h, V 6 = .pointer (some ⟨h, 0, none⟩) ∧ Blk w h 31 (CX9 c fa fl fc la ll lc wa wn wc ta tn tc)
 | 12 => ∃ h, V 7 = .pointer (some ⟨h, 0, none⟩) ∧ Blk w h 31 (CX9 c fa fl fc la ll lc wa wn wc ta tn tc)
 | 13 => ∃ h, V 8 = .pointer (some ⟨h, 0, none⟩) ∧ Blk w h 31 (CX9 c fa fl fc la ll lc wa wn wc ta tn tc)
 | 14 => ∃ h, V 9 = .pointer (some ⟨h, 0, none⟩) ∧ Blk w h 31 (CX9 c fa fl fc la ll lc wa wn wc ta tn tc)
 | _ => True
section
variable {BW fl fc ll lc wn wc tn tc i : Nat} {fa la wa ta : Option Addr} {c : ICart} {V : Nat -> Value} {w w' : World}
theorem r3_grow (h : r3T BW fl fc ll lc wn wc tn tc fa la wa ta c i V w) (hb : Below w.heap.size w w') : r3T BW fl fc ll lc wn wc tn tc fa la wa ta c i V w' := by
 unfold r3T at h ⊢
 split at h
 case h_6 => obtain ⟨g, e, e2, u0, u1, u2, u3, u4, u5, u6, u7, u8, u9, h⟩ := h; exact ⟨g, e, e2, _, _, _, _, _, _, _, _, _, _, h.below hb h.lt⟩
 case h_7 => obtain ⟨g, e, e2, u0, u1, u2, u3, u4, u5, u6, u7, u8, u9, h⟩ := h; exact ⟨g, e, e2, _, _, _, _, _, _, _, _, _, _, h.below hb h.lt⟩
 case h_8 => obtain ⟨g, e, e2, u0, u1, u2, u3, u4, u5, u6, u7, u8, u9, h⟩ := h; exact ⟨g, e, e2, _, _, _, _, _, _, _, _, _, _, h.below hb h.lt⟩
 case h_9 => obtain ⟨g, e, e2, u0, u1, u2, u3, u4, u5, u6, u7, u8, u9, h⟩ := h; exact ⟨g, e, e2, _, _, _, _, _, _, _, _, _, _, h.below hb h.lt⟩
 case h_10 => obtain ⟨g, e, e2, u0, u1, u2, u3, u4, u5, u6, u7, u8, u9, h⟩ := h; exact ⟨g, e, e2, _, _, _, _, _, _, _, _, _, _, h.below hb h.lt⟩
 case h_11 => obtain ⟨k, e, h⟩ := h; exact ⟨k, e, h.below hb h.lt⟩
 case h_12 => obtain ⟨k, e, h⟩ := h; exact ⟨k, e, h.below hb h.lt⟩
 case h_13 => obtain ⟨k, e, h⟩ := h; exact ⟨k, e, h.below hb h.lt⟩
 case h_14 => obtain ⟨k, e, h⟩ := h; exact ⟨k, e, h.below hb h.lt⟩
 case h_15 => obtain ⟨k, e, h⟩ := h; exact ⟨k, e, h.below hb h.lt⟩
 all_goals exact h
theorem r3_store {g : Nat} (h : r3T BW fl fc ll lc wn wc tn tc fa la wa ta c i V w) (ts : Turn (fun b => b = g) w w') (hC : Blk w' g 31 (CX9 c fa fl fc la ll lc wa wn wc ta tn tc)) (far : ∀ k, i = k + 5 -> 5 <= k -> ∀ h, V k = .pointer (some ⟨h, 0, none⟩) -> h ≠ g) : r3T BW fl fc ll lc wn wc tn tc fa la wa ta c i V w' := by
 have any : ∀ {q : Nat}, (∃ u0 u1 u2 u3 u4 u5 u6 u7 u8 u9, Blk w q 31 #[u0, u1, u2, u3, u4, u5, u6, u7, u8, u9]) -> ∃ u0 u1 u2 u3 u4 u5 u6 u7 u8 u9, Blk w' q 31 #[u0, u1, u2, u3, u4, u5, u6, u7, u8, u9] := fun {q} hq => by
  by_cases e : q = g
  ·subst e; exact ⟨_, _, _, _, _, _, _, _, _, _, hC⟩
  ·obtain ⟨u0, u1, u2, u3, u4, u5, u6, u7, u8, u9, hq⟩ := hq; exact ⟨_, _, _, _, _, _, _, _, _, _, hq.turn ts e⟩
 unfold r3T at h ⊢
 split at h
 case h_6 => obtain ⟨q, e, e2, h⟩ := h; exact ⟨q, e, e2, any h⟩
 case h_7 => obtain ⟨q, e, e2, h⟩ := h; exact ⟨q, e, e2, any h⟩
 case h_8 => obtain ⟨q, e, e2, h⟩ := h; exact ⟨q, e, e2, any h⟩
 case h_9 => obtain ⟨q, e, e2, h⟩ := h; exact ⟨q, e, e2, any h⟩
 case h_10 => obtain ⟨q, e, e2, h⟩ := h; exact ⟨q, e, e2, any h⟩
 case h_11 => obtain ⟨k, e, h⟩ := h; exact ⟨k, e, h.turn ts (far 5 rfl (by decide) k e)⟩
 case h_12 => obtain ⟨k, e, h⟩ := h; exact ⟨k, e, h.turn ts (far 6 rfl (by decide) k e)⟩
 case h_13 => obtain ⟨k, e, h⟩ := h; exact ⟨k, e, h.turn ts (far 7 rfl (by decide) k e)⟩
 case h_14 => obtain ⟨k, e, h⟩ := h; exact ⟨k, e, h.turn ts (far 8 rfl (by decide) k e)⟩
 case h_15 => obtain ⟨k, e, h⟩ := h; exact ⟨k, e, h.turn ts (far 9 rfl (by decide) k e)⟩
 all_goals exact h
theorem storeC {a : Act} {o : Oper} {d e g : Nat} {u0 u1 u2 u3 u4 u5 u6 u7 u8 u9 : Value} (ho : o.op = .store 31 (.tmp d) (.tmp e)) (h1 : a.tmps[d]?.getD undef = .pointer (some ⟨g, 0, none⟩)) (h2 : a.tmps[e]?.getD undef = .agg (CX9 c fa fl fc la ll lc wa wn wc ta tn tc)) (hb : Blk w g 31 #[u0, u1, u2, u3, u4, u5, u6, u7, u8, u9]) :
  (execOp a.eval o).run Tryz.prog w = .ok .skip (set10 w g (.int .i64 c.riv.depth.lo) (.int .i64 c.riv.depth.hi) (.int .i64 c.riv.fall.lo) (.int .i64 c.riv.fall.hi) (.int .i64 c.riv.days) (.slice fa fl fc) (.slice la ll lc) (.int .i64 c.draws) (.slice wa wn wc) (.slice ta tn tc)) := by
 obtain ⟨c0, c1, c2, c3, c4, c5, c6, c7, c8, c9, hl⟩ := cx31 hb; have f0 := hb.frozen 0; have f1 := hb.frozen 1; have f2 := hb.frozen 2; have f3 := hb.frozen 3; have f4 := hb.frozen 4; have f5 := hb.frozen 5; have f6 := hb.frozen 6; have f7 := hb.frozen 7; have f8 := hb.frozen 8; have f9 := hb.frozen 9; unfold execOp set10; rw [ho]
 go_simp
end
section
variable {w0 K : World} {b5 b6 b7 b8 fl fc ll lc wn wc tn tc : Nat} {fa la wa ta : Option Addr} {c : ICart} {w_ : IWag} {l_ : ILot} {o_ : ILk}
theorem mr2 (hC : MrIn w0 K b5 fa fl fc la ll lc wa wn wc ta tn tc c) (h6 : Blk K b6 65 #[.int .i64 w_.leaves, .int .i64 w_.takes.lo, .int .i64 w_.takes.hi, .int .i64 w_.room]) (h7 : Blk K b7 68 #[.int .i64 l_.from_, .int .i64 l_.bales, .int .i64 l_.price, .int .i64 l_.until_, .int .i64 l_.less]) (h8 : Blk K b8 61 #[.int .i64 o_.day, .int .i64 o_.dep.lo, .int .i64 o_.dep.hi]) {which : Nat} (hwh : which <= 255) : WR8 2 w0 (.int .u8 which) (.pointer (some ⟨b5, 0, none⟩)) (.pointer (some ⟨b6, 0, none⟩)) (.pointer (some ⟨b7, 0, none⟩)) (.pointer (some ⟨b8, 0, none⟩)) K := by
 unfold WR8 WG
 intros
 have HF : Hid (∀ (wz : World) (b11 b12 b13 b14 b15 : Nat), Turn (fun b => K.heap.size <= b) K wz -> K.heap.size <= b11 ∧ K.heap.size <= b12 ∧ K.heap.size <= b13 ∧ K.heap.size <= b14 ∧ K.heap.size <= b15 -> b11 ≠ b12 ∧ b11 ≠ b13 ∧ b11 ≠ b14 ∧ b11 ≠ b15 ∧ b12 ≠ b13 ∧ b12 ≠ b14 ∧ b12 ≠ b15 ∧ b13 ≠ b14 ∧ b13 ≠ b15 ∧ b14 ≠ b15 -> Blk wz b11 31 (CX9 c fa fl fc la ll lc wa wn wc ta tn tc) -> Blk wz b12 31 (CX9 c fa fl fc la ll lc wa wn wc ta tn tc) -> Blk wz b13 31 (CX9 c fa fl fc la ll lc wa wn wc ta tn tc) -> Blk wz b14 31 (CX9 c fa fl fc la ll lc wa wn wc ta tn tc) -> Blk wz b15 31 (CX9 c fa fl fc la ll lc wa wn wc ta tn tc) -> WR7b 3 w0 (.int .u8 which) (.pointer (some ⟨b5, 0, none⟩)) (.pointer (some ⟨b6, 0, none⟩)) (.pointer (some ⟨b7, 0, none⟩)) (.pointer (some ⟨b8, 0, none⟩)) (.pointer (some ⟨b11, 0, none⟩)) (.pointer (some ⟨b12, 0, none⟩)) (.pointer (some ⟨b13, 0, none⟩)) (.pointer (some ⟨b14, 0, none⟩)) (.pointer (some ⟨b15, 0, none⟩)) wz) := fun wz b11 b12 b13 b14 b15 t hk nn k11 k12 k13 k14 k15 => by
  obtain ⟨p1, p2, p3, p4, p5⟩ := hk; have l5 := hC.box.lt; have l6 := h6.lt; have l7 := h7.lt; have l8 := h8.lt; have lw := hC.bw.size
  exact mr3 (l_ := l_) (o_ := o_) (w_ := w_) ⟨hC.turned t (fun b e => Nat.le_trans lw e) (by omega), h7.turn t (by omega), h8.turn t (by omega), k13, k14, k15, ⟨by omega, by omega, by omega, by omega, by omega⟩, ⟨by omega, by omega, by omega, by omega, by omega⟩, nn⟩ (h6.turn t (by omega)) k11 k12 hwh
 have HC := hd9 hC.box; have HN5 : Hid (¬ K.heap.size <= b5) := by have := hC.box.lt; show ¬ _; omega
 clear hC h6 h7 h8 hwh
 conv => arg 2; whnf
 conv => arg 2; arg 2; change mrK 3
 go_upto_region 3 with (fail)
 rename ∀ a w, Code.wp Tryz.prog (mrK 3) _ a w -> _ => hKU
 have HKU := hd9 hKU; clear hKU
 refine HavG.wp_region_tabQ (R := (TP (ι := Empty) (fun b => K.heap.size <= b) (fun i _ => i.elim) (fun i => i.elim))) (fun i V wx => r3T K.heap.size fl fc ll lc wn wc tn tc fa la wa ta c i V wx) (fun i wx => True) (fun _ _ _ => True) (fun _ _ => False) [5, 6, 7, 8, 9] [some 55, some 56, some 57, some 58, some 59, some 11, some 12, some 13, some 14, some 15, none, none, none, none, none] (by kernel_rfl) (by kernel_rfl) (by rfl) (fun _ _ => trivial) trivial (fun _ _ h => h.elim) (fun _ _ _ _ h => h.elim) (fun h => h.1.size) ?_ (fun i hi V w h => by simp only [List.mem_cons, List.not_mem_nil, or_false] at hi; rcases hi with rfl | rfl | rfl | rfl | rfl <;> (obtain ⟨g, e, -, u0, u1, u2, u3, u4, u5, u6, u7, u8, u9, h⟩ := h; rw [e]; exact h.lt)) ?_ ?_
 ·intro i hi V V' w h hV
  match i, hi, h, hV with
  | 0, _, h, hV => exact (hV _ (.inl rfl)).symm.trans h
  | 1, _, h, hV => exact (hV _ (.inl rfl)).symm.trans h
  | 2, _, h, hV => exact (hV _ (.inl rfl)).symm.trans h
  | 3, _, h, hV => exact (hV _ (.inl rfl)).symm.trans h
  | 4, _, h, hV => exact (hV _ (.inl rfl)).symm.trans h
  | 5, _, h, hV => (obtain ⟨g, e, h⟩ := h; exact ⟨g, (hV 5 (.inl rfl)).symm.trans e, h⟩)
  | 6, _, h, hV => (obtain ⟨g, e, h⟩ := h; exact ⟨g, (hV 6 (.inl rfl)).symm.trans e, h⟩)
  | 7, _, h, hV => (obtain ⟨g, e, h⟩ := h; exact ⟨g, (hV 7 (.inl rfl)).symm.trans e, h⟩)
  | 8, _, h, hV => (obtain ⟨g, e, h⟩ := h; exact ⟨g, (hV 8 (.inl rfl)).symm.trans e, h⟩)
  | 9, _, h, hV => (obtain ⟨g, e, h⟩ := h; exact ⟨g, (hV 9 (.inl rfl)).symm.trans e, h⟩)
  | 10, _, h, hV => (obtain ⟨g, e, h⟩ := h; exact ⟨g, (hV 5 (.inr (by kernel_rfl))).symm.trans e, h⟩)
  | 11, _, h, hV => (obtain ⟨g, e, h⟩ := h; exact ⟨g, (hV 6 (.inr (by kernel_rfl))).symm.trans e, h⟩)
  | 12, _, h, hV => (obtain ⟨g, e, h⟩ := h; exact ⟨g, (hV 7 (.inr (by kernel_rfl))).symm.trans e, h⟩)
  | 13, _, h, hV => (obtain ⟨g, e, h⟩ := h; exact ⟨g, (hV 8 (.inr (by kernel_rfl))).symm.trans e, h⟩)
  | 14, _, h, hV => (obtain ⟨g, e, h⟩ := h; exact ⟨g, (hV 9 (.inr (by kernel_rfl))).symm.trans e, h⟩)
  | j + 15, hj, _, _ => exact absurd hj (by simp)
 ·intro i hi oo a' w' ho hag hg hd hap hps hsl rem him hnd hdep hdp hj
  match i, hi, ho, hd, hap, hps, hsl, him, hdep, hdp with
  | 0, _, ho, hd, hap, hps, hsl, him, hdep, hdp =>
   (simp only [qD9, qF9, sI9] at ho; subst ho)
   have s5 : a'.tmps[5]?.getD undef = (.pointer (some ⟨b5, 0, none⟩)) := by rw [<- gD9]; exact hag.slot 5 (by kernel_rfl)
   have r5 : a'.tmps.getD 5 undef = (.pointer (some ⟨b5, 0, none⟩)) := hag.slot 5 (by kernel_rfl)
   have hk := HC.out.turn hg.1 HN5.out; obtain ⟨q0, q1, q2, q3, q4, q5, q6, q7, q8, q9, ql⟩ := cx31 hk; clear hk
   refine HavG.tabY_val rfl (by simp) ⟨.agg (CX9 c fa fl fc la ll lc wa wn wc ta tn tc), w', ?_, ⟨HavG.Rel.refl _ _, trivial⟩, fun _ _ _ _ _ _ h => h, fun _ _ _ _ h => h, fun V _ hv => hv, fun h => by simp at h⟩
   go_simp
   try rfl
  | 1, _, ho, hd, hap, hps, hsl, him, hdep, hdp =>
   (simp only [qD9, qE9, qF9, sI9] at ho; subst ho)
   have s5 : a'.tmps[5]?.getD undef = (.pointer (some ⟨b5, 0, none⟩)) := by rw [<- gD9]; exact hag.slot 5 (by kernel_rfl)
   have r5 : a'.tmps.getD 5 undef = (.pointer (some ⟨b5, 0, none⟩)) := hag.slot 5 (by kernel_rfl)
   have hk := HC.out.turn hg.1 HN5.out; obtain ⟨q0, q1, q2, q3, q4, q5, q6, q7, q8, q9, ql⟩ := cx31 hk; clear hk
   refine HavG.tabY_val rfl (by simp) ⟨.agg (CX9 c fa fl fc la ll lc wa wn wc ta tn tc), w', ?_, ⟨HavG.Rel.refl _ _, trivial⟩, fun _ _ _ _ _ _ h => h, fun _ _ _ _ h => h, fun V _ hv => hv, fun h => by simp at h⟩
   go_simp
   try rfl
  | 2, _, ho, hd, hap, hps, hsl, him, hdep, hdp =>
   (simp only [qD9, qE9, qF9, sI9] at ho; subst ho)
   have s5 : a'.tmps[5]?.getD undef = (.pointer (some ⟨b5, 0, none⟩)) := by rw [<- gD9]; exact hag.slot 5 (by kernel_rfl)
   have r5 : a'.tmps.getD 5 undef = (.pointer (some ⟨b5, 0, none⟩)) := hag.slot 5 (by kernel_rfl)
   have hk := HC.out.turn hg.1 HN5.out; obtain ⟨q0, q1, q2, q3, q4, q5, q6, q7, q8, q9, ql⟩ := cx31 hk; clear hk
   refine HavG.tabY_val rfl (by simp) ⟨.agg (CX9 c fa fl fc la ll lc wa wn wc ta tn tc), w', ?_, ⟨HavG.Rel.refl _ _, trivial⟩, fun _ _ _ _ _ _ h => h, fun _ _ _ _ h => h, fun V _ hv => hv, fun h => by simp at h⟩
   go_simp
   try rfl
  | 3, _, ho, hd, hap, hps, hsl, him, hdep, hdp =>
   (simp only [qD9, qE9, qF9, sI9] at ho; subst ho)
   have s5 : a'.tmps[5]?.getD undef = (.pointer (some ⟨b5, 0, none⟩)) := by rw [<- gD9]; exact hag.slot 5 (by kernel_rfl)
   have r5 : a'.tmps.getD 5 undef = (.pointer (some ⟨b5, 0, none⟩)) := hag.slot 5 (by kernel_rfl)
   have hk := HC.out.turn hg.1 HN5.out; obtain ⟨q0, q1, q2, q3, q4, q5, q6, q7, q8, q9, ql⟩ := cx31 hk; clear hk
   refine HavG.tabY_val rfl (by simp) ⟨.agg (CX9 c fa fl fc la ll lc wa wn wc ta tn tc), w', ?_, ⟨HavG.Rel.refl _ _, trivial⟩, fun _ _ _ _ _ _ h => h, fun _ _ _ _ h => h, fun V _ hv => hv, fun h => by simp at h⟩
   go_simp
   try rfl
  | 4, _, ho, hd, hap, hps, hsl, him, hdep, hdp =>
   (simp only [qD9, qE9, qF9, sI9] at ho; subst ho)
   have s5 : a'.tmps[5]?.getD undef = (.pointer (some ⟨b5, 0, none⟩)) := by rw [<- gD9]; exact hag.slot 5 (by kernel_rfl)
   have r5 : a'.tmps.getD 5 undef = (.pointer (some ⟨b5, 0, none⟩)) := hag.slot 5 (by kernel_rfl)
   have hk := HC.out.turn hg.1 HN5.out; obtain ⟨q0, q1, q2, q3, q4, q5, q6, q7, q8, q9, ql⟩ := cx31 hk; clear hk
   refine HavG.tabY_val rfl (by simp) ⟨.agg (CX9 c fa fl fc la ll lc wa wn wc ta tn tc), w', ?_, ⟨HavG.Rel.refl _ _, trivial⟩, fun _ _ _ _ _ _ h => h, fun _ _ _ _ h => h, fun V _ hv => hv, fun h => by simp at h⟩
   go_simp
   try rfl
  | 5, _, ho, hd, hap, hps, hsl, him, hdep, hdp =>
   (simp only [qD9, qE9, qF9, sI9] at ho; subst ho)
   have HB : Below w'.heap.size w' (w'.alloc (.cells #[.int .i64 0, .int .i64 0, .int .i64 0, .int .i64 0, .int .i64 0, .slice none 0 0, .slice none 0 0, .int .i64 0, .slice none 0 0, .slice none 0 0] 31)) := (Below.refl _ _).alloc (Nat.le_refl _) _
   refine HavG.tabY_val rfl (by simp) ⟨.pointer (some ⟨w'.heap.size, 0, none⟩), w'.alloc (.cells #[.int .i64 0, .int .i64 0, .int .i64 0, .int .i64 0, .int .i64 0, .slice none 0 0, .slice none 0 0, .int .i64 0, .slice none 0 0, .slice none 0 0] 31), ?_, ⟨⟨Turn.of_below HB, fun i => i.elim⟩, trivial⟩, fun j V _ _ _ _ h => r3_grow h HB, fun _ _ _ _ h => h, fun V _ hv => ⟨w'.heap.size, hv, hg.1.size, _, _, _, _, _, _, _, _, _, _, Blk.new w' 31 _⟩, fun _ => .inl (Nat.le_refl _)⟩
   go_simp
   try rfl
  | 6, _, ho, hd, hap, hps, hsl, him, hdep, hdp =>
   (simp only [qD9, qE9, qF9, sI9] at ho; subst ho)
   have HB : Below w'.heap.size w' (w'.alloc (.cells #[.int .i64 0, .int .i64 0, .int .i64 0, .int .i64 0, .int .i64 0, .slice none 0 0, .slice none 0 0, .int .i64 0, .slice none 0 0, .slice none 0 0] 31)) := (Below.refl _ _).alloc (Nat.le_refl _) _
   refine HavG.tabY_val rfl (by simp) ⟨.pointer (some ⟨w'.heap.size, 0, none⟩), w'.alloc (.cells #[.int .i64 0, .int .i64 0, .int .i64 0, .int .i64 0, .int .i64 0, .slice none 0 0, .slice none 0 0, .int .i64 0, .slice none 0 0, .slice none 0 0] 31), ?_, ⟨⟨Turn.of_below HB, fun i => i.elim⟩, trivial⟩, fun j V _ _ _ _ h => r3_grow h HB, fun _ _ _ _ h => h, fun V _ hv => ⟨w'.heap.size, hv, hg.1.size, _, _, _, _, _, _, _, _, _, _, Blk.new w' 31 _⟩, fun _ => .inl (Nat.le_refl _)⟩
   go_simp
   try rfl
  | 7, _, ho, hd, hap, hps, hsl, him, hdep, hdp =>
   (simp only [qD9, qE9, qF9, sI9] at ho; subst ho)
   have HB : Below w'.heap.size w' (w'.alloc (.cells #[.int .i64 0, .int .i64 0, .int .i64 0, .int .i64 0, .int .i64 0, .slice none 0 0, .slice none 0 0, .int .i64 0, .slice none 0 0, .slice none 0 0] 31)) := (Below.refl _ _).alloc (Nat.le_refl _) _
   refine HavG.tabY_val rfl (by simp) ⟨.pointer (some ⟨w'.heap.size, 0, none⟩), w'.alloc (.cells #[.int .i64 0, .int .i64 0, .int .i64 0, .int .i64 0, .int .i64 0, .slice none 0 0, .slice none 0 0, .int .i64 0, .slice none 0 0, .slice none 0 0] 31), ?_, ⟨⟨Turn.of_below HB, fun i => i.elim⟩, trivial⟩, fun j V _ _ _ _ h => r3_grow h HB, fun _ _ _ _ h => h, fun V _ hv => ⟨w'.heap.size, hv, hg.1.size, _, _, _, _, _, _, _, _, _, _, Blk.new w' 31 _⟩, fun _ => .inl (Nat.le_refl _)⟩
   go_simp
   try rfl
  | 8, _, ho, hd, hap, hps, hsl, him, hdep, hdp =>
   (simp only [qD9, qE9, qF9, sI9] at ho; subst ho)
   have HB : Below w'.heap.size w' (w'.alloc (.cells #[.int .i64 0, .int .i64 0, .int .i64 0, .int .i64 0, .int .i64 0, .slice none 0 0, .slice none 0 0, .int .i64 0, .slice none 0 0, .slice none 0 0] 31)) := (Below.refl _ _).alloc (Nat.le_refl _) _
   refine HavG.tabY_val rfl (by simp) ⟨.pointer (some ⟨w'.heap.size, 0, none⟩), w'.alloc (.cells #[.int .i64 0, .int .i64 0, .int .i64 0, .int .i64 0, .int .i64 0, .slice none 0 0, .slice none 0 0, .int .i64 0, .slice none 0 0, .slice none 0 0] 31), ?_, ⟨⟨Turn.of_below HB, fun i => i.elim⟩, trivial⟩, fun j V _ _ _ _ h => r3_grow h HB, fun _ _ _ _ h => h, fun V _ hv => ⟨w'.heap.size, hv, hg.1.size, _, _, _, _, _, _, _, _, _, _, Blk.new w' 31 _⟩, fun _ => .inl (Nat.le_refl _)⟩
   go_simp
   try rfl
  | 9, _, ho, hd, hap, hps, hsl, him, hdep, hdp =>
   (simp only [qD9, qE9, qF9, sI9] at ho; subst ho)
   have HB : Below w'.heap.size w' (w'.alloc (.cells #[.int .i64 0, .int .i64 0, .int .i64 0, .int .i64 0, .int .i64 0, .slice none 0 0, .slice none 0 0, .int .i64 0, .slice none 0 0, .slice none 0 0] 31)) := (Below.refl _ _).alloc (Nat.le_refl _) _
   refine HavG.tabY_val rfl (by simp) ⟨.pointer (some ⟨w'.heap.size, 0, none⟩), w'.alloc (.cells #[.int .i64 0, .int .i64 0, .int .i64 0, .int .i64 0, .int .i64 0, .slice none 0 0, .slice none 0 0, .int .i64 0, .slice none 0 0, .slice none 0 0] 31), ?_, ⟨⟨Turn.of_below HB, fun i => i.elim⟩, trivial⟩, fun j V _ _ _ _ h => r3_grow h HB, fun _ _ _ _ h => h, fun V _ hv => ⟨w'.heap.size, hv, hg.1.size, _, _, _, _, _, _, _, _, _, _, Blk.new w' 31 _⟩, fun _ => .inl (Nat.le_refl _)⟩
   go_simp
   try rfl
  | 10, _, ho, hd, hap, hps, hsl, him, hdep, hdp =>
   (simp only [qD9, qE9, qF9, sI9] at ho; subst ho)
   have e5 : HavG.slot a' 55 = .agg (CX9 c fa fl fc la ll lc wa wn wc ta tn tc) := hd 0 (by kernel_rfl) (by decide)
   have d2 : a'.tmps[55]?.getD undef = .agg (CX9 c fa fl fc la ll lc wa wn wc ta tn tc) := by rw [<- gD9]; exact e5
   obtain ⟨g, e9, hgB, u0, u1, u2, u3, u4, u5, u6, u7, u8, u9, hk7⟩ : ∃ g, HavG.slot a' 11 = .pointer (some ⟨g, 0, none⟩) ∧ K.heap.size <= g ∧ ∃ u0 u1 u2 u3 u4 u5 u6 u7 u8 u9, Blk w' g 31 #[u0, u1, u2, u3, u4, u5, u6, u7, u8, u9] := hd 5 (by kernel_rfl) (by decide)
   have d1 : a'.tmps[11]?.getD undef = .pointer (some ⟨g, 0, none⟩) := by rw [<- gD9]; exact e9
   have ts := set10_turn w' g (.int .i64 c.riv.depth.lo) (.int .i64 c.riv.depth.hi) (.int .i64 c.riv.fall.lo) (.int .i64 c.riv.fall.hi) (.int .i64 c.riv.days) (.slice fa fl fc) (.slice la ll lc) (.int .i64 c.draws) (.slice wa wn wc) (.slice ta tn tc); have hC : Blk (set10 w' g (.int .i64 c.riv.depth.lo) (.int .i64 c.riv.depth.hi) (.int .i64 c.riv.fall.lo) (.int .i64 c.riv.fall.hi) (.int .i64 c.riv.days) (.slice fa fl fc) (.slice la ll lc) (.int .i64 c.draws) (.slice wa wn wc) (.slice ta tn tc)) g 31 (CX9 c fa fl fc la ll lc wa wn wc ta tn tc) := set10_blk hk7; have n1 := hap 6 5 (by decide) (by decide) (by decide) (by decide) (by decide) (by kernel_rfl) (by kernel_rfl)
   have hn1 : ∀ h, HavG.slot a' 12 = .pointer (some ⟨h, 0, none⟩) -> h ≠ g := fun h e' => by have h' : HavG.bkV (HavG.slot a' 12) ≠ HavG.bkV (HavG.slot a' 11) := n1; rw [e', e9] at h'; exact h'
   have n2 := hap 7 5 (by decide) (by decide) (by decide) (by decide) (by decide) (by kernel_rfl) (by kernel_rfl)
   have hn2 : ∀ h, HavG.slot a' 13 = .pointer (some ⟨h, 0, none⟩) -> h ≠ g := fun h e' => by have h' : HavG.bkV (HavG.slot a' 13) ≠ HavG.bkV (HavG.slot a' 11) := n2; rw [e', e9] at h'; exact h'
   have n3 := hap 8 5 (by decide) (by decide) (by decide) (by decide) (by decide) (by kernel_rfl) (by kernel_rfl)
   have hn3 : ∀ h, HavG.slot a' 14 = .pointer (some ⟨h, 0, none⟩) -> h ≠ g := fun h e' => by have h' : HavG.bkV (HavG.slot a' 14) ≠ HavG.bkV (HavG.slot a' 11) := n3; rw [e', e9] at h'; exact h'
   have n4 := hap 9 5 (by decide) (by decide) (by decide) (by decide) (by decide) (by kernel_rfl) (by kernel_rfl)
   have hn4 : ∀ h, HavG.slot a' 15 = .pointer (some ⟨h, 0, none⟩) -> h ≠ g := fun h e' => by have h' : HavG.bkV (HavG.slot a' 15) ≠ HavG.bkV (HavG.slot a' 11) := n4; rw [e', e9] at h'; exact h'
   refine HavG.tabY_store rfl rfl (by decide) ⟨_, storeC rfl d1 d2 hk7, ⟨⟨ts.mono (fun b e => by rw [e]; exact hgB), fun i => i.elim⟩, trivial⟩, fun j V hV hjl hji hbf h => (by subst hV; exact r3_store h ts hC (fun m hm h5 h eh => by (match m, h5, hm, eh with | 5, _, hm, eh => exact absurd hm hji | 6, _, hm, eh => exact hn1 h eh | 7, _, hm, eh => exact hn2 h eh | 8, _, hm, eh => exact hn3 h eh | 9, _, hm, eh => exact hn4 h eh | m + 10, _, hm, eh => exact absurd hm (by have h9 := hjl; simp at h9; omega) | 0, h5, _, _ => exact absurd h5 (by decide) | 1, h5, _, _ => exact absurd h5 (by decide) | 2, h5, _, _ => exact absurd h5 (by decide) | 3, h5, _, _ => exact absurd h5 (by decide) | 4, h5, _, _ => exact absurd h5 (by decide)))), fun _ _ _ _ h => h, fun V hV => ⟨g, (hV 5 (by decide)).trans e9, hC⟩⟩
  | 11, _, ho, hd, hap, hps, hsl, him, hdep, hdp =>
   (simp only [qD9, qE9, qF9, sI9] at ho; subst ho)
   have e5 : HavG.slot a' 56 = .agg (CX9 c fa fl fc la ll lc wa wn wc ta tn tc) := hd 1 (by kernel_rfl) (by decide)
   have d2 : a'.tmps[56]?.getD undef = .agg (CX9 c fa fl fc la ll lc wa wn wc ta tn tc) := by rw [<- gD9]; exact e5
   obtain ⟨g, e9, hgB, u0, u1, u2, u3, u4, u5, u6, u7, u8, u9, hk7⟩ : ∃ g, HavG.slot a' 12 = .pointer (some ⟨g, 0, none⟩) ∧ K.heap.size <= g ∧ ∃ u0 u1 u2 u3 u4 u5 u6 u7 u8 u9, Blk w' g 31 #[u0, u1, u2, u3, u4, u5, u6, u7, u8, u9] := hd 6 (by kernel_rfl) (by decide)
   have d1 : a'.tmps[12]?.getD undef = .pointer (some ⟨g, 0, none⟩) := by rw [<- gD9]; exact e9
   have ts := set10_turn w' g (.int .i64 c.riv.depth.lo) (.int .i64 c.riv.depth.hi) (.int .i64 c.riv.fall.lo) (.int .i64 c.riv.fall.hi) (.int .i64 c.riv.days) (.slice fa fl fc) (.slice la ll lc) (.int .i64 c.draws) (.slice wa wn wc) (.slice ta tn tc); have hC : Blk (set10 w' g (.int .i64 c.riv.depth.lo) (.int .i64 c.riv.depth.hi) (.int .i64 c.riv.fall.lo) (.int .i64 c.riv.fall.hi) (.int .i64 c.riv.days) (.slice fa fl fc) (.slice la ll lc) (.int .i64 c.draws) (.slice wa wn wc) (.slice ta tn tc)) g 31 (CX9 c fa fl fc la ll lc wa wn wc ta tn tc) := set10_blk hk7; have n0 := hap 5 6 (by decide) (by decide) (by decide) (by decide) (by decide) (by kernel_rfl) (by kernel_rfl)
   have hn0 : ∀ h, HavG.slot a' 11 = .pointer (some ⟨h, 0, none⟩) -> h ≠ g := fun h e' => by have h' : HavG.bkV (HavG.slot a' 11) ≠ HavG.bkV (HavG.slot a' 12) := n0; rw [e', e9] at h'; exact h'
   have n2 := hap 7 6 (by decide) (by decide) (by decide) (by decide) (by decide) (by kernel_rfl) (by kernel_rfl)
   have hn2 : ∀ h, HavG.slot a' 13 = .pointer (some ⟨h, 0, none⟩) -> h ≠ g := fun h e' => by have h' : HavG.bkV (HavG.slot a' 13) ≠ HavG.bkV (HavG.slot a' 12) := n2; rw [e', e9] at h'; exact h'
   have n3 := hap 8 6 (by decide) (by decide) (by decide) (by decide) (by decide) (by kernel_rfl) (by kernel_rfl)
   have hn3 : ∀ h, HavG.slot a' 14 = .pointer (some ⟨h, 0, none⟩) -> h ≠ g := fun h e' => by have h' : HavG.bkV (HavG.slot a' 14) ≠ HavG.bkV (HavG.slot a' 12) := n3; rw [e', e9] at h'; exact h'
   have n4 := hap 9 6 (by decide) (by decide) (by decide) (by decide) (by decide) (by kernel_rfl) (by kernel_rfl)
   have hn4 : ∀ h, HavG.slot a' 15 = .pointer (some ⟨h, 0, none⟩) -> h ≠ g := fun h e' => by have h' : HavG.bkV (HavG.slot a' 15) ≠ HavG.bkV (HavG.slot a' 12) := n4; rw [e', e9] at h'; exact h'
   refine HavG.tabY_store rfl rfl (by decide) ⟨_, storeC rfl d1 d2 hk7, ⟨⟨ts.mono (fun b e => by rw [e]; exact hgB), fun i => i.elim⟩, trivial⟩, fun j V hV hjl hji hbf h => (by subst hV; exact r3_store h ts hC (fun m hm h5 h eh => by (match m, h5, hm, eh with | 5, _, hm, eh => exact hn0 h eh | 6, _, hm, eh => exact absurd hm hji | 7, _, hm, eh => exact hn2 h eh | 8, _, hm, eh => exact hn3 h eh | 9, _, hm, eh => exact hn4 h eh | m + 10, _, hm, eh => exact absurd hm (by have h9 := hjl; simp at h9; omega) | 0, h5, _, _ => exact absurd h5 (by decide) | 1, h5, _, _ => exact absurd h5 (by decide) | 2, h5, _, _ => exact absurd h5 (by decide) | 3, h5, _, _ => exact absurd h5 (by decide) | 4, h5, _, _ => exact absurd h5 (by decide)))), fun _ _ _ _ h => h, fun V hV => ⟨g, (hV 6 (by decide)).trans e9, hC⟩⟩
  | 12, _, ho, hd, hap, hps, hsl, him, hdep, hdp =>
   (simp only [qD9, qE9, qF9, sI9] at ho; subst ho)
   have e5 : HavG.slot a' 57 = .agg (CX9 c fa fl fc la ll lc wa wn wc ta tn tc) := hd 2 (by kernel_rfl) (by decide)
   have d2 : a'.tmps[57]?.getD undef = .agg (CX9 c fa fl fc la ll lc wa wn wc ta tn tc) := by rw [<- gD9]; exact e5
   obtain ⟨g, e9, hgB, u0, u1, u2, u3, u4, u5, u6, u7, u8, u9, hk7⟩ : ∃ g, HavG.slot a' 13 = .pointer (some ⟨g, 0, none⟩) ∧ K.heap.size <= g ∧ ∃ u0 u1 u2 u3 u4 u5 u6 u7 u8 u9, Blk w' g 31 #[u0, u1, u2, u3, u4, u5, u6, u7, u8, u9] := hd 7 (by kernel_rfl) (by decide)
   have d1 : a'.tmps[13]?.getD undef = .pointer (some ⟨g, 0, none⟩) := by rw [<- gD9]; exact e9
   have ts := set10_turn w' g (.int .i64 c.riv.depth.lo) (.int .i64 c.riv.depth.hi) (.int .i64 c.riv.fall.lo) (.int .i64 c.riv.fall.hi) (.int .i64 c.riv.days) (.slice fa fl fc) (.slice la ll lc) (.int .i64 c.draws) (.slice wa wn wc) (.slice ta tn tc); have hC : Blk (set10 w' g (.int .i64 c.riv.depth.lo) (.int .i64 c.riv.depth.hi) (.int .i64 c.riv.fall.lo) (.int .i64 c.riv.fall.hi) (.int .i64 c.riv.days) (.slice fa fl fc) (.slice la ll lc) (.int .i64 c.draws) (.slice wa wn wc) (.slice ta tn tc)) g 31 (CX9 c fa fl fc la ll lc wa wn wc ta tn tc) := set10_blk hk7; have n0 := hap 5 7 (by decide) (by decide) (by decide) (by decide) (by decide) (by kernel_rfl) (by kernel_rfl)
   have hn0 : ∀ h, HavG.slot a' 11 = .pointer (some ⟨h, 0, none⟩) -> h ≠ g := fun h e' => by have h' : HavG.bkV (HavG.slot a' 11) ≠ HavG.bkV (HavG.slot a' 13) := n0; rw [e', e9] at h'; exact h'
   have n1 := hap 6 7 (by decide) (by decide) (by decide) (by decide) (by decide) (by kernel_rfl) (by kernel_rfl)
   have hn1 : ∀ h, HavG.slot a' 12 = .pointer (some ⟨h, 0, none⟩) -> h ≠ g := fun h e' => by have h' : HavG.bkV (HavG.slot a' 12) ≠ HavG.bkV (HavG.slot a' 13) := n1; rw [e', e9] at h'; exact h'
   have n3 := hap 8 7 (by decide) (by decide) (by decide) (by decide) (by decide) (by kernel_rfl) (by kernel_rfl)
   have hn3 : ∀ h, HavG.slot a' 14 = .pointer (some ⟨h, 0, none⟩) -> h ≠ g := fun h e' => by have h' : HavG.bkV (HavG.slot a' 14) ≠ HavG.bkV (HavG.slot a' 13) := n3; rw [e', e9] at h'; exact h'
   have n4 := hap 9 7 (by decide) (by decide) (by decide) (by decide) (by decide) (by kernel_rfl) (by kernel_rfl)
   have hn4 : ∀ h, HavG.slot a' 15 = .pointer (some ⟨h, 0, none⟩) -> h ≠ g := fun h e' => by have h' : HavG.bkV (HavG.slot a' 15) ≠ HavG.bkV (HavG.slot a' 13) := n4; rw [e', e9] at h'; exact h'
   refine HavG.tabY_store rfl rfl (by decide) ⟨_, storeC rfl d1 d2 hk7, ⟨⟨ts.mono (fun b e => by rw [e]; exact hgB), fun i => i.elim⟩, trivial⟩, fun j V hV hjl hji hbf h => (by subst hV; exact r3_store h ts hC (fun m hm h5 h eh => by (match m, h5, hm, eh with | 5, _, hm, eh => exact hn0 h eh | 6, _, hm, eh => exact hn1 h eh | 7, _, hm, eh => exact absurd hm hji | 8, _, hm, eh => exact hn3 h eh | 9, _, hm, eh => exact hn4 h eh | m + 10, _, hm, eh => exact absurd hm (by have h9 := hjl; simp at h9; omega) | 0, h5, _, _ => exact absurd h5 (by decide) | 1, h5, _, _ => exact absurd h5 (by decide) | 2, h5, _, _ => exact absurd h5 (by decide) | 3, h5, _, _ => exact absurd h5 (by decide) | 4, h5, _, _ => exact absurd h5 (by decide)))), fun _ _ _ _ h => h, fun V hV => ⟨g, (hV 7 (by decide)).trans e9, hC⟩⟩
  | 13, _, ho, hd, hap, hps, hsl, him, hdep, hdp =>
   (simp only [qD9, qE9, qF9, sI9] at ho; subst ho)
   have e5 : HavG.slot a' 58 = .agg (CX9 c fa fl fc la ll lc wa wn wc ta tn tc) := hd 3 (by kernel_rfl) (by decide)
   have d2 : a'.tmps[58]?.getD undef = .agg (CX9 c fa fl fc la ll lc wa wn wc ta tn tc) := by rw [<- gD9]; exact e5
   obtain ⟨g, e9, hgB, u0, u1, u2, u3, u4, u5, u6, u7, u8, u9, hk7⟩ : ∃ g, HavG.slot a' 14 = .pointer (some ⟨g, 0, none⟩) ∧ K.heap.size <= g ∧ ∃ u0 u1 u2 u3 u4 u5 u6 u7 u8 u9, Blk w' g 31 #[u0, u1, u2, u3, u4, u5, u6, u7, u8, u9] := hd 8 (by kernel_rfl) (by decide)
   have d1 : a'.tmps[14]?.getD undef = .pointer (some ⟨g, 0, none⟩) := by rw [<- gD9]; exact e9
   have ts := set10_turn w' g (.int .i64 c.riv.depth.lo) (.int .i64 c.riv.depth.hi) (.int .i64 c.riv.fall.lo) (.int .i64 c.riv.fall.hi) (.int .i64 c.riv.days) (.slice fa fl fc) (.slice la ll lc) (.int .i64 c.draws) (.slice wa wn wc) (.slice ta tn tc); have hC : Blk (set10 w' g (.int .i64 c.riv.depth.lo) (.int .i64 c.riv.depth.hi) (.int .i64 c.riv.fall.lo) (.int .i64 c.riv.fall.hi) (.int .i64 c.riv.days) (.slice fa fl fc) (.slice la ll lc) (.int .i64 c.draws) (.slice wa wn wc) (.slice ta tn tc)) g 31 (CX9 c fa fl fc la ll lc wa wn wc ta tn tc) := set10_blk hk7; have n0 := hap 5 8 (by decide) (by decide) (by decide) (by decide) (by decide) (by kernel_rfl) (by kernel_rfl)
   have hn0 : ∀ h, HavG.slot a' 11 = .pointer (some ⟨h, 0, none⟩) -> h ≠ g := fun h e' => by have h' : HavG.bkV (HavG.slot a' 11) ≠ HavG.bkV (HavG.slot a' 14) := n0; rw [e', e9] at h'; exact h'
   have n1 := hap 6 8 (by decide) (by decide) (by decide) (by decide) (by decide) (by kernel_rfl) (by kernel_rfl)
   have hn1 : ∀ h, HavG.slot a' 12 = .pointer (some ⟨h, 0, none⟩) -> h ≠ g := fun h e' => by have h' : HavG.bkV (HavG.slot a' 12) ≠ HavG.bkV (HavG.slot a' 14) := n1; rw [e', e9] at h'; exact h'
   have n2 := hap 7 8 (by decide) (by decide) (by decide) (by decide) (by decide) (by kernel_rfl) (by kernel_rfl)
   have hn2 : ∀ h, HavG.slot a' 13 = .pointer (some ⟨h, 0, none⟩) -> h ≠ g := fun h e' => by have h' : HavG.bkV (HavG.slot a' 13) ≠ HavG.bkV (HavG.slot a' 14) := n2; rw [e', e9] at h'; exact h'
   have n4 := hap 9 8 (by decide) (by decide) (by decide) (by decide) (by decide) (by kernel_rfl) (by kernel_rfl)
   have hn4 : ∀ h, HavG.slot a' 15 = .pointer (some ⟨h, 0, none⟩) -> h ≠ g := fun h e' => by have h' : HavG.bkV (HavG.slot a' 15) ≠ HavG.bkV (HavG.slot a' 14) := n4; rw [e', e9] at h'; exact h'
   refine HavG.tabY_store rfl rfl (by decide) ⟨_, storeC rfl d1 d2 hk7, ⟨⟨ts.mono (fun b e => by rw [e]; exact hgB), fun i => i.elim⟩, trivial⟩, fun j V hV hjl hji hbf h => (by subst hV; exact r3_store h ts hC (fun m hm h5 h eh => by (match m, h5, hm, eh with | 5, _, hm, eh => exact hn0 h eh | 6, _, hm, eh => exact hn1 h eh | 7, _, hm, eh => exact hn2 h eh | 8, _, hm, eh => exact absurd hm hji | 9, _, hm, eh => exact hn4 h eh | m + 10, _, hm, eh => exact absurd hm (by have h9 := hjl; simp at h9; omega) | 0, h5, _, _ => exact absurd h5 (by decide) | 1, h5, _, _ => exact absurd h5 (by decide) | 2, h5, _, _ => exact absurd h5 (by decide) | 3, h5, _, _ => exact absurd h5 (by decide) | 4, h5, _, _ => exact absurd h5 (by decide)))), fun _ _ _ _ h => h, fun V hV => ⟨g, (hV 8 (by decide)).trans e9, hC⟩⟩
  | 14, _, ho, hd, hap, hps, hsl, him, hdep, hdp =>
   (simp only [qD9, qE9, qF9, sI9] at ho; subst ho)
   have e5 : HavG.slot a' 59 = .agg (CX9 c fa fl fc la ll lc wa wn wc ta tn tc) := hd 4 (by kernel_rfl) (by decide)
   have d2 : a'.tmps[59]?.getD undef = .agg (CX9 c fa fl fc la ll lc wa wn wc ta tn tc) := by rw [<- gD9]; exact e5
   obtain ⟨g, e9, hgB, u0, u1, u2, u3, u4, u5, u6, u7, u8, u9, hk7⟩ : ∃ g, HavG.slot a' 15 = .pointer (some ⟨g, 0, none⟩) ∧ K.heap.size <= g ∧ ∃ u0 u1 u2 u3 u4 u5 u6 u7 u8 u9, Blk w' g 31 #[u0, u1, u2, u3, u4, u5, u6, u7, u8, u9] := hd 9 (by kernel_rfl) (by decide)
   have d1 : a'.tmps[15]?.getD undef = .pointer (some ⟨g, 0, none⟩) := by rw [<- gD9]; exact e9
   have ts := set10_turn w' g (.int .i64 c.riv.depth.lo) (.int .i64 c.riv.depth.hi) (.int .i64 c.riv.fall.lo) (.int .i64 c.riv.fall.hi) (.int .i64 c.riv.days) (.slice fa fl fc) (.slice la ll lc) (.int .i64 c.draws) (.slice wa wn wc) (.slice ta tn tc); have hC : Blk (set10 w' g (.int .i64 c.riv.depth.lo) (.int .i64 c.riv.depth.hi) (.int .i64 c.riv.fall.lo) (.int .i64 c.riv.fall.hi) (.int .i64 c.riv.days) (.slice fa fl fc) (.slice la ll lc) (.int .i64 c.draws) (.slice wa wn wc) (.slice ta tn tc)) g 31 (CX9 c fa fl fc la ll lc wa wn wc ta tn tc) := set10_blk hk7; have n0 := hap 5 9 (by decide) (by decide) (by decide) (by decide) (by decide) (by kernel_rfl) (by kernel_rfl)
   have hn0 : ∀ h, HavG.slot a' 11 = .pointer (some ⟨h, 0, none⟩) -> h ≠ g := fun h e' => by have h' : HavG.bkV (HavG.slot a' 11) ≠ HavG.bkV (HavG.slot a' 15) := n0; rw [e', e9] at h'; exact h'
   have n1 := hap 6 9 (by decide) (by decide) (by decide) (by decide) (by decide) (by kernel_rfl) (by kernel_rfl)
   have hn1 : ∀ h, HavG.slot a' 12 = .pointer (some ⟨h, 0, none⟩) -> h ≠ g := fun h e' => by have h' : HavG.bkV (HavG.slot a' 12) ≠ HavG.bkV (HavG.slot a' 15) := n1; rw [e', e9] at h'; exact h'
   have n2 := hap 7 9 (by decide) (by decide) (by decide) (by decide) (by decide) (by kernel_rfl) (by kernel_rfl)
   have hn2 : ∀ h, HavG.slot a' 13 = .pointer (some ⟨h, 0, none⟩) -> h ≠ g := fun h e' => by have h' : HavG.bkV (HavG.slot a' 13) ≠ HavG.bkV (HavG.slot a' 15) := n2; rw [e', e9] at h'; exact h'
   have n3 := hap 8 9 (by decide) (by decide) (by decide) (by decide) (by decide) (by kernel_rfl) (by kernel_rfl)
   have hn3 : ∀ h, HavG.slot a' 14 = .pointer (some ⟨h, 0, none⟩) -> h ≠ g := fun h e' => by have h' : HavG.bkV (HavG.slot a' 14) ≠ HavG.bkV (HavG.slot a' 15) := n3; rw [e', e9] at h'; exact h'
   refine HavG.tabY_store rfl rfl (by decide) ⟨_, storeC rfl d1 d2 hk7, ⟨⟨ts.mono (fun b e => by rw [e]; exact hgB), fun i => i.elim⟩, trivial⟩, fun j V hV hjl hji hbf h => (by subst hV; exact r3_store h ts hC (fun m hm h5 h eh => by (match m, h5, hm, eh with | 5, _, hm, eh => exact hn0 h eh | 6, _, hm, eh => exact hn1 h eh | 7, _, hm, eh => exact hn2 h eh | 8, _, hm, eh => exact hn3 h eh | 9, _, hm, eh => exact absurd hm hji | m + 10, _, hm, eh => exact absurd hm (by have h9 := hjl; simp at h9; omega) | 0, h5, _, _ => exact absurd h5 (by decide) | 1, h5, _, _ => exact absurd h5 (by decide) | 2, h5, _, _ => exact absurd h5 (by decide) | 3, h5, _, _ => exact absurd h5 (by decide) | 4, h5, _, _ => exact absurd h5 (by decide)))), fun _ _ _ _ h => h, fun V hV => ⟨g, (hV 9 (by decide)).trans e9, hC⟩⟩
  | j + 15, hj, _, _, _, _, _, _, _, _ => exact absurd hj (by simp)
 intro f w2 hg hjj hf hap; obtain ⟨b11, q0, k11, -⟩ : ∃ g, f 11 = .pointer (some ⟨g, 0, none⟩) ∧ K.heap.size <= g ∧ _ := hf 5 (by decide)
 obtain ⟨b12, q1, k12, -⟩ : ∃ g, f 12 = .pointer (some ⟨g, 0, none⟩) ∧ K.heap.size <= g ∧ _ := hf 6 (by decide)
 obtain ⟨b13, q2, k13, -⟩ : ∃ g, f 13 = .pointer (some ⟨g, 0, none⟩) ∧ K.heap.size <= g ∧ _ := hf 7 (by decide)
 obtain ⟨b14, q3, k14, -⟩ : ∃ g, f 14 = .pointer (some ⟨g, 0, none⟩) ∧ K.heap.size <= g ∧ _ := hf 8 (by decide)
 obtain ⟨b15, q4, k15, -⟩ : ∃ g, f 15 = .pointer (some ⟨g, 0, none⟩) ∧ K.heap.size <= g ∧ _ := hf 9 (by decide)
 obtain ⟨h0, e0, x11⟩ : ∃ h, f 11 = .pointer (some ⟨h, 0, none⟩) ∧ Blk w2 h 31 (CX9 c fa fl fc la ll lc wa wn wc ta tn tc) := hf 10 (by decide)
 rw [q0] at e0; cases e0
 obtain ⟨h1, e1, x12⟩ : ∃ h, f 12 = .pointer (some ⟨h, 0, none⟩) ∧ Blk w2 h 31 (CX9 c fa fl fc la ll lc wa wn wc ta tn tc) := hf 11 (by decide)
 rw [q1] at e1; cases e1
 obtain ⟨h2, e2, x13⟩ : ∃ h, f 13 = .pointer (some ⟨h, 0, none⟩) ∧ Blk w2 h 31 (CX9 c fa fl fc la ll lc wa wn wc ta tn tc) := hf 12 (by decide)
 rw [q2] at e2; cases e2
 obtain ⟨h3, e3, x14⟩ : ∃ h, f 14 = .pointer (some ⟨h, 0, none⟩) ∧ Blk w2 h 31 (CX9 c fa fl fc la ll lc wa wn wc ta tn tc) := hf 13 (by decide)
 rw [q3] at e3; cases e3
 obtain ⟨h4, e4, x15⟩ : ∃ h, f 15 = .pointer (some ⟨h, 0, none⟩) ∧ Blk w2 h 31 (CX9 c fa fl fc la ll lc wa wn wc ta tn tc) := hf 14 (by decide)
 rw [q4] at e4; cases e4
 have n01 : b11 ≠ b12 := by
  have h : HavG.bkV (f 11) ≠ HavG.bkV (f 12) := hap 5 6 (by decide) (by decide) (by decide) (by decide) (by decide)
  rw [q0, q1] at h; exact h
 have n02 : b11 ≠ b13 := by
  have h : HavG.bkV (f 11) ≠ HavG.bkV (f 13) := hap 5 7 (by decide) (by decide) (by decide) (by decide) (by decide)
  rw [q0, q2] at h; exact h
 have n03 : b11 ≠ b14 := by
  have h : HavG.bkV (f 11) ≠ HavG.bkV (f 14) := hap 5 8 (by decide) (by decide) (by decide) (by decide) (by decide)
  rw [q0, q3] at h; exact h
 have n04 : b11 ≠ b15 := by
  have h : HavG.bkV (f 11) ≠ HavG.bkV (f 15) := hap 5 9 (by decide) (by decide) (by decide) (by decide) (by decide)
  rw [q0, q4] at h; exact h
 have n12 : b12 ≠ b13 := by
  have h : HavG.bkV (f 12) ≠ HavG.bkV (f 13) := hap 6 7 (by decide) (by decide) (by decide) (by decide) (by decide)
  rw [q1, q2] at h; exact h
 have n13 : b12 ≠ b14 := by
  have h : HavG.bkV (f 12) ≠ HavG.bkV (f 14) := hap 6 8 (by decide) (by decide) (by decide) (by decide) (by decide)
  rw [q1, q3] at h; exact h
 have n14 : b12 ≠ b15 := by
  have h : HavG.bkV (f 12) ≠ HavG.bkV (f 15) := hap 6 9 (by decide) (by decide) (by decide) (by decide) (by decide)
  rw [q1, q4] at h; exact h
 have n23 : b13 ≠ b14 := by
  have h : HavG.bkV (f 13) ≠ HavG.bkV (f 14) := hap 7 8 (by decide) (by decide) (by decide) (by decide) (by decide)
  rw [q2, q3] at h; exact h
 have n24 : b13 ≠ b15 := by
  have h : HavG.bkV (f 13) ≠ HavG.bkV (f 15) := hap 7 9 (by decide) (by decide) (by decide) (by decide) (by decide)
  rw [q2, q4] at h; exact h
 have n34 : b14 ≠ b15 := by
  have h : HavG.bkV (f 14) ≠ HavG.bkV (f 15) := hap 8 9 (by decide) (by decide) (by decide) (by decide) (by decide)
  rw [q3, q4] at h; exact h
 have p0 : f 55 = _ := hf 0 (by decide)
 have p1 : f 56 = _ := hf 1 (by decide)
 have p2 : f 57 = _ := hf 2 (by decide)
 have p3 : f 58 = _ := hf 3 (by decide)
 have p4 : f 59 = _ := hf 4 (by decide)
 have HFIN := hd9 (HF.out w2 b11 b12 b13 b14 b15 hg.1 ⟨k11, k12, k13, k14, k15⟩ ⟨n01, n02, n03, n04, n12, n13, n14, n23, n24, n34⟩ x11 x12 x13 x14 x15); simp only [List.filterMap, HavG.puts, List.foldl_cons, List.foldl_nil, Act.put, List.setIfInBounds_toArray, List.set_cons_succ, List.set_cons_zero]; rw [q0, q1, q2, q3, q4]; clear hf hap hjj hg q0 q1 q2 q3 q4 k11 k12 k13 k14 k15 x11 x12 x13 x14 x15 p0 p1 p2 p3 p4 n01 n02 n03 n04 n12 n13 n14 n23 n24 n34; go_wp2; exact HKU.out _ _ ((HFIN.out).go.go)
end
section
variable {fa la wa ta : Option Addr} {fl fc ll lc wn wc tn tc : Nat} {c : ICart}
theorem cartMore_any (w_ : IWag) (l_ : ILot) (o_ : ILk) (which : Nat) (hwh : which <= 255) (w : World) (hP : CtIn w w.heap.size fa fl la ll wa wn ta tn c) : Calls Tryz.prog 11 #[(.agg (CX9 c fa fl fc la ll lc wa wn wc ta tn tc)), .agg #[.int .i64 w_.leaves, .int .i64 w_.takes.lo, .int .i64 w_.takes.hi, .int .i64 w_.room], .agg #[.int .i64 l_.from_, .int .i64 l_.bales, .int .i64 l_.price, .int .i64 l_.until_, .int .i64 l_.less], .agg #[.int .i64 o_.day, .int .i64 o_.dep.lo, .int .i64 o_.dep.hi], .int .u8 which] w fun e w' => e = .returned (.bool true) ∧ Below w.heap.size w w' := by
 have HP := hd9 hP; clear hP; obtain ⟨W, hW⟩ : ∃ W, W = (((w.alloc (.cells (CX9 c fa fl fc la ll lc wa wn wc ta tn tc) 31)).alloc (.cells #[.int .i64 w_.leaves, .int .i64 w_.takes.lo, .int .i64 w_.takes.hi, .int .i64 w_.room] 65)).alloc (.cells #[.int .i64 l_.from_, .int .i64 l_.bales, .int .i64 l_.price, .int .i64 l_.until_, .int .i64 l_.less] 68)).alloc (.cells #[.int .i64 o_.day, .int .i64 o_.dep.lo, .int .i64 o_.dep.hi] 61) := ⟨_, rfl⟩; obtain ⟨b5, hb5⟩ : ∃ b, b = w.heap.size := ⟨_, rfl⟩; obtain ⟨b6, hb6⟩ : ∃ b, b = w.heap.size + 1 := ⟨_, rfl⟩; obtain ⟨b7, hb7⟩ : ∃ b, b = w.heap.size + 1 + 1 := ⟨_, rfl⟩; obtain ⟨b8, hb8⟩ : ∃ b, b = w.heap.size + 1 + 1 + 1 := ⟨_, rfl⟩; have HK0 : Hid (Blk W b5 31 (CX9 c fa fl fc la ll lc wa wn wc ta tn tc)) := by rw [hW, hb5]; exact (((Blk.new w 31 _).alloc _).alloc _).alloc _
 have H60 : Hid (Blk W b6 65 #[.int .i64 w_.leaves, .int .i64 w_.takes.lo, .int .i64 w_.takes.hi, .int .i64 w_.room]) := by rw [hW, hb6]; exact ((Blk.new_ (by simp) 65 _).alloc _).alloc _
 have H70 : Hid (Blk W b7 68 #[.int .i64 l_.from_, .int .i64 l_.bales, .int .i64 l_.price, .int .i64 l_.until_, .int .i64 l_.less]) := by rw [hW, hb7]; exact (Blk.new_ (by simp) 68 _).alloc _
 have H80 : Hid (Blk W b8 61 #[.int .i64 o_.day, .int .i64 o_.dep.lo, .int .i64 o_.dep.hi]) := by rw [hW, hb8]; exact Blk.new_ (by simp) 61 _
 have HB0 : Hid (Below w.heap.size w W) := by rw [hW]; exact ((((Below.refl _ _).alloc (Nat.le_refl _) _).alloc (by simp) _).alloc (by simp; omega) _).alloc (by simp; omega) _
 have HG5 : Hid (w.heap.size <= b5) := by rw [hb5]; exact Nat.le_refl _
 go_enter Tryz.func11, Tryz.ntmps11
 conv => arg 2; whnf
 conv => arg 2; arg 2; arg 2; change mrK 2
 go_upto_region 1 with (fail); rw [<- hW, <- hb8, <- hb7, <- hb6, <- hb5]; clear hW hb5 hb6 hb7 hb8; have hx := HK0.out; obtain ⟨q0, q1, q2, q3, q4, q5, q6, q7, q8, q9, ql⟩ := cx31 hx; clear hx; go_wp2_with fail; refine (fine_any (fa := fa) (fl := fl) (fc := fc) (la := la) (ll := ll) (lc := lc) (wa := wa) (wn := wn) (wc := wc) (ta := ta) (tn := tn) (tc := tc) W (HP.out.grow HB0.out)).mono ?_; rintro e v1 ⟨⟨b, rfl, hl⟩, hb⟩; have HB1 : Hid (Below w.heap.size w v1) := HB0.out.trans (hb.mono HB0.out.size); have HK1 := hd9 (HK0.out.below hb HK0.out.lt); have H61 := hd9 (H60.out.below hb H60.out.lt); have H71 := hd9 (H70.out.below hb H70.out.lt); have H81 := hd9 (H80.out.below hb H80.out.lt); have HLN := hd9 hl; clear hb hl; clear q0 q1 q2 q3 q4 q5 q6 q7 q8 q9 ql; cases b
 case false =>
  go_wp2_with fail; refine (alive_any _).mono ?_
  rintro e v2 ⟨rfl, hb⟩; have HB2 : Hid (Below w.heap.size w v2) := HB1.out.trans (hb.mono HB1.out.size); clear hb; go_wp2; go_ret
  exact ⟨rfl, HB2.out⟩
 have HFIN : Hid (WR8 2 w (.int .u8 which) (.pointer (some ⟨b5, 0, none⟩)) (.pointer (some ⟨b6, 0, none⟩)) (.pointer (some ⟨b7, 0, none⟩)) (.pointer (some ⟨b8, 0, none⟩)) v1) := mr2 (l_ := l_) (o_ := o_) (w_ := w_) ⟨HB1.out, HP.out, HK1.out, HLN.out rfl, HG5.out⟩ H61.out H71.out H81.out hwh; clear HP HB1 HK1 H61 H71 H81 HLN HG5 HB0 HK0 H60 H70 H80; go_wp2; exact (HFIN.out).go.go
end
end
section
open Go.ChangeShapes Go.WideShapes Go.ChangeAt Go.RowKit
theorem cartMore_lifted (os : Os) (started : os.Started) (H : Type) (enc : TypeId × Value -> H) :
  ReturnsInHanded {} Tryz.checked os 11 .any (Rows.cartMoreSpec.pre6 enc Tryz.prog Tryz.f11 Rows.cartMoreRow.domain false) (Rows.cartMoreSpec.post enc Tryz.prog Tryz.f11 false true false false) := by
 refine returnsInHanded_of_change (C := Tryz.checked) rowOwn started (by kernel_rfl) Tryz.func11
  (ChangeSpec.witness6 (enc := enc) (C := Tryz.checked) false ⟨#[], #[(.agg #[.int .i64 0, .int .i64 0, .int .i64 0, .int .i64 0, .int .i64 0, .slice none 0 0, .slice none 0 0, .int .i64 0, .slice none 0 0, .slice none 0 0]), (.agg #[.int .i64 0, .int .i64 0, .int .i64 0, .int .i64 0]), (.agg #[.int .i64 0, .int .i64 0, .int .i64 0, .int .i64 0, .int .i64 0]), (.agg #[.int .i64 0, .int .i64 0, .int .i64 0]), .int .u8 0], []⟩ 8 (by kernel_rfl) (by kernel_rfl) (by kernel_rfl) (by kernel_rfl)) ?_
 intro W base args ds gs before hval0 hW _ _; have hval : ∀ (j : Nat) t v, Tryz.f11.params[j]? = some t -> args[j]? = some v -> Value.okWide Tryz.prog W .any base t v := hval0; have hW' := hW; obtain ⟨p, q, hA0, hV, rfl, hfz, hnd⟩ := hW
 have hA : DataW.TrodAll enc Tryz.prog W 0 (fun _ => true) true Tryz.f11.params.toList args.toList ds p := hA0
 rw [Tryz.params11] at hA hval; obtain ⟨v0, vs0, d0, ds0, p0, q0, hargs, rfl, rfl, h0, r0⟩ := trodAll_cons hA; obtain ⟨v1, vs1, d1, ds1, p1, q1, rfl, rfl, rfl, h1, r1⟩ := trodAll_cons r0; obtain ⟨v2, vs2, d2, ds2, p2, q2, rfl, rfl, rfl, h2, r2⟩ := trodAll_cons r1; obtain ⟨v3, vs3, d3, ds3, p3, q3, rfl, rfl, rfl, h3, r3⟩ := trodAll_cons r2; obtain ⟨v4, vs4, d4, ds4, p4, q4, rfl, rfl, rfl, h4, r4⟩ := trodAll_cons r3; obtain ⟨rfl, rfl, rfl⟩ := trodAll_nil r4; obtain rfl : args = #[v0, v1, v2, v3, v4] := by cases args; simp_all
 obtain ⟨rfl, rfl⟩ := trodVars_none hV; have k0 := h0; have lt0 : ∀ x ∈ p0, x.block < W.heap.size := by obtain ⟨m, hm⟩ := k0; exact DataW.trod_lt m _ _ _ hm
 obtain ⟨fa, la, wa, ta, fl, fc, ll, lc, wn, wc, tn, tc, P, rfl, hP⟩ := open_cart (hval 0 31 v0 rfl rfl) h0; have k1 := h1; have lt1 : ∀ x ∈ p1, x.block < W.heap.size := by obtain ⟨m, hm⟩ := k1; exact DataW.trod_lt m _ _ _ hm
 obtain ⟨a1, rfl⟩ := open_wagon (hval 1 65 v1 rfl rfl) h1; have k2 := h2; have lt2 : ∀ x ∈ p2, x.block < W.heap.size := by obtain ⟨m, hm⟩ := k2; exact DataW.trod_lt m _ _ _ hm
 obtain ⟨a2, rfl⟩ := open_lot (hval 2 68 v2 rfl rfl) h2; have k3 := h3; have lt3 : ∀ x ∈ p3, x.block < W.heap.size := by obtain ⟨m, hm⟩ := k3; exact DataW.trod_lt m _ _ _ hm
 obtain ⟨a3, rfl⟩ := open_look (hval 3 61 v3 rfl rfl) h3; obtain ⟨a4, rfl, rfl, rfl, w4⟩ := open_int Tryz.underlying5 (hval 4 5 v4 rfl rfl) h4; have b4 := u8_wf w4; obtain ⟨n4, hn4⟩ : ∃ m : Nat, a4 = m := ⟨a4.toNat, by omega⟩
 subst hn4; clear hA0 hval0; simp only [List.append_nil] at hW'
 refine (cartMore_any a1 a2 a3 n4 (by omega) W hP).mono fun e W' ⟨he, bel⟩ => ?_
 subst he
 exact ⟨_, rfl, _, _, _, [], _, [], hW', trodAll_mk1 (shut_bool Tryz.underlying4 _), (trodAll_cons_mk (Below.trod rowLaidOut (by kernel_rfl) (of_decide_eq_true (by kernel_rfl)) k0 bel lt0) (trodAll_cons_mk (Below.trod rowLaidOut (by kernel_rfl) (of_decide_eq_true (by kernel_rfl)) k1 bel lt1) (trodAll_cons_mk (Below.trod rowLaidOut (by kernel_rfl) (of_decide_eq_true (by kernel_rfl)) k2 bel lt2) (trodAll_cons_mk (Below.trod rowLaidOut (by kernel_rfl) (of_decide_eq_true (by kernel_rfl)) k3 bel lt3) (trodAll_cons_mk (shut_int Tryz.underlying5 w4) trodAll_mk0))))), rfl, bel.frame _, fun h => by cases h⟩
theorem cartMore_holds : Rows.CartMoreSaid :=
 OpenClaim.holds_of_wide 11 Tryz.f11 rfl rfl rfl rfl rfl rfl rfl ⟨rfl, rfl, rfl, rfl, rfl⟩ rfl rfl rfl rfl rfl (by kernel_rfl) Tryz.func11 (by kernel_rfl)
  (of_decide_eq_true (by kernel_rfl)) (by unfold Func.isWrapper; first | (rw [if_pos (by decide +kernel)]; kernel_rfl) | (rw [if_neg (by decide +kernel)]; exact ⟨rfl, rfl⟩))
  (fun os started H enc _ => cartMore_lifted os started H enc)
#print axioms cartMore_holds
end
end Go.Proofs.YtgmfhngcehkibaaGreat
