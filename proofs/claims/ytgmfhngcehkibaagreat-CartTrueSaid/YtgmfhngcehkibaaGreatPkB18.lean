/- Worth: what each lot of a plan brings at least and at most, and the sums. What is known of what is left: the map, what it holds, what a look and a store make of it; which way is the best. Condition: what the statements say. -/
import Derived.Test.YtgmfhngcehkibaaGreatPkB17
set_option maxRecDepth 100000
set_option maxHeartbeats 6400000
namespace Go.Proofs.YtgmfhngcehkibaaGreat
open Go.RowKit Go.Hav Go.Shelf Go.Sq
attribute [local go_sem] Oper.semAt_some
def w11T (BW B0 B2 bl ol b13 j pn tc : Nat) (dv rv : Value) (k : Nat) (xs ys : List Int) (l : ILot) (y1 y2 : Int) (i : Nat) (V : Nat → Value) (w : World) : Prop :=
 match i with
 | 0 => V 0 = dv
 | 1 => V 1 = .pointer (some ⟨B2, 9, none⟩)
 | 2 => V 2 = .slice (some ⟨bl, ol, none⟩) pn tc
 | 3 => V 3 = .int .i64 j
 | 4 => V 4 = .pointer (some ⟨bl, ol + j * 5, none⟩)
 | 5 => V 5 = .agg #[.int .i64 l.from_, .int .i64 l.bales, .int .i64 l.price, .int .i64 l.until_, .int .i64 l.less]
 | 6 => V 6 = .pointer (some ⟨b13, 1, none⟩)
 | 7 => V 7 = .int .i64 y1
 | 8 => V 8 = .int .i64 (bringsP l y1)
 | 9 => ∃ g : Nat, V 9 = .slice (some ⟨g, 0, none⟩) 1 1 ∧ BW ≤ g ∧ Blk w g 3 #[Value.int .i64 (bringsP l y1)]
 | 10 => ∃ g cp : Nat, V 10 = .slice (some ⟨g, 0, none⟩) (k + 1) cp ∧ w.ownsRow B0 3 1 (.slice (some ⟨g, 0, none⟩) (k + 1) cp) (k + 1) ((xs ++ [bringsP l y1]).flatMap inI) ∧ (dv.ownBlock = some g ∨ BW ≤ g)
 | 11 => V 11 = rv
 | 12 => V 12 = .pointer (some ⟨B2, 9, none⟩)
 | 13 => V 13 = .slice (some ⟨bl, ol, none⟩) pn tc
 | 14 => V 14 = .int .i64 j
 | 15 => V 15 = .pointer (some ⟨bl, ol + j * 5, none⟩)
 | 16 => V 16 = .agg #[.int .i64 l.from_, .int .i64 l.bales, .int .i64 l.price, .int .i64 l.until_, .int .i64 l.less]
 | 17 => V 17 = .pointer (some ⟨b13, 0, none⟩)
 | 18 => V 18 = .int .i64 y2
 | 19 => V 19 = .int .i64 (bringsP l y2)
 | 20 => ∃ g : Nat, V 20 = .slice (some ⟨g, 0, none⟩) 1 1 ∧ BW ≤ g ∧ Blk w g 3 #[Value.int .i64 (bringsP l y2)]
 | 21 => ∃ g cp : Nat, V 21 = .slice (some ⟨g, 0, none⟩) (k + 1) cp ∧ w.ownsRow B0 3 1 (.slice (some ⟨g, 0, none⟩) (k + 1) cp) (k + 1) ((ys ++ [bringsP l y2]).flatMap inI) ∧ (rv.ownBlock = some g ∨ BW ≤ g)
 | 22 => V 22 = V 10
 | 23 => V 23 = V 21
 | _ => True
def w11S (B0 : Nat) (dv rv : Value) (k : Nat) (xs ys : List Int) (i : Nat) (w : World) : Prop :=
 match i with
 | 10 => w.ownsRow B0 3 1 dv k (xs.flatMap inI)
 | 21 => w.ownsRow B0 3 1 rv k (ys.flatMap inI)
 | _ => True
section
variable {BW B0 B2 bl ol b13 j pn tc k i : Nat} {dv rv : Value} {xs ys : List Int} {l : ILot} {y1 y2 : Int} {V : Nat → Value} {w w' : World} {S : Nat → Prop}
theorem w11_keep (h : w11T BW B0 B2 bl ol b13 j pn tc dv rv k xs ys l y1 y2 i V w) (t : Turn S w w') (h5 : i = 9 ∨ i = 20 → ∀ b, S b → b < BW) (h6 : i = 10 → ∀ g, B0 ≤ g → (dv.ownBlock = some g ∨ BW ≤ g) → ¬ S g) (h13 : i = 21 → ∀ g, B0 ≤ g → (rv.ownBlock = some g ∨ BW ≤ g) → ¬ S g) : w11T BW B0 B2 bl ol b13 j pn tc dv rv k xs ys l y1 y2 i V w' := by
 unfold w11T at h ⊢
 split at h
 case h_10 => obtain ⟨g, e2, hg, h⟩ := h; exact ⟨g, e2, hg, h.turn t (fun hs => by have := h5 (.inl rfl) g hs; omega)⟩
 case h_11 => obtain ⟨g, cp, e2, h, hg⟩ := h; exact ⟨g, cp, e2, own_turn h t (fun q hq => by cases hq; exact h6 rfl g (own_blk h).choose_spec.2.1 hg), hg⟩
 case h_21 => obtain ⟨g, e2, hg, h⟩ := h; exact ⟨g, e2, hg, h.turn t (fun hs => by have := h5 (.inr rfl) g hs; omega)⟩
 case h_22 => obtain ⟨g, cp, e2, h, hg⟩ := h; exact ⟨g, cp, e2, own_turn h t (fun q hq => by cases hq; exact h13 rfl g (own_blk h).choose_spec.2.1 hg), hg⟩
 all_goals exact h
theorem w11_grow (h : w11T BW B0 B2 bl ol b13 j pn tc dv rv k xs ys l y1 y2 i V w) (hb : Below w.heap.size w w') : w11T BW B0 B2 bl ol b13 j pn tc dv rv k xs ys l y1 y2 i V w' := w11_keep (S := fun _ => False) h (Turn.of_below hb) (fun _ _ h => h.elim) (fun _ _ _ _ h => h) (fun _ _ _ _ h => h)
theorem w11_apd (h : w11T BW B0 B2 bl ol b13 j pn tc dv rv k xs ys l y1 y2 i V w) (t : Turn (fun b => dv.ownBlock = some b) w w') (hf : (∀ g, dv.ownBlock = some g → B0 ≤ g ∧ g < BW) ∧ (∀ g, rv.ownBlock = some g → B0 ≤ g ∧ g < BW) ∧ B0 ≤ BW) (ha : ∀ g, dv.ownBlock = some g → ¬ rv.ownBlock = some g) (hi : i ≠ 10) : w11T BW B0 B2 bl ol b13 j pn tc dv rv k xs ys l y1 y2 i V w' :=
 w11_keep h t (fun _ b e => (hf.1 b e).2) (fun e => absurd e hi) (fun _ g _ hg e => hg.elim (ha g e) (fun h => by have := (hf.1 g e).2; omega))
theorem w11_apr (h : w11T BW B0 B2 bl ol b13 j pn tc dv rv k xs ys l y1 y2 i V w) (t : Turn (fun b => rv.ownBlock = some b) w w') (hf : (∀ g, dv.ownBlock = some g → B0 ≤ g ∧ g < BW) ∧ (∀ g, rv.ownBlock = some g → B0 ≤ g ∧ g < BW) ∧ B0 ≤ BW) (ha : ∀ g, dv.ownBlock = some g → ¬ rv.ownBlock = some g) (hi : i ≠ 21) : w11T BW B0 B2 bl ol b13 j pn tc dv rv k xs ys l y1 y2 i V w' :=
 w11_keep h t (fun _ b e => (hf.2.1 b e).2) (fun _ g _ hg e => hg.elim (fun h => ha g h e) (fun h => by have := (hf.2.1 g e).2; omega)) (fun e => absurd e hi)
theorem w11S_zero (h1 : w.ownsRow B0 3 1 dv k (xs.flatMap inI)) (h2 : w.ownsRow B0 3 1 rv k (ys.flatMap inI)) (i : Nat) : w11S B0 dv rv k xs ys i w := by
 unfold w11S
 split
 ·exact h1
 ·exact h2
 ·trivial
theorem w11S_keep (h : w11S B0 dv rv k xs ys i w) (t : Turn S w w') (h6 : i = 10 → ∀ g, dv.ownBlock = some g → ¬ S g) (h13 : i = 21 → ∀ g, rv.ownBlock = some g → ¬ S g) : w11S B0 dv rv k xs ys i w' := by
 unfold w11S at h ⊢
 split at h
 ·exact own_turn h t (fun g hg => h6 rfl g hg)
 ·exact own_turn h t (fun g hg => h13 rfl g hg)
 ·trivial
theorem w11S_grow (h : w11S B0 dv rv k xs ys i w) (hb : Below w.heap.size w w') : w11S B0 dv rv k xs ys i w' := w11S_keep (S := fun _ => False) h (Turn.of_below hb) (fun _ _ _ h => h) (fun _ _ _ h => h)
theorem w11_apdS (h : w11S B0 dv rv k xs ys i w) (t : Turn (fun b => dv.ownBlock = some b) w w') (ha : ∀ g, dv.ownBlock = some g → ¬ rv.ownBlock = some g) (hi : i ≠ 10) : w11S B0 dv rv k xs ys i w' := w11S_keep h t (fun e => absurd e hi) (fun _ g hg e => ha g e hg)
theorem w11_aprS (h : w11S B0 dv rv k xs ys i w) (t : Turn (fun b => rv.ownBlock = some b) w w') (ha : ∀ g, dv.ownBlock = some g → ¬ rv.ownBlock = some g) (hi : i ≠ 21) : w11S B0 dv rv k xs ys i w' := w11S_keep h t (fun _ g hg e => ha g hg e) (fun e => absurd e hi)
end
theorem cinfoE3 : (Tryz.prog.info? 3).map (fun i => (i.zero, i.size, i.bytes)) = some (some (.int .i64 0), 1, 8) := by kernel_rfl
def bringL (ws : List IWag) (f : IWag → Int) : List ILot → List Int → List Int
 | l :: ls, p :: ps => (if p < 0 then [] else match ws[p.toNat]? with | some w => [bringsP l (f w)] | none => []) ++ bringL ws f ls ps
 | _, _ => []
theorem bringL_take (ws : List IWag) (f : IWag → Int) : ∀ (ls : List ILot) (ps : List Int) (j : Nat) (l : ILot) (p : Int), ls[j]? = some l → ps[j]? = some p →
  bringL ws f (ls.take (j + 1)) (ps.take (j + 1)) = bringL ws f (ls.take j) (ps.take j) ++ (if p < 0 then [] else match ws[p.toNat]? with | some w => [bringsP l (f w)] | none => [])
 | l0 :: ls, p0 :: ps, 0, l, p, h1, h2 => by
  obtain rfl : l0 = l := by simpa using h1
  obtain rfl : p0 = p := by simpa using h2
  simp [bringL]
 | l0 :: ls, p0 :: ps, j + 1, l, p, h1, h2 => by
  simp only [List.take_succ_cons, bringL, List.append_assoc]; rw [bringL_take ws f ls ps j l p (by simpa using h1) (by simpa using h2)]
 | [], _, _, _, _, h1, _ => by simp at h1
 | _ :: _, [], _, _, _, _, h2 => by simp at h2
theorem bringsP_bd {l : ILot} (h : lotB l = true) (d : Int) : 0 ≤ bringsP l d ∧ bringsP l d ≤ 1000000 := by
 have h := lotB_iff.1 h; have m1 : 0 ≤ l.bales * l.price ∧ l.bales * l.price ≤ 20 * 50 := ⟨Int.mul_nonneg (by omega) (by omega), Int.mul_le_mul (by omega) (by omega) (by omega) (by omega)⟩
 have m2 : 0 ≤ l.bales * l.less ∧ l.bales * l.less ≤ 20 * 50 := ⟨Int.mul_nonneg (by omega) (by omega), Int.mul_le_mul (by omega) (by omega) (by omega) (by omega)⟩
 unfold bringsP
 split <;> omega
theorem bringL_bd {ws : List IWag} (f : IWag → Int) : ∀ (ls : List ILot) (ps : List Int), (∀ l ∈ ls, lotB l = true) → ∀ x ∈ bringL ws f ls ps, 0 ≤ x ∧ x ≤ 1000000
 | l :: ls, p :: ps, h, x, hx => by
  simp only [bringL, List.mem_append] at hx; rcases hx with hx | hx
  ·split at hx
   ·cases hx
   ·split at hx
    ·obtain rfl := List.mem_singleton.1 hx; exact bringsP_bd (h l (by simp)) _
    ·cases hx
  ·exact bringL_bd f ls ps (fun l hl => h l (List.mem_cons_of_mem _ hl)) x hx
 | [], _, _, x, hx => by simp [bringL] at hx
 | _ :: _, [], _, x, hx => by simp [bringL] at hx
def worthE (c : ICart) (ps : List Int) : Nat := if openE c (planB c ps) = 0 then (if (checkV c ps).2 = 0 then 0 else 11) else openE c (planB c ps)
def worthS (c : ICart) (ps : List Int) : Int × Int := (sumL (bringL c.wg (fun w => (comesP w).2) c.lt ps), sumL (bringL c.wg (fun w => (comesP w).1) c.lt ps))
def worthV (c : ICart) (ps : List Int) : Int × Int := if worthE c ps = 0 then worthS c ps else (0, 0)
section
variable {fa la wa ta : Option Addr} {fl fc ll lc wn wc tn tc : Nat} {c : ICart}
variable {w w' : World} {pa : Option Addr} {pn pc : Nat} {ps : List Int}
theorem PWorth_any (hP : CtIn w w.heap.size fa fl la ll wa wn ta tn c) (hL : PlIn w w.heap.size pa pn ps) : Calls Tryz.prog 20 #[(.agg #[.int .i64 c.riv.depth.lo, .int .i64 c.riv.depth.hi, .int .i64 c.riv.fall.lo, .int .i64 c.riv.fall.hi, .int .i64 c.riv.days, .slice fa fl fc, .slice la ll lc, .int .i64 c.draws, .slice wa wn wc, .slice ta tn tc]), .slice pa pn pc] w fun e w' => e = .returned (.tuple #[spanV (worthV c ps), .int .i64 (worthE c ps : Nat)]) ∧ Below w.heap.size w w' := by
 obtain ⟨EE, hEE⟩ : ∃ EE : Nat, EE = worthE c ps := ⟨_, rfl⟩; have HEE := Lib.hid hEE
 have HV0 : Hid (EE ≠ 0 → spanV (worthV c ps) = .agg #[.int .i64 0, .int .i64 0]) := fun h => by unfold worthV; rw [if_neg (by rw [← hEE]; exact h)]; rfl
 have HV1 : Hid (EE = 0 → worthV c ps = worthS c ps) := fun h => by show worthV c ps = _; unfold worthV; rw [if_pos (by rw [← hEE]; exact h)]
 rw [← hEE]; have HP := Lib.hid hP; have HPL := Lib.hid hL; have EG := Lib.hid (enters_of Tryz.func64 (by kernel_rfl) rfl)
 have EG65 := Lib.hid (enters_of Tryz.func65 (by kernel_rfl) rfl)
 clear hP hL hEE; refine (callsIn_wide (n := 6)).1 (callsIn_of_wp_marks Tryz.func20 rfl trivial ?_ rfl); simp only [Tryz.ntmps20, List.size_toArray, List.length_cons, List.length_nil, Nat.reduceAdd, Nat.reduceSub, Array.replicate_succ, Array.replicate_zero, List.push_toArray, List.append_toArray, List.nil_append, List.cons_append]; refine wpIn_wide.2 ?_; have hmf := hmf0; go_upto_region 2 with (fail); obtain ⟨W, hW⟩ : ∃ W, W = (((w.alloc (.cells #[.int .i64 c.riv.depth.lo, .int .i64 c.riv.depth.hi, .int .i64 c.riv.fall.lo, .int .i64 c.riv.fall.hi, .int .i64 c.riv.days, .slice fa fl fc, .slice la ll lc, .int .i64 c.draws, .slice wa wn wc, .slice ta tn tc] 31)).alloc (.cells #[.slice pa pn pc] 32)).alloc (.cells #[.int .i64 0, .int .i64 0] 23)).alloc (.cells #[.int .i64 0] 35) := ⟨_, rfl⟩; obtain ⟨B2, hB2⟩ : ∃ B2, B2 = w.heap.size := ⟨_, rfl⟩; obtain ⟨B3, hB3⟩ : ∃ B3, B3 = w.heap.size + 1 := ⟨_, rfl⟩; obtain ⟨B4, hB4⟩ : ∃ B4, B4 = w.heap.size + 1 + 1 := ⟨_, rfl⟩; obtain ⟨B5, hB5⟩ : ∃ B5, B5 = w.heap.size + 1 + 1 + 1 := ⟨_, rfl⟩; have HB0 : Hid (Below w.heap.size w W) := by rw [hW]; exact ((((Below.refl _ _).alloc (Nat.le_refl _) _).alloc (by simp) _).alloc (by simp; omega) _).alloc (by simp; omega) _
 have HXB : Hid (Blk W B2 31 #[.int .i64 c.riv.depth.lo, .int .i64 c.riv.depth.hi, .int .i64 c.riv.fall.lo, .int .i64 c.riv.fall.hi, .int .i64 c.riv.days, .slice fa fl fc, .slice la ll lc, .int .i64 c.draws, .slice wa wn wc, .slice ta tn tc]) := by rw [hW, hB2]; exact (((Blk.new w 31 _).alloc _).alloc _).alloc _
 have HX3 : Hid (Blk W B3 32 #[.slice pa pn pc]) := by rw [hW, hB3]; exact ((Blk.new_ (by simp) 32 _).alloc _).alloc _
 have HX4 : Hid (Blk W B4 23 #[.int .i64 0, .int .i64 0]) := by rw [hW, hB4]; exact (Blk.new_ (by simp) 23 _).alloc _
 have HX5 : Hid (Blk W B5 35 #[.int .i64 0]) := by rw [hW, hB5]; exact Blk.new_ (by simp) 35 _
 have HE : Hid (w.heap.size ≤ B5 ∧ w.heap.size ≤ W.heap.size ∧ B5 < W.heap.size ∧ w.heap.size ≤ B4 ∧ B4 ≠ B5 ∧ B2 < W.heap.size ∧ B4 < W.heap.size) := ⟨by omega, HB0.out.size, HX5.out.lt, by omega, by omega, HXB.out.lt, HX4.out.lt⟩
 rw [← hW, ← hB5, ← hB4, ← hB3, ← hB2]; clear hW hB2 hB3 hB4 hB5; obtain ⟨q0, q1, q2, q3, q4, q5, q6, q7, q8, q9, ql⟩ := cx31 HXB.out; have p3 := HX3.out.cell 0; have l3 := HX3.out.lt; simp at p3; go_wp2_with fail
 refine (copen_any (fc := fc) (lc := lc) (wc := wc) (tc := tc) (b := planB c ps) 65 #[.pointer (some ⟨B2, 0, none⟩), .pointer (some ⟨B3, 0, none⟩)] EG65.out (by exact fun hv => isQ65 (B := W.heap.size) (w := W) HPL.out.len (HPL.out.grow HB0.out).row (Nat.le_refl _) HP.out.ewn HP.out.etn HPL.out.max HXB.out HX3.out hv) (by exact HP.out.grow HB0.out)).mono ?_
 clear q0 q1 q2 q3 q4 q5 q6 q7 q8 q9 ql; clear p3 l3; rintro e w1 ⟨hb, (⟨h1, rfl⟩ | ⟨h1, d, rfl, hd, hk⟩)⟩
 ·have hE1 : EE = openE c (planB c ps) := by rw [HEE.out]; unfold worthE; rw [if_neg h1]
  rw [← hE1]; rw [← hE1] at h1; have HBP : Hid (Below W.heap.size W w1) := hb; clear hb hE1; go_wp2; obtain ⟨e1, e2, _, e4, e5, _⟩ := HE.out
  refine api_panicC (ds := []) (B := W.heap.size) isAnsC64 EG.out (Marks.nil _ _) (HX5.out.below HBP.out HX5.out.lt) (fun w2 hk2 hfar hbel => ?_)
  have g0 := hk2.cell 0; have z0 := (hfar B4 23 _ e5 (HX4.out.below HBP.out HX4.out.lt)).cell 0; have z1 := (hfar B4 23 _ e5 (HX4.out.below HBP.out HX4.out.lt)).cell 1; simp at g0 z0 z1; refine ⟨.tuple #[.agg #[.int .i64 0, .int .i64 0], .int .i64 EE], by simp [results, Tryz.results20, go_sem, g0, z0, z1], by rw [HV0.out h1], ?_⟩
  exact HB0.out.trans ((HBP.out.mono e2).trans ((hbel w.heap.size e2 e1).mono (Nat.le_refl _)))
 ·obtain ⟨hv, hi, ht⟩ := openE_zero h1; have HOK := Lib.hid (And.intro hv hi); have HB1 : Hid (Below W.heap.size W w1) := hb; have HYD := Lib.hid (YdIn.of_open (w2 := w1) (HP.out.grow HB0.out) hb (Nat.le_refl _) hd hk hv); have HE1 : Hid (EE = if (checkV c ps).2 = 0 then 0 else 11) := by show _ = _; rw [HEE.out]; unfold worthE; rw [if_pos h1]
  have HX1 := Lib.hid (HX3.out.below hb HX3.out.lt); have p3 := HX1.out.cell 0; have l3 := HX1.out.lt; simp at p3; clear hb hd hk h1 hv hi ht; go_wp2_with fail; refine (ccheck_any (fa := fa) (fl := fl) (fc := fc) (la := la) (ll := ll) (lc := lc) (wa := wa) (wn := wn) (wc := wc) (ta := ta) (tn := tn) (tc := tc) (pc := pc) HOK.out.2 HPL.out.len ((HPL.out.grow HB0.out).row.below HB1.out) HYD.out).mono ?_; rintro e w2 ⟨rfl, hb⟩; have HB2 : Hid (Below W.heap.size W w2) := HB1.out.trans (hb.mono HB1.out.size); clear hb p3 l3; obtain ⟨X, hX⟩ : ∃ X, X = checkV c ps := ⟨_, rfl⟩; rw [← hX] at HE1 ⊢; clear hX
  by_cases hx : X.2 = 0
  ·have hE0 : EE = 0 := by rw [HE1.out, if_pos hx]
   subst hE0; have hxq : ((X.2 : Int) == 0) = true := by simp; exact hx
   have hlen := (planB_parts HOK.out.2).1; have hpl := (planB_parts HOK.out.2).2; obtain rfl : tn = pn := by have := HP.out.etn; have := HPL.out.len; omega
   have hw3 : wn ≤ 3 := by have := HP.out.ewn; have := (okC_parts HOK.out.1).2.2.1; omega
   have ht5 : tn ≤ 5 := by have := HP.out.etn; have := (okC_parts HOK.out.1).2.2.2.1; omega
   have HEN : Hid (c.wg.length = wn ∧ c.lt.length = tn ∧ ps.length = tn) := ⟨HP.out.ewn, HP.out.etn, HPL.out.len⟩; have HLT : Hid (∀ l ∈ c.lt, lotB l = true) := (okC_parts HOK.out.1).2.2.2.2.2; have HWG : Hid (∀ l ∈ c.wg, wagB l = true) := (okC_parts HOK.out.1).2.2.2.2.1; have HPS := Lib.hid hpl; have HB02 : Hid (Below w.heap.size w w2) := HB0.out.trans (HB2.out.mono HE.out.2.1); have HR := Lib.hid (HPL.out.row.below HB02.out); have HW2 := Lib.hid (HP.out.hwg.below HB02.out); have HT2 := Lib.hid (HP.out.hlt.below HB02.out); have HX2 := Lib.hid (HXB.out.below HB2.out HXB.out.lt); have HY3 := Lib.hid (HX3.out.below HB2.out HX3.out.lt); have hwW : w.heap.size ≤ w2.heap.size := HB02.out.size; obtain ⟨i0, hi, hz0, hz1, hz2⟩ := info_parts cinfoE3; have HI := Lib.hid hi; have HI0 := Lib.hid hz0; have HI1 := Lib.hid hz1; have HI2 := Lib.hid hz2; have p3 := HY3.out.cell 0; have l3 := HY3.out.lt; simp at p3; clear hlen hpl hi hz0 hz1 hz2; go_wp2_with fail; refine (cmust_any true 11 _).mono ?_; rintro e wz ⟨qq, rfl⟩; obtain rfl : e = .returned (.tuple #[]) := qq; go_wp2; clear p3 l3
   go_loopw [29, 9, 10] (fun i d e wr => ∃ (j k : Nat) (xs ys : List Int) (dA rA : Option Addr) (dc rc : Nat), j ≤ tn ∧ i = .int .i64 j ∧ d = .slice dA k dc ∧ e = .slice rA k rc ∧ k ≤ j ∧ Hid (xs = bringL c.wg (fun w => (comesP w).2) (c.lt.take j) (ps.take j)) ∧ Hid (ys = bringL c.wg (fun w => (comesP w).1) (c.lt.take j) (ps.take j)) ∧ Hid (wr.ownsRow wz.heap.size 3 1 (.slice dA k dc) k (xs.flatMap inI)) ∧ Hid (wr.ownsRow wz.heap.size 3 1 (.slice rA k rc) k (ys.flatMap inI)) ∧ Hid (∀ g, (Value.slice dA k dc).ownBlock = some g → ¬ (Value.slice rA k rc).ownBlock = some g) ∧ Hid (Below wz.heap.size wz wr)) (fun i _ _ _ => tn - (intOf i).toNat)
   case atStart => exact ⟨0, 0, [], [], none, none, 0, 0, Nat.zero_le _, rfl, rfl, rfl, Nat.le_refl _, by show _ = _; simp [bringL], by show _ = _; simp [bringL], World.ownsRow_nil _ _ _ _, World.ownsRow_nil _ _ _ _, fun g h => (by cases h), Below.refl _ _⟩
   case round =>
    obtain ⟨j, k, xs, ys, dA, rA, dc, rc, hj, rfl, rfl, rfl, hkj, HXS, HYS, HO1, HO2, HAP, HBR⟩ := hrel
    by_cases hlt : j < tn
    ·obtain ⟨p, hp⟩ : ∃ x, ps[j]? = some x := ⟨ps[j]'(by have := HEN.out; omega), by simp⟩
     obtain ⟨l, hl⟩ : ∃ x, c.lt[j]? = some x := ⟨c.lt[j]'(by have := HEN.out; omega), by simp⟩
     have hs1 := bringL_take c.wg (fun w => (comesP w).2) c.lt ps j l p hl hp
     have hs2 := bringL_take c.wg (fun w => (comesP w).1) c.lt ps j l p hl hp
     rw [← HXS.out] at hs1; rw [← HYS.out] at hs2; obtain ⟨bp, op, rfl, hbp, P0⟩ := rd_in (HR.out.below (HBR.out.mono hwW)) j p hp; have hbpw : bp < wr.heap.size := by have := HBR.out.size; omega
     rcases HPS.out p (List.mem_of_getElem? hp) with hp1 | hp1
     ·have hneg : ¬ p ≥ 0 := by omega
      rw [if_pos (by omega), List.append_nil] at hs1 hs2
      have HS1 := Lib.hid hs1.symm; have HS2 := Lib.hid hs2.symm; clear hs1 hs2 hp hl hbp; go_wp2; go_roundw
      case rel => exact ⟨j + 1, k, xs, ys, dA, rA, dc, rc, by omega, by go_num, rfl, rfl, by omega, HS1, HS2, HO1, HO2, HAP, HBR⟩
      case measure => simp [intOf]; omega
     ·obtain ⟨q, rfl⟩ : ∃ q : Nat, p = q := ⟨p.toNat, by omega⟩
      have hqw : q < wn := by have := HEN.out.1; omega
      obtain ⟨wg, hw⟩ : ∃ x, c.wg[q]? = some x := ⟨c.wg[q]'(by have := HEN.out.1; omega), by simp⟩
      rw [if_neg (by omega), Int.toNat_natCast, hw] at hs1 hs2
      simp only at hs1 hs2; have hgB := wagB_iff.1 (HWG.out wg (List.mem_of_getElem? hw)); have HLB := Lib.hid (HLT.out l (List.mem_of_getElem? hl)); obtain ⟨bk, off, rfl, hbk, H0, H1, H2, H3⟩ := rd_wg (HW2.out.below (HBR.out.mono hwW)) q wg hw; have hbkw : bk < wr.heap.size := by have := HBR.out.size; omega
      obtain ⟨g0, ⟨g1, g2⟩, g3⟩ := wg; simp only at hgB H0 H1 H2 H3; have HS1 := Lib.hid hs1; have HS2 := Lib.hid hs2; have HXR := Lib.hid (HX2.out.below HBR.out HX2.out.lt); have q8 := HXR.out.cell 8; have ql := HXR.out.lt; simp at q8; have hpos : (q : Int) ≥ 0 := by omega
      clear hs1 hs2 hp hbp hw hbk; go_wp2_with fail; refine (comes_any g0 g1 g2 g3 (by omega) (by omega) (by omega) _).mono ?_
      rintro e w5 ⟨rfl, hb⟩; obtain ⟨K, hK⟩ : ∃ K, K = w5.alloc (.cells #[.int .i64 (g0 + g1), .int .i64 (g0 + g2)] 23) := ⟨_, rfl⟩; obtain ⟨b13, hb13⟩ : ∃ b, b = w5.heap.size := ⟨_, rfl⟩; obtain ⟨y1, hy1⟩ : ∃ y, y = g0 + g2 := ⟨_, rfl⟩; obtain ⟨y2, hy2⟩ : ∃ y, y = g0 + g1 := ⟨_, rfl⟩; have hBK : Below wr.heap.size wr K := by rw [hK]; exact hb.alloc hb.size _
      have HBK := Lib.hid hBK; have HSP : Hid (Blk K b13 23 #[.int .i64 y2, .int .i64 y1]) := by rw [hK, hb13, hy1, hy2]; exact Blk.new w5 23 _
      have h513 : wr.heap.size ≤ b13 := by rw [hb13]; exact hb.size
      have HY : Hid (y1 = g0 + g2 ∧ y2 = g0 + g1) := ⟨hy1, hy2⟩; go_upto_region 11 with (fail); rw [← hy1, ← hy2] at hK ⊢; rw [← hK, ← hb13]; obtain ⟨bl, ol, rfl, hbl, L0, L1, L2, L3, L4⟩ := rd_lt (HT2.out.below (HBR.out.mono hwW)) j l hl; have hblw : bl < wr.heap.size := by have := HBR.out.size; omega
      obtain ⟨l0, l1, l2, l3, l4⟩ := l; simp only at L0 L1 L2 L3 L4 HS1 HS2
      have hfd : ∀ g, (Value.slice dA k dc).ownBlock = some g → wz.heap.size ≤ g ∧ g < wr.heap.size := fun g hg => by
       obtain ⟨h1, cs, hcs⟩ := own_block HO1.out hg; exact ⟨h1, hcs.lt⟩
      have hfr : ∀ g, (Value.slice rA k rc).ownBlock = some g → wz.heap.size ≤ g ∧ g < wr.heap.size := fun g hg => by
       obtain ⟨h1, cs, hcs⟩ := own_block HO2.out hg; exact ⟨h1, hcs.lt⟩
      have out11 : ∀ b, (b < wz.heap.size ∨ wr.heap.size ≤ b) → ¬ ((Value.slice dA k dc).ownBlock = some b ∨ (Value.slice rA k rc).ownBlock = some b) := fun b hb => by
       rintro (e | e)
       ·have := hfd b e; omega
       ·have := hfr b e; omega
      have hsz := HBR.out.size; have hszK := hBK.size; have hx2w : B2 < wz.heap.size := HX2.out.lt; have HXK := Lib.hid (HXR.out.below hBK HXR.out.lt); have HXS : Hid (¬ ((Value.slice dA k dc).ownBlock = some B2 ∨ (Value.slice rA k rc).ownBlock = some B2)) := out11 B2 (.inl hx2w); have HSS : Hid (¬ ((Value.slice dA k dc).ownBlock = some b13 ∨ (Value.slice rA k rc).ownBlock = some b13)) := out11 b13 (.inr h513)
      have HLX : Hid (∀ w', Turn (fun b => (Value.slice dA k dc).ownBlock = some b ∨ (Value.slice rA k rc).ownBlock = some b) K w' → w'.cell? ⟨bl, ol + j * 5, none⟩ = some (.int .i64 l0) ∧ w'.cell? ⟨bl, ol + j * 5 + 1, none⟩ = some (.int .i64 l1) ∧ w'.cell? ⟨bl, ol + j * 5 + 2, none⟩ = some (.int .i64 l2) ∧ w'.cell? ⟨bl, ol + j * 5 + 3, none⟩ = some (.int .i64 l3) ∧ w'.cell? ⟨bl, ol + j * 5 + 4, none⟩ = some (.int .i64 l4) ∧ bl < w'.heap.size) := fun w' t => by
       have hk : w'.heap[bl]? = wr.heap[bl]? := (t.block bl (by omega) (out11 bl (.inl (by omega)))).trans (hBK.block bl hblw)
       have hc : ∀ o, w'.cell? ⟨bl, o, none⟩ = wr.cell? ⟨bl, o, none⟩ := fun o => World.cell?_of_block (a := ⟨bl, o, none⟩) hk
       exact ⟨(hc _).trans L0, (hc _).trans L1, (hc _).trans L2, (hc _).trans L3, (hc _).trans L4, by have := t.size; omega⟩
      have HOD : Hid (K.ownsRow wz.heap.size 3 1 (.slice dA k dc) k (xs.flatMap inI)) := own_below HO1.out hBK; have HOR : Hid (K.ownsRow wz.heap.size 3 1 (.slice rA k rc) k (ys.flatMap inI)) := own_below HO2.out hBK
      have HFV : Hid ((∀ g, (Value.slice dA k dc).ownBlock = some g → wz.heap.size ≤ g ∧ g < K.heap.size) ∧ (∀ g, (Value.slice rA k rc).ownBlock = some g → wz.heap.size ≤ g ∧ g < K.heap.size) ∧ wz.heap.size ≤ K.heap.size) := ⟨fun g hg => by have := hfd g hg; omega, fun g hg => by have := hfr g hg; omega, by omega⟩
      have HBZ : Hid (Below wz.heap.size wz K) := HBR.out.trans (hBK.mono hsz); clear hb hK hb13 hy1 hy2 hBK hl hbl L0 L1 L2 L3 L4 hfd hfr out11 H0 H1 H2 H3 P0 q8 ql
      refine HavG.wp_region_tabY (R := (TP (ι := Empty) (fun b => (Value.slice dA k dc).ownBlock = some b ∨ (Value.slice rA k rc).ownBlock = some b) (fun i _ => i.elim) (fun i => i.elim))) (fun i V wx => w11T K.heap.size wz.heap.size B2 bl ol b13 j tn tc (Value.slice dA k dc) (Value.slice rA k rc) k xs ys ⟨l0, l1, l2, l3, l4⟩ y1 y2 i V wx) (fun i wx => w11S wz.heap.size (Value.slice dA k dc) (Value.slice rA k rc) k xs ys i wx) (fun _ _ _ => True) (fun i b => (i = 10 ∧ (Value.slice dA k dc).ownBlock = some b) ∨ (i = 21 ∧ (Value.slice rA k rc).ownBlock = some b)) [10, 21] [some 42, some 43, some 44, some 45, some 46, some 47, some 48, some 49, some 50, some 51, some 52, some 53, some 54, some 55, some 56, some 57, some 58, some 59, some 60, some 61, some 62, some 63, some 9, some 10] (by kernel_rfl) (by kernel_rfl) (by rfl) (fun i _ => w11S_grow (w11S_zero HOD.out HOR.out i) (Below.drew (Below.refl _ _))) trivial (fun i b h => h.elim (fun h => (HFV.out.1 b h.2).2) (fun h => (HFV.out.2.1 b h.2).2)) (fun i j b hij h1 h2 => by rcases h1 with ⟨rfl, h1⟩ | ⟨rfl, h1⟩ <;> rcases h2 with ⟨rfl, h2⟩ | ⟨rfl, h2⟩ <;> first | exact hij rfl | exact HAP.out b h1 h2 | exact HAP.out b h2 h1) (fun h => h.1.size) ?_ (fun i hi V w h => by simp only [List.mem_cons, List.not_mem_nil, or_false] at hi; rcases hi with rfl | rfl <;> (obtain ⟨g, cp, e2, h, -⟩ := h; rw [e2]; exact (own_blk h).choose_spec.1.lt)) ?_ ?_
      ·intro i hi V V' w h hV
       match i, hi, h, hV with
       | 0, _, h, hV => exact (hV _ (.inl rfl)).symm.trans h
       | 1, _, h, hV => exact (hV _ (.inl rfl)).symm.trans h
       | 2, _, h, hV => exact (hV _ (.inl rfl)).symm.trans h
       | 3, _, h, hV => exact (hV _ (.inl rfl)).symm.trans h
       | 4, _, h, hV => exact (hV _ (.inl rfl)).symm.trans h
       | 5, _, h, hV => exact (hV _ (.inl rfl)).symm.trans h
       | 6, _, h, hV => exact (hV _ (.inl rfl)).symm.trans h
       | 7, _, h, hV => exact (hV _ (.inl rfl)).symm.trans h
       | 8, _, h, hV => exact (hV _ (.inl rfl)).symm.trans h
       | 9, _, h, hV => (obtain ⟨g, e, h⟩ := h; exact ⟨g, (hV 9 (.inl rfl)).symm.trans e, h⟩)
       | 10, _, h, hV => (obtain ⟨g, cp, e, h⟩ := h; exact ⟨g, cp, (hV 10 (.inl rfl)).symm.trans e, h⟩)
       | 11, _, h, hV => exact (hV _ (.inl rfl)).symm.trans h
       | 12, _, h, hV => exact (hV _ (.inl rfl)).symm.trans h
       | 13, _, h, hV => exact (hV _ (.inl rfl)).symm.trans h
       | 14, _, h, hV => exact (hV _ (.inl rfl)).symm.trans h
       | 15, _, h, hV => exact (hV _ (.inl rfl)).symm.trans h
       | 16, _, h, hV => exact (hV _ (.inl rfl)).symm.trans h
       | 17, _, h, hV => exact (hV _ (.inl rfl)).symm.trans h
       | 18, _, h, hV => exact (hV _ (.inl rfl)).symm.trans h
       | 19, _, h, hV => exact (hV _ (.inl rfl)).symm.trans h
       | 20, _, h, hV => (obtain ⟨g, e, h⟩ := h; exact ⟨g, (hV 20 (.inl rfl)).symm.trans e, h⟩)
       | 21, _, h, hV => (obtain ⟨g, cp, e, h⟩ := h; exact ⟨g, cp, (hV 21 (.inl rfl)).symm.trans e, h⟩)
       | 22, _, h, hV => exact ((hV 22 (.inl rfl)).symm.trans h).trans (hV 10 (.inr (by kernel_rfl)))
       | 23, _, h, hV => exact ((hV 23 (.inl rfl)).symm.trans h).trans (hV 21 (.inr (by kernel_rfl)))
       | j + 24, hj, _, _ => exact absurd hj (by simp)
      ·intro i hi oo a' w' ho hag hg hd hps hsl rem him hnd hj
       match i, hi, ho, hd, hps, hsl, him with
       | 0, _, ho, hd, hps, hsl, him =>
        (simp only [List.getElem?_toArray, List.getElem?_cons_zero, Option.some.injEq] at ho; subst ho)
        have r9 : a'.tmps.getD 9 undef = (Value.slice dA k dc) := hsl 9 (by kernel_rfl)
        have s9 : a'.tmps[9]?.getD undef = (Value.slice dA k dc) := by rw [← Array.getD_eq_getD_getElem?]; exact r9
        refine HavG.tabY_val rfl (by simp) ⟨(Value.slice dA k dc), w', ?_, ⟨HavG.Rel.refl _ _, trivial⟩, fun _ _ _ _ _ h => h, fun _ _ _ _ h => h, fun V _ hv => hv, fun h => by simp at h⟩
        go_simp
        try rfl
       | 1, _, ho, hd, hps, hsl, him =>
        (simp only [List.getElem?_toArray, List.getElem?_cons_succ, List.getElem?_cons_zero, Option.some.injEq] at ho; subst ho)
        have s2 : a'.tmps[2]?.getD undef = (.pointer (some ⟨B2, 0, none⟩)) := by rw [← Array.getD_eq_getD_getElem?]; exact hag.slot 2 (by kernel_rfl)
        have r2 : a'.tmps.getD 2 undef = (.pointer (some ⟨B2, 0, none⟩)) := hag.slot 2 (by kernel_rfl)
        refine HavG.tabY_val rfl (by simp) ⟨.pointer (some ⟨B2, 9, none⟩), w', ?_, ⟨HavG.Rel.refl _ _, trivial⟩, fun _ _ _ _ _ h => h, fun _ _ _ _ h => h, fun V _ hv => hv, fun h => by simp at h⟩
        go_simp
        try rfl
       | 2, _, ho, hd, hps, hsl, him =>
        (simp only [List.getElem?_toArray, List.getElem?_cons_succ, List.getElem?_cons_zero, Option.some.injEq] at ho; subst ho)
        have d43 : a'.tmps.getD 43 undef = (.pointer (some ⟨B2, 9, none⟩)) := hd 1 (by kernel_rfl) (by decide)
        have c43 : a'.tmps[43]?.getD undef = (.pointer (some ⟨B2, 9, none⟩)) := by rw [← Array.getD_eq_getD_getElem?]; exact d43
        have hkb := HXK.out.turn hg.1 HXS.out; have z9 := hkb.cell 9; have zl := hkb.lt; simp at z9; clear hkb
        refine HavG.tabY_val rfl (by simp) ⟨.slice (some ⟨bl, ol, none⟩) tn tc, w', ?_, ⟨HavG.Rel.refl _ _, trivial⟩, fun _ _ _ _ _ h => h, fun _ _ _ _ h => h, fun V _ hv => hv, fun h => by simp at h⟩
        go_simp
        try rfl
       | 3, _, ho, hd, hps, hsl, him =>
        (simp only [List.getElem?_toArray, List.getElem?_cons_succ, List.getElem?_cons_zero, Option.some.injEq] at ho; subst ho)
        have s11 : a'.tmps[11]?.getD undef = (.int .i64 j) := by rw [← Array.getD_eq_getD_getElem?]; exact hag.slot 11 (by kernel_rfl)
        have r11 : a'.tmps.getD 11 undef = (.int .i64 j) := hag.slot 11 (by kernel_rfl)
        refine HavG.tabY_val rfl (by simp) ⟨.int .i64 j, w', ?_, ⟨HavG.Rel.refl _ _, trivial⟩, fun _ _ _ _ _ h => h, fun _ _ _ _ h => h, fun V _ hv => hv, fun h => by simp at h⟩
        go_simp
        try rfl
       | 4, _, ho, hd, hps, hsl, him =>
        (simp only [List.getElem?_toArray, List.getElem?_cons_succ, List.getElem?_cons_zero, Option.some.injEq] at ho; subst ho)
        have d44 : a'.tmps.getD 44 undef = (.slice (some ⟨bl, ol, none⟩) tn tc) := hd 2 (by kernel_rfl) (by decide)
        have c44 : a'.tmps[44]?.getD undef = (.slice (some ⟨bl, ol, none⟩) tn tc) := by rw [← Array.getD_eq_getD_getElem?]; exact d44
        have d45 : a'.tmps.getD 45 undef = (.int .i64 j) := hd 3 (by kernel_rfl) (by decide)
        have c45 : a'.tmps[45]?.getD undef = (.int .i64 j) := by rw [← Array.getD_eq_getD_getElem?]; exact d45
        refine HavG.tabY_val rfl (by simp) ⟨.pointer (some ⟨bl, ol + j * 5, none⟩), w', ?_, ⟨HavG.Rel.refl _ _, trivial⟩, fun _ _ _ _ _ h => h, fun _ _ _ _ h => h, fun V _ hv => hv, fun h => by simp at h⟩
        go_simp
        try rfl
       | 5, _, ho, hd, hps, hsl, him =>
        (simp only [List.getElem?_toArray, List.getElem?_cons_succ, List.getElem?_cons_zero, Option.some.injEq] at ho; subst ho)
        have d46 : a'.tmps.getD 46 undef = (.pointer (some ⟨bl, ol + j * 5, none⟩)) := hd 4 (by kernel_rfl) (by decide)
        have c46 : a'.tmps[46]?.getD undef = (.pointer (some ⟨bl, ol + j * 5, none⟩)) := by rw [← Array.getD_eq_getD_getElem?]; exact d46
        obtain ⟨z0, z1, z2, z3, z4, zl⟩ := HLX.out w' hg.1
        refine HavG.tabY_val rfl (by simp) ⟨.agg #[.int .i64 l0, .int .i64 l1, .int .i64 l2, .int .i64 l3, .int .i64 l4], w', ?_, ⟨HavG.Rel.refl _ _, trivial⟩, fun _ _ _ _ _ h => h, fun _ _ _ _ h => h, fun V _ hv => hv, fun h => by simp at h⟩
        go_simp
        try rfl
       | 6, _, ho, hd, hps, hsl, him =>
        (simp only [List.getElem?_toArray, List.getElem?_cons_succ, List.getElem?_cons_zero, Option.some.injEq] at ho; subst ho)
        have s13 : a'.tmps[13]?.getD undef = (.pointer (some ⟨b13, 0, none⟩)) := by rw [← Array.getD_eq_getD_getElem?]; exact hag.slot 13 (by kernel_rfl)
        have r13 : a'.tmps.getD 13 undef = (.pointer (some ⟨b13, 0, none⟩)) := hag.slot 13 (by kernel_rfl)
        refine HavG.tabY_val rfl (by simp) ⟨.pointer (some ⟨b13, 1, none⟩), w', ?_, ⟨HavG.Rel.refl _ _, trivial⟩, fun _ _ _ _ _ h => h, fun _ _ _ _ h => h, fun V _ hv => hv, fun h => by simp at h⟩
        go_simp
        try rfl
       | 7, _, ho, hd, hps, hsl, him =>
        (simp only [List.getElem?_toArray, List.getElem?_cons_succ, List.getElem?_cons_zero, Option.some.injEq] at ho; subst ho)
        have d48 : a'.tmps.getD 48 undef = (.pointer (some ⟨b13, 1, none⟩)) := hd 6 (by kernel_rfl) (by decide)
        have c48 : a'.tmps[48]?.getD undef = (.pointer (some ⟨b13, 1, none⟩)) := by rw [← Array.getD_eq_getD_getElem?]; exact d48
        have hkb := HSP.out.turn hg.1 HSS.out; have z0 := hkb.cell 1; have zl := hkb.lt; simp at z0; clear hkb
        refine HavG.tabY_val rfl (by simp) ⟨.int .i64 y1, w', ?_, ⟨HavG.Rel.refl _ _, trivial⟩, fun _ _ _ _ _ h => h, fun _ _ _ _ h => h, fun V _ hv => hv, fun h => by simp at h⟩
        go_simp
        try rfl
       | 8, _, ho, hd, hps, hsl, him =>
        (simp only [List.getElem?_toArray, List.getElem?_cons_succ, List.getElem?_cons_zero, Option.some.injEq] at ho; subst ho)
        have d47 : a'.tmps.getD 47 undef = (.agg #[.int .i64 l0, .int .i64 l1, .int .i64 l2, .int .i64 l3, .int .i64 l4]) := hd 5 (by kernel_rfl) (by decide)
        have c47 : a'.tmps[47]?.getD undef = (.agg #[.int .i64 l0, .int .i64 l1, .int .i64 l2, .int .i64 l3, .int .i64 l4]) := by rw [← Array.getD_eq_getD_getElem?]; exact d47
        have d49 : a'.tmps.getD 49 undef = (.int .i64 y1) := hd 7 (by kernel_rfl) (by decide)
        have c49 : a'.tmps[49]?.getD undef = (.int .i64 y1) := by rw [← Array.getD_eq_getD_getElem?]; exact d49
        refine HavG.tabY_call rfl (by simp) (f := 66) (args := #[.agg #[.int .i64 l0, .int .i64 l1, .int .i64 l2, .int .i64 l3, .int .i64 l4], .int .i64 y1]) (by go_simp; try rfl) ((brings_any ⟨l0, l1, l2, l3, l4⟩ y1 HLB.out w').mono ?_)
        rintro e w2 ⟨rfl, HB⟩
        exact ⟨_, rfl, ⟨⟨Turn.of_below HB, fun i => i.elim⟩, trivial⟩, fun j V _ _ _ h => w11_grow h HB, fun j _ _ _ h => w11S_grow h HB, fun V _ hv => hv, fun h => by simp at h⟩
       | 9, _, ho, hd, hps, hsl, him =>
        (simp only [List.getElem?_toArray, List.getElem?_cons_succ, List.getElem?_cons_zero, Option.some.injEq] at ho; subst ho)
        have d50 : a'.tmps.getD 50 undef = (.int .i64 (bringsP ⟨l0, l1, l2, l3, l4⟩ y1)) := hd 8 (by kernel_rfl) (by decide)
        have c50 : a'.tmps[50]?.getD undef = (.int .i64 (bringsP ⟨l0, l1, l2, l3, l4⟩ y1)) := by rw [← Array.getD_eq_getD_getElem?]; exact d50
        have HB : Below w'.heap.size w' (w'.alloc (.cells #[.int .i64 (bringsP ⟨l0, l1, l2, l3, l4⟩ y1)] 3)) := (Below.refl _ _).alloc (Nat.le_refl _) _
        refine HavG.tabY_val rfl (by simp) ⟨.slice (some ⟨w'.heap.size, 0, none⟩) 1 1, w'.alloc (.cells #[.int .i64 (bringsP ⟨l0, l1, l2, l3, l4⟩ y1)] 3), ?_, ⟨⟨Turn.of_below HB, fun i => i.elim⟩, trivial⟩, fun j V _ _ _ h => w11_grow h HB, fun j _ _ _ h => w11S_grow h HB, fun V hV hv => ⟨w'.heap.size, hv, hg.1.size, Blk.new w' 3 _⟩, fun h => by simp at h⟩
        go_simp
        try rfl
       | 10, _, ho, hd, hps, hsl, him =>
        (simp only [List.getElem?_toArray, List.getElem?_cons_succ, List.getElem?_cons_zero, Option.some.injEq] at ho; subst ho)
        have e1 : HavG.slot a' 42 = (Value.slice dA k dc) := hd 0 (by kernel_rfl) (by decide)
        obtain ⟨g, e16, hgB, hk16⟩ : ∃ g : Nat, HavG.slot a' 51 = .slice (some ⟨g, 0, none⟩) 1 1 ∧ K.heap.size ≤ g ∧ Blk w' g 3 #[Value.int .i64 (bringsP ⟨l0, l1, l2, l3, l4⟩ y1)] := hd 9 (by kernel_rfl) (by decide)
        have hps' : w'.ownsRow wz.heap.size 3 1 (Value.slice dA k dc) k (xs.flatMap inI) := hps; obtain ⟨g2, cp, w2, hrun, hown, ht, hgg⟩ := append_at (P := Tryz.prog) wz.heap.size 32 32 3 i0 _ 1 8 Tryz.underlying32 HI.out HI0.out HI1.out HI2.out rfl (by decide) (Value.slice dA k dc) k _ hps' ⟨g, 0, none⟩ 1 [Value.int .i64 (bringsP ⟨l0, l1, l2, l3, l4⟩ y1)] rfl (news_block hk16) (by simp [Value.oneCell']) (by omega) (by omega) (Nat.le_trans HFV.out.2.2 hg.1.size)
        exact HavG.tabY_val rfl (by simp) ⟨_, w2, append_oper rfl e1 e16 hrun, ⟨⟨ht.mono (fun b e => .inl e), fun i => i.elim⟩, trivial⟩, fun j V _ hji _ h => w11_apd h ht HFV.out HAP.out hji, fun j _ hji _ h => w11_apdS h ht HAP.out hji, fun V hV hv => ⟨g2, cp, hv, by rw [List.flatMap_append]; exact hown, hgg.imp id (fun h => Nat.le_trans hg.1.size h)⟩, fun _ => hgg.elim (fun h => .inr (.inl ⟨rfl, h⟩)) .inl⟩
       | 11, _, ho, hd, hps, hsl, him =>
        (simp only [List.getElem?_toArray, List.getElem?_cons_succ, List.getElem?_cons_zero, Option.some.injEq] at ho; subst ho)
        have r10 : a'.tmps.getD 10 undef = (Value.slice rA k rc) := hsl 10 (by kernel_rfl)
        have s10 : a'.tmps[10]?.getD undef = (Value.slice rA k rc) := by rw [← Array.getD_eq_getD_getElem?]; exact r10
        refine HavG.tabY_val rfl (by simp) ⟨(Value.slice rA k rc), w', ?_, ⟨HavG.Rel.refl _ _, trivial⟩, fun _ _ _ _ _ h => h, fun _ _ _ _ h => h, fun V _ hv => hv, fun h => by simp at h⟩
        go_simp
        try rfl
       | 12, _, ho, hd, hps, hsl, him =>
        (simp only [List.getElem?_toArray, List.getElem?_cons_succ, List.getElem?_cons_zero, Option.some.injEq] at ho; subst ho)
        have s2 : a'.tmps[2]?.getD undef = (.pointer (some ⟨B2, 0, none⟩)) := by rw [← Array.getD_eq_getD_getElem?]; exact hag.slot 2 (by kernel_rfl)
        have r2 : a'.tmps.getD 2 undef = (.pointer (some ⟨B2, 0, none⟩)) := hag.slot 2 (by kernel_rfl)
        refine HavG.tabY_val rfl (by simp) ⟨.pointer (some ⟨B2, 9, none⟩), w', ?_, ⟨HavG.Rel.refl _ _, trivial⟩, fun _ _ _ _ _ h => h, fun _ _ _ _ h => h, fun V _ hv => hv, fun h => by simp at h⟩
        go_simp
        try rfl
       | 13, _, ho, hd, hps, hsl, him =>
        (simp only [List.getElem?_toArray, List.getElem?_cons_succ, List.getElem?_cons_zero, Option.some.injEq] at ho; subst ho)
        have d54 : a'.tmps.getD 54 undef = (.pointer (some ⟨B2, 9, none⟩)) := hd 12 (by kernel_rfl) (by decide)
        have c54 : a'.tmps[54]?.getD undef = (.pointer (some ⟨B2, 9, none⟩)) := by rw [← Array.getD_eq_getD_getElem?]; exact d54
        have hkb := HXK.out.turn hg.1 HXS.out; have z9 := hkb.cell 9; have zl := hkb.lt; simp at z9; clear hkb
        refine HavG.tabY_val rfl (by simp) ⟨.slice (some ⟨bl, ol, none⟩) tn tc, w', ?_, ⟨HavG.Rel.refl _ _, trivial⟩, fun _ _ _ _ _ h => h, fun _ _ _ _ h => h, fun V _ hv => hv, fun h => by simp at h⟩
        go_simp
        try rfl
       | 14, _, ho, hd, hps, hsl, him =>
        (simp only [List.getElem?_toArray, List.getElem?_cons_succ, List.getElem?_cons_zero, Option.some.injEq] at ho; subst ho)
        have s11 : a'.tmps[11]?.getD undef = (.int .i64 j) := by rw [← Array.getD_eq_getD_getElem?]; exact hag.slot 11 (by kernel_rfl)
        have r11 : a'.tmps.getD 11 undef = (.int .i64 j) := hag.slot 11 (by kernel_rfl)
        refine HavG.tabY_val rfl (by simp) ⟨.int .i64 j, w', ?_, ⟨HavG.Rel.refl _ _, trivial⟩, fun _ _ _ _ _ h => h, fun _ _ _ _ h => h, fun V _ hv => hv, fun h => by simp at h⟩
        go_simp
        try rfl
       | 15, _, ho, hd, hps, hsl, him =>
        (simp only [List.getElem?_toArray, List.getElem?_cons_succ, List.getElem?_cons_zero, Option.some.injEq] at ho; subst ho)
        have d55 : a'.tmps.getD 55 undef = (.slice (some ⟨bl, ol, none⟩) tn tc) := hd 13 (by kernel_rfl) (by decide)
        have c55 : a'.tmps[55]?.getD undef = (.slice (some ⟨bl, ol, none⟩) tn tc) := by rw [← Array.getD_eq_getD_getElem?]; exact d55
        have d56 : a'.tmps.getD 56 undef = (.int .i64 j) := hd 14 (by kernel_rfl) (by decide)
        have c56 : a'.tmps[56]?.getD undef = (.int .i64 j) := by rw [← Array.getD_eq_getD_getElem?]; exact d56
        refine HavG.tabY_val rfl (by simp) ⟨.pointer (some ⟨bl, ol + j * 5, none⟩), w', ?_, ⟨HavG.Rel.refl _ _, trivial⟩, fun _ _ _ _ _ h => h, fun _ _ _ _ h => h, fun V _ hv => hv, fun h => by simp at h⟩
        go_simp
        try rfl
       | 16, _, ho, hd, hps, hsl, him =>
        (simp only [List.getElem?_toArray, List.getElem?_cons_succ, List.getElem?_cons_zero, Option.some.injEq] at ho; subst ho)
        have d57 : a'.tmps.getD 57 undef = (.pointer (some ⟨bl, ol + j * 5, none⟩)) := hd 15 (by kernel_rfl) (by decide)
        have c57 : a'.tmps[57]?.getD undef = (.pointer (some ⟨bl, ol + j * 5, none⟩)) := by rw [← Array.getD_eq_getD_getElem?]; exact d57
        obtain ⟨z0, z1, z2, z3, z4, zl⟩ := HLX.out w' hg.1
        refine HavG.tabY_val rfl (by simp) ⟨.agg #[.int .i64 l0, .int .i64 l1, .int .i64 l2, .int .i64 l3, .int .i64 l4], w', ?_, ⟨HavG.Rel.refl _ _, trivial⟩, fun _ _ _ _ _ h => h, fun _ _ _ _ h => h, fun V _ hv => hv, fun h => by simp at h⟩
        go_simp
        try rfl
       | 17, _, ho, hd, hps, hsl, him =>
        (simp only [List.getElem?_toArray, List.getElem?_cons_succ, List.getElem?_cons_zero, Option.some.injEq] at ho; subst ho)
        have s13 : a'.tmps[13]?.getD undef = (.pointer (some ⟨b13, 0, none⟩)) := by rw [← Array.getD_eq_getD_getElem?]; exact hag.slot 13 (by kernel_rfl)
        have r13 : a'.tmps.getD 13 undef = (.pointer (some ⟨b13, 0, none⟩)) := hag.slot 13 (by kernel_rfl)
        refine HavG.tabY_val rfl (by simp) ⟨.pointer (some ⟨b13, 0, none⟩), w', ?_, ⟨HavG.Rel.refl _ _, trivial⟩, fun _ _ _ _ _ h => h, fun _ _ _ _ h => h, fun V _ hv => hv, fun h => by simp at h⟩
        go_simp
        try rfl
       | 18, _, ho, hd, hps, hsl, him =>
        (simp only [List.getElem?_toArray, List.getElem?_cons_succ, List.getElem?_cons_zero, Option.some.injEq] at ho; subst ho)
        have d59 : a'.tmps.getD 59 undef = (.pointer (some ⟨b13, 0, none⟩)) := hd 17 (by kernel_rfl) (by decide)
        have c59 : a'.tmps[59]?.getD undef = (.pointer (some ⟨b13, 0, none⟩)) := by rw [← Array.getD_eq_getD_getElem?]; exact d59
        have hkb := HSP.out.turn hg.1 HSS.out; have z0 := hkb.cell 0; have zl := hkb.lt; simp at z0; clear hkb
        refine HavG.tabY_val rfl (by simp) ⟨.int .i64 y2, w', ?_, ⟨HavG.Rel.refl _ _, trivial⟩, fun _ _ _ _ _ h => h, fun _ _ _ _ h => h, fun V _ hv => hv, fun h => by simp at h⟩
        go_simp
        try rfl
       | 19, _, ho, hd, hps, hsl, him =>
        (simp only [List.getElem?_toArray, List.getElem?_cons_succ, List.getElem?_cons_zero, Option.some.injEq] at ho; subst ho)
        have d58 : a'.tmps.getD 58 undef = (.agg #[.int .i64 l0, .int .i64 l1, .int .i64 l2, .int .i64 l3, .int .i64 l4]) := hd 16 (by kernel_rfl) (by decide)
        have c58 : a'.tmps[58]?.getD undef = (.agg #[.int .i64 l0, .int .i64 l1, .int .i64 l2, .int .i64 l3, .int .i64 l4]) := by rw [← Array.getD_eq_getD_getElem?]; exact d58
        have d60 : a'.tmps.getD 60 undef = (.int .i64 y2) := hd 18 (by kernel_rfl) (by decide)
        have c60 : a'.tmps[60]?.getD undef = (.int .i64 y2) := by rw [← Array.getD_eq_getD_getElem?]; exact d60
        refine HavG.tabY_call rfl (by simp) (f := 66) (args := #[.agg #[.int .i64 l0, .int .i64 l1, .int .i64 l2, .int .i64 l3, .int .i64 l4], .int .i64 y2]) (by go_simp; try rfl) ((brings_any ⟨l0, l1, l2, l3, l4⟩ y2 HLB.out w').mono ?_)
        rintro e w2 ⟨rfl, HB⟩
        exact ⟨_, rfl, ⟨⟨Turn.of_below HB, fun i => i.elim⟩, trivial⟩, fun j V _ _ _ h => w11_grow h HB, fun j _ _ _ h => w11S_grow h HB, fun V _ hv => hv, fun h => by simp at h⟩
       | 20, _, ho, hd, hps, hsl, him =>
        (simp only [List.getElem?_toArray, List.getElem?_cons_succ, List.getElem?_cons_zero, Option.some.injEq] at ho; subst ho)
        have d61 : a'.tmps.getD 61 undef = (.int .i64 (bringsP ⟨l0, l1, l2, l3, l4⟩ y2)) := hd 19 (by kernel_rfl) (by decide)
        have c61 : a'.tmps[61]?.getD undef = (.int .i64 (bringsP ⟨l0, l1, l2, l3, l4⟩ y2)) := by rw [← Array.getD_eq_getD_getElem?]; exact d61
        have HB : Below w'.heap.size w' (w'.alloc (.cells #[.int .i64 (bringsP ⟨l0, l1, l2, l3, l4⟩ y2)] 3)) := (Below.refl _ _).alloc (Nat.le_refl _) _
        refine HavG.tabY_val rfl (by simp) ⟨.slice (some ⟨w'.heap.size, 0, none⟩) 1 1, w'.alloc (.cells #[.int .i64 (bringsP ⟨l0, l1, l2, l3, l4⟩ y2)] 3), ?_, ⟨⟨Turn.of_below HB, fun i => i.elim⟩, trivial⟩, fun j V _ _ _ h => w11_grow h HB, fun j _ _ _ h => w11S_grow h HB, fun V hV hv => ⟨w'.heap.size, hv, hg.1.size, Blk.new w' 3 _⟩, fun h => by simp at h⟩
        go_simp
        try rfl
       | 21, _, ho, hd, hps, hsl, him =>
        (simp only [List.getElem?_toArray, List.getElem?_cons_succ, List.getElem?_cons_zero, Option.some.injEq] at ho; subst ho)
        have e1 : HavG.slot a' 53 = (Value.slice rA k rc) := hd 11 (by kernel_rfl) (by decide)
        obtain ⟨g, e16, hgB, hk16⟩ : ∃ g : Nat, HavG.slot a' 62 = .slice (some ⟨g, 0, none⟩) 1 1 ∧ K.heap.size ≤ g ∧ Blk w' g 3 #[Value.int .i64 (bringsP ⟨l0, l1, l2, l3, l4⟩ y2)] := hd 20 (by kernel_rfl) (by decide)
        have hps' : w'.ownsRow wz.heap.size 3 1 (Value.slice rA k rc) k (ys.flatMap inI) := hps; obtain ⟨g2, cp, w2, hrun, hown, ht, hgg⟩ := append_at (P := Tryz.prog) wz.heap.size 32 32 3 i0 _ 1 8 Tryz.underlying32 HI.out HI0.out HI1.out HI2.out rfl (by decide) (Value.slice rA k rc) k _ hps' ⟨g, 0, none⟩ 1 [Value.int .i64 (bringsP ⟨l0, l1, l2, l3, l4⟩ y2)] rfl (news_block hk16) (by simp [Value.oneCell']) (by omega) (by omega) (Nat.le_trans HFV.out.2.2 hg.1.size)
        exact HavG.tabY_val rfl (by simp) ⟨_, w2, append_oper rfl e1 e16 hrun, ⟨⟨ht.mono (fun b e => .inr e), fun i => i.elim⟩, trivial⟩, fun j V _ hji _ h => w11_apr h ht HFV.out HAP.out hji, fun j _ hji _ h => w11_aprS h ht HAP.out hji, fun V hV hv => ⟨g2, cp, hv, by rw [List.flatMap_append]; exact hown, hgg.imp id (fun h => Nat.le_trans hg.1.size h)⟩, fun _ => hgg.elim (fun h => .inr (.inr ⟨rfl, h⟩)) .inl⟩
       | 22, _, ho, hd, hps, hsl, him =>
        (simp only [List.getElem?_toArray, List.getElem?_cons_succ, List.getElem?_cons_zero, Option.some.injEq] at ho; subst ho)
        obtain ⟨vv, hvv⟩ : ∃ v, HavG.slot a' 52 = v := ⟨_, rfl⟩; have d52 : a'.tmps.getD 52 undef = vv := hvv; have c52 : a'.tmps[52]?.getD undef = vv := by rw [← Array.getD_eq_getD_getElem?]; exact d52
        refine HavG.tabY_val rfl (by simp) ⟨vv, w', ?_, ⟨HavG.Rel.refl _ _, trivial⟩, fun _ _ _ _ _ h => h, fun _ _ _ _ h => h, fun V hV hv => hv.trans (hvv.symm.trans (hV 10 (by decide)).symm), fun h => by simp at h⟩
        go_simp
       | 23, _, ho, hd, hps, hsl, him =>
        (simp only [List.getElem?_toArray, List.getElem?_cons_succ, List.getElem?_cons_zero, Option.some.injEq] at ho; subst ho)
        obtain ⟨vv, hvv⟩ : ∃ v, HavG.slot a' 63 = v := ⟨_, rfl⟩; have d63 : a'.tmps.getD 63 undef = vv := hvv; have c63 : a'.tmps[63]?.getD undef = vv := by rw [← Array.getD_eq_getD_getElem?]; exact d63
        refine HavG.tabY_val rfl (by simp) ⟨vv, w', ?_, ⟨HavG.Rel.refl _ _, trivial⟩, fun _ _ _ _ _ h => h, fun _ _ _ _ h => h, fun V hV hv => hv.trans (hvv.symm.trans (hV 21 (by decide)).symm), fun h => by simp at h⟩
        go_simp
       | j + 24, hj, _, _, _, _, _ => exact absurd hj (by simp)
      intro f w6 hg hjj hf hap; have q42 : f 42 = _ := hf 0 (by decide)
      have q43 : f 43 = _ := hf 1 (by decide)
      have q44 : f 44 = _ := hf 2 (by decide)
      have q45 : f 45 = _ := hf 3 (by decide)
      have q46 : f 46 = _ := hf 4 (by decide)
      have q47 : f 47 = _ := hf 5 (by decide)
      have q48 : f 48 = _ := hf 6 (by decide)
      have q49 : f 49 = _ := hf 7 (by decide)
      have q50 : f 50 = _ := hf 8 (by decide)
      have q53 : f 53 = _ := hf 11 (by decide)
      have q54 : f 54 = _ := hf 12 (by decide)
      have q55 : f 55 = _ := hf 13 (by decide)
      have q56 : f 56 = _ := hf 14 (by decide)
      have q57 : f 57 = _ := hf 15 (by decide)
      have q58 : f 58 = _ := hf 16 (by decide)
      have q59 : f 59 = _ := hf 17 (by decide)
      have q60 : f 60 = _ := hf 18 (by decide)
      have q61 : f 61 = _ := hf 19 (by decide)
      obtain ⟨g51, q51, -⟩ : ∃ g : Nat, f 51 = .slice (some ⟨g, 0, none⟩) 1 1 ∧ K.heap.size ≤ g ∧ Blk w6 g 3 #[Value.int .i64 (bringsP ⟨l0, l1, l2, l3, l4⟩ y1)] := hf 9 (by decide)
      obtain ⟨g62, q62, -⟩ : ∃ g : Nat, f 62 = .slice (some ⟨g, 0, none⟩) 1 1 ∧ K.heap.size ≤ g ∧ Blk w6 g 3 #[Value.int .i64 (bringsP ⟨l0, l1, l2, l3, l4⟩ y2)] := hf 20 (by decide)
      obtain ⟨g, cp, q52, ho1, -⟩ : ∃ g cp : Nat, f 52 = .slice (some ⟨g, 0, none⟩) (k + 1) cp ∧ w6.ownsRow wz.heap.size 3 1 (.slice (some ⟨g, 0, none⟩) (k + 1) cp) (k + 1) ((xs ++ [bringsP ⟨l0, l1, l2, l3, l4⟩ y1]).flatMap inI) ∧ ((Value.slice dA k dc).ownBlock = some g ∨ K.heap.size ≤ g) := hf 10 (by decide)
      obtain ⟨h, cq, q63, ho2, -⟩ : ∃ g cp : Nat, f 63 = .slice (some ⟨g, 0, none⟩) (k + 1) cp ∧ w6.ownsRow wz.heap.size 3 1 (.slice (some ⟨g, 0, none⟩) (k + 1) cp) (k + 1) ((ys ++ [bringsP ⟨l0, l1, l2, l3, l4⟩ y2]).flatMap inI) ∧ ((Value.slice rA k rc).ownBlock = some g ∨ K.heap.size ≤ g) := hf 21 (by decide)
      have q9 : f 9 = f 52 := hf 22 (by decide)
      have q10 : f 10 = f 63 := hf 23 (by decide)
      have hne : HavG.bkV (f 52) ≠ HavG.bkV (f 63) := hap 10 21 (by decide) (by decide) (by decide) (by decide) (by decide)
      rw [q52, q63] at hne; rw [q52] at q9; rw [q63] at q10; have tg := hg.1; simp only [List.filterMap, HavG.puts, List.foldl_cons, List.foldl_nil, Act.put, List.setIfInBounds_toArray, List.set_cons_succ, List.set_cons_zero]; rw [q42, q43, q44, q45, q46, q47, q48, q49, q50, q51, q52, q53, q54, q55, q56, q57, q58, q59, q60, q61, q62, q63, q9, q10]; clear hf hap q42 q43 q44 q45 q46 q47 q48 q49 q50 q51 q52 q53 q54 q55 q56 q57 q58 q59 q60 q61 q62 q63 q9 q10 hg; have HRO1 := Lib.hid ho1; have HRO2 := Lib.hid ho2
      have HRA : Hid (∀ b, (Value.slice (some ⟨g, 0, none⟩) (k + 1) cp).ownBlock = some b → ¬ (Value.slice (some ⟨h, 0, none⟩) (k + 1) cq).ownBlock = some b) := fun b e1 e2 => by cases e1; cases e2; exact hne rfl
      have HRT : Hid (Below wz.heap.size wz w6) := HBZ.out.trans (tg.below HFV.out.2.2 (fun b e => by
       rcases e with e | e
       ·exact (HFV.out.1 b e).1
       ·exact (HFV.out.2.1 b e).1))
      have HS3 : Hid (xs ++ [bringsP ⟨l0, l1, l2, l3, l4⟩ y1] = bringL c.wg (fun w => (comesP w).2) (c.lt.take (j + 1)) (ps.take (j + 1))) := by show _ = _; rw [HS1.out, HY.out.1]; rfl
      have HS4 : Hid (ys ++ [bringsP ⟨l0, l1, l2, l3, l4⟩ y2] = bringL c.wg (fun w => (comesP w).1) (c.lt.take (j + 1)) (ps.take (j + 1))) := by show _ = _; rw [HS2.out, HY.out.2]; rfl
      clear ho1 ho2 hne tg hjj; go_wp2; go_roundw
      case rel => exact ⟨j + 1, k + 1, _, _, some ⟨g, 0, none⟩, some ⟨h, 0, none⟩, cp, cq, by omega, by go_num, rfl, rfl, by omega, HS3, HS4, HRO1, HRO2, HRA, HRT⟩
      case measure => simp [intOf]; omega
    ·obtain rfl : tn = j := by omega
     have HF1 : Hid (xs = bringL c.wg (fun w => (comesP w).2) c.lt ps) := by
      have h := HXS.out; rw [List.take_of_length_le (by have := HEN.out; omega), List.take_of_length_le (by have := HEN.out; omega)] at h
      exact h
     have HF2 : Hid (ys = bringL c.wg (fun w => (comesP w).1) c.lt ps) := by
      have h := HYS.out; rw [List.take_of_length_le (by have := HEN.out; omega), List.take_of_length_le (by have := HEN.out; omega)] at h
      exact h
     have hk1 : xs.length = k := by have := HO1.out.1; rw [flat_len inI 1 inI_len] at this; omega
     have hk2 : ys.length = k := by have := HO2.out.1; rw [flat_len inI 1 inI_len] at this; omega
     go_wp2_with fail; refine (sum_any (B := wr.heap.size) hk1 (by omega) (by rw [HF1.out]; exact bringL_bd _ _ _ HLT.out) wr (RdG.of_own inI_len (by omega) HO1.out (Nat.le_refl _) rfl) (Nat.le_refl _)).mono ?_
     rintro e w6 ⟨rfl, hb⟩; have HBX : Hid (Below wr.heap.size wr w6) := hb; clear hb; go_wp2_with fail; refine (sum_any (B := w6.heap.size) hk2 (by omega) (by rw [HF2.out]; exact bringL_bd _ _ _ HLT.out) w6 (RdG.of_own inI_len (by omega) (own_below HO2.out HBX.out) (Nat.le_refl _) rfl) (Nat.le_refl _)).mono ?_
     rintro e w7 ⟨rfl, hb⟩; have HB7 : Hid (Below W.heap.size W w7) := HB2.out.trans ((HBR.out.trans ((HBX.out.trans (hb.mono HBX.out.size)).mono HBR.out.size)).mono HB2.out.size); have HV4 := Lib.hid (HX4.out.below HB7.out HX4.out.lt); have HV5 := Lib.hid (HX5.out.below HB7.out HX5.out.lt); obtain ⟨s1, hs1⟩ : ∃ s, s = sumL xs := ⟨_, rfl⟩; obtain ⟨s2, hs2⟩ : ∃ s, s = sumL ys := ⟨_, rfl⟩; have HSS : Hid (worthV c ps = (s1, s2)) := by show _ = _; rw [HV1.out trivial, hs1, hs2, HF1.out, HF2.out]; rfl
     rw [← hs1, ← hs2]; clear hb hs1 hs2; have c40 := HV4.out.cell 0; have c41 := HV4.out.cell 1; have f40 := HV4.out.frozen 0; have f41 := HV4.out.frozen 1; have l4' := HV4.out.lt; have c50 := HV5.out.cell 0; have f50 := HV5.out.frozen 0; have l5' := HV5.out.lt; simp at c40 c41 c50; obtain ⟨e1, e2, _, e4, e5, _⟩ := HE.out; have e5' := Ne.symm e5; go_wp2; obtain ⟨W9, hW9⟩ : ∃ W9, W9 = ((w7.setCell ⟨B4, 0, none⟩ (.int .i64 s1)).setCell ⟨B4, 1, none⟩ (.int .i64 s2)).setCell ⟨B5, 0, none⟩ (.int .i64 0) := ⟨_, rfl⟩; rw [← hW9]
     have HT4 : Blk W9 B4 23 #[.int .i64 s1, .int .i64 s2] := by
      rw [hW9]; have h := ((HV4.out.set_ 0 (.int .i64 s1)).set_ 1 (.int .i64 s2)).far (p := ⟨B5, 0, none⟩) e5 (.int .i64 0)
      simpa using h
     have HT5 : Blk W9 B5 35 #[.int .i64 0] := by
      rw [hW9]; exact ((HV5.out.far (p := ⟨B4, 0, none⟩) e5' _).far (p := ⟨B4, 1, none⟩) e5' _).set_ 0 _
     have hB9 : Below w.heap.size w W9 := by
      rw [hW9]; exact (((HB0.out.trans (HB7.out.mono e2)).setCell (p := ⟨B4, 0, none⟩) e4 _).setCell (p := ⟨B4, 1, none⟩) e4 _).setCell (p := ⟨B5, 0, none⟩) e1 _
     refine api_retC (ds := []) (B := W.heap.size) isAnsC64 EG.out (Marks.nil _ _) (fun w4 hk hbel => ?_)
     have g0 := (hk _ _ _ HT5).cell 0; have z0 := (hk _ _ _ HT4).cell 0; have z1 := (hk _ _ _ HT4).cell 1; simp at g0 z0 z1; refine ⟨.tuple #[.agg #[.int .i64 s1, .int .i64 s2], .int .i64 0], by simp [results, Tryz.results20, go_sem, g0, z0, z1], by rw [HSS.out]; rfl, ?_⟩
     exact hB9.trans (hbel w.heap.size e2)
  ·have hE0 : EE = 11 := by rw [HE1.out, if_neg hx]
   subst hE0; have hxq : ((X.2 : Int) == 0) = false := by simp; exact hx
   go_wp2_with fail; refine (cmust_any false 11 _).mono ?_
   rintro e wz ⟨qq, rfl⟩; obtain rfl : e = .panicked [refC 11] := qq; have HBP := HB2; go_wp2; obtain ⟨e1, e2, _, e4, e5, _⟩ := HE.out
   refine api_panicC (ds := []) (B := W.heap.size) isAnsC64 EG.out (Marks.nil _ _) (HX5.out.below HBP.out HX5.out.lt) (fun w2 hk2 hfar hbel => ?_)
   have g0 := hk2.cell 0; have z0 := (hfar B4 23 _ e5 (HX4.out.below HBP.out HX4.out.lt)).cell 0; have z1 := (hfar B4 23 _ e5 (HX4.out.below HBP.out HX4.out.lt)).cell 1; simp at g0 z0 z1; refine ⟨.tuple #[.agg #[.int .i64 0, .int .i64 0], .int .i64 (11 : Nat)], by simp [results, Tryz.results20, go_sem, g0, z0, z1], by rw [HV0.out (by omega)], ?_⟩
   exact HB0.out.trans ((HBP.out.mono e2).trans ((hbel w.heap.size e2 e1).mono (Nat.le_refl _)))
end
end Go.Proofs.YtgmfhngcehkibaaGreat
namespace Go.Proofs.YtgmfhngcehkibaaGreat
open Go.RowKit Go.Hav
open Go.Maps (Keyed)
open Go.WideElems
attribute [local go_sem] Oper.semAt_some
theorem Tryz.row135 : (135 : TypeId) < Tryz.prog.types.size := of_decide_eq_true (by kernel_rfl)
theorem Tryz.wide135 : (match Tryz.prog.underlying 135 with | some (.array _ _) | some (.struct _) => true | _ => false) = true := by rw [Tryz.underlying135]
theorem Tryz.keyed135 : Keyed Tryz.prog 135 := Keyed.of_law (deep_law_laid Tryz.laidOut (m := 4) (by omega) Tryz.row135 (by kernel_rfl) Tryz.wide135)
structure Left4 where
 lot : Nat
 a : Nat
 b : Nat
 c : Nat
deriving DecidableEq
def Left4.Ok (t : Left4) : Prop := t.lot ≤ 5 ∧ t.a ≤ 30 ∧ t.b ≤ 30 ∧ t.c ≤ 30
def leftC (t : Left4) : Array Value := #[.int .i64 t.lot, .int .i64 t.a, .int .i64 t.b, .int .i64 t.c]
def leftV (t : Left4) : Value := .agg (leftC t)
def wayC (x : Int × Int) : Array Value := #[.int .i64 x.1, .int .i64 x.2]
def wayV (x : Int × Int) : Value := .agg (wayC x)
theorem Tryz.zero137 (w : World) : (zeroValue 137).run Tryz.prog w = .ok (wayV (0, 0)) w := by kernel_rfl
theorem lits135 (d : Nat) (t : Left4) (ht : t.Ok) : Tryz.prog.keyLits (d + 4) 135 [.int .i64 t.lot, .int .i64 t.a, .int .i64 t.b, .int .i64 t.c] = some [.int .i64 t.lot, .int .i64 t.a, .int .i64 t.b, .int .i64 t.c] := by
 obtain ⟨h0, h1, h2, h3⟩ := ht; have w0 := wf64 t.lot (by omega)
 have w1 := wf64 t.a (by omega)
 have w2 := wf64 t.b (by omega)
 have w3 := wf64 t.c (by omega)
 have c135 : Tryz.prog.cellsOf 135 = 4 := by kernel_rfl
 have c3 : Tryz.prog.cellsOf 3 = 1 := by kernel_rfl
 have c106 : Tryz.prog.cellsOf 106 = 3 := by kernel_rfl
 have c104 : Tryz.prog.cellsOf 104 = 3 := by kernel_rfl
 have c103 : Tryz.prog.cellsOf 103 = 1 := by kernel_rfl
 simp [Program.keyLits, Tryz.underlying135, Tryz.underlying3, Tryz.underlying106, Tryz.underlying104, Tryz.underlying103, c135, c3, c106, c104, c103, w0, w1, w2, w3, show List.range 3 = [0, 1, 2] from rfl]
theorem key_left (t : Left4) (ht : t.Ok) : ∃ kl, keyOf Tryz.prog 135 (leftV t) = some kl := by
 have hk : Tryz.prog.keyType 135 = true := by kernel_rfl
 have c135 : Tryz.prog.cellsOf 135 = 4 := by kernel_rfl
 have hf : (leftV t).formed Tryz.prog 135 = true := by simp [leftV, leftC, Value.formed, Tryz.underlying135, c135]
 have hs : ∃ m, Tryz.prog.types.size + 1 = m + 4 := ⟨Tryz.prog.types.size - 3, by have h76 : 135 < Tryz.prog.types.size := Tryz.row135; omega⟩
 obtain ⟨m, hm⟩ := hs; refine ⟨.string (keyBytes [.int .i64 t.lot, .int .i64 t.a, .int .i64 t.b, .int .i64 t.c]), ?_⟩; unfold keyOf; rw [Tryz.underlying135]; simp only [hk, hf, Bool.and_self, if_true]; rw [hm, show (leftV t).cells.toList = [.int .i64 t.lot, .int .i64 t.a, .int .i64 t.b, .int .i64 t.c] from rfl, lits135 _ t ht]
 rfl
theorem leftV_inj {t u : Left4} (h : leftV t = leftV u) : t = u := by
 obtain ⟨t0, t1, t2, t3⟩ := t; obtain ⟨u0, u1, u2, u3⟩ := u; simp only [leftV, leftC, Value.agg.injEq, Array.mk.injEq, List.cons.injEq, Value.int.injEq, true_and, and_true, Int.natCast_inj] at h; obtain ⟨rfl, rfl, rfl, rfl⟩ := h
 rfl
def MapC (w : World) (k : Nat) (F : Left4 → Int × Int) : Prop := ∃ (D : DataW Value) (qs : List Left4), w.ownsMap Tryz.prog 135 runR k (Maps.size D) D ∧ Maps.size D ≤ qs.length ∧ qs.Nodup ∧ (∀ q ∈ qs, q.Ok) ∧
 ∀ (t : Left4) kl, t.Ok → keyOf Tryz.prog 135 (leftV t) = some kl → Maps.has D kl = decide (t ∈ qs) ∧ (t ∈ qs → ∀ z, D.atKey kl z = .held (wayV (F t))) ∧ (t ∉ qs → ∀ z, D.atKey kl z = z)
theorem MapC.lt {w : World} {k : Nat} {F : Left4 → Int × Int} (h : MapC w k F) : k < w.heap.size := by
 obtain ⟨D, ks, h, _⟩ := h; exact h.lt
theorem MapC.isMap {w : World} {k : Nat} {F : Left4 → Int × Int} (h : MapC w k F) : ∃ es c, w.heap[k]? = some (Obj.map es c) := by
 obtain ⟨D, ks, ⟨es, clock, hh, _⟩, _⟩ := h; exact ⟨es, clock, hh⟩
theorem MapC.keep {w w' : World} {k : Nat} {F : Left4 → Int × Int} (h : MapC w k F) (hb : w'.heap[k]? = w.heap[k]?) : MapC w' k F := by
 obtain ⟨D, ks, ⟨es, clock, hh, hF, hs, hD⟩, hl⟩ := h; exact ⟨D, ks, ⟨es, clock, hb.trans hh, hF, hs, hD⟩, hl⟩
theorem MapC.made (w : World) (F : Left4 → Int × Int) : MapC (w.alloc (.map #[] 0)) w.heap.size F :=
 ⟨.map [], [], own_size (World.ownsMap_made w _ _ _), by simp [Maps.size_eq], List.nodup_nil, by simp, fun t kl _ _ => ⟨by simp [Maps.has_eq], fun h => by simp at h, fun _ z => by simp [DataW.atKey]⟩⟩
theorem MapC.look {w : World} {k : Nat} {F : Left4 → Int × Int} (hM : MapC w k F) (t : Left4) (ht : t.Ok) :
  ∃ is : Bool, ∀ wv : World, wv.heap[k]? = w.heap[k]? → (Instr.lookup 132 (.map (some k)) (leftV t) true).run Tryz.prog wv = .ok (.tuple #[wayV (if is then F t else (0, 0)), .bool is]) wv := by
 obtain ⟨D, qs, hown, _, _, _, hl⟩ := hM; obtain ⟨kl, hk⟩ := key_left t ht; obtain ⟨g1, g2, g3⟩ := hl t kl ht hk
 refine ⟨decide (t ∈ qs), fun wv hv => ?_⟩
 obtain ⟨es, clock, hh, hF, hs, hD⟩ := hown; obtain ⟨v, ps, hrun, hR⟩ := World.ownsMap.look_ok (n := Maps.size D) ⟨es, clock, hv.trans hh, hF, hs, hD⟩ Tryz.keyed135 Tryz.underlying132 (Tryz.zero137 wv) (zd := .held (wayV (0, 0))) (zp := []) rfl hk; have hR' : DataW.held v = D.atKey kl (.held (wayV (0, 0))) := by have := Option.some.inj hR; exact congrArg Prod.fst this
 rw [hrun, g1]
 by_cases hm : t ∈ qs
 ·rw [g2 hm] at hR'
  replace hR' := DataW.held.inj hR'
  subst hR'
  simp [hm]
 ·rw [g3 hm] at hR'
  replace hR' := DataW.held.inj hR'
  subst hR'
  simp [hm]
theorem qs_lenC {qs : List Left4} (hn : qs.Nodup) (hr : ∀ q ∈ qs, q.Ok) : qs.length ≤ 6000000 := by
 have h1 : (qs.map (fun t => ((t.lot * 100 + t.a) * 100 + t.b) * 100 + t.c)).Nodup := by
  unfold List.Nodup at *
  rw [List.pairwise_map]
  refine hn.imp_of_mem fun {x y} hx hy hne he => hne ?_
  have r1 := hr x hx; have r2 := hr y hy; obtain ⟨x0, x1, x2, x3⟩ := x; obtain ⟨y0, y1, y2, y3⟩ := y; unfold Left4.Ok at r1 r2
  simp only at *
  have : x0 = y0 ∧ x1 = y1 ∧ x2 = y2 ∧ x3 = y3 := by omega
  obtain ⟨rfl, rfl, rfl, rfl⟩ := this
  rfl
 have h2 := nodup_lt 6000000 _ h1 (fun x hx => by
  obtain ⟨t, ht, rfl⟩ := List.mem_map.1 hx; have := hr t ht; unfold Left4.Ok at this
  omega)
 simpa using h2
theorem MapC.store {w : World} {k : Nat} {F : Left4 → Int × Int} (h : MapC w k F) (t : Left4) (ht : t.Ok) :
  ∃ w', (Instr.mapUpdate 132 (.map (some k)) (leftV t) (wayV (F t))).run Tryz.prog w = .ok () w' ∧ MapC w' k F ∧ w.grownBy w' (some k) ∧ w'.heap.size = w.heap.size ∧ (∀ wv : World, wv.heap[k]? = w'.heap[k]? → (Instr.lookup 132 (.map (some k)) (leftV t) false).run Tryz.prog wv = .ok (wayV (F t)) wv) := by
 obtain ⟨D, qs, hown, hsz, hnd, hin, hl⟩ := h; obtain ⟨kl, hk⟩ := key_left t ht; have hlen := qs_lenC hnd hin; obtain ⟨w', hrun, hown', hturn⟩ := hown.store Tryz.keyed135 Tryz.underlying132 (by unfold maxLen; omega) hk (show runR (wayV (F t)) = some (.held (wayV (F t)), []) from rfl)
 have hg := hturn.grown; obtain ⟨s1, s2⟩ := size_put_has2 (kl := kl) hown.isMap (.held (wayV (F t))); have hhas := (hl t kl ht hk).1
 have key : ∀ (qs' : List Left4), (∀ u, u ∈ qs' ↔ u = t ∨ u ∈ qs) → ∀ (u : Left4) kl', u.Ok → keyOf Tryz.prog 135 (leftV u) = some kl' →
   Maps.has (D.put kl (.held (wayV (F t)))) kl' = decide (u ∈ qs') ∧ (u ∈ qs' → ∀ z, (D.put kl (.held (wayV (F t)))).atKey kl' z = .held (wayV (F u))) ∧ (u ∉ qs' → ∀ z, (D.put kl (.held (wayV (F t)))).atKey kl' z = z) := by
  intro qs' hqs u kl' a1 hk'
  by_cases hab : u = t
  ·subst hab; obtain rfl : kl = kl' := Option.some.inj (hk.symm.trans hk'); have hm : u ∈ qs' := (hqs _).2 (.inl rfl)
   refine ⟨by rw [Maps.has_put_same hown.isMap (Tryz.keyed135.key hk)]; simp [hm], fun _ z => Maps.atKey_put_same hown.isMap (Tryz.keyed135.key hk) _ z, fun h => absurd hm h⟩
  ·have hne : kl' ≠ kl := by
    rintro rfl; exact hab (leftV_inj (Tryz.keyed135.inj hk' hk))
   have hiff : u ∈ qs' ↔ u ∈ qs := by rw [hqs]; simp [hab]
   obtain ⟨g1, g2, g3⟩ := hl u kl' a1 hk'
   exact ⟨by rw [Maps.has_put_other hne, g1]; exact decide_eq_decide.2 hiff.symm, fun hm z => by rw [Maps.atKey_put_other hne]; exact g2 (hiff.1 hm) z, fun hm z => by rw [Maps.atKey_put_other hne]; exact g3 (fun h => hm (hiff.2 h)) z⟩
 have hlook : ∀ wv : World, wv.heap[k]? = w'.heap[k]? → (Instr.lookup 132 (.map (some k)) (leftV t) false).run Tryz.prog wv = .ok (wayV (F t)) wv := fun wv hv => by
  obtain ⟨es, clock, hh, hF, hs, hD⟩ := hown'; obtain ⟨v, ps, hrun2, hR⟩ := World.ownsMap.lookup (n := Maps.size D + 1) ⟨es, clock, hv.trans hh, hF, hs, hD⟩ Tryz.keyed135 Tryz.underlying132 (Tryz.zero137 wv) (zd := .held (wayV (0, 0))) (zp := []) rfl hk; have hR' : DataW.held v = (D.put kl (.held (wayV (F t)))).atKey kl (.held (wayV (0, 0))) := by have := Option.some.inj hR; exact congrArg Prod.fst this
  rw [Maps.atKey_put_same hown.isMap (Tryz.keyed135.key hk)] at hR'
  replace hR' := DataW.held.inj hR'
  rw [hrun2, hR']
 have hsize : w'.heap.size = w.heap.size := by obtain ⟨es, c, es', c', _, rfl⟩ := hturn; simp [Go.ChangeMaps.setBlock]
 refine ⟨w', hrun, ?_, hg, hsize, hlook⟩
 by_cases hm : t ∈ qs
 ·refine ⟨_, qs, own_size hown', ?_, hnd, hin, key qs fun u => ⟨fun hu => .inr hu, fun hu => hu.elim (fun e => e ▸ hm) id⟩⟩
  have := s2 (by rw [hhas]; simp [hm])
  omega
 ·refine ⟨_, t :: qs, own_size hown', ?_, List.nodup_cons.2 ⟨hm, hnd⟩, ?_, key _ fun u => by simp⟩
  ·simp; omega
  ·intro u hu; rcases List.mem_cons.1 hu with rfl | hu
   ·exact ht
   ·exact hin u hu
end Go.Proofs.YtgmfhngcehkibaaGreat
