import Derived.Test.YtgmfhngcehkibaaGreatPkU26
import Derived.ChangeOld
set_option maxRecDepth 100000
set_option maxHeartbeats 6400000
namespace Go.Proofs.YtgmfhngcehkibaaGreat
open Go.RowKit Go.Hav Go.Shelf Go.Sq
attribute [local go_sem] Oper.semAt_some
def upV (of_ : ILot → IWag → Int) (c : ICart) : Int := if stayE c = 0 then (onP c.tm c.wg of_ c.lt (roomP c.wg)).1 else 0
def upL (of_ : ILot → IWag → Int) (c : ICart) : List Int := if stayE c = 0 then planL c.tm c.wg of_ c.lt (roomP c.wg) else []
theorem upL_len {of_ : ILot → IWag → Int} {c : ICart} : (upL of_ c).length ≤ c.lt.length := by
 unfold upL
 split
 ·exact Nat.le_of_eq (rightL_len (plan_right c.tm c.wg of_ c.lt (roomP c.wg)))
 ·simp
def UpR (of_ : ILot → IWag → Int) (c : ICart) (w : World) (e : Ending) (w' : World) : Prop :=
 Below w.heap.size w w' ∧ ∃ A n cp, e = .returned (.tuple #[.int .i64 (upV of_ c), .slice A n cp, .int .i64 (stayE c : Nat)]) ∧ (upL of_ c).length = n ∧ RdG inI 1 w' w'.heap.size A (upL of_ c)
theorem ints_flat : ∀ l : List Int, (l.flatMap inI).toArray = intsA l := fun l => by
 unfold intsA
 congr 1
 induction l with
 | nil => rfl
 | cons x l ih => rw [List.flatMap_cons, ih]; rfl
theorem PlanR.up {of_ : ILot → IWag → Int} {c : ICart} {tn : Nat} {w w' : World} {e : Ending} (hn : c.lt.length = tn) (h : PlanR of_ c tn w e w') : UpR of_ c w e w' := by
 obtain ⟨hb, (⟨h1, rfl⟩ | ⟨h1, g, rfl, -, hg⟩)⟩ := h
 ·refine ⟨hb, none, 0, 0, by unfold upV; rw [if_neg h1], by unfold upL; rw [if_neg h1]; rfl, ?_⟩
  unfold upL; rw [if_neg h1]; exact RdG.nil _ _ _ _ _
 ·refine ⟨hb, some ⟨g, 0, none⟩, tn, tn, by unfold upV; rw [if_pos h1, h1]; rfl, ?_, ?_⟩
  ·unfold upL; rw [if_pos h1, ← hn]; exact rightL_len (plan_right c.tm c.wg of_ c.lt (roomP c.wg))
  ·unfold upL; rw [if_pos h1]
   exact RdG.of_blk (f := inI) (sz := 1) (t := 3) (fun _ => rfl) (by rw [ints_flat]; exact hg) hg.lt
theorem RPlanR.up {of_ : ILot → IWag → Int} {c : ICart} {tn : Nat} {w w' : World} {e : Ending} (hn : c.lt.length = tn) (h : RPlanR of_ c tn w e w') : UpR of_ c w e w' := by
 obtain ⟨hb, (⟨h1, rfl⟩ | ⟨h1, A, cp, rfl, hr⟩)⟩ := h
 ·refine ⟨hb, none, 0, 0, by unfold upV; rw [if_neg h1], by unfold upL; rw [if_neg h1]; rfl, ?_⟩
  unfold upL; rw [if_neg h1]; exact RdG.nil _ _ _ _ _
 ·refine ⟨hb, A, tn, cp, by unfold upV; rw [if_pos h1, h1]; rfl, ?_, ?_⟩
  ·unfold upL; rw [if_pos h1, ← hn]; exact rightL_len (plan_right c.tm c.wg of_ c.lt (roomP c.wg))
  ·unfold upL; rw [if_pos h1]; exact hr
section
variable {fa la wa ta : Option Addr} {fl fc ll lc wn wc tn tc : Nat} {c : ICart}
theorem cartPlans_any (w : World) (hP : CtIn w w.heap.size fa fl la ll wa wn ta tn c) : Calls Tryz.prog 4 #[(.agg #[.int .i64 c.riv.depth.lo, .int .i64 c.riv.depth.hi, .int .i64 c.riv.fall.lo, .int .i64 c.riv.fall.hi, .int .i64 c.riv.days, .slice fa fl fc, .slice la ll lc, .int .i64 c.draws, .slice wa wn wc, .slice ta tn tc])] w fun e w' => e = .returned (.bool true) ∧ Below w.heap.size w w' := by
 have HP := Lib.hid hP; have HET := Lib.hid hP.etn; clear hP; obtain ⟨W, hW⟩ : ∃ W, W = w.alloc (.cells #[.int .i64 c.riv.depth.lo, .int .i64 c.riv.depth.hi, .int .i64 c.riv.fall.lo, .int .i64 c.riv.fall.hi, .int .i64 c.riv.days, .slice fa fl fc, .slice la ll lc, .int .i64 c.draws, .slice wa wn wc, .slice ta tn tc] 31) := ⟨_, rfl⟩; obtain ⟨b1, hb1⟩ : ∃ b, b = w.heap.size := ⟨_, rfl⟩; have HK0 : Hid (Blk W b1 31 #[.int .i64 c.riv.depth.lo, .int .i64 c.riv.depth.hi, .int .i64 c.riv.fall.lo, .int .i64 c.riv.fall.hi, .int .i64 c.riv.days, .slice fa fl fc, .slice la ll lc, .int .i64 c.draws, .slice wa wn wc, .slice ta tn tc]) := by rw [hW, hb1]; exact Blk.new w 31 _
 have HB0 : Hid (Below w.heap.size w W) := by rw [hW]; exact (Below.refl _ _).alloc (Nat.le_refl _) _
 go_enter Tryz.func4, Tryz.ntmps4
 go_upto_region 1 with (fail); rw [← hW, ← hb1]; clear hW hb1; have hx := HK0.out; obtain ⟨q0, q1, q2, q3, q4, q5, q6, q7, q8, q9, ql⟩ := cx31 hx; clear hx; go_wp2_with fail; refine (heavy_any (fa := fa) (fl := fl) (fc := fc) (la := la) (ll := ll) (lc := lc) (wa := wa) (wn := wn) (wc := wc) (ta := ta) (tn := tn) (tc := tc) (A := none) (n := 0) (cp := 0) (by omega) W (HP.out.grow HB0.out)).mono ?_
 rintro e w1 ⟨⟨b, rfl, hb0⟩, hb⟩; have HB1 : Hid (Below w.heap.size w w1) := HB0.out.trans (hb.mono HB0.out.size); have HK1 := Lib.hid (HK0.out.below hb HK0.out.lt)
 have HTN : Hid (b = false → tn ≤ 40) := fun h => (hb0 h).2.2.2.1
 clear hb hb0; clear q0 q1 q2 q3 q4 q5 q6 q7 q8 q9 ql; cases b
 case true =>
  go_wp2_with fail; refine (alive_any w1).mono ?_
  rintro e w2 ⟨rfl, hb⟩; have HB2 : Hid (Below w.heap.size w w2) := HB1.out.trans (hb.mono HB1.out.size); clear hb; go_wp2; go_ret
  exact ⟨rfl, HB2.out⟩
 have ht40 := HTN.out rfl; obtain ⟨E, hE⟩ : ∃ E, stayE c = E := ⟨_, rfl⟩; obtain ⟨S, hS⟩ : ∃ S, stayV c = S := ⟨_, rfl⟩; obtain ⟨m1, hm1⟩ : ∃ v, upV ofMost c = v := ⟨_, rfl⟩; obtain ⟨b2, hb2⟩ : ∃ v, upV ofBest c = v := ⟨_, rfl⟩; have hLm : (upL ofMost c).length ≤ 40 := by have := upL_len (of_ := ofMost) (c := c); rw [HET.out] at this; omega
 have hLb : (upL ofBest c).length ≤ 40 := by have := upL_len (of_ := ofBest) (c := c); rw [HET.out] at this; omega
 obtain ⟨Lm, hlm⟩ : ∃ v, upL ofMost c = v := ⟨_, rfl⟩; obtain ⟨Lb, hlb⟩ : ∃ v, upL ofBest c = v := ⟨_, rfl⟩; rw [hlm] at hLm; rw [hlb] at hLb; have HV : Hid (stayE c = E ∧ stayV c = S ∧ upV ofMost c = m1 ∧ upV ofBest c = b2 ∧ upL ofMost c = Lm ∧ upL ofBest c = Lb) := ⟨hE, hS, hm1, hb2, hlm, hlb⟩; clear hE hS hm1 hb2 hlm hlb; have hx := HK1.out; obtain ⟨q0, q1, q2, q3, q4, q5, q6, q7, q8, q9, ql⟩ := cx31 hx; clear hx; go_wp2_with fail; refine (PMost_any (fa := fa) (fl := fl) (fc := fc) (la := la) (ll := ll) (lc := lc) (wa := wa) (wn := wn) (wc := wc) (ta := ta) (tn := tn) (tc := tc) (c := c) (w := w1) (HP.out.grow HB1.out)).mono ?_; intro e v2 hq; obtain ⟨hb, A2, n2, c2, rfl, hn2, hr2⟩ := PlanR.up HET.out hq; rw [HV.out.2.2.2.2.1] at hn2 hr2; rw [HV.out.1, HV.out.2.2.1]; have HB2 : Hid (Below w.heap.size w v2) := HB1.out.trans (hb.mono HB1.out.size); have HK2 := Lib.hid (HK1.out.below hb HK1.out.lt); have HR2 := Lib.hid hr2; have HN2 := Lib.hid hn2; clear hq hr2 hn2; clear hb; clear q0 q1 q2 q3 q4 q5 q6 q7 q8 q9 ql; have hx := HK2.out; obtain ⟨q0, q1, q2, q3, q4, q5, q6, q7, q8, q9, ql⟩ := cx31 hx; clear hx; go_wp2_with fail; refine (rMost_any (fa := fa) (fl := fl) (fc := fc) (la := la) (ll := ll) (lc := lc) (wa := wa) (wn := wn) (wc := wc) (ta := ta) (tn := tn) (tc := tc) (c := c) v2 (HP.out.grow HB2.out)).mono ?_; intro e v3 hq; obtain ⟨hb, A3, n3, c3, rfl, hn3, hr3⟩ := RPlanR.up HET.out hq; rw [HV.out.2.2.2.2.1] at hn3 hr3; rw [HV.out.1, HV.out.2.2.1]
 have HB3 : Hid (Below w.heap.size w v3) := HB2.out.trans (hb.mono HB2.out.size); have HK3 := Lib.hid (HK2.out.below hb HK2.out.lt); have HR2v := Lib.hid (HR2.out.grow hb); have HR3 := Lib.hid hr3; have HN3 := Lib.hid hn3; clear hq hr3 hn3; clear hb; clear q0 q1 q2 q3 q4 q5 q6 q7 q8 q9 ql; have hx := HK3.out; obtain ⟨q0, q1, q2, q3, q4, q5, q6, q7, q8, q9, ql⟩ := cx31 hx; clear hx; go_wp2_with fail; refine (PBest_any (fa := fa) (fl := fl) (fc := fc) (la := la) (ll := ll) (lc := lc) (wa := wa) (wn := wn) (wc := wc) (ta := ta) (tn := tn) (tc := tc) (c := c) (w := v3) (HP.out.grow HB3.out)).mono ?_; intro e v4 hq; obtain ⟨hb, A4, n4, c4, rfl, hn4, hr4⟩ := PlanR.up HET.out hq; rw [HV.out.2.2.2.2.2] at hn4 hr4; rw [HV.out.1, HV.out.2.2.2.1]; have HB4 : Hid (Below w.heap.size w v4) := HB3.out.trans (hb.mono HB3.out.size); have HK4 := Lib.hid (HK3.out.below hb HK3.out.lt); have HR2vv := Lib.hid (HR2v.out.grow hb); have HR3v := Lib.hid (HR3.out.grow hb); have HR4 := Lib.hid hr4; have HN4 := Lib.hid hn4; clear hq hr4 hn4; clear hb; clear q0 q1 q2 q3 q4 q5 q6 q7 q8 q9 ql; have hx := HK4.out; obtain ⟨q0, q1, q2, q3, q4, q5, q6, q7, q8, q9, ql⟩ := cx31 hx; clear hx; go_wp2_with fail; refine (rBest_any (fa := fa) (fl := fl) (fc := fc) (la := la) (ll := ll) (lc := lc) (wa := wa) (wn := wn) (wc := wc) (ta := ta) (tn := tn) (tc := tc) (c := c) v4 (HP.out.grow HB4.out)).mono ?_; intro e v5 hq; obtain ⟨hb, A5, n5, c5, rfl, hn5, hr5⟩ := RPlanR.up HET.out hq; rw [HV.out.2.2.2.2.2] at hn5 hr5
 rw [HV.out.1, HV.out.2.2.2.1]; have HB5 : Hid (Below w.heap.size w v5) := HB4.out.trans (hb.mono HB4.out.size); have HK5 := Lib.hid (HK4.out.below hb HK4.out.lt); have HR2vvv := Lib.hid (HR2vv.out.grow hb); have HR3vv := Lib.hid (HR3v.out.grow hb); have HR4v := Lib.hid (HR4.out.grow hb); have HR5 := Lib.hid hr5; have HN5 := Lib.hid hn5; clear hq hr5 hn5; clear hb; clear q0 q1 q2 q3 q4 q5 q6 q7 q8 q9 ql; have hx := HK5.out; obtain ⟨q0, q1, q2, q3, q4, q5, q6, q7, q8, q9, ql⟩ := cx31 hx; clear hx; go_wp2_with fail; refine (PStay_any (fa := fa) (fl := fl) (fc := fc) (la := la) (ll := ll) (lc := lc) (wa := wa) (wn := wn) (wc := wc) (ta := ta) (tn := tn) (tc := tc) (c := c) (w := v5) (HP.out.grow HB5.out)).mono ?_; rw [HV.out.1, HV.out.2.1]; rintro e v6 ⟨rfl, hb⟩; have HB6 : Hid (Below w.heap.size w v6) := HB5.out.trans (hb.mono HB5.out.size); have HK6 := Lib.hid (HK5.out.below hb HK5.out.lt); have HR2vvvv := Lib.hid (HR2vvv.out.grow hb); have HR3vvv := Lib.hid (HR3vv.out.grow hb); have HR4vv := Lib.hid (HR4v.out.grow hb); have HR5v := Lib.hid (HR5.out.grow hb); clear hb; clear q0 q1 q2 q3 q4 q5 q6 q7 q8 q9 ql; have hx := HK6.out; obtain ⟨q0, q1, q2, q3, q4, q5, q6, q7, q8, q9, ql⟩ := cx31 hx; clear hx; go_wp2_with fail; refine (rStay_any (fa := fa) (fl := fl) (fc := fc) (la := la) (ll := ll) (lc := lc) (wa := wa) (wn := wn) (wc := wc) (ta := ta) (tn := tn) (tc := tc) (c := c) v6 (HP.out.grow HB6.out)).mono ?_; rw [HV.out.1, HV.out.2.1]; rintro e v7 ⟨rfl, hb⟩
 have HB7 : Hid (Below w.heap.size w v7) := HB6.out.trans (hb.mono HB6.out.size); have HK7 := Lib.hid (HK6.out.below hb HK6.out.lt); have HR2vvvvv := Lib.hid (HR2vvvv.out.grow hb); have HR3vvvv := Lib.hid (HR3vvv.out.grow hb); have HR4vvv := Lib.hid (HR4vv.out.grow hb); have HR5vv := Lib.hid (HR5v.out.grow hb); clear hb; clear q0 q1 q2 q3 q4 q5 q6 q7 q8 q9 ql; go_wp2_with fail; refine (ints_any (A1 := A2) (n1 := n2) (c1 := c2) (l1 := Lm) (A2 := A3) (n2 := n3) (c2 := c3) (l2 := Lm) HN2.out HN3.out (by rw [← HN2.out]; omega) v7 HR2vvvvv.out HR3vvvv.out).mono ?_
 rw [decide_eq_true (show Lm = Lm from rfl)]
 rintro e u1 ⟨rfl, hb⟩; have HBu1 : Hid (Below w.heap.size w u1) := HB7.out.trans (hb.mono HB7.out.size); have HR2vvvvvv := Lib.hid (HR2vvvvv.out.grow hb); have HR3vvvvv := Lib.hid (HR3vvvv.out.grow hb); have HR4vvvv := Lib.hid (HR4vvv.out.grow hb); have HR5vvv := Lib.hid (HR5vv.out.grow hb); clear hb; go_wp2_with fail; refine (ints_any (A1 := A4) (n1 := n4) (c1 := c4) (l1 := Lb) (A2 := A5) (n2 := n5) (c2 := c5) (l2 := Lb) HN4.out HN5.out (by rw [← HN4.out]; omega) u1 HR4vvvv.out HR5vvv.out).mono ?_
 rw [decide_eq_true (show Lb = Lb from rfl)]
 rintro e u2 ⟨rfl, hb⟩; have HBu2 : Hid (Below w.heap.size w u2) := HBu1.out.trans (hb.mono HBu1.out.size); have HR2vvvvvvv := Lib.hid (HR2vvvvvv.out.grow hb); have HR3vvvvvv := Lib.hid (HR3vvvvv.out.grow hb); have HR4vvvvv := Lib.hid (HR4vvvv.out.grow hb); have HR5vvvv := Lib.hid (HR5vvv.out.grow hb); clear hb; go_wp2_with fail; refine (alive_any _).mono ?_; rintro e wz ⟨rfl, hb⟩; have HBZ : Hid (Below w.heap.size w wz) := HBu2.out.trans (hb.mono HBu2.out.size); clear hb; go_wp2; go_ret
 exact ⟨rfl, HBZ.out⟩
end
end Go.Proofs.YtgmfhngcehkibaaGreat
namespace Go.Proofs.YtgmfhngcehkibaaGreat
open Go.ChangeShapes Go.WideShapes Go.ChangeAt Go.RowKit
theorem cartPlans_lifted (os : Os) (started : os.Started) (H : Type) (enc : TypeId × Value → H) :
  ReturnsInHanded {} Tryz.checked os 4 .any (Rows.cartPlansSpec.pre6 enc Tryz.prog Tryz.f4 Rows.cartPlansRow.domain false) (Rows.cartPlansSpec.post enc Tryz.prog Tryz.f4 false true false false) := by
 refine returnsInHanded_of_change (C := Tryz.checked) rowOwn started (by kernel_rfl) Tryz.func4
  (ChangeSpec.witness6 (enc := enc) (C := Tryz.checked) false ⟨#[], #[(.agg #[.int .i64 0, .int .i64 0, .int .i64 0, .int .i64 0, .int .i64 0, .slice none 0 0, .slice none 0 0, .int .i64 0, .slice none 0 0, .slice none 0 0])], []⟩ 8 (by kernel_rfl) (by kernel_rfl) (by kernel_rfl) (by kernel_rfl)) ?_
 intro W base args ds gs before hval0 hW _ _; have hval : ∀ (j : Nat) t v, Tryz.f4.params[j]? = some t → args[j]? = some v → Value.okWide Tryz.prog W .any base t v := hval0; have hW' := hW; obtain ⟨p, q, hA0, hV, rfl, hfz, hnd⟩ := hW
 have hA : DataW.TrodAll enc Tryz.prog W 0 (fun _ => true) true Tryz.f4.params.toList args.toList ds p := hA0
 rw [Tryz.params4] at hA hval; obtain ⟨v0, d0, rfl, rfl, h0⟩ := trodAll_one hA; obtain ⟨rfl, rfl⟩ := trodVars_none hV; have k0 := h0; have lt0 : ∀ x ∈ p, x.block < W.heap.size := by obtain ⟨m, hm⟩ := k0; exact DataW.trod_lt m _ _ _ hm
 obtain ⟨fa, la, wa, ta, fl, fc, ll, lc, wn, wc, tn, tc, P, rfl, hP⟩ := open_cart (hval 0 31 v0 rfl rfl) h0; clear hA0 hval0; simp only [List.append_nil] at hW'
 refine (cartPlans_any W hP).mono fun e W' ⟨he, bel⟩ => ?_
 subst he
 exact ⟨_, rfl, _, _, _, [], _, [], hW', trodAll_mk1 (shut_bool Tryz.underlying4 _), (trodAll_mk1 (Below.trod rowLaidOut (by kernel_rfl) (of_decide_eq_true (by kernel_rfl)) k0 bel lt0)), rfl, bel.frame _, fun h => by cases h⟩
theorem cartPlans_holds : Rows.CartPlansSaid :=
 OpenClaim.holds_of_wide 4 Tryz.f4 rfl rfl rfl rfl rfl rfl rfl ⟨rfl, rfl, rfl, rfl, rfl⟩ rfl rfl rfl rfl rfl (by kernel_rfl) Tryz.func4 (by kernel_rfl)
  (of_decide_eq_true (by kernel_rfl)) (by unfold Func.isWrapper; first | (rw [if_pos (by decide +kernel)]; kernel_rfl) | (rw [if_neg (by decide +kernel)]; exact ⟨rfl, rfl⟩))
  (fun os started H enc _ => cartPlans_lifted os started H enc)
#print axioms cartPlans_holds
end Go.Proofs.YtgmfhngcehkibaaGreat
