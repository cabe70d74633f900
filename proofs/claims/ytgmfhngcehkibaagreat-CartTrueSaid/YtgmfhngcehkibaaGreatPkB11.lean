/- The walk of Fall, for every river. Condition: what the statements say. -/
import Derived.Test.YtgmfhngcehkibaaGreatPkB10
set_option maxRecDepth 100000
set_option maxHeartbeats 6400000
namespace Go.Proofs.YtgmfhngcehkibaaGreat
open Go.RowKit Go.Hav Go.Shelf Go.Sq
attribute [local go_sem] Oper.semAt_some
section
variable {fa la : Option Addr} {fl fc ll lc : Nat} {r : IRiv} {w : World}
theorem boat_err (draws : Int) (hP : RvIn w w.heap.size fa fl la ll r) (h : okR r = false ∨ isDrB draws = false) :
  Calls Tryz.prog 90 #[(.agg #[.int .i64 r.depth.lo, .int .i64 r.depth.hi, .int .i64 r.fall.lo, .int .i64 r.fall.hi, .int .i64 r.days, .slice fa fl fc, .slice la ll lc]), .int .i64 draws] w fun e w' => e = .panicked [refE (if okR r = false then 1 else 2)] ∧ Below w.heap.size w w' := by
 have HP := Lib.hid hP; have HH := Lib.hid h; have EG := Lib.hid (enters_of Tryz.func109 (by kernel_rfl) rfl)
 clear hP h; have hmf := hmf0
 go_enter Tryz.func90, Tryz.ntmps90
 go_upto_region 1 with (fail); obtain ⟨W, hW⟩ : ∃ W, W = (w.alloc (.cells #[.int .i64 r.depth.lo, .int .i64 r.depth.hi, .int .i64 r.fall.lo, .int .i64 r.fall.hi, .int .i64 r.days, .slice fa fl fc, .slice la ll lc] 27)).alloc (.cells #[.int .i64 draws] 3) := ⟨_, rfl⟩; have HB0 : Hid (Below w.heap.size w W) := by rw [hW]; exact ((Below.refl _ _).alloc (Nat.le_refl _) _).alloc (by simp) _
 have HXB : Hid (Blk W w.heap.size 27 #[.int .i64 r.depth.lo, .int .i64 r.depth.hi, .int .i64 r.fall.lo, .int .i64 r.fall.hi, .int .i64 r.days, .slice fa fl fc, .slice la ll lc]) := by rw [hW]; exact (Blk.new w 27 _).alloc _
 have HX3 : Hid (Blk W (w.heap.size + 1) 3 #[.int .i64 draws]) := by rw [hW]; exact Blk.new_ (by simp) 3 _
 rw [← hW]; clear hW; have q0 := HXB.out.cell 0; have q1 := HXB.out.cell 1; have q2 := HXB.out.cell 2; have q3 := HXB.out.cell 3; have q4 := HXB.out.cell 4; have q5 := HXB.out.cell 5; have q6 := HXB.out.cell 6; have ql := HXB.out.lt; simp at q0 q1 q2 q3 q4 q5 q6; go_wp2_with fail
 refine (open_err 109 #[.pointer (some ⟨w.heap.size + 1, 0, none⟩)] EG.out (HP.out.grow HB0.out) (fun _ => isG_boat (w.heap.size + 1) draws HX3.out) HH.out).mono ?_
 rintro e w' ⟨rfl, hb⟩; exact ⟨rfl, rfl, HB0.out.trans (hb.mono HB0.out.size)⟩
theorem boat_clash (draws : Int) (hP : RvIn w w.heap.size fa fl la ll r) (hv : okR r = true) (hi : isDrB draws = true) (ht : truthsA r.nat = []) :
  Calls Tryz.prog 90 #[(.agg #[.int .i64 r.depth.lo, .int .i64 r.depth.hi, .int .i64 r.fall.lo, .int .i64 r.fall.hi, .int .i64 r.days, .slice fa fl fc, .slice la ll lc]), .int .i64 draws] w fun e w' => e = .panicked [refE 10] ∧ Below w.heap.size w w' := by
 have HP := Lib.hid hP; have HV := Lib.hid hv; have HI := Lib.hid hi; have HC : Hid (canB r.nat (full r.nat.lk.length) = false) := by show _ = _; rw [can_of hv, ht]; rfl
 have EG := Lib.hid (enters_of Tryz.func109 (by kernel_rfl) rfl)
 clear hP hv hi ht; have hmf := hmf0
 go_enter Tryz.func90, Tryz.ntmps90
 go_upto_region 1 with (fail); obtain ⟨W, hW⟩ : ∃ W, W = (w.alloc (.cells #[.int .i64 r.depth.lo, .int .i64 r.depth.hi, .int .i64 r.fall.lo, .int .i64 r.fall.hi, .int .i64 r.days, .slice fa fl fc, .slice la ll lc] 27)).alloc (.cells #[.int .i64 draws] 3) := ⟨_, rfl⟩; have HB0 : Hid (Below w.heap.size w W) := by rw [hW]; exact ((Below.refl _ _).alloc (Nat.le_refl _) _).alloc (by simp) _
 have HXB : Hid (Blk W w.heap.size 27 #[.int .i64 r.depth.lo, .int .i64 r.depth.hi, .int .i64 r.fall.lo, .int .i64 r.fall.hi, .int .i64 r.days, .slice fa fl fc, .slice la ll lc]) := by rw [hW]; exact (Blk.new w 27 _).alloc _
 have HX3 : Hid (Blk W (w.heap.size + 1) 3 #[.int .i64 draws]) := by rw [hW]; exact Blk.new_ (by simp) 3 _
 rw [← hW]; clear hW; have q0 := HXB.out.cell 0; have q1 := HXB.out.cell 1; have q2 := HXB.out.cell 2; have q3 := HXB.out.cell 3; have q4 := HXB.out.cell 4; have q5 := HXB.out.cell 5; have q6 := HXB.out.cell 6; have ql := HXB.out.lt; simp at q0 q1 q2 q3 q4 q5 q6; go_wp2_with fail
 refine (open_ok 109 #[.pointer (some ⟨w.heap.size + 1, 0, none⟩)] EG.out (HP.out.grow HB0.out) (fun _ => by have := isG_boat (fa := fa) (fl := fl) (fc := fc) (la := la) (ll := ll) (lc := lc) (r := r) (w.heap.size + 1) draws HX3.out; rwa [HI.out] at this) HV.out).mono ?_
 rintro e w1 ⟨d, k, rfl, hD, hK, hb0⟩; have HB1 : Hid (Below W.heap.size W w1) := hb0; have HD1 := Lib.hid hD; have HK1 := Lib.hid hK; clear hD hK hb0 q0 q1 q2 q3 q4 q5 q6 ql; go_wp2_with fail; refine (told_no (good_of HV.out) HC.out w1 HD1.out HK1.out).mono ?_; rintro e w' ⟨rfl, -, hg⟩; have hkW : W.heap.size ≤ k := HD1.out.hk
 have hb : Below W.heap.size W w' := HB1.out.trans ((Turn.of_grownK hg).below HB1.out.size (fun b e => by have e' : b = k := e; rw [e']; exact hkW))
 exact ⟨rfl, rfl, HB0.out.trans (hb.mono HB0.out.size)⟩
theorem boat_ok (draws : Int) (hP : RvIn w w.heap.size fa fl la ll r) (hv : okR r = true) (hi : isDrB draws = true) (ht : truthsA r.nat ≠ []) :
  Calls Tryz.prog 90 #[(.agg #[.int .i64 r.depth.lo, .int .i64 r.depth.hi, .int .i64 r.fall.lo, .int .i64 r.fall.hi, .int .i64 r.days, .slice fa fl fc, .slice la ll lc]), .int .i64 draws] w fun e w' => ∃ B d k, e = .returned (.pointer (some ⟨d, 0, none⟩)) ∧ w.heap.size ≤ B ∧ GauIn w' B d k fa fl fc la ll lc r.nat ∧ KeptOK w' k r.nat ∧ Below w.heap.size w w' := by
 have HP := Lib.hid hP; have HV := Lib.hid hv; have HI := Lib.hid hi; have HC : Hid (canB r.nat (full r.nat.lk.length) = true) := by show _ = _; rw [can_of hv]; simp [ht]
 have EG := Lib.hid (enters_of Tryz.func109 (by kernel_rfl) rfl)
 clear hP hv hi ht; have hmf := hmf0
 go_enter Tryz.func90, Tryz.ntmps90
 go_upto_region 1 with (fail); obtain ⟨W, hW⟩ : ∃ W, W = (w.alloc (.cells #[.int .i64 r.depth.lo, .int .i64 r.depth.hi, .int .i64 r.fall.lo, .int .i64 r.fall.hi, .int .i64 r.days, .slice fa fl fc, .slice la ll lc] 27)).alloc (.cells #[.int .i64 draws] 3) := ⟨_, rfl⟩; have HB0 : Hid (Below w.heap.size w W) := by rw [hW]; exact ((Below.refl _ _).alloc (Nat.le_refl _) _).alloc (by simp) _
 have HXB : Hid (Blk W w.heap.size 27 #[.int .i64 r.depth.lo, .int .i64 r.depth.hi, .int .i64 r.fall.lo, .int .i64 r.fall.hi, .int .i64 r.days, .slice fa fl fc, .slice la ll lc]) := by rw [hW]; exact (Blk.new w 27 _).alloc _
 have HX3 : Hid (Blk W (w.heap.size + 1) 3 #[.int .i64 draws]) := by rw [hW]; exact Blk.new_ (by simp) 3 _
 rw [← hW]; clear hW; have q0 := HXB.out.cell 0; have q1 := HXB.out.cell 1; have q2 := HXB.out.cell 2; have q3 := HXB.out.cell 3; have q4 := HXB.out.cell 4; have q5 := HXB.out.cell 5; have q6 := HXB.out.cell 6; have ql := HXB.out.lt; simp at q0 q1 q2 q3 q4 q5 q6; go_wp2_with fail
 refine (open_ok 109 #[.pointer (some ⟨w.heap.size + 1, 0, none⟩)] EG.out (HP.out.grow HB0.out) (fun _ => by have := isG_boat (fa := fa) (fl := fl) (fc := fc) (la := la) (ll := ll) (lc := lc) (r := r) (w.heap.size + 1) draws HX3.out; rwa [HI.out] at this) HV.out).mono ?_
 rintro e w1 ⟨d, k, rfl, hD, hK, hb0⟩; have HB1 : Hid (Below W.heap.size W w1) := hb0; have HD1 := Lib.hid hD; have HK1 := Lib.hid hK; clear hD hK hb0 q0 q1 q2 q3 q4 q5 q6 ql; go_wp2_with fail; refine (told_yes (good_of HV.out) HC.out w1 HD1.out HK1.out).mono ?_; rintro e w2 ⟨rfl, hk2, hg2⟩; have hkW : W.heap.size ≤ k := HD1.out.hk
 have HB2 : Hid (Below W.heap.size W w2) := HB1.out.trans ((Turn.of_grownK hg2).below HB1.out.size (fun b e => by have e' : b = k := e; rw [e']; exact hkW))
 have HD2 := Lib.hid (HD1.out.turn (Turn.of_grownK hg2) (fun b e => by have e' : b = k := e; rw [e']; exact hkW) (fun e => HD1.out.kd (show d = k from e).symm))
 have HK2 := Lib.hid hk2; clear hk2 hg2; go_wp2; go_ret
 exact ⟨W.heap.size, d, k, rfl, HB0.out.size, HD2.out, HK2.out, HB0.out.trans (HB2.out.mono HB0.out.size)⟩
end
end Go.Proofs.YtgmfhngcehkibaaGreat
namespace Go.Proofs.YtgmfhngcehkibaaGreat
open Go.RowKit Go.Hav Go.Shelf Go.Sq
attribute [local go_sem] Oper.semAt_some
theorem setN_or {f : Nat → Bool} {n : Nat} (h : f n = true) : setN f n ||| 2 ^ n = setN f (n + 1) := Nat.eq_of_testBit_eq fun j => by
 rw [Nat.testBit_or, tb_setN, tb_setN]
 by_cases e : n = j
 ·subst e; rw [Nat.testBit_two_pow_self, h]; simp
 ·rw [Nat.testBit_two_pow_of_ne e, Bool.or_false, show decide (j < n) = decide (j < n + 1) from decide_eq_decide.2 (by omega)]
theorem setN_no {f : Nat → Bool} {n : Nat} (h : f n = false) : setN f (n + 1) = setN f n := by rw [setN, h]; simp
section
variable {fa la : Option Addr} {fl fc ll lc : Nat} {r : IRiv} {w : World}
theorem PDays_err (draws : Int) (hP : RvIn w w.heap.size fa fl la ll r) (h : okR r = false ∨ isDrB draws = false) :
  Calls Tryz.prog 38 #[(.agg #[.int .i64 r.depth.lo, .int .i64 r.depth.hi, .int .i64 r.fall.lo, .int .i64 r.fall.hi, .int .i64 r.days, .slice fa fl fc, .slice la ll lc]), .int .i64 draws] w fun e w' => e = .returned (.tuple #[.int .i64 (surelyV r draws), .int .i64 (perhapsV r draws), .int .i64 (daysE r draws)]) ∧ Below w.heap.size w w' := by
 obtain ⟨EE, hEE⟩ : ∃ EE : Int, EE = (daysE r draws : Int) := ⟨_, rfl⟩; have hE2 : daysE r draws = if okR r = false then 1 else 2 := toldE_bad h
 have HR : Hid (Value.tuple #[.int .i64 (surelyV r draws), .int .i64 (perhapsV r draws), .int .i64 (daysE r draws)] = .tuple #[.int .i64 0, .int .i64 0, .int .i64 EE]) := by
  show _ = _; rw [hEE]; unfold surelyV perhapsV; rw [if_neg (by rw [hE2]; split <;> omega), if_neg (by rw [hE2]; split <;> omega)]
  rfl
 have HEE : Hid (((if okR r = false then 1 else 2 : Int)) = EE) := by show _ = _; rw [hEE, hE2]; split <;> rfl
 have HP := Lib.hid hP; have HH := Lib.hid h; have EG75 := Lib.hid (enters_of Tryz.func88 (by kernel_rfl) rfl)
 clear hP h hEE hE2; refine (callsIn_wide (n := 6)).1 (callsIn_of_wp_marks Tryz.func38 rfl trivial ?_ rfl); simp only [Tryz.ntmps38, List.size_toArray, List.length_cons, List.length_nil, Nat.reduceAdd, Nat.reduceSub, Array.replicate_succ, Array.replicate_zero, List.push_toArray, List.append_toArray, List.nil_append, List.cons_append]; refine wpIn_wide.2 ?_; have hmf := hmf0; go_upto_region 2 with (fail); obtain ⟨W, hW⟩ : ∃ W, W = (w.alloc (.cells #[.int .i64 r.depth.lo, .int .i64 r.depth.hi, .int .i64 r.fall.lo, .int .i64 r.fall.hi, .int .i64 r.days, .slice fa fl fc, .slice la ll lc] 27)).alloc (.cells #[.int .i64 0] 35) := ⟨_, rfl⟩; obtain ⟨B2, hB2⟩ : ∃ B2, B2 = w.heap.size := ⟨_, rfl⟩; obtain ⟨B5, hB5⟩ : ∃ B5, B5 = w.heap.size + 1 := ⟨_, rfl⟩; have HB0 : Hid (Below w.heap.size w W) := by rw [hW]; exact ((Below.refl _ _).alloc (Nat.le_refl _) _).alloc (by simp) _
 have HXB : Hid (Blk W B2 27 #[.int .i64 r.depth.lo, .int .i64 r.depth.hi, .int .i64 r.fall.lo, .int .i64 r.fall.hi, .int .i64 r.days, .slice fa fl fc, .slice la ll lc]) := by rw [hW, hB2]; exact (Blk.new w 27 _).alloc _
 have HX5 : Hid (Blk W B5 35 #[.int .i64 0]) := by rw [hW, hB5]; exact Blk.new_ (by simp) 35 _
 have HE : Hid (w.heap.size ≤ B5 ∧ w.heap.size ≤ W.heap.size ∧ B5 < W.heap.size) := ⟨by omega, HB0.out.size, HX5.out.lt⟩
 rw [← hW, ← hB5, ← hB2]; clear hW hB2 hB5; have q0 := HXB.out.cell 0; have q1 := HXB.out.cell 1; have q2 := HXB.out.cell 2; have q3 := HXB.out.cell 3; have q4 := HXB.out.cell 4; have q5 := HXB.out.cell 5; have q6 := HXB.out.cell 6; have ql := HXB.out.lt; simp at q0 q1 q2 q3 q4 q5 q6; go_wp2_with fail; refine (boat_err draws (HP.out.grow HB0.out) HH.out).mono ?_; rintro e w' ⟨h1, hb⟩; rw [HEE.out] at h1; subst h1; clear q0 q1 q2 q3 q4 q5 q6 ql; obtain ⟨e1, e2, _⟩ := HE.out
 refine api_panic (ds := []) (B := W.heap.size) isAns88 EG75.out (Marks.nil _ _) (HX5.out.below hb HX5.out.lt) (fun w2 hk2 hfar hbel => ?_)
 have g0 := hk2.cell 0; simp at g0; refine ⟨.tuple #[.int .i64 0, .int .i64 0, .int .i64 EE], by simp [results, Tryz.results38, go_sem, g0], by rw [HR.out], ?_⟩
 exact HB0.out.trans ((hb.mono e2).trans ((hbel w.heap.size e2 e1).mono (Nat.le_refl _)))
theorem PDays_clash (draws : Int) (hP : RvIn w w.heap.size fa fl la ll r) (hv : okR r = true) (hi : isDrB draws = true) (ht : truthsA r.nat = []) :
  Calls Tryz.prog 38 #[(.agg #[.int .i64 r.depth.lo, .int .i64 r.depth.hi, .int .i64 r.fall.lo, .int .i64 r.fall.hi, .int .i64 r.days, .slice fa fl fc, .slice la ll lc]), .int .i64 draws] w fun e w' => e = .returned (.tuple #[.int .i64 (surelyV r draws), .int .i64 (perhapsV r draws), .int .i64 (daysE r draws)]) ∧ Below w.heap.size w w' := by
 have hE2 : daysE r draws = 10 := toldE_clash hv hi ht
 have HR : Hid (Value.tuple #[.int .i64 (surelyV r draws), .int .i64 (perhapsV r draws), .int .i64 (daysE r draws)] = .tuple #[.int .i64 0, .int .i64 0, .int .i64 10]) := by
  show _ = _; unfold surelyV perhapsV; rw [if_neg (by rw [hE2]; omega), if_neg (by rw [hE2]; omega), hE2]
  rfl
 have HP := Lib.hid hP; have HV := Lib.hid hv; have HI := Lib.hid hi; have HTT := Lib.hid ht; have EG75 := Lib.hid (enters_of Tryz.func88 (by kernel_rfl) rfl)
 clear hP hv hi ht hE2; refine (callsIn_wide (n := 6)).1 (callsIn_of_wp_marks Tryz.func38 rfl trivial ?_ rfl); simp only [Tryz.ntmps38, List.size_toArray, List.length_cons, List.length_nil, Nat.reduceAdd, Nat.reduceSub, Array.replicate_succ, Array.replicate_zero, List.push_toArray, List.append_toArray, List.nil_append, List.cons_append]; refine wpIn_wide.2 ?_; have hmf := hmf0; go_upto_region 2 with (fail); obtain ⟨W, hW⟩ : ∃ W, W = (w.alloc (.cells #[.int .i64 r.depth.lo, .int .i64 r.depth.hi, .int .i64 r.fall.lo, .int .i64 r.fall.hi, .int .i64 r.days, .slice fa fl fc, .slice la ll lc] 27)).alloc (.cells #[.int .i64 0] 35) := ⟨_, rfl⟩; obtain ⟨B2, hB2⟩ : ∃ B2, B2 = w.heap.size := ⟨_, rfl⟩; obtain ⟨B5, hB5⟩ : ∃ B5, B5 = w.heap.size + 1 := ⟨_, rfl⟩; have HB0 : Hid (Below w.heap.size w W) := by rw [hW]; exact ((Below.refl _ _).alloc (Nat.le_refl _) _).alloc (by simp) _
 have HXB : Hid (Blk W B2 27 #[.int .i64 r.depth.lo, .int .i64 r.depth.hi, .int .i64 r.fall.lo, .int .i64 r.fall.hi, .int .i64 r.days, .slice fa fl fc, .slice la ll lc]) := by rw [hW, hB2]; exact (Blk.new w 27 _).alloc _
 have HX5 : Hid (Blk W B5 35 #[.int .i64 0]) := by rw [hW, hB5]; exact Blk.new_ (by simp) 35 _
 have HE : Hid (w.heap.size ≤ B5 ∧ w.heap.size ≤ W.heap.size ∧ B5 < W.heap.size) := ⟨by omega, HB0.out.size, HX5.out.lt⟩
 rw [← hW, ← hB5, ← hB2]; clear hW hB2 hB5; have q0 := HXB.out.cell 0; have q1 := HXB.out.cell 1; have q2 := HXB.out.cell 2; have q3 := HXB.out.cell 3; have q4 := HXB.out.cell 4; have q5 := HXB.out.cell 5; have q6 := HXB.out.cell 6; have ql := HXB.out.lt; simp at q0 q1 q2 q3 q4 q5 q6; go_wp2_with fail; refine (boat_clash draws (HP.out.grow HB0.out) HV.out HI.out HTT.out).mono ?_; rintro e w' ⟨rfl, hb⟩; clear q0 q1 q2 q3 q4 q5 q6 ql; obtain ⟨e1, e2, _⟩ := HE.out
 refine api_panic (ds := []) (B := W.heap.size) isAns88 EG75.out (Marks.nil _ _) (HX5.out.below hb HX5.out.lt) (fun w2 hk2 hfar hbel => ?_)
 have g0 := hk2.cell 0; simp at g0; refine ⟨.tuple #[.int .i64 0, .int .i64 0, .int .i64 10], by simp [results, Tryz.results38, go_sem, g0], by rw [HR.out], ?_⟩
 exact HB0.out.trans ((hb.mono e2).trans ((hbel w.heap.size e2 e1).mono (Nat.le_refl _)))
theorem PDays_ok (m : Nat) (hP : RvIn w w.heap.size fa fl la ll r) (hv : okR r = true) (hi : isDrB (m : Int) = true) (ht : truthsA r.nat ≠ []) :
  Calls Tryz.prog 38 #[(.agg #[.int .i64 r.depth.lo, .int .i64 r.depth.hi, .int .i64 r.fall.lo, .int .i64 r.fall.hi, .int .i64 r.days, .slice fa fl fc, .slice la ll lc]), .int .i64 m] w fun e w' => e = .returned (.tuple #[.int .i64 (surelyV r m), .int .i64 (perhapsV r m), .int .i64 (daysE r m)]) ∧ Below w.heap.size w w' := by
 have hE2 : daysE r m = 0 := toldE_fine hv hi ht
 have HR : Hid (Value.tuple #[.int .i64 (surelyV r m), .int .i64 (perhapsV r m), .int .i64 (daysE r m)] = .tuple #[.int .i64 (surelyP r.nat m), .int .i64 (perhapsP r.nat m), .int .i64 0]) := by
  show _ = _; unfold surelyV perhapsV; rw [if_pos hE2, if_pos hE2, hE2]
  rfl
 have hgd := good_of hv; have hn2 := hgd.n2; obtain ⟨N, hN⟩ : ∃ N, N = r.nat.days := ⟨_, rfl⟩
 have hNd : r.days = (N : Int) := by
  have h := inB_iff.1 (okR_parts hv).1.2.2.1; have : N = r.days.toNat := hN
  omega
 have hN10 : N ≤ 10 := by omega
 have HGD : Hid (r.nat.Good) := hgd; have HND := Lib.hid hN; have HNDD := Lib.hid hNd; have HP := Lib.hid hP; have HV := Lib.hid hv; have HI := Lib.hid hi; have HTT := Lib.hid ht; have EG75 := Lib.hid (enters_of Tryz.func88 (by kernel_rfl) rfl)
 clear hP hv hi ht hE2 hgd hn2 hN hNd; refine (callsIn_wide (n := 6)).1 (callsIn_of_wp_marks Tryz.func38 rfl trivial ?_ rfl); simp only [Tryz.ntmps38, List.size_toArray, List.length_cons, List.length_nil, Nat.reduceAdd, Nat.reduceSub, Array.replicate_succ, Array.replicate_zero, List.push_toArray, List.append_toArray, List.nil_append, List.cons_append]; refine wpIn_wide.2 ?_; have hmf := hmf0; go_upto_region 2 with (fail); obtain ⟨W, hW⟩ : ∃ W, W = (w.alloc (.cells #[.int .i64 r.depth.lo, .int .i64 r.depth.hi, .int .i64 r.fall.lo, .int .i64 r.fall.hi, .int .i64 r.days, .slice fa fl fc, .slice la ll lc] 27)).alloc (.cells #[.int .i64 0] 35) := ⟨_, rfl⟩; obtain ⟨B2, hB2⟩ : ∃ B2, B2 = w.heap.size := ⟨_, rfl⟩; obtain ⟨B5, hB5⟩ : ∃ B5, B5 = w.heap.size + 1 := ⟨_, rfl⟩; have HB0 : Hid (Below w.heap.size w W) := by rw [hW]; exact ((Below.refl _ _).alloc (Nat.le_refl _) _).alloc (by simp) _
 have HXB : Hid (Blk W B2 27 #[.int .i64 r.depth.lo, .int .i64 r.depth.hi, .int .i64 r.fall.lo, .int .i64 r.fall.hi, .int .i64 r.days, .slice fa fl fc, .slice la ll lc]) := by rw [hW, hB2]; exact (Blk.new w 27 _).alloc _
 have HX5 : Hid (Blk W B5 35 #[.int .i64 0]) := by rw [hW, hB5]; exact Blk.new_ (by simp) 35 _
 have HE : Hid (w.heap.size ≤ B5 ∧ w.heap.size ≤ W.heap.size ∧ B5 < W.heap.size) := ⟨by omega, HB0.out.size, HX5.out.lt⟩
 rw [← hW, ← hB5, ← hB2]; clear hW hB2 hB5; have q0 := HXB.out.cell 0; have q1 := HXB.out.cell 1; have q2 := HXB.out.cell 2; have q3 := HXB.out.cell 3; have q4 := HXB.out.cell 4; have q5 := HXB.out.cell 5; have q6 := HXB.out.cell 6; have ql := HXB.out.lt; simp at q0 q1 q2 q3 q4 q5 q6; go_wp2_with fail; refine (boat_ok (m : Int) (HP.out.grow HB0.out) HV.out HI.out HTT.out).mono ?_; rintro e w2 ⟨B, d, k, rfl, hBW, hD, hK, hb⟩; have HB2 : Hid (Below W.heap.size W w2) := hb; have HD2 := Lib.hid hD; have HK2 := Lib.hid hK; have hBk : B ≤ k := hD.hk; have y4 := (HXB.out.below HB2.out HXB.out.lt).cell 4; have yl := (HXB.out.below HB2.out HXB.out.lt).lt; simp at y4; rw [HNDD.out] at y4; clear hD hK hb q0 q1 q2 q3 q4 q5 q6 ql; have hw0 : IntKind.i64.wrap ((N : Int) + 1) = (N : Int) + 1 := IntWalk.i64_in _ (by omega)
 go_wp2; clear y4 yl
 obtain ⟨f, hf⟩ : ∃ f, f = fun d => bearsP r.nat m d == 2 := ⟨_, rfl⟩
 obtain ⟨g, hg⟩ : ∃ g, g = fun d => bearsP r.nat m d != 0 := ⟨_, rfl⟩
 have HFG : Hid (surelyP r.nat m = setN f (N + 1) ∧ perhapsP r.nat m = setN g (N + 1)) := ⟨by rw [surelyP, hf, HND.out], by rw [perhapsP, hg, HND.out]⟩
 have HFV : Hid (∀ n, f n = (bearsP r.nat m n == 2) ∧ g n = (bearsP r.nat m n != 0)) := fun n => ⟨by rw [hf], by rw [hg]⟩
 clear hf hg
 go_loopw [8, 9, 21] (fun a b i wr => ∃ n : Nat, n ≤ N + 1 ∧ i = .int .i64 n ∧ a = .int .i64 (setN f n : Nat) ∧ b = .int .i64 (setN g n : Nat) ∧ Hid (KeptOK wr k r.nat) ∧ Hid (Turn (fun x => x = k) w2 wr)) (fun _ _ i _ => N + 1 - (intOf i).toNat)
 case atStart => exact ⟨0, by omega, rfl, rfl, rfl, HK2, Turn.refl _ _⟩
 case round =>
  obtain ⟨n, hn, rfl, rfl, rfl, HKR, HTR⟩ := hrel
  by_cases hlt : n < N + 1
  ·have HDR : Hid (GauIn wr B d k fa fl fc la ll lc r.nat) := HD2.out.turn HTR.out (fun b e => by have e' : b = k := e; rw [e']; exact hBk) (fun e => HD2.out.kd (show d = k from e).symm)
   have hnN : n ≤ r.nat.days := by rw [← HND.out]; omega
   have hA := setN_lt f n; have hB := setN_lt g n; have h2k : 2 ^ n ≤ 1024 := Nat.pow_le_pow_right (n := 2) (by omega) (show n ≤ 10 by omega)
   have h2p : 1 ≤ 2 ^ n := Nat.two_pow_pos n; have hw2 : IntKind.i64.wrap (2 ^ n) = 2 ^ n := IntWalk.i64_in _ (by have := pow_cast n; omega)
   have HA1 : Hid (f n = true → bits BinOp.or IntKind.i64 ((setN f n : Nat) : Int) (2 ^ n) = ((setN f (n + 1) : Nat) : Int)) := fun h => by
    have h2 := or_i64 (setN f n) (2 ^ n) (by omega) (by omega)
    rw [pow_cast, setN_or h] at h2; exact h2
   have HB1 : Hid (g n = true → bits BinOp.or IntKind.i64 ((setN g n : Nat) : Int) (2 ^ n) = ((setN g (n + 1) : Nat) : Int)) := fun h => by
    have h2 := or_i64 (setN g n) (2 ^ n) (by omega) (by omega)
    rw [pow_cast, setN_or h] at h2; exact h2
   have HA0 : Hid (f n = false → setN f n = setN f (n + 1)) := fun h => (setN_no h).symm
   have HB0' : Hid (g n = false → setN g n = setN g (n + 1)) := fun h => (setN_no h).symm
   go_wp2_with fail; refine (bears_any HGD.out m n hnN wr HDR.out HKR.out).mono ?_
   obtain ⟨v, hv⟩ : ∃ v, bearsP r.nat m n = v := ⟨_, rfl⟩
   have hv3 : v = 2 ∨ v = 1 ∨ v = 0 := (by
    rw [← hv]; unfold bearsP
    split
    ·omega
    ·split <;> omega)
   have hfv := HFV.out n; rw [hv] at hfv ⊢; rintro e w3 ⟨rfl, hk3, hg3⟩; have HK3 := Lib.hid hk3
   have HT3 : Hid (Turn (fun x => x = k) w2 w3) := HTR.out.trans (Turn.of_grownK hg3)
   clear hk3 hg3 hA hB hv; rcases hv3 with rfl | rfl | rfl
   ·have ha := HA1.out (by rw [hfv.1]; rfl)
    have hb := HB1.out (by rw [hfv.2]; rfl)
    clear hfv; go_wp2; go_roundw
    case rel => exact ⟨n + 1, by omega, by go_num, rfl, rfl, HK3, HT3⟩
    case measure => simp [intOf]; omega
   ·have ha := HA0.out (by rw [hfv.1]; rfl)
    have hb := HB1.out (by rw [hfv.2]; rfl)
    clear hfv; go_wp2; go_roundw
    case rel => exact ⟨n + 1, by omega, by go_num, by rw [← ha], rfl, HK3, HT3⟩
    case measure => simp [intOf]; omega
   ·have ha := HA0.out (by rw [hfv.1]; rfl)
    have hb := HB0'.out (by rw [hfv.2]; rfl)
    clear hfv; go_wp2; go_roundw
    case rel => exact ⟨n + 1, by omega, by go_num, by rw [← ha], by rw [← hb], HK3, HT3⟩
    case measure => simp [intOf]; omega
  ·obtain rfl : n = N + 1 := by omega
   have hbX : Below W.heap.size W wr := HB2.out.trans (HTR.out.below HB2.out.size (fun b e => by have e' : b = k := e; omega))
   have HY5 : Hid (Blk wr B5 35 #[.int .i64 0]) := HX5.out.below hbX HX5.out.lt; have c2 : wr.cell? ⟨B5, 0, none⟩ = some (.int .i64 0) := HY5.out.cell 0; have f2 := HY5.out.frozen 0; have l5 := HY5.out.lt; go_wp2; obtain ⟨W9, hW9⟩ : ∃ W9, W9 = wr.setCell ⟨B5, 0, none⟩ (.int .i64 0) := ⟨_, rfl⟩; rw [← hW9]; have HT5 : Blk W9 B5 35 #[.int .i64 0] := by rw [hW9]; exact HY5.out.set_ 0 _
   obtain ⟨e1, e2, _⟩ := HE.out; have hB9 : Below w.heap.size w W9 := by rw [hW9]; exact setCell_below (HB0.out.trans (hbX.mono e2)) e1 _ _
   refine api_ret (ds := []) (B := W.heap.size) isAns88 EG75.out (Marks.nil _ _) (fun w4 hk hbel => ?_)
   have g0 := (hk _ _ _ HT5).cell 0; simp at g0; have hfg := HFG.out; rw [hfg.1, hfg.2] at HR; refine ⟨.tuple #[.int .i64 (setN f (N + 1) : Nat), .int .i64 (setN g (N + 1) : Nat), .int .i64 0], by simp [results, Tryz.results38, go_sem, g0], by rw [HR.out], ?_⟩
   exact hB9.trans (hbel w.heap.size e2)
theorem PDays_any (draws : Int) (hP : RvIn w w.heap.size fa fl la ll r) : Calls Tryz.prog 38 #[(.agg #[.int .i64 r.depth.lo, .int .i64 r.depth.hi, .int .i64 r.fall.lo, .int .i64 r.fall.hi, .int .i64 r.days, .slice fa fl fc, .slice la ll lc]), .int .i64 draws] w fun e w' => e = .returned (.tuple #[.int .i64 (surelyV r draws), .int .i64 (perhapsV r draws), .int .i64 (daysE r draws)]) ∧ Below w.heap.size w w' := by
 cases hv : okR r
 ·exact PDays_err draws hP (.inl hv)
 cases hi : isDrB draws
 ·exact PDays_err draws hP (.inr hi)
 by_cases ht : truthsA r.nat = []
 ·exact PDays_clash draws hP hv hi ht
 ·obtain ⟨m, rfl⟩ : ∃ m : Nat, draws = m := ⟨draws.toNat, by have h := hi; unfold isDrB at h; have := inB_iff.1 h; omega⟩
  exact PDays_ok m hP hv hi ht
end
end Go.Proofs.YtgmfhngcehkibaaGreat
