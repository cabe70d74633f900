import Derived.Test.YtgmfhngcehkibaaGreatPkU19
set_option maxRecDepth 100000
set_option maxHeartbeats 6400000
namespace Go.Proofs.YtgmfhngcehkibaaGreat
open Go.RowKit Go.Hav Go.Shelf Go.Sq
attribute [local go_sem] Oper.semAt_some
def inTimeE (c : ICart) (n : Int) : Nat := openE c (isWagB c n)
def inTimeV (c : ICart) (n : Int) : Nat := if inTimeE c n = 0 then (match c.wg[n.toNat]? with | some w => c.tm w | none => 0) else 0
def checkE (c : ICart) (ps : List Int) : Nat := if openE c (planB c ps) = 0 then (if (checkV c ps).2 = 0 then 4 else 0) else openE c (planB c ps)
def checkW (c : ICart) (ps : List Int) : Nat × Nat := if checkE c ps = 0 then checkV c ps else (0, 0)
section
variable {fa la wa ta : Option Addr} {fl fc ll lc wn wc tn tc : Nat} {c : ICart}
variable {w w' : World} {B : Nat}
theorem YdIn.of_open {w0 w2 : World} {d B : Nat} (hP : CtIn w0 B fa fl la ll wa wn ta tn c) (hb : Below B w0 w2) (hs : B ≤ w0.heap.size) (hd : B ≤ d) (hk : Blk w2 d 123 #[.int .i64 c.riv.depth.lo, .int .i64 c.riv.depth.hi, .int .i64 c.riv.fall.lo, .int .i64 c.riv.fall.hi, .int .i64 c.riv.days, .slice fa fl fc, .slice la ll lc, .int .i64 c.draws, .slice wa wn wc, .slice ta tn tc, .int .i64 (surelyP c.riv.nat c.draws.toNat : Nat), .int .i64 (perhapsP c.riv.nat c.draws.toNat : Nat)]) (hv : okC c = true) : YdIn w2 B d fa fl fc la ll lc wa wn wc ta tn tc c :=
 { blk := hk, hwg := hP.hwg.below hb, hlt := hP.hlt.below hb, ewn := hP.ewn, etn := hP.etn, ok := hv, hB := Nat.le_trans hs hb.size, hBd := hd }
theorem PInTime_bad (n : Int) (hP : CtIn w w.heap.size fa fl la ll wa wn ta tn c) (hE : inTimeE c n ≠ 0) : Calls Tryz.prog 16 #[(.agg #[.int .i64 c.riv.depth.lo, .int .i64 c.riv.depth.hi, .int .i64 c.riv.fall.lo, .int .i64 c.riv.fall.hi, .int .i64 c.riv.days, .slice fa fl fc, .slice la ll lc, .int .i64 c.draws, .slice wa wn wc, .slice ta tn tc]), .int .i64 n] w fun e w' => e = .returned (.tuple #[.int .i64 (inTimeV c n : Nat), .int .i64 (inTimeE c n : Nat)]) ∧ Below w.heap.size w w' := by
 obtain ⟨EE, hEE⟩ : ∃ EE : Nat, EE = inTimeE c n := ⟨_, rfl⟩; have HV : Hid (inTimeV c n = 0) := by show _ = _; unfold inTimeV; rw [if_neg hE]
 have HEE : Hid (EE = openE c (isWagB c n)) := hEE; have HNE : Hid (EE ≠ 0) := by rw [hEE]; exact hE
 have HP := Lib.hid hP; have EG50 := Lib.hid (enters_of Tryz.func50 (by kernel_rfl) rfl)
 have EG52 := Lib.hid (enters_of Tryz.func52 (by kernel_rfl) rfl)
 rw [HV.out, ← hEE]; clear hP hE hEE; refine (callsIn_wide (n := 6)).1 (callsIn_of_wp_marks Tryz.func16 rfl trivial ?_ rfl); simp only [Tryz.ntmps16, List.size_toArray, List.length_cons, List.length_nil, Nat.reduceAdd, Nat.reduceSub, Array.replicate_succ, Array.replicate_zero, List.push_toArray, List.append_toArray, List.nil_append, List.cons_append]; refine wpIn_wide.2 ?_; have hmf := hmf0; go_upto_region 2 with (fail); obtain ⟨W, hW⟩ : ∃ W, W = ((w.alloc (.cells #[.int .i64 c.riv.depth.lo, .int .i64 c.riv.depth.hi, .int .i64 c.riv.fall.lo, .int .i64 c.riv.fall.hi, .int .i64 c.riv.days, .slice fa fl fc, .slice la ll lc, .int .i64 c.draws, .slice wa wn wc, .slice ta tn tc] 31)).alloc (.cells #[.int .i64 n] 3)).alloc (.cells #[.int .i64 0] 35) := ⟨_, rfl⟩; obtain ⟨B2, hB2⟩ : ∃ B2, B2 = w.heap.size := ⟨_, rfl⟩; obtain ⟨B3, hB3⟩ : ∃ B3, B3 = w.heap.size + 1 := ⟨_, rfl⟩; obtain ⟨B5, hB5⟩ : ∃ B5, B5 = w.heap.size + 1 + 1 := ⟨_, rfl⟩; have HB0 : Hid (Below w.heap.size w W) := by rw [hW]; exact (((Below.refl _ _).alloc (Nat.le_refl _) _).alloc (by simp) _).alloc (by simp; omega) _
 have HXB : Hid (Blk W B2 31 #[.int .i64 c.riv.depth.lo, .int .i64 c.riv.depth.hi, .int .i64 c.riv.fall.lo, .int .i64 c.riv.fall.hi, .int .i64 c.riv.days, .slice fa fl fc, .slice la ll lc, .int .i64 c.draws, .slice wa wn wc, .slice ta tn tc]) := by rw [hW, hB2]; exact ((Blk.new w 31 _).alloc _).alloc _
 have HX3 : Hid (Blk W B3 3 #[.int .i64 n]) := by rw [hW, hB3]; exact (Blk.new_ (by simp) 3 _).alloc _
 have HX5 : Hid (Blk W B5 35 #[.int .i64 0]) := by rw [hW, hB5]; exact Blk.new_ (by simp) 35 _
 have HE : Hid (w.heap.size ≤ B5 ∧ w.heap.size ≤ W.heap.size ∧ B5 < W.heap.size) := ⟨by omega, HB0.out.size, HX5.out.lt⟩
 rw [← hW, ← hB5, ← hB3, ← hB2]; clear hW hB2 hB3 hB5
 refine HavG.wp_region_stg (fun wv => Below W.heap.size W wv) [(0,false),(1,false),(3,false),(2,true),(4,true)] [5, 6] (fun ch wp => ch = [refC EE] ∧ Below W.heap.size W wp) (by kernel_rfl) (by kernel_rfl) ?hQ (Below.drew (Below.refl _ _)) ?_
 case hQ =>
  rintro ch a' w' hA ⟨rfl, hb⟩; show LeavesInM Fence.wide 6 Tryz.prog Tryz.f16 a'.tmps _ a'.defers (.panicking [refC _]) w'; rw [hA.1]; obtain ⟨e1, e2, e3⟩ := HE.out
  refine api_panicC (ds := []) (B := W.heap.size) isAnsC50 EG50.out (Marks.nil _ _) (HX5.out.below hb HX5.out.lt) (fun w2 hk2 hfar hbel => ?_)
  have g0 := hk2.cell 0; have s4 := hA.slot 4 (by kernel_rfl)
  have s5 := hA.slot 5 (by kernel_rfl)
  simp at s4 s5 g0; refine ⟨.tuple #[.int .i64 (0 : Nat), .int .i64 EE], by simp [results, Tryz.results16, go_sem, s4, s5, g0], rfl, ?_⟩
  exact HB0.out.trans ((hb.mono e2).trans ((hbel w.heap.size e2 e1).mono (Nat.le_refl _)))
 (apply HavG.stg_same (by exact ho rfl) (by kernel_rfl); (focus (intro wv hI; have hx := HXB.out.below hI HXB.out.lt; have q0 := hx.cell 0; have q1 := hx.cell 1; have q2 := hx.cell 2; have q3 := hx.cell 3; have q4 := hx.cell 4; have q5 := hx.cell 5; have q6 := hx.cell 6; have q7 := hx.cell 7; have q8 := hx.cell 8; have q9 := hx.cell 9; have ql := hx.lt; (try go_simp); try rfl; done)); simp only [Act.put, qA9, qB9, qC9])
 (apply HavG.stg_same (by exact ho rfl) (by kernel_rfl); (focus (intro wv hI; skip; (try go_simp); try rfl; done)); simp only [Act.put, qA9, qB9, qC9])
 (apply HavG.stg_same (by exact ho rfl) (by kernel_rfl); (focus (intro wv hI; have hx := HX3.out.below hI HX3.out.lt; have q0 := hx.cell 0; have ql := hx.lt; (try go_simp); try rfl; done)); simp only [Act.put, qA9, qB9, qC9])
 (apply HavG.stg_call (by exact ho rfl) (by kernel_rfl); (focus (go_simp; try exact ⟨rfl, rfl⟩; done)))
 refine (copen_any (fc := fc) (lc := lc) (wc := wc) (tc := tc) (b := isWagB c n) 52 #[.pointer (some ⟨B2, 0, none⟩), .pointer (some ⟨B3, 0, none⟩)] EG52.out (by exact fun hv => isQ52 HP.out.ewn HXB.out.drew HX3.out.drew hv) (by exact HP.out.grow (Below.drew HB0.out))).mono ?_
 rintro e w1 ⟨hb, (⟨h1, rfl⟩ | ⟨h1, _⟩)⟩
 ·rw [← HEE.out]; exact .inr ⟨_, rfl, rfl, (Below.drew (Below.refl _ _)).trans hb⟩
 ·exact absurd (HEE.out.trans h1) HNE.out
theorem PInTime_ok (n : Int) (hP : CtIn w w.heap.size fa fl la ll wa wn ta tn c) (hE : inTimeE c n = 0) : Calls Tryz.prog 16 #[(.agg #[.int .i64 c.riv.depth.lo, .int .i64 c.riv.depth.hi, .int .i64 c.riv.fall.lo, .int .i64 c.riv.fall.hi, .int .i64 c.riv.days, .slice fa fl fc, .slice la ll lc, .int .i64 c.draws, .slice wa wn wc, .slice ta tn tc]), .int .i64 n] w fun e w' => e = .returned (.tuple #[.int .i64 (inTimeV c n : Nat), .int .i64 (inTimeE c n : Nat)]) ∧ Below w.heap.size w w' := by
 obtain ⟨hv, hi, ht⟩ := openE_zero hE; obtain ⟨k, hk⟩ : ∃ k : Nat, n = k := ⟨n.toNat, by have := inB_iff.1 hi; omega⟩
 obtain ⟨wg, hw⟩ : ∃ wg, c.wg[k]? = some wg := ⟨c.wg[k]'(by have := inB_iff.1 hi; omega), by simp⟩
 obtain ⟨T, hT⟩ : ∃ T : Nat, T = c.tm wg := ⟨_, rfl⟩; have HV : Hid (inTimeV c n = T) := by show _ = _; unfold inTimeV; rw [if_pos hE, hk, Int.toNat_natCast, hw, hT]
 have HEE := Lib.hid hE; have HTT := Lib.hid hT; have HW := Lib.hid hw; have HOK := Lib.hid hv; have HKN := Lib.hid hk; have HP := Lib.hid hP; have EG50 := Lib.hid (enters_of Tryz.func50 (by kernel_rfl) rfl)
 have EG52 := Lib.hid (enters_of Tryz.func52 (by kernel_rfl) rfl)
 rw [HV.out, hE]; clear hP hE hv hi ht hw hT hk; refine (callsIn_wide (n := 6)).1 (callsIn_of_wp_marks Tryz.func16 rfl trivial ?_ rfl); simp only [Tryz.ntmps16, List.size_toArray, List.length_cons, List.length_nil, Nat.reduceAdd, Nat.reduceSub, Array.replicate_succ, Array.replicate_zero, List.push_toArray, List.append_toArray, List.nil_append, List.cons_append]; refine wpIn_wide.2 ?_; have hmf := hmf0; go_upto_region 2 with (fail); obtain ⟨W, hW⟩ : ∃ W, W = ((w.alloc (.cells #[.int .i64 c.riv.depth.lo, .int .i64 c.riv.depth.hi, .int .i64 c.riv.fall.lo, .int .i64 c.riv.fall.hi, .int .i64 c.riv.days, .slice fa fl fc, .slice la ll lc, .int .i64 c.draws, .slice wa wn wc, .slice ta tn tc] 31)).alloc (.cells #[.int .i64 n] 3)).alloc (.cells #[.int .i64 0] 35) := ⟨_, rfl⟩; obtain ⟨B2, hB2⟩ : ∃ B2, B2 = w.heap.size := ⟨_, rfl⟩; obtain ⟨B3, hB3⟩ : ∃ B3, B3 = w.heap.size + 1 := ⟨_, rfl⟩; obtain ⟨B5, hB5⟩ : ∃ B5, B5 = w.heap.size + 1 + 1 := ⟨_, rfl⟩; have HB0 : Hid (Below w.heap.size w W) := by rw [hW]; exact (((Below.refl _ _).alloc (Nat.le_refl _) _).alloc (by simp) _).alloc (by simp; omega) _
 have HXB : Hid (Blk W B2 31 #[.int .i64 c.riv.depth.lo, .int .i64 c.riv.depth.hi, .int .i64 c.riv.fall.lo, .int .i64 c.riv.fall.hi, .int .i64 c.riv.days, .slice fa fl fc, .slice la ll lc, .int .i64 c.draws, .slice wa wn wc, .slice ta tn tc]) := by rw [hW, hB2]; exact ((Blk.new w 31 _).alloc _).alloc _
 have HX3 : Hid (Blk W B3 3 #[.int .i64 n]) := by rw [hW, hB3]; exact (Blk.new_ (by simp) 3 _).alloc _
 have HX5 : Hid (Blk W B5 35 #[.int .i64 0]) := by rw [hW, hB5]; exact Blk.new_ (by simp) 35 _
 have HE : Hid (w.heap.size ≤ B5 ∧ w.heap.size ≤ W.heap.size ∧ B5 < W.heap.size) := ⟨by omega, HB0.out.size, HX5.out.lt⟩
 rw [← hW, ← hB5, ← hB3, ← hB2]; clear hW hB2 hB3 hB5
 refine HavG.wp_region_stg (fun wv => Below W.heap.size W wv) [(0,false),(1,false),(3,false),(2,true),(4,true)] [5, 6] (fun _ _ => False) (by kernel_rfl) (by kernel_rfl) (fun _ _ _ _ h => h.elim) (Below.drew (Below.refl _ _)) ?_
 (apply HavG.stg_same (by exact ho rfl) (by kernel_rfl); (focus (intro wv hI; have hx := HXB.out.below hI HXB.out.lt; have q0 := hx.cell 0; have q1 := hx.cell 1; have q2 := hx.cell 2; have q3 := hx.cell 3; have q4 := hx.cell 4; have q5 := hx.cell 5; have q6 := hx.cell 6; have q7 := hx.cell 7; have q8 := hx.cell 8; have q9 := hx.cell 9; have ql := hx.lt; (try go_simp); try rfl; done)); simp only [Act.put, qA9, qB9, qC9])
 (apply HavG.stg_same (by exact ho rfl) (by kernel_rfl); (focus (intro wv hI; skip; (try go_simp); try rfl; done)); simp only [Act.put, qA9, qB9, qC9])
 (apply HavG.stg_same (by exact ho rfl) (by kernel_rfl); (focus (intro wv hI; have hx := HX3.out.below hI HX3.out.lt; have q0 := hx.cell 0; have ql := hx.lt; (try go_simp); try rfl; done)); simp only [Act.put, qA9, qB9, qC9])
 (apply HavG.stg_call (by exact ho rfl) (by kernel_rfl); (focus (go_simp; try exact ⟨rfl, rfl⟩; done)))
 refine (copen_any (fc := fc) (lc := lc) (wc := wc) (tc := tc) (b := isWagB c n) 52 #[.pointer (some ⟨B2, 0, none⟩), .pointer (some ⟨B3, 0, none⟩)] EG52.out (by exact fun hv => isQ52 HP.out.ewn HXB.out.drew HX3.out.drew hv) (by exact HP.out.grow (Below.drew HB0.out))).mono ?_
 rintro e w1 ⟨hb, (⟨h1, _⟩ | ⟨h1, d, rfl, hd, hk⟩)⟩
 ·exact absurd HEE.out h1
 have hb1 : Below W.heap.size W w1 := (Below.drew (Below.refl _ _)).trans hb; have hyd := YdIn.of_open (w2 := w1) (HP.out.grow HB0.out) hb1 (Nat.le_refl _) hd hk HOK.out; refine .inl ⟨_, rfl, hb1, ?_⟩; simp only [Act.put, qA9, qB9, qC9]; (apply HavG.stg_call (by exact ho rfl) (by kernel_rfl); (focus (go_simp; try exact ⟨rfl, rfl⟩; done)))
 rw [HKN.out]; refine (inTime_any (fa := fa) (fl := fl) (fc := fc) (la := la) (ll := ll) (lc := lc) (wa := wa) (wn := wn) (wc := wc) (ta := ta) (tn := tn) (tc := tc) k wg HW.out hyd).mono ?_; rw [← HTT.out]; rintro e w3 ⟨rfl, hb2⟩; have hb3 : Below W.heap.size W w3 := hb1.trans (hb2.mono hb1.size); refine .inl ⟨_, rfl, hb3, ?_⟩; simp only [Act.put, qA9, qB9, qC9]; simp only [HavG.wpStg, List.filterMap]; have HB3 := Lib.hid hb3; have HY5 : Hid (Blk w3 B5 35 #[.int .i64 0]) := HX5.out.below hb3 HX5.out.lt; have c2 : w3.cell? ⟨B5, 0, none⟩ = some (.int .i64 0) := HY5.out.cell 0; have f2 := HY5.out.frozen 0; have l5 := HY5.out.lt; clear hb hk hd hb1 hb2 hb3 hyd; go_wp2; obtain ⟨W9, hW9⟩ : ∃ W9, W9 = w3.setCell ⟨B5, 0, none⟩ (.int .i64 0) := ⟨_, rfl⟩; rw [← hW9]; have HT5 : Blk W9 B5 35 #[.int .i64 0] := by rw [hW9]; exact HY5.out.set_ 0 _
 obtain ⟨e1, e2, _⟩ := HE.out; have hB9 : Below w.heap.size w W9 := by rw [hW9]; exact (HB0.out.trans (HB3.out.mono e2)).setCell (p := ⟨B5, 0, none⟩) e1 _
 refine api_retC (ds := []) (B := W.heap.size) isAnsC50 EG50.out (Marks.nil _ _) (fun w4 hk hbel => ?_)
 have g0 := (hk _ _ _ HT5).cell 0; simp at g0; refine ⟨.tuple #[.int .i64 T, .int .i64 0], by simp [results, Tryz.results16, go_sem, g0], rfl, ?_⟩
 exact hB9.trans (hbel w.heap.size e2)
theorem PInTime_any (n : Int) (hP : CtIn w w.heap.size fa fl la ll wa wn ta tn c) : Calls Tryz.prog 16 #[(.agg #[.int .i64 c.riv.depth.lo, .int .i64 c.riv.depth.hi, .int .i64 c.riv.fall.lo, .int .i64 c.riv.fall.hi, .int .i64 c.riv.days, .slice fa fl fc, .slice la ll lc, .int .i64 c.draws, .slice wa wn wc, .slice ta tn tc]), .int .i64 n] w fun e w' => e = .returned (.tuple #[.int .i64 (inTimeV c n : Nat), .int .i64 (inTimeE c n : Nat)]) ∧ Below w.heap.size w w' := by
 by_cases h : inTimeE c n = 0
 ·exact PInTime_ok n hP h
 ·exact PInTime_bad n hP h
end
section
variable {fa la wa ta : Option Addr} {fl fc ll lc wn wc tn tc : Nat} {c : ICart}
variable {w w' : World} {pa : Option Addr} {pn pc : Nat} {ps : List Int}
structure PlIn (w : World) (B : Nat) (pa : Option Addr) (pn : Nat) (ps : List Int) : Prop where
 len : ps.length = pn
 row : RdG inI 1 w B pa ps
 max : pn ≤ 9223372036854775807
theorem PlIn.grow (h : PlIn w w.heap.size pa pn ps) (hb : Below w.heap.size w w') : PlIn w' w'.heap.size pa pn ps := { h with row := h.row.grow hb }
theorem PCheck_bad (hP : CtIn w w.heap.size fa fl la ll wa wn ta tn c) (hL : PlIn w w.heap.size pa pn ps) (hE : openE c (planB c ps) ≠ 0) : Calls Tryz.prog 18 #[(.agg #[.int .i64 c.riv.depth.lo, .int .i64 c.riv.depth.hi, .int .i64 c.riv.fall.lo, .int .i64 c.riv.fall.hi, .int .i64 c.riv.days, .slice fa fl fc, .slice la ll lc, .int .i64 c.draws, .slice wa wn wc, .slice ta tn tc]), .slice pa pn pc] w fun e w' => e = .returned (.tuple #[.int .i64 ((checkW c ps).1 : Nat), .int .i64 ((checkW c ps).2 : Nat), .int .i64 (checkE c ps : Nat)]) ∧ Below w.heap.size w w' := by
 obtain ⟨EE, hEE⟩ : ∃ EE : Nat, EE = openE c (planB c ps) := ⟨_, rfl⟩; have h1 : checkE c ps = EE := by unfold checkE; rw [if_neg hE, hEE]
 have HV : Hid (checkW c ps = (0, 0)) := by show _ = _; unfold checkW; rw [if_neg (by rw [h1, hEE]; exact hE)]
 have HEE : Hid (EE = openE c (planB c ps)) := hEE; have HNE : Hid (EE ≠ 0) := by rw [hEE]; exact hE
 have HP := Lib.hid hP; have HPL := Lib.hid hL; have EG56 := Lib.hid (enters_of Tryz.func56 (by kernel_rfl) rfl)
 have EG57 := Lib.hid (enters_of Tryz.func57 (by kernel_rfl) rfl)
 rw [HV.out, h1]; clear hP hL hE hEE h1; refine (callsIn_wide (n := 6)).1 (callsIn_of_wp_marks Tryz.func18 rfl trivial ?_ rfl); simp only [Tryz.ntmps18, List.size_toArray, List.length_cons, List.length_nil, Nat.reduceAdd, Nat.reduceSub, Array.replicate_succ, Array.replicate_zero, List.push_toArray, List.append_toArray, List.nil_append, List.cons_append]; refine wpIn_wide.2 ?_; have hmf := hmf0; go_upto_region 2 with (fail); obtain ⟨W, hW⟩ : ∃ W, W = ((w.alloc (.cells #[.int .i64 c.riv.depth.lo, .int .i64 c.riv.depth.hi, .int .i64 c.riv.fall.lo, .int .i64 c.riv.fall.hi, .int .i64 c.riv.days, .slice fa fl fc, .slice la ll lc, .int .i64 c.draws, .slice wa wn wc, .slice ta tn tc] 31)).alloc (.cells #[.slice pa pn pc] 32)).alloc (.cells #[.int .i64 0] 35) := ⟨_, rfl⟩; obtain ⟨B2, hB2⟩ : ∃ B2, B2 = w.heap.size := ⟨_, rfl⟩; obtain ⟨B3, hB3⟩ : ∃ B3, B3 = w.heap.size + 1 := ⟨_, rfl⟩; obtain ⟨B5, hB5⟩ : ∃ B5, B5 = w.heap.size + 1 + 1 := ⟨_, rfl⟩; have HB0 : Hid (Below w.heap.size w W) := by rw [hW]; exact (((Below.refl _ _).alloc (Nat.le_refl _) _).alloc (by simp) _).alloc (by simp; omega) _
 have HXB : Hid (Blk W B2 31 #[.int .i64 c.riv.depth.lo, .int .i64 c.riv.depth.hi, .int .i64 c.riv.fall.lo, .int .i64 c.riv.fall.hi, .int .i64 c.riv.days, .slice fa fl fc, .slice la ll lc, .int .i64 c.draws, .slice wa wn wc, .slice ta tn tc]) := by rw [hW, hB2]; exact ((Blk.new w 31 _).alloc _).alloc _
 have HX3 : Hid (Blk W B3 32 #[.slice pa pn pc]) := by rw [hW, hB3]; exact (Blk.new_ (by simp) 32 _).alloc _
 have HX5 : Hid (Blk W B5 35 #[.int .i64 0]) := by rw [hW, hB5]; exact Blk.new_ (by simp) 35 _
 have HE : Hid (w.heap.size ≤ B5 ∧ w.heap.size ≤ W.heap.size ∧ B5 < W.heap.size) := ⟨by omega, HB0.out.size, HX5.out.lt⟩
 rw [← hW, ← hB5, ← hB3, ← hB2]; clear hW hB2 hB3 hB5
 refine HavG.wp_region_stg (fun wv => Below W.heap.size W wv) [(0,false),(1,false),(3,false),(2,true),(4,true),(5,false),(6,false),(7,false),(8,false)] [9] (fun ch wp => ch = [refC EE] ∧ Below W.heap.size W wp) (by kernel_rfl) (by kernel_rfl) ?hQ (Below.drew (Below.refl _ _)) ?_
 case hQ =>
  rintro ch a' w' hA ⟨rfl, hb⟩; show LeavesInM Fence.wide 6 Tryz.prog Tryz.f18 a'.tmps _ a'.defers (.panicking [refC _]) w'; rw [hA.1]; obtain ⟨e1, e2, e3⟩ := HE.out
  refine api_panicC (ds := []) (B := W.heap.size) isAnsC56 EG56.out (Marks.nil _ _) (HX5.out.below hb HX5.out.lt) (fun w2 hk2 hfar hbel => ?_)
  have g0 := hk2.cell 0; have s4 := hA.slot 4 (by kernel_rfl)
  have s5 := hA.slot 5 (by kernel_rfl)
  have s6 := hA.slot 6 (by kernel_rfl)
  simp at s4 s5 s6 g0; refine ⟨.tuple #[.int .i64 (0 : Nat), .int .i64 (0 : Nat), .int .i64 EE], by simp [results, Tryz.results18, go_sem, s4, s5, s6, g0], rfl, ?_⟩
  exact HB0.out.trans ((hb.mono e2).trans ((hbel w.heap.size e2 e1).mono (Nat.le_refl _)))
 (apply HavG.stg_same (by exact ho rfl) (by kernel_rfl); (focus (intro wv hI; have hx := HXB.out.below hI HXB.out.lt; have q0 := hx.cell 0; have q1 := hx.cell 1; have q2 := hx.cell 2; have q3 := hx.cell 3; have q4 := hx.cell 4; have q5 := hx.cell 5; have q6 := hx.cell 6; have q7 := hx.cell 7; have q8 := hx.cell 8; have q9 := hx.cell 9; have ql := hx.lt; (try go_simp); try rfl; done)); simp only [Act.put, qA9, qB9, qC9])
 (apply HavG.stg_same (by exact ho rfl) (by kernel_rfl); (focus (intro wv hI; skip; (try go_simp); try rfl; done)); simp only [Act.put, qA9, qB9, qC9])
 (apply HavG.stg_same (by exact ho rfl) (by kernel_rfl); (focus (intro wv hI; have hx := HX3.out.below hI HX3.out.lt; have q0 := hx.cell 0; have ql := hx.lt; (try go_simp); try rfl; done)); simp only [Act.put, qA9, qB9, qC9])
 (apply HavG.stg_call (by exact ho rfl) (by kernel_rfl); (focus (go_simp; try exact ⟨rfl, rfl⟩; done)))
 refine (copen_any (fc := fc) (lc := lc) (wc := wc) (tc := tc) (b := planB c ps) 57 #[.pointer (some ⟨B2, 0, none⟩), .pointer (some ⟨B3, 0, none⟩)] EG57.out (by exact fun hv => isQ57 (B := W.heap.size) (w := W.drew) HPL.out.len ((HPL.out.grow HB0.out).row.below (Below.drew (Below.refl _ _))) (Nat.le_refl _) HP.out.ewn HP.out.etn HPL.out.max HXB.out.drew HX3.out.drew hv) (by exact HP.out.grow (Below.drew HB0.out))).mono ?_
 rintro e w1 ⟨hb, (⟨h1, rfl⟩ | ⟨h1, _⟩)⟩
 ·rw [← HEE.out]; exact .inr ⟨_, rfl, rfl, (Below.drew (Below.refl _ _)).trans hb⟩
 ·exact absurd (HEE.out.trans h1) HNE.out
theorem PCheck_ok (hP : CtIn w w.heap.size fa fl la ll wa wn ta tn c) (hL : PlIn w w.heap.size pa pn ps) (hE : openE c (planB c ps) = 0) : Calls Tryz.prog 18 #[(.agg #[.int .i64 c.riv.depth.lo, .int .i64 c.riv.depth.hi, .int .i64 c.riv.fall.lo, .int .i64 c.riv.fall.hi, .int .i64 c.riv.days, .slice fa fl fc, .slice la ll lc, .int .i64 c.draws, .slice wa wn wc, .slice ta tn tc]), .slice pa pn pc] w fun e w' => e = .returned (.tuple #[.int .i64 ((checkW c ps).1 : Nat), .int .i64 ((checkW c ps).2 : Nat), .int .i64 (checkE c ps : Nat)]) ∧ Below w.heap.size w w' := by
 obtain ⟨hv, hi, ht⟩ := openE_zero hE; obtain ⟨X, hX⟩ : ∃ X, X = checkV c ps := ⟨_, rfl⟩
 obtain ⟨r1, r2, ee, hR, hR2⟩ : ∃ r1 r2 ee : Nat, ((checkW c ps).1 = r1 ∧ (checkW c ps).2 = r2 ∧ checkE c ps = ee) ∧ (X.2 = 0 → r1 = 0 ∧ r2 = 0 ∧ ee = 4) ∧ (X.2 ≠ 0 → r1 = X.1 ∧ r2 = X.2 ∧ ee = 0) := by
  have h1 : checkE c ps = (if X.2 = 0 then 4 else 0) := by unfold checkE; rw [if_pos hE, hX]
  refine ⟨_, _, _, ⟨rfl, rfl, rfl⟩, fun h => ?_, fun h => ?_⟩
  ·rw [if_pos h] at h1; unfold checkW; rw [h1, if_neg (by decide)]
   exact ⟨rfl, rfl, rfl⟩
  ·rw [if_neg h] at h1; unfold checkW; rw [h1, if_pos rfl, hX]; exact ⟨rfl, rfl, rfl⟩
 have HRX := Lib.hid hR2; have HEE := Lib.hid hE; have HXX := Lib.hid hX; have HOK := Lib.hid (And.intro hv hi); have HP := Lib.hid hP; have HPL := Lib.hid hL; have EG56 := Lib.hid (enters_of Tryz.func56 (by kernel_rfl) rfl)
 have EG57 := Lib.hid (enters_of Tryz.func57 (by kernel_rfl) rfl)
 rw [hR.1, hR.2.1, hR.2.2]; clear hP hL hE hv hi ht hX hR hR2; refine (callsIn_wide (n := 6)).1 (callsIn_of_wp_marks Tryz.func18 rfl trivial ?_ rfl); simp only [Tryz.ntmps18, List.size_toArray, List.length_cons, List.length_nil, Nat.reduceAdd, Nat.reduceSub, Array.replicate_succ, Array.replicate_zero, List.push_toArray, List.append_toArray, List.nil_append, List.cons_append]; refine wpIn_wide.2 ?_; have hmf := hmf0; go_upto_region 2 with (fail); obtain ⟨W, hW⟩ : ∃ W, W = ((w.alloc (.cells #[.int .i64 c.riv.depth.lo, .int .i64 c.riv.depth.hi, .int .i64 c.riv.fall.lo, .int .i64 c.riv.fall.hi, .int .i64 c.riv.days, .slice fa fl fc, .slice la ll lc, .int .i64 c.draws, .slice wa wn wc, .slice ta tn tc] 31)).alloc (.cells #[.slice pa pn pc] 32)).alloc (.cells #[.int .i64 0] 35) := ⟨_, rfl⟩; obtain ⟨B2, hB2⟩ : ∃ B2, B2 = w.heap.size := ⟨_, rfl⟩; obtain ⟨B3, hB3⟩ : ∃ B3, B3 = w.heap.size + 1 := ⟨_, rfl⟩; obtain ⟨B5, hB5⟩ : ∃ B5, B5 = w.heap.size + 1 + 1 := ⟨_, rfl⟩; have HB0 : Hid (Below w.heap.size w W) := by rw [hW]; exact (((Below.refl _ _).alloc (Nat.le_refl _) _).alloc (by simp) _).alloc (by simp; omega) _
 have HXB : Hid (Blk W B2 31 #[.int .i64 c.riv.depth.lo, .int .i64 c.riv.depth.hi, .int .i64 c.riv.fall.lo, .int .i64 c.riv.fall.hi, .int .i64 c.riv.days, .slice fa fl fc, .slice la ll lc, .int .i64 c.draws, .slice wa wn wc, .slice ta tn tc]) := by rw [hW, hB2]; exact ((Blk.new w 31 _).alloc _).alloc _
 have HX3 : Hid (Blk W B3 32 #[.slice pa pn pc]) := by rw [hW, hB3]; exact (Blk.new_ (by simp) 32 _).alloc _
 have HX5 : Hid (Blk W B5 35 #[.int .i64 0]) := by rw [hW, hB5]; exact Blk.new_ (by simp) 35 _
 have HE : Hid (w.heap.size ≤ B5 ∧ w.heap.size ≤ W.heap.size ∧ B5 < W.heap.size) := ⟨by omega, HB0.out.size, HX5.out.lt⟩
 rw [← hW, ← hB5, ← hB3, ← hB2]; clear hW hB2 hB3 hB5
 refine HavG.wp_region_stg (fun wv => Below W.heap.size W wv) [(0,false),(1,false),(3,false),(2,true),(4,true),(5,false),(6,false),(7,false),(8,false)] [9] (fun _ _ => False) (by kernel_rfl) (by kernel_rfl) (fun _ _ _ _ h => h.elim) (Below.drew (Below.refl _ _)) ?_
 (apply HavG.stg_same (by exact ho rfl) (by kernel_rfl); (focus (intro wv hI; have hx := HXB.out.below hI HXB.out.lt; have q0 := hx.cell 0; have q1 := hx.cell 1; have q2 := hx.cell 2; have q3 := hx.cell 3; have q4 := hx.cell 4; have q5 := hx.cell 5; have q6 := hx.cell 6; have q7 := hx.cell 7; have q8 := hx.cell 8; have q9 := hx.cell 9; have ql := hx.lt; (try go_simp); try rfl; done)); simp only [Act.put, qA9, qB9, qC9])
 (apply HavG.stg_same (by exact ho rfl) (by kernel_rfl); (focus (intro wv hI; skip; (try go_simp); try rfl; done)); simp only [Act.put, qA9, qB9, qC9])
 (apply HavG.stg_same (by exact ho rfl) (by kernel_rfl); (focus (intro wv hI; have hx := HX3.out.below hI HX3.out.lt; have q0 := hx.cell 0; have ql := hx.lt; (try go_simp); try rfl; done)); simp only [Act.put, qA9, qB9, qC9])
 (apply HavG.stg_call (by exact ho rfl) (by kernel_rfl); (focus (go_simp; try exact ⟨rfl, rfl⟩; done)))
 refine (copen_any (fc := fc) (lc := lc) (wc := wc) (tc := tc) (b := planB c ps) 57 #[.pointer (some ⟨B2, 0, none⟩), .pointer (some ⟨B3, 0, none⟩)] EG57.out (by exact fun hv => isQ57 (B := W.heap.size) (w := W.drew) HPL.out.len ((HPL.out.grow HB0.out).row.below (Below.drew (Below.refl _ _))) (Nat.le_refl _) HP.out.ewn HP.out.etn HPL.out.max HXB.out.drew HX3.out.drew hv) (by exact HP.out.grow (Below.drew HB0.out))).mono ?_
 rintro e w1 ⟨hb, (⟨h1, _⟩ | ⟨h1, d, rfl, hd, hk⟩)⟩
 ·exact absurd HEE.out h1
 have hb1 : Below W.heap.size W w1 := (Below.drew (Below.refl _ _)).trans hb; have hyd := YdIn.of_open (w2 := w1) (HP.out.grow HB0.out) hb1 (Nat.le_refl _) hd hk HOK.out.1; refine .inl ⟨_, rfl, hb1, ?_⟩; simp only [Act.put, qA9, qB9, qC9]; (apply HavG.stg_call (by exact ho rfl) (by kernel_rfl); (focus (go_simp; try exact ⟨rfl, rfl⟩; done)))
 refine (ccheck_any (fa := fa) (fl := fl) (fc := fc) (la := la) (ll := ll) (lc := lc) (wa := wa) (wn := wn) (wc := wc) (ta := ta) (tn := tn) (tc := tc) (pc := pc) HOK.out.2 HPL.out.len ((HPL.out.grow HB0.out).row.below hb1) hyd).mono ?_; rw [← HXX.out]; rintro e w3 ⟨rfl, hb2⟩; have hb3 : Below W.heap.size W w3 := hb1.trans (hb2.mono hb1.size); refine .inl ⟨_, rfl, hb3, ?_⟩; simp only [Act.put, qA9, qB9, qC9]; iterate 4 (apply HavG.stg_same (by exact ho rfl) (by kernel_rfl); (focus (intro wv hI; skip; (try go_simp); try rfl; done)); simp only [Act.put, qA9, qB9, qC9])
 simp only [HavG.wpStg, List.filterMap]; have HB3 := Lib.hid hb3; have HY5 : Hid (Blk w3 B5 35 #[.int .i64 0]) := HX5.out.below hb3 HX5.out.lt; have c2 : w3.cell? ⟨B5, 0, none⟩ = some (.int .i64 0) := HY5.out.cell 0; have f2 := HY5.out.frozen 0; have l5 := HY5.out.lt; obtain ⟨xl, xr⟩ := X; clear hb hk hd hb1 hb2 hb3 hyd
 by_cases hx : xr = 0
 ·obtain ⟨rfl, rfl, rfl⟩ := HRX.out.1 hx; subst hx; go_wp2_with fail; refine (cmust_any false 4 _).mono ?_; rintro e wz ⟨qq, rfl⟩; obtain rfl : e = .panicked [refC 4] := qq; clear c2 f2 l5; go_wp2; obtain ⟨e1, e2, e3⟩ := HE.out
  refine api_panicC (ds := []) (B := W.heap.size) isAnsC56 EG56.out (Marks.nil _ _) HY5.out (fun w2 hk2 hfar hbel => ?_)
  have g0 := hk2.cell 0; simp at g0; refine ⟨.tuple #[.int .i64 (0 : Nat), .int .i64 (0 : Nat), .int .i64 (4 : Nat)], by simp [results, Tryz.results18, go_sem, g0], rfl, ?_⟩
  exact HB0.out.trans ((HB3.out.mono e2).trans ((hbel w.heap.size e2 e1).mono (Nat.le_refl _)))
 ·obtain ⟨rfl, rfl, rfl⟩ := HRX.out.2 hx; have hbq : ((r2 : Int) != 0) = true := by simp; exact hx
  go_wp2_with fail; refine (cmust_any true 4 _).mono ?_
  rintro e wz ⟨qq, rfl⟩; obtain rfl : e = .returned (.tuple #[]) := qq; go_wp2; obtain ⟨W9, hW9⟩ : ∃ W9, W9 = wz.setCell ⟨B5, 0, none⟩ (.int .i64 0) := ⟨_, rfl⟩; rw [← hW9]; have HT5 : Blk W9 B5 35 #[.int .i64 0] := by rw [hW9]; exact HY5.out.set_ 0 _
  obtain ⟨e1, e2, _⟩ := HE.out; have hB9 : Below w.heap.size w W9 := by rw [hW9]; exact (HB0.out.trans (HB3.out.mono e2)).setCell (p := ⟨B5, 0, none⟩) e1 _
  refine api_retC (ds := []) (B := W.heap.size) isAnsC56 EG56.out (Marks.nil _ _) (fun w4 hk hbel => ?_)
  have g0 := (hk _ _ _ HT5).cell 0; simp at g0; refine ⟨.tuple #[.int .i64 r1, .int .i64 r2, .int .i64 (0 : Nat)], by simp [results, Tryz.results18, go_sem, g0], rfl, ?_⟩
  exact hB9.trans (hbel w.heap.size e2)
theorem PCheck_any (hP : CtIn w w.heap.size fa fl la ll wa wn ta tn c) (hL : PlIn w w.heap.size pa pn ps) : Calls Tryz.prog 18 #[(.agg #[.int .i64 c.riv.depth.lo, .int .i64 c.riv.depth.hi, .int .i64 c.riv.fall.lo, .int .i64 c.riv.fall.hi, .int .i64 c.riv.days, .slice fa fl fc, .slice la ll lc, .int .i64 c.draws, .slice wa wn wc, .slice ta tn tc]), .slice pa pn pc] w fun e w' => e = .returned (.tuple #[.int .i64 ((checkW c ps).1 : Nat), .int .i64 ((checkW c ps).2 : Nat), .int .i64 (checkE c ps : Nat)]) ∧ Below w.heap.size w w' := by
 by_cases h : openE c (planB c ps) = 0
 ·exact PCheck_ok hP hL h
 ·exact PCheck_bad hP hL h
end
end Go.Proofs.YtgmfhngcehkibaaGreat
namespace Go.Proofs.YtgmfhngcehkibaaGreat
def usedN (lt : List ILot) (ps : List Int) (w : Int) : Nat → Int
 | 0 => 0
 | n + 1 => usedN lt ps w n + (if ps[n]? = some w then (match lt[n]? with | some l => l.bales | none => 0) else 0)
section
variable (tm : IWag → Nat) (ws : List IWag) (lt : List ILot)
def ruleR (ps : List Int) (i : Nat) : Nat := match lt[i]?, ps[i]? with
 | some l, some p => if p < 0 then 0 else match ws[p.toNat]? with
  | some g => if l.from_ > g.leaves then 1 else if usedN lt ps p (i + 1) > g.room then 2 else if tm g ≠ 2 then 3 else 0
  | none => 0
 | _, _ => 0
def roomB (ps : List Int) (n : Nat) : Rm := fun i => roomP ws i - usedN lt ps i n
theorem roomB_zero (ps : List Int) : roomB ws lt ps 0 = roomP ws := by
 funext i
 show roomP ws i - 0 = _
 omega
variable {tm ws lt}
theorem roomB_neg {ps : List Int} {n : Nat} {p : Int} (hp : ps[n]? = some p) (h : p < 0) : roomB ws lt ps (n + 1) = roomB ws lt ps n := by
 funext i
 show roomP ws i - (usedN lt ps i n + _) = roomP ws i - usedN lt ps i n; rw [hp, if_neg (by intro e; have := Option.some.inj e; omega)]
 omega
theorem roomB_on {ps : List Int} {n w : Nat} {l : ILot} (hl : lt[n]? = some l) (hp : ps[n]? = some (w : Int)) : roomB ws lt ps (n + 1) = takeR (roomB ws lt ps n) w l.bales := by
 funext i
 unfold takeR; show roomP ws i - (usedN lt ps i n + _) = _; rw [hp, hl]
 by_cases h : i = w
 ·subst h; rw [if_pos rfl, if_pos rfl]; show roomP ws i - (usedN lt ps i n + l.bales) = roomP ws i - usedN lt ps i n - l.bales
  omega
 ·rw [if_neg (by intro e; have := Option.some.inj e; omega), if_neg h]
  show roomP ws i - (usedN lt ps i n + 0) = roomP ws i - usedN lt ps i n
  omega
theorem ruleR_neg {ps : List Int} {n : Nat} {p : Int} (hp : ps[n]? = some p) (h : p < 0) : ruleR tm ws lt ps n = 0 := by
 unfold ruleR; rw [hp]
 split
 ·rename_i l q _ e; cases e; rw [if_pos h]
 ·rfl
theorem ruleR_on {ps : List Int} {n w : Nat} {l : ILot} {g : IWag} (hl : lt[n]? = some l) (hp : ps[n]? = some (w : Int)) (hw : ws[w]? = some g) : ruleR tm ws lt ps n = brokenW (tm g) l g (roomB ws lt ps n w) := by
 unfold ruleR brokenW; rw [hl, hp]; simp only; rw [if_neg (by omega), Int.toNat_natCast, hw]
 simp only
 have hr : roomB ws lt ps n w = g.room - usedN lt ps w n := by
  show roomP ws w - _ = _; unfold roomP; rw [hw]
 have hu : usedN lt ps w (n + 1) = usedN lt ps w n + l.bales := by
  show usedN lt ps w n + _ = _; rw [hp, if_pos rfl, hl]
 rw [hr, hu]
 by_cases a : l.from_ > g.leaves
 ·rw [if_pos a, if_pos a]
 ·rw [if_neg a, if_neg a]
  by_cases b : usedN lt ps w n + l.bales > g.room
  ·rw [if_pos b, if_pos (show l.bales > g.room - usedN lt ps w n by omega)]
  ·rw [if_neg b, if_neg (show ¬ l.bales > g.room - usedN lt ps w n by omega)]
theorem usedN_append (ps q : List Int) (w : Int) : ∀ n, n ≤ ps.length → usedN lt (ps ++ q) w n = usedN lt ps w n
 | 0, _ => rfl
 | n + 1, h => by
  show usedN lt (ps ++ q) w n + _ = usedN lt ps w n + _; rw [usedN_append ps q w n (by omega), List.getElem?_append_left (by omega)]
theorem roomB_append {ps : List Int} (q : List Int) {n : Nat} (h : n ≤ ps.length) : roomB ws lt (ps ++ q) n = roomB ws lt ps n := by
 funext i
 show _ - _ = _ - _; rw [usedN_append ps q _ n h]
variable (tm ws lt)
def onAll (b : List Int) : Nat → List (List Int)
 | 0 => (plansL tm ws (lt.drop (b.length + 1)) (roomB ws lt b b.length)).map ((b ++ [-1]) ++ ·)
 | n + 1 => onAll b n ++ (if ruleR tm ws lt (b ++ [(n : Int)]) b.length = 0 then (plansL tm ws (lt.drop (b.length + 1)) (roomB ws lt (b ++ [(n : Int)]) (b.length + 1))).map ((b ++ [(n : Int)]) ++ ·) else [])
variable {tm ws lt}
theorem onAll_all {b : List Int} (hb : b.length < lt.length) : onAll tm ws lt b ws.length = (plansL tm ws (lt.drop b.length) (roomB ws lt b b.length)).map (b ++ ·) := by
 have e1 : lt[b.length]? = some lt[b.length] := List.getElem?_eq_getElem hb; rw [List.drop_eq_getElem_cons hb, plansL]
 have key : ∀ n, n ≤ ws.length → onAll tm ws lt b n = (List.map (-1 :: ·) (plansL tm ws (lt.drop (b.length + 1)) (roomB ws lt b b.length)) ++ plansN tm ws (plansL tm ws (lt.drop (b.length + 1))) lt[b.length] (roomB ws lt b b.length) n).map (b ++ ·) := by
  intro n
  induction n with
  | zero => intro _; rw [onAll, plansN, List.append_nil, List.map_map]; congr 1; funext x; simp
  | succ n ih =>
   intro hn; obtain ⟨g, hg⟩ : ∃ g, ws[n]? = some g := ⟨_, List.getElem?_eq_getElem (by omega)⟩
   have e2 : (b ++ [(n : Int)])[b.length]? = some (n : Int) := by simp
   have hr := ruleR_on (tm := tm) e1 e2 hg; rw [roomB_append [(n : Int)] (Nat.le_refl _)] at hr; have ht := roomB_on (ws := ws) e1 e2; rw [roomB_append [(n : Int)] (Nat.le_refl _)] at ht; rw [onAll, ih (by omega), plansN, fitsW_some tm ws hg, ← List.append_assoc, List.map_append (l₁ := _ ++ _), hr, ht]
   congr 1
   by_cases a : brokenW (tm g) lt[b.length] g (roomB ws lt b b.length n) = 0
   ·rw [if_pos a, if_pos (by simpa using a), List.map_map]; congr 1; funext x; simp
   ·rw [if_neg a, if_neg (by simpa using a)]; rfl
 exact key ws.length (Nat.le_refl _)
end
section
variable {tm : IWag → Nat} {ws : List IWag}
theorem plansN_mem {on : Rm → List (List Int)} {l : ILot} {R : Rm} {q : List Int} : ∀ {n : Nat}, q ∈ plansN tm ws on l R n ↔ ∃ i, i < n ∧ fitsW tm ws l i R = true ∧ ∃ r ∈ on (takeR R i l.bales), q = (i : Int) :: r
 | 0 => by simp [plansN]
 | n + 1 => by
  rw [plansN, List.mem_append, plansN_mem (n := n)]; constructor
  ·rintro (⟨i, h1, h2⟩ | h)
   ·exact ⟨i, by omega, h2⟩
   ·split at h
    ·rename_i hf
     obtain ⟨r, hr, rfl⟩ := List.mem_map.1 h; exact ⟨n, by omega, hf, r, hr, rfl⟩
    ·cases h
  ·rintro ⟨i, h1, hf, r, hr, rfl⟩
   by_cases e : i = n
   ·subst e; exact .inr (by rw [if_pos hf]; exact List.mem_map.2 ⟨r, hr, rfl⟩)
   ·exact .inl ⟨i, by omega, hf, r, hr, rfl⟩
theorem fitsW_lt {l : ILot} {i : Nat} {R : Rm} (h : fitsW tm ws l i R = true) : i < ws.length := by
 obtain ⟨w, hw, _⟩ := fitsW_is tm ws h; exact (List.getElem?_eq_some_iff.1 hw).1
theorem plansL_mem : ∀ {ls : List ILot} {R : Rm} {q : List Int}, q ∈ plansL tm ws ls R ↔ rightL tm ws ls q R
 | [], R, q => by simp [plansL, rightL]
 | l :: ls, R, q => by
  rw [plansL, List.mem_append, plansN_mem]; unfold rightL; constructor
  ·rintro (h | ⟨i, h1, hf, r, hr, rfl⟩)
   ·obtain ⟨r, hr, rfl⟩ := List.mem_map.1 h; exact ⟨-1, r, rfl, .inl ⟨rfl, plansL_mem.1 hr⟩⟩
   ·exact ⟨i, r, rfl, .inr ⟨i, rfl, hf, plansL_mem.1 hr⟩⟩
  ·rintro ⟨p, r, rfl, ⟨rfl, hr⟩ | ⟨i, rfl, hf, hr⟩⟩
   ·exact .inl (List.mem_map.2 ⟨r, plansL_mem.2 hr, rfl⟩)
   ·exact .inr ⟨i, fitsW_lt hf, hf, r, plansL_mem.2 hr, rfl⟩
end
section
variable {tm : IWag → Nat} {ws : List IWag}
theorem rightL_len : ∀ {ls : List ILot} {q : List Int} {R : Rm}, rightL tm ws ls q R → q.length = ls.length
 | [], _, _, h => by unfold rightL at h; rw [h]; rfl
 | l :: ls, q, R, h => by
  obtain ⟨p, r, rfl, ⟨-, hr⟩ | ⟨i, -, -, hr⟩⟩ := h
  ·simp [rightL_len hr]
  ·simp [rightL_len hr]
theorem rightL_ok : ∀ {ls : List ILot} {q : List Int} {R : Rm}, rightL tm ws ls q R → ∀ p ∈ q, p = -1 ∨ (0 ≤ p ∧ p < ws.length)
 | [], _, _, h => by unfold rightL at h; rw [h]; simp
 | l :: ls, q, R, h => by
  obtain ⟨p, r, rfl, h⟩ := h; intro p' hp'; rcases h with ⟨rfl, hr⟩ | ⟨i, rfl, hf, hr⟩
  ·rcases List.mem_cons.1 hp' with rfl | hp'
   ·exact .inl rfl
   ·exact rightL_ok hr p' hp'
  ·rcases List.mem_cons.1 hp' with rfl | hp'
   ·have := fitsW_lt hf; exact .inr ⟨by omega, by omega⟩
   ·exact rightL_ok hr p' hp'
theorem brokenW_zero {t : Nat} {l : ILot} {g : IWag} {r : Int} : brokenW t l g r = 0 ↔ l.from_ ≤ g.leaves ∧ l.bales ≤ r ∧ t = 2 := by
 unfold brokenW
 split
 ·exact ⟨fun h => by omega, fun h => by omega⟩
 ·split
  ·exact ⟨fun h => by omega, fun h => by omega⟩
  ·split
   ·exact ⟨fun h => by omega, fun h => by omega⟩
   ·exact ⟨fun _ => by omega, fun _ => rfl⟩
theorem fitsW_iff {l : ILot} {i : Nat} {R : Rm} : fitsW tm ws l i R = true ↔ ∃ g, ws[i]? = some g ∧ l.from_ ≤ g.leaves ∧ l.bales ≤ R i ∧ tm g = 2 := by
 constructor
 ·intro h; obtain ⟨g, hg, hb⟩ := fitsW_is tm ws h; exact ⟨g, hg, brokenW_zero.1 hb⟩
 ·rintro ⟨g, hg, hb⟩; rw [fitsW_some tm ws hg, brokenW_zero.2 hb]
  rfl
theorem fits_mono {l : ILot} {i : Nat} {R R' : Rm} (h : fitsW tm ws l i R = true) (hr : R i ≤ R' i) : fitsW tm ws l i R' = true := by
 obtain ⟨g, hg, h1, h2, h3⟩ := fitsW_iff.1 h; exact fitsW_iff.2 ⟨g, hg, h1, by omega, h3⟩
theorem sent_fits : ∀ {ls : List ILot} {q : List Int} {R : Rm} {i : Nat} {l : ILot} {p : Int}, (∀ l ∈ ls, 0 ≤ l.bales) → rightL tm ws ls q R → ls[i]? = some l → q[i]? = some p → 0 ≤ p → fitsW tm ws l p.toNat R = true
 | [], _, _, _, _, _, _, _, h, _, _ => by simp at h
 | m :: ls, q, R, i, l, p, hb, h, hl, hq, hp => by
  obtain ⟨p0, r, rfl, h⟩ := h
  cases i with
  | zero =>
   simp at hl hq; subst hl hq; rcases h with ⟨e, -⟩ | ⟨j, rfl, hf, -⟩
   ·omega
   ·simpa using hf
  | succ i =>
   simp only [List.getElem?_cons_succ] at hl hq
   have hb' : ∀ l ∈ ls, 0 ≤ l.bales := fun l h => hb l (List.mem_cons_of_mem _ h)
   rcases h with ⟨-, hr⟩ | ⟨j, -, -, hr⟩
   ·exact sent_fits hb' hr hl hq hp
   ·refine fits_mono (sent_fits hb' hr hl hq hp) ?_; unfold takeR; have := hb m List.mem_cons_self
    split <;> omega
theorem right_none : ∀ (ls : List ILot) (R : Rm), rightL tm ws ls (List.replicate ls.length (-1)) R
 | [], _ => rfl
 | _ :: ls, R => ⟨-1, List.replicate ls.length (-1), rfl, .inl ⟨rfl, right_none ls R⟩⟩
theorem right_alone : ∀ {ls : List ILot} {R : Rm} {i k : Nat} {l : ILot}, ls[i]? = some l → (rightL tm ws ls ((List.replicate ls.length (-1)).set i (k : Int)) R ↔ fitsW tm ws l k R = true)
 | [], _, _, _, _, h => by simp at h
 | m :: ls, R, i, k, l, h => by
  rw [List.length_cons, List.replicate_succ]
  cases i with
  | zero =>
   simp at h; subst h; rw [List.set_cons_zero]; unfold rightL; constructor
   ·rintro ⟨p, q, e, ⟨e2, -⟩ | ⟨j, e2, hf, -⟩⟩
    ·cases e; omega
    ·cases e; obtain rfl : k = j := by omega
     exact hf
   ·intro hf; exact ⟨k, _, rfl, .inr ⟨k, rfl, hf, right_none ls _⟩⟩
  | succ i =>
   simp only [List.getElem?_cons_succ] at h; rw [List.set_cons_succ]; unfold rightL; constructor
   ·rintro ⟨p, q, e, ⟨e2, hr⟩ | ⟨j, e2, hf, -⟩⟩
    ·cases e; exact (right_alone h).1 hr
    ·cases e; omega
   ·intro hf; exact ⟨-1, _, rfl, .inl ⟨rfl, (right_alone h).2 hf⟩⟩
theorem alone_at {ls : List ILot} {i k : Nat} (hi : i < ls.length) : ((List.replicate ls.length (-1)).set i (k : Int))[i]? = some (k : Int) := by
 rw [List.getElem?_set_self (by simpa using hi)]
theorem sent_iff {ls : List ILot} {R : Rm} (hb : ∀ l ∈ ls, 0 ≤ l.bales) {i : Nat} {l : ILot} (hl : ls[i]? = some l) :
  (∃ q ∈ plansL tm ws ls R, ∃ p, q[i]? = some p ∧ 0 ≤ p) ↔ ∃ k, fitsW tm ws l k R = true := by
 constructor
 ·rintro ⟨q, hq, p, hp, h0⟩; exact ⟨_, sent_fits hb (plansL_mem.1 hq) hl hp h0⟩
 ·rintro ⟨k, hf⟩; exact ⟨_, plansL_mem.2 ((right_alone hl).2 hf), k, alone_at (List.getElem?_eq_some_iff.1 hl).1, by omega⟩
end
end Go.Proofs.YtgmfhngcehkibaaGreat
namespace Go.Proofs.YtgmfhngcehkibaaGreat
open Go.RowKit Go.Hav Go.Shelf Go.Sq
attribute [local go_sem] Oper.semAt_some
theorem used_bd {lt : List ILot} {ps : List Int} {w : Int} (hl : ∀ l ∈ lt, lotB l = true) : ∀ n, 0 ≤ usedN lt ps w n ∧ usedN lt ps w n ≤ 20 * n
 | 0 => ⟨by show (0 : Int) ≤ 0; omega, by show (0 : Int) ≤ 20 * ((0 : Nat) : Int); omega⟩
 | n + 1 => by
  have ih := used_bd (ps := ps) (w := w) hl n; show 0 ≤ usedN lt ps w n + _ ∧ usedN lt ps w n + _ ≤ 20 * ((n + 1 : Nat) : Int)
  split
  ·split
   ·rename_i l h
    have := lotB_iff.1 (hl l (List.mem_of_getElem? h))
    omega
   ·omega
  ·omega
section
variable {fa la wa ta : Option Addr} {fl fc ll lc wn wc tn tc : Nat} {c : ICart}
variable {w : World}
theorem rrule_any {At Al : Option Addr} {ct cl pn : Nat} {ps : List Int} (hok : okC c = true) (hp : ∀ p ∈ ps, p = -1 ∨ (0 ≤ p ∧ p < c.wg.length)) (k : Nat) (hk : k < ps.length) (hkt : k < tn) (hpn : ps.length = pn) (w : World) (hP : CtIn w w.heap.size fa fl la ll wa wn ta tn c) (hT : RdG inI 1 w w.heap.size At (timesL c)) (hL : RdG inI 1 w w.heap.size Al ps) :
  Calls Tryz.prog 63 #[(.agg #[.int .i64 c.riv.depth.lo, .int .i64 c.riv.depth.hi, .int .i64 c.riv.fall.lo, .int .i64 c.riv.fall.hi, .int .i64 c.riv.days, .slice fa fl fc, .slice la ll lc, .int .i64 c.draws, .slice wa wn wc, .slice ta tn tc]), .slice At wn ct, .slice Al pn cl, .int .i64 k] w fun e w' => e = .returned (.int .i64 (ruleR c.tm c.wg c.lt ps k : Nat)) ∧ Below w.heap.size w w' := by
 have HP := Lib.hid hP; have HTR := Lib.hid hT; have HL := Lib.hid hL; have HOK := Lib.hid hok; have ht5 : tn ≤ 5 := by have := (okC_parts hok).2.2.2.1; rw [hP.etn] at this; exact this
 have HUB : Hid (∀ p n, 0 ≤ usedN c.lt ps p n ∧ usedN c.lt ps p n ≤ 20 * n) := fun p n => used_bd (okC_parts hok).2.2.2.2.2 n
 obtain ⟨p, hpk⟩ : ∃ p, ps[k]? = some p := ⟨ps[k], by simp⟩
 have hpp := hp p (List.mem_of_getElem? hpk); have HPK := Lib.hid hpk; obtain ⟨bp, op, hAl, hbp, P0⟩ := rd_in hL k p hpk; subst hAl; have hkn : k < pn := by omega
 have HPN := Lib.hid hpn; obtain ⟨rr, hrr⟩ : ∃ rr, ruleR c.tm c.wg c.lt ps k = rr := ⟨_, rfl⟩; rw [hrr]; have HRR := Lib.hid hrr; obtain ⟨W, hW⟩ : ∃ W, W = w.alloc (.cells #[.int .i64 c.riv.depth.lo, .int .i64 c.riv.depth.hi, .int .i64 c.riv.fall.lo, .int .i64 c.riv.fall.hi, .int .i64 c.riv.days, .slice fa fl fc, .slice la ll lc, .int .i64 c.draws, .slice wa wn wc, .slice ta tn tc] 31) := ⟨_, rfl⟩; obtain ⟨b1, hb1⟩ : ∃ b, b = w.heap.size := ⟨_, rfl⟩; have HK : Hid (Blk W b1 31 #[.int .i64 c.riv.depth.lo, .int .i64 c.riv.depth.hi, .int .i64 c.riv.fall.lo, .int .i64 c.riv.fall.hi, .int .i64 c.riv.days, .slice fa fl fc, .slice la ll lc, .int .i64 c.draws, .slice wa wn wc, .slice ta tn tc]) := by rw [hW, hb1]; exact Blk.new w 31 _
 have HB0 : Hid (Below w.heap.size w W) := by rw [hW]; exact (Below.refl _ _).alloc (Nat.le_refl _) _
 have HPW := Lib.hid (HP.out.grow HB0.out); have HLW := Lib.hid (HL.out.grow HB0.out); have HTW := Lib.hid (HTR.out.grow HB0.out); have P1 : W.cell? ⟨bp, op + k, none⟩ = some (.int .i64 p) := (HB0.out.cell (p := ⟨bp, op + k, none⟩) hbp).trans P0; have hbW : bp < W.heap.size := by have := HB0.out.size; omega
 clear hP hT hL hok hp hpk P0 hrr hpn; have hx := HK.out; obtain ⟨q0, q1, q2, q3, q4, q5, q6, q7, q8, q9, ql⟩ := cx31 hx; clear hx
 go_enter Tryz.func63, Tryz.ntmps63
 go_upto_region 1 with (fail); rw [← hW, ← hb1]; clear hW hb1; rcases hpp with rfl | ⟨hp0, hpw⟩
 ·have HZ : Hid (rr = 0) := by show _ = _; rw [← HRR.out]; exact ruleR_neg HPK.out (by omega)
  go_wp2; go_ret
  exact ⟨by rw [HZ.out]; rfl, HB0.out⟩
 obtain ⟨i, rfl⟩ : ∃ i : Nat, p = i := ⟨p.toNat, by omega⟩
 obtain ⟨g, hg⟩ : ∃ g, c.wg[i]? = some g := ⟨c.wg[i]'(by omega), by simp⟩
 obtain ⟨l, hl⟩ : ∃ l, c.lt[k]? = some l := ⟨c.lt[k]'(by have := HP.out.etn; omega), by simp⟩
 have HRV : Hid (rr = if l.from_ > g.leaves then 1 else if usedN c.lt ps i (k + 1) > g.room then 2 else if c.tm g ≠ 2 then 3 else 0) := by
  show _ = _; rw [← HRR.out]; unfold ruleR; rw [hl, HPK.out]; simp only; rw [if_neg (by omega), Int.toNat_natCast, hg]
 have hiw : i < wn := by have := HP.out.ewn; omega
 obtain ⟨bg, og, hwa, hbg, G0, G1, G2, G3⟩ := rd_wg HPW.out.hwg i g hg; obtain ⟨bl, ol, hta, hbl, L0, L1, L2, L3, L4⟩ := rd_lt HPW.out.hlt k l hl; obtain ⟨bt, ot, hAt, hbt, T0⟩ := rd_in HTW.out i (c.tm g : Nat) (by unfold timesL; rw [List.getElem?_map, hg]; rfl)
 subst hwa hta hAt; have HG := Lib.hid hg; obtain ⟨g0, ⟨g1, g2⟩, g3⟩ := g; obtain ⟨l0, l1, l2, l3, l4⟩ := l; simp only at G0 G1 G2 G3 L0 L1 L2 L3 L4 HRV; obtain ⟨tm, htm⟩ : ∃ t, c.tm ⟨g0, ⟨g1, g2⟩, g3⟩ = t := ⟨_, rfl⟩; rw [htm] at HRV T0; have hn0 : ¬ ((i : Int) < 0) := by omega
 have hkt' : (k : Int) < tn := by omega
 have hiw' : (i : Int) < wn := by omega
 clear hg hl htm; go_upto_region 4 with (fail)
 refine wp_region_havoc [(0,false),(1,false),(2,false),(3,false),(4,false),(5,false),(6,false),(7,false),(8,false),(9,false),(10,false),(11,false),(12,false)] [] (fun _ _ => False) (by kernel_rfl) (by kernel_rfl) (fun _ _ _ _ h => h.elim) ?_
 (apply hav_same (by exact ho rfl) (by kernel_rfl); (focus (intro wv hgv _; have hcv := cvB hgv; (try go_simp); try rfl; done)); simp only [Act.put, qA9, qB9, qC9])
 iterate 12 (apply hav_same (by exact ho rfl) (by kernel_rfl); (focus (intro wv hgv _; have hcv := cvB hgv; (try go_simp); try rfl; done)); simp only [Act.put, qA9, qB9, qC9])
 refine hav_end (fun w1 hgz _ => ?_)
 simp only [List.filterMap]; have hb1 : Below W.heap.size W w1 := hgz; have HB1 : Hid (Below w.heap.size w w1) := HB0.out.trans (hb1.mono HB0.out.size); have HK1 := Lib.hid (HK.out.below hb1 HK.out.lt); have G3' : w1.cell? ⟨bg, og + i * 4 + 3, none⟩ = some (.int .i64 g3) := (hb1.cell (p := ⟨bg, _, none⟩) hbg).trans G3; have T0' : w1.cell? ⟨bt, ot + i, none⟩ = some (.int .i64 (tm : Nat)) := (hb1.cell (p := ⟨bt, _, none⟩) hbt).trans T0; have hbg1 : bg < w1.heap.size := by have := hb1.size; omega
 have hbt1 : bt < w1.heap.size := by have := hb1.size; omega
 clear hgz hb1 G0 G1 G2 G3 L0 L1 L2 L3 L4 T0 P1 hbl hbg hbt; clear q0 q1 q2 q3 q4 q5 q6 q7 q8 q9 ql
 by_cases h1 : l0 > g0
 ·rw [if_pos h1] at HRV; have h1' : g0 < l0 := h1; clear h1; go_wp2; go_ret
  exact ⟨by rw [HRV.out]; rfl, HB1.out⟩
 rw [if_neg h1] at HRV; have h1' : ¬ (g0 < l0) := h1; clear h1; go_wp2
 go_loopw [10, 11] (fun s j wr => ∃ n : Nat, n ≤ k + 1 ∧ j = .int .i64 n ∧ s = .int .i64 (usedN c.lt ps i n) ∧ Hid (Below w.heap.size w wr) ∧ wr = w1) (fun _ j _ => k + 1 - (intOf j).toNat)
 case atStart => exact ⟨0, by omega, rfl, rfl, HB1, rfl⟩
 case round =>
  obtain ⟨n, hn, rfl, rfl, HBR, rfl⟩ := hrel; obtain ⟨u, hu⟩ : ∃ u, usedN c.lt ps i n = u := ⟨_, rfl⟩; have HU := Lib.hid hu; have hub := HUB.out i n; rw [hu] at hub ⊢; clear hu; have hx := HK1.out; obtain ⟨q0, q1, q2, q3, q4, q5, q6, q7, q8, q9, ql⟩ := cx31 hx; clear hx
  by_cases hle : n ≤ k
  ·have hle' : (n : Int) ≤ k := by omega
   obtain ⟨x, hxn⟩ : ∃ x, ps[n]? = some x := ⟨ps[n]'(by omega), by simp⟩
   obtain ⟨m, hm⟩ : ∃ m, c.lt[n]? = some m := ⟨c.lt[n]'(by have := HP.out.etn; omega), by simp⟩
   obtain ⟨bq, oq, hq1, hbq, Q0⟩ := rd_in (HL.out.grow HB1.out) n x hxn; obtain ⟨rfl, rfl⟩ : bp = bq ∧ op = oq := by simpa using hq1
   obtain ⟨bm, om, hm1, hbm, M0, M1, M2, M3, M4⟩ := rd_lt (HP.out.grow HB1.out).hlt n m hm; obtain ⟨rfl, rfl⟩ : bl = bm ∧ ol = om := by simpa using hm1
   have hmb := lotB_iff.1 ((okC_parts HOK.out).2.2.2.2.2 m (List.mem_of_getElem? hm)); have hnp : (n : Int) < pn := by omega
   have hnt : (n : Int) < tn := by omega
   have HUN : Hid (usedN c.lt ps i (n + 1) = if x = i then u + m.bales else u) := by
    show usedN c.lt ps i n + _ = _; rw [hxn, hm, HU.out]
    by_cases e : x = i
    ·rw [if_pos (by rw [e]), if_pos e]
    ·rw [if_neg (by intro h; exact e (Option.some.inj h)), if_neg e, Int.add_zero]
   have hw2 : IntKind.i64.wrap (u + m.bales) = u + m.bales := IntWalk.i64_in _ (by omega)
   obtain ⟨m0, m1, m2, m3, m4⟩ := m; simp only at M0 M1 M2 M3 M4 HUN hw2; clear hxn hm hq1 hm1 hmb M0 M2 M3 M4
   by_cases e : x = i
   ·subst e; rw [if_pos rfl] at HUN; go_wp2; go_roundw
    case rel => exact ⟨n + 1, by omega, by go_num, by rw [HUN.out], HBR, trivial⟩
    case measure => simp [intOf]; omega
   ·rw [if_neg e] at HUN; have e' : (x == (i : Int)) = false := by simp; exact e
    clear e hw2; go_wp2; go_roundw
    case rel => exact ⟨n + 1, by omega, by go_num, by rw [HUN.out], HBR, trivial⟩
    case measure => simp [intOf]; omega
  ·obtain rfl : n = k + 1 := by omega
   have hle' : ¬ (((k + 1 : Nat) : Int) ≤ k) := by omega
   rw [HU.out] at HRV
   by_cases h2 : u > g3
   ·rw [if_pos h2] at HRV; have h2' : g3 < u := h2; clear h2; go_wp2; go_ret
    exact ⟨by rw [HRV.out]; rfl, HBR.out⟩
   ·rw [if_neg h2] at HRV; have h2' : ¬ (g3 < u) := h2; clear h2
    by_cases h3 : tm = 2
    ·subst h3; rw [if_neg (by simp)] at HRV
     go_wp2; go_ret
     exact ⟨by rw [HRV.out]; rfl, HBR.out⟩
    ·rw [if_pos h3] at HRV; have h3' : ((tm : Int) == 2) = false := by simp; omega
     have h3'' : ((tm : Int) != 2) = true := by simp; omega
     clear h3; go_wp2; go_ret
     exact ⟨by rw [HRV.out]; rfl, HBR.out⟩
end
end Go.Proofs.YtgmfhngcehkibaaGreat
namespace Go.HavG
open Go.RowKit
section
variable {R : Rel} {P : Program} {ops : Array Oper}
theorem wp_region_tabY {Q : Exit → Act → World → Prop} (Φ : Nat → (Nat → Value) → World → Prop) (Ψ : Nat → World → Prop) (J : List Nat → Act → World → Prop) (Old : Nat → Nat → Prop) (nw : List Nat) (sl : List (Option Nat)) {id : Nat} {a : Act} {w : World} (hm : P.follows .mixedOrders = true) (hok : tabSOk ops sl = true)
  (hsz : (sl.all fun d => match d with | some d => decide (d < a.tmps.size) | none => true) = true) (h0 : ∀ i, i < sl.length → Ψ i { w with drawn := w.drawn + 1 }) (hJ : J (List.range sl.length) a { w with drawn := w.drawn + 1 }) (hold : ∀ i b, Old i b → b < w.heap.size) (hdis : ∀ i j b, i ≠ j → Old i b → ¬ Old j b) (hG : ∀ {u u' : World}, R.G u u' → u.heap.size ≤ u'.heap.size)
  (hcg : ∀ i, i < sl.length → ∀ V V' w, Φ i V w → (∀ j, j = i ∨ ((Region.before ops).getD i 0).testBit j = true → V j = V' j) → Φ i V' w)
  (hnw : ∀ i ∈ nw, ∀ V w, Φ i V w → bkV (V i) < w.heap.size)
  (hstep : ∀ i, i < sl.length → ∀ o a' w', ops[i]? = some o → Agree ops (List.range sl.length) a a' → R.G w w' → (∀ j, ((Region.before ops).getD i 0).testBit j = true → j < sl.length → Φ j (valV sl (slot a')) w') → Ψ i w' → (∀ d, ((List.range sl.length).all fun k => !(sl[k]? == some (some d)) || ((Region.before ops).getD k 0).testBit i) = true → slot a' d = slot a d) → ∀ rem : List Nat, i ∈ rem → rem.Nodup → J rem a' w' →
   stepOf P ops o a' w' (fun a'' w'' => ∃ v, a'' = a'.put o.dst v ∧ (R.G w' w'' ∧ J (rem.erase i) (a'.put o.dst v) w'') ∧ (∀ k V, k < sl.length → k ≠ i → ((Region.before ops).getD k 0).testBit i = false → Φ k V w' → Φ k V w'') ∧ (∀ k, k < sl.length → k ≠ i → ((Region.before ops).getD i 0).testBit k = false → Ψ k w' → Ψ k w'') ∧ (∀ V, (∀ j, j ≠ i → V j = valV sl (slot a') j) → (o.dst ≠ none → V i = v) → Φ i V w'') ∧ (i ∈ nw → o.dst ≠ none ∧ (w'.heap.size ≤ bkV v ∨ Old i (bkV v)))) Q)
  (hend : ∀ (f : Nat → Value) w', R.G w w' → J [] (puts f (sl.filterMap fun d => d) a) w' → (∀ i, i < sl.length → Φ i (valV sl f) w') → (∀ i j, i ∈ nw → j ∈ nw → i ≠ j → i < sl.length → j < sl.length → bkV (valV sl f i) ≠ bkV (valV sl f j)) → wpList P ops Q [] (puts f (sl.filterMap fun d => d) a) w') : (Code.region id ops true).wp P Q a w := by
 simp only [tabSOk, Bool.and_eq_true] at hok; obtain ⟨k1, k2, k3⟩ := hok
 have hdst : ∀ i o, i < sl.length → ops[i]? = some o → sl[i]? = some o.dst := fun i o hi ho => by
  have := List.all_eq_true.1 k2 i (List.mem_range.2 hi); rw [ho] at this
  simpa using this
 have hinj : ∀ i k d, i < sl.length → k < sl.length → sl[i]? = some (some d) → sl[k]? = some (some d) → i = k := fun i k d hi hk h1 h2 => by
  have := List.all_eq_true.1 (List.all_eq_true.1 k3 i (List.mem_range.2 hi)) k (List.mem_range.2 hk); rw [h1, h2] at this
  simpa using this
 refine wp_region_gen (P := P) (fun rem a' w' => R.G w w' ∧ a'.tmps.size = a.tmps.size ∧ (∀ i ∈ rem, i < sl.length) ∧ (∀ k, k < sl.length → k ∉ rem → ∀ i ∈ rem, ((Region.before ops).getD k 0).testBit i = false) ∧ (∀ i, i < sl.length → i ∉ rem → Φ i (valV sl (slot a')) w') ∧ (∀ i ∈ rem, Ψ i w') ∧ (∀ d, (∀ k, k < sl.length → sl[k]? = some (some d) → k ∈ rem) → slot a' d = slot a d) ∧ J rem a' w' ∧ (∀ i ∈ nw, i < sl.length → i ∉ rem → w.heap.size ≤ bkV (valV sl (slot a') i) ∨ Old i (bkV (valV sl (slot a') i))) ∧
   ∀ i j, i ∈ nw → j ∈ nw → i ≠ j → i < sl.length → j < sl.length → i ∉ rem → j ∉ rem → bkV (valV sl (slot a') i) ≠ bkV (valV sl (slot a') j)) (List.range sl.length) [] hm k1
  ⟨R.drew w, rfl, fun i hi => List.mem_range.1 hi, fun k hk hn => absurd (List.mem_range.2 hk) hn, fun i hi hn => absurd (List.mem_range.2 hi) hn, fun i hi => h0 i (List.mem_range.1 hi), fun _ _ => rfl, hJ, fun i _ hi hn => absurd (List.mem_range.2 hi) hn, fun i j _ _ _ hi _ hn => absurd (List.mem_range.2 hi) hn⟩ ?_ ?_
 ·rintro rem i o a' w' hmem hnd ho hag hdep ⟨hg, hs, hlt, hdp, hf, hpsi, hsl, hj, hno, hap⟩; have hil := hlt i hmem; have hd := hdst i o hil ho
  have h := hstep i hil o a' w' ho hag hg (fun j hj hjl => hf j hjl (fun hm => by have := hdep j hm; rw [this] at hj; cases hj)) (hpsi i hmem) (fun d hd => hsl d fun k hk hkd => by
   have h1 := List.all_eq_true.1 hd k (List.mem_range.2 hk); rw [hkd] at h1
   apply Classical.byContradiction
   intro hn; have h2 := hdp k hk hn i hmem; rw [h2] at h1
   simp at h1) rem hmem hnd hj
  have next : ∀ a'' w'', (∃ v, a'' = a'.put o.dst v ∧ (R.G w' w'' ∧ J (rem.erase i) (a'.put o.dst v) w'') ∧ (∀ k V, k < sl.length → k ≠ i → ((Region.before ops).getD k 0).testBit i = false → Φ k V w' → Φ k V w'') ∧ (∀ k, k < sl.length → k ≠ i → ((Region.before ops).getD i 0).testBit k = false → Ψ k w' → Ψ k w'') ∧ (∀ V, (∀ j, j ≠ i → V j = valV sl (slot a') j) → (o.dst ≠ none → V i = v) → Φ i V w'') ∧ (i ∈ nw → o.dst ≠ none ∧ (w'.heap.size ≤ bkV v ∨ Old i (bkV v)))) →
    ∃ v, a'' = a'.put o.dst v ∧ R.G w w'' ∧ a''.tmps.size = a.tmps.size ∧ (∀ k ∈ rem.erase i, k < sl.length) ∧ (∀ k, k < sl.length → k ∉ rem.erase i → ∀ j ∈ rem.erase i, ((Region.before ops).getD k 0).testBit j = false) ∧ (∀ k, k < sl.length → k ∉ rem.erase i → Φ k (valV sl (slot a'')) w'') ∧ (∀ k ∈ rem.erase i, Ψ k w'') ∧ (∀ d, (∀ k, k < sl.length → sl[k]? = some (some d) → k ∈ rem.erase i) → slot a'' d = slot a d) ∧ J (rem.erase i) a'' w'' ∧ (∀ k ∈ nw, k < sl.length → k ∉ rem.erase i → w.heap.size ≤ bkV (valV sl (slot a'') k) ∨ Old k (bkV (valV sl (slot a'') k))) ∧
    ∀ k j, k ∈ nw → j ∈ nw → k ≠ j → k < sl.length → j < sl.length → k ∉ rem.erase i → j ∉ rem.erase i → bkV (valV sl (slot a'') k) ≠ bkV (valV sl (slot a'') j) := by
   rintro a'' w'' ⟨v, rfl, ⟨hg2, hj2⟩, hkp, hps2, hphi, hnew⟩
   have was : ∀ k, k ≠ i → k ∉ rem.erase i → k ∉ rem := fun k e hk hm => hk (hnd.mem_erase_iff.2 ⟨e, hm⟩)
   have keep : ∀ j, j ≠ i → valV sl (slot (a'.put o.dst v)) j = valV sl (slot a') j := fun j e => by
    unfold valV
    cases hj : sl[j]? with
    | none => rfl
    | some dj =>
     cases dj with
     | none => rfl
     | some d =>
      show slot (a'.put o.dst v) d = slot a' d
      exact slot_put _ (fun he => e (hinj j i d (List.getElem?_eq_some_iff.1 hj).1 hil hj (by rw [hd, he])))
   have self : o.dst ≠ none → valV sl (slot (a'.put o.dst v)) i = v := fun hn => by
    unfold valV; rw [hd]
    cases hod : o.dst with
    | none => exact absurd hod hn
    | some d =>
     rw [hod] at hd
     exact slot_self v (by
      rw [hs]; have := List.all_eq_true.1 hsz (some d) (List.mem_of_getElem? hd)
      simpa using this)
   have dif : ∀ k, k ∈ nw → i ∈ nw → k ≠ i → k < sl.length → k ∉ rem.erase i → bkV (valV sl (slot a') k) ≠ bkV v := fun k hk hi e hkl hr he => by
    have h1 := hnw k hk _ _ (hf k hkl (was k e hr)); rcases (hnew hi).2 with h2 | h2
    ·omega
    ·rcases hno k hk hkl (was k e hr) with h3 | h3
     ·have := hold _ _ h2; omega
     ·exact hdis k i _ e h3 (by rw [he]; exact h2)
   refine ⟨v, rfl, R.trans hg hg2, ?_, fun k hk => hlt k (List.mem_of_mem_erase hk), fun k hkl hk j hj => ?_, fun k hkl hk => ?_, fun k hk => hps2 k (hlt k (List.mem_of_mem_erase hk)) (fun e => (hnd.mem_erase_iff.1 hk).1 e) (hdep k (List.mem_of_mem_erase hk)) (hpsi k (List.mem_of_mem_erase hk)), fun d hdd => ?_, hj2, fun k hkn hkl hk => ?_, fun k j hkn hjn hkj hkl hjl hk hj => ?_⟩
   ·cases hod : o.dst with
    | none => exact hs
    | some d => simp [Act.put, hs]
   ·by_cases e : k = i
    ·subst e; exact hdep j (List.mem_of_mem_erase hj)
    ·exact hdp k hkl (was k e hk) j (List.mem_of_mem_erase hj)
   ·by_cases e : k = i
    ·subst e
     exact hphi _ (fun j hj => keep j hj) self
    ·refine hcg k hkl _ _ _ (hkp k _ hkl e (hdp k hkl (was k e hk) i hmem) (hf k hkl (was k e hk))) (fun j hj => (keep j (fun ej => ?_)).symm)
     subst ej; rcases hj with rfl | hj
     ·exact e rfl
     ·have := hdp k hkl (was k e hk) j hmem; rw [this] at hj; cases hj
   ·rw [slot_put _ (fun e => (hnd.mem_erase_iff.1 (hdd i hil (by rw [hd, e]))).1 rfl)]
    exact hsl d (fun k hk hkd => List.mem_of_mem_erase (hdd k hk hkd))
   ·by_cases e : k = i
    ·subst e; rw [self (hnew hkn).1]
     exact (hnew hkn).2.imp (fun h => Nat.le_trans (hG hg) h) (fun h => h)
    ·rw [keep k e]; exact hno k hkn hkl (was k e hk)
   ·by_cases e1 : k = i
    ·subst e1; rw [self (hnew hkn).1, keep j (Ne.symm hkj)]; exact (dif j hjn hkn (Ne.symm hkj) hjl hj).symm
    ·by_cases e2 : j = i
     ·subst e2; rw [self (hnew hjn).1, keep k e1]; exact dif k hkn hjn e1 hkl hk
     ·rw [keep k e1, keep j e2]; exact hap k j hkn hjn hkj hkl hjl (was k e1 hk) (was j e2 hj)
  unfold stepOf at h ⊢
  split
  ·rename_i hw
   rw [if_pos hw] at h; exact Oper.wp_mono next h
  ·rename_i hw
   rw [if_neg hw] at h; exact next _ _ h
 ·rintro a' w' hag ⟨hg, hs, _, _, hf, _, _, hj, _, hap⟩
  have he := agree_puts hag (sl.filterMap fun d => d) (by
   rw [List.all_eq_true]; intro i hi; have hil := List.mem_range.1 hi
   cases ho : ops[i]? with
   | none => rfl
   | some o =>
    have hd := hdst i o hil ho
    cases hod : o.dst with
    | none => simp [hod]
    | some d =>
     simp only [hod]; rw [hod] at hd
     simpa using List.mem_of_getElem? hd)
  rw [he]
  exact hend (slot a') w' hg (by rw [← he]; exact hj) (fun i hi => hf i hi (by simp)) (fun i j hi hj hij hil hjl => hap i j hi hj hij hil hjl (by simp) (by simp))
theorem tabY_val {o : Oper} {a : Act} {w : World} {i : Nat} {nw : List Nat} {Φ : (Nat → Value) → World → Prop} {X : (Nat → Value) → Prop} {G : Value → World → Prop} {L K : World → Prop} {B : Value → Prop} {Q : Exit → Act → World → Prop} (hg : o.guard = none) (hd : o.dst ≠ none)
  (h : ∃ v w', (execOp a.eval o).run P w = .ok (.value v) w' ∧ G v w' ∧ L w' ∧ K w' ∧ (∀ V, X V → V i = v → Φ V w') ∧ (i ∈ nw → B v)) :
  stepOf P ops o a w (fun a'' w'' => ∃ v, a'' = a.put o.dst v ∧ G v w'' ∧ L w'' ∧ K w'' ∧ (∀ V, X V → (o.dst ≠ none → V i = v) → Φ V w'') ∧ (i ∈ nw → o.dst ≠ none ∧ B v)) Q := by
 obtain ⟨v, w', h1, h2, h6, h5, h3, h4⟩ := h; unfold stepOf Oper.wp; rw [if_pos (by unfold Region.wanted; rw [hg]), h1]
 exact ⟨v, rfl, h2, h6, h5, fun V hV hv => h3 V hV (hv hd), fun hi => ⟨hd, h4 hi⟩⟩
theorem tabY_call {o : Oper} {a : Act} {w : World} {i : Nat} {nw : List Nat} {Φ : (Nat → Value) → World → Prop} {X : (Nat → Value) → Prop} {G : Value → World → Prop} {L K : World → Prop} {B : Value → Prop} {Q : Exit → Act → World → Prop} (hg : o.guard = none) (hd : o.dst ≠ none) {f : FuncId} {args : Array Value} (hx : (execOp a.eval o).run P w = .ok (.enter f args) w)
  (h : Calls P f args w fun e w' => ∃ v, e = .returned v ∧ G v w' ∧ L w' ∧ K w' ∧ (∀ V, X V → V i = v → Φ V w') ∧ (i ∈ nw → B v)) :
  stepOf P ops o a w (fun a'' w'' => ∃ v, a'' = a.put o.dst v ∧ G v w'' ∧ L w'' ∧ K w'' ∧ (∀ V, X V → (o.dst ≠ none → V i = v) → Φ V w'') ∧ (i ∈ nw → o.dst ≠ none ∧ B v)) Q := by
 unfold stepOf Oper.wp; rw [if_pos (by unfold Region.wanted; rw [hg]), hx]
 simp only [Oper.upon]; refine h.mono ?_; rintro e w' ⟨v, rfl, h2, h6, h5, h3, h4⟩
 exact ⟨v, rfl, h2, h6, h5, fun V hV hv => h3 V hV (hv hd), fun hi => ⟨hd, h4 hi⟩⟩
end
end Go.HavG
