import Derived.Test.YtgmfhngcehkibaaGreatPkU14
set_option maxRecDepth 100000
set_option maxHeartbeats 6400000
namespace Go.Proofs.YtgmfhngcehkibaaGreat
open Go.RowKit Go.Hav Go.Shelf Go.Sq
attribute [local go_sem] Oper.semAt_some
theorem Tryz.infoE86 : (Tryz.prog.info? 57).map (fun i => (i.zero, i.size, i.bytes)) = some (some (.agg #[.int .i64 0, .int .i64 0, .slice none 0 0, .slice none 0 0]), 4, 64) := by kernel_rfl
def LsIn (w : World) (A : Option Addr) (Ls : List (List Nat)) : Prop :=
 ∀ (j : Nat) (x : List Nat), Ls[j]? = some x → ∃ b off cur A' c, A = some ⟨b, off, none⟩ ∧ Blk w b 32 cur ∧ cur[off + j]? = some (.slice A' x.length c) ∧ x.length ≤ c ∧ RowN nV 3 w A' x
theorem LsIn.below {w w' : World} {A : Option Addr} {Ls : List (List Nat)} (h : LsIn w A Ls) (hb : Below w.heap.size w w') : LsIn w' A Ls := fun j x hx => by
 obtain ⟨b, off, cur, A', c, h1, h2, h3, h4, h5⟩ := h j x hx; exact ⟨b, off, cur, A', c, h1, h2.below hb h2.lt, h3, h4, h5.below hb⟩
theorem LsIn.kt {w w' : World} {A : Option Addr} {Ls : List (List Nat)} {B : Nat} {ty : TypeId} (h : LsIn w A Ls) (hk : KT B ty w w') (h3 : 3 ≠ ty) (h47 : 32 ≠ ty) : LsIn w' A Ls := fun j x hx => by
 obtain ⟨b, off, cur, A', c, h1, h2, h4, h5, h6⟩ := h j x hx; exact ⟨b, off, cur, A', c, h1, hk.2 _ _ _ h47 h2, h4, h5, h6.kt hk h3⟩
theorem LsIn.of_own {w : World} {B N : Nat} {v : Value} {xs : List Value} {Ls : List (List Nat)} (h : w.ownsRow B 32 1 v N xs) (hR : Rows nV 3 w xs Ls) : N = Ls.length ∧ ∃ A c, v = .slice A N c ∧ LsIn w A Ls := by
 have hN : N = Ls.length := by have h1 := h.1; have h2 := hR.1; omega
 refine ⟨hN, ?_⟩; rcases h.2 with ⟨rfl, hn⟩ | ⟨g, cap, cur, rfl, hg, hh, hnc, _, _, ht⟩
 ·refine ⟨none, 0, by rw [← hn], ?_⟩
  rw [List.eq_nil_of_length_eq_zero (by rw [← hN, hn] : Ls.length = 0)]
  exact fun k s hs => by simp at hs
 ·refine ⟨_, _, rfl, fun j x hj => ?_⟩
  obtain ⟨A', c, h0, h1, h2⟩ := hR.2 j x hj; have hi : j < N * 1 := by have := (List.getElem?_eq_some_iff.1 hj).1; omega
  rw [← ht, List.getElem?_take, if_pos hi, Array.getElem?_toList] at h1; exact ⟨g, 0, cur, A', c, rfl, hh, by rw [Nat.zero_add]; exact h1, h0, h2⟩
section
variable {fa la : Option Addr} {fl fc ll lc : Nat} {r : IRiv}
def TruthsR (r : IRiv) (s : Nat) (w : World) (e : Ending) (w' : World) : Prop := ∃ A c, e = .returned (.slice A (truthsP r.nat s).length c) ∧ TrsIn w' r.nat.fr.length A (truthsP r.nat s) ∧ Below w.heap.size w w'
theorem truths_any (hv : okR r = true) {s : Nat} (hs : s < 32) (w : World) (hP : RvIn w w.heap.size fa fl la ll r) : Calls Tryz.prog 124 #[(.agg #[.int .i64 r.depth.lo, .int .i64 r.depth.hi, .int .i64 r.fall.lo, .int .i64 r.fall.hi, .int .i64 r.days, .slice fa fl fc, .slice la ll lc]), .int .i64 s] w (TruthsR r s w) := by
 have HP := Lib.hid hP; have HV := Lib.hid hv; have HEF := Lib.hid hP.efl; have hfl : fl ≤ 3 := by have := (okR_parts hv).1.2.2.2.1; have := HEF.out; omega
 have HFN : Hid (r.nat.fr.length = fl) := by show (r.fr.map (·.nat)).length = _; rw [List.length_map]; exact HEF.out
 obtain ⟨W, hW⟩ : ∃ W, W = w.alloc (.cells #[.int .i64 r.depth.lo, .int .i64 r.depth.hi, .int .i64 r.fall.lo, .int .i64 r.fall.hi, .int .i64 r.days, .slice fa fl fc, .slice la ll lc] 27) := ⟨_, rfl⟩; have HX : Hid (Blk W w.heap.size 27 #[.int .i64 r.depth.lo, .int .i64 r.depth.hi, .int .i64 r.fall.lo, .int .i64 r.fall.hi, .int .i64 r.days, .slice fa fl fc, .slice la ll lc]) := by rw [hW]; exact Blk.new w 27 _
 have HBW : Hid (Below w.heap.size w W) := by rw [hW]; exact (Below.refl _ _).alloc (Nat.le_refl _) _
 have HSW : Hid (W.heap.size = w.heap.size + 1) := by show _ = _; rw [hW]; simp
 obtain ⟨i2, hi2, hz0, hz1, hz2⟩ := info_parts Tryz.infoE23; have HI := Lib.hid hi2; have HI0 := Lib.hid hz0; have HI1 := Lib.hid hz1; have HI2 := Lib.hid hz2; clear hi2 hz0 hz1 hz2; obtain ⟨i8, hi8, hz0, hz1, hz2⟩ := info_parts Tryz.infoE86; have HJ := Lib.hid hi8; have HJ0 := Lib.hid hz0; have HJ1 := Lib.hid hz1; have HJ2 := Lib.hid hz2; clear hi8 hz0 hz1 hz2
 obtain ⟨e1, e2, e3, e4⟩ : r.depth.lo = (r.nat.depth.lo : Nat) ∧ r.depth.hi = (r.nat.depth.hi : Nat) ∧ r.fall.lo = (r.nat.fall.lo : Nat) ∧ r.fall.hi = (r.nat.fall.hi : Nat) := by
  obtain ⟨⟨h1, h2, h3, h4, h5⟩, h6, h7⟩ := okR_parts hv; obtain ⟨a1, a2, a3, a4⟩ := spB_iff.1 h1; obtain ⟨b1, b2, b3, b4⟩ := spB_iff.1 h2; simp only [IRiv.nat, ISp.nat]; omega
 have HE := Lib.hid (And.intro e1 (And.intro e2 (And.intro e3 e4))); clear hP hv e1 e2 e3 e4
 go_enter Tryz.func124, Tryz.ntmps124
 go_wp2_with fail; rw [← hW]
 clear hW; have q0 := HX.out.cell 0; have q1 := HX.out.cell 1; have q2 := HX.out.cell 2; have q3 := HX.out.cell 3; have q4 := HX.out.cell 4; have q5 := HX.out.cell 5; have q6 := HX.out.cell 6; have ql := HX.out.lt; simp at q0 q1 q2 q3 q4 q5 q6; go_wp2; obtain ⟨W2, hW2⟩ : ∃ W2, W2 = W.alloc (.cells #[.int .i64 r.depth.lo, .int .i64 r.depth.hi, .int .i64 r.fall.lo, .int .i64 r.fall.hi] 23) := ⟨_, rfl⟩; rw [← hW2]; obtain ⟨R, hR⟩ : ∃ R, R = r.nat := ⟨_, rfl⟩; obtain ⟨s1, hs1⟩ : ∃ s1, s1 = r.nat.depth := ⟨_, rfl⟩; obtain ⟨s2, hs2⟩ : ∃ s2, s2 = r.nat.fall := ⟨_, rfl⟩; have HS1 := Lib.hid (And.intro hs1 hs2)
 have HO2 : Hid (W2.ownsRow W.heap.size 23 2 (.slice (some ⟨w.heap.size + 1, 0, none⟩) 2 2) (2 + 0) ((s1 :: s2 :: (r.nat.fr.take 0).map (·.days)).flatMap spC)) := by
  obtain ⟨e1, e2, e3, e4⟩ := HE.out; rw [← HSW.out]; rw [hW2, e1, e2, e3, e4, ← hs1, ← hs2]; exact ⟨rfl, .inr ⟨W.heap.size, 2, _, rfl, Nat.le_refl _, heap_alloc_new W _, Nat.le_refl _, by decide, rfl, rfl⟩⟩
 have HB2 : Hid (Below W.heap.size W W2) := by rw [hW2]; exact (Below.refl _ _).alloc (Nat.le_refl _) _
 clear q0 q1 q2 q3 q4 q5 q6 ql hW2 hR hs1 hs2
 go_loopw [5, 6] (fun sv i wr => ∃ (k : Nat) (ov : Value), ov = sv ∧ k ≤ fl ∧ i = .int .i64 k ∧ Hid (wr.ownsRow W.heap.size 23 2 ov (2 + k) ((s1 :: s2 :: (r.nat.fr.take k).map (·.days)).flatMap spC)) ∧ Hid (Below W.heap.size W wr)) (fun _ i _ => fl - (intOf i).toNat)
 case atStart => exact ⟨0, _, rfl, Nat.zero_le _, rfl, HO2, HB2⟩
 case round =>
  obtain ⟨k, ov, hov, hk, rfl, HO, HBX⟩ := hrel; subst hov; have HKR : Hid (Blk wr w.heap.size 27 #[.int .i64 r.depth.lo, .int .i64 r.depth.hi, .int .i64 r.fall.lo, .int .i64 r.fall.hi, .int .i64 r.days, .slice fa fl fc, .slice la ll lc]) := HX.out.below HBX.out HX.out.lt; have hsz : w.heap.size < wr.heap.size := HKR.out.lt; have xb3 : wr.cell? ⟨w.heap.size, 5, none⟩ = some (.slice fa fl fc) := HKR.out.cell 5; have HBR : Hid (Below w.heap.size w wr) := HBW.out.trans (HBX.out.mono HBW.out.size)
  by_cases hlt : k < fl
  ·obtain ⟨f, hf⟩ : ∃ f, r.nat.fr[k]? = some f := ⟨_, List.getElem?_eq_getElem (by rw [HFN.out]; exact hlt)⟩
   obtain ⟨b, off, hA, hbl, H0, H1, H2, H3⟩ := rd_fr (fr_nat ((HP.out.grow HBR.out).hfr) (okR_parts HV.out).2.1) k f hf; subst hA; have HFT := Lib.hid (days_next hf); obtain ⟨⟨d0, d1⟩, ⟨r0, r1⟩⟩ := f; simp only at H0 H1 H2 H3 HFT; clear hf; have hB1 : W.heap.size ≤ (wr.alloc (.cells #[.int .i64 d0, .int .i64 d1] 23)).heap.size := by have := HBX.out.size; simp; omega
   have HB1 : Hid (Below wr.heap.size wr (wr.alloc (.cells #[.int .i64 d0, .int .i64 d1] 23))) := (Below.refl _ _).alloc (Nat.le_refl _) _; obtain ⟨yl, HYL⟩ : ∃ yl, Hid ((s1 :: s2 :: (r.nat.fr.take k).map (·.days)).flatMap spC = yl) := ⟨_, rfl⟩; have HOWN := Lib.hid (own_below HO.out HB1.out); rw [HYL.out] at HOWN
   go_wp2_with (at_builtin; refine wpList_append_own _ rfl _ _ 180 rfl W.heap.size 23 i2 _ 2 16 Tryz.underlying180 HI.out HI0.out HI1.out HI2.out rfl (by decide) _ _ _ rfl HOWN.out ⟨wr.heap.size, 0, none⟩ 1 1 [.int .i64 d0, .int .i64 d1] rfl rfl (news_block (Blk.new wr 23 _)) (by simp [Value.oneCell']) (by unfold maxLen; omega) (by omega) hB1 ?_)
   intro v' w5 hown5 hgrow5 _
   have HO5 : Hid (w5.ownsRow W.heap.size 23 2 v' (2 + (k + 1)) ((s1 :: s2 :: (r.nat.fr.take (k + 1)).map (·.days)).flatMap spC)) := by
    show World.ownsRow _ _ _ _ _ _ _; rw [HFT.out, ← List.cons_append, ← List.cons_append, List.flatMap_append, HYL.out]; exact hown5
   have HB5 : Hid (Below W.heap.size W w5) := HBX.out.trans ((HB1.out.mono HBX.out.size).trans (KT.own hB1 HOWN.out hgrow5).1); clear hown5 hgrow5; go_wp2; go_roundw
   case rel => exact ⟨k + 1, _, rfl, by omega, by go_num, HO5, HB5⟩
   case measure => simp [intOf]; omega
  ·obtain rfl : fl = k := by omega
   have HO1 : Hid (wr.ownsRow W.heap.size 23 2 ov (2 + fl + 0) ((s1 :: s2 :: (r.nat.fr.map (·.days) ++ (r.nat.fr.take 0).map (·.rise))).flatMap spC)) := by
    have h := HO.out; rw [List.take_of_length_le (by rw [HFN.out]; exact Nat.le_refl _)] at h
    show World.ownsRow _ _ _ _ _ _ _; rw [List.take_zero, List.map_nil, List.append_nil]; exact h
   have HBXa := HBX; go_wp2; clear xb3 HKR HBR HBX hsz HO
   go_loopw [5, 7] (fun sv i wr => ∃ (k : Nat) (ov : Value), ov = sv ∧ k ≤ fl ∧ i = .int .i64 k ∧ Hid (wr.ownsRow W.heap.size 23 2 ov (2 + fl + k) ((s1 :: s2 :: (r.nat.fr.map (·.days) ++ (r.nat.fr.take k).map (·.rise))).flatMap spC)) ∧ Hid (Below W.heap.size W wr)) (fun _ i _ => fl - (intOf i).toNat)
   case atStart => exact ⟨0, _, rfl, Nat.zero_le _, rfl, HO1, HBXa⟩
   case round =>
    obtain ⟨k, ov, hov, hk, rfl, HO, HBX⟩ := hrel; subst hov; clear HO1 HBXa; have HKR : Hid (Blk wr w.heap.size 27 #[.int .i64 r.depth.lo, .int .i64 r.depth.hi, .int .i64 r.fall.lo, .int .i64 r.fall.hi, .int .i64 r.days, .slice fa fl fc, .slice la ll lc]) := HX.out.below HBX.out HX.out.lt; have hsz : w.heap.size < wr.heap.size := HKR.out.lt; have xb3 : wr.cell? ⟨w.heap.size, 5, none⟩ = some (.slice fa fl fc) := HKR.out.cell 5; have HBR : Hid (Below w.heap.size w wr) := HBW.out.trans (HBX.out.mono HBW.out.size)
    by_cases hlt : k < fl
    ·obtain ⟨f, hf⟩ : ∃ f, r.nat.fr[k]? = some f := ⟨_, List.getElem?_eq_getElem (by rw [HFN.out]; exact hlt)⟩
     obtain ⟨b, off, hA, hbl, H0, H1, H2, H3⟩ := rd_fr (fr_nat ((HP.out.grow HBR.out).hfr) (okR_parts HV.out).2.1) k f hf; subst hA; have HFT := Lib.hid (rises_next hf); obtain ⟨⟨d0, d1⟩, ⟨r0, r1⟩⟩ := f; simp only at H0 H1 H2 H3 HFT; clear hf; have hB1 : W.heap.size ≤ (wr.alloc (.cells #[.int .i64 r0, .int .i64 r1] 23)).heap.size := by have := HBX.out.size; simp; omega
     have HB1 : Hid (Below wr.heap.size wr (wr.alloc (.cells #[.int .i64 r0, .int .i64 r1] 23))) := (Below.refl _ _).alloc (Nat.le_refl _) _; obtain ⟨yl, HYL⟩ : ∃ yl, Hid ((s1 :: s2 :: (r.nat.fr.map (·.days) ++ (r.nat.fr.take k).map (·.rise))).flatMap spC = yl) := ⟨_, rfl⟩; have HOWN := Lib.hid (own_below HO.out HB1.out); rw [HYL.out] at HOWN
     go_wp2_with (at_builtin; refine wpList_append_own _ rfl _ _ 180 rfl W.heap.size 23 i2 _ 2 16 Tryz.underlying180 HI.out HI0.out HI1.out HI2.out rfl (by decide) _ _ _ rfl HOWN.out ⟨wr.heap.size, 0, none⟩ 1 1 [.int .i64 r0, .int .i64 r1] rfl rfl (news_block (Blk.new wr 23 _)) (by simp [Value.oneCell']) (by unfold maxLen; omega) (by omega) hB1 ?_)
     intro v' w5 hown5 hgrow5 _
     have HO5 : Hid (w5.ownsRow W.heap.size 23 2 v' (2 + fl + (k + 1)) ((s1 :: s2 :: (r.nat.fr.map (·.days) ++ (r.nat.fr.take (k + 1)).map (·.rise))).flatMap spC)) := by
      show World.ownsRow _ _ _ _ _ _ _; rw [HFT.out, ← List.append_assoc, ← List.cons_append, ← List.cons_append, List.flatMap_append, HYL.out]; exact hown5
     have HB5 : Hid (Below W.heap.size W w5) := HBX.out.trans ((HB1.out.mono HBX.out.size).trans (KT.own hB1 HOWN.out hgrow5).1); clear hown5 hgrow5; go_wp2; go_roundw
     case rel => exact ⟨k + 1, _, rfl, by omega, by go_num, HO5, HB5⟩
     case measure => simp [intOf]; omega
    ·obtain rfl : fl = k := by omega
     obtain ⟨N, hN⟩ : ∃ N, N = 2 + fl + fl := ⟨_, rfl⟩
     obtain ⟨sA, sc, hov, hsp⟩ := SpR.of_own (l := spansP r.nat) (B := W.heap.size) (m := N) (v := ov) (w := wr) (by
      have h := HO.out; rw [List.take_of_length_le (by rw [HFN.out]; exact Nat.le_refl _), ← hN, HS1.out.1, HS1.out.2] at h
      exact h) (by rw [spans_len, HFN.out, hN]; omega)
     subst hov; have HSP := Lib.hid hsp; have hN8 : N ≤ 8 := by omega
     have HNL : Hid ((spansP r.nat).length = N) := by show _ = _; rw [spans_len, HFN.out, hN]; omega
     clear hN hsp HO; go_upto_region 10 with (fail)
     refine wp_region_havoc [(0,false),(2,false),(3,false),(4,false),(1,true),(5,false),(6,false)] [] (fun _ _ => False) (by kernel_rfl) (by kernel_rfl) (fun _ _ _ _ h => h.elim) ?_
     (apply hav_same (by exact ho rfl) (by kernel_rfl); (focus (intro wv hgv _; have hcv := cvB hgv; (try go_simp); try rfl; done)); simp only [Act.put, qA9, qB9, qC9])
     iterate 3 (apply hav_same (by exact ho rfl) (by kernel_rfl); (focus (intro wv hgv _; have hcv := cvB hgv; (try go_simp); try rfl; done)); simp only [Act.put, qA9, qB9, qC9])
     apply hav_call_ghost (fun v wv => ∃ A c, v = .slice A (listsP (spansP r.nat)).length c ∧ LsIn wv A (listsP (spansP r.nat))) (by exact ho rfl) (by kernel_rfl)
     ·intro wv; go_simp; try exact ⟨rfl, rfl⟩
     ·rintro v w1 w2 ⟨A, c, h1, h2⟩ hg; exact ⟨A, c, h1, h2.below hg⟩
     ·intro wv hgv _; refine (lists_any (sA := sA) (sl := N) (sc := sc) (spans_small HV.out) HNL.out hN8 wv.heap.size N [] none 0 0 0 (.slice none 0 0) [] [] wv (Nat.le_refl _) (HSP.out.below hgv) rfl (Nat.le_refl _) (by omega) RowN.nil (own_nil _ _ _ _) Rows.nil rfl (by have := Nat.pow_le_pow_right (n := 5) (by omega) hN8; omega)).mono ?_
      rintro e w' ⟨v', N', xs', rfl, hown, hrows, hxl, hkt⟩
      rw [List.nil_append, List.drop_zero, show (fun x : List Nat => [] ++ x) = id from rfl, List.map_id] at hrows
      obtain ⟨hN, A, c, rfl, hls⟩ := LsIn.of_own hown hrows; exact .inl ⟨_, rfl, hkt.1, A, c, by rw [hN], hls⟩
     intro v; simp only [Act.put, qA9, qB9, qC9]; iterate 2 (apply hav_same (by exact ho rfl) (by kernel_rfl); (focus (intro wv hgv _; have hcv := cvB hgv; (try go_simp); try rfl; done)); simp only [Act.put, qA9, qB9, qC9])
     refine hav_end (fun X hgX hF => ?_); simp only [List.filterMap]; have hcX : ∀ b o, b < _ → X.cell? ⟨b, o, none⟩ = _ := fun b o hb => Below.cell hgX (p := ⟨b, o, none⟩) hb; have hfX : ∀ b o, b < _ → X.frozen? ⟨b, o, none⟩ = _ := fun b o hb => Below.frozen hgX (p := ⟨b, o, none⟩) hb; have hzX := Below.size hgX; (try simp at hzX)
     obtain ⟨_, lA, lc2, rfl, hls⟩ := hF; have HLS := Lib.hid hls; have HBXX : Hid (Below W.heap.size W X) := HBX.out.trans (hgX.mono HBX.out.size); have HXX : Hid (Blk X w.heap.size 27 #[.int .i64 r.depth.lo, .int .i64 r.depth.hi, .int .i64 r.fall.lo, .int .i64 r.fall.hi, .int .i64 r.days, .slice fa fl fc, .slice la ll lc]) := HX.out.below HBXX.out HX.out.lt; have HBWX : Hid (Below w.heap.size w X) := HBW.out.trans (HBXX.out.mono HBW.out.size); obtain ⟨M, hM⟩ : ∃ M, (listsP (spansP r.nat)).length = M := ⟨_, rfl⟩; have hM4 : M ≤ 390625 := by rw [← hM]; exact lists_len HV.out
     have HM := Lib.hid hM; rw [hM]; clear hls hgX hcX hfX hzX hM xb3 HKR HBR HBX hsz HSP HNL; have hsX : w.heap.size < X.heap.size := HXX.out.lt; go_wp2
     go_loopw [10, 11] (fun sv i wr => ∃ (j : Nat) (ov : Value) (xs : List Value), ov = sv ∧ j ≤ M ∧ i = .int .i64 j ∧ Hid (wr.ownsRow X.heap.size 57 4 ov (filT r.nat s j).length xs) ∧ Hid (TRows wr fl xs (filT r.nat s j)) ∧ Hid (KT X.heap.size 57 X wr)) (fun _ i _ => M - (intOf i).toNat)
     case atStart => exact ⟨0, _, [], rfl, Nat.zero_le _, rfl, own_nil _ _ _ _, TRows.nil, KT.refl⟩
     case round =>
      obtain ⟨j, ov, xs, hov, hj, rfl, HO, HTR, HK⟩ := hrel; subst hov; have HKR : Hid (Blk wr w.heap.size 27 #[.int .i64 r.depth.lo, .int .i64 r.depth.hi, .int .i64 r.fall.lo, .int .i64 r.fall.hi, .int .i64 r.days, .slice fa fl fc, .slice la ll lc]) := HXX.out.below HK.out.1 HXX.out.lt; have hsz : w.heap.size < wr.heap.size := HKR.out.lt; have HBR : Hid (Below w.heap.size w wr) := HBWX.out.trans (HK.out.1.mono (by omega))
      by_cases hlt : j < M
      ·obtain ⟨x, hx⟩ : ∃ x, (listsP (spansP r.nat))[j]? = some x := ⟨_, List.getElem?_eq_getElem (by rw [HM.out]; exact hlt)⟩
       obtain ⟨hxl, hx60⟩ := list_bd HV.out (List.mem_of_getElem? hx); rw [HFN.out] at hxl; have HTS := Lib.hid (trOf_small HV.out (List.mem_of_getElem? hx)); obtain ⟨b, off, cur, A', c, hA, hb, hcur, hlc, hrow⟩ := (HLS.out.kt HK.out (by decide) (by decide)) j x hx
       subst hA; have HFT := Lib.hid (filT_next (s := s) hx); have c0 := hb.cell (off + j); rw [hcur] at c0; rw [hxl] at c0 hlc; have hbl := hb.lt; clear hcur hb; obtain ⟨x0, hx0⟩ : ∃ y, x[0]? = some y := ⟨_, List.getElem?_eq_getElem (by omega)⟩
       obtain ⟨x1, hx1⟩ : ∃ y, x[1]? = some y := ⟨_, List.getElem?_eq_getElem (by omega)⟩
       obtain ⟨b', o', rfl, hb', H0⟩ := hrow.at_ hx0; obtain ⟨b1, o1, e1, -, H1⟩ := hrow.at_ hx1
       injection e1 with e1
       injection e1 with e1 e2
       subst e1 e2; have HROW := Lib.hid hrow; have HDB : Hid ((trOf r.nat.fr.length x).d = x0 ∧ (trOf r.nat.fr.length x).by_ = x1) := ⟨by unfold trOf; simp only; rw [List.getD_eq_getElem?_getD, hx0]; rfl, by unfold trOf; simp only; rw [List.getD_eq_getElem?_getD, hx1]; rfl⟩
       have HXLN := Lib.hid hxl; clear hx hx0 hx1 hrow hx60 hxl; go_upto_region 15 with (fail); obtain ⟨L, hL⟩ : ∃ L, 2 + (fl + fl) = L := ⟨_, rfl⟩; rw [hL] at c0 hlc; have hL0 : 0 < L := by omega
       have hL1 : 1 < L := by omega
       have hL1' : (1 : Int) < L := by omega
       obtain ⟨P, hPq⟩ : ∃ P, 2 + fl = P := ⟨_, rfl⟩; have hw2 : IntKind.i64.wrap (2 + (fl : Int)) = (P : Int) := (IntWalk.i64_in _ (by omega)).trans (by omega)
       have hPc : P ≤ c := by omega
       have hPL : P ≤ L := by omega
       have hPc' : (P : Int) ≤ c := by omega
       have hPL' : (P : Int) ≤ L := by omega
       have hPm : max (P : Int) 0 = P := by omega
       have hP2' : (2 : Int) ≤ P := by omega
       have hPf : P - 2 = fl := by omega
       have hLP : L - P = fl := by omega
       have hc2 : 2 ≤ c := by omega
       have HPQ := Lib.hid hPq; clear hPq; rw [Nat.add_zero] at H0; have HLL := Lib.hid hL; clear hL
       refine wp_region_havoc [(0,false),(1,false),(2,false),(3,false),(4,false),(5,false),(6,false),(7,false),(8,false),(9,false),(10,false),(11,false),(12,false),(13,false),(14,false),(15,false),(16,false),(17,false),(18,false),(19,false),(20,false),(21,false),(22,false),(23,false),(24,false),(25,false),(26,false),(27,true)] [28] (fun _ _ => False) (by kernel_rfl) (by kernel_rfl) (fun _ _ _ _ h => h.elim) ?_
       (apply hav_same (by exact ho rfl) (by kernel_rfl); (focus (intro wv hgv _; have hcv := cvB hgv; (try go_simp); try rfl; done)); simp only [Act.put, qA9, qB9, qC9])
       iterate 17 (first | (apply hav_same (by exact ho rfl) (by kernel_rfl); (focus (intro wv hgv _; have hcv := cvB hgv; (try go_simp); try rfl; done)); simp only [Act.put, qA9, qB9, qC9]) | trace_state)
       iterate 9 (apply hav_same (by exact ho rfl) (by kernel_rfl); (focus (intro wv hgv _; have hcv := cvB hgv; (try go_simp); try rfl; done)); simp only [Act.put, qA9, qB9, qC9])
       (apply hav_new (fun g => .pointer (some ⟨g, 0, none⟩)) (.cells #[.int .i64 0, .int .i64 0, .slice none 0 0, .slice none 0 0] 57) (by exact ho rfl) (by kernel_rfl); (focus (intro wv hgv _; have hcv := cvB hgv; (try go_simp); try rfl; done)); intro v; simp only [Act.put, qA9, qB9, qC9])
       refine hav_end (fun w5 hgw5 hF => ?_); simp only [List.filterMap]; have hcw5 : ∀ b o, b < _ → w5.cell? ⟨b, o, none⟩ = _ := fun b o hb => Below.cell hgw5 (p := ⟨b, o, none⟩) hb; have hfw5 : ∀ b o, b < _ → w5.frozen? ⟨b, o, none⟩ = _ := fun b o hb => Below.frozen hgw5 (p := ⟨b, o, none⟩) hb; have hzw5 := Below.size hgw5; (try simp at hzw5)
       obtain ⟨_, g, rfl, hg, hgb⟩ := hF; have HG5 : Hid (Below wr.heap.size wr w5) := hgw5; have hgb : Blk w5 g 57 #[.int .i64 0, .int .i64 0, .slice none 0 0, .slice none 0 0] := hgb; have k0 := hgb.cell 0; have k1 := hgb.cell 1; have k2 := hgb.cell 2; have k3 := hgb.cell 3; have f0 := hgb.frozen 0; have f1 := hgb.frozen 1; have f2 := hgb.frozen 2; have f3 := hgb.frozen 3; have kl := hgb.lt; simp at k0 k1 k2 k3; have HGB := Lib.hid hgb; have HC2 := Lib.hid (And.intro hPc hlc); clear hgb hgw5 hcw5 hfw5 c0 H0 H1; go_upto_region 16 with (fail); obtain ⟨dA, hdA⟩ : ∃ dA, (if c = 2 then some (⟨b', o', none⟩ : Addr) else some ⟨b', o' + 2, none⟩) = dA := ⟨_, rfl⟩
       obtain ⟨rA, hrA⟩ : ∃ rA, (if c = P then some (⟨b', o', none⟩ : Addr) else some ⟨b', o' + P, none⟩) = rA := ⟨_, rfl⟩
       rw [hdA, hrA]
       have HTI : Hid (TrIn wr (trOf r.nat.fr.length x) dA rA) := by
        have hxl : x.length = L := by have := HLL.out; have := HXLN.out; omega
        have hP := HPQ.out; refine ⟨?_, ?_⟩
        ·rw [← hdA]
         by_cases e : c = 2
         ·have : (trOf r.nat.fr.length x).ds = [] := by
           apply List.eq_nil_of_length_eq_zero
           rw [HTS.out.ds, HFN.out]; omega
          rw [this]; exact RowN.nil
         ·rw [if_neg e]
          refine HROW.out.part fun k v hk => ?_
          simp only [trOf] at hk; rw [List.getElem?_take] at hk
          split at hk
          ·rwa [List.getElem?_drop] at hk
          ·cases hk
        ·rw [← hrA]
         by_cases e : c = P
         ·have : (trOf r.nat.fr.length x).rs = [] := by
           apply List.eq_nil_of_length_eq_zero
           rw [HTS.out.rs, HFN.out]; omega
          rw [this]; exact RowN.nil
         ·rw [if_neg e]
          refine HROW.out.part fun k v hk => ?_
          simp only [trOf] at hk
          rwa [List.getElem?_drop, HFN.out, hP] at hk
       obtain ⟨t, ht⟩ : ∃ t, trOf r.nat.fr.length x = t := ⟨_, rfl⟩; rw [ht] at HTI HTS HDB HFT; obtain ⟨e1, e2⟩ := HDB.out; rw [← e1, ← e2]; obtain ⟨c1, hc1⟩ : ∃ c1, c - 2 = c1 := ⟨_, rfl⟩; obtain ⟨c3, hc3⟩ : ∃ c3, c - P = c3 := ⟨_, rfl⟩; rw [hc1, hc3]; clear hdA hrA ht e1 e2 HDB hc1 hc3 hPc hPL hPc' hPL' hPm hP2' hPf hLP hc2 hw2 hL0 hL1 hL1' hlc k0 k1 k2 k3 f0 f1 f2 f3; obtain ⟨Y, hY⟩ : ∃ Y, Y = (((w5.setCell ⟨g, 0, none⟩ (.int .i64 t.d)).setCell ⟨g, 1, none⟩ (.int .i64 t.by_)).setCell ⟨g, 2, none⟩ (.slice dA fl c1)).setCell ⟨g, 3, none⟩ (.slice rA fl c3) := ⟨_, rfl⟩
       have HYB : Hid (Blk Y g 57 #[.int .i64 t.d, .int .i64 t.by_, .slice dA fl c1, .slice rA fl c3]) := by
        rw [hY]; exact (((HGB.out.set_ 0 (.int .i64 t.d)).set_ 1 (.int .i64 t.by_)).set_ 2 (.slice dA fl c1)).set_ 3 (.slice rA fl c3)
       have HY : Hid (Below wr.heap.size wr Y) := by
        rw [hY]; exact setCell_below (setCell_below (setCell_below (setCell_below HG5.out hg 0 _) hg 1 _) hg 2 _) hg 3 _
       rw [← hY]; clear hY HGB kl HG5; have HKY : Hid (Blk Y w.heap.size 27 #[.int .i64 r.depth.lo, .int .i64 r.depth.hi, .int .i64 r.fall.lo, .int .i64 r.fall.hi, .int .i64 r.days, .slice fa fl fc, .slice la ll lc]) := HKR.out.below HY.out hsz; have q0 := HKY.out.cell 0; have q1 := HKY.out.cell 1; have q2 := HKY.out.cell 2; have q3 := HKY.out.cell 3; have q4 := HKY.out.cell 4; have q5 := HKY.out.cell 5; have q6 := HKY.out.cell 6; have ql := HKY.out.lt; simp at q0 q1 q2 q3 q4 q5 q6; have k0 := HYB.out.cell 0; have k1 := HYB.out.cell 1; have k2 := HYB.out.cell 2; have k3 := HYB.out.cell 3; have kl := HYB.out.lt; simp at k0 k1 k2 k3; have HTY : Hid (TrIn Y t dA rA) := HTI.out.below HY.out; have HPY : Hid (RvIn Y Y.heap.size fa fl la ll r) := HP.out.grow (HBR.out.trans (HY.out.mono (by omega)))
       have HOY := Lib.hid (own_below HO.out HY.out); have HRY := Lib.hid (HTR.out.below HY.out); have HTS' : Hid (t.Small fl) := by have h := HTS.out; rwa [HFN.out] at h
       have HKY2 : Hid (KT X.heap.size 57 X Y) := HK.out.trans (KT.below HK.out.1.size HY.out); have hXY : X.heap.size ≤ Y.heap.size := HKY2.out.1.size; obtain ⟨fj, hfj⟩ : ∃ fj, (filT r.nat s j).length = fj := ⟨_, rfl⟩; have hfjj : fj ≤ M := by rw [← hfj]; exact Nat.le_trans filT_len hj
       rw [hfj] at HOY; go_wp2_with fail; refine (right_any (fc := fc) (lc := lc) (dc := c1) (rc := c3) HV.out HTS'.out hs Y HPY.out HTY.out).mono ?_; clear q0 q1 q2 q3 q4 q5 q6 ql k0 k1 k2 k3 kl
       cases hr : rightP r.nat s t
       ·rintro e Z ⟨rfl, hb⟩; have HBZ := Lib.hid hb; have HFE : Hid (filT r.nat s (j + 1) = filT r.nat s j) := by show _ = _; rw [HFT.out, if_neg (by rw [hr]; simp), List.append_nil]
        clear hb hr; go_wp2; go_roundw
        case rel => exact ⟨j + 1, _, _, rfl, by omega, by go_num, by rw [HFE.out, hfj]; exact own_below HOY.out HBZ.out, by rw [HFE.out]; exact HRY.out.below HBZ.out, HKY2.out.trans (KT.below hXY HBZ.out)⟩
        case measure => simp [intOf]; omega
       ·rintro e Z ⟨rfl, hb⟩; have HBZ := Lib.hid hb; have HFE : Hid (filT r.nat s (j + 1) = filT r.nat s j ++ [t]) := by show _ = _; rw [HFT.out, if_pos hr]
        have HKZ := Lib.hid (HYB.out.below hb HYB.out.lt); clear hb hr; have k0 := HKZ.out.cell 0; have k1 := HKZ.out.cell 1; have k2 := HKZ.out.cell 2; have k3 := HKZ.out.cell 3; have kl := HKZ.out.lt; simp at k0 k1 k2 k3; have hZ : X.heap.size ≤ Z.heap.size := Nat.le_trans hXY HBZ.out.size; have hB1 : X.heap.size ≤ (Z.alloc (.cells #[.int .i64 t.d, .int .i64 t.by_, .slice dA fl c1, .slice rA fl c3] 57)).heap.size := by simp; omega
        have HB1 : Hid (Below Z.heap.size Z (Z.alloc (.cells #[.int .i64 t.d, .int .i64 t.by_, .slice dA fl c1, .slice rA fl c3] 57))) := (Below.refl _ _).alloc (Nat.le_refl _) _; have HOWN := Lib.hid (own_below (own_below HOY.out HBZ.out) HB1.out)
        go_wp2_with (at_builtin; refine wpList_append_own _ rfl _ _ 127 rfl X.heap.size 57 i8 _ 4 64 Tryz.underlying127 HJ.out HJ0.out HJ1.out HJ2.out rfl (by decide) _ _ _ rfl HOWN.out ⟨Z.heap.size, 0, none⟩ 1 1 [.int .i64 t.d, .int .i64 t.by_, .slice dA fl c1, .slice rA fl c3] rfl rfl (news_block (Blk.new Z 57 _)) (by simp [Value.oneCell']) (by unfold maxLen; omega) (by omega) hB1 ?_)
        intro v' w6 hown6 hgrow6 _
        have HO6 : Hid (w6.ownsRow X.heap.size 57 4 v' (filT r.nat s (j + 1)).length (xs ++ [.int .i64 t.d, .int .i64 t.by_, .slice dA fl c1, .slice rA fl c3])) := by
         show World.ownsRow _ _ _ _ _ _ _; rw [HFE.out, List.length_append, hfj]; exact hown6
        have HK6 := Lib.hid ((HKY2.out.trans (KT.below hXY HBZ.out)).trans ((KT.below hZ HB1.out).trans (KT.own hB1 HOWN.out hgrow6)))
        have HR6 : Hid (TRows w6 fl (xs ++ [.int .i64 t.d, .int .i64 t.by_, .slice dA fl c1, .slice rA fl c3]) (filT r.nat s (j + 1))) := by
         have hk : KT X.heap.size 57 Y w6 := (KT.below hXY HBZ.out).trans ((KT.below hZ HB1.out).trans (KT.own hB1 HOWN.out hgrow6)); show TRows _ _ _ _; rw [HFE.out]; exact (HRY.out.kt hk (by decide)).snoc (HTY.out.kt hk (by decide))
        clear hown6 hgrow6; go_wp2; go_roundw
        case rel => exact ⟨j + 1, _, _, rfl, by omega, by go_num, HO6, HR6, HK6⟩
        case measure => simp [intOf]; omega
      ·obtain rfl : M = j := by omega
       have HFA : Hid (filT r.nat s M = truthsP r.nat s) := filT_all (by rw [HM.out]; exact Nat.le_refl _)
       have hO := HO.out; have hT := HTR.out; rw [HFA.out] at hO hT; obtain ⟨-, A, cA, rfl, htr⟩ := TrsIn.of_own hO hT; have HTR2 := Lib.hid htr; clear hO hT htr; go_wp2; go_ret
       exact ⟨A, cA, rfl, by rw [HFN.out]; exact HTR2.out, HBR.out⟩
end
section
variable {fa la : Option Addr} {fl fc ll lc : Nat} {r : IRiv}
theorem revery_any (h5 : ll ≤ 5) (w : World) : Calls Tryz.prog 125 #[(.agg #[.int .i64 r.depth.lo, .int .i64 r.depth.hi, .int .i64 r.fall.lo, .int .i64 r.fall.hi, .int .i64 r.days, .slice fa fl fc, .slice la ll lc])] w fun e w' => e = .returned (.int .i64 (full ll : Nat)) ∧ Below w.heap.size w w' := by
 obtain ⟨W, hW⟩ : ∃ W, W = w.alloc (.cells #[.int .i64 r.depth.lo, .int .i64 r.depth.hi, .int .i64 r.fall.lo, .int .i64 r.fall.hi, .int .i64 r.days, .slice fa fl fc, .slice la ll lc] 27) := ⟨_, rfl⟩; have HX : Hid (Blk W w.heap.size 27 #[.int .i64 r.depth.lo, .int .i64 r.depth.hi, .int .i64 r.fall.lo, .int .i64 r.fall.hi, .int .i64 r.days, .slice fa fl fc, .slice la ll lc]) := by rw [hW]; exact Blk.new w 27 _
 have HBW : Hid (Below w.heap.size w W) := by rw [hW]; exact (Below.refl _ _).alloc (Nat.le_refl _) _
 obtain ⟨K, hK⟩ : ∃ K : Nat, 2 ^ ll = K := ⟨_, rfl⟩; have hK1 := Nat.two_pow_pos ll; have hK2 : 2 ^ ll ≤ 2 ^ 5 := Nat.pow_le_pow_right (by omega) h5
 have hf : full ll = K - 1 := by rw [full, hK]
 have HP : Hid (∀ wv : World, Calls Tryz.prog 128 #[.int .i64 ll] wv fun e w' => e = .returned (.int .i64 (K : Nat)) ∧ w' = wv) := fun wv => (rpower_any ll (by omega) wv).mono (by rintro e w' ⟨rfl, rfl⟩; exact ⟨by rw [← hK]; push_cast; rfl, rfl⟩)
 rw [hK] at hK1 hK2; have HF : Hid (((full ll : Nat) : Int) = (K : Int) - 1) := by show _ = _; omega
 clear hf hK
 go_enter Tryz.func125, Tryz.ntmps125
 go_wp2_with fail; rw [← hW]
 clear hW; have q0 := HX.out.cell 0; have q1 := HX.out.cell 1; have q2 := HX.out.cell 2; have q3 := HX.out.cell 3; have q4 := HX.out.cell 4; have q5 := HX.out.cell 5; have q6 := HX.out.cell 6; have ql := HX.out.lt; simp at q0 q1 q2 q3 q4 q5 q6; go_wp2_with fail; refine (HP.out W).mono ?_; rintro e w' ⟨rfl, rfl⟩; go_wp2; go_ret
 exact ⟨ret_int HF.out.symm, HBW.out⟩
theorem rtruths_any (hv : okR r = true) (w : World) (hP : RvIn w w.heap.size fa fl la ll r) : Calls Tryz.prog 95 #[(.agg #[.int .i64 r.depth.lo, .int .i64 r.depth.hi, .int .i64 r.fall.lo, .int .i64 r.fall.hi, .int .i64 r.days, .slice fa fl fc, .slice la ll lc])] w (TruthsR r (full ll) w) := by
 have HP := Lib.hid hP; have HV := Lib.hid hv; have h5 : ll ≤ 5 := by have := (okR_parts hv).1.2.2.2.2; have := hP.ell; omega
 have hf32 : full ll < 32 := by have := Nat.pow_le_pow_right (n := 2) (by omega) h5; unfold full; omega
 have hfc : ((full ll : Nat) : Int) = full ll := rfl; obtain ⟨F, hF⟩ : ∃ F, full ll = F := ⟨_, rfl⟩
 have HEV : Hid (∀ wv : World, Calls Tryz.prog 125 #[(.agg #[.int .i64 r.depth.lo, .int .i64 r.depth.hi, .int .i64 r.fall.lo, .int .i64 r.fall.hi, .int .i64 r.days, .slice fa fl fc, .slice la ll lc])] wv fun e w' => e = .returned (.int .i64 (F : Nat)) ∧ Below wv.heap.size wv w') := fun wv => by
  have h := revery_any (fa := fa) (la := la) (fl := fl) (fc := fc) (lc := lc) (r := r) h5 wv
  rwa [hF] at h
 rw [hF] at hf32 ⊢; clear hP hv hfc hF; obtain ⟨W, hW⟩ : ∃ W, W = w.alloc (.cells #[.int .i64 r.depth.lo, .int .i64 r.depth.hi, .int .i64 r.fall.lo, .int .i64 r.fall.hi, .int .i64 r.days, .slice fa fl fc, .slice la ll lc] 27) := ⟨_, rfl⟩; have HX : Hid (Blk W w.heap.size 27 #[.int .i64 r.depth.lo, .int .i64 r.depth.hi, .int .i64 r.fall.lo, .int .i64 r.fall.hi, .int .i64 r.days, .slice fa fl fc, .slice la ll lc]) := by rw [hW]; exact Blk.new w 27 _
 have HBW : Hid (Below w.heap.size w W) := by rw [hW]; exact (Below.refl _ _).alloc (Nat.le_refl _) _
 go_enter Tryz.func95, Tryz.ntmps95
 go_wp2_with fail; rw [← hW]
 clear hW; have q0 := HX.out.cell 0; have q1 := HX.out.cell 1; have q2 := HX.out.cell 2; have q3 := HX.out.cell 3; have q4 := HX.out.cell 4; have q5 := HX.out.cell 5; have q6 := HX.out.cell 6; have ql := HX.out.lt; simp at q0 q1 q2 q3 q4 q5 q6; go_upto_region 1 with (fail)
 refine wp_region_havoc [(0,false),(1,false),(2,false),(3,true),(4,false)] [] (fun _ _ => False) (by kernel_rfl) (by kernel_rfl) (fun _ _ _ _ h => h.elim) ?_
 iterate 2 (apply hav_same (by exact ho rfl) (by kernel_rfl); (focus (intro wv hgv _; have hcv := cvB hgv; (try go_simp); try rfl; done)); simp only [Act.put, qA9, qB9, qC9])
 (apply hav_call (by exact ho rfl) (by kernel_rfl); (focus (intro wv; go_simp; try exact ⟨rfl, rfl⟩; done)); (focus (intro wv hgv _; exact HEV.out wv; done)); simp only [Act.put, qA9, qB9, qC9])
 apply hav_call_ghost (fun v wv => ∃ A c, v = .slice A (truthsP r.nat F).length c ∧ TrsIn wv r.nat.fr.length A (truthsP r.nat F)) (by exact ho rfl) (by kernel_rfl)
 ·intro wv; go_simp; try exact ⟨rfl, rfl⟩
 ·rintro v w1 w2 ⟨A, c, h1, h2⟩ hg; exact ⟨A, c, h1, h2.below hg⟩
 ·intro wv hgv _; refine (truths_any (fc := fc) (lc := lc) HV.out hf32 wv (HP.out.grow (HBW.out.trans (hgv.mono HBW.out.size)))).mono ?_; rintro e w' ⟨A, c, rfl, h1, h2⟩; exact .inl ⟨_, rfl, h2, A, c, rfl, h1⟩
 intro v; simp only [Act.put, qA9, qB9, qC9]; (apply hav_same (by exact ho rfl) (by kernel_rfl); (focus (intro wv hgv _; have hcv := cvB hgv; (try go_simp); try rfl; done)); simp only [Act.put, qA9, qB9, qC9])
 refine hav_end (fun w5 hgw5 hF => ?_); simp only [List.filterMap]; have hcw5 : ∀ b o, b < _ → w5.cell? ⟨b, o, none⟩ = _ := fun b o hb => Below.cell hgw5 (p := ⟨b, o, none⟩) hb; have hfw5 : ∀ b o, b < _ → w5.frozen? ⟨b, o, none⟩ = _ := fun b o hb => Below.frozen hgw5 (p := ⟨b, o, none⟩) hb; have hzw5 := Below.size hgw5; (try simp at hzw5)
 obtain ⟨_, A, c, rfl, h1⟩ := hF; have HT := Lib.hid h1; have HB5 : Hid (Below w.heap.size w w5) := HBW.out.trans (hgw5.mono HBW.out.size); clear h1 hgw5 hcw5 hfw5; go_wp2; go_ret
 exact ⟨A, c, rfl, HT.out, HB5.out⟩
theorem check_any (is : Bool) (w : World) (hP : RvIn w w.heap.size fa fl la ll r) : Calls Tryz.prog 141 #[(.agg #[.int .i64 r.depth.lo, .int .i64 r.depth.hi, .int .i64 r.fall.lo, .int .i64 r.fall.hi, .int .i64 r.days, .slice fa fl fc, .slice la ll lc]), .bool is] w fun e w' => e = .returned (.int .i64 (if okR r = false then 1 else if is = false then 2 else 0)) ∧ Below w.heap.size w w' := by
 have HP := Lib.hid hP; clear hP; obtain ⟨C, hC⟩ : ∃ C : Int, (if okR r = false then 1 else if is = false then 2 else 0) = C := ⟨_, rfl⟩
 rw [hC]; have HC := Lib.hid hC; clear hC; obtain ⟨W, hW⟩ : ∃ W, W = w.alloc (.cells #[.int .i64 r.depth.lo, .int .i64 r.depth.hi, .int .i64 r.fall.lo, .int .i64 r.fall.hi, .int .i64 r.days, .slice fa fl fc, .slice la ll lc] 27) := ⟨_, rfl⟩; have HX : Hid (Blk W w.heap.size 27 #[.int .i64 r.depth.lo, .int .i64 r.depth.hi, .int .i64 r.fall.lo, .int .i64 r.fall.hi, .int .i64 r.days, .slice fa fl fc, .slice la ll lc]) := by rw [hW]; exact Blk.new w 27 _
 have HBW : Hid (Below w.heap.size w W) := by rw [hW]; exact (Below.refl _ _).alloc (Nat.le_refl _) _
 go_enter Tryz.func141, Tryz.ntmps141
 go_wp2_with fail; rw [← hW]
 clear hW; have q0 := HX.out.cell 0; have q1 := HX.out.cell 1; have q2 := HX.out.cell 2; have q3 := HX.out.cell 3; have q4 := HX.out.cell 4; have q5 := HX.out.cell 5; have q6 := HX.out.cell 6; have ql := HX.out.lt; simp at q0 q1 q2 q3 q4 q5 q6; go_wp2_with fail; refine (rriver_any (fc := fc) (lc := lc) W (HP.out.grow HBW.out)).mono ?_
 cases hk : okR r
 ·rintro e w' ⟨rfl, hb⟩; have HB5 : Hid (Below w.heap.size w w') := HBW.out.trans (hb.mono HBW.out.size); have HC1 : Hid (C = 1) := by show _ = _; rw [← HC.out, if_pos hk]
  clear hb hk; go_wp2; go_ret
  exact ⟨ret_int HC1.out.symm, HB5.out⟩
 ·rintro e w' ⟨rfl, hb⟩; have HB5 : Hid (Below w.heap.size w w') := HBW.out.trans (hb.mono HBW.out.size); cases is
  ·have HC1 : Hid (C = 2) := by show _ = _; rw [← HC.out, if_neg (by rw [hk]; simp), if_pos rfl]
   clear hb hk; go_wp2; go_ret
   exact ⟨ret_int HC1.out.symm, HB5.out⟩
  ·have HC1 : Hid (C = 0) := by show _ = _; rw [← HC.out, if_neg (by rw [hk]; simp), if_neg (by simp)]
   clear hb hk; go_wp2; go_ret
   exact ⟨ret_int HC1.out.symm, HB5.out⟩
def ToldR (r : IRiv) (is : Bool) (w : World) (e : Ending) (w' : World) : Prop :=
 Below w.heap.size w w' ∧ ((∃ E : Nat, toldE r is = E ∧ E ≠ 0 ∧ E ≤ 10 ∧ e = .returned (.tuple #[.slice none 0 0, .int .i64 E])) ∨
  (toldE r is = 0 ∧ okR r = true ∧ is = true ∧ truthsA r.nat ≠ [] ∧ ∃ A c, e = .returned (.tuple #[.slice A (truthsA r.nat).length c, .int .i64 0]) ∧ TrsIn w' r.nat.fr.length A (truthsA r.nat)))
theorem told_any (is : Bool) (w : World) (hP : RvIn w w.heap.size fa fl la ll r) : Calls Tryz.prog 126 #[(.agg #[.int .i64 r.depth.lo, .int .i64 r.depth.hi, .int .i64 r.fall.lo, .int .i64 r.fall.hi, .int .i64 r.days, .slice fa fl fc, .slice la ll lc]), .bool is] w (ToldR r is w) := by
 have HP := Lib.hid hP; have HLL : Hid (r.nat.lk.length = ll) := by show (r.lk.map (·.nat)).length = _; rw [List.length_map]; exact hP.ell
 clear hP; obtain ⟨W, hW⟩ : ∃ W, W = w.alloc (.cells #[.int .i64 r.depth.lo, .int .i64 r.depth.hi, .int .i64 r.fall.lo, .int .i64 r.fall.hi, .int .i64 r.days, .slice fa fl fc, .slice la ll lc] 27) := ⟨_, rfl⟩; have HX : Hid (Blk W w.heap.size 27 #[.int .i64 r.depth.lo, .int .i64 r.depth.hi, .int .i64 r.fall.lo, .int .i64 r.fall.hi, .int .i64 r.days, .slice fa fl fc, .slice la ll lc]) := by rw [hW]; exact Blk.new w 27 _
 have HBW : Hid (Below w.heap.size w W) := by rw [hW]; exact (Below.refl _ _).alloc (Nat.le_refl _) _
 go_enter Tryz.func126, Tryz.ntmps126
 go_wp2_with fail; rw [← hW]
 clear hW; have q0 := HX.out.cell 0; have q1 := HX.out.cell 1; have q2 := HX.out.cell 2; have q3 := HX.out.cell 3; have q4 := HX.out.cell 4; have q5 := HX.out.cell 5; have q6 := HX.out.cell 6; have ql := HX.out.lt; simp at q0 q1 q2 q3 q4 q5 q6; go_wp2_with fail; refine (check_any (fc := fc) (lc := lc) is W (HP.out.grow HBW.out)).mono ?_
 cases hk : okR r
 ·have HE : Hid (toldE r is = 1) := by show _ = _; rw [toldE, if_pos hk]
  rintro e w' ⟨rfl, hb⟩; have HB5 : Hid (Below w.heap.size w w') := HBW.out.trans (hb.mono HBW.out.size); clear hb hk; simp only [if_true]; go_wp2; go_ret2
  exact ⟨HB5.out, .inl ⟨1, HE.out, by omega, by omega, rfl⟩⟩
 ·cases is
  ·have HE : Hid (toldE r false = 2) := by show _ = _; rw [toldE, if_neg (by rw [hk]; simp), if_pos rfl]
   rintro e w' ⟨rfl, hb⟩; have HB5 : Hid (Below w.heap.size w w') := HBW.out.trans (hb.mono HBW.out.size); clear hb hk; simp only [if_true, Bool.true_eq_false, if_false]; go_wp2; go_ret2
   exact ⟨HB5.out, .inl ⟨2, HE.out, by omega, by omega, rfl⟩⟩
  ·have HK := Lib.hid hk; rintro e w' ⟨rfl, hb⟩; have HB5 : Hid (Below w.heap.size w w') := HBW.out.trans (hb.mono HBW.out.size); have HX5 := Lib.hid (HX.out.below hb HX.out.lt); clear hb hk q0 q1 q2 q3 q4 q5 q6 ql HX; have HX := HX5; have q0 := HX.out.cell 0; have q1 := HX.out.cell 1; have q2 := HX.out.cell 2; have q3 := HX.out.cell 3; have q4 := HX.out.cell 4; have q5 := HX.out.cell 5; have q6 := HX.out.cell 6; have ql := HX.out.lt; simp at q0 q1 q2 q3 q4 q5 q6; simp only [Bool.true_eq_false, if_false]; go_wp2_with fail; refine (rtruths_any (fc := fc) (lc := lc) HK.out w' (HP.out.grow HB5.out)).mono ?_; rintro e w2 ⟨A, c, rfl, htr, hb⟩; rw [show truthsP r.nat (full ll) = truthsA r.nat by rw [truthsA, HLL.out]] at htr ⊢
   have HTR := Lib.hid htr; have HB6 : Hid (Below w.heap.size w w2) := HB5.out.trans (hb.mono HB5.out.size); clear htr hb q0 q1 q2 q3 q4 q5 q6 ql; obtain ⟨N, hN⟩ : ∃ N, (truthsA r.nat).length = N := ⟨_, rfl⟩; rw [hN]; have HNN := Lib.hid hN; clear hN
   by_cases h0 : N = 0
   ·subst h0; have hz : truthsA r.nat = [] := List.eq_nil_of_length_eq_zero HNN.out; have HE : Hid (toldE r true = 10) := by show _ = _; rw [toldE, if_neg (by rw [HK.out]; simp), if_neg (by simp), if_pos hz]
    clear hz; go_wp2; go_ret2
    exact ⟨HB6.out, .inl ⟨10, HE.out, by omega, by omega, rfl⟩⟩
   ·have hz : truthsA r.nat ≠ [] := fun e => h0 (by rw [← HNN.out, e]; rfl)
    have HZ := Lib.hid hz; have HE : Hid (toldE r true = 0) := by show _ = _; rw [toldE, if_neg (by rw [HK.out]; simp), if_neg (by simp), if_neg hz]
    have hd : ((N : Int) == 0) = false := by simp; omega
    clear hz h0; go_wp2; go_ret2
    exact ⟨HB6.out, .inr ⟨HE.out, HK.out, rfl, HZ.out, A, c, by rw [HNN.out]; rfl, HTR.out⟩⟩
theorem rdraws_any (n : Int) (w : World) : Calls Tryz.prog 85 #[.int .i64 n] w fun e w' => e = .returned (.bool (isDrB n)) ∧ Below w.heap.size w w' := by
 go_enter Tryz.func85, Tryz.ntmps85
 go_wp2_with fail; refine (rin_any n 0 200 w).mono ?_
 rintro e w' ⟨rfl, rfl⟩; go_wp2; go_ret
 exact ⟨rfl, Below.refl _ _⟩
end
end Go.Proofs.YtgmfhngcehkibaaGreat
namespace Go.Proofs.YtgmfhngcehkibaaGreat
structure IWag where
 leaves : Int
 takes : ISp
 room : Int
structure ILot where
 from_ : Int
 bales : Int
 price : Int
 until_ : Int
 less : Int
structure ICart where
 riv : IRiv
 draws : Int
 wg : List IWag
 lt : List ILot
def wagB (w : IWag) : Bool := inB w.leaves 0 10 && (decide (1 ≤ w.takes.lo) && (decide (w.takes.lo ≤ w.takes.hi) && (decide (w.takes.hi ≤ 6) && inB w.room 0 30)))
def lotB (l : ILot) : Bool := inB l.from_ 0 10 && (inB l.bales 1 20 && (inB l.price 0 50 && (inB l.until_ 0 20 && inB l.less 0 l.price)))
def headC (c : ICart) : Bool := okR c.riv && (isDrB c.draws && (decide (c.wg.length ≤ 3) && decide (c.lt.length ≤ 5)))
def okC (c : ICart) : Bool := headC c && c.wg.all wagB && c.lt.all lotB
theorem okC_parts {c : ICart} (h : okC c = true) : okR c.riv = true ∧ isDrB c.draws = true ∧ c.wg.length ≤ 3 ∧ c.lt.length ≤ 5 ∧ (∀ w ∈ c.wg, wagB w = true) ∧ ∀ l ∈ c.lt, lotB l = true := by
 unfold okC headC at h; simp only [Bool.and_eq_true, decide_eq_true_eq, List.all_eq_true] at h; exact ⟨h.1.1.1, h.1.1.2.1, h.1.1.2.2.1, h.1.1.2.2.2, h.1.2, h.2⟩
theorem wagB_iff {w : IWag} : wagB w = true ↔ 0 ≤ w.leaves ∧ w.leaves ≤ 10 ∧ 1 ≤ w.takes.lo ∧ w.takes.lo ≤ w.takes.hi ∧ w.takes.hi ≤ 6 ∧ 0 ≤ w.room ∧ w.room ≤ 30 := by
 unfold wagB; simp only [Bool.and_eq_true, decide_eq_true_eq, inB_iff]
 omega
theorem lotB_iff {l : ILot} : lotB l = true ↔ 0 ≤ l.from_ ∧ l.from_ ≤ 10 ∧ 1 ≤ l.bales ∧ l.bales ≤ 20 ∧ 0 ≤ l.price ∧ l.price ≤ 50 ∧ 0 ≤ l.until_ ∧ l.until_ ≤ 20 ∧ 0 ≤ l.less ∧ l.less ≤ l.price := by
 unfold lotB; simp only [Bool.and_eq_true, inB_iff]
 omega
def comesP (w : IWag) : Int × Int := (w.leaves + w.takes.lo, w.leaves + w.takes.hi)
def allT (days : Nat) (S : Nat) (first : Nat) : Nat → Bool
 | 0 => true
 | n + 1 => allT days S first n && (decide (first + n ≤ days) && S.testBit (first + n))
def someT (days : Nat) (S : Nat) (first : Nat) : Nat → Bool
 | 0 => false
 | n + 1 => someT days S first n || (decide (first + n ≤ days) && S.testBit (first + n))
def timelyW (r : Riv) (draws : Nat) (w : IWag) : Nat :=
 let first := (w.leaves + w.takes.lo).toNat
 let n := (w.takes.hi - w.takes.lo + 1).toNat
 if allT r.days (surelyP r draws) first n = true then 2 else if someT r.days (perhapsP r draws) first n = true then 1 else 0
def ICart.tm (c : ICart) (w : IWag) : Nat := timelyW c.riv.nat c.draws.toNat w
def brokenW (t : Nat) (l : ILot) (w : IWag) (room : Int) : Nat :=
 if l.from_ > w.leaves then 1 else if l.bales > room then 2 else if t ≠ 2 then 3 else 0
def bringsP (l : ILot) (day : Int) : Int := if day ≤ l.until_ then l.bales * l.price else l.bales * l.less
abbrev Rm := Nat → Int
def takeR (R : Rm) (w : Nat) (b : Int) : Rm := fun i => if i = w then R i - b else R i
def roomP (ws : List IWag) : Rm := fun i => match ws[i]? with | some w => w.room | none => 0
section
variable (tm : IWag → Nat) (ws : List IWag)
def fitsW (l : ILot) (i : Nat) (R : Rm) : Bool := match ws[i]? with
 | some w => brokenW (tm w) l w (R i) == 0
 | none => false
def checkL : Nat → List ILot → List Int → Rm → Option (Nat × Nat)
 | k, l :: ls, p :: ps, R =>
  if p < 0 then checkL (k + 1) ls ps R else
   match ws[p.toNat]? with
   | some w => if brokenW (tm w) l w (R p.toNat) = 0 then checkL (k + 1) ls ps (takeR R p.toNat l.bales) else some (k, brokenW (tm w) l w (R p.toNat))
   | none => none
 | _, _, _, _ => none
def bestL : Int × Int → List (Int × Int) → Int × Int
 | x, [] => x
 | x, y :: l => if x.1 < y.1 then bestL y l else bestL x l
section
variable (of_ : ILot → IWag → Int)
def waysL (l : ILot) (on : Rm → Int × Int) (R : Rm) : Nat → List (Int × Int)
 | 0 => []
 | n + 1 => waysL l on R n ++ (match ws[n]? with
  | some w => if brokenW (tm w) l w (R n) = 0 then [(of_ l w + (on (takeR R n l.bales)).1, (n : Int))] else []
  | none => [])
def onP : List ILot → Rm → Int × Int
 | [], _ => (0, 0)
 | l :: ls, R => bestL ((onP ls R).1, -1) (waysL tm ws of_ l (onP ls) R ws.length)
def planL : List ILot → Rm → List Int
 | [], _ => []
 | l :: ls, R =>
  let w := (onP tm ws of_ (l :: ls) R).2
  w :: planL ls (if 0 ≤ w then takeR R w.toNat l.bales else R)
def plansN (on : Rm → List (List Int)) (l : ILot) (R : Rm) : Nat → List (List Int)
 | 0 => []
 | n + 1 => plansN on l R n ++ (if fitsW tm ws l n R then (on (takeR R n l.bales)).map ((n : Int) :: ·) else [])
def plansL : List ILot → Rm → List (List Int)
 | [], _ => [[]]
 | l :: ls, R => (plansL ls R).map (-1 :: ·) ++ plansN tm ws (plansL ls) l R ws.length
def valL : List ILot → List Int → Int
 | l :: ls, p :: ps => (if p < 0 then 0 else match ws[p.toNat]? with | some w => of_ l w | none => 0) + valL ls ps
 | _, _ => 0
def firstL (v : List Int → Int) : List Int → List (List Int) → List Int
 | x, [] => x
 | x, y :: l => if v x < v y then firstL v y l else firstL v x l
end
end
section
variable (v : List Int → Int)
theorem firstL_append : ∀ (l : List (List Int)) (x : List Int) (m : List (List Int)), firstL v x (l ++ m) = firstL v (firstL v x l) m
 | [], _, _ => rfl
 | y :: l, x, m => by
  rw [List.cons_append, firstL, firstL]
  split
  ·exact firstL_append l y m
  ·exact firstL_append l x m
theorem firstL_cons : ∀ (l : List (List Int)) (x y : List Int), firstL v x (y :: l) = if v x < v (firstL v y l) then firstL v y l else x
 | [], x, y => by show (if v x < v y then y else x) = _; rfl
 | z :: l, x, y => by
  have h1 := firstL_cons l x z; have h2 := firstL_cons l y z; rw [firstL, h2]
  by_cases a : v x < v y
  ·rw [if_pos a]
   by_cases b : v y < v (firstL v z l)
   ·rw [if_pos b, if_pos (by omega)]
   ·rw [if_neg b, if_pos a]
  ·rw [if_neg a, h1]
   by_cases b : v y < v (firstL v z l)
   ·rw [if_pos b]
   ·rw [if_neg b, if_neg a, if_neg (by omega)]
end
theorem bestL_append : ∀ (l : List (Int × Int)) (x : Int × Int) (m : List (Int × Int)), bestL x (l ++ m) = bestL (bestL x l) m
 | [], _, _ => rfl
 | y :: l, x, m => by
  rw [List.cons_append, bestL, bestL]
  split
  ·exact bestL_append l y m
  ·exact bestL_append l x m
section
variable (tm : IWag → Nat) (ws : List IWag) (of_ : ILot → IWag → Int)
theorem firstL_map (l : ILot) (ls : List ILot) (p c : Int) (hc : ∀ q, valL ws of_ (l :: ls) (p :: q) = c + valL ws of_ ls q) : ∀ (m : List (List Int)) (x : List Int), firstL (valL ws of_ (l :: ls)) (p :: x) (m.map (p :: ·)) = p :: firstL (valL ws of_ ls) x m
 | [], _ => rfl
 | y :: m, x => by
  rw [List.map_cons, firstL, firstL, hc, hc]
  by_cases a : valL ws of_ ls x < valL ws of_ ls y
  ·rw [if_pos a, if_pos (by omega)]; exact firstL_map l ls p c hc m y
  ·rw [if_neg a, if_neg (by omega)]; exact firstL_map l ls p c hc m x
theorem valL_no (l : ILot) (ls : List ILot) (q : List Int) : valL ws of_ (l :: ls) (-1 :: q) = 0 + valL ws of_ ls q := by rw [valL, if_pos (by omega)]
theorem valL_on (l : ILot) (ls : List ILot) {n : Nat} {w : IWag} (hw : ws[n]? = some w) (q : List Int) : valL ws of_ (l :: ls) ((n : Int) :: q) = of_ l w + valL ws of_ ls q := by
 rw [valL, if_neg (by omega), Int.toNat_natCast, hw]
theorem fitsW_some {l : ILot} {n : Nat} {w : IWag} {R : Rm} (hw : ws[n]? = some w) : fitsW tm ws l n R = (brokenW (tm w) l w (R n) == 0) := by unfold fitsW; rw [hw]
def bestN (l : ILot) (ls : List ILot) (R : Rm) (n : Nat) : Int × Int := bestL ((onP tm ws of_ ls R).1, -1) (waysL tm ws of_ l (onP tm ws of_ ls) R n)
theorem bestN_zero (l : ILot) (ls : List ILot) (R : Rm) : bestN tm ws of_ l ls R 0 = ((onP tm ws of_ ls R).1, -1) := rfl
theorem bestN_succ (l : ILot) (ls : List ILot) (R : Rm) {n : Nat} {w : IWag} (hw : ws[n]? = some w) : bestN tm ws of_ l ls R (n + 1) =
  if brokenW (tm w) l w (R n) = 0 ∧ (bestN tm ws of_ l ls R n).1 < of_ l w + (onP tm ws of_ ls (takeR R n l.bales)).1 then (of_ l w + (onP tm ws of_ ls (takeR R n l.bales)).1, (n : Int)) else bestN tm ws of_ l ls R n := by
 unfold bestN; rw [waysL, bestL_append, hw]; simp only
 by_cases a : brokenW (tm w) l w (R n) = 0
 ·rw [if_pos a, bestL]; simp only [bestL, a, true_and]
 ·rw [if_neg a, bestL, if_neg (fun h => a h.1)]
theorem onP_best (l : ILot) (ls : List ILot) (R : Rm) : onP tm ws of_ (l :: ls) R = bestN tm ws of_ l ls R ws.length := rfl
structure BestI (l : ILot) (ls : List ILot) (R : Rm) (n : Nat) : Prop where
 no : (onP tm ws of_ ls R).1 ≤ (bestN tm ws of_ l ls R n).1
 no_eq : (onP tm ws of_ ls R).1 = (bestN tm ws of_ l ls R n).1 → (bestN tm ws of_ l ls R n).2 = -1
 on : ∀ (i : Nat) (w : IWag), i < n → ws[i]? = some w → brokenW (tm w) l w (R i) = 0 → of_ l w + (onP tm ws of_ ls (takeR R i l.bales)).1 ≤ (bestN tm ws of_ l ls R n).1
 on_eq : ∀ (i : Nat) (w : IWag), i < n → ws[i]? = some w → brokenW (tm w) l w (R i) = 0 → of_ l w + (onP tm ws of_ ls (takeR R i l.bales)).1 = (bestN tm ws of_ l ls R n).1 → (bestN tm ws of_ l ls R n).2 ≤ i
 is : ((bestN tm ws of_ l ls R n).2 = -1 ∧ (bestN tm ws of_ l ls R n).1 = (onP tm ws of_ ls R).1) ∨ ∃ (i : Nat) (w : IWag), i < n ∧ ws[i]? = some w ∧ brokenW (tm w) l w (R i) = 0 ∧ (bestN tm ws of_ l ls R n).2 = i ∧ (bestN tm ws of_ l ls R n).1 = of_ l w + (onP tm ws of_ ls (takeR R i l.bales)).1
theorem bestI (l : ILot) (ls : List ILot) (R : Rm) : ∀ n, n ≤ ws.length → BestI tm ws of_ l ls R n
 | 0, _ => ⟨Int.le_refl _, fun _ => rfl, fun i _ h => by omega, fun i _ h => by omega, .inl ⟨rfl, rfl⟩⟩
 | n + 1, hn => by
  have ih := bestI l ls R n (by omega)
  obtain ⟨w, hw⟩ : ∃ w, ws[n]? = some w := ⟨_, List.getElem?_eq_getElem (by omega)⟩
  have hs := bestN_succ tm ws of_ l ls R hw
  have hb2 : (bestN tm ws of_ l ls R n).2 < n := by
   rcases ih.is with ⟨h, -⟩ | ⟨i, _, h1, _, _, h2, _⟩
   ·omega
   ·omega
  by_cases a : brokenW (tm w) l w (R n) = 0 ∧ (bestN tm ws of_ l ls R n).1 < of_ l w + (onP tm ws of_ ls (takeR R n l.bales)).1
  ·rw [if_pos a] at hs; have b := a.2; have i1 := ih.no
   refine ⟨by rw [hs]; simp only; omega, fun h => ?_, fun i w' hi hw' hf => ?_, fun i w' hi hw' hf h => ?_, .inr ⟨n, w, by omega, hw, a.1, by rw [hs], by rw [hs]⟩⟩
   ·rw [hs] at h; simp only at h; omega
   ·rw [hs]; simp only
    by_cases e : i = n
    ·subst e; rw [hw] at hw'; cases hw'; exact Int.le_refl _
    ·have := ih.on i w' (by omega) hw' hf; omega
   ·rw [hs] at h ⊢; simp only at h ⊢
    by_cases e : i = n
    ·subst e; exact Int.le_refl _
    ·have := ih.on i w' (by omega) hw' hf; omega
  ·rw [if_neg a] at hs
   refine ⟨by rw [hs]; exact ih.no, by rw [hs]; exact ih.no_eq, fun i w' hi hw' hf => ?_, fun i w' hi hw' hf h => ?_, by rw [hs]; exact ih.is.imp_right fun ⟨i, w', h1, h2⟩ => ⟨i, w', by omega, h2⟩⟩
   ·rw [hs]
    by_cases e : i = n
    ·subst e; rw [hw] at hw'; cases hw'
     by_cases c : (bestN tm ws of_ l ls R i).1 < of_ l w + (onP tm ws of_ ls (takeR R i l.bales)).1
     ·exact absurd ⟨hf, c⟩ a
     ·omega
    ·exact ih.on i w' (by omega) hw' hf
   ·rw [hs] at h ⊢
    by_cases e : i = n
    ·subst e; omega
    ·exact ih.on_eq i w' (by omega) hw' hf h
theorem onP_is (l : ILot) (ls : List ILot) (R : Rm) : BestI tm ws of_ l ls R ws.length := bestI tm ws of_ l ls R _ (Nat.le_refl _)
def nextR (R : Rm) (l : ILot) (w : Int) : Rm := if 0 ≤ w then takeR R w.toNat l.bales else R
theorem planL_cons (l : ILot) (ls : List ILot) (R : Rm) : planL tm ws of_ (l :: ls) R = (onP tm ws of_ (l :: ls) R).2 :: planL tm ws of_ ls (nextR R l (onP tm ws of_ (l :: ls) R).2) := rfl
theorem plan_val : ∀ (ls : List ILot) (R : Rm), valL ws of_ ls (planL tm ws of_ ls R) = (onP tm ws of_ ls R).1
 | [], _ => rfl
 | l :: ls, R => by
  rw [planL_cons]; have h := (onP_is tm ws of_ l ls R).is; rw [← onP_best] at h; rcases h with ⟨h1, h2⟩ | ⟨i, w, hi, hw, hf, h1, h2⟩
  ·rw [h1, valL_no, plan_val ls, h2]; unfold nextR; rw [if_neg (by omega)]
   omega
  ·rw [h1, valL_on ws of_ l ls hw, plan_val ls, h2]; unfold nextR; rw [if_pos (by omega), Int.toNat_natCast]
def rightL : List ILot → List Int → Rm → Prop
 | [], ps, _ => ps = []
 | l :: ls, ps, R => ∃ p q, ps = p :: q ∧ ((p = -1 ∧ rightL ls q R) ∨ ∃ i : Nat, p = i ∧ fitsW tm ws l i R = true ∧ rightL ls q (takeR R i l.bales))
theorem fitsW_is {l : ILot} {i : Nat} {R : Rm} (h : fitsW tm ws l i R = true) : ∃ w, ws[i]? = some w ∧ brokenW (tm w) l w (R i) = 0 := by
 unfold fitsW at h
 split at h
 ·rename_i w hw; exact ⟨w, hw, by simpa using h⟩
 ·cases h
theorem plan_right : ∀ (ls : List ILot) (R : Rm), rightL tm ws ls (planL tm ws of_ ls R) R
 | [], _ => rfl
 | l :: ls, R => by
  rw [planL_cons]; have h := (onP_is tm ws of_ l ls R).is; rw [← onP_best] at h; refine ⟨_, _, rfl, ?_⟩; rcases h with ⟨h1, h2⟩ | ⟨i, w, hi, hw, hf, h1, h2⟩
  ·refine .inl ⟨h1, ?_⟩; rw [h1]; unfold nextR; rw [if_neg (by omega)]
   exact plan_right ls R
  ·refine .inr ⟨i, h1, by rw [fitsW_some tm ws hw, hf]; rfl, ?_⟩
   rw [h1]; unfold nextR; rw [if_pos (by omega), Int.toNat_natCast]
   exact plan_right ls _
theorem plansL_ne : ∀ (ls : List ILot) (R : Rm), ∃ x m, plansL tm ws ls R = x :: m
 | [], _ => ⟨[], [], rfl⟩
 | l :: ls, R => by
  obtain ⟨x, m, h⟩ := plansL_ne ls R; exact ⟨_, _, by rw [plansL, h]; rfl⟩
theorem plans_first : ∀ (ls : List ILot) (R : Rm) (x : List Int) (m : List (List Int)), plansL tm ws ls R = x :: m → firstL (valL ws of_ ls) x m = planL tm ws of_ ls R
 | [], R, x, m, h => by rw [plansL] at h; cases h; rfl
 | l :: ls, R, x, m, h => by
  have key : ∀ n, n ≤ ws.length → ∀ x m, (plansL tm ws ls R).map (-1 :: ·) ++ plansN tm ws (plansL tm ws ls) l R n = x :: m →
    firstL (valL ws of_ (l :: ls)) x m = (bestN tm ws of_ l ls R n).2 :: planL tm ws of_ ls (nextR R l (bestN tm ws of_ l ls R n).2) ∧ valL ws of_ (l :: ls) (firstL (valL ws of_ (l :: ls)) x m) = (bestN tm ws of_ l ls R n).1 := by
   intro n
   induction n with
   | zero =>
    intro _ x m h; obtain ⟨y, k, hy⟩ := plansL_ne tm ws ls R; rw [hy, plansN, List.append_nil, List.map_cons] at h; cases h
    rw [firstL_map ws of_ l ls (-1) 0 (valL_no ws of_ l ls), plans_first ls R y k hy, bestN_zero, valL_no, plan_val]; refine ⟨?_, by simp⟩
    show _ = -1 :: planL tm ws of_ ls (nextR R l (-1)); unfold nextR; rw [if_neg (by omega)]
   | succ n ih =>
    intro hn x m h; obtain ⟨w, hw⟩ : ∃ w, ws[n]? = some w := ⟨_, List.getElem?_eq_getElem (by omega)⟩
    obtain ⟨x0, m0, h0⟩ : ∃ x m, (plansL tm ws ls R).map (-1 :: ·) ++ plansN tm ws (plansL tm ws ls) l R n = x :: m := by
     obtain ⟨y, k, hy⟩ := plansL_ne tm ws ls R; exact ⟨_, _, by rw [hy]; rfl⟩
    obtain ⟨i1, i2⟩ := ih (by omega) x0 m0 h0
    rw [plansN, ← List.append_assoc, h0, fitsW_some tm ws hw] at h; have hs := bestN_succ tm ws of_ l ls R hw
    by_cases a : brokenW (tm w) l w (R n) = 0
    ·rw [a, if_pos (show ((0 : Nat) == 0) = true from rfl), List.cons_append] at h
     cases h
     obtain ⟨y, k, hy⟩ := plansL_ne tm ws ls (takeR R n l.bales); rw [hy, List.map_cons, firstL_append, firstL_cons, firstL_map ws of_ l ls n (of_ l w) (valL_on ws of_ l ls hw), plans_first ls _ y k hy, valL_on ws of_ l ls hw, plan_val, i2, hs]
     by_cases b : (bestN tm ws of_ l ls R n).1 < of_ l w + (onP tm ws of_ ls (takeR R n l.bales)).1
     ·rw [if_pos b, if_pos ⟨a, b⟩]; refine ⟨?_, by rw [valL_on ws of_ l ls hw, plan_val]⟩
      show _ = (n : Int) :: planL tm ws of_ ls (nextR R l (n : Int)); unfold nextR; rw [if_pos (by omega), Int.toNat_natCast]
     ·rw [if_neg b, if_neg (fun h => b h.2)]
      exact ⟨i1, i2⟩
    ·rw [if_neg (by simpa using a), List.append_nil] at h
     cases h
     rw [hs, if_neg (fun h => a h.1)]
     exact ⟨i1, i2⟩
  exact (key ws.length (Nat.le_refl _) x m h).1
end
end Go.Proofs.YtgmfhngcehkibaaGreat
namespace Go.Proofs.YtgmfhngcehkibaaGreat
open Go.RowKit Go.Hav Go.Shelf Go.Sq
attribute [local go_sem] Oper.semAt_some
def refC (e : Int) : PanicEntry := { v := .iface 120 (.agg #[.int .i64 e]), recovered := false }
theorem cx31 {w : World} {b : Nat} {a0 a1 a2 a3 a4 a5 a6 a7 a8 a9 : Value} (h : Blk w b 31 #[a0, a1, a2, a3, a4, a5, a6, a7, a8, a9]) : w.cell? ⟨b, 0, none⟩ = some a0 ∧ w.cell? ⟨b, 1, none⟩ = some a1 ∧ w.cell? ⟨b, 2, none⟩ = some a2 ∧ w.cell? ⟨b, 3, none⟩ = some a3 ∧ w.cell? ⟨b, 4, none⟩ = some a4 ∧ w.cell? ⟨b, 5, none⟩ = some a5 ∧ w.cell? ⟨b, 6, none⟩ = some a6 ∧ w.cell? ⟨b, 7, none⟩ = some a7 ∧ w.cell? ⟨b, 8, none⟩ = some a8 ∧ w.cell? ⟨b, 9, none⟩ = some a9 ∧ b < w.heap.size :=
 ⟨h.cell 0, h.cell 1, h.cell 2, h.cell 3, h.cell 4, h.cell 5, h.cell 6, h.cell 7, h.cell 8, h.cell 9, h.lt⟩
theorem cmust_any (b : Bool) (e : Int) (w : World) : Calls Tryz.prog 60 #[.bool b, .int .i64 e] w fun x w' => x = (if b then .returned (.tuple #[]) else .panicked [refC e]) ∧ w' = w := by
 cases b
 ·go_enter Tryz.func60, Tryz.ntmps60
  go_wp2; exact ⟨rfl, rfl, rfl⟩
 ·go_enter Tryz.func60, Tryz.ntmps60
  go_wp2
  go_end0
  exact ⟨rfl, rfl⟩
theorem cwithin_any (n lo hi : Int) (w : World) :
  Calls Tryz.prog 93 #[.int .i64 n, .int .i64 lo, .int .i64 hi] w fun e w' => e = .returned (.bool (inB n lo hi)) ∧ w' = w := by
 by_cases h1 : lo ≤ n
 ·have hl : decide (lo ≤ n) = true := by simp [h1]
  go_enter Tryz.func93, Tryz.ntmps93
  go_wp2; go_ret
  exact ⟨ret_bool (by simp [inB, h1]), rfl⟩
 ·have hl : decide (lo ≤ n) = false := by simp [h1]
  go_enter Tryz.func93, Tryz.ntmps93
  go_wp2; go_ret
  exact ⟨ret_bool (by simp [inB]; omega), rfl⟩
theorem cstopped_nil (p : Addr) (w : World) : Calls Tryz.prog 43 #[.nilIface, .pointer (some p)] w fun e w' => e = .returned (.tuple #[]) ∧ w' = w := by
 go_enter Tryz.func43, Tryz.ntmps43
 go_wp2; refine bodyPost_ret (results_none rfl _ _ _) rfl ⟨rfl, rfl⟩
def ansC (w : World) (b : Nat) (e : Int) : World := (w.setCell ⟨b, 0, none⟩ (.int .i64 e)).alloc (.cells #[.int .i64 e] 120)
theorem cstopped_err (b : Nat) (x e : Int) (w : World) (hk : Blk w b 35 #[.int .i64 x]) :
  Calls Tryz.prog 43 #[.iface 120 (.agg #[.int .i64 e]), .pointer (some ⟨b, 0, none⟩)] w fun en w' => en = .returned (.tuple #[]) ∧ w' = ansC w b e := by
 have hta : ∀ w, (Instr.typeAssert (.iface 120 (.agg #[.int .i64 e])) 20 120 true).run Tryz.prog w = .ok (.tuple #[.agg #[.int .i64 e], .bool true]) w := fun w => by kernel_rfl
 have HK := Lib.hid (hk.alloc (.cells #[.int .i64 e] 120)); have hc : (w.alloc (.cells #[.int .i64 e] 120)).cell? ⟨b, 0, none⟩ = some (.int .i64 x) := HK.out.cell 0; have hz : (w.alloc (.cells #[.int .i64 e] 120)).frozen? ⟨b, 0, none⟩ = false := HK.out.frozen 0; have hl := hk.lt; clear hk; unfold ansC
 go_enter Tryz.func43, Tryz.ntmps43
 go_wp2
 go_end0
 exact ⟨rfl, rfl⟩
def IsAnsC (f : Nat) : Prop := (∀ (b : Nat) (x e : Int) (w : World) (n : Nat), Blk w b 35 #[.int .i64 x] → CallsDIn Fence.wide n Tryz.prog f #[.pointer (some ⟨b, 0, none⟩)] (.panicking [refC e]) w fun en u' w' => en = .returned (.tuple #[]) ∧ u' = .panicking [{ refC e with recovered := true }] ∧ w' = ansC w b e) ∧
 ∀ (p : Addr) (w : World) (n : Nat), CallsDIn Fence.wide n Tryz.prog f #[.pointer (some p)] .returning w fun en u' w' => en = .returned (.tuple #[]) ∧ u' = .returning ∧ w' = w
theorem isAnsC42 : IsAnsC 42 := by
 refine ⟨fun b x e w n hk => ?_, fun p w n => ?_⟩
 ·refine callsDIn_of_wpS Tryz.func42 rfl fun c₀ cs hu => ?_
  apply wpS_region
  simp [wpOpsS, go_sem, recoverD, hu, Tryz.ntmps42, refC]
  refine (cstopped_err b x e w hk).mono ?_; rintro en w' ⟨rfl, rfl⟩
  simp [bodyPostS, results, Tryz.results42, go_sem]
 ·refine callsDIn_of_wpS Tryz.func42 rfl fun c₀ cs hu => ?_
  apply wpS_region
  simp [wpOpsS, go_sem, recoverD, hu, Tryz.ntmps42]
  refine (cstopped_nil p w).mono ?_; rintro en w' ⟨rfl, rfl⟩; cases c₀
  simp_all [bodyPostS, results, Tryz.results42, go_sem]
theorem isAnsC50 : IsAnsC 50 := by
 refine ⟨fun b x e w n hk => ?_, fun p w n => ?_⟩
 ·refine callsDIn_of_wpS Tryz.func50 rfl fun c₀ cs hu => ?_
  apply wpS_region
  simp [wpOpsS, go_sem, recoverD, hu, Tryz.ntmps50, refC]
  refine (cstopped_err b x e w hk).mono ?_; rintro en w' ⟨rfl, rfl⟩
  simp [bodyPostS, results, Tryz.results50, go_sem]
 ·refine callsDIn_of_wpS Tryz.func50 rfl fun c₀ cs hu => ?_
  apply wpS_region
  simp [wpOpsS, go_sem, recoverD, hu, Tryz.ntmps50]
  refine (cstopped_nil p w).mono ?_; rintro en w' ⟨rfl, rfl⟩; cases c₀
  simp_all [bodyPostS, results, Tryz.results50, go_sem]
theorem isAnsC56 : IsAnsC 56 := by
 refine ⟨fun b x e w n hk => ?_, fun p w n => ?_⟩
 ·refine callsDIn_of_wpS Tryz.func56 rfl fun c₀ cs hu => ?_
  apply wpS_region
  simp [wpOpsS, go_sem, recoverD, hu, Tryz.ntmps56, refC]
  refine (cstopped_err b x e w hk).mono ?_; rintro en w' ⟨rfl, rfl⟩
  simp [bodyPostS, results, Tryz.results56, go_sem]
 ·refine callsDIn_of_wpS Tryz.func56 rfl fun c₀ cs hu => ?_
  apply wpS_region
  simp [wpOpsS, go_sem, recoverD, hu, Tryz.ntmps56]
  refine (cstopped_nil p w).mono ?_; rintro en w' ⟨rfl, rfl⟩; cases c₀
  simp_all [bodyPostS, results, Tryz.results56, go_sem]
theorem isAnsC64 : IsAnsC 64 := by
 refine ⟨fun b x e w n hk => ?_, fun p w n => ?_⟩
 ·refine callsDIn_of_wpS Tryz.func64 rfl fun c₀ cs hu => ?_
  apply wpS_region
  simp [wpOpsS, go_sem, recoverD, hu, Tryz.ntmps64, refC]
  refine (cstopped_err b x e w hk).mono ?_; rintro en w' ⟨rfl, rfl⟩
  simp [bodyPostS, results, Tryz.results64, go_sem]
 ·refine callsDIn_of_wpS Tryz.func64 rfl fun c₀ cs hu => ?_
  apply wpS_region
  simp [wpOpsS, go_sem, recoverD, hu, Tryz.ntmps64]
  refine (cstopped_nil p w).mono ?_; rintro en w' ⟨rfl, rfl⟩; cases c₀
  simp_all [bodyPostS, results, Tryz.results64, go_sem]
theorem isAnsC70 : IsAnsC 70 := by
 refine ⟨fun b x e w n hk => ?_, fun p w n => ?_⟩
 ·refine callsDIn_of_wpS Tryz.func70 rfl fun c₀ cs hu => ?_
  apply wpS_region
  simp [wpOpsS, go_sem, recoverD, hu, Tryz.ntmps70, refC]
  refine (cstopped_err b x e w hk).mono ?_; rintro en w' ⟨rfl, rfl⟩
  simp [bodyPostS, results, Tryz.results70, go_sem]
 ·refine callsDIn_of_wpS Tryz.func70 rfl fun c₀ cs hu => ?_
  apply wpS_region
  simp [wpOpsS, go_sem, recoverD, hu, Tryz.ntmps70]
  refine (cstopped_nil p w).mono ?_; rintro en w' ⟨rfl, rfl⟩; cases c₀
  simp_all [bodyPostS, results, Tryz.results70, go_sem]
theorem isAnsC76 : IsAnsC 76 := by
 refine ⟨fun b x e w n hk => ?_, fun p w n => ?_⟩
 ·refine callsDIn_of_wpS Tryz.func76 rfl fun c₀ cs hu => ?_
  apply wpS_region
  simp [wpOpsS, go_sem, recoverD, hu, Tryz.ntmps76, refC]
  refine (cstopped_err b x e w hk).mono ?_; rintro en w' ⟨rfl, rfl⟩
  simp [bodyPostS, results, Tryz.results76, go_sem]
 ·refine callsDIn_of_wpS Tryz.func76 rfl fun c₀ cs hu => ?_
  apply wpS_region
  simp [wpOpsS, go_sem, recoverD, hu, Tryz.ntmps76]
  refine (cstopped_nil p w).mono ?_; rintro en w' ⟨rfl, rfl⟩; cases c₀
  simp_all [bodyPostS, results, Tryz.results76, go_sem]
theorem isAnsC79 : IsAnsC 79 := by
 refine ⟨fun b x e w n hk => ?_, fun p w n => ?_⟩
 ·refine callsDIn_of_wpS Tryz.func79 rfl fun c₀ cs hu => ?_
  apply wpS_region
  simp [wpOpsS, go_sem, recoverD, hu, Tryz.ntmps79, refC]
  refine (cstopped_err b x e w hk).mono ?_; rintro en w' ⟨rfl, rfl⟩
  simp [bodyPostS, results, Tryz.results79, go_sem]
 ·refine callsDIn_of_wpS Tryz.func79 rfl fun c₀ cs hu => ?_
  apply wpS_region
  simp [wpOpsS, go_sem, recoverD, hu, Tryz.ntmps79]
  refine (cstopped_nil p w).mono ?_; rintro en w' ⟨rfl, rfl⟩; cases c₀
  simp_all [bodyPostS, results, Tryz.results79, go_sem]
theorem api_panicC {f b B n : Nat} {x e : Int} {fn : Func} {tmps : Array Value} {R : Ending → World → Prop} {ds : List Deferred} {w : World} (hf : IsAnsC f) (ef : ∀ args w, (callFunc f args).run Tryz.prog w = .ok (.enter f args) w) (hm : Marks B w ds) (hk : Blk w b 35 #[.int .i64 x])
  (hfin : ∀ w', Blk w' b 35 #[.int .i64 e] → (∀ (g : Nat) (t : TypeId) (cs : Array Value), g ≠ b → Blk w g t cs → Blk w' g t cs) → (∀ N, N ≤ B → N ≤ b → Below N w w') → ∃ v, (results fn tmps).run Tryz.prog w' = .ok v w' ∧ R (.returned v) w') :
  LeavesInM Fence.wide n Tryz.prog fn tmps R (ds ++ [ansD f b]) (.panicking [refC e]) w := by
 refine leaves_marksR (by simp) _ ds w hm fun w1 hs => ?_
 refine ⟨by simp, .inr ⟨by simp [Fence.wide], .func f, #[.pointer (some ⟨b, 0, none⟩)], f, #[.pointer (some ⟨b, 0, none⟩)], rfl, by simp [ansD, invoke, go_sem, ef], fun _ _ => trivial, ?_⟩⟩
 refine (hf.1 b x e w1 (n - 1) (hs.blk hk)).mono ?_; rintro en u' w' ⟨rfl, rfl, rfl⟩; have hsz := (hs.blk hk).lt; have hb1 : Blk (ansC w1 b e) b 35 #[.int .i64 e] := ((hs.blk hk).set_ 0 _).alloc _
 refine hfin _ hb1 (fun g t cs hg h => ((hs.blk h).far (p := ⟨b, 0, none⟩) hg _).alloc _) (fun N h1 h2 => ?_)
 have h3 := (hs.below h1).size; have h4 : N ≤ w1.heap.size := by omega
 exact ((hs.below h1).setCell (p := ⟨b, 0, none⟩) h2 _).alloc (by rw [hs.size] at h4; simpa [World.setCell, hs.size] using h4) _
theorem api_retC {f b B n : Nat} {fn : Func} {tmps : Array Value} {R : Ending → World → Prop} {ds : List Deferred} {w : World} (hf : IsAnsC f) (ef : ∀ args w, (callFunc f args).run Tryz.prog w = .ok (.enter f args) w) (hm : Marks B w ds)
  (hfin : ∀ w', (∀ (g : Nat) (t : TypeId) (cs : Array Value), Blk w g t cs → Blk w' g t cs) → (∀ N, N ≤ B → Below N w w') → ∃ v, (results fn tmps).run Tryz.prog w' = .ok v w' ∧ R (.returned v) w') :
  LeavesInM Fence.wide n Tryz.prog fn tmps R (ds ++ [ansD f b]) .returning w := by
 refine leaves_marksR (by simp) _ ds w hm fun w1 hs => ?_
 refine ⟨by simp, .inr ⟨by simp [Fence.wide], .func f, #[.pointer (some ⟨b, 0, none⟩)], f, #[.pointer (some ⟨b, 0, none⟩)], rfl, by simp [ansD, invoke, go_sem, ef], fun _ _ => trivial, ?_⟩⟩
 refine (hf.2 ⟨b, 0, none⟩ w1 (n - 1)).mono ?_; rintro en u' w' ⟨rfl, rfl, rfl⟩
 exact hfin _ (fun g t cs h => hs.blk h) (fun N h1 => hs.below h1)
end Go.Proofs.YtgmfhngcehkibaaGreat
