/- The walks of the reference's small functions: Every, Truths, check, told, IsFresh, Draws, hull. Conditions: as each says. -/
import Derived.Test.YtiodmkokpfgkkaaRefT
namespace Go.Proofs.Ytiodmkokpfgkkaa
open Go.RowKit Go.Hav Go.Shelf Go.Sq
attribute [local go_sem] Oper.semAt_some
section
variable {fa la : Option Addr} {fl fc ll lc : Nat} {r : IRiv}
set_option maxRecDepth 100000 in
set_option maxHeartbeats 1600000 in
theorem revery_any (h5 : ll ≤ 5) (w : World) : Calls Try.prog 93 #[(.agg #[.int .i64 r.depth.lo, .int .i64 r.depth.hi, .int .i64 r.fall.lo, .int .i64 r.fall.hi, .int .i64 r.days, .slice fa fl fc, .slice la ll lc])] w fun e w' => e = .returned (.int .i64 (full ll : Nat)) ∧ Below w.heap.size w w' := by
  obtain ⟨W, hW⟩ : ∃ W, W = w.alloc (.cells #[.int .i64 r.depth.lo, .int .i64 r.depth.hi, .int .i64 r.fall.lo, .int .i64 r.fall.hi, .int .i64 r.days, .slice fa fl fc, .slice la ll lc] 27) := ⟨_, rfl⟩
  have HX : Hid (Blk W w.heap.size 27 #[.int .i64 r.depth.lo, .int .i64 r.depth.hi, .int .i64 r.fall.lo, .int .i64 r.fall.hi, .int .i64 r.days, .slice fa fl fc, .slice la ll lc]) := by rw [hW]; exact Blk.new w 27 _
  have HBW : Hid (Below w.heap.size w W) := by rw [hW]; exact (Below.refl _ _).alloc (Nat.le_refl _) _
  obtain ⟨K, hK⟩ : ∃ K : Nat, 2 ^ ll = K := ⟨_, rfl⟩
  have hK1 := Nat.two_pow_pos ll
  have hK2 : 2 ^ ll ≤ 2 ^ 5 := Nat.pow_le_pow_right (by omega) h5
  have hf : full ll = K - 1 := by rw [full, hK]
  have HP : Hid (∀ wv : World, Calls Try.prog 68 #[.int .i64 ll] wv fun e w' => e = .returned (.int .i64 (K : Nat)) ∧ w' = wv) := fun wv => (rpower_any ll (by omega) wv).mono (by rintro e w' ⟨rfl, rfl⟩; exact ⟨by rw [← hK]; push_cast; rfl, rfl⟩)
  rw [hK] at hK1 hK2
  have HF : Hid (((full ll : Nat) : Int) = (K : Int) - 1) := by show _ = _; omega
  clear hf hK
  go_enter Try.func93, Try.ntmps93
  go_wp2_with fail
  rw [← hW]
  clear hW
  have q0 := HX.out.cell 0
  have q1 := HX.out.cell 1
  have q2 := HX.out.cell 2
  have q3 := HX.out.cell 3
  have q4 := HX.out.cell 4
  have q5 := HX.out.cell 5
  have q6 := HX.out.cell 6
  have ql := HX.out.lt
  simp at q0 q1 q2 q3 q4 q5 q6
  go_wp2_with fail
  refine (HP.out W).mono ?_
  rintro e w' ⟨rfl, rfl⟩
  go_wp2
  go_ret
  exact ⟨ret_int HF.out.symm, HBW.out⟩
set_option maxRecDepth 100000 in
set_option maxHeartbeats 1600000 in
theorem rtruths_any (hv : okR r = true) (w : World) (hP : RvIn w w.heap.size fa fl la ll r) : Calls Try.prog 92 #[(.agg #[.int .i64 r.depth.lo, .int .i64 r.depth.hi, .int .i64 r.fall.lo, .int .i64 r.fall.hi, .int .i64 r.days, .slice fa fl fc, .slice la ll lc])] w (TruthsR r (full ll) w) := by
  have HP := Lib.hid hP
  have HV := Lib.hid hv
  have h5 : ll ≤ 5 := by have := (okR_parts hv).1.2.2.2.2; have := hP.ell; omega
  have hf32 : full ll < 32 := by have := Nat.pow_le_pow_right (n := 2) (by omega) h5; unfold full; omega
  have hfc : ((full ll : Nat) : Int) = full ll := rfl
  obtain ⟨F, hF⟩ : ∃ F, full ll = F := ⟨_, rfl⟩
  have HEV : Hid (∀ wv : World, Calls Try.prog 93 #[(.agg #[.int .i64 r.depth.lo, .int .i64 r.depth.hi, .int .i64 r.fall.lo, .int .i64 r.fall.hi, .int .i64 r.days, .slice fa fl fc, .slice la ll lc])] wv fun e w' => e = .returned (.int .i64 (F : Nat)) ∧ Below wv.heap.size wv w') := fun wv => by
    have h := revery_any (fa := fa) (la := la) (fl := fl) (fc := fc) (lc := lc) (r := r) h5 wv
    rwa [hF] at h
  rw [hF] at hf32 ⊢
  clear hP hv hfc hF
  obtain ⟨W, hW⟩ : ∃ W, W = w.alloc (.cells #[.int .i64 r.depth.lo, .int .i64 r.depth.hi, .int .i64 r.fall.lo, .int .i64 r.fall.hi, .int .i64 r.days, .slice fa fl fc, .slice la ll lc] 27) := ⟨_, rfl⟩
  have HX : Hid (Blk W w.heap.size 27 #[.int .i64 r.depth.lo, .int .i64 r.depth.hi, .int .i64 r.fall.lo, .int .i64 r.fall.hi, .int .i64 r.days, .slice fa fl fc, .slice la ll lc]) := by rw [hW]; exact Blk.new w 27 _
  have HBW : Hid (Below w.heap.size w W) := by rw [hW]; exact (Below.refl _ _).alloc (Nat.le_refl _) _
  go_enter Try.func92, Try.ntmps92
  go_wp2_with fail
  rw [← hW]
  clear hW
  have q0 := HX.out.cell 0
  have q1 := HX.out.cell 1
  have q2 := HX.out.cell 2
  have q3 := HX.out.cell 3
  have q4 := HX.out.cell 4
  have q5 := HX.out.cell 5
  have q6 := HX.out.cell 6
  have ql := HX.out.lt
  simp at q0 q1 q2 q3 q4 q5 q6
  go_upto_region 1 with (fail)
  refine wp_region_havoc [(0,false),(1,false),(2,false),(3,true),(4,false)] [] (fun _ _ => False) (by kernel_rfl) (by kernel_rfl) (fun _ _ _ _ h => h.elim) ?_
  (apply hav_same (by simp only [List.getElem?_toArray, List.getElem?_cons_zero]; rfl) (by kernel_rfl); (focus (intro wv hgv _; have hcv : ∀ b o, b < _ → wv.cell? ⟨b, o, none⟩ = _ := fun b o hb => Below.cell hgv (p := ⟨b, o, none⟩) hb; (try go_simp); try rfl; done)); simp only [Act.put, List.setIfInBounds_toArray, List.set_cons_succ, List.set_cons_zero])
  (apply hav_same (by simp only [List.getElem?_toArray, List.getElem?_cons_succ, List.getElem?_cons_zero]; rfl) (by kernel_rfl); (focus (intro wv hgv _; have hcv : ∀ b o, b < _ → wv.cell? ⟨b, o, none⟩ = _ := fun b o hb => Below.cell hgv (p := ⟨b, o, none⟩) hb; (try go_simp); try rfl; done)); simp only [Act.put, List.setIfInBounds_toArray, List.set_cons_succ, List.set_cons_zero])
  (apply hav_call (by simp only [List.getElem?_toArray, List.getElem?_cons_succ, List.getElem?_cons_zero]; rfl) (by kernel_rfl); (focus (intro wv; go_simp; try exact ⟨rfl, rfl⟩; done)); (focus (intro wv hgv _; exact HEV.out wv; done)); simp only [Act.put, List.setIfInBounds_toArray, List.set_cons_succ, List.set_cons_zero])
  apply hav_call_ghost (fun v wv => ∃ A c, v = .slice A (truthsP r.nat F).length c ∧ TrsIn wv r.nat.fr.length A (truthsP r.nat F)) (by simp only [List.getElem?_toArray, List.getElem?_cons_succ, List.getElem?_cons_zero]; rfl) (by kernel_rfl)
  · intro wv; go_simp; try exact ⟨rfl, rfl⟩
  · rintro v w1 w2 ⟨A, c, h1, h2⟩ hg
    exact ⟨A, c, h1, h2.below hg⟩
  · intro wv hgv _
    refine (truths_any (fc := fc) (lc := lc) HV.out hf32 wv (HP.out.grow (HBW.out.trans (hgv.mono HBW.out.size)))).mono ?_
    rintro e w' ⟨A, c, rfl, h1, h2⟩
    exact .inl ⟨_, rfl, h2, A, c, rfl, h1⟩
  intro v
  simp only [Act.put, List.setIfInBounds_toArray, List.set_cons_succ, List.set_cons_zero]
  (apply hav_same (by simp only [List.getElem?_toArray, List.getElem?_cons_succ, List.getElem?_cons_zero]; rfl) (by kernel_rfl); (focus (intro wv hgv _; have hcv : ∀ b o, b < _ → wv.cell? ⟨b, o, none⟩ = _ := fun b o hb => Below.cell hgv (p := ⟨b, o, none⟩) hb; (try go_simp); try rfl; done)); simp only [Act.put, List.setIfInBounds_toArray, List.set_cons_succ, List.set_cons_zero])
  refine hav_end (fun w5 hgw5 hF => ?_); simp only [List.filterMap]; have hcw5 : ∀ b o, b < _ → w5.cell? ⟨b, o, none⟩ = _ := fun b o hb => Below.cell hgw5 (p := ⟨b, o, none⟩) hb; have hfw5 : ∀ b o, b < _ → w5.frozen? ⟨b, o, none⟩ = _ := fun b o hb => Below.frozen hgw5 (p := ⟨b, o, none⟩) hb; have hzw5 := Below.size hgw5; (try simp at hzw5)
  obtain ⟨_, A, c, rfl, h1⟩ := hF
  have HT := Lib.hid h1
  have HB5 : Hid (Below w.heap.size w w5) := HBW.out.trans (hgw5.mono HBW.out.size)
  clear h1 hgw5 hcw5 hfw5
  go_wp2
  go_ret
  exact ⟨A, c, rfl, HT.out, HB5.out⟩
set_option maxRecDepth 100000 in
set_option maxHeartbeats 1600000 in
theorem check_any (is : Bool) (w : World) (hP : RvIn w w.heap.size fa fl la ll r) : Calls Try.prog 91 #[(.agg #[.int .i64 r.depth.lo, .int .i64 r.depth.hi, .int .i64 r.fall.lo, .int .i64 r.fall.hi, .int .i64 r.days, .slice fa fl fc, .slice la ll lc]), .bool is] w fun e w' => e = .returned (.int .i64 (if okR r = false then 1 else if is = false then 2 else 0)) ∧ Below w.heap.size w w' := by
  have HP := Lib.hid hP
  clear hP
  obtain ⟨C, hC⟩ : ∃ C : Int, (if okR r = false then 1 else if is = false then 2 else 0) = C := ⟨_, rfl⟩
  rw [hC]
  have HC := Lib.hid hC
  clear hC
  obtain ⟨W, hW⟩ : ∃ W, W = w.alloc (.cells #[.int .i64 r.depth.lo, .int .i64 r.depth.hi, .int .i64 r.fall.lo, .int .i64 r.fall.hi, .int .i64 r.days, .slice fa fl fc, .slice la ll lc] 27) := ⟨_, rfl⟩
  have HX : Hid (Blk W w.heap.size 27 #[.int .i64 r.depth.lo, .int .i64 r.depth.hi, .int .i64 r.fall.lo, .int .i64 r.fall.hi, .int .i64 r.days, .slice fa fl fc, .slice la ll lc]) := by rw [hW]; exact Blk.new w 27 _
  have HBW : Hid (Below w.heap.size w W) := by rw [hW]; exact (Below.refl _ _).alloc (Nat.le_refl _) _
  go_enter Try.func91, Try.ntmps91
  go_wp2_with fail
  rw [← hW]
  clear hW
  have q0 := HX.out.cell 0
  have q1 := HX.out.cell 1
  have q2 := HX.out.cell 2
  have q3 := HX.out.cell 3
  have q4 := HX.out.cell 4
  have q5 := HX.out.cell 5
  have q6 := HX.out.cell 6
  have ql := HX.out.lt
  simp at q0 q1 q2 q3 q4 q5 q6
  go_wp2_with fail
  refine (rriver_any (fc := fc) (lc := lc) W (HP.out.grow HBW.out)).mono ?_
  cases hk : okR r
  · rintro e w' ⟨rfl, hb⟩
    have HB5 : Hid (Below w.heap.size w w') := HBW.out.trans (hb.mono HBW.out.size)
    have HC1 : Hid (C = 1) := by show _ = _; rw [← HC.out, if_pos hk]
    clear hb hk
    go_wp2
    go_ret
    exact ⟨ret_int HC1.out.symm, HB5.out⟩
  · rintro e w' ⟨rfl, hb⟩
    have HB5 : Hid (Below w.heap.size w w') := HBW.out.trans (hb.mono HBW.out.size)
    cases is
    · have HC1 : Hid (C = 2) := by show _ = _; rw [← HC.out, if_neg (by rw [hk]; simp), if_pos rfl]
      clear hb hk
      go_wp2
      go_ret
      exact ⟨ret_int HC1.out.symm, HB5.out⟩
    · have HC1 : Hid (C = 0) := by show _ = _; rw [← HC.out, if_neg (by rw [hk]; simp), if_neg (by simp)]
      clear hb hk
      go_wp2
      go_ret
      exact ⟨ret_int HC1.out.symm, HB5.out⟩
/-- What told leaves. -/
def ToldR (r : IRiv) (is : Bool) (w : World) (e : Ending) (w' : World) : Prop :=
  Below w.heap.size w w' ∧ ((∃ E : Nat, toldE r is = E ∧ E ≠ 0 ∧ E ≤ 10 ∧ e = .returned (.tuple #[.slice none 0 0, .int .i64 E])) ∨
    (toldE r is = 0 ∧ okR r = true ∧ is = true ∧ truthsA r.nat ≠ [] ∧ ∃ A c, e = .returned (.tuple #[.slice A (truthsA r.nat).length c, .int .i64 0]) ∧ TrsIn w' r.nat.fr.length A (truthsA r.nat)))
set_option maxRecDepth 100000 in
set_option maxHeartbeats 1600000 in
theorem told_any (is : Bool) (w : World) (hP : RvIn w w.heap.size fa fl la ll r) : Calls Try.prog 51 #[(.agg #[.int .i64 r.depth.lo, .int .i64 r.depth.hi, .int .i64 r.fall.lo, .int .i64 r.fall.hi, .int .i64 r.days, .slice fa fl fc, .slice la ll lc]), .bool is] w (ToldR r is w) := by
  have HP := Lib.hid hP
  have HLL : Hid (r.nat.lk.length = ll) := by show (r.lk.map (·.nat)).length = _; rw [List.length_map]; exact hP.ell
  clear hP
  obtain ⟨W, hW⟩ : ∃ W, W = w.alloc (.cells #[.int .i64 r.depth.lo, .int .i64 r.depth.hi, .int .i64 r.fall.lo, .int .i64 r.fall.hi, .int .i64 r.days, .slice fa fl fc, .slice la ll lc] 27) := ⟨_, rfl⟩
  have HX : Hid (Blk W w.heap.size 27 #[.int .i64 r.depth.lo, .int .i64 r.depth.hi, .int .i64 r.fall.lo, .int .i64 r.fall.hi, .int .i64 r.days, .slice fa fl fc, .slice la ll lc]) := by rw [hW]; exact Blk.new w 27 _
  have HBW : Hid (Below w.heap.size w W) := by rw [hW]; exact (Below.refl _ _).alloc (Nat.le_refl _) _
  go_enter Try.func51, Try.ntmps51
  go_wp2_with fail
  rw [← hW]
  clear hW
  have q0 := HX.out.cell 0
  have q1 := HX.out.cell 1
  have q2 := HX.out.cell 2
  have q3 := HX.out.cell 3
  have q4 := HX.out.cell 4
  have q5 := HX.out.cell 5
  have q6 := HX.out.cell 6
  have ql := HX.out.lt
  simp at q0 q1 q2 q3 q4 q5 q6
  go_wp2_with fail
  refine (check_any (fc := fc) (lc := lc) is W (HP.out.grow HBW.out)).mono ?_
  cases hk : okR r
  · have HE : Hid (toldE r is = 1) := by show _ = _; rw [toldE, if_pos hk]
    rintro e w' ⟨rfl, hb⟩
    have HB5 : Hid (Below w.heap.size w w') := HBW.out.trans (hb.mono HBW.out.size)
    clear hb hk
    simp only [if_true]
    go_wp2
    go_ret2
    exact ⟨HB5.out, .inl ⟨1, HE.out, by omega, by omega, rfl⟩⟩
  · cases is
    · have HE : Hid (toldE r false = 2) := by show _ = _; rw [toldE, if_neg (by rw [hk]; simp), if_pos rfl]
      rintro e w' ⟨rfl, hb⟩
      have HB5 : Hid (Below w.heap.size w w') := HBW.out.trans (hb.mono HBW.out.size)
      clear hb hk
      simp only [if_true, Bool.true_eq_false, if_false]
      go_wp2
      go_ret2
      exact ⟨HB5.out, .inl ⟨2, HE.out, by omega, by omega, rfl⟩⟩
    · have HK := Lib.hid hk
      rintro e w' ⟨rfl, hb⟩
      have HB5 : Hid (Below w.heap.size w w') := HBW.out.trans (hb.mono HBW.out.size)
      have HX5 := Lib.hid (HX.out.below hb HX.out.lt)
      clear hb hk q0 q1 q2 q3 q4 q5 q6 ql HX
      have HX := HX5
      have q0 := HX.out.cell 0
      have q1 := HX.out.cell 1
      have q2 := HX.out.cell 2
      have q3 := HX.out.cell 3
      have q4 := HX.out.cell 4
      have q5 := HX.out.cell 5
      have q6 := HX.out.cell 6
      have ql := HX.out.lt
      simp at q0 q1 q2 q3 q4 q5 q6
      simp only [Bool.true_eq_false, if_false]
      go_wp2_with fail
      refine (rtruths_any (fc := fc) (lc := lc) HK.out w' (HP.out.grow HB5.out)).mono ?_
      rintro e w2 ⟨A, c, rfl, htr, hb⟩
      rw [show truthsP r.nat (full ll) = truthsA r.nat by rw [truthsA, HLL.out]] at htr ⊢
      have HTR := Lib.hid htr
      have HB6 : Hid (Below w.heap.size w w2) := HB5.out.trans (hb.mono HB5.out.size)
      clear htr hb q0 q1 q2 q3 q4 q5 q6 ql
      obtain ⟨N, hN⟩ : ∃ N, (truthsA r.nat).length = N := ⟨_, rfl⟩
      rw [hN]
      have HNN := Lib.hid hN
      clear hN
      by_cases h0 : N = 0
      · subst h0
        have hz : truthsA r.nat = [] := List.eq_nil_of_length_eq_zero HNN.out
        have HE : Hid (toldE r true = 10) := by show _ = _; rw [toldE, if_neg (by rw [HK.out]; simp), if_neg (by simp), if_pos hz]
        clear hz
        go_wp2
        go_ret2
        exact ⟨HB6.out, .inl ⟨10, HE.out, by omega, by omega, rfl⟩⟩
      · have hz : truthsA r.nat ≠ [] := fun e => h0 (by rw [← HNN.out, e]; rfl)
        have HZ := Lib.hid hz
        have HE : Hid (toldE r true = 0) := by show _ = _; rw [toldE, if_neg (by rw [HK.out]; simp), if_neg (by simp), if_neg hz]
        have hd : ((N : Int) == 0) = false := by simp; omega
        clear hz h0
        go_wp2
        go_ret2
        exact ⟨HB6.out, .inr ⟨HE.out, HK.out, rfl, HZ.out, A, c, by rw [HNN.out]; rfl, HTR.out⟩⟩
set_option maxRecDepth 100000 in
set_option maxHeartbeats 1600000 in
theorem risFr_any (n : Int) (w : World) (hP : RvIn w w.heap.size fa fl la ll r) : Calls Try.prog 66 #[(.agg #[.int .i64 r.depth.lo, .int .i64 r.depth.hi, .int .i64 r.fall.lo, .int .i64 r.fall.hi, .int .i64 r.days, .slice fa fl fc, .slice la ll lc]), .int .i64 n] w fun e w' => e = .returned (.bool (isFrB r n)) ∧ Below w.heap.size w w' := by
  have HE : Hid (isFrB r n = inB n 0 ((fl : Int) - 1)) := by show _ = _; rw [isFrB, hP.efl]
  have hm := hP.mfl
  have hw1 : IntKind.i64.wrap ((fl : Int) - 1) = (fl : Int) - 1 := IntWalk.i64_in _ (by omega)
  clear hP
  obtain ⟨W, hW⟩ : ∃ W, W = w.alloc (.cells #[.int .i64 r.depth.lo, .int .i64 r.depth.hi, .int .i64 r.fall.lo, .int .i64 r.fall.hi, .int .i64 r.days, .slice fa fl fc, .slice la ll lc] 27) := ⟨_, rfl⟩
  have HX : Hid (Blk W w.heap.size 27 #[.int .i64 r.depth.lo, .int .i64 r.depth.hi, .int .i64 r.fall.lo, .int .i64 r.fall.hi, .int .i64 r.days, .slice fa fl fc, .slice la ll lc]) := by rw [hW]; exact Blk.new w 27 _
  have HBW : Hid (Below w.heap.size w W) := by rw [hW]; exact (Below.refl _ _).alloc (Nat.le_refl _) _
  go_enter Try.func66, Try.ntmps66
  go_wp2_with fail
  rw [← hW]
  clear hW
  have q0 := HX.out.cell 0
  have q1 := HX.out.cell 1
  have q2 := HX.out.cell 2
  have q3 := HX.out.cell 3
  have q4 := HX.out.cell 4
  have q5 := HX.out.cell 5
  have q6 := HX.out.cell 6
  have ql := HX.out.lt
  simp at q0 q1 q2 q3 q4 q5 q6
  go_wp2_with fail
  refine (rin_any n 0 ((fl : Int) - 1) W).mono ?_
  rintro e w' ⟨rfl, rfl⟩
  go_wp2
  go_ret
  exact ⟨ret_bool HE.out.symm, HBW.out⟩
set_option maxRecDepth 100000 in
set_option maxHeartbeats 1600000 in
theorem rdraws_any (n : Int) (w : World) : Calls Try.prog 73 #[.int .i64 n] w fun e w' => e = .returned (.bool (isDrB n)) ∧ Below w.heap.size w w' := by
  go_enter Try.func73, Try.ntmps73
  go_wp2_with fail
  refine (rin_any n 0 200 w).mono ?_
  rintro e w' ⟨rfl, rfl⟩
  go_wp2
  go_ret
  exact ⟨rfl, Below.refl _ _⟩
end
end Go.Proofs.Ytiodmkokpfgkkaa
