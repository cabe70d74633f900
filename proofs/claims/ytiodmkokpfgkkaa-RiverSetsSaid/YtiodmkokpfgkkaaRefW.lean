/- The walks of the reference's Depth, Fall, Fresh, Bears. No condition. -/
import Derived.Test.YtiodmkokpfgkkaaRefV
namespace Go.Proofs.Ytiodmkokpfgkkaa
open Go.RowKit Go.Hav Go.Shelf Go.Sq
attribute [local go_sem] Oper.semAt_some
section
variable {fa la : Option Addr} {fl fc ll lc : Nat} {r : IRiv}
theorem truths_len {r : IRiv} (hv : okR r = true) : (truthsA r.nat).length ≤ 390625 := by
  unfold truthsA truthsP
  refine Nat.le_trans (List.length_filter_le _ _) ?_
  rw [List.length_map]
  exact lists_len hv
theorem toldE_bd (r : IRiv) (is : Bool) : toldE r is ≤ 10 := by
  unfold toldE
  repeat' split
  all_goals omega
theorem told_err {is : Bool} {E : Nat} (h : toldE r is = E) (hE : E ≠ 0) (w : World) (hP : RvIn w w.heap.size fa fl la ll r) : Calls Try.prog 51 #[(.agg #[.int .i64 r.depth.lo, .int .i64 r.depth.hi, .int .i64 r.fall.lo, .int .i64 r.fall.hi, .int .i64 r.days, .slice fa fl fc, .slice la ll lc]), .bool is] w fun e w' => e = .returned (.tuple #[.slice none 0 0, .int .i64 E]) ∧ Below w.heap.size w w' := by
  refine (told_any (fc := fc) (lc := lc) is w hP).mono ?_
  rintro e w' ⟨hb, ⟨E', h1, h2, h3, rfl⟩ | ⟨h1, h2, h3, h4, A, c, rfl, h6⟩⟩
  · exact ⟨by rw [← h, h1], hb⟩
  · omega
theorem told_ok {is : Bool} (h : toldE r is = 0) (w : World) (hP : RvIn w w.heap.size fa fl la ll r) : Calls Try.prog 51 #[(.agg #[.int .i64 r.depth.lo, .int .i64 r.depth.hi, .int .i64 r.fall.lo, .int .i64 r.fall.hi, .int .i64 r.days, .slice fa fl fc, .slice la ll lc]), .bool is] w fun e w' => ∃ A c, e = .returned (.tuple #[.slice A (truthsA r.nat).length c, .int .i64 0]) ∧ TrsIn w' r.nat.fr.length A (truthsA r.nat) ∧ Below w.heap.size w w' := by
  refine (told_any (fc := fc) (lc := lc) is w hP).mono ?_
  rintro e w' ⟨hb, ⟨E', h1, h2, h3, rfl⟩ | ⟨h1, h2, h3, h4, A, c, rfl, h6⟩⟩
  · omega
  · exact ⟨A, c, rfl, h6, hb⟩
theorem toldE_zero {is : Bool} (h : toldE r is = 0) : okR r = true ∧ is = true ∧ truthsA r.nat ≠ [] := by
  unfold toldE at h
  split at h
  · omega
  · split at h
    · omega
    · split at h
      · omega
      · rename_i h1 h2 h3
        exact ⟨by simpa using h1, by simpa using h2, h3⟩
set_option maxRecDepth 100000 in
set_option maxHeartbeats 1600000 in
theorem rDepth_any (day : Int) (w : World) (hP : RvIn w w.heap.size fa fl la ll r) : Calls Try.prog 15 #[(.agg #[.int .i64 r.depth.lo, .int .i64 r.depth.hi, .int .i64 r.fall.lo, .int .i64 r.fall.hi, .int .i64 r.days, .slice fa fl fc, .slice la ll lc]), .int .i64 day] w fun e w' => e = .returned (.tuple #[hullV (depthV r day), .int .i64 (depthE r day)]) ∧ Below w.heap.size w w' := by
  have HP := Lib.hid hP
  clear hP
  obtain ⟨is, his⟩ : ∃ is, isDayB r day = is := ⟨_, rfl⟩
  have HDAY : Hid (∀ wv : World, Calls Try.prog 52 #[(.agg #[.int .i64 r.depth.lo, .int .i64 r.depth.hi, .int .i64 r.fall.lo, .int .i64 r.fall.hi, .int .i64 r.days, .slice fa fl fc, .slice la ll lc]), .int .i64 day] wv fun e w' => e = .returned (.bool is) ∧ Below wv.heap.size wv w') := fun wv => by
    have h := rday_any (fa := fa) (la := la) (fl := fl) (fc := fc) (ll := ll) (lc := lc) (r := r) day wv
    rwa [his] at h
  have HIS := Lib.hid his
  have HE : Hid (depthE r day = toldE r is) := by show _ = _; rw [depthE, his]
  obtain ⟨V, hV⟩ : ∃ V, hullV (depthV r day) = V := ⟨_, rfl⟩
  obtain ⟨E, hE⟩ : ∃ E, depthE r day = E := ⟨_, rfl⟩
  rw [hV, hE]
  have HV := Lib.hid hV
  have HEE := Lib.hid hE
  clear his hV hE
  obtain ⟨W, hW⟩ : ∃ W, W = (w.alloc (.cells #[.int .i64 r.depth.lo, .int .i64 r.depth.hi, .int .i64 r.fall.lo, .int .i64 r.fall.hi, .int .i64 r.days, .slice fa fl fc, .slice la ll lc] 27)).alloc (.cells #[.int .i64 0, .int .i64 0] 23) := ⟨_, rfl⟩
  have HX : Hid (Blk W w.heap.size 27 #[.int .i64 r.depth.lo, .int .i64 r.depth.hi, .int .i64 r.fall.lo, .int .i64 r.fall.hi, .int .i64 r.days, .slice fa fl fc, .slice la ll lc]) := by rw [hW]; exact (Blk.new w 27 _).alloc _
  have HX4 : Hid (Blk W (w.heap.size + 1) 23 #[.int .i64 0, .int .i64 0]) := by rw [hW]; exact Blk.new_ (by simp) 23 _
  have HBW : Hid (Below w.heap.size w W) := by rw [hW]; exact ((Below.refl _ _).alloc (Nat.le_refl _) _).alloc (by simp) _
  go_enter Try.func15, Try.ntmps15
  go_wp2_with fail
  rw [← hW]
  clear hW
  have q0 := HX.out.cell 0
  have q1 := HX.out.cell 1
  have q2 := HX.out.cell 2
  have q3 := HX.out.cell 3
  have q4 := HX.out.cell 4
  have q5 := HX.out.cell 5
  have q6 := HX.out.cell 6
  have ql := HX.out.lt
  simp at q0 q1 q2 q3 q4 q5 q6
  have HBV := HBW
  go_upto_region 1 with (fail)
  by_cases h0 : toldE r is = 0
  case neg =>
    have HT : Hid (∀ wv : World, Below W.heap.size W wv → Calls Try.prog 51 #[(.agg #[.int .i64 r.depth.lo, .int .i64 r.depth.hi, .int .i64 r.fall.lo, .int .i64 r.fall.hi, .int .i64 r.days, .slice fa fl fc, .slice la ll lc]), .bool is] wv fun e w' => e = .returned (.tuple #[.slice none 0 0, .int .i64 E]) ∧ Below wv.heap.size wv w') := fun wv hg => told_err (by rw [← HE.out, HEE.out]) (by rw [← HEE.out, HE.out]; exact h0) wv (HP.out.grow (HBV.out.trans (hg.mono HBV.out.size)))
    have HE' : Hid (E ≠ 0 ∧ V = .agg #[.int .i64 0, .int .i64 0]) := by
      have e : E ≠ 0 := by rw [← HEE.out, HE.out]; exact h0
      refine ⟨e, ?_⟩
      rw [← HV.out, depthV, if_neg (by rw [HEE.out]; exact e)]
      rfl
    have hE10 : E ≤ 10 := by rw [← HEE.out, HE.out]; exact toldE_bd r is
    have hd : ((E : Int) != 0) = true := by have := HE'.out.1; simp; omega
    clear h0
    refine wp_region_havoc [(0,false),(1,false),(2,false),(3,false),(4,false),(5,false),(6,false),(7,false),(8,false),(9,false)] [] (fun _ _ => False) (by kernel_rfl) (by kernel_rfl) (fun _ _ _ _ h => h.elim) ?_
    (apply hav_same (by simp only [List.getElem?_toArray, List.getElem?_cons_zero]; rfl) (by kernel_rfl); (focus (intro wv hgv _; have hcv : ∀ b o, b < _ → wv.cell? ⟨b, o, none⟩ = _ := fun b o hb => Below.cell hgv (p := ⟨b, o, none⟩) hb; (try go_simp); try rfl; done)); simp only [Act.put, List.setIfInBounds_toArray, List.set_cons_succ, List.set_cons_zero])
    iterate 2 (apply hav_same (by simp only [List.getElem?_toArray, List.getElem?_cons_succ, List.getElem?_cons_zero]; rfl) (by kernel_rfl); (focus (intro wv hgv _; have hcv : ∀ b o, b < _ → wv.cell? ⟨b, o, none⟩ = _ := fun b o hb => Below.cell hgv (p := ⟨b, o, none⟩) hb; (try go_simp); try rfl; done)); simp only [Act.put, List.setIfInBounds_toArray, List.set_cons_succ, List.set_cons_zero])
    (apply hav_call (by simp only [List.getElem?_toArray, List.getElem?_cons_succ, List.getElem?_cons_zero]; rfl) (by kernel_rfl); (focus (intro wv; go_simp; try exact ⟨rfl, rfl⟩; done)); (focus (intro wv hgv _; exact HDAY.out wv; done)); simp only [Act.put, List.setIfInBounds_toArray, List.set_cons_succ, List.set_cons_zero])
    (apply hav_call (by simp only [List.getElem?_toArray, List.getElem?_cons_succ, List.getElem?_cons_zero]; rfl) (by kernel_rfl); (focus (intro wv; go_simp; try exact ⟨rfl, rfl⟩; done)); (focus (intro wv hgv _; exact HT.out wv hgv; done)); simp only [Act.put, List.setIfInBounds_toArray, List.set_cons_succ, List.set_cons_zero])
    iterate 5 (apply hav_same (by simp only [List.getElem?_toArray, List.getElem?_cons_succ, List.getElem?_cons_zero]; rfl) (by kernel_rfl); (focus (intro wv hgv _; have hcv : ∀ b o, b < _ → wv.cell? ⟨b, o, none⟩ = _ := fun b o hb => Below.cell hgv (p := ⟨b, o, none⟩) hb; (try go_simp); try rfl; done)); simp only [Act.put, List.setIfInBounds_toArray, List.set_cons_succ, List.set_cons_zero])
    refine hav_end (fun X hgX hF => ?_); simp only [List.filterMap]; have hcX : ∀ b o, b < _ → X.cell? ⟨b, o, none⟩ = _ := fun b o hb => Below.cell hgX (p := ⟨b, o, none⟩) hb; have hfX : ∀ b o, b < _ → X.frozen? ⟨b, o, none⟩ = _ := fun b o hb => Below.frozen hgX (p := ⟨b, o, none⟩) hb; have hzX := Below.size hgX; (try simp at hzX)
    have HBX : Hid (Below W.heap.size W X) := hgX
    have HR : Hid (Blk X (w.heap.size + 1) 23 #[.int .i64 0, .int .i64 0]) := HX4.out.below hgX HX4.out.lt
    have x0 := HR.out.cell 0
    have x1 := HR.out.cell 1
    have y0 := HR.out.frozen 0
    have y1 := HR.out.frozen 1
    have l6 := HR.out.lt
    simp at x0 x1
    clear hgX hcX hfX hzX q0 q1 q2 q3 q4 q5 q6 ql hF
    go_wp2
    have hk := (HR.out.set_ 0 (.int .i64 0)).set_ 1 (.int .i64 0)
    have z0 := hk.cell 0
    have z1 := hk.cell 1
    simp at z0 z1
    refine bodyPost_ret (v := .tuple #[.agg #[.int .i64 0, .int .i64 0], .int .i64 E]) (by simp [results, Try.results15, go_sem, z0, z1]) rfl ⟨by rw [HE'.out.2], setCell_below (setCell_below (HBW.out.trans (HBX.out.mono HBW.out.size)) (by omega) 0 _) (by omega) 1 _⟩
  · obtain ⟨h2, h3, h4⟩ := toldE_zero h0
    subst h3
    have HTK : Hid (∀ wv : World, Below W.heap.size W wv → Calls Try.prog 51 #[(.agg #[.int .i64 r.depth.lo, .int .i64 r.depth.hi, .int .i64 r.fall.lo, .int .i64 r.fall.hi, .int .i64 r.days, .slice fa fl fc, .slice la ll lc]), .bool true] wv fun e w' => ∃ A c, e = .returned (.tuple #[.slice A (truthsA r.nat).length c, .int .i64 0]) ∧ TrsIn w' r.nat.fr.length A (truthsA r.nat) ∧ Below wv.heap.size wv w') := fun wv hg => told_ok h0 wv (HP.out.grow (HBV.out.trans (hg.mono HBV.out.size)))
    refine wp_region_havoc [(0,false),(1,false),(2,false),(3,false),(4,true),(5,false),(6,false),(7,false),(8,false),(9,false)] [] (fun _ _ => False) (by kernel_rfl) (by kernel_rfl) (fun _ _ _ _ h => h.elim) ?_
    (apply hav_same (by simp only [List.getElem?_toArray, List.getElem?_cons_zero]; rfl) (by kernel_rfl); (focus (intro wv hgv _; have hcv : ∀ b o, b < _ → wv.cell? ⟨b, o, none⟩ = _ := fun b o hb => Below.cell hgv (p := ⟨b, o, none⟩) hb; (try go_simp); try rfl; done)); simp only [Act.put, List.setIfInBounds_toArray, List.set_cons_succ, List.set_cons_zero])
    iterate 2 (apply hav_same (by simp only [List.getElem?_toArray, List.getElem?_cons_succ, List.getElem?_cons_zero]; rfl) (by kernel_rfl); (focus (intro wv hgv _; have hcv : ∀ b o, b < _ → wv.cell? ⟨b, o, none⟩ = _ := fun b o hb => Below.cell hgv (p := ⟨b, o, none⟩) hb; (try go_simp); try rfl; done)); simp only [Act.put, List.setIfInBounds_toArray, List.set_cons_succ, List.set_cons_zero])
    (apply hav_call (by simp only [List.getElem?_toArray, List.getElem?_cons_succ, List.getElem?_cons_zero]; rfl) (by kernel_rfl); (focus (intro wv; go_simp; try exact ⟨rfl, rfl⟩; done)); (focus (intro wv hgv _; exact HDAY.out wv; done)); simp only [Act.put, List.setIfInBounds_toArray, List.set_cons_succ, List.set_cons_zero])
    apply hav_call_ghost (fun v wv => ∃ A c, v = .tuple #[.slice A (truthsA r.nat).length c, .int .i64 0] ∧ TrsIn wv r.nat.fr.length A (truthsA r.nat)) (by simp only [List.getElem?_toArray, List.getElem?_cons_succ, List.getElem?_cons_zero]; rfl) (by kernel_rfl)
    · intro wv; go_simp; try exact ⟨rfl, rfl⟩
    · rintro v w1 w2 ⟨A, c, h5, h6⟩ hg
      exact ⟨A, c, h5, h6.below hg⟩
    · intro wv hgv _
      refine (HTK.out wv hgv).mono ?_
      rintro e w' ⟨A, c, rfl, h6, hb⟩
      exact .inl ⟨_, rfl, hb, A, c, rfl, h6⟩
    intro v
    simp only [Act.put, List.setIfInBounds_toArray, List.set_cons_succ, List.set_cons_zero]
    by_cases hv : ∃ A c, v = .tuple #[.slice A (truthsA r.nat).length c, .int .i64 0]
    case neg =>
      have hno : ∀ w (Φ : Prop), (Φ ∧ ∃ A c, v = .tuple #[.slice A (truthsA r.nat).length c, .int .i64 0] ∧ TrsIn w r.nat.fr.length A (truthsA r.nat)) → False := fun w _ ⟨_, A, c, h, _⟩ => hv ⟨A, c, h⟩
      iterate 5 (refine hav_det (V := undef) (by simp only [List.getElem?_toArray, List.getElem?_cons_succ, List.getElem?_cons_zero]; rfl) (fun _ _ hF => (hno _ _ hF).elim) ?_; simp only [Act.put, List.setIfInBounds_toArray, List.set_cons_succ, List.set_cons_zero])
      refine hav_end (fun X hgX hF => ?_); simp only [List.filterMap]; have hcX : ∀ b o, b < _ → X.cell? ⟨b, o, none⟩ = _ := fun b o hb => Below.cell hgX (p := ⟨b, o, none⟩) hb; have hfX : ∀ b o, b < _ → X.frozen? ⟨b, o, none⟩ = _ := fun b o hb => Below.frozen hgX (p := ⟨b, o, none⟩) hb; have hzX := Below.size hgX; (try simp at hzX)
      exact (hno _ _ hF).elim
    obtain ⟨A, c, rfl⟩ := hv
    iterate 5 (apply hav_same (by simp only [List.getElem?_toArray, List.getElem?_cons_succ, List.getElem?_cons_zero]; rfl) (by kernel_rfl); (focus (intro wv hgv _; have hcv : ∀ b o, b < _ → wv.cell? ⟨b, o, none⟩ = _ := fun b o hb => Below.cell hgv (p := ⟨b, o, none⟩) hb; (try go_simp); try rfl; done)); simp only [Act.put, List.setIfInBounds_toArray, List.set_cons_succ, List.set_cons_zero])
    refine hav_end (fun X hgX hF => ?_); simp only [List.filterMap]; have hcX : ∀ b o, b < _ → X.cell? ⟨b, o, none⟩ = _ := fun b o hb => Below.cell hgX (p := ⟨b, o, none⟩) hb; have hfX : ∀ b o, b < _ → X.frozen? ⟨b, o, none⟩ = _ := fun b o hb => Below.frozen hgX (p := ⟨b, o, none⟩) hb; have hzX := Below.size hgX; (try simp at hzX)
    have HTR : Hid (TrsIn X r.nat.fr.length A (truthsA r.nat)) := by
      obtain ⟨_, A', c', e, h⟩ := hF
      injection e with e
      have e2 : A = A' := by
        have := congrArg (fun a => a[0]?) e
        simp at this
        exact this.1
      subst e2
      exact h
    clear hF
    have HBX : Hid (Below W.heap.size W X) := hgX
    have HR : Hid (Blk X (w.heap.size + 1) 23 #[.int .i64 0, .int .i64 0]) := HX4.out.below hgX HX4.out.lt
    have l6 := HR.out.lt
    clear hgX hcX hfX hzX q0 q1 q2 q3 q4 q5 q6 ql
    obtain ⟨d, hd⟩ : ∃ d : Nat, day = d := ⟨day.toNat, by have h := inB_iff.1 (show inB day 0 r.days = true by rw [← isDayB, HIS.out]); omega⟩
    have hd10 : d ≤ 10 := by
      have h := inB_iff.1 (show inB day 0 r.days = true by rw [← isDayB, HIS.out])
      have := inB_iff.1 (okR_parts h2).1.2.2.1; omega
    have HE' : Hid (E = 0 ∧ V = .agg #[.int .i64 (depthT (truthsA r.nat) d).1, .int .i64 (depthT (truthsA r.nat) d).2]) := by
      have e : E = 0 := by rw [← HEE.out, HE.out, h0]
      refine ⟨e, ?_⟩
      rw [← HV.out, depthV, if_pos (by rw [HEE.out, e]), hd, Int.toNat_natCast]
      rfl
    subst hd
    have HOK := Lib.hid h2
    obtain ⟨N, hN⟩ : ∃ N, (truthsA r.nat).length = N := ⟨_, rfl⟩
    have hN4 : N ≤ 400000 := by have := truths_len h2; omega
    have hN0 : 0 < N := by rw [← hN]; exact List.length_pos_iff.2 h4
    have HN := Lib.hid hN
    obtain ⟨⟨V0, V1⟩, hVV⟩ : ∃ v, depthT (truthsA r.nat) d = v := ⟨_, rfl⟩
    rw [hN]
    have HVV := Lib.hid hVV
    clear h0 h2 h4 hN hVV
    go_wp2_with fail
    refine (depths_any HN.out hN0 hN4 (fun t ht => truth_small HOK.out ht) hd10 X HTR.out).mono ?_
    rw [HVV.out]
    rintro e Z ⟨rfl, hb⟩
    have HRZ := Lib.hid (HR.out.below hb HR.out.lt)
    have HBZ : Hid (Below w.heap.size w Z) := (HBW.out.trans (HBX.out.mono HBW.out.size)).trans (hb.mono (Nat.le_trans HBW.out.size HBX.out.size))
    clear hb
    have x0 := HRZ.out.cell 0
    have x1 := HRZ.out.cell 1
    have y0 := HRZ.out.frozen 0
    have y1 := HRZ.out.frozen 1
    have lz := HRZ.out.lt
    simp at x0 x1
    simp only
    go_wp2
    have hk := (HRZ.out.set_ 0 (.int .i64 V0)).set_ 1 (.int .i64 V1)
    have z0 := hk.cell 0
    have z1 := hk.cell 1
    simp at z0 z1
    refine bodyPost_ret (v := .tuple #[.agg #[.int .i64 V0, .int .i64 V1], .int .i64 0]) (by simp [results, Try.results15, go_sem, z0, z1]) rfl ⟨by rw [HE'.out.1, HE'.out.2, HVV.out]; rfl, setCell_below (setCell_below HBZ.out (by omega) 0 _) (by omega) 1 _⟩
set_option maxRecDepth 100000 in
set_option maxHeartbeats 1600000 in
theorem rFall_any (w : World) (hP : RvIn w w.heap.size fa fl la ll r) : Calls Try.prog 17 #[(.agg #[.int .i64 r.depth.lo, .int .i64 r.depth.hi, .int .i64 r.fall.lo, .int .i64 r.fall.hi, .int .i64 r.days, .slice fa fl fc, .slice la ll lc])] w fun e w' => e = .returned (.tuple #[hullV (fallV r), .int .i64 (fallE r)]) ∧ Below w.heap.size w w' := by
  have HP := Lib.hid hP
  clear hP
  have HE : Hid (fallE r = toldE r true) := rfl
  obtain ⟨V, hV⟩ : ∃ V, hullV (fallV r) = V := ⟨_, rfl⟩
  obtain ⟨E, hE⟩ : ∃ E, fallE r = E := ⟨_, rfl⟩
  rw [hV, hE]
  have HV := Lib.hid hV
  have HEE := Lib.hid hE
  clear hV hE
  obtain ⟨i3, hi3, hz0, hz1, hz2⟩ := info_parts Try.infoE3
  have HJ := Lib.hid hi3
  have HJ0 := Lib.hid hz0
  have HJ1 := Lib.hid hz1
  have HJ2 := Lib.hid hz2
  clear hi3 hz0 hz1 hz2
  obtain ⟨W, hW⟩ : ∃ W, W = (w.alloc (.cells #[.int .i64 r.depth.lo, .int .i64 r.depth.hi, .int .i64 r.fall.lo, .int .i64 r.fall.hi, .int .i64 r.days, .slice fa fl fc, .slice la ll lc] 27)).alloc (.cells #[.int .i64 0, .int .i64 0] 23) := ⟨_, rfl⟩
  have HX : Hid (Blk W w.heap.size 27 #[.int .i64 r.depth.lo, .int .i64 r.depth.hi, .int .i64 r.fall.lo, .int .i64 r.fall.hi, .int .i64 r.days, .slice fa fl fc, .slice la ll lc]) := by rw [hW]; exact (Blk.new w 27 _).alloc _
  have HX4 : Hid (Blk W (w.heap.size + 1) 23 #[.int .i64 0, .int .i64 0]) := by rw [hW]; exact Blk.new_ (by simp) 23 _
  have HBW : Hid (Below w.heap.size w W) := by rw [hW]; exact ((Below.refl _ _).alloc (Nat.le_refl _) _).alloc (by simp) _
  go_enter Try.func17, Try.ntmps17
  go_wp2_with fail
  rw [← hW]
  clear hW
  have q0 := HX.out.cell 0
  have q1 := HX.out.cell 1
  have q2 := HX.out.cell 2
  have q3 := HX.out.cell 3
  have q4 := HX.out.cell 4
  have q5 := HX.out.cell 5
  have q6 := HX.out.cell 6
  have ql := HX.out.lt
  simp at q0 q1 q2 q3 q4 q5 q6
  go_wp2_with fail
  refine (told_any (fc := fc) (lc := lc) true W (HP.out.grow HBW.out)).mono ?_
  rintro e X ⟨hb, ⟨E', h1, h2, h3, rfl⟩ | ⟨h1, h2, h3, h4, A, c, rfl, h6⟩⟩
  · have HBX := Lib.hid hb
    have HR := Lib.hid (HX4.out.below hb HX4.out.lt)
    have x0 := HR.out.cell 0
    have x1 := HR.out.cell 1
    have y0 := HR.out.frozen 0
    have y1 := HR.out.frozen 1
    have l6 := HR.out.lt
    simp at x0 x1
    have HE' : Hid (E = E' ∧ V = .agg #[.int .i64 0, .int .i64 0]) := by
      have e : E = E' := by rw [← HEE.out, HE.out, h1]
      refine ⟨e, ?_⟩
      rw [← HV.out, fallV, if_neg (by rw [HEE.out, e]; exact h2)]
      rfl
    have hd : ((E' : Int) != 0) = true := by simp; omega
    clear h1 h2 hb q0 q1 q2 q3 q4 q5 q6 ql
    go_wp2
    have hk := (HR.out.set_ 0 (.int .i64 0)).set_ 1 (.int .i64 0)
    have z0 := hk.cell 0
    have z1 := hk.cell 1
    simp at z0 z1
    refine bodyPost_ret (v := .tuple #[.agg #[.int .i64 0, .int .i64 0], .int .i64 E']) (by simp [results, Try.results17, go_sem, z0, z1]) rfl ⟨by rw [HE'.out.1, HE'.out.2], setCell_below (setCell_below (HBW.out.trans (HBX.out.mono HBW.out.size)) (by omega) 0 _) (by omega) 1 _⟩
  · have HBX := Lib.hid hb
    have HR := Lib.hid (HX4.out.below hb HX4.out.lt)
    have hgX := HR.out.lt
    have HE' : Hid (E = 0 ∧ V = .agg #[.int .i64 (fallQ r.nat).1, .int .i64 (fallQ r.nat).2]) := by
      have e : E = 0 := by rw [← HEE.out, HE.out, h1]
      refine ⟨e, ?_⟩
      rw [← HV.out, fallV, if_pos (by rw [HEE.out, e])]
      rfl
    have HTR := Lib.hid h6
    have HS : Hid (∀ t ∈ truthsA r.nat, t.Small r.nat.fr.length) := fun t ht => truth_small h2 ht
    obtain ⟨Ts, hTs⟩ : ∃ Ts, truthsA r.nat = Ts := ⟨_, rfl⟩
    have HFQ : Hid (fallQ r.nat = hullP (Ts.map (·.by_))) := by show _ = _; rw [fallQ, hTs]
    have hlen := truths_len h2
    rw [hTs] at HTR HS hlen h4 ⊢
    obtain ⟨N, hN⟩ : ∃ N, Ts.length = N := ⟨_, rfl⟩
    have hN4 : N ≤ 400000 := by omega
    have hN0 : 0 < N := by rw [← hN]; exact List.length_pos_iff.2 h4
    have HL := Lib.hid hN
    obtain ⟨⟨V0, V1⟩, hVV⟩ : ∃ v, hullP (Ts.map (·.by_)) = v := ⟨_, rfl⟩
    rw [hN]
    have HVV := Lib.hid hVV
    clear h1 h2 h3 h4 h6 hN hVV hb hTs hlen q0 q1 q2 q3 q4 q5 q6 ql
    go_wp2
    go_loopw [6, 7] (fun sv i wr => ∃ (k : Nat) (ov : Value), ov = sv ∧ k ≤ N ∧ i = .int .i64 k ∧ Hid (wr.ownsRow X.heap.size 3 1 ov k (((Ts.take k).map (·.by_)).flatMap fun x => [nV x])) ∧ Hid (Below X.heap.size X wr)) (fun _ i _ => N - (intOf i).toNat)
    case atStart => exact ⟨0, _, rfl, Nat.zero_le _, rfl, own_nil _ _ _ _, Below.refl _ _⟩
    case round =>
      obtain ⟨k, ov, hov, hk, rfl, HO, HBR⟩ := hrel
      subst hov
      by_cases hlt : k < N
      · obtain ⟨t, ht⟩ : ∃ t, Ts[k]? = some t := ⟨_, List.getElem?_eq_getElem (by rw [HL.out]; exact hlt)⟩
        obtain ⟨b, off, dA, dc, rA, rc, hA, hbl, hti, H0, H1, H2, H3⟩ := (HTR.out.below HBR.out) k t ht
        subst hA
        have HTK : Hid (((Ts.take (k + 1)).map (·.by_)).flatMap (fun x => [nV x]) = ((Ts.take k).map (·.by_)).flatMap (fun x => [nV x]) ++ [nV t.by_]) := by
          show _ = _
          rw [List.take_add_one, ht, List.map_append, List.flatMap_append]
          rfl
        obtain ⟨v, hv⟩ : ∃ v, t.by_ = v := ⟨_, rfl⟩
        rw [hv] at HTK H1
        clear ht hti hv H0 H2 H3
        have hB1 : X.heap.size ≤ (wr.alloc (.cells #[.int .i64 v] 3)).heap.size := by have := HBR.out.size; simp; omega
        have HB1 : Hid (Below wr.heap.size wr (wr.alloc (.cells #[.int .i64 v] 3))) := (Below.refl _ _).alloc (Nat.le_refl _) _
        obtain ⟨yl, HYL⟩ : ∃ yl, Hid (((Ts.take k).map (·.by_)).flatMap (fun x => [nV x]) = yl) := ⟨_, rfl⟩
        have HOWN := Lib.hid (own_below HO.out HB1.out)
        rw [HYL.out] at HOWN
        go_wp2_with (at_builtin; refine wpList_append_own _ rfl _ _ 47 rfl X.heap.size 3 i3 _ 1 8 Try.underlying47 HJ.out HJ0.out HJ1.out HJ2.out rfl (by decide) _ _ _ rfl HOWN.out ⟨wr.heap.size, 0, none⟩ 1 1 [.int .i64 v] rfl rfl (news_block (Blk.new wr 3 _)) (by simp [Value.oneCell']) (by unfold maxLen; omega) (by omega) hB1 ?_)
        intro v' w6 hown6 hgrow6 _
        have HO6 : Hid (w6.ownsRow X.heap.size 3 1 v' (k + 1) (((Ts.take (k + 1)).map (·.by_)).flatMap fun x => [nV x])) := by
          show World.ownsRow _ _ _ _ _ _ _
          rw [HTK.out, HYL.out]
          exact hown6
        have HB6 : Hid (Below X.heap.size X w6) := HBR.out.trans ((HB1.out.mono HBR.out.size).trans (KT.own hB1 HOWN.out hgrow6).1)
        clear hown6 hgrow6
        go_wp2
        go_roundw
        case rel => exact ⟨k + 1, _, rfl, by omega, by go_num, HO6, HB6⟩
        case measure => simp [intOf]; omega
      · obtain rfl : N = k := by omega
        have hO := HO.out
        rw [List.take_of_length_le (by rw [HL.out]; exact Nat.le_refl _)] at hO
        obtain ⟨A', c', -, rfl, hr, -⟩ := RowN.of_own hO (by rw [List.length_map, HL.out])
        have HR' := Lib.hid hr
        clear hO hr
        go_wp2_with fail
        refine (hull_any (by rw [List.length_map, HL.out]) hN0 hN4 (fun x hx => by
          obtain ⟨t, ht, rfl⟩ := List.mem_map.1 hx
          have := (HS.out t ht).by_
          omega) wr HR'.out).mono ?_
        rw [HVV.out]
        rintro e Z ⟨rfl, hb⟩
        have HBZ : Hid (Below w.heap.size w Z) := (HBW.out.trans (HBX.out.mono HBW.out.size)).trans ((HBR.out.trans (hb.mono HBR.out.size)).mono (Nat.le_trans HBW.out.size HBX.out.size))
        have HRZ := Lib.hid ((HR.out.below HBR.out HR.out.lt).below hb (Nat.lt_of_lt_of_le HR.out.lt HBR.out.size))
        clear hb
        have x0 := HRZ.out.cell 0
        have x1 := HRZ.out.cell 1
        have y0 := HRZ.out.frozen 0
        have y1 := HRZ.out.frozen 1
        have lz := HRZ.out.lt
        simp at x0 x1
        simp only
        go_wp2
        have hk := (HRZ.out.set_ 0 (.int .i64 V0)).set_ 1 (.int .i64 V1)
        have z0 := hk.cell 0
        have z1 := hk.cell 1
        simp at z0 z1
        refine bodyPost_ret (v := .tuple #[.agg #[.int .i64 V0, .int .i64 V1], .int .i64 0]) (by simp [results, Try.results17, go_sem, z0, z1]) rfl ⟨by rw [HE'.out.1, HE'.out.2, HFQ.out, HVV.out]; rfl, setCell_below (setCell_below HBZ.out (by omega) 0 _) (by omega) 1 _⟩
end
end Go.Proofs.Ytiodmkokpfgkkaa
