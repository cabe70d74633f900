/- The walks of the reference's Days, Until, Last. No condition. -/
import Derived.Test.YtiodmkokpfgkkaaRefX
namespace Go.Proofs.Ytiodmkokpfgkkaa
open Go.RowKit Go.Hav Go.Shelf Go.Sq
attribute [local go_sem] Oper.semAt_some
theorem bearsT_le (Ts : List Tr) (n d : Nat) : bearsT Ts n d ≤ 2 := by
  unfold bearsT
  repeat' split
  all_goals omega
theorem runN_full {f : Nat → Bool} : ∀ k, (∀ i, i < k → f i = true) → runN f k = k
  | 0, _ => rfl
  | k + 1, h => by rw [runN, if_pos ⟨runN_full k fun i hi => h i (by omega), h k (by omega)⟩]
theorem runN_stop {f : Nat → Bool} {k : Nat} (h : ∀ i, i < k → f i = true) (hk : f k = false) : ∀ j, runN f (k + 1 + j) = k
  | 0 => by rw [Nat.add_zero, runN, if_neg (by rw [hk]; simp), runN_full k h]
  | j + 1 => by rw [← Nat.add_assoc, runN, if_neg (by rw [runN_stop h hk j]; omega), runN_stop h hk j]
section
variable {fa la : Option Addr} {fl fc ll lc : Nat} {r : IRiv}
set_option maxRecDepth 100000 in
set_option maxHeartbeats 1600000 in
theorem rDays_any (draws : Int) (w : World) (hP : RvIn w w.heap.size fa fl la ll r) : Calls Try.prog 23 #[(.agg #[.int .i64 r.depth.lo, .int .i64 r.depth.hi, .int .i64 r.fall.lo, .int .i64 r.fall.hi, .int .i64 r.days, .slice fa fl fc, .slice la ll lc]), .int .i64 draws] w fun e w' => e = .returned (.tuple #[.int .i64 (surelyV r draws), .int .i64 (perhapsV r draws), .int .i64 (daysE r draws)]) ∧ Below w.heap.size w w' := by
  have HP := Lib.hid hP
  clear hP
  obtain ⟨is, his⟩ : ∃ is, isDrB draws = is := ⟨_, rfl⟩
  have HDR : Hid (∀ wv : World, Calls Try.prog 73 #[.int .i64 draws] wv fun e w' => e = .returned (.bool is) ∧ Below wv.heap.size wv w') := fun wv => by
    have h := rdraws_any draws wv
    rwa [his] at h
  have HIS := Lib.hid his
  have HE : Hid (daysE r draws = toldE r is) := by show _ = _; rw [daysE, his]
  obtain ⟨V, hV⟩ : ∃ V, surelyV r draws = V := ⟨_, rfl⟩
  obtain ⟨U, hU⟩ : ∃ V, perhapsV r draws = V := ⟨_, rfl⟩
  obtain ⟨E, hE⟩ : ∃ E, daysE r draws = E := ⟨_, rfl⟩
  rw [hV, hU, hE]
  have HV := Lib.hid (And.intro hV hU)
  have HEE := Lib.hid hE
  clear his hV hU hE
  obtain ⟨W, hW⟩ : ∃ W, W = w.alloc (.cells #[.int .i64 r.depth.lo, .int .i64 r.depth.hi, .int .i64 r.fall.lo, .int .i64 r.fall.hi, .int .i64 r.days, .slice fa fl fc, .slice la ll lc] 27) := ⟨_, rfl⟩
  have HX : Hid (Blk W w.heap.size 27 #[.int .i64 r.depth.lo, .int .i64 r.depth.hi, .int .i64 r.fall.lo, .int .i64 r.fall.hi, .int .i64 r.days, .slice fa fl fc, .slice la ll lc]) := by rw [hW]; exact Blk.new w 27 _
  have HBW : Hid (Below w.heap.size w W) := by rw [hW]; exact (Below.refl _ _).alloc (Nat.le_refl _) _
  go_enter Try.func23, Try.ntmps23
  go_wp2_with fail
  rw [← hW]
  clear hW
  have q0 := HX.out.cell 0
  have q1 := HX.out.cell 1
  have q2 := HX.out.cell 2
  have q3 := HX.out.cell 3
  have q4 := HX.out.cell 4
  have q5 := HX.out.cell 5
  have q6 := HX.out.cell 6
  have ql := HX.out.lt
  simp at q0 q1 q2 q3 q4 q5 q6
  have HBV := HBW
  go_upto_region 1 with (fail)
  by_cases h0 : toldE r is = 0
  case neg =>
    have HT : Hid (∀ wv : World, Below W.heap.size W wv → Calls Try.prog 51 #[(.agg #[.int .i64 r.depth.lo, .int .i64 r.depth.hi, .int .i64 r.fall.lo, .int .i64 r.fall.hi, .int .i64 r.days, .slice fa fl fc, .slice la ll lc]), .bool is] wv fun e w' => e = .returned (.tuple #[.slice none 0 0, .int .i64 E]) ∧ Below wv.heap.size wv w') := fun wv hg => told_err (by rw [← HE.out, HEE.out]) (by rw [← HEE.out, HE.out]; exact h0) wv (HP.out.grow (HBV.out.trans (hg.mono HBV.out.size)))
    have HE' : Hid (E ≠ 0 ∧ V = 0 ∧ U = 0) := by
      have e : E ≠ 0 := by rw [← HEE.out, HE.out]; exact h0
      exact ⟨e, by rw [← HV.out.1, surelyV, if_neg (by rw [HEE.out]; exact e)], by rw [← HV.out.2, perhapsV, if_neg (by rw [HEE.out]; exact e)]⟩
    have hE10 : E ≤ 10 := by rw [← HEE.out, HE.out]; exact toldE_bd r is
    have hd : ((E : Int) != 0) = true := by have := HE'.out.1; simp; omega
    clear h0
    refine wp_region_havoc [(0,false),(1,false),(2,false),(3,false),(4,false),(5,false),(6,false),(7,false),(8,false)] [] (fun _ _ => False) (by kernel_rfl) (by kernel_rfl) (fun _ _ _ _ h => h.elim) ?_
    (apply hav_same (by simp only [List.getElem?_toArray, List.getElem?_cons_zero]; rfl) (by kernel_rfl); (focus (intro wv hgv _; have hcv : ∀ b o, b < _ → wv.cell? ⟨b, o, none⟩ = _ := fun b o hb => Below.cell hgv (p := ⟨b, o, none⟩) hb; (try go_simp); try rfl; done)); simp only [Act.put, List.setIfInBounds_toArray, List.set_cons_succ, List.set_cons_zero])
    (apply hav_same (by simp only [List.getElem?_toArray, List.getElem?_cons_succ, List.getElem?_cons_zero]; rfl) (by kernel_rfl); (focus (intro wv hgv _; have hcv : ∀ b o, b < _ → wv.cell? ⟨b, o, none⟩ = _ := fun b o hb => Below.cell hgv (p := ⟨b, o, none⟩) hb; (try go_simp); try rfl; done)); simp only [Act.put, List.setIfInBounds_toArray, List.set_cons_succ, List.set_cons_zero])
    (apply hav_call (by simp only [List.getElem?_toArray, List.getElem?_cons_succ, List.getElem?_cons_zero]; rfl) (by kernel_rfl); (focus (intro wv; go_simp; try exact ⟨rfl, rfl⟩; done)); (focus (intro wv hgv _; exact HDR.out wv; done)); simp only [Act.put, List.setIfInBounds_toArray, List.set_cons_succ, List.set_cons_zero])
    (apply hav_call (by simp only [List.getElem?_toArray, List.getElem?_cons_succ, List.getElem?_cons_zero]; rfl) (by kernel_rfl); (focus (intro wv; go_simp; try exact ⟨rfl, rfl⟩; done)); (focus (intro wv hgv _; exact HT.out wv hgv; done)); simp only [Act.put, List.setIfInBounds_toArray, List.set_cons_succ, List.set_cons_zero])
    iterate 5 (apply hav_same (by simp only [List.getElem?_toArray, List.getElem?_cons_succ, List.getElem?_cons_zero]; rfl) (by kernel_rfl); (focus (intro wv hgv _; have hcv : ∀ b o, b < _ → wv.cell? ⟨b, o, none⟩ = _ := fun b o hb => Below.cell hgv (p := ⟨b, o, none⟩) hb; (try go_simp); try rfl; done)); simp only [Act.put, List.setIfInBounds_toArray, List.set_cons_succ, List.set_cons_zero])
    refine hav_end (fun X hgX hF => ?_); simp only [List.filterMap]; have hcX : ∀ b o, b < _ → X.cell? ⟨b, o, none⟩ = _ := fun b o hb => Below.cell hgX (p := ⟨b, o, none⟩) hb; have hfX : ∀ b o, b < _ → X.frozen? ⟨b, o, none⟩ = _ := fun b o hb => Below.frozen hgX (p := ⟨b, o, none⟩) hb; have hzX := Below.size hgX; (try simp at hzX)
    have HBX : Hid (Below W.heap.size W X) := hgX
    clear hgX hcX hfX hzX q0 q1 q2 q3 q4 q5 q6 ql hF
    go_wp2
    refine bodyPost_ret (v := .tuple #[.int .i64 0, .int .i64 0, .int .i64 E]) (by simp [results, Try.results23, go_sem]) rfl ⟨by rw [HE'.out.2.1, HE'.out.2.2]; rfl, HBW.out.trans (HBX.out.mono HBW.out.size)⟩
  · obtain ⟨h2, h3, h4⟩ := toldE_zero h0
    subst h3
    have HTK : Hid (∀ wv : World, Below W.heap.size W wv → Calls Try.prog 51 #[(.agg #[.int .i64 r.depth.lo, .int .i64 r.depth.hi, .int .i64 r.fall.lo, .int .i64 r.fall.hi, .int .i64 r.days, .slice fa fl fc, .slice la ll lc]), .bool true] wv fun e w' => ∃ A c, e = .returned (.tuple #[.slice A (truthsA r.nat).length c, .int .i64 0]) ∧ TrsIn w' r.nat.fr.length A (truthsA r.nat) ∧ Below wv.heap.size wv w') := fun wv hg => told_ok h0 wv (HP.out.grow (HBV.out.trans (hg.mono HBV.out.size)))
    refine wp_region_havoc [(0,false),(1,false),(2,false),(3,true),(4,false),(5,false),(6,false),(7,false),(8,false)] [] (fun _ _ => False) (by kernel_rfl) (by kernel_rfl) (fun _ _ _ _ h => h.elim) ?_
    (apply hav_same (by simp only [List.getElem?_toArray, List.getElem?_cons_zero]; rfl) (by kernel_rfl); (focus (intro wv hgv _; have hcv : ∀ b o, b < _ → wv.cell? ⟨b, o, none⟩ = _ := fun b o hb => Below.cell hgv (p := ⟨b, o, none⟩) hb; (try go_simp); try rfl; done)); simp only [Act.put, List.setIfInBounds_toArray, List.set_cons_succ, List.set_cons_zero])
    (apply hav_same (by simp only [List.getElem?_toArray, List.getElem?_cons_succ, List.getElem?_cons_zero]; rfl) (by kernel_rfl); (focus (intro wv hgv _; have hcv : ∀ b o, b < _ → wv.cell? ⟨b, o, none⟩ = _ := fun b o hb => Below.cell hgv (p := ⟨b, o, none⟩) hb; (try go_simp); try rfl; done)); simp only [Act.put, List.setIfInBounds_toArray, List.set_cons_succ, List.set_cons_zero])
    (apply hav_call (by simp only [List.getElem?_toArray, List.getElem?_cons_succ, List.getElem?_cons_zero]; rfl) (by kernel_rfl); (focus (intro wv; go_simp; try exact ⟨rfl, rfl⟩; done)); (focus (intro wv hgv _; exact HDR.out wv; done)); simp only [Act.put, List.setIfInBounds_toArray, List.set_cons_succ, List.set_cons_zero])
    apply hav_call_ghost (fun v wv => ∃ A c, v = .tuple #[.slice A (truthsA r.nat).length c, .int .i64 0] ∧ TrsIn wv r.nat.fr.length A (truthsA r.nat)) (by simp only [List.getElem?_toArray, List.getElem?_cons_succ, List.getElem?_cons_zero]; rfl) (by kernel_rfl)
    · intro wv; go_simp; try exact ⟨rfl, rfl⟩
    · rintro v w1 w2 ⟨A, c, h5, h6⟩ hg
      exact ⟨A, c, h5, h6.below hg⟩
    · intro wv hgv _
      refine (HTK.out wv hgv).mono ?_
      rintro e w' ⟨A, c, rfl, h6, hb⟩
      exact .inl ⟨_, rfl, hb, A, c, rfl, h6⟩
    intro v
    simp only [Act.put, List.setIfInBounds_toArray, List.set_cons_succ, List.set_cons_zero]
    by_cases hv : ∃ A c, v = .tuple #[.slice A (truthsA r.nat).length c, .int .i64 0]
    case neg =>
      have hno : ∀ w (Φ : Prop), (Φ ∧ ∃ A c, v = .tuple #[.slice A (truthsA r.nat).length c, .int .i64 0] ∧ TrsIn w r.nat.fr.length A (truthsA r.nat)) → False := fun w _ ⟨_, A, c, h, _⟩ => hv ⟨A, c, h⟩
      iterate 5 (refine hav_det (V := undef) (by simp only [List.getElem?_toArray, List.getElem?_cons_succ, List.getElem?_cons_zero]; rfl) (fun _ _ hF => (hno _ _ hF).elim) ?_; simp only [Act.put, List.setIfInBounds_toArray, List.set_cons_succ, List.set_cons_zero])
      refine hav_end (fun X hgX hF => ?_); simp only [List.filterMap]; have hcX : ∀ b o, b < _ → X.cell? ⟨b, o, none⟩ = _ := fun b o hb => Below.cell hgX (p := ⟨b, o, none⟩) hb; have hfX : ∀ b o, b < _ → X.frozen? ⟨b, o, none⟩ = _ := fun b o hb => Below.frozen hgX (p := ⟨b, o, none⟩) hb; have hzX := Below.size hgX; (try simp at hzX)
      exact (hno _ _ hF).elim
    obtain ⟨A, c, rfl⟩ := hv
    iterate 5 (apply hav_same (by simp only [List.getElem?_toArray, List.getElem?_cons_succ, List.getElem?_cons_zero]; rfl) (by kernel_rfl); (focus (intro wv hgv _; have hcv : ∀ b o, b < _ → wv.cell? ⟨b, o, none⟩ = _ := fun b o hb => Below.cell hgv (p := ⟨b, o, none⟩) hb; (try go_simp); try rfl; done)); simp only [Act.put, List.setIfInBounds_toArray, List.set_cons_succ, List.set_cons_zero])
    refine hav_end (fun X hgX hF => ?_); simp only [List.filterMap]; have hcX : ∀ b o, b < _ → X.cell? ⟨b, o, none⟩ = _ := fun b o hb => Below.cell hgX (p := ⟨b, o, none⟩) hb; have hfX : ∀ b o, b < _ → X.frozen? ⟨b, o, none⟩ = _ := fun b o hb => Below.frozen hgX (p := ⟨b, o, none⟩) hb; have hzX := Below.size hgX; (try simp at hzX)
    have HTR : Hid (TrsIn X r.nat.fr.length A (truthsA r.nat)) := by
      obtain ⟨_, A', c', e, h⟩ := hF
      injection e with e
      have e2 : A = A' := by
        have := congrArg (fun a => a[0]?) e
        simp at this
        exact this.1
      subst e2
      exact h
    clear hF
    have HBX : Hid (Below W.heap.size W X) := hgX
    clear hgX hcX hfX hzX q0 q1 q2 q3 q4 q5 q6 ql
    have HE' : Hid (E = 0 ∧ V = surelyP r.nat draws.toNat ∧ U = perhapsP r.nat draws.toNat) := by
      have e : E = 0 := by rw [← HEE.out, HE.out, h0]
      exact ⟨e, by rw [← HV.out.1, surelyV, if_pos (by rw [HEE.out, e])], by rw [← HV.out.2, perhapsV, if_pos (by rw [HEE.out, e])]⟩
    have hb1 := inB_iff.1 (show inB draws 0 200 = true from HIS.out)
    have hb3 := inB_iff.1 (okR_parts h2).1.2.2.1
    obtain ⟨n, hn⟩ : ∃ n : Nat, draws = n := ⟨draws.toNat, by omega⟩
    obtain ⟨D, hD⟩ : ∃ D, r.nat.days = D := ⟨_, rfl⟩
    have hDD : r.days = (D : Int) := by have : r.nat.days = r.days.toNat := rfl; omega
    have hD10 : D ≤ 10 := by omega
    subst hn
    rw [Int.toNat_natCast] at HE'
    have HS : Hid (∀ t ∈ truthsA r.nat, t.Small r.nat.fr.length) := fun t ht => truth_small h2 ht
    have hlen := truths_len h2
    have HBT : Hid (∀ d, bearsP r.nat n d = bearsT (truthsA r.nat) n d) := fun d => rfl
    obtain ⟨Ts, hTs⟩ : ∃ Ts, truthsA r.nat = Ts := ⟨_, rfl⟩
    rw [hTs] at HTR HS HBT hlen h4 ⊢
    obtain ⟨N, hN⟩ : ∃ N, Ts.length = N := ⟨_, rfl⟩
    have hN4 : N ≤ 400000 := by omega
    have hN0 : 0 < N := by rw [← hN]; exact List.length_pos_iff.2 h4
    have HL := Lib.hid hN
    have HD := Lib.hid hD
    have HB2 : Hid (∀ d, bearsT Ts n d ≤ 2) := fun d => bearsT_le _ _ _
    rw [hN]
    have HK := Lib.hid (HX.out.below HBX.out HX.out.lt)
    clear h0 h2 h4 hN hTs hlen hb1 hb3 hD
    have q4 := HK.out.cell 4
    have ql := HK.out.lt
    simp at q4
    rw [hDD] at q4
    have HDD := Lib.hid hDD
    clear hDD
    go_wp2
    go_loopw [9, 10, 11] (fun s p i wr => ∃ (d S P : Nat), d ≤ D + 1 ∧ i = .int .i64 d ∧ s = .int .i64 S ∧ p = .int .i64 P ∧ Hid (setN (fun d => bearsP r.nat n d == 2) d = S) ∧ Hid (setN (fun d => bearsP r.nat n d != 0) d = P) ∧ S < 2 ^ d ∧ P < 2 ^ d ∧ Hid (Below X.heap.size X wr)) (fun _ _ i _ => D + 1 - (intOf i).toNat)
    case atStart => exact ⟨0, 0, 0, Nat.zero_le _, rfl, rfl, rfl, rfl, rfl, by decide, by decide, Below.refl _ _⟩
    case round =>
      obtain ⟨d, S, P, hd, rfl, rfl, rfl, HSS, HPP, hS, hPb, HBR⟩ := hrel
      have HKR := Lib.hid (HK.out.below HBR.out HK.out.lt)
      clear q4 ql
      have q4 := HKR.out.cell 4
      have ql := HKR.out.lt
      simp at q4
      rw [HDD.out] at q4
      by_cases hlt : d ≤ D
      · obtain ⟨K, hK⟩ : ∃ K : Nat, 2 ^ d = K := ⟨_, rfl⟩
        have hp : 2 ^ d ≤ 2 ^ 10 := Nat.pow_le_pow_right (by omega) (by omega)
        have HPW : Hid (∀ wv : World, Calls Try.prog 68 #[.int .i64 d] wv fun e w' => e = .returned (.int .i64 (K : Nat)) ∧ w' = wv) := fun wv => (rpower_any d (by omega) wv).mono (by rintro e w' ⟨rfl, rfl⟩; exact ⟨by rw [← hK]; push_cast; rfl, rfl⟩)
        have HK2 : Hid (2 ^ (d + 1) = K + K) := by show _ = _; rw [Nat.pow_succ]; omega
        rw [hK] at hS hPb hp
        have hd10 : d ≤ 10 := by omega
        obtain ⟨B, hB⟩ : ∃ B, bearsT Ts n d = B := ⟨_, rfl⟩
        have hB2 : B ≤ 2 := by rw [← hB]; exact HB2.out d
        have HSN : Hid (setN (fun d => bearsP r.nat n d == 2) (d + 1) = S + if B = 2 then K else 0) := by
          show _ = _
          rw [setN, HSS.out, HBT.out d, hB, hK]
          by_cases e : B = 2
          · simp [e]
          · simp [e]
        have HPN : Hid (setN (fun d => bearsP r.nat n d != 0) (d + 1) = P + if B = 0 then 0 else K) := by
          show _ = _
          rw [setN, HPP.out, HBT.out d, hB, hK]
          by_cases e : B = 0
          · simp [e]
          · simp [e]
        have HBB := Lib.hid hB
        clear hK hB
        go_wp2_with fail
        refine (rbears_any HL.out hN0 hN4 HS.out hd10 n _ (HTR.out.below HBR.out)).mono ?_
        rw [HBB.out]
        rintro e Z ⟨rfl, hb⟩
        have HBZ : Hid (Below X.heap.size X Z) := HBR.out.trans (hb.mono HBR.out.size)
        clear hb q4 ql
        have hc : B = 0 ∨ B = 1 ∨ B = 2 := by omega
        rcases hc with rfl | rfl | rfl
        · go_wp2
          go_roundw
          case rel => exact ⟨d + 1, S, P, by omega, by go_num, rfl, rfl, by have h := HSN.out; simp at h; exact h, by have h := HPN.out; simp at h; exact h, by rw [HK2.out]; omega, by rw [HK2.out]; omega, HBZ⟩
          case measure => simp [intOf]; omega
        · go_wp2_with fail
          refine (HPW.out _).mono ?_
          rintro e Z2 ⟨rfl, rfl⟩
          go_wp2
          go_roundw
          case rel => exact ⟨d + 1, S, P + K, by omega, by go_num, rfl, by go_num, by have h := HSN.out; simp at h; exact h, by have h := HPN.out; simp at h; exact h, by rw [HK2.out]; omega, by rw [HK2.out]; omega, HBZ⟩
          case measure => simp [intOf]; omega
        · go_wp2_with fail
          refine (HPW.out _).mono ?_
          rintro e Z2 ⟨rfl, rfl⟩
          go_wp2_with fail
          refine (HPW.out _).mono ?_
          rintro e Z3 ⟨rfl, rfl⟩
          go_wp2
          go_roundw
          case rel => exact ⟨d + 1, S + K, P + K, by omega, by go_num, by go_num, by go_num, by have h := HSN.out; simp at h; exact h, by have h := HPN.out; simp at h; exact h, by rw [HK2.out]; omega, by rw [HK2.out]; omega, HBZ⟩
          case measure => simp [intOf]; omega
      · obtain rfl : d = D + 1 := by omega
        have HF : Hid (V = S ∧ U = P ∧ E = 0) := by
          refine ⟨?_, ?_, HE'.out.1⟩
          · rw [HE'.out.2.1, surelyP, HD.out, HSS.out]
          · rw [HE'.out.2.2, perhapsP, HD.out, HPP.out]
        clear hS hPb
        go_wp2
        refine bodyPost_ret (v := .tuple #[.int .i64 S, .int .i64 P, .int .i64 0]) (by simp [results, Try.results23, go_sem]) rfl ⟨by rw [HF.out.1, HF.out.2.1, HF.out.2.2]; rfl, HBW.out.trans ((HBX.out.trans (HBR.out.mono HBX.out.size)).mono HBW.out.size)⟩
set_option maxRecDepth 100000 in
set_option maxHeartbeats 1600000 in
theorem rUntil_any (draws : Int) (w : World) (hP : RvIn w w.heap.size fa fl la ll r) : Calls Try.prog 25 #[(.agg #[.int .i64 r.depth.lo, .int .i64 r.depth.hi, .int .i64 r.fall.lo, .int .i64 r.fall.hi, .int .i64 r.days, .slice fa fl fc, .slice la ll lc]), .int .i64 draws] w fun e w' => e = .returned (.tuple #[.int .i64 (untilV r draws), .int .i64 (untilE r draws)]) ∧ Below w.heap.size w w' := by
  have HP := Lib.hid hP
  clear hP
  obtain ⟨is, his⟩ : ∃ is, isDrB draws = is := ⟨_, rfl⟩
  have HDR : Hid (∀ wv : World, Calls Try.prog 73 #[.int .i64 draws] wv fun e w' => e = .returned (.bool is) ∧ Below wv.heap.size wv w') := fun wv => by
    have h := rdraws_any draws wv
    rwa [his] at h
  have HIS := Lib.hid his
  have HE : Hid (daysE r draws = toldE r is) := by show _ = _; rw [daysE, his]
  obtain ⟨V, hV⟩ : ∃ V, untilV r draws = V := ⟨_, rfl⟩
  obtain ⟨U, hU⟩ : ∃ V, untilE r draws = V := ⟨_, rfl⟩
  obtain ⟨E, hE⟩ : ∃ E, daysE r draws = E := ⟨_, rfl⟩
  rw [hV, hU]
  have HV := Lib.hid (And.intro hV hU)
  have HEE := Lib.hid hE
  clear his hV hU hE
  obtain ⟨W, hW⟩ : ∃ W, W = w.alloc (.cells #[.int .i64 r.depth.lo, .int .i64 r.depth.hi, .int .i64 r.fall.lo, .int .i64 r.fall.hi, .int .i64 r.days, .slice fa fl fc, .slice la ll lc] 27) := ⟨_, rfl⟩
  have HX : Hid (Blk W w.heap.size 27 #[.int .i64 r.depth.lo, .int .i64 r.depth.hi, .int .i64 r.fall.lo, .int .i64 r.fall.hi, .int .i64 r.days, .slice fa fl fc, .slice la ll lc]) := by rw [hW]; exact Blk.new w 27 _
  have HBW : Hid (Below w.heap.size w W) := by rw [hW]; exact (Below.refl _ _).alloc (Nat.le_refl _) _
  go_enter Try.func25, Try.ntmps25
  go_wp2_with fail
  rw [← hW]
  clear hW
  have q0 := HX.out.cell 0
  have q1 := HX.out.cell 1
  have q2 := HX.out.cell 2
  have q3 := HX.out.cell 3
  have q4 := HX.out.cell 4
  have q5 := HX.out.cell 5
  have q6 := HX.out.cell 6
  have ql := HX.out.lt
  simp at q0 q1 q2 q3 q4 q5 q6
  have HBV := HBW
  go_upto_region 1 with (fail)
  by_cases h0 : toldE r is = 0
  case neg =>
    have HT : Hid (∀ wv : World, Below W.heap.size W wv → Calls Try.prog 51 #[(.agg #[.int .i64 r.depth.lo, .int .i64 r.depth.hi, .int .i64 r.fall.lo, .int .i64 r.fall.hi, .int .i64 r.days, .slice fa fl fc, .slice la ll lc]), .bool is] wv fun e w' => e = .returned (.tuple #[.slice none 0 0, .int .i64 E]) ∧ Below wv.heap.size wv w') := fun wv hg => told_err (by rw [← HE.out, HEE.out]) (by rw [← HEE.out, HE.out]; exact h0) wv (HP.out.grow (HBV.out.trans (hg.mono HBV.out.size)))
    have HE' : Hid (E ≠ 0 ∧ V = 0 ∧ U = E) := by
      have e : E ≠ 0 := by rw [← HEE.out, HE.out]; exact h0
      have hU : untilE r draws = E := by rw [untilE, if_neg (by rw [HEE.out]; exact e), HEE.out]
      exact ⟨e, by rw [← HV.out.1, untilV, if_neg (by rw [hU]; exact e)], by rw [← HV.out.2, hU]⟩
    have hE10 : E ≤ 10 := by rw [← HEE.out, HE.out]; exact toldE_bd r is
    have hd : ((E : Int) != 0) = true := by have := HE'.out.1; simp; omega
    clear h0
    refine wp_region_havoc [(0,false),(1,false),(2,false),(3,false),(4,false),(5,false),(6,false),(7,false),(8,false)] [] (fun _ _ => False) (by kernel_rfl) (by kernel_rfl) (fun _ _ _ _ h => h.elim) ?_
    (apply hav_same (by simp only [List.getElem?_toArray, List.getElem?_cons_zero]; rfl) (by kernel_rfl); (focus (intro wv hgv _; have hcv : ∀ b o, b < _ → wv.cell? ⟨b, o, none⟩ = _ := fun b o hb => Below.cell hgv (p := ⟨b, o, none⟩) hb; (try go_simp); try rfl; done)); simp only [Act.put, List.setIfInBounds_toArray, List.set_cons_succ, List.set_cons_zero])
    (apply hav_same (by simp only [List.getElem?_toArray, List.getElem?_cons_succ, List.getElem?_cons_zero]; rfl) (by kernel_rfl); (focus (intro wv hgv _; have hcv : ∀ b o, b < _ → wv.cell? ⟨b, o, none⟩ = _ := fun b o hb => Below.cell hgv (p := ⟨b, o, none⟩) hb; (try go_simp); try rfl; done)); simp only [Act.put, List.setIfInBounds_toArray, List.set_cons_succ, List.set_cons_zero])
    (apply hav_call (by simp only [List.getElem?_toArray, List.getElem?_cons_succ, List.getElem?_cons_zero]; rfl) (by kernel_rfl); (focus (intro wv; go_simp; try exact ⟨rfl, rfl⟩; done)); (focus (intro wv hgv _; exact HDR.out wv; done)); simp only [Act.put, List.setIfInBounds_toArray, List.set_cons_succ, List.set_cons_zero])
    (apply hav_call (by simp only [List.getElem?_toArray, List.getElem?_cons_succ, List.getElem?_cons_zero]; rfl) (by kernel_rfl); (focus (intro wv; go_simp; try exact ⟨rfl, rfl⟩; done)); (focus (intro wv hgv _; exact HT.out wv hgv; done)); simp only [Act.put, List.setIfInBounds_toArray, List.set_cons_succ, List.set_cons_zero])
    iterate 5 (apply hav_same (by simp only [List.getElem?_toArray, List.getElem?_cons_succ, List.getElem?_cons_zero]; rfl) (by kernel_rfl); (focus (intro wv hgv _; have hcv : ∀ b o, b < _ → wv.cell? ⟨b, o, none⟩ = _ := fun b o hb => Below.cell hgv (p := ⟨b, o, none⟩) hb; (try go_simp); try rfl; done)); simp only [Act.put, List.setIfInBounds_toArray, List.set_cons_succ, List.set_cons_zero])
    refine hav_end (fun X hgX hF => ?_); simp only [List.filterMap]; have hcX : ∀ b o, b < _ → X.cell? ⟨b, o, none⟩ = _ := fun b o hb => Below.cell hgX (p := ⟨b, o, none⟩) hb; have hfX : ∀ b o, b < _ → X.frozen? ⟨b, o, none⟩ = _ := fun b o hb => Below.frozen hgX (p := ⟨b, o, none⟩) hb; have hzX := Below.size hgX; (try simp at hzX)
    have HBX : Hid (Below W.heap.size W X) := hgX
    clear hgX hcX hfX hzX q0 q1 q2 q3 q4 q5 q6 ql hF
    go_wp2
    go_ret2
    exact ⟨by rw [HE'.out.2.1, HE'.out.2.2]; rfl, HBW.out.trans (HBX.out.mono HBW.out.size)⟩
  · obtain ⟨h2, h3, h4⟩ := toldE_zero h0
    subst h3
    have HTK : Hid (∀ wv : World, Below W.heap.size W wv → Calls Try.prog 51 #[(.agg #[.int .i64 r.depth.lo, .int .i64 r.depth.hi, .int .i64 r.fall.lo, .int .i64 r.fall.hi, .int .i64 r.days, .slice fa fl fc, .slice la ll lc]), .bool true] wv fun e w' => ∃ A c, e = .returned (.tuple #[.slice A (truthsA r.nat).length c, .int .i64 0]) ∧ TrsIn w' r.nat.fr.length A (truthsA r.nat) ∧ Below wv.heap.size wv w') := fun wv hg => told_ok h0 wv (HP.out.grow (HBV.out.trans (hg.mono HBV.out.size)))
    refine wp_region_havoc [(0,false),(1,false),(2,false),(3,true),(4,false),(5,false),(6,false),(7,false),(8,false)] [] (fun _ _ => False) (by kernel_rfl) (by kernel_rfl) (fun _ _ _ _ h => h.elim) ?_
    (apply hav_same (by simp only [List.getElem?_toArray, List.getElem?_cons_zero]; rfl) (by kernel_rfl); (focus (intro wv hgv _; have hcv : ∀ b o, b < _ → wv.cell? ⟨b, o, none⟩ = _ := fun b o hb => Below.cell hgv (p := ⟨b, o, none⟩) hb; (try go_simp); try rfl; done)); simp only [Act.put, List.setIfInBounds_toArray, List.set_cons_succ, List.set_cons_zero])
    (apply hav_same (by simp only [List.getElem?_toArray, List.getElem?_cons_succ, List.getElem?_cons_zero]; rfl) (by kernel_rfl); (focus (intro wv hgv _; have hcv : ∀ b o, b < _ → wv.cell? ⟨b, o, none⟩ = _ := fun b o hb => Below.cell hgv (p := ⟨b, o, none⟩) hb; (try go_simp); try rfl; done)); simp only [Act.put, List.setIfInBounds_toArray, List.set_cons_succ, List.set_cons_zero])
    (apply hav_call (by simp only [List.getElem?_toArray, List.getElem?_cons_succ, List.getElem?_cons_zero]; rfl) (by kernel_rfl); (focus (intro wv; go_simp; try exact ⟨rfl, rfl⟩; done)); (focus (intro wv hgv _; exact HDR.out wv; done)); simp only [Act.put, List.setIfInBounds_toArray, List.set_cons_succ, List.set_cons_zero])
    apply hav_call_ghost (fun v wv => ∃ A c, v = .tuple #[.slice A (truthsA r.nat).length c, .int .i64 0] ∧ TrsIn wv r.nat.fr.length A (truthsA r.nat)) (by simp only [List.getElem?_toArray, List.getElem?_cons_succ, List.getElem?_cons_zero]; rfl) (by kernel_rfl)
    · intro wv; go_simp; try exact ⟨rfl, rfl⟩
    · rintro v w1 w2 ⟨A, c, h5, h6⟩ hg
      exact ⟨A, c, h5, h6.below hg⟩
    · intro wv hgv _
      refine (HTK.out wv hgv).mono ?_
      rintro e w' ⟨A, c, rfl, h6, hb⟩
      exact .inl ⟨_, rfl, hb, A, c, rfl, h6⟩
    intro v
    simp only [Act.put, List.setIfInBounds_toArray, List.set_cons_succ, List.set_cons_zero]
    by_cases hv : ∃ A c, v = .tuple #[.slice A (truthsA r.nat).length c, .int .i64 0]
    case neg =>
      have hno : ∀ w (Φ : Prop), (Φ ∧ ∃ A c, v = .tuple #[.slice A (truthsA r.nat).length c, .int .i64 0] ∧ TrsIn w r.nat.fr.length A (truthsA r.nat)) → False := fun w _ ⟨_, A, c, h, _⟩ => hv ⟨A, c, h⟩
      iterate 5 (refine hav_det (V := undef) (by simp only [List.getElem?_toArray, List.getElem?_cons_succ, List.getElem?_cons_zero]; rfl) (fun _ _ hF => (hno _ _ hF).elim) ?_; simp only [Act.put, List.setIfInBounds_toArray, List.set_cons_succ, List.set_cons_zero])
      refine hav_end (fun X hgX hF => ?_); simp only [List.filterMap]; have hcX : ∀ b o, b < _ → X.cell? ⟨b, o, none⟩ = _ := fun b o hb => Below.cell hgX (p := ⟨b, o, none⟩) hb; have hfX : ∀ b o, b < _ → X.frozen? ⟨b, o, none⟩ = _ := fun b o hb => Below.frozen hgX (p := ⟨b, o, none⟩) hb; have hzX := Below.size hgX; (try simp at hzX)
      exact (hno _ _ hF).elim
    obtain ⟨A, c, rfl⟩ := hv
    iterate 5 (apply hav_same (by simp only [List.getElem?_toArray, List.getElem?_cons_succ, List.getElem?_cons_zero]; rfl) (by kernel_rfl); (focus (intro wv hgv _; have hcv : ∀ b o, b < _ → wv.cell? ⟨b, o, none⟩ = _ := fun b o hb => Below.cell hgv (p := ⟨b, o, none⟩) hb; (try go_simp); try rfl; done)); simp only [Act.put, List.setIfInBounds_toArray, List.set_cons_succ, List.set_cons_zero])
    refine hav_end (fun X hgX hF => ?_); simp only [List.filterMap]; have hcX : ∀ b o, b < _ → X.cell? ⟨b, o, none⟩ = _ := fun b o hb => Below.cell hgX (p := ⟨b, o, none⟩) hb; have hfX : ∀ b o, b < _ → X.frozen? ⟨b, o, none⟩ = _ := fun b o hb => Below.frozen hgX (p := ⟨b, o, none⟩) hb; have hzX := Below.size hgX; (try simp at hzX)
    have HTR : Hid (TrsIn X r.nat.fr.length A (truthsA r.nat)) := by
      obtain ⟨_, A', c', e, h⟩ := hF
      injection e with e
      have e2 : A = A' := by
        have := congrArg (fun a => a[0]?) e
        simp at this
        exact this.1
      subst e2
      exact h
    clear hF
    have HBX : Hid (Below W.heap.size W X) := hgX
    clear hgX hcX hfX hzX q0 q1 q2 q3 q4 q5 q6 ql
    have HE' : Hid ((untilP r.nat draws.toNat = 0 → U = 4 ∧ V = 0) ∧ (untilP r.nat draws.toNat ≠ 0 → U = 0 ∧ V = untilP r.nat draws.toNat - 1)) := by
      have e : daysE r draws = 0 := by rw [HE.out, h0]
      refine ⟨fun h => ?_, fun h => ?_⟩
      · have hU : untilE r draws = 4 := by rw [untilE, if_pos e, if_pos h]
        exact ⟨by rw [← HV.out.2, hU], by rw [← HV.out.1, untilV, if_neg (by rw [hU]; omega)]⟩
      · have hU : untilE r draws = 0 := by rw [untilE, if_pos e, if_neg h]
        exact ⟨by rw [← HV.out.2, hU], by rw [← HV.out.1, untilV, if_pos hU]⟩
    have hb1 := inB_iff.1 (show inB draws 0 200 = true from HIS.out)
    have hb3 := inB_iff.1 (okR_parts h2).1.2.2.1
    obtain ⟨n, hn⟩ : ∃ n : Nat, draws = n := ⟨draws.toNat, by omega⟩
    obtain ⟨D, hD⟩ : ∃ D, r.nat.days = D := ⟨_, rfl⟩
    have hDD : r.days = (D : Int) := by have : r.nat.days = r.days.toNat := rfl; omega
    have hD10 : D ≤ 10 := by omega
    subst hn
    rw [Int.toNat_natCast] at HE'
    have HS : Hid (∀ t ∈ truthsA r.nat, t.Small r.nat.fr.length) := fun t ht => truth_small h2 ht
    have hlen := truths_len h2
    have HBT : Hid (∀ d, bearsP r.nat n d = bearsT (truthsA r.nat) n d) := fun d => rfl
    obtain ⟨Ts, hTs⟩ : ∃ Ts, truthsA r.nat = Ts := ⟨_, rfl⟩
    rw [hTs] at HTR HS HBT hlen h4 ⊢
    obtain ⟨N, hN⟩ : ∃ N, Ts.length = N := ⟨_, rfl⟩
    have hN4 : N ≤ 400000 := by omega
    have hN0 : 0 < N := by rw [← hN]; exact List.length_pos_iff.2 h4
    have HL := Lib.hid hN
    have HD := Lib.hid hD
    have HB2 : Hid (∀ d, bearsT Ts n d ≤ 2) := fun d => bearsT_le _ _ _
    rw [hN]
    have HK := Lib.hid (HX.out.below HBX.out HX.out.lt)
    clear h0 h2 h4 hN hTs hlen hb1 hb3 hD
    have q4 := HK.out.cell 4
    have ql := HK.out.lt
    simp at q4
    rw [hDD] at q4
    have HDD := Lib.hid hDD
    clear hDD
    have HPP : Hid (untilP r.nat n = runN (fun d => bearsT Ts n d == 2) (D + 1)) := by
      show _ = _
      rw [untilP, HD.out]
      congr 1
      funext d
      rw [HBT.out d]
    go_wp2
    go_loopw [8] (fun i wr => ∃ (k : Nat) (z : Int), k ≤ D + 1 ∧ i = .int .i64 z ∧ Hid (z + 1 = (k : Int)) ∧ Hid (∀ j, j < k → bearsT Ts n j = 2) ∧ Hid (Below X.heap.size X wr)) (fun i _ => D + 1 - (intOf i + 1).toNat)
    case atStart => exact ⟨0, -1, Nat.zero_le _, rfl, rfl, fun j hj => by omega, Below.refl _ _⟩
    case round =>
      obtain ⟨k, z, hk, rfl, HZ, HALL, HBR⟩ := hrel
      have HKR := Lib.hid (HK.out.below HBR.out HK.out.lt)
      clear q4 ql
      have q4 := HKR.out.cell 4
      have ql := HKR.out.lt
      simp at q4
      rw [HDD.out] at q4
      have hz := HZ.out
      by_cases hlt : k ≤ D
      · have hzd : z < (D : Int) := by omega
        have hk10 : k ≤ 10 := by omega
        obtain ⟨B, hB⟩ : ∃ B, bearsT Ts n k = B := ⟨_, rfl⟩
        have hB2 : B ≤ 2 := by rw [← hB]; exact HB2.out k
        have HBB := Lib.hid hB
        have hw1 : IntKind.i64.wrap (z + 1) = (k : Int) := (IntWalk.i64_in _ (by omega)).trans hz
        clear hB hz
        go_wp2_with fail
        refine (rbears_any HL.out hN0 hN4 HS.out hk10 n _ (HTR.out.below HBR.out)).mono ?_
        rw [HBB.out]
        rintro e Z ⟨rfl, hb⟩
        have HBZ : Hid (Below X.heap.size X Z) := HBR.out.trans (hb.mono HBR.out.size)
        clear hb q4 ql
        by_cases h2 : B = 2
        · have HN : Hid (∀ j, j < k + 1 → bearsT Ts n j = 2) := fun j hj => by
            by_cases e : j = k
            · subst e; rw [HBB.out, h2]
            · exact HALL.out j (by omega)
          subst h2
          go_wp2
          go_roundw
          case rel => exact ⟨k + 1, k, by omega, by go_num, by show _ = _; omega, HN, HBZ⟩
          case measure => have := HZ.out; simp [intOf]; omega
        · have HU : Hid (untilP r.nat n = k) := by
            show _ = _
            rw [HPP.out, show D + 1 = k + 1 + (D - k) by omega]
            exact runN_stop (fun j hj => by rw [HALL.out j hj]; rfl) (by rw [HBB.out]; simp; exact h2) _
          have hb2 : ((B : Int) == 2) = false := by simp; omega
          by_cases hk0 : k = 0
          · have HF := Lib.hid (HE'.out.1 (by rw [HU.out, hk0]))
            have hz0 : z < 0 := by have := HZ.out; omega
            clear hw1 hzd
            go_wp2
            go_ret2
            exact ⟨by rw [HF.out.1, HF.out.2]; rfl, HBW.out.trans ((HBX.out.trans (HBZ.out.mono HBX.out.size)).mono HBW.out.size)⟩
          · have HF := Lib.hid (HE'.out.2 (by rw [HU.out]; exact hk0))
            have HVZ : Hid ((V : Int) = z) := by have h := HF.out.2; rw [HU.out] at h; have := HZ.out; show _ = _; omega
            have hz0 : ¬ z < 0 := by have := HZ.out; omega
            clear hw1 hzd
            go_wp2
            go_ret2
            exact ⟨by rw [HVZ.out, HF.out.1]; rfl, HBW.out.trans ((HBX.out.trans (HBZ.out.mono HBX.out.size)).mono HBW.out.size)⟩
      · obtain rfl : k = D + 1 := by omega
        have HU : Hid (untilP r.nat n = D + 1) := by show _ = _; rw [HPP.out]; exact runN_full _ (fun j hj => by rw [HALL.out j hj]; rfl)
        have HF := Lib.hid (HE'.out.2 (by rw [HU.out]; omega))
        obtain rfl : z = (D : Int) := by omega
        have HVZ : Hid (V = D) := by have h := HF.out.2; rw [HU.out] at h; show _ = _; omega
        clear hz
        go_wp2
        go_ret2
        exact ⟨by rw [HVZ.out, HF.out.1]; rfl, HBW.out.trans ((HBX.out.trans (HBR.out.mono HBX.out.size)).mono HBW.out.size)⟩
set_option maxRecDepth 100000 in
set_option maxHeartbeats 1600000 in
theorem rLast_any (draws : Int) (w : World) (hP : RvIn w w.heap.size fa fl la ll r) : Calls Try.prog 27 #[(.agg #[.int .i64 r.depth.lo, .int .i64 r.depth.hi, .int .i64 r.fall.lo, .int .i64 r.fall.hi, .int .i64 r.days, .slice fa fl fc, .slice la ll lc]), .int .i64 draws] w fun e w' => e = .returned (.tuple #[.int .i64 (lastV r draws), .int .i64 (lastE r draws)]) ∧ Below w.heap.size w w' := by
  have HP := Lib.hid hP
  clear hP
  obtain ⟨is, his⟩ : ∃ is, isDrB draws = is := ⟨_, rfl⟩
  have HDR : Hid (∀ wv : World, Calls Try.prog 73 #[.int .i64 draws] wv fun e w' => e = .returned (.bool is) ∧ Below wv.heap.size wv w') := fun wv => by
    have h := rdraws_any draws wv
    rwa [his] at h
  have HIS := Lib.hid his
  have HE : Hid (daysE r draws = toldE r is) := by show _ = _; rw [daysE, his]
  obtain ⟨V, hV⟩ : ∃ V, lastV r draws = V := ⟨_, rfl⟩
  obtain ⟨U, hU⟩ : ∃ V, lastE r draws = V := ⟨_, rfl⟩
  obtain ⟨E, hE⟩ : ∃ E, daysE r draws = E := ⟨_, rfl⟩
  rw [hV, hU]
  have HV := Lib.hid (And.intro hV hU)
  have HEE := Lib.hid hE
  clear his hV hU hE
  obtain ⟨W, hW⟩ : ∃ W, W = w.alloc (.cells #[.int .i64 r.depth.lo, .int .i64 r.depth.hi, .int .i64 r.fall.lo, .int .i64 r.fall.hi, .int .i64 r.days, .slice fa fl fc, .slice la ll lc] 27) := ⟨_, rfl⟩
  have HX : Hid (Blk W w.heap.size 27 #[.int .i64 r.depth.lo, .int .i64 r.depth.hi, .int .i64 r.fall.lo, .int .i64 r.fall.hi, .int .i64 r.days, .slice fa fl fc, .slice la ll lc]) := by rw [hW]; exact Blk.new w 27 _
  have HBW : Hid (Below w.heap.size w W) := by rw [hW]; exact (Below.refl _ _).alloc (Nat.le_refl _) _
  go_enter Try.func27, Try.ntmps27
  go_wp2_with fail
  rw [← hW]
  clear hW
  have q0 := HX.out.cell 0
  have q1 := HX.out.cell 1
  have q2 := HX.out.cell 2
  have q3 := HX.out.cell 3
  have q4 := HX.out.cell 4
  have q5 := HX.out.cell 5
  have q6 := HX.out.cell 6
  have ql := HX.out.lt
  simp at q0 q1 q2 q3 q4 q5 q6
  have HBV := HBW
  go_upto_region 1 with (fail)
  by_cases h0 : toldE r is = 0
  case neg =>
    have HT : Hid (∀ wv : World, Below W.heap.size W wv → Calls Try.prog 51 #[(.agg #[.int .i64 r.depth.lo, .int .i64 r.depth.hi, .int .i64 r.fall.lo, .int .i64 r.fall.hi, .int .i64 r.days, .slice fa fl fc, .slice la ll lc]), .bool is] wv fun e w' => e = .returned (.tuple #[.slice none 0 0, .int .i64 E]) ∧ Below wv.heap.size wv w') := fun wv hg => told_err (by rw [← HE.out, HEE.out]) (by rw [← HEE.out, HE.out]; exact h0) wv (HP.out.grow (HBV.out.trans (hg.mono HBV.out.size)))
    have HE' : Hid (E ≠ 0 ∧ V = 0 ∧ U = E) := by
      have e : E ≠ 0 := by rw [← HEE.out, HE.out]; exact h0
      have hU : lastE r draws = E := by rw [lastE, if_neg (by rw [HEE.out]; exact e), HEE.out]
      exact ⟨e, by rw [← HV.out.1, lastV, if_neg (by rw [hU]; exact e)], by rw [← HV.out.2, hU]⟩
    have hE10 : E ≤ 10 := by rw [← HEE.out, HE.out]; exact toldE_bd r is
    have hd : ((E : Int) != 0) = true := by have := HE'.out.1; simp; omega
    clear h0
    refine wp_region_havoc [(0,false),(1,false),(2,false),(3,false),(4,false),(5,false),(6,false),(7,false),(8,false)] [] (fun _ _ => False) (by kernel_rfl) (by kernel_rfl) (fun _ _ _ _ h => h.elim) ?_
    (apply hav_same (by simp only [List.getElem?_toArray, List.getElem?_cons_zero]; rfl) (by kernel_rfl); (focus (intro wv hgv _; have hcv : ∀ b o, b < _ → wv.cell? ⟨b, o, none⟩ = _ := fun b o hb => Below.cell hgv (p := ⟨b, o, none⟩) hb; (try go_simp); try rfl; done)); simp only [Act.put, List.setIfInBounds_toArray, List.set_cons_succ, List.set_cons_zero])
    (apply hav_same (by simp only [List.getElem?_toArray, List.getElem?_cons_succ, List.getElem?_cons_zero]; rfl) (by kernel_rfl); (focus (intro wv hgv _; have hcv : ∀ b o, b < _ → wv.cell? ⟨b, o, none⟩ = _ := fun b o hb => Below.cell hgv (p := ⟨b, o, none⟩) hb; (try go_simp); try rfl; done)); simp only [Act.put, List.setIfInBounds_toArray, List.set_cons_succ, List.set_cons_zero])
    (apply hav_call (by simp only [List.getElem?_toArray, List.getElem?_cons_succ, List.getElem?_cons_zero]; rfl) (by kernel_rfl); (focus (intro wv; go_simp; try exact ⟨rfl, rfl⟩; done)); (focus (intro wv hgv _; exact HDR.out wv; done)); simp only [Act.put, List.setIfInBounds_toArray, List.set_cons_succ, List.set_cons_zero])
    (apply hav_call (by simp only [List.getElem?_toArray, List.getElem?_cons_succ, List.getElem?_cons_zero]; rfl) (by kernel_rfl); (focus (intro wv; go_simp; try exact ⟨rfl, rfl⟩; done)); (focus (intro wv hgv _; exact HT.out wv hgv; done)); simp only [Act.put, List.setIfInBounds_toArray, List.set_cons_succ, List.set_cons_zero])
    iterate 5 (apply hav_same (by simp only [List.getElem?_toArray, List.getElem?_cons_succ, List.getElem?_cons_zero]; rfl) (by kernel_rfl); (focus (intro wv hgv _; have hcv : ∀ b o, b < _ → wv.cell? ⟨b, o, none⟩ = _ := fun b o hb => Below.cell hgv (p := ⟨b, o, none⟩) hb; (try go_simp); try rfl; done)); simp only [Act.put, List.setIfInBounds_toArray, List.set_cons_succ, List.set_cons_zero])
    refine hav_end (fun X hgX hF => ?_); simp only [List.filterMap]; have hcX : ∀ b o, b < _ → X.cell? ⟨b, o, none⟩ = _ := fun b o hb => Below.cell hgX (p := ⟨b, o, none⟩) hb; have hfX : ∀ b o, b < _ → X.frozen? ⟨b, o, none⟩ = _ := fun b o hb => Below.frozen hgX (p := ⟨b, o, none⟩) hb; have hzX := Below.size hgX; (try simp at hzX)
    have HBX : Hid (Below W.heap.size W X) := hgX
    clear hgX hcX hfX hzX q0 q1 q2 q3 q4 q5 q6 ql hF
    go_wp2
    go_ret2
    exact ⟨by rw [HE'.out.2.1, HE'.out.2.2]; rfl, HBW.out.trans (HBX.out.mono HBW.out.size)⟩
  · obtain ⟨h2, h3, h4⟩ := toldE_zero h0
    subst h3
    have HTK : Hid (∀ wv : World, Below W.heap.size W wv → Calls Try.prog 51 #[(.agg #[.int .i64 r.depth.lo, .int .i64 r.depth.hi, .int .i64 r.fall.lo, .int .i64 r.fall.hi, .int .i64 r.days, .slice fa fl fc, .slice la ll lc]), .bool true] wv fun e w' => ∃ A c, e = .returned (.tuple #[.slice A (truthsA r.nat).length c, .int .i64 0]) ∧ TrsIn w' r.nat.fr.length A (truthsA r.nat) ∧ Below wv.heap.size wv w') := fun wv hg => told_ok h0 wv (HP.out.grow (HBV.out.trans (hg.mono HBV.out.size)))
    refine wp_region_havoc [(0,false),(1,false),(2,false),(3,true),(4,false),(5,false),(6,false),(7,false),(8,false)] [] (fun _ _ => False) (by kernel_rfl) (by kernel_rfl) (fun _ _ _ _ h => h.elim) ?_
    (apply hav_same (by simp only [List.getElem?_toArray, List.getElem?_cons_zero]; rfl) (by kernel_rfl); (focus (intro wv hgv _; have hcv : ∀ b o, b < _ → wv.cell? ⟨b, o, none⟩ = _ := fun b o hb => Below.cell hgv (p := ⟨b, o, none⟩) hb; (try go_simp); try rfl; done)); simp only [Act.put, List.setIfInBounds_toArray, List.set_cons_succ, List.set_cons_zero])
    (apply hav_same (by simp only [List.getElem?_toArray, List.getElem?_cons_succ, List.getElem?_cons_zero]; rfl) (by kernel_rfl); (focus (intro wv hgv _; have hcv : ∀ b o, b < _ → wv.cell? ⟨b, o, none⟩ = _ := fun b o hb => Below.cell hgv (p := ⟨b, o, none⟩) hb; (try go_simp); try rfl; done)); simp only [Act.put, List.setIfInBounds_toArray, List.set_cons_succ, List.set_cons_zero])
    (apply hav_call (by simp only [List.getElem?_toArray, List.getElem?_cons_succ, List.getElem?_cons_zero]; rfl) (by kernel_rfl); (focus (intro wv; go_simp; try exact ⟨rfl, rfl⟩; done)); (focus (intro wv hgv _; exact HDR.out wv; done)); simp only [Act.put, List.setIfInBounds_toArray, List.set_cons_succ, List.set_cons_zero])
    apply hav_call_ghost (fun v wv => ∃ A c, v = .tuple #[.slice A (truthsA r.nat).length c, .int .i64 0] ∧ TrsIn wv r.nat.fr.length A (truthsA r.nat)) (by simp only [List.getElem?_toArray, List.getElem?_cons_succ, List.getElem?_cons_zero]; rfl) (by kernel_rfl)
    · intro wv; go_simp; try exact ⟨rfl, rfl⟩
    · rintro v w1 w2 ⟨A, c, h5, h6⟩ hg
      exact ⟨A, c, h5, h6.below hg⟩
    · intro wv hgv _
      refine (HTK.out wv hgv).mono ?_
      rintro e w' ⟨A, c, rfl, h6, hb⟩
      exact .inl ⟨_, rfl, hb, A, c, rfl, h6⟩
    intro v
    simp only [Act.put, List.setIfInBounds_toArray, List.set_cons_succ, List.set_cons_zero]
    by_cases hv : ∃ A c, v = .tuple #[.slice A (truthsA r.nat).length c, .int .i64 0]
    case neg =>
      have hno : ∀ w (Φ : Prop), (Φ ∧ ∃ A c, v = .tuple #[.slice A (truthsA r.nat).length c, .int .i64 0] ∧ TrsIn w r.nat.fr.length A (truthsA r.nat)) → False := fun w _ ⟨_, A, c, h, _⟩ => hv ⟨A, c, h⟩
      iterate 5 (refine hav_det (V := undef) (by simp only [List.getElem?_toArray, List.getElem?_cons_succ, List.getElem?_cons_zero]; rfl) (fun _ _ hF => (hno _ _ hF).elim) ?_; simp only [Act.put, List.setIfInBounds_toArray, List.set_cons_succ, List.set_cons_zero])
      refine hav_end (fun X hgX hF => ?_); simp only [List.filterMap]; have hcX : ∀ b o, b < _ → X.cell? ⟨b, o, none⟩ = _ := fun b o hb => Below.cell hgX (p := ⟨b, o, none⟩) hb; have hfX : ∀ b o, b < _ → X.frozen? ⟨b, o, none⟩ = _ := fun b o hb => Below.frozen hgX (p := ⟨b, o, none⟩) hb; have hzX := Below.size hgX; (try simp at hzX)
      exact (hno _ _ hF).elim
    obtain ⟨A, c, rfl⟩ := hv
    iterate 5 (apply hav_same (by simp only [List.getElem?_toArray, List.getElem?_cons_succ, List.getElem?_cons_zero]; rfl) (by kernel_rfl); (focus (intro wv hgv _; have hcv : ∀ b o, b < _ → wv.cell? ⟨b, o, none⟩ = _ := fun b o hb => Below.cell hgv (p := ⟨b, o, none⟩) hb; (try go_simp); try rfl; done)); simp only [Act.put, List.setIfInBounds_toArray, List.set_cons_succ, List.set_cons_zero])
    refine hav_end (fun X hgX hF => ?_); simp only [List.filterMap]; have hcX : ∀ b o, b < _ → X.cell? ⟨b, o, none⟩ = _ := fun b o hb => Below.cell hgX (p := ⟨b, o, none⟩) hb; have hfX : ∀ b o, b < _ → X.frozen? ⟨b, o, none⟩ = _ := fun b o hb => Below.frozen hgX (p := ⟨b, o, none⟩) hb; have hzX := Below.size hgX; (try simp at hzX)
    have HTR : Hid (TrsIn X r.nat.fr.length A (truthsA r.nat)) := by
      obtain ⟨_, A', c', e, h⟩ := hF
      injection e with e
      have e2 : A = A' := by
        have := congrArg (fun a => a[0]?) e
        simp at this
        exact this.1
      subst e2
      exact h
    clear hF
    have HBX : Hid (Below W.heap.size W X) := hgX
    clear hgX hcX hfX hzX q0 q1 q2 q3 q4 q5 q6 ql
    have HE' : Hid ((lastP r.nat draws.toNat = 0 → U = 4 ∧ V = 0) ∧ (lastP r.nat draws.toNat ≠ 0 → U = 0 ∧ V = lastP r.nat draws.toNat - 1)) := by
      have e : daysE r draws = 0 := by rw [HE.out, h0]
      refine ⟨fun h => ?_, fun h => ?_⟩
      · have hU : lastE r draws = 4 := by rw [lastE, if_pos e, if_pos h]
        exact ⟨by rw [← HV.out.2, hU], by rw [← HV.out.1, lastV, if_neg (by rw [hU]; omega)]⟩
      · have hU : lastE r draws = 0 := by rw [lastE, if_pos e, if_neg h]
        exact ⟨by rw [← HV.out.2, hU], by rw [← HV.out.1, lastV, if_pos hU]⟩
    have hb1 := inB_iff.1 (show inB draws 0 200 = true from HIS.out)
    have hb3 := inB_iff.1 (okR_parts h2).1.2.2.1
    obtain ⟨n, hn⟩ : ∃ n : Nat, draws = n := ⟨draws.toNat, by omega⟩
    obtain ⟨D, hD⟩ : ∃ D, r.nat.days = D := ⟨_, rfl⟩
    have hDD : r.days = (D : Int) := by have : r.nat.days = r.days.toNat := rfl; omega
    have hD10 : D ≤ 10 := by omega
    subst hn
    rw [Int.toNat_natCast] at HE'
    have HS : Hid (∀ t ∈ truthsA r.nat, t.Small r.nat.fr.length) := fun t ht => truth_small h2 ht
    have hlen := truths_len h2
    have HBT : Hid (∀ d, bearsP r.nat n d = bearsT (truthsA r.nat) n d) := fun d => rfl
    obtain ⟨Ts, hTs⟩ : ∃ Ts, truthsA r.nat = Ts := ⟨_, rfl⟩
    rw [hTs] at HTR HS HBT hlen h4 ⊢
    obtain ⟨N, hN⟩ : ∃ N, Ts.length = N := ⟨_, rfl⟩
    have hN4 : N ≤ 400000 := by omega
    have hN0 : 0 < N := by rw [← hN]; exact List.length_pos_iff.2 h4
    have HL := Lib.hid hN
    have HD := Lib.hid hD
    have HB2 : Hid (∀ d, bearsT Ts n d ≤ 2) := fun d => bearsT_le _ _ _
    rw [hN]
    have HK := Lib.hid (HX.out.below HBX.out HX.out.lt)
    clear h0 h2 h4 hN hTs hlen hb1 hb3 hD
    have q4 := HK.out.cell 4
    have ql := HK.out.lt
    simp at q4
    rw [hDD] at q4
    have HDD := Lib.hid hDD
    clear hDD
    have HPP : Hid (lastP r.nat n = lastN (fun d => bearsT Ts n d != 0) (D + 1)) := by
      show _ = _
      rw [lastP, HD.out]
      congr 1
      funext d
      rw [HBT.out d]
    go_wp2
    go_loopw [8] (fun i wr => ∃ (k : Nat) (z : Int), k ≤ D + 1 ∧ i = .int .i64 z ∧ Hid (z + 1 = (k : Int)) ∧ Hid (lastP r.nat n = lastN (fun d => bearsT Ts n d != 0) k) ∧ Hid (Below X.heap.size X wr)) (fun i _ => (intOf i + 1).toNat)
    case atStart => exact ⟨D + 1, D, Nat.le_refl _, rfl, by show _ = _; push_cast; rfl, HPP, Below.refl _ _⟩
    case round =>
      obtain ⟨k, z, hk, rfl, HZ, HALL, HBR⟩ := hrel
      have hz := HZ.out
      by_cases hlt : 0 < k
      · obtain ⟨m, rfl⟩ : ∃ m, k = m + 1 := ⟨k - 1, by omega⟩
        obtain rfl : z = (m : Int) := by omega
        have hm10 : m ≤ 10 := by omega
        obtain ⟨B, hB⟩ : ∃ B, bearsT Ts n m = B := ⟨_, rfl⟩
        have hB2 : B ≤ 2 := by rw [← hB]; exact HB2.out m
        have HBB := Lib.hid hB
        clear hB hz
        go_wp2_with fail
        refine (rbears_any HL.out hN0 hN4 HS.out hm10 n _ (HTR.out.below HBR.out)).mono ?_
        rw [HBB.out]
        rintro e Z ⟨rfl, hb⟩
        have HBZ : Hid (Below X.heap.size X Z) := HBR.out.trans (hb.mono HBR.out.size)
        clear hb
        by_cases h2 : B = 0
        · have HN : Hid (lastP r.nat n = lastN (fun d => bearsT Ts n d != 0) m) := by
            show _ = _
            rw [HALL.out, lastN, if_neg (by rw [HBB.out, h2]; simp)]
          subst h2
          go_wp2
          go_roundw
          case rel => exact ⟨m, (m : Int) - 1, by omega, by go_num, by show _ = _; omega, HN, HBZ⟩
          case measure => simp [intOf]
        · have HU : Hid (lastP r.nat n = m + 1) := by
            show _ = _
            rw [HALL.out, lastN, if_pos (by rw [HBB.out]; simp; exact h2)]
          have HF := Lib.hid (HE'.out.2 (by rw [HU.out]; omega))
          have HVZ : Hid (V = m) := by have h := HF.out.2; rw [HU.out] at h; show _ = _; omega
          have hb2 : ((B : Int) != 0) = true := by simp; omega
          go_wp2
          go_ret2
          exact ⟨by rw [HVZ.out, HF.out.1]; rfl, HBW.out.trans ((HBX.out.trans (HBZ.out.mono HBX.out.size)).mono HBW.out.size)⟩
      · obtain rfl : k = 0 := by omega
        have HU : Hid (lastP r.nat n = 0) := by show _ = _; rw [HALL.out]; rfl
        have HF := Lib.hid (HE'.out.1 HU.out)
        obtain rfl : z = -1 := by omega
        clear hz
        go_wp2
        go_ret2
        exact ⟨by rw [HF.out.1, HF.out.2]; rfl, HBW.out.trans ((HBX.out.trans (HBR.out.mono HBX.out.size)).mono HBW.out.size)⟩
end
end Go.Proofs.Ytiodmkokpfgkkaa
