/- The walk of the law's pressing: a pressing by numbers; conditions: the press is valid and has a truth. -/
import Derived.Test.YtbfjebglaimcmaaRefN
import Derived.Test.YtbfjebglaimcmaaPlain6
import Derived.Test.YtbfjebglaimcmaaLawTruly
import Derived.BigRegion
import Derived.RegionTactic
namespace Go.Proofs.Ytbfjebglaimcmaa
open Go.RowKit Go.Hav
theorem map_set (N : List Nat) (i y : Nat) : (N.flatMap fun x => [nV x]).set i (nV y) = (N.set i y).flatMap fun x => [nV x] := by rw [flat_one, flat_one, List.map_set]
section
variable {low top bales : Int} {fa wa ua : Option Addr} {fl fc wl wc ul uc : Nat} {p : PressD} {us : List Nat}
def PressingR (p : PressD) (w : World) (e : Ending) (w' : World) : Prop := ∃ M A c, e = .returned (.slice A M.length c) ∧ RowN nV 3 w' A M ∧ Pressing p M ∧ M.Pairwise (· < ·) ∧ Below w.heap.size w w'
set_option maxRecDepth 100000 in
set_option maxHeartbeats 6400000 in
theorem pressing_any (hv : p.ok = true) (hw : p.wrong = 0) (hu : us.length = ul) (hub : ∀ x ∈ us, x ≤ 65535) (hul : ul ≤ 9223372036854775807) (w : World) (hP : PressIn w w.heap.size fa fl low top bales wa wl p) (hU : RdG u16F 1 w w.heap.size ua us) :
    Calls Try.prog 41 #[pressV fa fl fc low top bales wa wl wc, .slice ua ul uc] w (PressingR p w) := by
  have HP := Lib.hid hP
  have HU := Lib.hid hU
  have HV := Lib.hid hv
  have HWR := Lib.hid hw
  have HUL := Lib.hid hu
  have HUB := Lib.hid hub
  have HEN : Hid (p.n = fl) := hP.efl
  have HEB : Hid (p.bales = bales) := hP.ebales
  have hbal := PressD.ok_head hv
  have hn10 : fl ≤ 10 := by rw [← HEN.out]; exact hbal.1
  have hb5 : bales ≤ 5 := by rw [← HEB.out]; exact hbal.2.2.2.2.2.1
  have hfull : full fl ≤ 1023 := by
    unfold full
    have h := Nat.pow_le_pow_right (n := 2) (by omega) hn10
    omega
  obtain ⟨i0, hi, hz0, hz1, hz2⟩ := info_parts Try.infoE3
  have HI := Lib.hid hi
  have HI0 := Lib.hid hz0
  have HI1 := Lib.hid hz1
  have HI2 := Lib.hid hz2
  clear hi hz0 hz1 hz2 hP hU hv hw hu hub hbal
  unfold pressV
  go_enter Try.func41, Try.ntmps41
  go_wp2
  obtain ⟨W, hW⟩ : ∃ W, W = w.alloc (Obj.cells #[Value.slice fa fl fc, Value.int IntKind.i64 low, Value.int IntKind.i64 top, Value.int IntKind.i64 bales, Value.slice wa wl wc] 25) := ⟨_, rfl⟩
  have HX : Hid (Blk W w.heap.size 25 #[Value.slice fa fl fc, Value.int IntKind.i64 low, Value.int IntKind.i64 top, Value.int IntKind.i64 bales, Value.slice wa wl wc]) := by rw [hW]; exact Blk.new w 25 _
  have HBW : Hid (Below w.heap.size w W) := by rw [hW]; exact (Below.refl _ _).alloc (Nat.le_refl _) _
  rw [← hW]
  clear hW
  go_loopw [4, 5, 15] (fun lv uv i wr => ∃ (k : Nat) (M : List Nat) (v : Value), v = lv ∧ k ≤ ul ∧ i = .int .i64 k ∧ uv = .int .i64 (orL M : Nat) ∧ Pressing p M ∧ wr.ownsRow W.heap.size 3 1 v M.length (M.flatMap fun x => [nV x]) ∧ Below W.heap.size W wr) (fun _ _ i _ => ul - (intOf i).toNat)
  case atStart => exact ⟨0, [], _, rfl, Nat.zero_le _, rfl, rfl, ⟨by have := (PressD.ok_head HV.out).2.2.2.2.1; simpa using this, by simp, .nil⟩, own_nil _ _ _ _, Below.refl _ _⟩
  case round =>
    obtain ⟨k, M, v, hvv, hk, rfl, rfl, hpr, hown, hb⟩ := hrel
    subst hvv
    have HPR := Lib.hid hpr
    have HO := Lib.hid hown
    have HB := Lib.hid hb
    clear hpr hown hb
    obtain ⟨n, hn⟩ : ∃ n, M.length = n := ⟨_, rfl⟩
    have hnb : (n : Int) ≤ bales := by have := HPR.out.len; rw [hn, HEB.out] at this; exact this
    have hn5 : n ≤ 5 := by omega
    rw [hn] at HO
    have HN := Lib.hid hn
    have hor : orL M < 1024 := Nat.lt_of_lt_of_le (orL_lt (n := p.n) (fun s hs => (HPR.out.sure s hs).1)) (PressD.n_pow HV.out)
    obtain ⟨U, hU⟩ : ∃ U, orL M = U := ⟨_, rfl⟩
    rw [hU] at hor ⊢
    have HUU := Lib.hid hU
    clear hn hU
    obtain ⟨x0, x1, x2, x3, x4, xl⟩ := blk5 (HX.out.below HB.out HX.out.lt)
    by_cases hlt : k < ul
    · obtain ⟨m, hm⟩ : ∃ m, us[k]? = some m := ⟨_, List.getElem?_eq_getElem (by rw [HUL.out]; exact hlt)⟩
      have hm16 := HUB.out m (List.mem_of_getElem? hm)
      obtain ⟨ub, uo, rfl, hubl, H5⟩ := rd_u16 ((HU.out.below (HBW.out.trans (HB.out.mono HBW.out.size))).more (Nat.le_trans HBW.out.size HB.out.size)) k m hm
      have HAND := Lib.hid (and_i64 m (full fl) (by omega) (by omega))
      obtain ⟨a, ha⟩ : ∃ a, m &&& full fl = a := ⟨_, rfl⟩
      rw [ha] at HAND
      have haf : a ≤ full fl := by rw [← ha]; exact Nat.and_le_right
      have HNOT := Lib.hid (not_i64 a U (by omega) (by omega))
      obtain ⟨s, hs⟩ : ∃ s, dif a U = s := ⟨_, rfl⟩
      rw [hs] at HNOT
      have hsf : s ≤ full fl := by rw [← hs]; exact Nat.le_trans (dif_le a U) haf
      have HD : Hid (s &&& U = 0) := by
        show _ = _
        rw [← hs]
        exact and_zero_iff.2 fun i ⟨h1, h2⟩ => by rw [tb_dif, h2] at h1; simp at h1
      have HSN : Hid (s ≤ full p.n) := by show _ ≤ _; rw [HEN.out]; exact hsf
      have HSE : Hid (setE p (s : Int) = 0) := by show _ = _; rw [setE_ok HV.out HSN.out, if_pos HWR.out]
      clear hm ha hs
      have hand := HAND.out
      have hnot := HNOT.out
      go_wp2_with fail
      refine (every_any (low := low) (top := top) (bales := bales) (fa := fa) (fc := fc) (wa := wa) (wl := wl) (wc := wc) (by omega) wr).mono ?_
      rintro e w1 ⟨rfl, hb1⟩
      have HB1 : Hid (Below W.heap.size W w1) := HB.out.trans (hb1.mono HB.out.size)
      have HO1 := Lib.hid (own_below HO.out hb1)
      clear hb1 x0 x1 x2 x3 x4 xl H5 hubl
      obtain ⟨x0, x1, x2, x3, x4, xl⟩ := blk5 (HX.out.below HB1.out HX.out.lt)
      obtain ⟨F, hF⟩ : ∃ F, p.fits s = F := ⟨_, rfl⟩
      have hf2 := fits_sure p s
      rw [hF] at hf2
      have HF := Lib.hid hF
      have HF2 := Lib.hid hf2
      clear hF hf2
      go_wp2_with fail
      refine (PFits_any (p := p) (s : Int) w1 (by exact (HP.out.grow HBW.out).grow HB1.out)).mono ?_
      rw [HSE.out, if_pos rfl, Int.toNat_natCast, HF.out]
      rintro e w2 ⟨rfl, hb2⟩
      have HB2 : Hid (Below W.heap.size W w2) := HB1.out.trans (hb2.mono HB1.out.size)
      have HO2 := Lib.hid (own_below HO1.out hb2)
      have hs2 := HB2.out.size
      have hvn : ∃ A c, v = .slice A n c := by
        rcases HO2.out.2 with ⟨rfl, rfl⟩ | ⟨g, c, _, rfl, _⟩
        · exact ⟨none, 0, rfl⟩
        · exact ⟨_, c, rfl⟩
      obtain ⟨vA, vc, rfl⟩ := hvn
      clear hb2 x0 x1 x2 x3 x4 xl hand hnot
      obtain ⟨x0, x1, x2, x3, x4, xl⟩ := blk5 (HX.out.below HB2.out HX.out.lt)
      cases h2 : F == 2
      · go_wp2
        go_roundw
        case rel => exact ⟨k + 1, M, _, rfl, by omega, by go_num, by rw [HUU.out], HPR.out, by rw [HN.out]; exact HO2.out, HB2.out⟩
        case measure => simp [intOf]; omega
      · by_cases hlb : (n : Int) < bales
        · have hd : decide ((n : Int) < bales) = true := by simp [hlb]
          have hsure : p.sure s = true := by have h := HF2.out; rw [h2] at h; exact h.symm
          have HPN : Hid (Pressing p (M ++ [s])) := HPR.out.snoc (by rw [HN.out, HEB.out]; exact hlb) (le_full.1 HSN.out) hsure (by rw [HUU.out]; exact HD.out)
          have HON : Hid (bits BinOp.or IntKind.i64 (U : Int) (s : Int) = ((U ||| s : Nat) : Int)) := or_i64 U s (by omega) (by omega)
          have HUN : Hid (orL (M ++ [s]) = U ||| s) := by show _ = _; rw [orL_snoc, HUU.out]
          have HOWN := Lib.hid (own_below (w' := w2.alloc (.cells #[nV s] 3)) HO2.out ((Below.refl w2.heap.size w2).alloc (Nat.le_refl _) _))
          have hB3 : W.heap.size ≤ (w2.alloc (.cells #[nV s] 3)).heap.size := by simp; omega
          have hon := HON.out
          clear hsure
          go_wp2_with (at_builtin; refine wpList_append_own _ rfl _ _ 38 rfl W.heap.size 3 i0 _ 1 8 Try.underlying38 HI.out HI0.out HI1.out HI2.out rfl (by decide) _ _ _ rfl HOWN.out ⟨w2.heap.size, 0, none⟩ 1 1 [nV s] rfl rfl (news_block (Blk.new w2 3 _)) (by simp [nV, Value.oneCell']) (by unfold maxLen; omega) (by omega) hB3 ?_)
          intro v' w5 hown5 hgrow5 _
          have HO5 := Lib.hid hown5
          have HG5 : Hid (Below W.heap.size W w5) := Below.grown (HB2.out.alloc hs2 _) hgrow5 hB3 (fun k' hk' => (HOWN.out.lt k' hk').1)
          clear hown5 hgrow5 x0 x1 x2 x3 x4 xl
          go_wp2
          go_roundw
          case rel => exact ⟨k + 1, M ++ [s], _, rfl, by omega, by go_num, by rw [HUN.out], HPN.out, by rw [List.flatMap_append, List.length_append, HN.out]; exact HO5.out, HG5.out⟩
          case measure => simp [intOf]; omega
        · have hd : decide ((n : Int) < bales) = false := by simp; omega
          go_wp2
          go_roundw
          case rel => exact ⟨k + 1, M, _, rfl, by omega, by go_num, by rw [HUU.out], HPR.out, by rw [HN.out]; exact HO2.out, HB2.out⟩
          case measure => simp [intOf]; omega
    · obtain rfl : ul = k := by omega
      have hvn : ∃ A c, v = .slice A n c ∧ n ≤ c ∧ (0 < n → ∃ g, A = some ⟨g, 0, none⟩ ∧ W.heap.size ≤ g) := by
        rcases HO.out.2 with ⟨rfl, rfl⟩ | ⟨g, c, _, rfl, hg, _, hnc, _⟩
        · exact ⟨none, 0, rfl, Nat.le_refl _, fun h => by omega⟩
        · exact ⟨_, c, rfl, hnc, fun _ => ⟨g, rfl, hg⟩⟩
      obtain ⟨vA, vc, rfl, hnc, hgA⟩ := hvn
      have HGA := Lib.hid hgA
      clear hgA x0 x1 x2 x3 x4 xl
      go_wp2
      go_loopw [55] (fun i wr => ∃ (j : Nat) (N : List Nat), j ≤ n ∧ i = .int .i64 j ∧ Sor N j ∧ Pressing p N ∧ N.length = n ∧ wr.ownsRow W.heap.size 3 1 (.slice vA n vc) n (N.flatMap fun x => [nV x]) ∧ Below W.heap.size W wr) (fun i _ => n - (intOf i).toNat)
      case atStart => exact ⟨0, M, Nat.zero_le _, rfl, fun a b x y _ hb => by omega, HPR.out, HN.out, HO.out, HB.out⟩
      case round =>
        clear HPR HN HO HB HUU
        obtain ⟨j, N, hj, rfl, hsor, hpr, hnl, hown, hb⟩ := hrel
        have HSO := Lib.hid hsor
        have HPR := Lib.hid hpr
        have HNL := Lib.hid hnl
        have HO := Lib.hid hown
        have HB := Lib.hid hb
        clear hsor hpr hnl hown hb
        by_cases hlt : j < n
        · obtain ⟨g, rfl, hgB⟩ := HGA.out (by omega)
          have hjc : j ≤ vc := by omega
          go_wp2
          go_loopw [62] (fun iv wr => ∃ (q : Nat) (N : List Nat), q ≤ j ∧ iv = .int .i64 q ∧ Sor N j ∧ Low N j q ∧ Pressing p N ∧ N.length = n ∧ wr.ownsRow W.heap.size 3 1 (.slice (some ⟨g, 0, none⟩) n vc) n (N.flatMap fun x => [nV x]) ∧ Below W.heap.size W wr) (fun iv _ => j - (intOf iv).toNat)
          case atStart => exact ⟨0, N, Nat.zero_le _, rfl, HSO.out, fun a x y ha => by omega, HPR.out, HNL.out, HO.out, HB.out⟩
          case round =>
            clear HSO HPR HNL HO HB
            obtain ⟨q, N, hq, rfl, hsor, hlow, hpr, hnl, hown, hb⟩ := hrel
            have HSO := Lib.hid hsor
            have HLO := Lib.hid hlow
            have HPR := Lib.hid hpr
            have HNL := Lib.hid hnl
            have HO := Lib.hid hown
            have HB := Lib.hid hb
            clear hsor hlow hpr hnl hown hb
            by_cases hlt2 : q < j
            · obtain ⟨x, hx⟩ : ∃ x, N[j]? = some x := ⟨_, List.getElem?_eq_getElem (by rw [HNL.out]; exact hlt)⟩
              obtain ⟨y, hy⟩ : ∃ y, N[q]? = some y := ⟨_, List.getElem?_eq_getElem (by rw [HNL.out]; omega)⟩
              have hgl : g < wr.heap.size := (HO.out.lt g rfl).2
              have H0 : wr.cell? ⟨g, j, none⟩ = some (.int .i64 x) := by rw [HO.out.cellAt j (by omega), flat_one, List.getElem?_map, hx]; rfl
              have H1 : wr.cell? ⟨g, q, none⟩ = some (.int .i64 y) := by rw [HO.out.cellAt q (by omega), flat_one, List.getElem?_map, hy]; rfl
              have hne := pressing_ne HPR.out hlt2 hx hy
              have hj0 : (0 : Int) ≤ (j : Int) := by omega
              have hq0 : (0 : Int) ≤ (q : Int) := by omega
              have hjn : (j : Int) < (n : Int) := by omega
              have hqn : (q : Int) < (n : Int) := by omega
              have hqn2 : q < n := by omega
              have HXX := Lib.hid hx
              have HYY := Lib.hid hy
              clear hx hy
              go_upto_region 16 with fail
              refine wp_region_havoc [(0,false),(1,false),(2,false),(3,false),(4,false),(5,false),(6,false),(7,false),(8,false)] [] (fun _ _ => False) (by kernel_rfl) (by kernel_rfl) (fun _ _ _ _ h => h.elim) ?_
              (apply hav_same (by simp only [List.getElem?_toArray, List.getElem?_cons_zero]; rfl) (by kernel_rfl); (focus (intro wv hgv _; have hcv : ∀ b o, b < _ → wv.cell? ⟨b, o, none⟩ = _ := fun b o hb => Below.cell hgv (p := ⟨b, o, none⟩) hb; (try go_simp); try rfl; done)); simp only [Act.put, List.setIfInBounds_toArray, List.set_cons_succ, List.set_cons_zero])
              iterate 8 (apply hav_same (by simp only [List.getElem?_toArray, List.getElem?_cons_succ, List.getElem?_cons_zero]; rfl) (by kernel_rfl); (focus (intro wv hgv _; have hcv : ∀ b o, b < _ → wv.cell? ⟨b, o, none⟩ = _ := fun b o hb => Below.cell hgv (p := ⟨b, o, none⟩) hb; (try go_simp); try rfl; done)); simp only [Act.put, List.setIfInBounds_toArray, List.set_cons_succ, List.set_cons_zero])
              refine hav_end (fun w1 hgw1 _ => ?_); simp only [List.filterMap]; have hcw1 : ∀ b o, b < _ → w1.cell? ⟨b, o, none⟩ = _ := fun b o hb => Below.cell hgw1 (p := ⟨b, o, none⟩) hb; have hfw1 : ∀ b o, b < _ → w1.frozen? ⟨b, o, none⟩ = _ := fun b o hb => Below.frozen hgw1 (p := ⟨b, o, none⟩) hb; have hzw1 := Below.size hgw1; (try simp at hzw1)
              have HB1 : Hid (Below W.heap.size W w1) := HB.out.trans (hgw1.mono HB.out.size)
              have HO1 := Lib.hid (own_below HO.out hgw1)
              have hgl1 : g < w1.heap.size := (HO1.out.lt g rfl).2
              have H0 := (hcw1 g j hgl).trans H0
              have H1 := (hcw1 g q hgl).trans H1
              clear hgw1 hcw1 hfw1 hgl
              by_cases hxy : x < y
              · obtain ⟨k1, k2⟩ := swap_sor HSO.out HLO.out hlt2 HXX.out HYY.out hxy
                have k3 := HPR.out.perm (swap_perm HXX.out HYY.out)
                have k4 : (swapL N j q x y).length = n := by unfold swapL; rw [List.length_set, List.length_set, HNL.out]
                have K1 := Lib.hid k1
                have K2 := Lib.hid k2
                have K3 := Lib.hid k3
                have K4 := Lib.hid k4
                have f0 := HO1.out.frozenAt j
                have f1 := HO1.out.frozenAt q
                clear k1 k2 k3 k4 hne
                go_upto_region 17 with fail
                have hqj : ¬ q = j := by omega
                have hjq : ¬ j = q := by omega
                go_region
                go_wp2
                go_roundw
                case rel =>
                  have e1 := (HO1.out.stored j (nV y)).1
                  rw [map_set] at e1
                  have e2 := (e1.stored q (nV x)).1
                  rw [map_set] at e2
                  exact ⟨q + 1, swapL N j q x y, by omega, by go_num, K1.out, K2.out, K3.out, K4.out, e2.drew, Below.drew (setCell_below (setCell_below HB1.out hgB j _) hgB q _)⟩
                case measure => simp [intOf]; omega
              · have hd : decide (x < y) = false := by simp; omega
                have hd2 : decide ((x : Int) < (y : Int)) = false := by simp; omega
                have K2 := Lib.hid (HLO.out.keep HXX.out HYY.out (by omega))
                have hge : y ≤ x := by omega
                clear hxy hne H0 H1
                go_wp2
                go_roundw
                case rel => exact ⟨q + 1, N, by omega, by go_num, HSO.out, K2.out, HPR.out, HNL.out, HO1.out, HB1.out⟩
                case measure => simp [intOf]; omega
            · obtain rfl : j = q := by omega
              have HS2 := Lib.hid (HSO.out.next HLO.out)
              go_wp2
              go_roundw
              case rel => exact ⟨j + 1, N, by omega, by go_num, HS2.out, HPR.out, HNL.out, HO.out, HB.out⟩
              case measure => simp [intOf]; omega
        · obtain rfl : n = j := by omega
          have hs := HSO.out
          rw [← HNL.out] at hs
          have HPW := Lib.hid hs.pairwise
          obtain ⟨A2, c2, he2, hr2, -⟩ := RowN.of_own HO.out HNL.out
          have HR2 := Lib.hid hr2
          injection he2 with e1 e2 e3
          subst e1 e3
          clear hs hr2
          go_wp2
          go_ret
          exact ⟨N, vA, vc, by rw [HNL.out]; rfl, HR2.out, HPR.out, HPW.out, HBW.out.trans (HB.out.mono HBW.out.size)⟩
end
end Go.Proofs.Ytbfjebglaimcmaa
