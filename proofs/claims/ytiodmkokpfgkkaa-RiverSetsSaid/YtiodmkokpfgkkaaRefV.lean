/- The walks of the reference's hull, depths, bears. Conditions: the truths are small, and there is one. -/
import Derived.Test.YtiodmkokpfgkkaaRefU
namespace Go.Proofs.Ytiodmkokpfgkkaa
open Go.RowKit Go.Hav Go.Shelf Go.Sq
attribute [local go_sem] Oper.semAt_some
/-- The span of the first i numbers. -/
def hullK (l : List Nat) (i : Nat) : Nat × Nat := ((l.take i).foldl min (l.headD 0), (l.take i).foldl max (l.headD 0))
theorem hullK_next {l : List Nat} {i x : Nat} (h : l[i]? = some x) : hullK l (i + 1) = (min (hullK l i).1 x, max (hullK l i).2 x) := by
  unfold hullK
  rw [List.take_add_one, h, List.foldl_append, List.foldl_append]
  rfl
theorem hullK_zero {l : List Nat} : hullK l 0 = (l.headD 0, l.headD 0) := rfl
theorem hullK_all {l : List Nat} (h : l ≠ []) : hullK l l.length = hullP l := by
  cases l with
  | nil => exact absurd rfl h
  | cons x l =>
    unfold hullK hullP
    rw [List.take_length, List.foldl_cons, List.foldl_cons]
    simp only [List.headD_cons, Nat.min_self, Nat.max_self]
theorem RowN.in_ {w : World} {A : Option Addr} {l : List Nat} (h : RowN nV 3 w A l) {k x b off : Nat} (hA : A = some ⟨b, off, none⟩) (hx : l[k]? = some x) : b < w.heap.size ∧ w.cell? ⟨b, off + k, none⟩ = some (.int .i64 x) := by
  obtain ⟨b', off', e, h1, h2⟩ := h.at_ hx
  rw [hA] at e
  injection e with e
  injection e with e1 e2
  subst e1 e2
  exact ⟨h1, h2⟩
section
variable {A : Option Addr} {N c : Nat} {l : List Nat}
set_option maxRecDepth 100000 in
set_option maxHeartbeats 1600000 in
theorem hull_any (hl : l.length = N) (h0 : 0 < N) (hN : N ≤ 400000) (hb : ∀ x ∈ l, x ≤ 100000) (w : World) (hR : RowN nV 3 w A l) :
    Calls Try.prog 59 #[.slice A N c] w fun e w' => e = .returned (.agg #[.int .i64 (hullP l).1, .int .i64 (hullP l).2]) ∧ Below w.heap.size w w' := by
  have HR := Lib.hid hR
  have HL := Lib.hid hl
  have HBD := Lib.hid hb
  obtain ⟨x, hx⟩ : ∃ x, l[0]? = some x := ⟨_, List.getElem?_eq_getElem (by omega)⟩
  have hx1 := hb x (List.mem_of_getElem? hx)
  obtain ⟨b, off, rfl, hbl, H0⟩ := hR.at_ hx
  have HHD : Hid (hullK l 0 = (x, x)) := by
    show _ = _
    rw [hullK_zero]
    cases l with
    | nil => cases hx
    | cons y l => injection hx with hx; subst hx; rfl
  obtain ⟨⟨E0, E1⟩, hE⟩ : ∃ e, hullP l = e := ⟨_, rfl⟩
  have HE : Hid (hullK l N = (E0, E1)) := by
    show _ = _
    rw [← HL.out, hullK_all (fun e => by rw [e] at hl; simp at hl; omega), hE]
  rw [hE]
  simp only
  rw [Nat.add_zero] at H0
  have hN0 : (0 : Int) < N := by omega
  clear hR hl hb hx hE
  obtain ⟨W, hW⟩ : ∃ W, W = w.alloc (.cells #[.int .i64 0, .int .i64 0] 23) := ⟨_, rfl⟩
  have HX : Hid (Blk W w.heap.size 23 #[.int .i64 0, .int .i64 0]) := by rw [hW]; exact Blk.new w 23 _
  have HBW : Hid (Below w.heap.size w W) := by rw [hW]; exact (Below.refl _ _).alloc (Nat.le_refl _) _
  go_enter Try.func59, Try.ntmps59
  go_wp2_with fail
  rw [← hW]
  clear hW
  have H0W : W.cell? ⟨b, off, none⟩ = some (.int .i64 x) := (Below.cell HBW.out (p := ⟨b, off, none⟩) hbl).trans H0
  have hbW : b < W.heap.size := Nat.lt_of_lt_of_le hbl HBW.out.size
  clear H0
  go_upto_region 1 with (fail)
  refine wp_region_havoc [(0,false),(1,false),(2,false),(3,false),(4,false),(5,false),(6,false),(7,true)] [8] (fun _ _ => False) (by kernel_rfl) (by kernel_rfl) (fun _ _ _ _ h => h.elim) ?_
  (apply hav_same (by simp only [List.getElem?_toArray, List.getElem?_cons_zero]; rfl) (by kernel_rfl); (focus (intro wv hgv _; have hcv : ∀ b o, b < _ → wv.cell? ⟨b, o, none⟩ = _ := fun b o hb => Below.cell hgv (p := ⟨b, o, none⟩) hb; (try go_simp); try rfl; done)); simp only [Act.put, List.setIfInBounds_toArray, List.set_cons_succ, List.set_cons_zero])
  iterate 6 (apply hav_same (by simp only [List.getElem?_toArray, List.getElem?_cons_succ, List.getElem?_cons_zero]; rfl) (by kernel_rfl); (focus (intro wv hgv _; have hcv : ∀ b o, b < _ → wv.cell? ⟨b, o, none⟩ = _ := fun b o hb => Below.cell hgv (p := ⟨b, o, none⟩) hb; (try go_simp); try rfl; done)); simp only [Act.put, List.setIfInBounds_toArray, List.set_cons_succ, List.set_cons_zero])
  (apply hav_new (fun g => .pointer (some ⟨g, 0, none⟩)) (.cells #[.int .i64 0, .int .i64 0] 23) (by simp only [List.getElem?_toArray, List.getElem?_cons_succ, List.getElem?_cons_zero]; rfl) (by kernel_rfl); (focus (intro wv hgv _; have hcv : ∀ b o, b < _ → wv.cell? ⟨b, o, none⟩ = _ := fun b o hb => Below.cell hgv (p := ⟨b, o, none⟩) hb; (try go_simp); try rfl; done)); intro v; simp only [Act.put, List.setIfInBounds_toArray, List.set_cons_succ, List.set_cons_zero])
  refine hav_end (fun w5 hgw5 hF => ?_); simp only [List.filterMap]; have hcw5 : ∀ b o, b < _ → w5.cell? ⟨b, o, none⟩ = _ := fun b o hb => Below.cell hgw5 (p := ⟨b, o, none⟩) hb; have hfw5 : ∀ b o, b < _ → w5.frozen? ⟨b, o, none⟩ = _ := fun b o hb => Below.frozen hgw5 (p := ⟨b, o, none⟩) hb; have hzw5 := Below.size hgw5; (try simp at hzw5)
  obtain ⟨_, g, rfl, hg, hgb⟩ := hF
  have hgb : Blk w5 g 23 #[.int .i64 0, .int .i64 0] := hgb
  have HB5 : Hid (Below W.heap.size W w5) := hgw5
  have k0 := hgb.cell 0
  have k1 := hgb.cell 1
  have f0 := hgb.frozen 0
  have f1 := hgb.frozen 1
  have kl := hgb.lt
  simp at k0 k1
  have HGB := Lib.hid hgb
  clear hgb hgw5 hcw5 hfw5 H0W
  have hgW : w.heap.size < g := Nat.lt_of_lt_of_le HX.out.lt hg
  go_wp2
  obtain ⟨Y, hY⟩ : ∃ Y, Y = (w5.setCell ⟨g, 0, none⟩ (.int .i64 x)).setCell ⟨g, 1, none⟩ (.int .i64 x) := ⟨_, rfl⟩
  have HYB : Hid (Blk Y g 23 #[.int .i64 x, .int .i64 x]) := by rw [hY]; exact (HGB.out.set_ 0 (.int .i64 x)).set_ 1 (.int .i64 x)
  have HYW : Hid (Below W.heap.size W Y) := by rw [hY]; exact setCell_below (setCell_below HB5.out hg 0 _) hg 1 _
  rw [← hY]
  clear hY k0 k1 f0 f1 kl HGB HB5
  go_loopw [4] (fun i wr => ∃ (k lo hi : Nat), k ≤ N ∧ i = .int .i64 k ∧ Hid (hullK l k = (lo, hi)) ∧ lo ≤ 100000 ∧ hi ≤ 100000 ∧ Hid (Blk wr g 23 #[.int .i64 lo, .int .i64 hi]) ∧ Hid (Below W.heap.size W wr)) (fun i _ => N - (intOf i).toNat)
  case atStart => exact ⟨0, x, x, Nat.zero_le _, rfl, HHD, by omega, by omega, HYB, HYW⟩
  case round =>
    obtain ⟨k, lo, hi, hk, rfl, HK, hlo, hhi, HG, HBX⟩ := hrel
    have k0 := HG.out.cell 0
    have k1 := HG.out.cell 1
    have f0 := HG.out.frozen 0
    have f1 := HG.out.frozen 1
    have kl := HG.out.lt
    simp at k0 k1
    by_cases hlt : k < N
    · obtain ⟨y, hy⟩ : ∃ y, l[k]? = some y := ⟨_, List.getElem?_eq_getElem (by rw [HL.out]; exact hlt)⟩
      have hy1 := HBD.out y (List.mem_of_getElem? hy)
      have HNX := Lib.hid (hullK_next hy)
      rw [HK.out] at HNX
      obtain ⟨hbr, H1⟩ := ((HR.out.below (HBW.out.trans (HBX.out.mono HBW.out.size))).in_ rfl hy)
      obtain ⟨ma, hma⟩ : ∃ m, min lo y = m := ⟨_, rfl⟩
      obtain ⟨mb, hmb⟩ : ∃ m, max hi y = m := ⟨_, rfl⟩
      simp only [hma, hmb] at HNX
      have hmn : ∀ w, (Builtin.min_ #[3, 3] 3 #[.int .i64 lo, .int .i64 y]).run Try.prog w = .ok (.int .i64 ma) w := fun w => by rw [min_run]; congr 2; omega
      have hmx : ∀ w, (Builtin.max_ #[3, 3] 3 #[.int .i64 hi, .int .i64 y]).run Try.prog w = .ok (.int .i64 mb) w := fun w => by rw [max_run]; congr 2; omega
      have ha1 : ma ≤ 100000 := by omega
      have hb1 : mb ≤ 100000 := by omega
      clear hy hma hmb
      go_upto_region 5 with (fail)
      refine wp_region_havoc [(0,false),(1,false),(2,false),(3,false),(4,false),(5,false),(6,false),(7,false),(8,false),(9,false),(10,false),(11,false),(12,false),(13,false),(14,false)] [15] (fun _ _ => False) (by kernel_rfl) (by kernel_rfl) (fun _ _ _ _ h => h.elim) ?_
      (apply hav_same (by simp only [List.getElem?_toArray, List.getElem?_cons_zero]; rfl) (by kernel_rfl); (focus (intro wv hgv _; have hcv : ∀ b o, b < _ → wv.cell? ⟨b, o, none⟩ = _ := fun b o hb => Below.cell hgv (p := ⟨b, o, none⟩) hb; (try go_simp); try rfl; done)); simp only [Act.put, List.setIfInBounds_toArray, List.set_cons_succ, List.set_cons_zero])
      iterate 14 (apply hav_same (by simp only [List.getElem?_toArray, List.getElem?_cons_succ, List.getElem?_cons_zero]; rfl) (by kernel_rfl); (focus (intro wv hgv _; have hcv : ∀ b o, b < _ → wv.cell? ⟨b, o, none⟩ = _ := fun b o hb => Below.cell hgv (p := ⟨b, o, none⟩) hb; (try go_simp); try rfl; done)); simp only [Act.put, List.setIfInBounds_toArray, List.set_cons_succ, List.set_cons_zero])
      refine hav_end (fun w6 hgw6 _ => ?_); simp only [List.filterMap]; have hcw6 : ∀ b o, b < _ → w6.cell? ⟨b, o, none⟩ = _ := fun b o hb => Below.cell hgw6 (p := ⟨b, o, none⟩) hb; have hfw6 : ∀ b o, b < _ → w6.frozen? ⟨b, o, none⟩ = _ := fun b o hb => Below.frozen hgw6 (p := ⟨b, o, none⟩) hb; have hzw6 := Below.size hgw6; (try simp at hzw6)
      have HG6 := Lib.hid (HG.out.below hgw6 HG.out.lt)
      have HB6 : Hid (Below W.heap.size W w6) := HBX.out.trans (hgw6.mono HBX.out.size)
      clear hgw6 hcw6 hfw6 k0 k1 f0 f1 kl H1 hmn hmx
      have k0 := HG6.out.cell 0
      have k1 := HG6.out.cell 1
      have f0 := HG6.out.frozen 0
      have f1 := HG6.out.frozen 1
      have kl := HG6.out.lt
      simp at k0 k1
      go_wp2
      go_roundw
      case rel => exact ⟨k + 1, ma, mb, by omega, by go_num, HNX, ha1, hb1, (HG6.out.set_ 0 (.int .i64 ma)).set_ 1 (.int .i64 mb), setCell_below (setCell_below HB6.out hg 0 _) hg 1 _⟩
      case measure => simp [intOf]; omega
    · obtain rfl : N = k := by omega
      have HEE : Hid (lo = E0 ∧ hi = E1) := by
        have h := HK.out
        rw [HE.out] at h
        injection h with h1 h2
        exact ⟨h1.symm, h2.symm⟩
      have hx6 := HX.out.below HBX.out HX.out.lt
      have x0 := hx6.cell 0
      have x1 := hx6.cell 1
      have y0 := hx6.frozen 0
      have y1 := hx6.frozen 1
      have l6 := hx6.lt
      simp at x0 x1
      go_wp2
      have hk := (hx6.set_ 0 (.int .i64 lo)).set_ 1 (.int .i64 hi)
      have z0 := hk.cell 0
      have z1 := hk.cell 1
      simp at z0 z1
      refine bodyPost_ret (v := .agg #[.int .i64 lo, .int .i64 hi]) (by simp [results, Try.results59, go_sem, z0, z1]) rfl ⟨by rw [HEE.out.1, HEE.out.2], setCell_below (setCell_below (HBW.out.trans (HBX.out.mono HBW.out.size)) (Nat.le_refl _) 0 _) (Nat.le_refl _) 1 _⟩
end
section
variable {A : Option Addr} {N c n : Nat} {Ts : List Tr}
/-- The span of the depth on a day, of some truths. -/
def depthT (Ts : List Tr) (day : Nat) : Nat × Nat := hullP (Ts.map (·.at_ day))
theorem at_bd {t : Tr} (h : t.Small n) {day : Nat} (hd : day ≤ 10) : t.at_ day ≤ 100000 := by
  unfold Tr.at_
  rw [h.ds]
  have := atF_bd h day
  omega
set_option maxRecDepth 100000 in
set_option maxHeartbeats 1600000 in
theorem depths_any (hl : Ts.length = N) (h0 : 0 < N) (hN : N ≤ 400000) (hS : ∀ t ∈ Ts, t.Small n) {day : Nat} (hd : day ≤ 10) (w : World) (hT : TrsIn w n A Ts) :
    Calls Try.prog 53 #[.slice A N c, .int .i64 day] w fun e w' => e = .returned (.agg #[.int .i64 (depthT Ts day).1, .int .i64 (depthT Ts day).2]) ∧ Below w.heap.size w w' := by
  have HT := Lib.hid hT
  have HL := Lib.hid hl
  have HS := Lib.hid hS
  obtain ⟨i3, hi3, hz0, hz1, hz2⟩ := info_parts Try.infoE3
  have HJ := Lib.hid hi3
  have HJ0 := Lib.hid hz0
  have HJ1 := Lib.hid hz1
  have HJ2 := Lib.hid hz2
  clear hi3 hz0 hz1 hz2 hT hl hS
  obtain ⟨⟨E0, E1⟩, hE⟩ : ∃ e, depthT Ts day = e := ⟨_, rfl⟩
  rw [hE]
  have HE := Lib.hid hE
  clear hE
  simp only
  obtain ⟨W, hW⟩ : ∃ W, W = w.alloc (.cells #[.int .i64 0, .int .i64 0] 23) := ⟨_, rfl⟩
  have HX : Hid (Blk W w.heap.size 23 #[.int .i64 0, .int .i64 0]) := by rw [hW]; exact Blk.new w 23 _
  have HBW : Hid (Below w.heap.size w W) := by rw [hW]; exact (Below.refl _ _).alloc (Nat.le_refl _) _
  go_enter Try.func53, Try.ntmps53
  go_wp2_with fail
  rw [← hW]
  clear hW
  go_wp2
  go_loopw [5, 6] (fun sv i wr => ∃ (k : Nat) (ov : Value), ov = sv ∧ k ≤ N ∧ i = .int .i64 k ∧ Hid (wr.ownsRow W.heap.size 3 1 ov k (((Ts.take k).map (·.at_ day)).flatMap fun x => [nV x])) ∧ Hid (Below W.heap.size W wr)) (fun _ i _ => N - (intOf i).toNat)
  case atStart => exact ⟨0, _, rfl, Nat.zero_le _, rfl, own_nil _ _ _ _, Below.refl _ _⟩
  case round =>
    obtain ⟨k, ov, hov, hk, rfl, HO, HBX⟩ := hrel
    subst hov
    have HBR : Hid (Below w.heap.size w wr) := HBW.out.trans (HBX.out.mono HBW.out.size)
    by_cases hlt : k < N
    · obtain ⟨t, ht⟩ : ∃ t, Ts[k]? = some t := ⟨_, List.getElem?_eq_getElem (by rw [HL.out]; exact hlt)⟩
      obtain ⟨b, off, dA, dc, rA, rc, hA, hbl, hti, H0, H1, H2, H3⟩ := (HT.out.below HBR.out) k t ht
      subst hA
      have HTS := Lib.hid (HS.out t (List.mem_of_getElem? ht))
      have HTI := Lib.hid hti
      have HTK : Hid (((Ts.take (k + 1)).map (·.at_ day)).flatMap (fun x => [nV x]) = ((Ts.take k).map (·.at_ day)).flatMap (fun x => [nV x]) ++ [nV (t.at_ day)]) := by
        show _ = _
        rw [List.take_add_one, ht, List.map_append, List.flatMap_append]
        rfl
      clear ht hti
      go_wp2_with fail
      refine (in_any (dc := dc) (rc := rc) HTS.out day hd wr HTI.out).mono ?_
      rintro e Z ⟨rfl, hb⟩
      have HBZ := Lib.hid hb
      obtain ⟨v, hv⟩ : ∃ v, t.at_ day = v := ⟨_, rfl⟩
      rw [hv] at HTK ⊢
      clear hb hv H0 H1 H2 H3
      have hZ : W.heap.size ≤ Z.heap.size := Nat.le_trans HBX.out.size HBZ.out.size
      have hB1 : W.heap.size ≤ (Z.alloc (.cells #[.int .i64 v] 3)).heap.size := by simp; omega
      have HB1 : Hid (Below Z.heap.size Z (Z.alloc (.cells #[.int .i64 v] 3))) := (Below.refl _ _).alloc (Nat.le_refl _) _
      obtain ⟨yl, HYL⟩ : ∃ yl, Hid (((Ts.take k).map (·.at_ day)).flatMap (fun x => [nV x]) = yl) := ⟨_, rfl⟩
      have HOWN := Lib.hid (own_below (own_below HO.out HBZ.out) HB1.out)
      rw [HYL.out] at HOWN
      go_wp2_with (at_builtin; refine wpList_append_own _ rfl _ _ 47 rfl W.heap.size 3 i3 _ 1 8 Try.underlying47 HJ.out HJ0.out HJ1.out HJ2.out rfl (by decide) _ _ _ rfl HOWN.out ⟨Z.heap.size, 0, none⟩ 1 1 [.int .i64 v] rfl rfl (news_block (Blk.new Z 3 _)) (by simp [Value.oneCell']) (by unfold maxLen; omega) (by omega) hB1 ?_)
      intro v' w6 hown6 hgrow6 _
      have HO6 : Hid (w6.ownsRow W.heap.size 3 1 v' (k + 1) (((Ts.take (k + 1)).map (·.at_ day)).flatMap fun x => [nV x])) := by
        show World.ownsRow _ _ _ _ _ _ _
        rw [HTK.out, HYL.out]
        exact hown6
      have HB6 : Hid (Below W.heap.size W w6) := HBX.out.trans ((HBZ.out.mono HBX.out.size).trans ((HB1.out.mono hZ).trans (KT.own hB1 HOWN.out hgrow6).1))
      clear hown6 hgrow6
      go_wp2
      go_roundw
      case rel => exact ⟨k + 1, _, rfl, by omega, by go_num, HO6, HB6⟩
      case measure => simp [intOf]; omega
    · obtain rfl : N = k := by omega
      have hO := HO.out
      rw [List.take_of_length_le (by rw [HL.out]; exact Nat.le_refl _)] at hO
      obtain ⟨A', c', -, rfl, hr, -⟩ := RowN.of_own hO (by rw [List.length_map, HL.out])
      have HR' := Lib.hid hr
      clear hO hr
      go_wp2_with fail
      refine (hull_any (by rw [List.length_map, HL.out]) h0 hN (fun x hx => by
        obtain ⟨t, ht, rfl⟩ := List.mem_map.1 hx
        exact at_bd (HS.out t ht) hd) wr HR'.out).mono ?_
      rw [show hullP (Ts.map (·.at_ day)) = (E0, E1) from HE.out]
      rintro e Z ⟨rfl, hb⟩
      have HBZ : Hid (Below w.heap.size w Z) := HBR.out.trans (hb.mono HBR.out.size)
      have hx6 := (HX.out.below HBX.out HX.out.lt).below hb (Nat.lt_of_lt_of_le HX.out.lt HBX.out.size)
      clear hb
      have x0 := hx6.cell 0
      have x1 := hx6.cell 1
      have y0 := hx6.frozen 0
      have y1 := hx6.frozen 1
      have l6 := hx6.lt
      simp at x0 x1
      simp only
      go_wp2
      have hk := (hx6.set_ 0 (.int .i64 E0)).set_ 1 (.int .i64 E1)
      have z0 := hk.cell 0
      have z1 := hk.cell 1
      simp at z0 z1
      refine bodyPost_ret (v := .agg #[.int .i64 E0, .int .i64 E1]) (by simp [results, Try.results53, go_sem, z0, z1]) rfl ⟨rfl, setCell_below (setCell_below HBZ.out (Nat.le_refl _) 0 _) (Nat.le_refl _) 1 _⟩
/-- Does it bear a boat on a day, by some truths? -/
def bearsT (Ts : List Tr) (draws day : Nat) : Nat := if draws ≤ (depthT Ts day).1 then 2 else if draws ≤ (depthT Ts day).2 then 1 else 0
set_option maxRecDepth 100000 in
set_option maxHeartbeats 1600000 in
theorem rbears_any (hl : Ts.length = N) (h0 : 0 < N) (hN : N ≤ 400000) (hS : ∀ t ∈ Ts, t.Small n) {day : Nat} (hd : day ≤ 10) (draws : Nat) (w : World) (hT : TrsIn w n A Ts) :
    Calls Try.prog 74 #[.slice A N c, .int .i64 draws, .int .i64 day] w fun e w' => e = .returned (.int .i64 (bearsT Ts draws day)) ∧ Below w.heap.size w w' := by
  have HT := Lib.hid hT
  have HL := Lib.hid hl
  have HS := Lib.hid hS
  clear hT hl hS
  obtain ⟨⟨E0, E1⟩, hE⟩ : ∃ e, depthT Ts day = e := ⟨_, rfl⟩
  have HE : Hid (bearsT Ts draws day = if draws ≤ E0 then 2 else if draws ≤ E1 then 1 else 0) := by show _ = _; rw [bearsT, hE]
  obtain ⟨B, hB⟩ : ∃ B, bearsT Ts draws day = B := ⟨_, rfl⟩
  rw [hB] at HE ⊢
  have HD := Lib.hid hE
  clear hE hB
  go_enter Try.func74, Try.ntmps74
  go_wp2_with fail
  refine (depths_any HL.out h0 hN HS.out hd w HT.out).mono ?_
  rw [HD.out]
  rintro e Z ⟨rfl, hb⟩
  have HBZ := Lib.hid hb
  clear hb
  simp only
  go_upto_region 2 with (fail)
  obtain ⟨W, hW⟩ : ∃ W, W = Z.alloc (.cells #[.int .i64 E0, .int .i64 E1] 23) := ⟨_, rfl⟩
  have HX : Hid (Blk W Z.heap.size 23 #[.int .i64 E0, .int .i64 E1]) := by rw [hW]; exact Blk.new Z 23 _
  have HBW : Hid (Below w.heap.size w W) := by rw [hW]; exact HBZ.out.trans (((Below.refl _ _).alloc (Nat.le_refl _) _).mono HBZ.out.size)
  rw [← hW]
  clear hW
  have x0 := HX.out.cell 0
  have x1 := HX.out.cell 1
  have xl := HX.out.lt
  simp at x0 x1
  by_cases h1 : draws ≤ E0
  · have HB : Hid (B = 2) := by show _ = _; rw [HE.out, if_pos h1]
    go_wp2
    go_ret
    exact ⟨ret_int (by rw [HB.out]; rfl), HBW.out⟩
  · by_cases h2 : draws ≤ E1
    · have HB : Hid (B = 1) := by show _ = _; rw [HE.out, if_neg h1, if_pos h2]
      have hd1 : decide ((draws : Int) ≤ (E0 : Int)) = false := by simp; omega
      have hd2 : decide ((E1 : Int) < (draws : Int)) = false := by simp; omega
      have h3 : ¬ E1 < draws := by omega
      go_wp2
      go_ret
      exact ⟨ret_int (by rw [HB.out]; rfl), HBW.out⟩
    · have HB : Hid (B = 0) := by show _ = _; rw [HE.out, if_neg h1, if_neg h2]
      have hd1 : decide ((draws : Int) ≤ (E0 : Int)) = false := by simp; omega
      have hd2 : decide ((E1 : Int) < (draws : Int)) = true := by simp; omega
      have h3 : E1 < draws := by omega
      go_wp2
      go_ret
      exact ⟨ret_int (by rw [HB.out]; rfl), HBW.out⟩
end
end Go.Proofs.Ytiodmkokpfgkkaa
