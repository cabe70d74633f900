/- The law RiverClash's own function: do the looks of a set clash? Conditions: the river is valid, the set is one of five looks. -/
import Derived.Test.YtiodmkokpfgkkaaLawBears
import Derived.Test.YtiodmkokpfgkkaaClashQ
namespace Go.Proofs.Ytiodmkokpfgkkaa
open Go.RowKit Go.Hav Go.Shelf Go.Sq
attribute [local go_sem] Oper.semAt_some
theorem infoE58 : (Try.prog.info? 58).map (fun i => (i.zero, i.size, i.bytes)) = some (some (.agg #[.int .i64 0, .int .i64 0, .int .i64 0]), 3, 24) := by kernel_rfl
theorem sub_val {r : IRiv} (hv : okR r = true) (s : Nat) : ∃ lo hi : Int, Value.tuple #[hullV (fallV (subR r s)), .int .i64 (fallE (subR r s))] = .tuple #[.agg #[.int .i64 lo, .int .i64 hi], .int .i64 (if clashB r.nat s = true then 10 else 0)] := by
  by_cases h : clashB r.nat s = true
  · have e : fallE (subR r s) = 10 := toldE_clash (sub_ok hv s) rfl ((sub_clash r s).2 h)
    refine ⟨0, 0, ?_⟩
    unfold fallV
    rw [if_neg (by omega), e, if_pos h]
    rfl
  · have e : fallE (subR r s) = 0 := toldE_fine (sub_ok hv s) rfl (fun h2 => h ((sub_clash r s).1 h2))
    refine ⟨((fallQ (subR r s).nat).1 : Nat), ((fallQ (subR r s).nat).2 : Nat), ?_⟩
    unfold fallV
    rw [if_pos e, e, if_neg h]
    rfl
section
variable {fa la : Option Addr} {fl fc ll lc : Nat} {r : IRiv} {w : World} {b2 : Nat}
set_option maxRecDepth 100000 in
set_option maxHeartbeats 6400000 in
theorem clash41_any (hv : okR r = true) (s : Nat) (hs : s < 32) (w : World) (hX : Blk w b2 27 #[.int .i64 r.depth.lo, .int .i64 r.depth.hi, .int .i64 r.fall.lo, .int .i64 r.fall.hi, .int .i64 r.days, .slice fa fl fc, .slice la ll lc]) (hP : RvIn w w.heap.size fa fl la ll r) :
    Calls Try.prog 41 #[.int .i64 s, .pointer (some ⟨b2, 0, none⟩)] w fun e w' => e = .returned (.bool (clashB r.nat s)) ∧ Below w.heap.size w w' := by
  have HV := Lib.hid hv
  have HP := Lib.hid hP
  have HX := Lib.hid hX
  have HLL := Lib.hid hP.ell
  have hll5 : ll ≤ 5 := by rw [← hP.ell]; exact (okR_parts hv).1.2.2.2.2
  obtain ⟨i0, hi, hz0, hz1, hz2⟩ := info_parts infoE58
  have HI := Lib.hid hi
  have HI0 := Lib.hid hz0
  have HI1 := Lib.hid hz1
  have HI2 := Lib.hid hz2
  obtain ⟨b4, hb4⟩ : ∃ b4, b4 = w.heap.size := ⟨_, rfl⟩
  obtain ⟨W, hW⟩ : ∃ W, W = w.alloc (.cells #[.int .i64 r.depth.lo, .int .i64 r.depth.hi, .int .i64 r.fall.lo, .int .i64 r.fall.hi, .int .i64 r.days, .slice fa fl fc, .slice none 0 0] 27) := ⟨_, rfl⟩
  have HB0 : Hid (Below w.heap.size w W) := by rw [hW]; exact (Below.refl _ _).alloc (Nat.le_refl _) _
  have HK : Hid (Blk W b4 27 #[.int .i64 r.depth.lo, .int .i64 r.depth.hi, .int .i64 r.fall.lo, .int .i64 r.fall.hi, .int .i64 r.days, .slice fa fl fc, .slice none 0 0]) := by
    rw [hW, hb4]; exact Blk.new w 27 _
  have hsW : W.heap.size = b4 + 1 := by rw [hW, hb4]; simp
  have HB4 := Lib.hid hb4
  have x0 := HX.out.cell 0
  have x1 := HX.out.cell 1
  have x2 := HX.out.cell 2
  have x3 := HX.out.cell 3
  have x4 := HX.out.cell 4
  have x5 := HX.out.cell 5
  have x6 := HX.out.cell 6
  have xl := HX.out.lt
  have hb2w : b2 < b4 := by omega
  simp at x0 x1 x2 x3 x4 x5 x6
  clear hi hz0 hz1 hz2 hv hX hP
  go_enter Try.func41, Try.ntmps41
  go_upto_region 3 with (fail)
  rw [← hb4, ← hW]
  have y6 : W.cell? ⟨b2, 6, none⟩ = some (.slice la ll lc) := (HX.out.below HB0.out HX.out.lt).cell 6
  have yl : b2 < W.heap.size := by omega
  have HSW := Lib.hid hsW
  clear hW hb4 x0 x1 x2 x3 x4 x5 x6 xl hsW
  go_wp2
  clear y6 yl
  go_loopw [14] (fun i wr => ∃ (k : Nat) (v : Value) (N : Nat), k ≤ ll ∧ i = .int .i64 k ∧ N ≤ k ∧ Hid (N = (subN r.lk s k).length) ∧ Hid (Blk wr b4 27 #[.int .i64 r.depth.lo, .int .i64 r.depth.hi, .int .i64 r.fall.lo, .int .i64 r.fall.hi, .int .i64 r.days, .slice fa fl fc, v]) ∧ Hid (wr.ownsRow W.heap.size 58 3 v N ((subN r.lk s k).flatMap lkI)) ∧ Hid (Below b4 w wr) ∧ Hid (W.heap.size ≤ wr.heap.size)) (fun i _ => ll - (intOf i).toNat)
  case atStart => exact ⟨0, _, 0, Nat.zero_le _, rfl, Nat.le_refl _, rfl, HK, World.ownsRow_nil _ _ _ _, by show Below b4 w W; rw [HB4.out]; exact HB0.out, Nat.le_refl _⟩
  case round =>
    obtain ⟨k, v, N, hk, rfl, hNk, HN, HKR, HO, HBR, HSR⟩ := hrel
    have hsr := HSR.out
    have hsw : b4 < W.heap.size ∧ W.heap.size ≤ b4 + 1 := by have := HSW.out; omega
    by_cases hlt : k < ll
    · obtain ⟨c, hc⟩ : ∃ c, r.lk[k]? = some c := ⟨r.lk[k]'(by have := HLL.out; omega), by simp⟩
      have HBRw : Hid (Below w.heap.size w wr) := by rw [← HB4.out]; exact HBR
      obtain ⟨bl, off, hA, hbl, H0, H1, H2⟩ := rd_lkI ((HP.out.grow HBRw.out).hlk) k c hc
      subst hA
      have HC := Lib.hid hc
      obtain ⟨cd, ⟨c0, c1⟩⟩ := c
      simp only at H0 H1 H2
      go_upto_region 6 with (fail)
      obtain ⟨wa, hwa⟩ : ∃ wa, wa = wr.alloc (.cells #[.int .i64 cd, .int .i64 c0, .int .i64 c1] 58) := ⟨_, rfl⟩
      have HXa : Hid (Blk wa wr.heap.size 58 #[.int .i64 cd, .int .i64 c0, .int .i64 c1]) := by rw [hwa]; exact Blk.new wr 58 _
      have HBa : Hid (Below wr.heap.size wr wa) := by rw [hwa]; exact (Below.refl _ _).alloc (Nat.le_refl _) _
      rw [← hwa]
      have HKa := Lib.hid (HKR.out.below HBa.out HKR.out.lt)
      have HOa := Lib.hid (own_below HO.out HBa.out)
      have htb := tb_i64 s k (by omega)
      have hk64 : (k : Int) < 64 := by omega
      clear hwa hc H0 H1 H2
      cases hbit : s.testBit k
      · have hsub : subN r.lk s (k + 1) = subN r.lk s k := by rw [subN, hbit]; simp
        rw [hbit] at htb
        have HN1 : Hid (N = (subN r.lk s (k + 1)).length) := by rw [hsub]; exact HN
        have HO1 : Hid (wa.ownsRow W.heap.size 58 3 v N ((subN r.lk s (k + 1)).flatMap lkI)) := by rw [hsub]; exact HOa
        have HB1 : Hid (Below b4 w wa) := HBR.out.trans (HBa.out.mono (by have := HKR.out.lt; omega))
        have HS1 : Hid (W.heap.size ≤ wa.heap.size) := by have := HBa.out.size; show _ ≤ _; omega
        clear hsub hbit
        go_wp2
        go_roundw
        case rel => exact ⟨k + 1, v, N, by omega, by go_num, by omega, HN1, HKa, HO1, HB1, HS1⟩
        case measure => simp [intOf]; omega
      · have hsub : subN r.lk s (k + 1) = subN r.lk s k ++ [⟨cd, ⟨c0, c1⟩⟩] := by rw [subN, hbit, HC.out]; rfl
        rw [hbit] at htb
        have z0 := HXa.out.cell 0
        have z1 := HXa.out.cell 1
        have z2 := HXa.out.cell 2
        have zl := HXa.out.lt
        have z6 := HKa.out.cell 6
        have zb := HKa.out.lt
        simp at z0 z1 z2 z6
        obtain ⟨wb, hwb⟩ : ∃ wb, wb = wa.alloc (.cells #[.int .i64 cd, .int .i64 c0, .int .i64 c1] 58) := ⟨_, rfl⟩
        have HOb : Hid ((wa.alloc (.cells #[.int .i64 cd, .int .i64 c0, .int .i64 c1] 58)).ownsRow W.heap.size 58 3 v N ((subN r.lk s k).flatMap lkI)) := own_below HOa.out ((Below.refl wa.heap.size wa).alloc (Nat.le_refl _) _)
        have HKb : Hid (Blk (wa.alloc (.cells #[.int .i64 cd, .int .i64 c0, .int .i64 c1] 58)) b4 27 #[.int .i64 r.depth.lo, .int .i64 r.depth.hi, .int .i64 r.fall.lo, .int .i64 r.fall.hi, .int .i64 r.days, .slice fa fl fc, v]) := HKa.out.alloc _
        have hsa := HBa.out.size
        clear hbit hwb
        go_wp2_with (at_builtin; refine wpList_append_own _ rfl _ _ 25 rfl W.heap.size 58 i0 _ 3 24 Try.underlying25 HI.out HI0.out HI1.out HI2.out rfl (by decide) _ _ _ rfl HOb.out ⟨wa.heap.size, 0, none⟩ 1 1 [.int .i64 cd, .int .i64 c0, .int .i64 c1] rfl rfl (news_block (Blk.new wa 58 _)) (by simp [Value.oneCell']) (by unfold maxLen; omega) (by omega) (by simp; omega) ?_)
        intro v' w5 hown5 hgrow5 _
        have hblk : ∀ g, v.ownBlock = some g → W.heap.size ≤ g := fun g hg => (own_block HOb.out hg).1
        have HK5 : Hid (Blk w5 b4 27 #[.int .i64 r.depth.lo, .int .i64 r.depth.hi, .int .i64 r.fall.lo, .int .i64 r.fall.hi, .int .i64 r.days, .slice fa fl fc, v]) := HKb.out.grown hgrow5 (fun e => by have := hblk b4 e.symm; omega)
        have HT5 : Hid (Turn (fun x => W.heap.size ≤ x) wr w5) := ((Turn.of_below HBa.out).trans ((Turn.refl _ _).alloc _)).trans (Turn.of_grown hgrow5 (fun q e _ => hblk q e))
        have HN1 : Hid (N + 1 = (subN r.lk s (k + 1)).length) := by show _ = _; rw [hsub, List.length_append, ← HN.out]; rfl
        have HO5 : Hid (w5.ownsRow W.heap.size 58 3 v' (N + 1) ((subN r.lk s (k + 1)).flatMap lkI)) := by rw [hsub, List.flatMap_append]; exact hown5
        have f6 : w5.frozen? ⟨b4, 6, none⟩ = false := HK5.out.frozen 6
        have y6 : w5.cell? ⟨b4, 6, none⟩ = some v := HK5.out.cell 6
        have lb := HK5.out.lt
        have h45 := HT5.out.size
        obtain ⟨A', n', c', hv'⟩ : ∃ A n c, v' = .slice A n c := by
          rcases hown5.2 with ⟨h, _⟩ | ⟨g, cap, cur, h, _⟩
          · exact ⟨_, _, _, h⟩
          · exact ⟨_, _, _, h⟩
        subst hv'
        clear hown5 hgrow5 hblk hsub
        go_wp2
        have HK6 : Hid (Blk (w5.setCell ⟨b4, 6, none⟩ (.slice A' n' c')) b4 27 #[.int .i64 r.depth.lo, .int .i64 r.depth.hi, .int .i64 r.fall.lo, .int .i64 r.fall.hi, .int .i64 r.days, .slice fa fl fc, .slice A' n' c']) := HK5.out.set_ 6 _
        have hset : Turn (fun x => x = b4) w5 (w5.setCell ⟨b4, 6, none⟩ (.slice A' n' c')) := Turn.set _ _ (fun _ => rfl)
        have HO6 : Hid ((w5.setCell ⟨b4, 6, none⟩ (.slice A' n' c')).ownsRow W.heap.size 58 3 (.slice A' n' c') (N + 1) ((subN r.lk s (k + 1)).flatMap lkI)) := own_keep HO5.out fun g cs hg hb => hb.turn hset (fun e => by have e' : g = b4 := e; omega)
        have HB6 : Hid (Below b4 w (w5.setCell ⟨b4, 6, none⟩ (.slice A' n' c'))) := setCell_below (HBR.out.trans (HT5.out.below (by omega) (fun b e => by have e' : W.heap.size ≤ b := e; omega))) (Nat.le_refl _) _ _
        go_roundw
        case rel => exact ⟨k + 1, .slice A' n' c', N + 1, by omega, by go_num, by omega, HN1, HK6, HO6, HB6, by show _ ≤ _; simp [World.setCell]; omega⟩
        case measure => simp [intOf]; omega
    · obtain rfl : k = ll := by omega
      have ho := HO.out
      rw [HN.out] at ho
      obtain ⟨A, cp, hve, hrd, _⟩ := own_rd lkI_len (by decide) ho
      rw [← HN.out] at hve
      subst hve
      clear ho
      have HBRw : Hid (Below w.heap.size w wr) := by rw [← HB4.out]; exact HBR
      have z0 := HKR.out.cell 0
      have z1 := HKR.out.cell 1
      have z2 := HKR.out.cell 2
      have z3 := HKR.out.cell 3
      have z4 := HKR.out.cell 4
      have z5 := HKR.out.cell 5
      have z6 := HKR.out.cell 6
      have zl := HKR.out.lt
      simp at z0 z1 z2 z3 z4 z5 z6
      have HSUB : Hid (RvIn wr wr.heap.size fa fl A N (subR r s)) := by
        have h := HP.out.grow HBRw.out
        exact ⟨h.efl, by show (subN r.lk s r.lk.length).length = N; rw [HLL.out]; exact HN.out.symm, h.hfr, by show RdG lkI 3 wr wr.heap.size A (subN r.lk s r.lk.length); rw [HLL.out]; exact hrd, h.mfl, by omega⟩
      obtain ⟨lo, hi, hval⟩ := sub_val HV.out s
      have HVAL := Lib.hid hval
      clear hrd hval
      go_wp2_with fail
      refine (PFall_any (fa := fa) (fl := fl) (fc := fc) (la := A) (ll := N) (lc := cp) (r := subR r s) (w := wr) (by exact HSUB.out)).mono ?_
      rw [HVAL.out]
      cases hcl : clashB r.nat s
      · rw [if_neg (by simp)]
        rintro e w7 ⟨rfl, hb⟩
        have HBZ : Hid (Below w.heap.size w w7) := HBRw.out.trans (hb.mono HBRw.out.size)
        clear hb
        go_wp2
        go_ret
        exact ⟨by rw [hcl]; rfl, HBZ.out.alloc HBZ.out.size _⟩
      · rw [if_pos rfl]
        rintro e w7 ⟨rfl, hb⟩
        have HBZ : Hid (Below w.heap.size w w7) := HBRw.out.trans (hb.mono HBRw.out.size)
        clear hb
        go_wp2
        go_ret
        exact ⟨by rw [hcl]; rfl, HBZ.out.alloc HBZ.out.size _⟩
end
end Go.Proofs.Ytiodmkokpfgkkaa
