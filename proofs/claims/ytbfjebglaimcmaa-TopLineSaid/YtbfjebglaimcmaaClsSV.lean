/- The walk of the classer's all, whole. Conditions: the line is valid, it is in memory. The walk of the classer's All. Conditions: the line is valid, it can be. -/
import Derived.Test.YtbfjebglaimcmaaClsQR
import Derived.Test.YtbfjebglaimcmaaClsOL
namespace Go.Proofs.Ytbfjebglaimcmaa
open Go.RowKit Go.Hav Go.Sq
attribute [local go_sem] Oper.semAt_some
theorem totA_congr31 {S T : Nat → Int × Int} (h : ∀ e, e < 217 → S e = T e) : totA S = totA T := by
  unfold totA rowA
  congr 1
  refine List.map_congr_left fun i hi => ?_
  have hi' : i < 434 := by simpa using hi
  unfold tabH
  rw [h (i / 2) (by omega)]
theorem tot_load {w : World} {g : Nat} {T : Nat → Int × Int} (h : Blk w g 170 (totA T)) : (loadVar 170 ⟨g, 0, none⟩).run Try.prog w = .ok (.agg (totA T)) w :=
  run_loadVar_row _ _ _ _ _ _ _ h Try.underlying170 rfl (by rw [totA_size]; exact size170)
theorem tot_store {w : World} {g : Nat} {T : Nat → Int × Int} (h : Blk w g 170 (totA T)) (T2 : Nat → Int × Int) : (storeVar 170 ⟨g, 0, none⟩ (.agg (totA T2))).run Try.prog w = .ok () (w.setRow g (totA T2)) :=
  run_storeVar_row _ _ _ _ _ _ h (by rw [totA_size]; exact size170) (by rw [totA_size, totA_size]) (rowA_one _ _)
/-- The spans that a bale makes of those so far. -/
def nextF (c : Cls) (k : Nat) (b : Bl) (e : Nat) : Int × Int := encO (if e % 7 < ownC b true (e / 7) then none else foldO (fT c.drift (c.bl.take k).reverse (e / 7) (e % 7 - ownC b true (e / 7))) 31)
theorem nextF_at (c : Cls) (k : Nat) (b : Bl) {w m : Nat} (hm : m < 7) : nextF c k b (w * 7 + m) = encO (if m < ownC b true w then none else foldO (fT c.drift (c.bl.take k).reverse w (m - ownC b true w)) 31) := by
  unfold nextF
  rw [show (w * 7 + m) / 7 = w by omega, show (w * 7 + m) % 7 = m by omega]
section
variable {w V : World} {B d r bc g3 g5 gR : Nat} {ba : Option Addr} {c : Cls}
set_option maxRecDepth 100000 in
set_option maxHeartbeats 6400000 in
theorem all4 (hT : TabIn V B d r ba bc c) (h3 : Blk V g3 29 (spI (65536, -1))) (hR : Blk V gR 29 #[.int .i64 0, .int .i64 0]) (h5 : Blk V g5 170 (totA fun _ => (0, 0))) (hw : w.heap.size ≤ gR ∧ w.heap.size ≤ g5 ∧ g5 ≠ g3 ∧ g5 ≠ gR ∧ d < w.heap.size ∧ r < w.heap.size ∧ B ≤ w.heap.size) (hb : Below w.heap.size w V) {s1 s6 s7 s8 s9 s10 s11 s12 s13 s14 s15 s16 s17 s18 s19 s20 s21 s22 s23 s24 s25 s26 s27 s28 s29 s30 s31 s32 s33 s34 s35 s36 s37 s38 s39 s40 s41 s42 s43 s44 s45 s46 s47 s48 s49 s50 s51 s52 s53 s54 s55 s56 s57 s58 s59 s60 s61 s62 s63 s64 s65 s66 s67 s68 s69 s70 s71 s72 s73 s74 s75 s76 s77 s78 s79 s80 s81 s82 s83 s84 s85 s86 s87 s88 s89 s90 s91 s92 s93 s94 s95 s96 s97 s98 s99 s100 s101 s102 s103 s104 s105 s106 s107 s108 s109 s110 s111 s112 s113 s114 s115 s116 s117 s118 s119 s120 s121 s122 s123 s124 s125 s126 s127 s128 s129 s130 s131 s132 s133 s134 s135 s136 s137 s138 s139 s140 s141 s142 s143 s144 s145 s146 s147 : Value} :
    Code.wp Try.prog (alK 4) (bodyPost Try.prog Try.f93 (AllPost w c)) ⟨((.pointer (some ⟨d, 0, none⟩))::s1::(.pointer (some ⟨gR, 0, none⟩))::(.pointer (some ⟨g3, 0, none⟩))::(.func (.func 130) #[] #[])::(.pointer (some ⟨g5, 0, none⟩))::s6::s7::s8::s9::s10::s11::s12::s13::s14::s15::s16::s17::s18::s19::s20::s21::s22::s23::s24::s25::s26::s27::s28::s29::s30::s31::s32::s33::s34::s35::s36::s37::s38::s39::s40::s41::s42::s43::s44::s45::s46::s47::s48::s49::s50::s51::s52::s53::s54::s55::s56::s57::s58::s59::s60::s61::s62::s63::s64::s65::s66::s67::s68::s69::s70::s71::s72::s73::s74::s75::s76::s77::s78::s79::s80::s81::s82::s83::s84::s85::s86::s87::s88::s89::s90::s91::s92::s93::s94::s95::s96::s97::s98::s99::s100::s101::s102::s103::s104::s105::s106::s107::s108::s109::s110::s111::s112::s113::s114::s115::s116::s117::s118::s119::s120::s121::s122::s123::s124::s125::s126::s127::s128::s129::s130::s131::s132::s133::s134::s135::s136::s137::s138::s139::s140::s141::s142::s143::s144::s145::s146::s147::[]).toArray, []⟩ V := by
  have HT := Lib.hid hT
  have H3 := Lib.hid h3
  have HR := Lib.hid hR
  have H5 := Lib.hid h5
  have HW := Lib.hid hw
  have HB := Lib.hid hb
  have t0 := hT.blk.cell 0
  have tl := hT.blk.lt
  simp [tabC] at t0
  obtain ⟨len, hlen⟩ : ∃ x, c.bl.length = x := ⟨_, rfl⟩
  have HLEN := Lib.hid hlen
  have hl6 : len ≤ 6 := by rw [← hlen]; exact hT.ok.l6
  rw [hlen] at t0
  obtain ⟨s, hs⟩ : ∃ s, full c.bl.length = s := ⟨_, rfl⟩
  have HS := Lib.hid hs
  have hz := zero170
  clear hT h3 hR h5 hw hb hlen hs
  conv => arg 2; whnf
  conv => arg 2; arg 2; change alK 5
  go_upto_region 5 with (fail)
  go_loopw [25] (fun i wr => ∃ k : Nat, k ≤ len ∧ i = .int .i64 k ∧ Blk wr g5 170 (totA (tabL c k)) ∧ Turn (fun b => b = g5) V wr) (fun i _ => len - (intOf i).toNat)
  case atStart => exact ⟨0, Nat.zero_le _, rfl, H5.out, Turn.refl _ _⟩
  case round =>
    obtain ⟨k, hk, rfl, h5, ht⟩ := hrel
    have H5R := Lib.hid h5
    have HTR := Lib.hid ht
    have HTT : Hid (TabIn wr B d r ba bc c) := by
      have := HW.out
      exact { HT.out with blk := HT.out.blk.turn ht (by omega), rd := HT.out.rd.keep (fun b hb _ => ht.block b (Nat.lt_of_lt_of_le hb HT.out.hB) (by omega)), map := HT.out.map.keep (ht.block r HT.out.map.lt (by omega)), hB := Nat.le_trans HT.out.hB ht.size }
    have H3R := Lib.hid (H3.out.turn ht (by have := HW.out; omega))
    have HRR := Lib.hid (HR.out.turn ht (by have := HW.out; omega))
    have HBR : Hid (Below w.heap.size w wr) := HB.out.trans (ht.below HB.out.size (fun b e => by have := HW.out; omega))
    clear h5 ht t0 tl
    by_cases hlt : k < len
    · obtain ⟨b, hbk⟩ : ∃ b, c.bl[k]? = some b := ⟨c.bl[k]'(by rw [HLEN.out]; exact hlt), by simp⟩
      have HBK := Lib.hid hbk
      have HBO : Hid (BlOk b) := HTT.out.ok.bl b (List.mem_of_getElem? hbk)
      clear hbk
      go_upto_region 8 with (fail)
      obtain ⟨g7, hg7⟩ : ∃ x, wr.heap.size = x := ⟨_, rfl⟩
      obtain ⟨V1, hV1⟩ : ∃ x, x = wr.alloc (.cells (totA fun _ => (0, 0)) 170) := ⟨_, rfl⟩
      have H71 : Hid (Blk V1 g7 170 (totA fun _ => (0, 0))) := by rw [hV1]; exact Blk.new_ hg7 170 _
      have HB1 : Hid (Below wr.heap.size wr V1) := by show Below _ _ _; rw [hV1]; exact (Below.refl _ _).alloc (Nat.le_refl _) _
      rw [hg7, ← hV1]
      have HG7V : Hid (V.heap.size ≤ g7) := by show _ ≤ _; rw [← hg7]; exact HTR.out.size
      have HT1 := Lib.hid (HTT.out.below HB1.out)
      have HN7 : Hid (g5 < g7 ∧ g3 < g7 ∧ gR < g7 ∧ d < g7 ∧ w.heap.size ≤ g7) := by rw [← hg7]; exact ⟨H5R.out.lt, H3R.out.lt, HRR.out.lt, HTT.out.blk.lt, HBR.out.size⟩
      clear hV1 hg7
      go_wp2_with fail
      have hq := everyC_any V1 HT1.out
      rw [HS.out] at hq
      refine hq.mono ?_
      rintro e v1 ⟨rfl, rfl⟩
      clear hq
      go_wp2_with fail
      have hq := step_any v1 HT1.out HBK.out
      rw [HS.out] at hq
      refine hq.mono ?_
      rintro e v2 ⟨rfl, hb2⟩
      have HB2 := Lib.hid hb2
      clear hq hb2
      go_wp2_with fail
      refine (own_any c.drift b HBO.out v2).mono ?_
      rintro e v3 ⟨rfl, hb3⟩
      have HB3 : Hid (Below v1.heap.size v1 v3) := HB2.out.trans (hb3.mono HB2.out.size)
      have HBX : Hid (Below wr.heap.size wr v3) := HB1.out.trans (HB3.out.mono HB1.out.size)
      have H7 := Lib.hid (H71.out.below HB3.out H71.out.lt)
      have hmf : ∀ (fn : Fn) (first cap : Array Value) (w : World), (Instr.makeFunc fn first cap).run Try.prog w = .ok (.func fn first cap) w := fun _ _ _ _ => rfl
      clear hb3
      go_upto_region 10 with (fail)
      clear hmf
      go_loopw [35] (fun i wz => ∃ x : Nat, x ≤ 31 ∧ i = .int .i64 x ∧ Blk wz g7 170 (totA (upT (nextF c k b) (fun _ => (0, 0)) (x * 7))) ∧ Turn (fun b => b = g7) v3 wz) (fun i _ => 31 - (intOf i).toNat)
      case atStart => exact ⟨0, by omega, rfl, by rw [totA_congr (fun e => show upT (nextF c k b) (fun _ => (0, 0)) (0 * 7) e = (0, 0) by simp [upT])]; exact H7.out, Turn.refl _ _⟩
      case round =>
        obtain ⟨x, hx, rfl, h7, ht⟩ := hrel
        have H7R := Lib.hid h7
        have HTX := Lib.hid ht
        clear h7 ht
        by_cases hxl : x < 31
        · have hxi : (x : Int) < 31 := by omega
          go_upto_region 13 with (fail)
          go_loopw [38] (fun i wz => ∃ j : Nat, j ≤ 7 ∧ i = .int .i64 j ∧ Blk wz g7 170 (totA (upT (nextF c k b) (fun _ => (0, 0)) (x * 7 + j))) ∧ Turn (fun b => b = g7) v3 wz) (fun i _ => 7 - (intOf i).toNat)
          case atStart => exact ⟨0, by omega, rfl, H7R.out, HTX.out⟩
          case round =>
            obtain ⟨j, hj, rfl, h7, ht⟩ := hrel
            have H7J := Lib.hid h7
            have HTJ := Lib.hid ht
            clear h7 ht
            by_cases hjl : j < 7
            · have hji : (j : Int) < 7 := by omega
              have HBJ3 := Lib.hid ((H3R.out.below HBX.out H3R.out.lt).turn HTJ.out (by have := HN7.out; omega))
              have n0 := HBJ3.out.cell 0
              have n1 := HBJ3.out.cell 1
              have nl := HBJ3.out.lt
              have l7 := H7J.out.lt
              simp [spI] at n0 n1
              go_upto_region 15 with (fail)
              refine wp_region_havoc [(0,false),(1,false),(2,false),(3,false),(4,false)] [5] (fun _ _ => False) (by kernel_rfl) (by kernel_rfl) (fun _ _ _ _ h => h.elim) ?_
              (apply hav_same (by simp only [List.getElem?_toArray, List.getElem?_cons_zero]; rfl) (by kernel_rfl); (focus (intro wv hgv _; have hcv : ∀ b o, b < _ → wv.cell? ⟨b, o, none⟩ = _ := fun b o hb => Below.cell hgv (p := ⟨b, o, none⟩) hb; (try go_simp); try rfl; done)); simp only [Act.put, List.setIfInBounds_toArray, List.set_cons_succ, List.set_cons_zero])
              iterate 4 (apply hav_same (by simp only [List.getElem?_toArray, List.getElem?_cons_succ, List.getElem?_cons_zero]; rfl) (by kernel_rfl); (focus (intro wv hgv _; have hcv : ∀ b o, b < _ → wv.cell? ⟨b, o, none⟩ = _ := fun b o hb => Below.cell hgv (p := ⟨b, o, none⟩) hb; (try go_simp); try rfl; done)); simp only [Act.put, List.setIfInBounds_toArray, List.set_cons_succ, List.set_cons_zero])
              refine hav_end (fun w1 hgw1 _ => ?_); simp only [List.filterMap]; have hcw1 : ∀ b o, b < _ → w1.cell? ⟨b, o, none⟩ = _ := fun b o hb => Below.cell hgw1 (p := ⟨b, o, none⟩) hb; have hfw1 : ∀ b o, b < _ → w1.frozen? ⟨b, o, none⟩ = _ := fun b o hb => Below.frozen hgw1 (p := ⟨b, o, none⟩) hb; have hzw1 := Below.size hgw1; (try simp at hzw1)
              have H71 := Lib.hid (H7J.out.below hgw1 H7J.out.lt)
              have HT1 : Hid (Turn (fun b => b = g7) v3 w1) := HTJ.out.trans (Turn.of_below hgw1)
              clear hgw1 hcw1 hfw1 n0 n1 nl l7
              have he : (x * 7 + j) * 2 = x * 14 + j * 2 := by omega
              have c0 := (H71.out.cell ((x * 7 + j) * 2)).trans (totA_lo _ (by omega))
              have c1 := (H71.out.cell ((x * 7 + j) * 2 + 1)).trans (totA_hi _ (by omega))
              have f0 := H71.out.frozen ((x * 7 + j) * 2)
              have f1 := H71.out.frozen ((x * 7 + j) * 2 + 1)
              have l7 := H71.out.lt
              have hp := (H71.out.set_ ((x * 7 + j) * 2) (.int .i64 65536)).set_ ((x * 7 + j) * 2 + 1) (.int .i64 (-1))
              rw [totA_put _ (by omega)] at hp
              rw [he] at c0 c1 f0 f1 hp
              have HP := Lib.hid hp
              clear hp he
              go_upto_region 16 with (fail)
              obtain ⟨Z, hZ⟩ : ∃ y, y = (w1.setCell ⟨g7, x * 14 + j * 2, none⟩ (.int .i64 65536)).setCell ⟨g7, x * 14 + j * 2 + 1, none⟩ (.int .i64 (-1)) := ⟨_, rfl⟩
              have HTZ : Hid (Turn (fun b => b = g7) v3 Z) := by
                show Turn _ _ _
                rw [hZ]
                exact (HT1.out.trans (Turn.set _ _ (fun _ => rfl))).trans (Turn.set _ _ (fun _ => rfl))
              rw [← hZ] at HP ⊢
              clear hZ c0 c1 f0 f1 l7 H71 HT1
              have HFE := Lib.hid (nextF_at c k b (w := x) hjl)
              obtain ⟨o, ho⟩ : ∃ o, ownC b true x = o := ⟨_, rfl⟩
              go_wp2_with fail
              have hq := at_any (cI (ownC b true)) x hxl Z
              rw [show cI (ownC b true) x = ((o : Nat) : Int) by unfold cI; rw [ho]] at hq
              refine hq.mono ?_
              rintro e y1 ⟨rfl, hby⟩
              have HY7 := Lib.hid (HP.out.below hby HP.out.lt)
              have HTY : Hid (Turn (fun b => b = g7) v3 y1) := HTZ.out.trans (Turn.of_below hby)
              have ho6 : (o : Int) ≤ 65536 := by
                have h := ownC_far b true x HBO.out.2.2.2 HBO.out.2.2.1 HBO.out.2.1
                rw [ho] at h
                unfold farC at h
                omega
              rw [ho] at HFE
              clear hq hby ho
              by_cases hjo : j < o
              · have hd : decide ((j : Int) - o < 0) = true := by simp; omega
                rw [if_pos hjo] at HFE
                go_wp2_with fail
                go_roundw
                case rel =>
                  refine ⟨j + 1, by omega, by go_num, ?_, HTY.out⟩
                  have hy := HY7.out
                  rw [totA_congr (upT_put (nextF c k b) (fun _ => (0, 0)) (x * 7 + j) (65536, -1) (by rw [HFE.out]; rfl))] at hy
                  exact hy
                case measure => simp [intOf]; omega
              · rw [if_neg hjo] at HFE
                obtain ⟨l, hl⟩ : ∃ l, j - o = l := ⟨_, rfl⟩
                have hlj : (j : Int) - o = (l : Nat) := by omega
                have hd : decide ((l : Int) < 0) = false := by simp
                rw [hl] at HFE
                have HL7 : Hid (l < 7) := by show _ < _; omega
                go_upto_region 19 with (fail)
                clear hjo hl
                obtain ⟨fT4, hf4⟩ : ∃ y, fT c.drift (c.bl.take k).reverse x l = y := ⟨_, rfl⟩
                have HF4 := Lib.hid hf4
                rw [hf4] at HFE
                go_loopw [53] (fun i wq => ∃ v : Nat, v ≤ 31 ∧ i = .int .i64 v ∧ Blk wq g7 170 (totA (putT (upT (nextF c k b) (fun _ => (0, 0)) (x * 7 + j)) (x * 7 + j) (encO (foldO fT4 v)))) ∧ Turn (fun b => b = g7) v3 wq) (fun i _ => 31 - (intOf i).toNat)
                case atStart => exact ⟨0, by omega, rfl, HY7.out, HTY.out⟩
                case round =>
                  obtain ⟨v, hv, rfl, h7, ht⟩ := hrel
                  have H7V := Lib.hid h7
                  have HTV := Lib.hid ht
                  clear h7 ht
                  by_cases hvl : v < 31
                  · have hvi : (v : Int) < 31 := by omega
                    have hli : (l : Int) < 7 := by have := HL7.out; omega
                    have H5V := Lib.hid ((H5R.out.below HBX.out H5R.out.lt).turn HTV.out (by have := HN7.out; omega))
                    have HDV := Lib.hid ((HTT.out.blk.below HBX.out HTT.out.blk.lt).turn HTV.out (by have := HN7.out; omega))
                    have s0 := (H5V.out.cell ((v * 7 + l) * 2)).trans (totA_lo _ (by have := HL7.out; omega))
                    have s1' := (H5V.out.cell ((v * 7 + l) * 2 + 1)).trans (totA_hi _ (by have := HL7.out; omega))
                    have l5 := H5V.out.lt
                    rw [show (v * 7 + l) * 2 = v * 14 + l * 2 by omega] at s0 s1'
                    obtain ⟨sp, hsp⟩ : ∃ y, tabL c k (v * 7 + l) = y := ⟨_, rfl⟩
                    have HSP := Lib.hid hsp
                    obtain ⟨sl, sh⟩ := sp
                    rw [hsp] at s0 s1'
                    simp only at s0 s1'
                    clear hsp
                    go_upto_region 22 with (fail)
                    obtain ⟨Z2, hZ2⟩ : ∃ y, y = wr.alloc (.cells #[.int .i64 sl, .int .i64 sh] 29) := ⟨_, rfl⟩
                    obtain ⟨g13, hg13⟩ : ∃ y, wr.heap.size = y := ⟨_, rfl⟩
                    have HZ13 : Hid (Blk Z2 g13 29 #[.int .i64 sl, .int .i64 sh]) := by rw [hZ2]; exact Blk.new_ hg13 29 _
                    have HBZ : Hid (Below wr.heap.size wr Z2) := by show Below _ _ _; rw [hZ2]; exact (Below.refl _ _).alloc (Nat.le_refl _) _
                    have HZ7 := Lib.hid (H7V.out.below HBZ.out H7V.out.lt)
                    have HTZ2 : Hid (Turn (fun b => b = g7) v3 Z2) := HTV.out.trans (Turn.of_below HBZ.out)
                    have HDZ := Lib.hid (HDV.out.below HBZ.out HDV.out.lt)
                    have d2 := HDZ.out.cell 2
                    have dl := HDZ.out.lt
                    simp [tabC] at d2
                    have z1 := HZ13.out.cell 1
                    have zl := HZ13.out.lt
                    simp at z1
                    rw [← hZ2, hg13]
                    clear hZ2 hg13 s0 s1' l5
                    by_cases hk0 : k = 0
                    · have hks : ((k : Int) == 0) = true := by simp; omega
                      have hks2 : (k == 0) = true := by simp; omega
                      have hks3 : decide (k = 0) = true := by simp; omega
                      have hkp : decide ((0 : Int) < k) = false := by simp; omega
                      have hkp2 : decide (0 < k) = false := by simp; omega
                      have HK0 := Lib.hid hk0
                      clear hk0
                      by_cases hv0 : 0 < v
                      · have hvd : decide ((0 : Int) < v) = true := by simp; omega
                        have hvd2 : decide (0 < v) = true := by simp; omega
                        have HNO : fT4 v = none := by rw [← HF4.out, HK0.out]; exact fT_skip0 (.inl hv0)
                        refine wp_region_havoc [(0,false),(1,false),(2,false),(3,false),(4,false),(5,false),(6,false),(7,false),(8,false),(9,false),(10,false),(11,false),(12,false),(13,false),(14,false),(15,false),(16,false),(17,false),(18,false),(19,false),(20,false),(21,false),(22,false),(23,false),(24,false),(25,false),(26,false),(27,false),(28,false),(29,false),(30,false),(31,false),(32,false),(33,false),(34,false),(35,false),(36,false)] [] (fun _ _ => False) (by kernel_rfl) (by kernel_rfl) (fun _ _ _ _ h => h.elim) ?_
                        (apply hav_same (by simp only [List.getElem?_toArray, List.getElem?_cons_zero]; rfl) (by kernel_rfl); (focus (intro wv hgv _; have hcv : ∀ b o, b < _ → wv.cell? ⟨b, o, none⟩ = _ := fun b o hb => Below.cell hgv (p := ⟨b, o, none⟩) hb; (try go_simp); try rfl; done)); simp only [Act.put, List.setIfInBounds_toArray, List.set_cons_succ, List.set_cons_zero])
                        iterate 5 (apply hav_same (by simp only [List.getElem?_toArray, List.getElem?_cons_succ, List.getElem?_cons_zero]; rfl) (by kernel_rfl); (focus (intro wv hgv _; have hcv : ∀ b o, b < _ → wv.cell? ⟨b, o, none⟩ = _ := fun b o hb => Below.cell hgv (p := ⟨b, o, none⟩) hb; (try go_simp); try rfl; done)); simp only [Act.put, List.setIfInBounds_toArray, List.set_cons_succ, List.set_cons_zero])
                        iterate 2 (refine hav_skip (by simp only [List.getElem?_toArray, List.getElem?_cons_succ, List.getElem?_cons_zero]; rfl) (by kernel_rfl) ?_; simp only [Act.put, List.setIfInBounds_toArray, List.set_cons_succ, List.set_cons_zero])
                        iterate 3 (apply hav_same (by simp only [List.getElem?_toArray, List.getElem?_cons_succ, List.getElem?_cons_zero]; rfl) (by kernel_rfl); (focus (intro wv hgv _; have hcv : ∀ b o, b < _ → wv.cell? ⟨b, o, none⟩ = _ := fun b o hb => Below.cell hgv (p := ⟨b, o, none⟩) hb; (try go_simp); try rfl; done)); simp only [Act.put, List.setIfInBounds_toArray, List.set_cons_succ, List.set_cons_zero])
                        iterate 25 (refine hav_skip (by simp only [List.getElem?_toArray, List.getElem?_cons_succ, List.getElem?_cons_zero]; rfl) (by kernel_rfl) ?_; simp only [Act.put, List.setIfInBounds_toArray, List.set_cons_succ, List.set_cons_zero])
                        (apply hav_same (by simp only [List.getElem?_toArray, List.getElem?_cons_succ, List.getElem?_cons_zero]; rfl) (by kernel_rfl); (focus (intro wv hgv _; have hcv : ∀ b o, b < _ → wv.cell? ⟨b, o, none⟩ = _ := fun b o hb => Below.cell hgv (p := ⟨b, o, none⟩) hb; (try go_simp); try rfl; done)); simp only [Act.put, List.setIfInBounds_toArray, List.set_cons_succ, List.set_cons_zero])
                        refine hav_end (fun w2 hgw2 _ => ?_); simp only [List.filterMap]; have hcw2 : ∀ b o, b < _ → w2.cell? ⟨b, o, none⟩ = _ := fun b o hb => Below.cell hgw2 (p := ⟨b, o, none⟩) hb; have hfw2 : ∀ b o, b < _ → w2.frozen? ⟨b, o, none⟩ = _ := fun b o hb => Below.frozen hgw2 (p := ⟨b, o, none⟩) hb; have hzw2 := Below.size hgw2; (try simp at hzw2)
                        have HB2 := Lib.hid hgw2
                        clear hgw2 hcw2 hfw2
                        go_wp2_with fail
                        go_roundw
                        case rel =>
                          refine ⟨v + 1, by omega, by go_num, ?_, HTZ2.out.trans (Turn.of_below HB2.out)⟩
                          have hy := HZ7.out.below HB2.out HZ7.out.lt
                          rw [show foldO fT4 (v + 1) = foldO fT4 v by rw [foldO, HNO, joinO_none]]
                          exact hy
                        case measure => simp [intOf]; omega
                      · have hvd : decide ((0 : Int) < v) = false := by simp; omega
                        have hvd2 : decide (0 < v) = false := by simp; omega
                        by_cases hl0 : 0 < l
                        · have hld : decide ((0 : Int) < l) = true := by simp; omega
                          have hld2 : decide (0 < l) = true := by simp; omega
                          have HNO : fT4 v = none := by rw [← HF4.out, HK0.out]; exact fT_skip0 (.inr hl0)
                          clear hv0
                          refine wp_region_havoc [(0,false),(1,false),(2,false),(3,false),(4,false),(5,false),(6,false),(7,false),(8,false),(9,false),(10,false),(11,false),(12,false),(13,false),(14,false),(15,false),(16,false),(17,false),(18,false),(19,false),(20,false),(21,false),(22,false),(23,false),(24,false),(25,false),(26,false),(27,false),(28,false),(29,false),(30,false),(31,false),(32,false),(33,false),(34,false),(35,false),(36,false)] [] (fun _ _ => False) (by kernel_rfl) (by kernel_rfl) (fun _ _ _ _ h => h.elim) ?_
                          (apply hav_same (by simp only [List.getElem?_toArray, List.getElem?_cons_zero]; rfl) (by kernel_rfl); (focus (intro wv hgv _; have hcv : ∀ b o, b < _ → wv.cell? ⟨b, o, none⟩ = _ := fun b o hb => Below.cell hgv (p := ⟨b, o, none⟩) hb; (try go_simp); try rfl; done)); simp only [Act.put, List.setIfInBounds_toArray, List.set_cons_succ, List.set_cons_zero])
                          iterate 10 (apply hav_same (by simp only [List.getElem?_toArray, List.getElem?_cons_succ, List.getElem?_cons_zero]; rfl) (by kernel_rfl); (focus (intro wv hgv _; have hcv : ∀ b o, b < _ → wv.cell? ⟨b, o, none⟩ = _ := fun b o hb => Below.cell hgv (p := ⟨b, o, none⟩) hb; (try go_simp); try rfl; done)); simp only [Act.put, List.setIfInBounds_toArray, List.set_cons_succ, List.set_cons_zero])
                          iterate 25 (refine hav_skip (by simp only [List.getElem?_toArray, List.getElem?_cons_succ, List.getElem?_cons_zero]; rfl) (by kernel_rfl) ?_; simp only [Act.put, List.setIfInBounds_toArray, List.set_cons_succ, List.set_cons_zero])
                          (apply hav_same (by simp only [List.getElem?_toArray, List.getElem?_cons_succ, List.getElem?_cons_zero]; rfl) (by kernel_rfl); (focus (intro wv hgv _; have hcv : ∀ b o, b < _ → wv.cell? ⟨b, o, none⟩ = _ := fun b o hb => Below.cell hgv (p := ⟨b, o, none⟩) hb; (try go_simp); try rfl; done)); simp only [Act.put, List.setIfInBounds_toArray, List.set_cons_succ, List.set_cons_zero])
                          refine hav_end (fun w2 hgw2 _ => ?_); simp only [List.filterMap]; have hcw2 : ∀ b o, b < _ → w2.cell? ⟨b, o, none⟩ = _ := fun b o hb => Below.cell hgw2 (p := ⟨b, o, none⟩) hb; have hfw2 : ∀ b o, b < _ → w2.frozen? ⟨b, o, none⟩ = _ := fun b o hb => Below.frozen hgw2 (p := ⟨b, o, none⟩) hb; have hzw2 := Below.size hgw2; (try simp at hzw2)
                          have HB2 := Lib.hid hgw2
                          clear hgw2 hcw2 hfw2
                          go_wp2_with fail
                          go_roundw
                          case rel =>
                            refine ⟨v + 1, by omega, by go_num, ?_, HTZ2.out.trans (Turn.of_below HB2.out)⟩
                            have hy := HZ7.out.below HB2.out HZ7.out.lt
                            rw [show foldO fT4 (v + 1) = foldO fT4 v by rw [foldO, HNO, joinO_none]]
                            exact hy
                          case measure => simp [intOf]; omega
                        · have hld : decide ((0 : Int) < l) = false := by simp; omega
                          have hld2 : decide (0 < l) = false := by simp; omega
                          have HGO : encO (fT4 v) = (sl + x, sh + x) := by
                            rw [← HF4.out, HK0.out, show l = 0 by omega, show v = 0 by omega, fT_go0]
                            have h := HSP.out
                            rw [HK0.out] at h
                            injection h with h1 h2
                            rw [← h1, ← h2]
                            simp
                          clear hl0 hv0
                          refine wp_region_havoc [(0,false),(1,false),(2,false),(3,false),(4,false),(5,false),(6,false),(7,false),(8,false),(9,false),(10,false),(11,false),(12,false),(13,false),(14,false),(15,false),(16,false),(17,false),(18,false),(19,false),(20,false),(21,false),(22,false),(23,false),(24,false),(25,false),(26,false),(27,false),(28,false),(29,false),(30,false),(31,false),(32,false),(33,false),(34,false),(35,false),(36,false)] [] (fun _ _ => False) (by kernel_rfl) (by kernel_rfl) (fun _ _ _ _ h => h.elim) ?_
                          (apply hav_same (by simp only [List.getElem?_toArray, List.getElem?_cons_zero]; rfl) (by kernel_rfl); (focus (intro wv hgv _; have hcv : ∀ b o, b < _ → wv.cell? ⟨b, o, none⟩ = _ := fun b o hb => Below.cell hgv (p := ⟨b, o, none⟩) hb; (try go_simp); try rfl; done)); simp only [Act.put, List.setIfInBounds_toArray, List.set_cons_succ, List.set_cons_zero])
                          iterate 13 (apply hav_same (by simp only [List.getElem?_toArray, List.getElem?_cons_succ, List.getElem?_cons_zero]; rfl) (by kernel_rfl); (focus (intro wv hgv _; have hcv : ∀ b o, b < _ → wv.cell? ⟨b, o, none⟩ = _ := fun b o hb => Below.cell hgv (p := ⟨b, o, none⟩) hb; (try go_simp); try rfl; done)); simp only [Act.put, List.setIfInBounds_toArray, List.set_cons_succ, List.set_cons_zero])
                          iterate 21 (refine hav_skip (by simp only [List.getElem?_toArray, List.getElem?_cons_succ, List.getElem?_cons_zero]; rfl) (by kernel_rfl) ?_; simp only [Act.put, List.setIfInBounds_toArray, List.set_cons_succ, List.set_cons_zero])
                          iterate 2 (apply hav_same (by simp only [List.getElem?_toArray, List.getElem?_cons_succ, List.getElem?_cons_zero]; rfl) (by kernel_rfl); (focus (intro wv hgv _; have hcv : ∀ b o, b < _ → wv.cell? ⟨b, o, none⟩ = _ := fun b o hb => Below.cell hgv (p := ⟨b, o, none⟩) hb; (try go_simp); try rfl; done)); simp only [Act.put, List.setIfInBounds_toArray, List.set_cons_succ, List.set_cons_zero])
                          refine hav_end (fun w2 hgw2 _ => ?_); simp only [List.filterMap]; have hcw2 : ∀ b o, b < _ → w2.cell? ⟨b, o, none⟩ = _ := fun b o hb => Below.cell hgw2 (p := ⟨b, o, none⟩) hb; have hfw2 : ∀ b o, b < _ → w2.frozen? ⟨b, o, none⟩ = _ := fun b o hb => Below.frozen hgw2 (p := ⟨b, o, none⟩) hb; have hzw2 := Below.size hgw2; (try simp at hzw2)
                          have HB2 := Lib.hid hgw2
                          clear hgw2 hcw2 hfw2
                          have HV7 := Lib.hid (HZ7.out.below HB2.out HZ7.out.lt)
                          have HV13 := Lib.hid (HZ13.out.below HB2.out HZ13.out.lt)
                          have hbd := fT_enc (d := c.drift) (l := (c.bl.take k).reverse) (w := x) (left := l) (v := v) (by have := HTT.out.ok.l6; simp; omega) (by omega) (by omega)
                          rw [HF4.out, HGO] at hbd
                          simp only at hbd
                          have hw3 : IntKind.i64.wrap (sl + x) = sl + x := IntWalk.i64_in _ (by omega)
                          have hw4 : IntKind.i64.wrap (sh + x) = sh + x := IntWalk.i64_in _ (by omega)
                          clear hbd
                          have HTV2 : Hid (Turn (fun b => b = g7) v3 w2) := HTZ2.out.trans (Turn.of_below HB2.out)
                          have he : (x * 7 + j) * 2 = x * 14 + j * 2 := by omega
                          obtain ⟨q, hq⟩ : ∃ y, encO (foldO fT4 v) = y := ⟨_, rfl⟩
                          have HQ := Lib.hid hq
                          obtain ⟨q0, q1⟩ := q
                          have c0 := (HV7.out.cell ((x * 7 + j) * 2)).trans (totA_lo _ (by omega))
                          have c1 := (HV7.out.cell ((x * 7 + j) * 2 + 1)).trans (totA_hi _ (by omega))
                          have l7 := HV7.out.lt
                          rw [putT_at, hq] at c0 c1
                          rw [he] at c0 c1
                          have y0 := HV13.out.cell 0
                          have y1' := HV13.out.cell 1
                          have l13 := HV13.out.lt
                          simp at y0 y1'
                          simp only at c0 c1
                          clear hq
                          go_upto_region 23 with (fail)
                          refine wp_region_havoc [(0,false),(1,false),(2,false),(3,false),(4,false),(5,false),(6,false),(7,false),(8,false),(9,false),(10,false),(11,false),(12,false),(13,false),(14,false),(15,false),(16,false),(17,false),(18,false),(19,false)] [20] (fun _ _ => False) (by kernel_rfl) (by kernel_rfl) (fun _ _ _ _ h => h.elim) ?_
                          (apply hav_same (by simp only [List.getElem?_toArray, List.getElem?_cons_zero]; rfl) (by kernel_rfl); (focus (intro wv hgv _; have hcv : ∀ b o, b < _ → wv.cell? ⟨b, o, none⟩ = _ := fun b o hb => Below.cell hgv (p := ⟨b, o, none⟩) hb; (try go_simp); try rfl; done)); simp only [Act.put, List.setIfInBounds_toArray, List.set_cons_succ, List.set_cons_zero])
                          iterate 16 (apply hav_same (by simp only [List.getElem?_toArray, List.getElem?_cons_succ, List.getElem?_cons_zero]; rfl) (by kernel_rfl); (focus (intro wv hgv _; have hcv : ∀ b o, b < _ → wv.cell? ⟨b, o, none⟩ = _ := fun b o hb => Below.cell hgv (p := ⟨b, o, none⟩) hb; (try go_simp); try rfl; done)); simp only [Act.put, List.setIfInBounds_toArray, List.set_cons_succ, List.set_cons_zero])
                          (apply hav_call (by simp only [List.getElem?_toArray, List.getElem?_cons_succ, List.getElem?_cons_zero]; rfl) (by kernel_rfl); (focus (intro wv; go_simp; try exact ⟨rfl, rfl⟩; done)); (focus (intro wv hgv _; exact joined_any _ _ _ _ wv; done)); simp only [Act.put, List.setIfInBounds_toArray, List.set_cons_succ, List.set_cons_zero])
                          iterate 2 (apply hav_same (by simp only [List.getElem?_toArray, List.getElem?_cons_succ, List.getElem?_cons_zero]; rfl) (by kernel_rfl); (focus (intro wv hgv _; have hcv : ∀ b o, b < _ → wv.cell? ⟨b, o, none⟩ = _ := fun b o hb => Below.cell hgv (p := ⟨b, o, none⟩) hb; (try go_simp); try rfl; done)); simp only [Act.put, List.setIfInBounds_toArray, List.set_cons_succ, List.set_cons_zero])
                          refine hav_end (fun w5 hgw5 _ => ?_); simp only [List.filterMap]; have hcw5 : ∀ b o, b < _ → w5.cell? ⟨b, o, none⟩ = _ := fun b o hb => Below.cell hgw5 (p := ⟨b, o, none⟩) hb; have hfw5 : ∀ b o, b < _ → w5.frozen? ⟨b, o, none⟩ = _ := fun b o hb => Below.frozen hgw5 (p := ⟨b, o, none⟩) hb; have hzw5 := Below.size hgw5; (try simp at hzw5)
                          have H75 := Lib.hid (HV7.out.below hgw5 HV7.out.lt)
                          have HT5 : Hid (Turn (fun b => b = g7) v3 w5) := HTV2.out.trans (Turn.of_below hgw5)
                          clear hgw5 hcw5 hfw5 c0 c1 l7 y0 y1' l13
                          have c0 := (H75.out.cell ((x * 7 + j) * 2)).trans (totA_lo _ (by omega))
                          have c1 := (H75.out.cell ((x * 7 + j) * 2 + 1)).trans (totA_hi _ (by omega))
                          have f0 := H75.out.frozen ((x * 7 + j) * 2)
                          have f1 := H75.out.frozen ((x * 7 + j) * 2 + 1)
                          have l7 := H75.out.lt
                          have hp := (H75.out.set_ ((x * 7 + j) * 2) (.int .i64 (min q0 (sl + x)))).set_ ((x * 7 + j) * 2 + 1) (.int .i64 (max q1 (sh + x)))
                          rw [totA_put _ (by omega), totA_congr (putT_put _ _ _ _)] at hp
                          rw [he] at c0 c1 f0 f1 hp
                          have HP5 := Lib.hid hp
                          have HJ : Hid (joinI (q0, q1) (sl + x, sh + x) = encO (foldO fT4 (v + 1))) := by
                            show _ = _
                            rw [← HQ.out, ← HGO, foldO]
                            have hf := HF4.out
                            exact joinI_enc (foldO_small v (fun i hi => by rw [← hf]; exact fT_small (by have := HTT.out.ok.l6; simp; omega) (by omega) (by omega))) (by rw [← hf]; exact fT_small (by have := HTT.out.ok.l6; simp; omega) (by omega) (by omega))
                          clear hp he
                          go_wp2_with fail
                          go_roundw
                          case rel =>
                            refine ⟨v + 1, by omega, by go_num, ?_, (HT5.out.trans (Turn.set _ _ (fun _ => rfl))).trans (Turn.set _ _ (fun _ => rfl))⟩
                            rw [← HJ.out]
                            exact HP5.out
                          case measure => simp [intOf]; omega
                    · have hks : ((k : Int) == 0) = false := by simp; omega
                      have hks2 : (k == 0) = false := by simp; omega
                      have hks3 : decide (k = 0) = false := by simp; omega
                      have hkp : decide ((0 : Int) < k) = true := by simp; omega
                      have hkp2 : decide (0 < k) = true := by simp; omega
                      have hdr := HTT.out.ok.dr
                      have hw1 : IntKind.i64.wrap ((v : Int) - x) = (v : Int) - x := IntWalk.i64_in _ (by omega)
                      have hw2 : IntKind.i64.wrap (-(c.drift : Int)) = -(c.drift : Int) := IntWalk.i64_in _ (by omega)
                      have HNR := Lib.hid (fT_near (c := c) (k := k) (v := v) (w := x) (by omega) HL7.out)
                      rw [HF4.out, HSP.out] at HNR
                      by_cases hnear : v ≤ x + c.drift ∧ x ≤ v + c.drift
                      · have hin : inB ((v : Int) - x) (-(c.drift : Int)) c.drift = true := by simp [inB]; omega
                        by_cases hsh : sh < 0
                        · have hsd : decide (sh < 0) = true := by simp; omega
                          have HNO : fT4 v = none := (HNR.out hnear).1 hsh
                          refine wp_region_havoc [(0,false),(1,false),(2,false),(3,false),(4,false),(5,false),(6,false),(7,false),(8,false),(9,false),(10,false),(11,false),(12,false),(13,false),(14,false),(15,false),(16,false),(17,false),(18,false),(19,false),(20,false),(21,false),(22,false),(23,false),(24,false),(25,false),(26,false),(27,false),(28,false),(29,false),(30,false),(31,false),(32,false),(33,false),(34,false),(35,false),(36,false)] [] (fun _ _ => False) (by kernel_rfl) (by kernel_rfl) (fun _ _ _ _ h => h.elim) ?_
                          (apply hav_same (by simp only [List.getElem?_toArray, List.getElem?_cons_zero]; rfl) (by kernel_rfl); (focus (intro wv hgv _; have hcv : ∀ b o, b < _ → wv.cell? ⟨b, o, none⟩ = _ := fun b o hb => Below.cell hgv (p := ⟨b, o, none⟩) hb; (try go_simp); try rfl; done)); simp only [Act.put, List.setIfInBounds_toArray, List.set_cons_succ, List.set_cons_zero])
                          iterate 2 (apply hav_same (by simp only [List.getElem?_toArray, List.getElem?_cons_succ, List.getElem?_cons_zero]; rfl) (by kernel_rfl); (focus (intro wv hgv _; have hcv : ∀ b o, b < _ → wv.cell? ⟨b, o, none⟩ = _ := fun b o hb => Below.cell hgv (p := ⟨b, o, none⟩) hb; (try go_simp); try rfl; done)); simp only [Act.put, List.setIfInBounds_toArray, List.set_cons_succ, List.set_cons_zero])
                          iterate 6 (refine hav_skip (by simp only [List.getElem?_toArray, List.getElem?_cons_succ, List.getElem?_cons_zero]; rfl) (by kernel_rfl) ?_; simp only [Act.put, List.setIfInBounds_toArray, List.set_cons_succ, List.set_cons_zero])
                          iterate 19 (apply hav_same (by simp only [List.getElem?_toArray, List.getElem?_cons_succ, List.getElem?_cons_zero]; rfl) (by kernel_rfl); (focus (intro wv hgv _; have hcv : ∀ b o, b < _ → wv.cell? ⟨b, o, none⟩ = _ := fun b o hb => Below.cell hgv (p := ⟨b, o, none⟩) hb; (try go_simp); try rfl; done)); simp only [Act.put, List.setIfInBounds_toArray, List.set_cons_succ, List.set_cons_zero])
                          (apply hav_call (by simp only [List.getElem?_toArray, List.getElem?_cons_succ, List.getElem?_cons_zero]; rfl) (by kernel_rfl); (focus (intro wv; go_simp; try exact ⟨rfl, rfl⟩; done)); (focus (intro wv hgv _; have hq := withinC_any ((v : Int) - x) (-(c.drift : Int)) c.drift wv; rw [hin] at hq; exact hq.mono (fun e w' ⟨h1, h2⟩ => ⟨h1, by rw [h2]; exact Below.refl _ _⟩); done)); simp only [Act.put, List.setIfInBounds_toArray, List.set_cons_succ, List.set_cons_zero])
                          iterate 8 (apply hav_same (by simp only [List.getElem?_toArray, List.getElem?_cons_succ, List.getElem?_cons_zero]; rfl) (by kernel_rfl); (focus (intro wv hgv _; have hcv : ∀ b o, b < _ → wv.cell? ⟨b, o, none⟩ = _ := fun b o hb => Below.cell hgv (p := ⟨b, o, none⟩) hb; (try go_simp); try rfl; done)); simp only [Act.put, List.setIfInBounds_toArray, List.set_cons_succ, List.set_cons_zero])
                          refine hav_end (fun w2 hgw2 _ => ?_); simp only [List.filterMap]; have hcw2 : ∀ b o, b < _ → w2.cell? ⟨b, o, none⟩ = _ := fun b o hb => Below.cell hgw2 (p := ⟨b, o, none⟩) hb; have hfw2 : ∀ b o, b < _ → w2.frozen? ⟨b, o, none⟩ = _ := fun b o hb => Below.frozen hgw2 (p := ⟨b, o, none⟩) hb; have hzw2 := Below.size hgw2; (try simp at hzw2)
                          have HB2 := Lib.hid hgw2
                          clear hgw2 hcw2 hfw2
                          go_wp2_with fail
                          go_roundw
                          case rel =>
                            refine ⟨v + 1, by omega, by go_num, ?_, HTZ2.out.trans (Turn.of_below HB2.out)⟩
                            have hy := HZ7.out.below HB2.out HZ7.out.lt
                            rw [show foldO fT4 (v + 1) = foldO fT4 v by rw [foldO, HNO, joinO_none]]
                            exact hy
                          case measure => simp [intOf]; omega
                        · have hsd : decide (sh < 0) = false := by simp; omega
                          have HGO : encO (fT4 v) = (sl + x, sh + x) := (HNR.out hnear).2 hsh
                          refine wp_region_havoc [(0,false),(1,false),(2,false),(3,false),(4,false),(5,false),(6,false),(7,false),(8,false),(9,false),(10,false),(11,false),(12,false),(13,false),(14,false),(15,false),(16,false),(17,false),(18,false),(19,false),(20,false),(21,false),(22,false),(23,false),(24,false),(25,false),(26,false),(27,false),(28,false),(29,false),(30,false),(31,false),(32,false),(33,false),(34,false),(35,false),(36,false)] [] (fun _ _ => False) (by kernel_rfl) (by kernel_rfl) (fun _ _ _ _ h => h.elim) ?_
                          (apply hav_same (by simp only [List.getElem?_toArray, List.getElem?_cons_zero]; rfl) (by kernel_rfl); (focus (intro wv hgv _; have hcv : ∀ b o, b < _ → wv.cell? ⟨b, o, none⟩ = _ := fun b o hb => Below.cell hgv (p := ⟨b, o, none⟩) hb; (try go_simp); try rfl; done)); simp only [Act.put, List.setIfInBounds_toArray, List.set_cons_succ, List.set_cons_zero])
                          iterate 2 (apply hav_same (by simp only [List.getElem?_toArray, List.getElem?_cons_succ, List.getElem?_cons_zero]; rfl) (by kernel_rfl); (focus (intro wv hgv _; have hcv : ∀ b o, b < _ → wv.cell? ⟨b, o, none⟩ = _ := fun b o hb => Below.cell hgv (p := ⟨b, o, none⟩) hb; (try go_simp); try rfl; done)); simp only [Act.put, List.setIfInBounds_toArray, List.set_cons_succ, List.set_cons_zero])
                          iterate 6 (refine hav_skip (by simp only [List.getElem?_toArray, List.getElem?_cons_succ, List.getElem?_cons_zero]; rfl) (by kernel_rfl) ?_; simp only [Act.put, List.setIfInBounds_toArray, List.set_cons_succ, List.set_cons_zero])
                          iterate 19 (apply hav_same (by simp only [List.getElem?_toArray, List.getElem?_cons_succ, List.getElem?_cons_zero]; rfl) (by kernel_rfl); (focus (intro wv hgv _; have hcv : ∀ b o, b < _ → wv.cell? ⟨b, o, none⟩ = _ := fun b o hb => Below.cell hgv (p := ⟨b, o, none⟩) hb; (try go_simp); try rfl; done)); simp only [Act.put, List.setIfInBounds_toArray, List.set_cons_succ, List.set_cons_zero])
                          (apply hav_call (by simp only [List.getElem?_toArray, List.getElem?_cons_succ, List.getElem?_cons_zero]; rfl) (by kernel_rfl); (focus (intro wv; go_simp; try exact ⟨rfl, rfl⟩; done)); (focus (intro wv hgv _; have hq := withinC_any ((v : Int) - x) (-(c.drift : Int)) c.drift wv; rw [hin] at hq; exact hq.mono (fun e w' ⟨h1, h2⟩ => ⟨h1, by rw [h2]; exact Below.refl _ _⟩); done)); simp only [Act.put, List.setIfInBounds_toArray, List.set_cons_succ, List.set_cons_zero])
                          iterate 8 (apply hav_same (by simp only [List.getElem?_toArray, List.getElem?_cons_succ, List.getElem?_cons_zero]; rfl) (by kernel_rfl); (focus (intro wv hgv _; have hcv : ∀ b o, b < _ → wv.cell? ⟨b, o, none⟩ = _ := fun b o hb => Below.cell hgv (p := ⟨b, o, none⟩) hb; (try go_simp); try rfl; done)); simp only [Act.put, List.setIfInBounds_toArray, List.set_cons_succ, List.set_cons_zero])
                          refine hav_end (fun w2 hgw2 _ => ?_); simp only [List.filterMap]; have hcw2 : ∀ b o, b < _ → w2.cell? ⟨b, o, none⟩ = _ := fun b o hb => Below.cell hgw2 (p := ⟨b, o, none⟩) hb; have hfw2 : ∀ b o, b < _ → w2.frozen? ⟨b, o, none⟩ = _ := fun b o hb => Below.frozen hgw2 (p := ⟨b, o, none⟩) hb; have hzw2 := Below.size hgw2; (try simp at hzw2)
                          have HB2 := Lib.hid hgw2
                          clear hgw2 hcw2 hfw2
                          have HV7 := Lib.hid (HZ7.out.below HB2.out HZ7.out.lt)
                          have HV13 := Lib.hid (HZ13.out.below HB2.out HZ13.out.lt)
                          have hbd := fT_enc (d := c.drift) (l := (c.bl.take k).reverse) (w := x) (left := l) (v := v) (by have := HTT.out.ok.l6; simp; omega) (by omega) (by omega)
                          rw [HF4.out, HGO] at hbd
                          simp only at hbd
                          have hw3 : IntKind.i64.wrap (sl + x) = sl + x := IntWalk.i64_in _ (by omega)
                          have hw4 : IntKind.i64.wrap (sh + x) = sh + x := IntWalk.i64_in _ (by omega)
                          clear hbd
                          have HTV2 : Hid (Turn (fun b => b = g7) v3 w2) := HTZ2.out.trans (Turn.of_below HB2.out)
                          have he : (x * 7 + j) * 2 = x * 14 + j * 2 := by omega
                          obtain ⟨q, hq⟩ : ∃ y, encO (foldO fT4 v) = y := ⟨_, rfl⟩
                          have HQ := Lib.hid hq
                          obtain ⟨q0, q1⟩ := q
                          have c0 := (HV7.out.cell ((x * 7 + j) * 2)).trans (totA_lo _ (by omega))
                          have c1 := (HV7.out.cell ((x * 7 + j) * 2 + 1)).trans (totA_hi _ (by omega))
                          have l7 := HV7.out.lt
                          rw [putT_at, hq] at c0 c1
                          rw [he] at c0 c1
                          have y0 := HV13.out.cell 0
                          have y1' := HV13.out.cell 1
                          have l13 := HV13.out.lt
                          simp at y0 y1'
                          simp only at c0 c1
                          clear hq
                          go_upto_region 23 with (fail)
                          refine wp_region_havoc [(0,false),(1,false),(2,false),(3,false),(4,false),(5,false),(6,false),(7,false),(8,false),(9,false),(10,false),(11,false),(12,false),(13,false),(14,false),(15,false),(16,false),(17,false),(18,false),(19,false)] [20] (fun _ _ => False) (by kernel_rfl) (by kernel_rfl) (fun _ _ _ _ h => h.elim) ?_
                          (apply hav_same (by simp only [List.getElem?_toArray, List.getElem?_cons_zero]; rfl) (by kernel_rfl); (focus (intro wv hgv _; have hcv : ∀ b o, b < _ → wv.cell? ⟨b, o, none⟩ = _ := fun b o hb => Below.cell hgv (p := ⟨b, o, none⟩) hb; (try go_simp); try rfl; done)); simp only [Act.put, List.setIfInBounds_toArray, List.set_cons_succ, List.set_cons_zero])
                          iterate 16 (apply hav_same (by simp only [List.getElem?_toArray, List.getElem?_cons_succ, List.getElem?_cons_zero]; rfl) (by kernel_rfl); (focus (intro wv hgv _; have hcv : ∀ b o, b < _ → wv.cell? ⟨b, o, none⟩ = _ := fun b o hb => Below.cell hgv (p := ⟨b, o, none⟩) hb; (try go_simp); try rfl; done)); simp only [Act.put, List.setIfInBounds_toArray, List.set_cons_succ, List.set_cons_zero])
                          (apply hav_call (by simp only [List.getElem?_toArray, List.getElem?_cons_succ, List.getElem?_cons_zero]; rfl) (by kernel_rfl); (focus (intro wv; go_simp; try exact ⟨rfl, rfl⟩; done)); (focus (intro wv hgv _; exact joined_any _ _ _ _ wv; done)); simp only [Act.put, List.setIfInBounds_toArray, List.set_cons_succ, List.set_cons_zero])
                          iterate 2 (apply hav_same (by simp only [List.getElem?_toArray, List.getElem?_cons_succ, List.getElem?_cons_zero]; rfl) (by kernel_rfl); (focus (intro wv hgv _; have hcv : ∀ b o, b < _ → wv.cell? ⟨b, o, none⟩ = _ := fun b o hb => Below.cell hgv (p := ⟨b, o, none⟩) hb; (try go_simp); try rfl; done)); simp only [Act.put, List.setIfInBounds_toArray, List.set_cons_succ, List.set_cons_zero])
                          refine hav_end (fun w5 hgw5 _ => ?_); simp only [List.filterMap]; have hcw5 : ∀ b o, b < _ → w5.cell? ⟨b, o, none⟩ = _ := fun b o hb => Below.cell hgw5 (p := ⟨b, o, none⟩) hb; have hfw5 : ∀ b o, b < _ → w5.frozen? ⟨b, o, none⟩ = _ := fun b o hb => Below.frozen hgw5 (p := ⟨b, o, none⟩) hb; have hzw5 := Below.size hgw5; (try simp at hzw5)
                          have H75 := Lib.hid (HV7.out.below hgw5 HV7.out.lt)
                          have HT5 : Hid (Turn (fun b => b = g7) v3 w5) := HTV2.out.trans (Turn.of_below hgw5)
                          clear hgw5 hcw5 hfw5 c0 c1 l7 y0 y1' l13
                          have c0 := (H75.out.cell ((x * 7 + j) * 2)).trans (totA_lo _ (by omega))
                          have c1 := (H75.out.cell ((x * 7 + j) * 2 + 1)).trans (totA_hi _ (by omega))
                          have f0 := H75.out.frozen ((x * 7 + j) * 2)
                          have f1 := H75.out.frozen ((x * 7 + j) * 2 + 1)
                          have l7 := H75.out.lt
                          have hp := (H75.out.set_ ((x * 7 + j) * 2) (.int .i64 (min q0 (sl + x)))).set_ ((x * 7 + j) * 2 + 1) (.int .i64 (max q1 (sh + x)))
                          rw [totA_put _ (by omega), totA_congr (putT_put _ _ _ _)] at hp
                          rw [he] at c0 c1 f0 f1 hp
                          have HP5 := Lib.hid hp
                          have HJ : Hid (joinI (q0, q1) (sl + x, sh + x) = encO (foldO fT4 (v + 1))) := by
                            show _ = _
                            rw [← HQ.out, ← HGO, foldO]
                            have hf := HF4.out
                            exact joinI_enc (foldO_small v (fun i hi => by rw [← hf]; exact fT_small (by have := HTT.out.ok.l6; simp; omega) (by omega) (by omega))) (by rw [← hf]; exact fT_small (by have := HTT.out.ok.l6; simp; omega) (by omega) (by omega))
                          clear hp he
                          go_wp2_with fail
                          go_roundw
                          case rel =>
                            refine ⟨v + 1, by omega, by go_num, ?_, (HT5.out.trans (Turn.set _ _ (fun _ => rfl))).trans (Turn.set _ _ (fun _ => rfl))⟩
                            rw [← HJ.out]
                            exact HP5.out
                          case measure => simp [intOf]; omega
                      · have hin : inB ((v : Int) - x) (-(c.drift : Int)) c.drift = false := by simp [inB]; omega
                        have HNO : fT4 v = none := by rw [← HF4.out]; exact fT_far (by omega) (by have := HLEN.out; omega) hnear
                        refine wp_region_havoc [(0,false),(1,false),(2,false),(3,false),(4,false),(5,false),(6,false),(7,false),(8,false),(9,false),(10,false),(11,false),(12,false),(13,false),(14,false),(15,false),(16,false),(17,false),(18,false),(19,false),(20,false),(21,false),(22,false),(23,false),(24,false),(25,false),(26,false),(27,false),(28,false),(29,false),(30,false),(31,false),(32,false),(33,false),(34,false),(35,false),(36,false)] [] (fun _ _ => False) (by kernel_rfl) (by kernel_rfl) (fun _ _ _ _ h => h.elim) ?_
                        (apply hav_same (by simp only [List.getElem?_toArray, List.getElem?_cons_zero]; rfl) (by kernel_rfl); (focus (intro wv hgv _; have hcv : ∀ b o, b < _ → wv.cell? ⟨b, o, none⟩ = _ := fun b o hb => Below.cell hgv (p := ⟨b, o, none⟩) hb; (try go_simp); try rfl; done)); simp only [Act.put, List.setIfInBounds_toArray, List.set_cons_succ, List.set_cons_zero])
                        iterate 2 (apply hav_same (by simp only [List.getElem?_toArray, List.getElem?_cons_succ, List.getElem?_cons_zero]; rfl) (by kernel_rfl); (focus (intro wv hgv _; have hcv : ∀ b o, b < _ → wv.cell? ⟨b, o, none⟩ = _ := fun b o hb => Below.cell hgv (p := ⟨b, o, none⟩) hb; (try go_simp); try rfl; done)); simp only [Act.put, List.setIfInBounds_toArray, List.set_cons_succ, List.set_cons_zero])
                        iterate 6 (refine hav_skip (by simp only [List.getElem?_toArray, List.getElem?_cons_succ, List.getElem?_cons_zero]; rfl) (by kernel_rfl) ?_; simp only [Act.put, List.setIfInBounds_toArray, List.set_cons_succ, List.set_cons_zero])
                        iterate 19 (apply hav_same (by simp only [List.getElem?_toArray, List.getElem?_cons_succ, List.getElem?_cons_zero]; rfl) (by kernel_rfl); (focus (intro wv hgv _; have hcv : ∀ b o, b < _ → wv.cell? ⟨b, o, none⟩ = _ := fun b o hb => Below.cell hgv (p := ⟨b, o, none⟩) hb; (try go_simp); try rfl; done)); simp only [Act.put, List.setIfInBounds_toArray, List.set_cons_succ, List.set_cons_zero])
                        (apply hav_call (by simp only [List.getElem?_toArray, List.getElem?_cons_succ, List.getElem?_cons_zero]; rfl) (by kernel_rfl); (focus (intro wv; go_simp; try exact ⟨rfl, rfl⟩; done)); (focus (intro wv hgv _; have hq := withinC_any ((v : Int) - x) (-(c.drift : Int)) c.drift wv; rw [hin] at hq; exact hq.mono (fun e w' ⟨h1, h2⟩ => ⟨h1, by rw [h2]; exact Below.refl _ _⟩); done)); simp only [Act.put, List.setIfInBounds_toArray, List.set_cons_succ, List.set_cons_zero])
                        iterate 2 (apply hav_same (by simp only [List.getElem?_toArray, List.getElem?_cons_succ, List.getElem?_cons_zero]; rfl) (by kernel_rfl); (focus (intro wv hgv _; have hcv : ∀ b o, b < _ → wv.cell? ⟨b, o, none⟩ = _ := fun b o hb => Below.cell hgv (p := ⟨b, o, none⟩) hb; (try go_simp); try rfl; done)); simp only [Act.put, List.setIfInBounds_toArray, List.set_cons_succ, List.set_cons_zero])
                        iterate 3 (refine hav_skip (by simp only [List.getElem?_toArray, List.getElem?_cons_succ, List.getElem?_cons_zero]; rfl) (by kernel_rfl) ?_; simp only [Act.put, List.setIfInBounds_toArray, List.set_cons_succ, List.set_cons_zero])
                        iterate 3 (apply hav_same (by simp only [List.getElem?_toArray, List.getElem?_cons_succ, List.getElem?_cons_zero]; rfl) (by kernel_rfl); (focus (intro wv hgv _; have hcv : ∀ b o, b < _ → wv.cell? ⟨b, o, none⟩ = _ := fun b o hb => Below.cell hgv (p := ⟨b, o, none⟩) hb; (try go_simp); try rfl; done)); simp only [Act.put, List.setIfInBounds_toArray, List.set_cons_succ, List.set_cons_zero])
                        refine hav_end (fun w2 hgw2 _ => ?_); simp only [List.filterMap]; have hcw2 : ∀ b o, b < _ → w2.cell? ⟨b, o, none⟩ = _ := fun b o hb => Below.cell hgw2 (p := ⟨b, o, none⟩) hb; have hfw2 : ∀ b o, b < _ → w2.frozen? ⟨b, o, none⟩ = _ := fun b o hb => Below.frozen hgw2 (p := ⟨b, o, none⟩) hb; have hzw2 := Below.size hgw2; (try simp at hzw2)
                        have HB2 := Lib.hid hgw2
                        clear hgw2 hcw2 hfw2
                        go_wp2_with fail
                        go_roundw
                        case rel =>
                          refine ⟨v + 1, by omega, by go_num, ?_, HTZ2.out.trans (Turn.of_below HB2.out)⟩
                          have hy := HZ7.out.below HB2.out HZ7.out.lt
                          rw [show foldO fT4 (v + 1) = foldO fT4 v by rw [foldO, HNO, joinO_none]]
                          exact hy
                        case measure => simp [intOf]; omega
                  · obtain rfl : v = 31 := by omega
                    go_wp2_with fail
                    go_roundw
                    case rel =>
                      refine ⟨j + 1, by omega, by go_num, ?_, HTV.out⟩
                      have hy := H7V.out
                      rw [totA_congr (upT_put (nextF c k b) (fun _ => (0, 0)) (x * 7 + j) _ (by rw [HFE.out]))] at hy
                      exact hy
                    case measure => simp [intOf]; omega
            · obtain rfl : j = 7 := by omega
              go_wp2_with fail
              go_roundw
              case rel => exact ⟨x + 1, by omega, by go_num, by rw [show (x + 1) * 7 = x * 7 + 7 by omega]; exact H7J.out, HTJ.out⟩
              case measure => simp [intOf]; omega
        · obtain rfl : x = 31 := by omega
          have H7E : Hid (Blk wr g7 170 (totA (tabL c (k + 1)))) := by
            show Blk _ _ _ _
            rw [totA_congr31 (T := upT (nextF c k b) (fun _ => (0, 0)) (31 * 7)) (fun e he => by rw [tabL_succ HBK.out]; unfold upT; rw [if_pos (show e < 31 * 7 by omega)]; rfl)]
            exact H7R.out
          have H5E := Lib.hid ((H5R.out.below HBX.out H5R.out.lt).turn HTX.out (by have := HN7.out; omega))
          have hl := tot_load H7E.out
          have hst := tot_store H5E.out (tabL c (k + 1))
          have HS5 := Lib.hid (setRow_blk H5E.out (totA (tabL c (k + 1))))
          have HTE : Hid (Turn (fun b => b = g5) V (wr.setRow g5 (totA (tabL c (k + 1))))) := by
            have hn := HN7.out
            refine (HTR.out.join ((Turn.of_below (S := fun b => b = g7) HBX.out).trans HTX.out) (fun z e hz => ?_)).trans (setRow_turn _ _ _)
            have e' : z = g7 := e
            have := HG7V.out
            omega
          go_upto_region 27 with (fail)
          go_upto_region 28 with (first | refine wpList_loadW 170 7 rfl rfl rfl hl ?_ | refine wpList_storeW 170 5 121 rfl rfl rfl rfl hst ?_)
          clear hl hst hz
          simp only [Act.put, List.setIfInBounds_toArray, List.set_cons_succ, List.set_cons_zero]
          go_wp2_with fail
          go_roundw
          case rel => exact ⟨k + 1, by omega, by go_num, HS5.out, HTE.out⟩
          case measure => simp [intOf]; omega
    · obtain rfl : k = len := by omega
      go_wp2_with fail
      rw [← HLEN.out] at H5R
      have hw := HW.out
      exact all5 HTT.out.blk HTT.out.ok H3R.out HRR.out H5R.out hw.1 HBR.out
set_option maxRecDepth 100000 in
set_option maxHeartbeats 1600000 in
theorem all_any (w : World) (hT : TabIn w B d r ba bc c) : Calls Try.prog 93 #[.pointer (some ⟨d, 0, none⟩)] w (AllPost w c) := by
  obtain ⟨W, hW⟩ : ∃ W, W = ((w.alloc (.cells #[.int .i64 0, .int .i64 0] 29)).alloc (.cells #[.int .i64 65536, .int .i64 (-1)] 29)).alloc (.cells (totA fun _ => (0, 0)) 170) := ⟨_, rfl⟩
  have HR : Hid (Blk W w.heap.size 29 #[.int .i64 0, .int .i64 0]) := by rw [hW]; exact ((Blk.new w 29 _).alloc _).alloc _
  have H3 : Hid (Blk W (w.heap.size + 1) 29 (spI (65536, -1))) := by rw [hW]; exact (Blk.new_ (by simp) 29 _).alloc _
  have H5 : Hid (Blk W (w.heap.size + 1 + 1) 170 (totA fun _ => (0, 0))) := by rw [hW]; exact Blk.new_ (by simp) 170 _
  have HB : Hid (Below w.heap.size w W) := by rw [hW]; exact (((Below.refl _ _).alloc (Nat.le_refl _) _).alloc (by simp) _).alloc (by simp; omega) _
  have HT := Lib.hid (hT.below HB.out)
  have hdl := hT.blk.lt
  have hrl := hT.map.lt
  have hBl := hT.hB
  have hz := zero170
  clear hT
  go_enter Try.func93, Try.ntmps93
  conv => arg 2; arg 2; arg 2; arg 2; arg 2; change alK 4
  go_wp2_with fail
  rw [← hW]
  exact all4 HT.out H3.out HR.out H5.out ⟨Nat.le_refl _, by omega, by omega, by omega, hdl, hrl, hBl⟩ HB.out
end
end Go.Proofs.Ytbfjebglaimcmaa
namespace Go.Proofs.Ytbfjebglaimcmaa
open Go.RowKit Go.Hav Go.Sq
attribute [local go_sem] Oper.semAt_some
section
variable {w : World} {bc : Nat} {ba : Option Addr} {c : Cls}
set_option maxRecDepth 100000 in
set_option maxHeartbeats 6400000 in
theorem CAll_any (w : World) (hC : ClsIn w w.heap.size ba c) (hcan : mistakenC c (fun _ => true) ≤ c.mis) :
    Calls Try.prog 47 #[.agg (clsC ba bc c)] w fun e w' => e = .returned (.tuple #[.agg (spI (encO (allC c))), .int .i64 0]) ∧ Below w.heap.size w w' := by
  have HC := Lib.hid hC
  have HCAN : Hid (decide (mistakenC c (fun _ => true) ≤ c.mis) = true) := decide_eq_true hcan
  have EG := Lib.hid (enters_of Try.func89 (by kernel_rfl) rfl)
  obtain ⟨s, hs⟩ : ∃ x, full c.bl.length = x := ⟨_, rfl⟩
  have HS := Lib.hid hs
  obtain ⟨W, hW⟩ : ∃ W, W = ((w.alloc (.cells (clsC ba bc c) 75)).alloc (.cells #[.int .i64 0, .int .i64 0] 29)).alloc (.cells #[.int .i64 0] 30) := ⟨_, rfl⟩
  have HX0 : Hid (Blk W w.heap.size 75 (clsC ba bc c)) := by rw [hW]; exact ((Blk.new_ rfl _ _).alloc _).alloc _
  have HX2 : Hid (Blk W (w.heap.size + 1) 29 #[.int .i64 0, .int .i64 0]) := by rw [hW]; exact (Blk.new_ (by simp) _ _).alloc _
  have HX3 : Hid (Blk W (w.heap.size + 1 + 1) 30 #[.int .i64 0]) := by rw [hW]; exact Blk.new_ (by simp) _ _
  have HB : Hid (Below w.heap.size w W) := by rw [hW]; exact (((Below.refl w.heap.size w).alloc (by simp) _).alloc (by simp) _).alloc (by simp; omega) _
  have hs3 := HX3.out.lt
  obtain ⟨x0, x1, x2, x3, xl⟩ := clsC_cells HX0.out
  clear hC hcan hs
  go_enter_defers Try.func47, Try.ntmps47
  go_upto_region 2 with fail
  rw [← hW]
  clear hW
  go_wp2_with fail
  refine (openC_any 89 #[] EG.out (isTab89 (w := W)) (HC.out.grow HB.out)).mono ?_
  rintro e w1 ⟨d, r, rfl, hT, hb1⟩
  have HB1 := Lib.hid hb1
  have HT := Lib.hid hT
  clear hT hb1 x0 x1 x2 x3 xl
  go_wp2_with fail
  have hq := everyC_any w1 HT.out
  rw [HS.out] at hq
  refine hq.mono ?_
  rintro e w2 ⟨rfl, rfl⟩
  clear hq
  go_wp2_with fail
  have hq := can_any w2 HT.out
  rw [HS.out, HCAN.out] at hq
  refine hq.mono ?_
  rintro e w3 ⟨rfl, hg⟩
  have HG := Lib.hid hg
  clear hq hg
  go_wp2_with fail
  refine (askC_any true 10 _).mono ?_
  rintro e w4 ⟨h3, rfl⟩
  obtain rfl : e = .returned (.tuple #[]) := h3
  go_wp2_with fail
  refine (all_any w4 (HT.out.keep HG.out)).mono ?_
  rintro e w5 ⟨rfl, hb5⟩
  have HB4 : Hid (Below W.heap.size W w4) := GK.under HB1.out HB1.out.size HT.out.hr HG.out
  have HB2 : Hid (Below W.heap.size W w5) := HB4.out.trans (hb5.mono HB4.out.size)
  have HY2 := Lib.hid (HX2.out.below HB2.out HX2.out.lt)
  have HY3 := Lib.hid (HX3.out.below HB2.out HX3.out.lt)
  have HBW : Hid (Below w.heap.size w w5) := HB.out.trans (HB2.out.mono HB.out.size)
  obtain ⟨t, ht⟩ : ∃ t, encO (allC c) = t := ⟨_, rfl⟩
  have HTE := Lib.hid ht
  obtain ⟨p, q⟩ := t
  rw [ht]
  unfold spI
  simp only
  have f0 := HY2.out.frozen 0
  have f1 := HY2.out.frozen 1
  have f3 := HY3.out.frozen 0
  have y0 := HY2.out.cell 0
  have y1 := HY2.out.cell 1
  have y3 := HY3.out.cell 0
  simp at y0 y1 y3
  clear hb5 ht
  go_wp2
  have hZ2 := ((HY2.out.set_ 0 (.int .i64 p)).set_ 1 (.int .i64 q)).far (p := ⟨w.heap.size + 1 + 1, 0, none⟩) (by show _ ≠ w.heap.size + 1 + 1; omega) (.int .i64 0)
  have hZ3 := ((HY3.out.far (p := ⟨w.heap.size + 1, 0, none⟩) (by show _ ≠ w.heap.size + 1; omega) (.int .i64 p)).far (p := ⟨w.heap.size + 1, 1, none⟩) (by show _ ≠ w.heap.size + 1; omega) (.int .i64 q)).set_ 0 (.int .i64 0)
  have g0 := hZ3.cell 0
  have g1 := hZ2.cell 0
  have g2 := hZ2.cell 1
  simp at g0 g1 g2
  exact cls_returns (b := w.heap.size + 1 + 1) rfl (v := .tuple #[.agg #[.int .i64 p, .int .i64 q], .int .i64 0]) (by simp [results, Try.results47, go_sem, g0, g1, g2]) ⟨by rw [HTE.out]; rfl, setCell_below (setCell_below (setCell_below HBW.out (by omega) _ _) (by omega) _ _) (by omega) _ _⟩
end
end Go.Proofs.Ytbfjebglaimcmaa
