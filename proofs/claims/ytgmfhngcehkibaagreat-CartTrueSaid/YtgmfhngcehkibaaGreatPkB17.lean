/- How much room all wagons have; the first lot of a plan that breaks a rule. Is a list a plan? No condition but that the list and the cart lie so. InTime and Check. Check. Which plans are right; which lots are sent by one. The table rule with a fact of what is left to be done, and with rows that are lengthened, by blocks that are known apart; a guarded operation of which it is not known whether it is carried out. Condition: what the statements say. -/
import Derived.Test.YtgmfhngcehkibaaGreatPkB16
set_option maxRecDepth 100000
set_option maxHeartbeats 6400000
namespace Go.Proofs.YtgmfhngcehkibaaGreat
open Go.RowKit Go.Hav Go.Shelf Go.Sq
attribute [local go_sem] Oper.semAt_some
def roomsC (R : Rm) : Array Value := #[.int .i64 (R 0), .int .i64 (R 1), .int .i64 (R 2)]
theorem roomP_take {l : List IWag} {j : Nat} {w : IWag} (h : l[j]? = some w) (hj : j < 3) : (roomsC (roomP (l.take j))).setIfInBounds j (.int .i64 w.room) = roomsC (roomP (l.take (j + 1))) := by
 have hg : ∀ m i, roomP (l.take m) i = if i < m then roomP l i else 0 := fun m i => by
  unfold roomP; rw [List.getElem?_take]
  by_cases hi : i < m
  ·rw [if_pos hi, if_pos hi]
  ·rw [if_neg hi, if_neg hi]
 have hr : roomP l j = w.room := by unfold roomP; rw [h]
 unfold roomsC; simp only [hg]
 match j, hj with
 | 0, _ => simp [hr]
 | 1, _ => simp [hr]
 | 2, _ => simp [hr]
section
variable {fa la wa ta : Option Addr} {fl fc ll lc wn wc tn tc : Nat} {c : ICart}
variable {w w' : World} {B d : Nat}
theorem rooms_any (hY : YdIn w B d fa fl fc la ll lc wa wn wc ta tn tc c) : Calls Tryz.prog 81 #[.pointer (some ⟨d, 0, none⟩)] w fun e w' => e = .returned (.agg (roomsC (roomP c.wg))) ∧ Below w.heap.size w w' := by
 obtain ⟨W, hW⟩ : ∃ W, W = w.alloc (.cells (roomsC (roomP (c.wg.take 0))) 106) := ⟨_, rfl⟩; obtain ⟨b2, hb2⟩ : ∃ b, b = w.heap.size := ⟨_, rfl⟩; have HB : Hid (Below w.heap.size w W) := by rw [hW]; exact (Below.refl _ _).alloc (Nat.le_refl _) _
 have HX2 : Hid (Blk W b2 106 (roomsC (roomP (c.wg.take 0)))) := by rw [hW, hb2]; exact Blk.new w 106 _
 have HN : Hid (b2 = w.heap.size) := hb2; have HYo := Lib.hid hY; have HYW := Lib.hid (hY.grow HB.out); have hw3 : wn ≤ 3 := by have := hY.ewn; have := (okC_parts hY.ok).2.2.1; omega
 have HEW : Hid (c.wg.length = wn) := hY.ewn; have hr0 : roomsC (roomP (c.wg.take 0)) = #[.int .i64 0, .int .i64 0, .int .i64 0] := by simp [roomsC, roomP]
 rw [hr0] at hW; have y8 : W.cell? ⟨d, 8, none⟩ = some (.slice wa wn wc) := HYW.out.blk.cell 8; have yl := HYW.out.blk.lt; clear hY hr0
 go_enter Tryz.func81, Tryz.ntmps81
 go_upto_region 1 with (fail); rw [← hb2, ← hW]; clear hW hb2; go_wp2; clear y8 yl
 go_loopw [11] (fun i wr => ∃ j : Nat, j ≤ wn ∧ i = .int .i64 j ∧ Hid (Below w.heap.size w wr) ∧ Hid (Blk wr b2 106 (roomsC (roomP (c.wg.take j))))) (fun i _ => wn - (intOf i).toNat)
 case atStart => exact ⟨0, Nat.zero_le _, rfl, HB, HX2⟩
 case round =>
  obtain ⟨j, hj, rfl, HBR, HR2⟩ := hrel
  by_cases hlt : j < wn
  ·obtain ⟨wg, hw⟩ : ∃ x, c.wg[j]? = some x := ⟨c.wg[j]'(by have := HEW.out; omega), by simp⟩
   have HT : Hid ((roomsC (roomP (c.wg.take j))).setIfInBounds j (.int .i64 wg.room) = roomsC (roomP (c.wg.take (j + 1)))) := roomP_take hw (by omega)
   have HYR := Lib.hid (HYo.out.grow HBR.out); obtain ⟨bk, off, rfl, hbl, H0, H1, H2, H3⟩ := rd_wg HYR.out.hwg j wg hw; have hbw : bk < wr.heap.size := by have := HYR.out.hB; omega
   obtain ⟨v0, hv0⟩ : ∃ v, (roomsC (roomP (c.wg.take j)))[j]? = some v := ⟨(roomsC (roomP (c.wg.take j)))[j]'(by show j < 3; omega), Array.getElem?_eq_getElem _⟩
   obtain ⟨lv, ⟨lo, hi⟩, rm⟩ := wg; simp only at H0 H1 H2 H3 HT; obtain ⟨Wd, hWd⟩ : ∃ Wd, Wd = wr.alloc (.cells #[.int .i64 lv, .int .i64 lo, .int .i64 hi, .int .i64 rm] 65) := ⟨_, rfl⟩; obtain ⟨g1, hg1⟩ : ∃ g, g = wr.heap.size := ⟨_, rfl⟩; have HBD : Hid (Below w.heap.size w Wd) := by rw [hWd]; exact HBR.out.alloc HBR.out.size _
   have HN1 : Hid (Blk Wd g1 65 #[.int .i64 lv, .int .i64 lo, .int .i64 hi, .int .i64 rm]) := by rw [hWd, hg1]; exact Blk.new wr 65 _
   have HD2 : Hid (Blk Wd b2 106 (roomsC (roomP (c.wg.take j)))) := by rw [hWd]; exact HR2.out.alloc _
   clear hbl hw; go_upto_region 4 with (fail); rw [← hWd, ← hg1]; clear hWd hg1 H0 H1 H2 H3 hbw; have y3 : Wd.cell? ⟨g1, 3, none⟩ = some (.int .i64 rm) := HN1.out.cell 3; have yl := HN1.out.lt; have cj : Wd.cell? ⟨b2, j, none⟩ = some v0 := (HD2.out.cell j).trans hv0; have fj := HD2.out.frozen j; have l2 := HD2.out.lt; have hj3 : j < 3 := by omega
   clear hv0; go_wp2; have hB9 : Below w.heap.size w (Wd.setCell ⟨b2, j, none⟩ (.int .i64 rm)) := HBD.out.setCell (p := ⟨b2, j, none⟩) (by have := HN.out; show _ ≤ b2; omega) _
   go_roundw
   case rel => exact ⟨j + 1, by omega, by go_num, hB9, by show Blk _ _ _ _; rw [← HT.out]; exact HD2.out.set_ j _⟩
   case measure => simp [intOf]; omega
  ·obtain rfl : wn = j := by omega
   have HE : Hid (c.wg.take wn = c.wg) := List.take_of_length_le (by rw [HEW.out]; exact Nat.le_refl _)
   rw [HE.out] at HR2; have c0 : wr.cell? ⟨b2, 0, none⟩ = some (.int .i64 (roomP c.wg 0)) := HR2.out.cell 0; have c1 : wr.cell? ⟨b2, 1, none⟩ = some (.int .i64 (roomP c.wg 1)) := HR2.out.cell 1; have c2 : wr.cell? ⟨b2, 2, none⟩ = some (.int .i64 (roomP c.wg 2)) := HR2.out.cell 2; have f0 := HR2.out.frozen 0; have f1 := HR2.out.frozen 1; have f2 := HR2.out.frozen 2; have l2 := HR2.out.lt; go_wp2; obtain ⟨W9, hW9⟩ : ∃ W9, W9 = ((wr.setCell ⟨b2, 0, none⟩ (.int .i64 (roomP c.wg 0))).setCell ⟨b2, 1, none⟩ (.int .i64 (roomP c.wg 1))).setCell ⟨b2, 2, none⟩ (.int .i64 (roomP c.wg 2)) := ⟨_, rfl⟩; rw [← hW9]; have hk : Blk W9 b2 106 #[.int .i64 (roomP c.wg 0), .int .i64 (roomP c.wg 1), .int .i64 (roomP c.wg 2)] := by rw [hW9]; have h := ((HR2.out.set_ 0 (.int .i64 (roomP c.wg 0))).set_ 1 (.int .i64 (roomP c.wg 1))).set_ 2 (.int .i64 (roomP c.wg 2)); simpa [roomsC] using h
   have hn : w.heap.size ≤ b2 := by have := HN.out; omega
   have hb9 : Below w.heap.size w W9 := by rw [hW9]; exact ((HBR.out.setCell (p := ⟨b2, 0, none⟩) hn _).setCell (p := ⟨b2, 1, none⟩) hn _).setCell (p := ⟨b2, 2, none⟩) hn _
   have g0 := hk.cell 0; have g1 := hk.cell 1; have g2 := hk.cell 2; simp at g0 g1 g2; exact bodyPost_ret (by simp [results, Tryz.results81, go_sem, g0, g1, g2]; rfl) rfl ⟨rfl, hb9⟩
theorem roomsC_take {R : Rm} {j : Nat} (b : Int) (hj : j < 3) : (roomsC R).setIfInBounds j (.int .i64 (R j - b)) = roomsC (takeR R j b) := by
 unfold roomsC takeR
 match j, hj with
 | 0, _ => simp
 | 1, _ => simp
 | 2, _ => simp
def planB (c : ICart) (ps : List Int) : Bool := decide (ps.length = c.lt.length) && ps.all fun p => decide (p = -1) || isWagB c p
theorem planB_parts {ps : List Int} (h : planB c ps = true) : ps.length = c.lt.length ∧ ∀ p ∈ ps, p = -1 ∨ (0 ≤ p ∧ p < c.wg.length) := by
 unfold planB at h; simp only [Bool.and_eq_true, decide_eq_true_eq, List.all_eq_true, Bool.or_eq_true] at h
 refine ⟨h.1, fun p hp => ?_⟩
 rcases h.2 p hp with h1 | h1
 ·exact .inl h1
 ·exact .inr (by have := inB_iff.1 h1; omega)
def checkV (c : ICart) (ps : List Int) : Nat × Nat := (checkL c.tm c.wg 0 c.lt ps (roomP c.wg)).getD (0, 0)
theorem ccheck_any {pa : Option Addr} {pn pc : Nat} {ps : List Int} (hp : planB c ps = true) (hpn : ps.length = pn) (hr : RdG inI 1 w B pa ps) (hY : YdIn w B d fa fl fc la ll lc wa wn wc ta tn tc c) : Calls Tryz.prog 59 #[.pointer (some ⟨d, 0, none⟩), .slice pa pn pc] w fun e w' =>
  e = .returned (.tuple #[.int .i64 (checkV c ps).1, .int .i64 (checkV c ps).2]) ∧ Below w.heap.size w w' := by
 obtain ⟨hpl, hps⟩ := planB_parts hp; have hw3 : wn ≤ 3 := by have := hY.ewn; have := (okC_parts hY.ok).2.2.1; omega
 have ht5 : tn ≤ 5 := by have := hY.etn; have := (okC_parts hY.ok).2.2.2.1; omega
 have hptn : pn = tn := by have := hY.etn; omega
 subst hptn; have HYo := Lib.hid hY; have HPR := Lib.hid hr; have HEN : Hid (c.wg.length = wn ∧ c.lt.length = pn ∧ ps.length = pn) := ⟨hY.ewn, hY.etn, hpn⟩; have HLT : Hid (∀ l ∈ c.lt, lotB l = true) := (okC_parts hY.ok).2.2.2.2.2; have HWG : Hid (∀ l ∈ c.wg, wagB l = true) := (okC_parts hY.ok).2.2.2.2.1; have HPS := Lib.hid hps; clear hp hr hY hps hpl hpn
 go_enter Tryz.func59, Tryz.ntmps59
 go_wp2_with fail; refine (rooms_any (fa := fa) (fl := fl) (fc := fc) (la := la) (ll := ll) (lc := lc) (wa := wa) (wc := wc) (ta := ta) (tn := pn) (tc := tc) HYo.out).mono ?_
 rintro e w1 ⟨rfl, hb⟩; have HB1 : Hid (Below w.heap.size w w1) := hb; clear hb; obtain ⟨W, hW⟩ : ∃ W, W = w1.alloc (.cells (roomsC (roomP c.wg)) 106) := ⟨_, rfl⟩; obtain ⟨b6, hb6⟩ : ∃ b, b = w1.heap.size := ⟨_, rfl⟩; have HBW : Hid (Below w.heap.size w W) := by rw [hW]; exact HB1.out.alloc HB1.out.size _
 have HX6 : Hid (Blk W b6 106 (roomsC (roomP c.wg))) := by rw [hW, hb6]; exact Blk.new w1 106 _
 have HN : Hid (w.heap.size ≤ b6) := by show _ ≤ _; rw [hb6]; exact HB1.out.size
 dsimp only [roomsC] at hW ⊢; go_wp2; rw [← hb6, ← hW]; clear hW hb6
 have HR0 : Hid (∀ i, 0 ≤ roomP c.wg i ∧ roomP c.wg i ≤ 30) := fun i => by
  unfold roomP
  cases h : c.wg[i]? with
  | none => exact ⟨by simp, by simp⟩
  | some g => have := wagB_iff.1 (HWG.out g (List.mem_of_getElem? h)); simp only; omega
 have hmf := hmf0
 go_loopw [15] (fun i wr => ∃ (j : Nat) (R : Rm), j ≤ pn ∧ i = .int .i64 j ∧ Hid (Below w.heap.size w wr) ∧ Hid (Blk wr b6 106 (roomsC R)) ∧ Hid (checkL c.tm c.wg 0 c.lt ps (roomP c.wg) = checkL c.tm c.wg j (c.lt.drop j) (ps.drop j) R) ∧ Hid (∀ i, 0 ≤ R i ∧ R i ≤ 30)) (fun i _ => pn - (intOf i).toNat)
 case atStart => exact ⟨0, roomP c.wg, Nat.zero_le _, rfl, HBW, HX6, rfl, HR0⟩
 case round =>
  obtain ⟨j, R, hj, rfl, HBR, HR6, HC, HRB⟩ := hrel
  by_cases hlt : j < pn
  ·obtain ⟨p, hp⟩ : ∃ x, ps[j]? = some x := ⟨ps[j]'(by have := HEN.out; omega), by simp⟩
   obtain ⟨l, hl⟩ : ∃ x, c.lt[j]? = some x := ⟨c.lt[j]'(by have := HEN.out; omega), by simp⟩
   have hdp : ps.drop j = p :: ps.drop (j + 1) := by rw [List.drop_eq_getElem_cons (by have := HEN.out; omega)]; congr 1; have := List.getElem?_eq_some_iff.1 hp; exact this.2
   have hdl : c.lt.drop j = l :: c.lt.drop (j + 1) := by rw [List.drop_eq_getElem_cons (by have := HEN.out; omega)]; congr 1; have := List.getElem?_eq_some_iff.1 hl; exact this.2
   have HCS := HC; rw [hdp, hdl] at HCS; obtain ⟨bp, op, rfl, hbp, P0⟩ := rd_in (HPR.out.below (HBR.out.mono HYo.out.hB)) j p hp; have hbpw : bp < wr.heap.size := by have := HBR.out.size; have := HYo.out.hB; omega
   rcases HPS.out p (List.mem_of_getElem? hp) with hp1 | hp1
   ·have hneg : p < 0 := by omega
    have HCN : Hid (checkL c.tm c.wg 0 c.lt ps (roomP c.wg) = checkL c.tm c.wg (j + 1) (c.lt.drop (j + 1)) (ps.drop (j + 1)) R) := by
     show _ = _; rw [HCS.out, checkL, if_pos hneg]
    clear hdp hdl hp hl hbp; go_wp2; go_roundw
    case rel => exact ⟨j + 1, R, by omega, by go_num, HBR, HR6, HCN, HRB⟩
    case measure => simp [intOf]; omega
   ·obtain ⟨k, rfl⟩ : ∃ k : Nat, p = k := ⟨p.toNat, by omega⟩
    have hkw : k < wn := by have := HEN.out.1; omega
    obtain ⟨wg, hw⟩ : ∃ x, c.wg[k]? = some x := ⟨c.wg[k]'(by omega), by simp⟩
    obtain ⟨br, hbr⟩ : ∃ br, br = brokenW (c.tm wg) l wg (R k) := ⟨_, rfl⟩
    have HST : Hid (checkL c.tm c.wg 0 c.lt ps (roomP c.wg) = if br = 0 then checkL c.tm c.wg (j + 1) (c.lt.drop (j + 1)) (ps.drop (j + 1)) (takeR R k l.bales) else some (j, br)) := by
     show _ = _; rw [HCS.out, checkL, if_neg (by omega), Int.toNat_natCast, hw]
     simp only [← hbr]
    have HYR := Lib.hid (HYo.out.grow HBR.out); obtain ⟨bl, ol, rfl, hbl, L0, L1, L2, L3, L4⟩ := rd_lt HYR.out.hlt j l hl; have hblw : bl < wr.heap.size := by have := HYR.out.hB; omega
    have y9 : wr.cell? ⟨d, 9, none⟩ = some (.slice (some ⟨bl, ol, none⟩) pn tc) := HYR.out.blk.cell 9; have yl := HYR.out.blk.lt
    have hv0 : (roomsC R)[k]? = some (.int .i64 (R k)) := by
     unfold roomsC
     match k, (show k < 3 by omega) with
     | 0, _ => rfl
     | 1, _ => rfl
     | 2, _ => rfl
    have cj : wr.cell? ⟨b6, k, none⟩ = some (.int .i64 (R k)) := (HR6.out.cell k).trans hv0; have l6 := HR6.out.lt; have HW := Lib.hid hw; have HLB := Lib.hid (lotB_iff.1 (HLT.out l (List.mem_of_getElem? hl))); have HBRV : Hid (br = brokenW (c.tm wg) l wg (R k)) := hbr; have hk3 : k < 3 := by omega
    have hk3i : (k : Int) < 3 := by omega
    clear hdp hdl hp hl hbp hw hbr hbl hv0 HCS; obtain ⟨l0, l1, l2, l3, l4⟩ := l; simp only at L0 L1 L2 L3 L4 HST HLB; go_upto_region 6 with (fail)
    refine wp_region_havoc [(0,false),(1,false),(2,false),(3,false),(4,false),(5,false),(6,false),(7,false),(8,false),(9,false),(10,false),(11,false),(12,false),(13,false),(14,false),(15,false),(16,false)] [] (fun _ _ => False) (by kernel_rfl) (by kernel_rfl) (fun _ _ _ _ h => h.elim) ?_
    (apply hav_same (by exact ho rfl) (by kernel_rfl); (focus (intro wv hgv _; have hcv := cvB hgv; (try go_simp); try rfl; done)); simp only [Act.put, List.setIfInBounds_toArray, List.set_cons_succ, List.set_cons_zero])
    iterate 11 (apply hav_same (by exact ho rfl) (by kernel_rfl); (focus (intro wv hgv _; have hcv := cvB hgv; (try go_simp); try rfl; done)); simp only [Act.put, List.setIfInBounds_toArray, List.set_cons_succ, List.set_cons_zero])
    iterate 3 (apply hav_same (by exact ho rfl) (by kernel_rfl); (focus (intro wv hgv _; have hcv := cvB hgv; (try go_simp); try rfl; done)); simp only [Act.put, List.setIfInBounds_toArray, List.set_cons_succ, List.set_cons_zero])
    (apply hav_call (by exact ho rfl) (by kernel_rfl); (focus (intro wv; go_simp; try exact ⟨rfl, rfl⟩; done)); (focus (intro wv hgv _; refine (broken_any (fa := fa) (fl := fl) (fc := fc) (la := la) (ll := ll) (lc := lc) (wa := wa) (wn := wn) (wc := wc) (tn := pn) (tc := tc) ⟨l0, l1, l2, l3, l4⟩ k (R k) wg HW.out (HYR.out.grow hgv)).mono ?_; rintro e w' ⟨rfl, hb⟩; exact ⟨rfl, hb⟩; done)); simp only [Act.put, List.setIfInBounds_toArray, List.set_cons_succ, List.set_cons_zero])
    (apply hav_same (by exact ho rfl) (by kernel_rfl); (focus (intro wv hgv _; have hcv := cvB hgv; (try go_simp); try rfl; done)); simp only [Act.put, List.setIfInBounds_toArray, List.set_cons_succ, List.set_cons_zero])
    refine hav_end (fun wz hgz _ => ?_)
    simp only [List.filterMap]; have hbz : Below wr.heap.size wr wz := hgz; rw [← HBRV.out]; have HBZ : Hid (Below w.heap.size w wz) := HBR.out.trans (hbz.mono HBR.out.size); have HZ6 := Lib.hid (HR6.out.below hbz l6); have HYZ := Lib.hid (HYR.out.grow hbz); have z0 := (Below.cell hbz (p := ⟨bl, ol + j * 5 + 1, none⟩) hblw).trans L1; have hblz : bl < wz.heap.size := Nat.lt_of_lt_of_le hblw hbz.size; have z9 : wz.cell? ⟨d, 9, none⟩ = some (.slice (some ⟨bl, ol, none⟩) pn tc) := HYZ.out.blk.cell 9; have zl := HYZ.out.blk.lt
    have ck : wz.cell? ⟨b6, k, none⟩ = some (.int .i64 (R k)) := (HZ6.out.cell k).trans (by
     unfold roomsC
     match k, hk3 with
     | 0, _ => rfl
     | 1, _ => rfl
     | 2, _ => rfl)
    have fk := HZ6.out.frozen k; have k6 := HZ6.out.lt; clear hgz hbz P0 hbpw L0 L1 L2 L3 L4 y9 yl cj l6 hblw
    by_cases hb0 : br = 0
    ·have hle : l1 ≤ R k := by
      have h := HBRV.out; rw [hb0] at h; unfold brokenW at h; simp only at h
      split at h
      ·cases h
      ·split at h
       ·cases h
       ·omega
     have HCN : Hid (checkL c.tm c.wg 0 c.lt ps (roomP c.wg) = checkL c.tm c.wg (j + 1) (c.lt.drop (j + 1)) (ps.drop (j + 1)) (takeR R k l1)) := by
      show _ = _; rw [HST.out, if_pos hb0]
     have hRk := HRB.out k; have hlb := HLB.out
     have HRN : Hid (∀ i, 0 ≤ takeR R k l1 i ∧ takeR R k l1 i ≤ 30) := fun i => by
      unfold takeR
      split
      ·rename_i hi; subst hi; omega
      ·exact HRB.out i
     subst hb0; go_wp2_with fail; refine (bless_any (R k) l1 (by omega) (by omega) _).mono ?_
     rintro e w3 ⟨rfl, rfl⟩; clear hRk hlb hle; go_wp2; go_roundw
     case rel =>
      refine ⟨j + 1, takeR R k l1, by omega, by go_num, HBZ.out.setCell (p := ⟨b6, k, none⟩) HN.out _, ?_, HCN, HRN⟩
      show Blk _ _ _ _; rw [← roomsC_take l1 hk3]; exact HZ6.out.set_ k _
     case measure => simp [intOf]; omega
    ·have HV : Hid (checkV c ps = (j, br)) := by show _ = _; unfold checkV; rw [HST.out, if_neg hb0]; rfl
     go_wp2; go_ret2
     exact ⟨by rw [HV.out]; rfl, HBZ.out⟩
  ·obtain rfl : pn = j := by omega
   have HV : Hid (checkV c ps = (0, 0)) := by
    show _ = _; unfold checkV; rw [HC.out, List.drop_of_length_le (by have := HEN.out; omega), List.drop_of_length_le (by have := HEN.out; omega)]
    rfl
   go_wp2; go_ret2
   exact ⟨by rw [HV.out]; rfl, HBR.out⟩
end
def goodN (c : ICart) (n : Int) : Bool := decide (n = -1) || isWagB c n
section
variable {fa la wa ta : Option Addr} {fl fc ll lc wn wc tn tc : Nat} {c : ICart}
variable {w w' : World} {B d : Nat}
theorem isPlan1_any (n : Int) {b : Nat} (hw : c.wg.length = wn) (hwn : wn ≤ 1000) (hb : Blk w b 31 #[.int .i64 c.riv.depth.lo, .int .i64 c.riv.depth.hi, .int .i64 c.riv.fall.lo, .int .i64 c.riv.fall.hi, .int .i64 c.riv.days, .slice fa fl fc, .slice la ll lc, .int .i64 c.draws, .slice wa wn wc, .slice ta tn tc]) : Calls Tryz.prog 99 #[.int .i64 n, .pointer (some ⟨b, 0, none⟩)] w fun e w' => e = .returned (.bool (!goodN c n)) ∧ Below w.heap.size w w' := by
 by_cases hn : n = -1
 ·subst hn; have HG : Hid (goodN c (-1) = true) := by show _ = _; unfold goodN; rw [decide_eq_true rfl]; rfl
  clear hb hw; rw [HG.out]
  go_enter Tryz.func99, Tryz.ntmps99
  go_wp2; go_ret
  exact ⟨rfl, Below.refl _ _⟩
 ·have HG : Hid (goodN c n = isWagB c n) := by show _ = _; unfold goodN; rw [decide_eq_false hn]; rfl
  have HX := Lib.hid hb; have HW := Lib.hid hw; clear hb hw; rw [HG.out]; obtain ⟨q0, q1, q2, q3, q4, q5, q6, q7, q8, q9, ql⟩ := cx31 HX.out
  go_enter Tryz.func99, Tryz.ntmps99
  go_wp2_with fail; refine (cisWagon_any (fa := fa) (fl := fl) (fc := fc) (la := la) (ll := ll) (lc := lc) (wa := wa) (wc := wc) (ta := ta) (tn := tn) (tc := tc) n HW.out hwn _).mono ?_
  rintro e w' ⟨rfl, hb⟩; go_wp2; go_ret
  exact ⟨ret_bool (by simp [hn]), hb⟩
theorem indexFunc_any {pa : Option Addr} {pn pc : Nat} {ps : List Int} {b : Nat} (hpn : ps.length = pn) (hr : RdG inI 1 w B pa ps) (hB : B ≤ w.heap.size) (hw : c.wg.length = wn) (hwn : wn ≤ 1000) (hb : Blk w b 31 #[.int .i64 c.riv.depth.lo, .int .i64 c.riv.depth.hi, .int .i64 c.riv.fall.lo, .int .i64 c.riv.fall.hi, .int .i64 c.riv.days, .slice fa fl fc, .slice la ll lc, .int .i64 c.draws, .slice wa wn wc, .slice ta tn tc]) (hpm : pn ≤ 9223372036854775807) :
  Calls Tryz.prog 129 #[.slice pa pn pc, .func (.func 99) #[] #[.pointer (some ⟨b, 0, none⟩)]] w fun e w' => (∃ r : Int, e = .returned (.int .i64 r) ∧ decide (r ≥ 0) = !ps.all (goodN c)) ∧ Below w.heap.size w w' := by
 have HP := Lib.hid hpn; have HR := Lib.hid hr; have HW := Lib.hid hw; have HX := Lib.hid hb; have EG := Lib.hid (enters_of Tryz.func99 (by kernel_rfl) rfl)
 clear hpn hr hw hb
 go_enter Tryz.func129, Tryz.ntmps129
 go_wp2
 go_loopw [8] (fun i wr => ∃ j : Nat, j ≤ pn ∧ i = .int .i64 j ∧ Hid (Below w.heap.size w wr) ∧ Hid ((ps.take j).all (goodN c) = true)) (fun i _ => pn - (intOf i).toNat)
 case atStart => exact ⟨0, Nat.zero_le _, rfl, Below.refl _ _, by show _ = _; simp⟩
 case round =>
  obtain ⟨j, hj, rfl, HBR, HA⟩ := hrel
  by_cases hlt : j < pn
  ·obtain ⟨x, hx⟩ : ∃ x, ps[j]? = some x := ⟨ps[j]'(by have := HP.out; omega), by simp⟩
   obtain ⟨bk, off, rfl, hbl, H0⟩ := rd_in (HR.out.below (HBR.out.mono hB)) j x hx; have hbw : bk < wr.heap.size := by have := HBR.out.size; omega
   have HXR := Lib.hid (HX.out.below HBR.out HX.out.lt); have HST := Lib.hid (CT_take_all (goodN c) ps j x hx)
   have HBD : Hid (goodN c x = false → ps.all (goodN c) = false) := fun h => CT_all_false hx h
   clear hx hbl; go_wp2_with fail; refine (isPlan1_any (fa := fa) (fl := fl) (fc := fc) (la := la) (ll := ll) (lc := lc) (wa := wa) (wc := wc) (ta := ta) (tn := tn) (tc := tc) x HW.out hwn HXR.out).mono ?_; rintro e w1 ⟨rfl, hb⟩; have HB1 : Hid (Below w.heap.size w w1) := HBR.out.trans (hb.mono HBR.out.size); clear hb
   cases hg : goodN c x
   ·have HV := Lib.hid (HBD.out hg); clear hg; go_wp2; go_ret
    exact ⟨⟨_, rfl, by rw [HV.out]; simp⟩, HB1.out⟩
   ·have HA2 : Hid ((ps.take (j + 1)).all (goodN c) = true) := by show _ = _; rw [HST.out, HA.out, hg]; rfl
    clear hg; go_wp2; go_roundw
    case rel => exact ⟨j + 1, by omega, by go_num, HB1, HA2⟩
    case measure => simp [intOf]; omega
  ·obtain rfl : pn = j := by omega
   have HV : Hid (ps.all (goodN c) = true) := by
    have h := HA.out; rw [List.take_of_length_le (by rw [HP.out]; exact Nat.le_refl _)] at h
    exact h
   go_wp2; go_ret
   exact ⟨⟨_, rfl, by rw [HV.out]; rfl⟩, HBR.out⟩
theorem contains_any {pa : Option Addr} {pn pc : Nat} {ps : List Int} {b : Nat} (hpn : ps.length = pn) (hr : RdG inI 1 w B pa ps) (hB : B ≤ w.heap.size) (hw : c.wg.length = wn) (hwn : wn ≤ 1000) (hb : Blk w b 31 #[.int .i64 c.riv.depth.lo, .int .i64 c.riv.depth.hi, .int .i64 c.riv.fall.lo, .int .i64 c.riv.fall.hi, .int .i64 c.riv.days, .slice fa fl fc, .slice la ll lc, .int .i64 c.draws, .slice wa wn wc, .slice ta tn tc]) (hpm : pn ≤ 9223372036854775807) :
  Calls Tryz.prog 98 #[.slice pa pn pc, .func (.func 99) #[] #[.pointer (some ⟨b, 0, none⟩)]] w fun e w' => e = .returned (.bool (!ps.all (goodN c))) ∧ Below w.heap.size w w' := by
 have HC := Lib.hid (indexFunc_any (pc := pc) hpn hr hB hw hwn hb hpm); clear hpn hr hw hb
 go_enter Tryz.func98, Tryz.ntmps98
 go_wp2_with fail; refine HC.out.mono ?_
 rintro e w1 ⟨⟨r, rfl, h⟩, hb⟩; have HR := Lib.hid h; clear h; go_wp2; go_ret
 exact ⟨ret_bool (by rw [← HR.out]), hb⟩
theorem isPlan_any {pa : Option Addr} {pn pc : Nat} {ps : List Int} (hpn : ps.length = pn) (hr : RdG inI 1 w B pa ps) (hB : B ≤ w.heap.size) (hw : c.wg.length = wn) (ht : c.lt.length = tn) (hwn : wn ≤ 1000) (hpm : pn ≤ 9223372036854775807) :
  Calls Tryz.prog 58 #[(.agg #[.int .i64 c.riv.depth.lo, .int .i64 c.riv.depth.hi, .int .i64 c.riv.fall.lo, .int .i64 c.riv.fall.hi, .int .i64 c.riv.days, .slice fa fl fc, .slice la ll lc, .int .i64 c.draws, .slice wa wn wc, .slice ta tn tc]), .slice pa pn pc] w fun e w' => e = .returned (.bool (planB c ps)) ∧ Below w.heap.size w w' := by
 obtain ⟨W, hW⟩ : ∃ W, W = w.alloc (.cells #[.int .i64 c.riv.depth.lo, .int .i64 c.riv.depth.hi, .int .i64 c.riv.fall.lo, .int .i64 c.riv.fall.hi, .int .i64 c.riv.days, .slice fa fl fc, .slice la ll lc, .int .i64 c.draws, .slice wa wn wc, .slice ta tn tc] 31) := ⟨_, rfl⟩; obtain ⟨b2, hb2⟩ : ∃ g, g = w.heap.size := ⟨_, rfl⟩; have HX : Hid (Blk W b2 31 #[.int .i64 c.riv.depth.lo, .int .i64 c.riv.depth.hi, .int .i64 c.riv.fall.lo, .int .i64 c.riv.fall.hi, .int .i64 c.riv.days, .slice fa fl fc, .slice la ll lc, .int .i64 c.draws, .slice wa wn wc, .slice ta tn tc]) := by rw [hW, hb2]; exact Blk.new w 31 _
 have HB0 : Hid (Below w.heap.size w W) := by rw [hW]; exact (Below.refl _ _).alloc (Nat.le_refl _) _
 have HC := Lib.hid (contains_any (pc := pc) hpn (hr.below (HB0.out.mono hB)) (Nat.le_trans hB HB0.out.size) hw hwn HX.out hpm); have hmf := hmf0; have HV : Hid (planB c ps = (decide (pn = tn) && ps.all (goodN c))) := by show _ = _; unfold planB goodN; rw [hpn, ht]
 rw [HV.out]; clear hpn hr hw ht
 by_cases he : pn = tn
 ·subst he; rw [decide_eq_true rfl]
  go_enter Tryz.func58, Tryz.ntmps58
  go_upto_region 1 with (fail); rw [← hW, ← hb2]; clear hW hb2; obtain ⟨q0, q1, q2, q3, q4, q5, q6, q7, q8, q9, ql⟩ := cx31 HX.out; go_wp2_with fail; refine HC.out.mono ?_; rintro e w1 ⟨rfl, hb⟩; go_wp2; go_ret
  exact ⟨ret_bool (by simp), HB0.out.trans (hb.mono HB0.out.size)⟩
 ·rw [decide_eq_false he]; have he2 : ¬ (pn : Int) = tn := by omega
  go_enter Tryz.func58, Tryz.ntmps58
  go_upto_region 1 with (fail); rw [← hW, ← hb2]; clear hW hb2; obtain ⟨q0, q1, q2, q3, q4, q5, q6, q7, q8, q9, ql⟩ := cx31 HX.out; go_wp2; go_ret
  exact ⟨ret_bool (by simp), HB0.out⟩
theorem isQ57 {pa : Option Addr} {pn pc : Nat} {ps : List Int} (hpn : ps.length = pn) (hr : RdG inI 1 w B pa ps) (hB0 : B ≤ w.heap.size) (hw : c.wg.length = wn) (ht : c.lt.length = tn) (hpm : pn ≤ 9223372036854775807) {b2 b3 : Nat} (hb2 : Blk w b2 31 #[.int .i64 c.riv.depth.lo, .int .i64 c.riv.depth.hi, .int .i64 c.riv.fall.lo, .int .i64 c.riv.fall.hi, .int .i64 c.riv.days, .slice fa fl fc, .slice la ll lc, .int .i64 c.draws, .slice wa wn wc, .slice ta tn tc]) (hb3 : Blk w b3 32 #[.slice pa pn pc]) (hv : okC c = true) : IsQ w 57 #[.pointer (some ⟨b2, 0, none⟩), .pointer (some ⟨b3, 0, none⟩)] (planB c ps) := by
 intro wq hB; have hx := hb2.below hB hb2.lt; have hy := hb3.below hB hb3.lt; obtain ⟨q0, q1, q2, q3, q4, q5, q6, q7, q8, q9, ql⟩ := cx31 hx; have p0 := hy.cell 0; have pl := hy.lt; simp at p0; have hwn : wn ≤ 1000 := by have := (okC_parts hv).2.2.1; omega
 have HPR := Lib.hid (hr.below (hB.mono hB0)); have HE : Hid (ps.length = pn ∧ c.wg.length = wn ∧ c.lt.length = tn ∧ B ≤ wq.heap.size) := ⟨hpn, hw, ht, Nat.le_trans hB0 hB.size⟩; clear hB hb2 hb3 hx hy hv hr hpn hw ht hB0
 go_enter Tryz.func57, Tryz.ntmps57
 go_wp2_with fail; refine (isPlan_any (fa := fa) (fl := fl) (fc := fc) (la := la) (ll := ll) (lc := lc) (wa := wa) (wc := wc) (ta := ta) (tc := tc) (pc := pc) HE.out.1 HPR.out HE.out.2.2.2 HE.out.2.1 HE.out.2.2.1 hwn hpm).mono ?_
 rintro e w' ⟨rfl, hb⟩; go_wp2; go_ret
 exact ⟨rfl, hb⟩
theorem isQ65 {pa : Option Addr} {pn pc : Nat} {ps : List Int} (hpn : ps.length = pn) (hr : RdG inI 1 w B pa ps) (hB0 : B ≤ w.heap.size) (hw : c.wg.length = wn) (ht : c.lt.length = tn) (hpm : pn ≤ 9223372036854775807) {b2 b3 : Nat} (hb2 : Blk w b2 31 #[.int .i64 c.riv.depth.lo, .int .i64 c.riv.depth.hi, .int .i64 c.riv.fall.lo, .int .i64 c.riv.fall.hi, .int .i64 c.riv.days, .slice fa fl fc, .slice la ll lc, .int .i64 c.draws, .slice wa wn wc, .slice ta tn tc]) (hb3 : Blk w b3 32 #[.slice pa pn pc]) (hv : okC c = true) : IsQ w 65 #[.pointer (some ⟨b2, 0, none⟩), .pointer (some ⟨b3, 0, none⟩)] (planB c ps) := by
 intro wq hB; have hx := hb2.below hB hb2.lt; have hy := hb3.below hB hb3.lt; obtain ⟨q0, q1, q2, q3, q4, q5, q6, q7, q8, q9, ql⟩ := cx31 hx; have p0 := hy.cell 0; have pl := hy.lt; simp at p0; have hwn : wn ≤ 1000 := by have := (okC_parts hv).2.2.1; omega
 have HPR := Lib.hid (hr.below (hB.mono hB0)); have HE : Hid (ps.length = pn ∧ c.wg.length = wn ∧ c.lt.length = tn ∧ B ≤ wq.heap.size) := ⟨hpn, hw, ht, Nat.le_trans hB0 hB.size⟩; clear hB hb2 hb3 hx hy hv hr hpn hw ht hB0
 go_enter Tryz.func65, Tryz.ntmps65
 go_wp2_with fail; refine (isPlan_any (fa := fa) (fl := fl) (fc := fc) (la := la) (ll := ll) (lc := lc) (wa := wa) (wc := wc) (ta := ta) (tc := tc) (pc := pc) HE.out.1 HPR.out HE.out.2.2.2 HE.out.2.1 HE.out.2.2.1 hwn hpm).mono ?_
 rintro e w' ⟨rfl, hb⟩; go_wp2; go_ret
 exact ⟨rfl, hb⟩
end
def inTimeE (c : ICart) (n : Int) : Nat := openE c (isWagB c n)
def inTimeV (c : ICart) (n : Int) : Nat := if inTimeE c n = 0 then (match c.wg[n.toNat]? with | some w => c.tm w | none => 0) else 0
def checkE (c : ICart) (ps : List Int) : Nat := if openE c (planB c ps) = 0 then (if (checkV c ps).2 = 0 then 4 else 0) else openE c (planB c ps)
def checkW (c : ICart) (ps : List Int) : Nat × Nat := if checkE c ps = 0 then checkV c ps else (0, 0)
section
variable {fa la wa ta : Option Addr} {fl fc ll lc wn wc tn tc : Nat} {c : ICart}
variable {w w' : World} {B : Nat}
theorem YdIn.of_open {w0 w2 : World} {d B : Nat} (hP : CtIn w0 B fa fl la ll wa wn ta tn c) (hb : Below B w0 w2) (hs : B ≤ w0.heap.size) (hd : B ≤ d) (hk : Blk w2 d 123 #[.int .i64 c.riv.depth.lo, .int .i64 c.riv.depth.hi, .int .i64 c.riv.fall.lo, .int .i64 c.riv.fall.hi, .int .i64 c.riv.days, .slice fa fl fc, .slice la ll lc, .int .i64 c.draws, .slice wa wn wc, .slice ta tn tc, .int .i64 (surelyP c.riv.nat c.draws.toNat : Nat), .int .i64 (perhapsP c.riv.nat c.draws.toNat : Nat)]) (hv : okC c = true) : YdIn w2 B d fa fl fc la ll lc wa wn wc ta tn tc c :=
 { blk := hk, hwg := hP.hwg.below hb, hlt := hP.hlt.below hb, ewn := hP.ewn, etn := hP.etn, ok := hv, hB := Nat.le_trans hs hb.size, hBd := hd }
theorem PInTime_bad (n : Int) (hP : CtIn w w.heap.size fa fl la ll wa wn ta tn c) (hE : inTimeE c n ≠ 0) : Calls Tryz.prog 16 #[(.agg #[.int .i64 c.riv.depth.lo, .int .i64 c.riv.depth.hi, .int .i64 c.riv.fall.lo, .int .i64 c.riv.fall.hi, .int .i64 c.riv.days, .slice fa fl fc, .slice la ll lc, .int .i64 c.draws, .slice wa wn wc, .slice ta tn tc]), .int .i64 n] w fun e w' => e = .returned (.tuple #[.int .i64 (inTimeV c n : Nat), .int .i64 (inTimeE c n : Nat)]) ∧ Below w.heap.size w w' := by
 obtain ⟨EE, hEE⟩ : ∃ EE : Nat, EE = inTimeE c n := ⟨_, rfl⟩; have HV : Hid (inTimeV c n = 0) := by show _ = _; unfold inTimeV; rw [if_neg hE]
 have HEE : Hid (EE = openE c (isWagB c n)) := hEE; have HNE : Hid (EE ≠ 0) := by rw [hEE]; exact hE
 have HP := Lib.hid hP; have EG50 := Lib.hid (enters_of Tryz.func50 (by kernel_rfl) rfl)
 have EG52 := Lib.hid (enters_of Tryz.func52 (by kernel_rfl) rfl)
 rw [HV.out, ← hEE]; clear hP hE hEE; refine (callsIn_wide (n := 6)).1 (callsIn_of_wp_marks Tryz.func16 rfl trivial ?_ rfl); simp only [Tryz.ntmps16, List.size_toArray, List.length_cons, List.length_nil, Nat.reduceAdd, Nat.reduceSub, Array.replicate_succ, Array.replicate_zero, List.push_toArray, List.append_toArray, List.nil_append, List.cons_append]; refine wpIn_wide.2 ?_; have hmf := hmf0; go_upto_region 2 with (fail); obtain ⟨W, hW⟩ : ∃ W, W = ((w.alloc (.cells #[.int .i64 c.riv.depth.lo, .int .i64 c.riv.depth.hi, .int .i64 c.riv.fall.lo, .int .i64 c.riv.fall.hi, .int .i64 c.riv.days, .slice fa fl fc, .slice la ll lc, .int .i64 c.draws, .slice wa wn wc, .slice ta tn tc] 31)).alloc (.cells #[.int .i64 n] 3)).alloc (.cells #[.int .i64 0] 35) := ⟨_, rfl⟩; obtain ⟨B2, hB2⟩ : ∃ B2, B2 = w.heap.size := ⟨_, rfl⟩; obtain ⟨B3, hB3⟩ : ∃ B3, B3 = w.heap.size + 1 := ⟨_, rfl⟩; obtain ⟨B5, hB5⟩ : ∃ B5, B5 = w.heap.size + 1 + 1 := ⟨_, rfl⟩; have HB0 : Hid (Below w.heap.size w W) := by rw [hW]; exact (((Below.refl _ _).alloc (Nat.le_refl _) _).alloc (by simp) _).alloc (by simp; omega) _
 have HXB : Hid (Blk W B2 31 #[.int .i64 c.riv.depth.lo, .int .i64 c.riv.depth.hi, .int .i64 c.riv.fall.lo, .int .i64 c.riv.fall.hi, .int .i64 c.riv.days, .slice fa fl fc, .slice la ll lc, .int .i64 c.draws, .slice wa wn wc, .slice ta tn tc]) := by rw [hW, hB2]; exact ((Blk.new w 31 _).alloc _).alloc _
 have HX3 : Hid (Blk W B3 3 #[.int .i64 n]) := by rw [hW, hB3]; exact (Blk.new_ (by simp) 3 _).alloc _
 have HX5 : Hid (Blk W B5 35 #[.int .i64 0]) := by rw [hW, hB5]; exact Blk.new_ (by simp) 35 _
 have HE : Hid (w.heap.size ≤ B5 ∧ w.heap.size ≤ W.heap.size ∧ B5 < W.heap.size) := ⟨by omega, HB0.out.size, HX5.out.lt⟩
 rw [← hW, ← hB5, ← hB3, ← hB2]; clear hW hB2 hB3 hB5
 refine HavG.wp_region_stg (fun wv => Below W.heap.size W wv) [(0,false),(1,false),(3,false),(2,true),(4,true)] [5, 6] (fun ch wp => ch = [refC EE] ∧ Below W.heap.size W wp) (by kernel_rfl) (by kernel_rfl) ?hQ (Below.drew (Below.refl _ _)) ?_
 case hQ =>
  rintro ch a' w' hA ⟨rfl, hb⟩; show LeavesInM Fence.wide 6 Tryz.prog Tryz.f16 a'.tmps _ a'.defers (.panicking [refC _]) w'; rw [hA.1]; obtain ⟨e1, e2, e3⟩ := HE.out
  refine api_panicC (ds := []) (B := W.heap.size) isAnsC50 EG50.out (Marks.nil _ _) (HX5.out.below hb HX5.out.lt) (fun w2 hk2 hfar hbel => ?_)
  have g0 := hk2.cell 0; have s4 := hA.slot 4 (by kernel_rfl)
  have s5 := hA.slot 5 (by kernel_rfl)
  simp at s4 s5 g0; refine ⟨.tuple #[.int .i64 (0 : Nat), .int .i64 EE], by simp [results, Tryz.results16, go_sem, s4, s5, g0], rfl, ?_⟩
  exact HB0.out.trans ((hb.mono e2).trans ((hbel w.heap.size e2 e1).mono (Nat.le_refl _)))
 (apply HavG.stg_same (by exact ho rfl) (by kernel_rfl); (focus (intro wv hI; have hx := HXB.out.below hI HXB.out.lt; have q0 := hx.cell 0; have q1 := hx.cell 1; have q2 := hx.cell 2; have q3 := hx.cell 3; have q4 := hx.cell 4; have q5 := hx.cell 5; have q6 := hx.cell 6; have q7 := hx.cell 7; have q8 := hx.cell 8; have q9 := hx.cell 9; have ql := hx.lt; (try go_simp); try rfl; done)); simp only [Act.put, List.setIfInBounds_toArray, List.set_cons_succ, List.set_cons_zero])
 (apply HavG.stg_same (by exact ho rfl) (by kernel_rfl); (focus (intro wv hI; skip; (try go_simp); try rfl; done)); simp only [Act.put, List.setIfInBounds_toArray, List.set_cons_succ, List.set_cons_zero])
 (apply HavG.stg_same (by exact ho rfl) (by kernel_rfl); (focus (intro wv hI; have hx := HX3.out.below hI HX3.out.lt; have q0 := hx.cell 0; have ql := hx.lt; (try go_simp); try rfl; done)); simp only [Act.put, List.setIfInBounds_toArray, List.set_cons_succ, List.set_cons_zero])
 (apply HavG.stg_call (by exact ho rfl) (by kernel_rfl); (focus (go_simp; try exact ⟨rfl, rfl⟩; done)))
 refine (copen_any (fc := fc) (lc := lc) (wc := wc) (tc := tc) (b := isWagB c n) 52 #[.pointer (some ⟨B2, 0, none⟩), .pointer (some ⟨B3, 0, none⟩)] EG52.out (by exact fun hv => isQ52 HP.out.ewn HXB.out.drew HX3.out.drew hv) (by exact HP.out.grow (Below.drew HB0.out))).mono ?_
 rintro e w1 ⟨hb, (⟨h1, rfl⟩ | ⟨h1, _⟩)⟩
 ·rw [← HEE.out]; exact .inr ⟨_, rfl, rfl, (Below.drew (Below.refl _ _)).trans hb⟩
 ·exact absurd (HEE.out.trans h1) HNE.out
theorem PInTime_ok (n : Int) (hP : CtIn w w.heap.size fa fl la ll wa wn ta tn c) (hE : inTimeE c n = 0) : Calls Tryz.prog 16 #[(.agg #[.int .i64 c.riv.depth.lo, .int .i64 c.riv.depth.hi, .int .i64 c.riv.fall.lo, .int .i64 c.riv.fall.hi, .int .i64 c.riv.days, .slice fa fl fc, .slice la ll lc, .int .i64 c.draws, .slice wa wn wc, .slice ta tn tc]), .int .i64 n] w fun e w' => e = .returned (.tuple #[.int .i64 (inTimeV c n : Nat), .int .i64 (inTimeE c n : Nat)]) ∧ Below w.heap.size w w' := by
 obtain ⟨hv, hi, ht⟩ := openE_zero hE; obtain ⟨k, hk⟩ : ∃ k : Nat, n = k := ⟨n.toNat, by have := inB_iff.1 hi; omega⟩
 obtain ⟨wg, hw⟩ : ∃ wg, c.wg[k]? = some wg := ⟨c.wg[k]'(by have := inB_iff.1 hi; omega), by simp⟩
 obtain ⟨T, hT⟩ : ∃ T : Nat, T = c.tm wg := ⟨_, rfl⟩; have HV : Hid (inTimeV c n = T) := by show _ = _; unfold inTimeV; rw [if_pos hE, hk, Int.toNat_natCast, hw, hT]
 have HEE := Lib.hid hE; have HTT := Lib.hid hT; have HW := Lib.hid hw; have HOK := Lib.hid hv; have HKN := Lib.hid hk; have HP := Lib.hid hP; have EG50 := Lib.hid (enters_of Tryz.func50 (by kernel_rfl) rfl)
 have EG52 := Lib.hid (enters_of Tryz.func52 (by kernel_rfl) rfl)
 rw [HV.out, hE]; clear hP hE hv hi ht hw hT hk; refine (callsIn_wide (n := 6)).1 (callsIn_of_wp_marks Tryz.func16 rfl trivial ?_ rfl); simp only [Tryz.ntmps16, List.size_toArray, List.length_cons, List.length_nil, Nat.reduceAdd, Nat.reduceSub, Array.replicate_succ, Array.replicate_zero, List.push_toArray, List.append_toArray, List.nil_append, List.cons_append]; refine wpIn_wide.2 ?_; have hmf := hmf0; go_upto_region 2 with (fail); obtain ⟨W, hW⟩ : ∃ W, W = ((w.alloc (.cells #[.int .i64 c.riv.depth.lo, .int .i64 c.riv.depth.hi, .int .i64 c.riv.fall.lo, .int .i64 c.riv.fall.hi, .int .i64 c.riv.days, .slice fa fl fc, .slice la ll lc, .int .i64 c.draws, .slice wa wn wc, .slice ta tn tc] 31)).alloc (.cells #[.int .i64 n] 3)).alloc (.cells #[.int .i64 0] 35) := ⟨_, rfl⟩; obtain ⟨B2, hB2⟩ : ∃ B2, B2 = w.heap.size := ⟨_, rfl⟩; obtain ⟨B3, hB3⟩ : ∃ B3, B3 = w.heap.size + 1 := ⟨_, rfl⟩; obtain ⟨B5, hB5⟩ : ∃ B5, B5 = w.heap.size + 1 + 1 := ⟨_, rfl⟩; have HB0 : Hid (Below w.heap.size w W) := by rw [hW]; exact (((Below.refl _ _).alloc (Nat.le_refl _) _).alloc (by simp) _).alloc (by simp; omega) _
 have HXB : Hid (Blk W B2 31 #[.int .i64 c.riv.depth.lo, .int .i64 c.riv.depth.hi, .int .i64 c.riv.fall.lo, .int .i64 c.riv.fall.hi, .int .i64 c.riv.days, .slice fa fl fc, .slice la ll lc, .int .i64 c.draws, .slice wa wn wc, .slice ta tn tc]) := by rw [hW, hB2]; exact ((Blk.new w 31 _).alloc _).alloc _
 have HX3 : Hid (Blk W B3 3 #[.int .i64 n]) := by rw [hW, hB3]; exact (Blk.new_ (by simp) 3 _).alloc _
 have HX5 : Hid (Blk W B5 35 #[.int .i64 0]) := by rw [hW, hB5]; exact Blk.new_ (by simp) 35 _
 have HE : Hid (w.heap.size ≤ B5 ∧ w.heap.size ≤ W.heap.size ∧ B5 < W.heap.size) := ⟨by omega, HB0.out.size, HX5.out.lt⟩
 rw [← hW, ← hB5, ← hB3, ← hB2]; clear hW hB2 hB3 hB5
 refine HavG.wp_region_stg (fun wv => Below W.heap.size W wv) [(0,false),(1,false),(3,false),(2,true),(4,true)] [5, 6] (fun _ _ => False) (by kernel_rfl) (by kernel_rfl) (fun _ _ _ _ h => h.elim) (Below.drew (Below.refl _ _)) ?_
 (apply HavG.stg_same (by exact ho rfl) (by kernel_rfl); (focus (intro wv hI; have hx := HXB.out.below hI HXB.out.lt; have q0 := hx.cell 0; have q1 := hx.cell 1; have q2 := hx.cell 2; have q3 := hx.cell 3; have q4 := hx.cell 4; have q5 := hx.cell 5; have q6 := hx.cell 6; have q7 := hx.cell 7; have q8 := hx.cell 8; have q9 := hx.cell 9; have ql := hx.lt; (try go_simp); try rfl; done)); simp only [Act.put, List.setIfInBounds_toArray, List.set_cons_succ, List.set_cons_zero])
 (apply HavG.stg_same (by exact ho rfl) (by kernel_rfl); (focus (intro wv hI; skip; (try go_simp); try rfl; done)); simp only [Act.put, List.setIfInBounds_toArray, List.set_cons_succ, List.set_cons_zero])
 (apply HavG.stg_same (by exact ho rfl) (by kernel_rfl); (focus (intro wv hI; have hx := HX3.out.below hI HX3.out.lt; have q0 := hx.cell 0; have ql := hx.lt; (try go_simp); try rfl; done)); simp only [Act.put, List.setIfInBounds_toArray, List.set_cons_succ, List.set_cons_zero])
 (apply HavG.stg_call (by exact ho rfl) (by kernel_rfl); (focus (go_simp; try exact ⟨rfl, rfl⟩; done)))
 refine (copen_any (fc := fc) (lc := lc) (wc := wc) (tc := tc) (b := isWagB c n) 52 #[.pointer (some ⟨B2, 0, none⟩), .pointer (some ⟨B3, 0, none⟩)] EG52.out (by exact fun hv => isQ52 HP.out.ewn HXB.out.drew HX3.out.drew hv) (by exact HP.out.grow (Below.drew HB0.out))).mono ?_
 rintro e w1 ⟨hb, (⟨h1, _⟩ | ⟨h1, d, rfl, hd, hk⟩)⟩
 ·exact absurd HEE.out h1
 have hb1 : Below W.heap.size W w1 := (Below.drew (Below.refl _ _)).trans hb; have hyd := YdIn.of_open (w2 := w1) (HP.out.grow HB0.out) hb1 (Nat.le_refl _) hd hk HOK.out; refine .inl ⟨_, rfl, hb1, ?_⟩; simp only [Act.put, List.setIfInBounds_toArray, List.set_cons_succ, List.set_cons_zero]; (apply HavG.stg_call (by exact ho rfl) (by kernel_rfl); (focus (go_simp; try exact ⟨rfl, rfl⟩; done)))
 rw [HKN.out]; refine (inTime_any (fa := fa) (fl := fl) (fc := fc) (la := la) (ll := ll) (lc := lc) (wa := wa) (wn := wn) (wc := wc) (ta := ta) (tn := tn) (tc := tc) k wg HW.out hyd).mono ?_; rw [← HTT.out]; rintro e w3 ⟨rfl, hb2⟩; have hb3 : Below W.heap.size W w3 := hb1.trans (hb2.mono hb1.size); refine .inl ⟨_, rfl, hb3, ?_⟩; simp only [Act.put, List.setIfInBounds_toArray, List.set_cons_succ, List.set_cons_zero]; simp only [HavG.wpStg, List.filterMap]; have HB3 := Lib.hid hb3; have HY5 : Hid (Blk w3 B5 35 #[.int .i64 0]) := HX5.out.below hb3 HX5.out.lt; have c2 : w3.cell? ⟨B5, 0, none⟩ = some (.int .i64 0) := HY5.out.cell 0; have f2 := HY5.out.frozen 0; have l5 := HY5.out.lt; clear hb hk hd hb1 hb2 hb3 hyd; go_wp2; obtain ⟨W9, hW9⟩ : ∃ W9, W9 = w3.setCell ⟨B5, 0, none⟩ (.int .i64 0) := ⟨_, rfl⟩; rw [← hW9]; have HT5 : Blk W9 B5 35 #[.int .i64 0] := by rw [hW9]; exact HY5.out.set_ 0 _
 obtain ⟨e1, e2, _⟩ := HE.out; have hB9 : Below w.heap.size w W9 := by rw [hW9]; exact (HB0.out.trans (HB3.out.mono e2)).setCell (p := ⟨B5, 0, none⟩) e1 _
 refine api_retC (ds := []) (B := W.heap.size) isAnsC50 EG50.out (Marks.nil _ _) (fun w4 hk hbel => ?_)
 have g0 := (hk _ _ _ HT5).cell 0; simp at g0; refine ⟨.tuple #[.int .i64 T, .int .i64 0], by simp [results, Tryz.results16, go_sem, g0], rfl, ?_⟩
 exact hB9.trans (hbel w.heap.size e2)
theorem PInTime_any (n : Int) (hP : CtIn w w.heap.size fa fl la ll wa wn ta tn c) : Calls Tryz.prog 16 #[(.agg #[.int .i64 c.riv.depth.lo, .int .i64 c.riv.depth.hi, .int .i64 c.riv.fall.lo, .int .i64 c.riv.fall.hi, .int .i64 c.riv.days, .slice fa fl fc, .slice la ll lc, .int .i64 c.draws, .slice wa wn wc, .slice ta tn tc]), .int .i64 n] w fun e w' => e = .returned (.tuple #[.int .i64 (inTimeV c n : Nat), .int .i64 (inTimeE c n : Nat)]) ∧ Below w.heap.size w w' := by
 by_cases h : inTimeE c n = 0
 ·exact PInTime_ok n hP h
 ·exact PInTime_bad n hP h
end
section
variable {fa la wa ta : Option Addr} {fl fc ll lc wn wc tn tc : Nat} {c : ICart}
variable {w w' : World} {pa : Option Addr} {pn pc : Nat} {ps : List Int}
structure PlIn (w : World) (B : Nat) (pa : Option Addr) (pn : Nat) (ps : List Int) : Prop where
 len : ps.length = pn
 row : RdG inI 1 w B pa ps
 max : pn ≤ 9223372036854775807
theorem PlIn.grow (h : PlIn w w.heap.size pa pn ps) (hb : Below w.heap.size w w') : PlIn w' w'.heap.size pa pn ps := { h with row := h.row.grow hb }
theorem PCheck_bad (hP : CtIn w w.heap.size fa fl la ll wa wn ta tn c) (hL : PlIn w w.heap.size pa pn ps) (hE : openE c (planB c ps) ≠ 0) : Calls Tryz.prog 18 #[(.agg #[.int .i64 c.riv.depth.lo, .int .i64 c.riv.depth.hi, .int .i64 c.riv.fall.lo, .int .i64 c.riv.fall.hi, .int .i64 c.riv.days, .slice fa fl fc, .slice la ll lc, .int .i64 c.draws, .slice wa wn wc, .slice ta tn tc]), .slice pa pn pc] w fun e w' => e = .returned (.tuple #[.int .i64 ((checkW c ps).1 : Nat), .int .i64 ((checkW c ps).2 : Nat), .int .i64 (checkE c ps : Nat)]) ∧ Below w.heap.size w w' := by
 obtain ⟨EE, hEE⟩ : ∃ EE : Nat, EE = openE c (planB c ps) := ⟨_, rfl⟩; have h1 : checkE c ps = EE := by unfold checkE; rw [if_neg hE, hEE]
 have HV : Hid (checkW c ps = (0, 0)) := by show _ = _; unfold checkW; rw [if_neg (by rw [h1, hEE]; exact hE)]
 have HEE : Hid (EE = openE c (planB c ps)) := hEE; have HNE : Hid (EE ≠ 0) := by rw [hEE]; exact hE
 have HP := Lib.hid hP; have HPL := Lib.hid hL; have EG56 := Lib.hid (enters_of Tryz.func56 (by kernel_rfl) rfl)
 have EG57 := Lib.hid (enters_of Tryz.func57 (by kernel_rfl) rfl)
 rw [HV.out, h1]; clear hP hL hE hEE h1; refine (callsIn_wide (n := 6)).1 (callsIn_of_wp_marks Tryz.func18 rfl trivial ?_ rfl); simp only [Tryz.ntmps18, List.size_toArray, List.length_cons, List.length_nil, Nat.reduceAdd, Nat.reduceSub, Array.replicate_succ, Array.replicate_zero, List.push_toArray, List.append_toArray, List.nil_append, List.cons_append]; refine wpIn_wide.2 ?_; have hmf := hmf0; go_upto_region 2 with (fail); obtain ⟨W, hW⟩ : ∃ W, W = ((w.alloc (.cells #[.int .i64 c.riv.depth.lo, .int .i64 c.riv.depth.hi, .int .i64 c.riv.fall.lo, .int .i64 c.riv.fall.hi, .int .i64 c.riv.days, .slice fa fl fc, .slice la ll lc, .int .i64 c.draws, .slice wa wn wc, .slice ta tn tc] 31)).alloc (.cells #[.slice pa pn pc] 32)).alloc (.cells #[.int .i64 0] 35) := ⟨_, rfl⟩; obtain ⟨B2, hB2⟩ : ∃ B2, B2 = w.heap.size := ⟨_, rfl⟩; obtain ⟨B3, hB3⟩ : ∃ B3, B3 = w.heap.size + 1 := ⟨_, rfl⟩; obtain ⟨B5, hB5⟩ : ∃ B5, B5 = w.heap.size + 1 + 1 := ⟨_, rfl⟩; have HB0 : Hid (Below w.heap.size w W) := by rw [hW]; exact (((Below.refl _ _).alloc (Nat.le_refl _) _).alloc (by simp) _).alloc (by simp; omega) _
 have HXB : Hid (Blk W B2 31 #[.int .i64 c.riv.depth.lo, .int .i64 c.riv.depth.hi, .int .i64 c.riv.fall.lo, .int .i64 c.riv.fall.hi, .int .i64 c.riv.days, .slice fa fl fc, .slice la ll lc, .int .i64 c.draws, .slice wa wn wc, .slice ta tn tc]) := by rw [hW, hB2]; exact ((Blk.new w 31 _).alloc _).alloc _
 have HX3 : Hid (Blk W B3 32 #[.slice pa pn pc]) := by rw [hW, hB3]; exact (Blk.new_ (by simp) 32 _).alloc _
 have HX5 : Hid (Blk W B5 35 #[.int .i64 0]) := by rw [hW, hB5]; exact Blk.new_ (by simp) 35 _
 have HE : Hid (w.heap.size ≤ B5 ∧ w.heap.size ≤ W.heap.size ∧ B5 < W.heap.size) := ⟨by omega, HB0.out.size, HX5.out.lt⟩
 rw [← hW, ← hB5, ← hB3, ← hB2]; clear hW hB2 hB3 hB5
 refine HavG.wp_region_stg (fun wv => Below W.heap.size W wv) [(0,false),(1,false),(3,false),(2,true),(4,true),(5,false),(6,false),(7,false),(8,false)] [9] (fun ch wp => ch = [refC EE] ∧ Below W.heap.size W wp) (by kernel_rfl) (by kernel_rfl) ?hQ (Below.drew (Below.refl _ _)) ?_
 case hQ =>
  rintro ch a' w' hA ⟨rfl, hb⟩; show LeavesInM Fence.wide 6 Tryz.prog Tryz.f18 a'.tmps _ a'.defers (.panicking [refC _]) w'; rw [hA.1]; obtain ⟨e1, e2, e3⟩ := HE.out
  refine api_panicC (ds := []) (B := W.heap.size) isAnsC56 EG56.out (Marks.nil _ _) (HX5.out.below hb HX5.out.lt) (fun w2 hk2 hfar hbel => ?_)
  have g0 := hk2.cell 0; have s4 := hA.slot 4 (by kernel_rfl)
  have s5 := hA.slot 5 (by kernel_rfl)
  have s6 := hA.slot 6 (by kernel_rfl)
  simp at s4 s5 s6 g0; refine ⟨.tuple #[.int .i64 (0 : Nat), .int .i64 (0 : Nat), .int .i64 EE], by simp [results, Tryz.results18, go_sem, s4, s5, s6, g0], rfl, ?_⟩
  exact HB0.out.trans ((hb.mono e2).trans ((hbel w.heap.size e2 e1).mono (Nat.le_refl _)))
 (apply HavG.stg_same (by exact ho rfl) (by kernel_rfl); (focus (intro wv hI; have hx := HXB.out.below hI HXB.out.lt; have q0 := hx.cell 0; have q1 := hx.cell 1; have q2 := hx.cell 2; have q3 := hx.cell 3; have q4 := hx.cell 4; have q5 := hx.cell 5; have q6 := hx.cell 6; have q7 := hx.cell 7; have q8 := hx.cell 8; have q9 := hx.cell 9; have ql := hx.lt; (try go_simp); try rfl; done)); simp only [Act.put, List.setIfInBounds_toArray, List.set_cons_succ, List.set_cons_zero])
 (apply HavG.stg_same (by exact ho rfl) (by kernel_rfl); (focus (intro wv hI; skip; (try go_simp); try rfl; done)); simp only [Act.put, List.setIfInBounds_toArray, List.set_cons_succ, List.set_cons_zero])
 (apply HavG.stg_same (by exact ho rfl) (by kernel_rfl); (focus (intro wv hI; have hx := HX3.out.below hI HX3.out.lt; have q0 := hx.cell 0; have ql := hx.lt; (try go_simp); try rfl; done)); simp only [Act.put, List.setIfInBounds_toArray, List.set_cons_succ, List.set_cons_zero])
 (apply HavG.stg_call (by exact ho rfl) (by kernel_rfl); (focus (go_simp; try exact ⟨rfl, rfl⟩; done)))
 refine (copen_any (fc := fc) (lc := lc) (wc := wc) (tc := tc) (b := planB c ps) 57 #[.pointer (some ⟨B2, 0, none⟩), .pointer (some ⟨B3, 0, none⟩)] EG57.out (by exact fun hv => isQ57 (B := W.heap.size) (w := W.drew) HPL.out.len ((HPL.out.grow HB0.out).row.below (Below.drew (Below.refl _ _))) (Nat.le_refl _) HP.out.ewn HP.out.etn HPL.out.max HXB.out.drew HX3.out.drew hv) (by exact HP.out.grow (Below.drew HB0.out))).mono ?_
 rintro e w1 ⟨hb, (⟨h1, rfl⟩ | ⟨h1, _⟩)⟩
 ·rw [← HEE.out]; exact .inr ⟨_, rfl, rfl, (Below.drew (Below.refl _ _)).trans hb⟩
 ·exact absurd (HEE.out.trans h1) HNE.out
theorem PCheck_ok (hP : CtIn w w.heap.size fa fl la ll wa wn ta tn c) (hL : PlIn w w.heap.size pa pn ps) (hE : openE c (planB c ps) = 0) : Calls Tryz.prog 18 #[(.agg #[.int .i64 c.riv.depth.lo, .int .i64 c.riv.depth.hi, .int .i64 c.riv.fall.lo, .int .i64 c.riv.fall.hi, .int .i64 c.riv.days, .slice fa fl fc, .slice la ll lc, .int .i64 c.draws, .slice wa wn wc, .slice ta tn tc]), .slice pa pn pc] w fun e w' => e = .returned (.tuple #[.int .i64 ((checkW c ps).1 : Nat), .int .i64 ((checkW c ps).2 : Nat), .int .i64 (checkE c ps : Nat)]) ∧ Below w.heap.size w w' := by
 obtain ⟨hv, hi, ht⟩ := openE_zero hE; obtain ⟨X, hX⟩ : ∃ X, X = checkV c ps := ⟨_, rfl⟩
 obtain ⟨r1, r2, ee, hR, hR2⟩ : ∃ r1 r2 ee : Nat, ((checkW c ps).1 = r1 ∧ (checkW c ps).2 = r2 ∧ checkE c ps = ee) ∧ (X.2 = 0 → r1 = 0 ∧ r2 = 0 ∧ ee = 4) ∧ (X.2 ≠ 0 → r1 = X.1 ∧ r2 = X.2 ∧ ee = 0) := by
  have h1 : checkE c ps = (if X.2 = 0 then 4 else 0) := by unfold checkE; rw [if_pos hE, hX]
  refine ⟨_, _, _, ⟨rfl, rfl, rfl⟩, fun h => ?_, fun h => ?_⟩
  ·rw [if_pos h] at h1; unfold checkW; rw [h1, if_neg (by decide)]
   exact ⟨rfl, rfl, rfl⟩
  ·rw [if_neg h] at h1; unfold checkW; rw [h1, if_pos rfl, hX]; exact ⟨rfl, rfl, rfl⟩
 have HRX := Lib.hid hR2; have HEE := Lib.hid hE; have HXX := Lib.hid hX; have HOK := Lib.hid (And.intro hv hi); have HP := Lib.hid hP; have HPL := Lib.hid hL; have EG56 := Lib.hid (enters_of Tryz.func56 (by kernel_rfl) rfl)
 have EG57 := Lib.hid (enters_of Tryz.func57 (by kernel_rfl) rfl)
 rw [hR.1, hR.2.1, hR.2.2]; clear hP hL hE hv hi ht hX hR hR2; refine (callsIn_wide (n := 6)).1 (callsIn_of_wp_marks Tryz.func18 rfl trivial ?_ rfl); simp only [Tryz.ntmps18, List.size_toArray, List.length_cons, List.length_nil, Nat.reduceAdd, Nat.reduceSub, Array.replicate_succ, Array.replicate_zero, List.push_toArray, List.append_toArray, List.nil_append, List.cons_append]; refine wpIn_wide.2 ?_; have hmf := hmf0; go_upto_region 2 with (fail); obtain ⟨W, hW⟩ : ∃ W, W = ((w.alloc (.cells #[.int .i64 c.riv.depth.lo, .int .i64 c.riv.depth.hi, .int .i64 c.riv.fall.lo, .int .i64 c.riv.fall.hi, .int .i64 c.riv.days, .slice fa fl fc, .slice la ll lc, .int .i64 c.draws, .slice wa wn wc, .slice ta tn tc] 31)).alloc (.cells #[.slice pa pn pc] 32)).alloc (.cells #[.int .i64 0] 35) := ⟨_, rfl⟩; obtain ⟨B2, hB2⟩ : ∃ B2, B2 = w.heap.size := ⟨_, rfl⟩; obtain ⟨B3, hB3⟩ : ∃ B3, B3 = w.heap.size + 1 := ⟨_, rfl⟩; obtain ⟨B5, hB5⟩ : ∃ B5, B5 = w.heap.size + 1 + 1 := ⟨_, rfl⟩; have HB0 : Hid (Below w.heap.size w W) := by rw [hW]; exact (((Below.refl _ _).alloc (Nat.le_refl _) _).alloc (by simp) _).alloc (by simp; omega) _
 have HXB : Hid (Blk W B2 31 #[.int .i64 c.riv.depth.lo, .int .i64 c.riv.depth.hi, .int .i64 c.riv.fall.lo, .int .i64 c.riv.fall.hi, .int .i64 c.riv.days, .slice fa fl fc, .slice la ll lc, .int .i64 c.draws, .slice wa wn wc, .slice ta tn tc]) := by rw [hW, hB2]; exact ((Blk.new w 31 _).alloc _).alloc _
 have HX3 : Hid (Blk W B3 32 #[.slice pa pn pc]) := by rw [hW, hB3]; exact (Blk.new_ (by simp) 32 _).alloc _
 have HX5 : Hid (Blk W B5 35 #[.int .i64 0]) := by rw [hW, hB5]; exact Blk.new_ (by simp) 35 _
 have HE : Hid (w.heap.size ≤ B5 ∧ w.heap.size ≤ W.heap.size ∧ B5 < W.heap.size) := ⟨by omega, HB0.out.size, HX5.out.lt⟩
 rw [← hW, ← hB5, ← hB3, ← hB2]; clear hW hB2 hB3 hB5
 refine HavG.wp_region_stg (fun wv => Below W.heap.size W wv) [(0,false),(1,false),(3,false),(2,true),(4,true),(5,false),(6,false),(7,false),(8,false)] [9] (fun _ _ => False) (by kernel_rfl) (by kernel_rfl) (fun _ _ _ _ h => h.elim) (Below.drew (Below.refl _ _)) ?_
 (apply HavG.stg_same (by exact ho rfl) (by kernel_rfl); (focus (intro wv hI; have hx := HXB.out.below hI HXB.out.lt; have q0 := hx.cell 0; have q1 := hx.cell 1; have q2 := hx.cell 2; have q3 := hx.cell 3; have q4 := hx.cell 4; have q5 := hx.cell 5; have q6 := hx.cell 6; have q7 := hx.cell 7; have q8 := hx.cell 8; have q9 := hx.cell 9; have ql := hx.lt; (try go_simp); try rfl; done)); simp only [Act.put, List.setIfInBounds_toArray, List.set_cons_succ, List.set_cons_zero])
 (apply HavG.stg_same (by exact ho rfl) (by kernel_rfl); (focus (intro wv hI; skip; (try go_simp); try rfl; done)); simp only [Act.put, List.setIfInBounds_toArray, List.set_cons_succ, List.set_cons_zero])
 (apply HavG.stg_same (by exact ho rfl) (by kernel_rfl); (focus (intro wv hI; have hx := HX3.out.below hI HX3.out.lt; have q0 := hx.cell 0; have ql := hx.lt; (try go_simp); try rfl; done)); simp only [Act.put, List.setIfInBounds_toArray, List.set_cons_succ, List.set_cons_zero])
 (apply HavG.stg_call (by exact ho rfl) (by kernel_rfl); (focus (go_simp; try exact ⟨rfl, rfl⟩; done)))
 refine (copen_any (fc := fc) (lc := lc) (wc := wc) (tc := tc) (b := planB c ps) 57 #[.pointer (some ⟨B2, 0, none⟩), .pointer (some ⟨B3, 0, none⟩)] EG57.out (by exact fun hv => isQ57 (B := W.heap.size) (w := W.drew) HPL.out.len ((HPL.out.grow HB0.out).row.below (Below.drew (Below.refl _ _))) (Nat.le_refl _) HP.out.ewn HP.out.etn HPL.out.max HXB.out.drew HX3.out.drew hv) (by exact HP.out.grow (Below.drew HB0.out))).mono ?_
 rintro e w1 ⟨hb, (⟨h1, _⟩ | ⟨h1, d, rfl, hd, hk⟩)⟩
 ·exact absurd HEE.out h1
 have hb1 : Below W.heap.size W w1 := (Below.drew (Below.refl _ _)).trans hb; have hyd := YdIn.of_open (w2 := w1) (HP.out.grow HB0.out) hb1 (Nat.le_refl _) hd hk HOK.out.1; refine .inl ⟨_, rfl, hb1, ?_⟩; simp only [Act.put, List.setIfInBounds_toArray, List.set_cons_succ, List.set_cons_zero]; (apply HavG.stg_call (by exact ho rfl) (by kernel_rfl); (focus (go_simp; try exact ⟨rfl, rfl⟩; done)))
 refine (ccheck_any (fa := fa) (fl := fl) (fc := fc) (la := la) (ll := ll) (lc := lc) (wa := wa) (wn := wn) (wc := wc) (ta := ta) (tn := tn) (tc := tc) (pc := pc) HOK.out.2 HPL.out.len ((HPL.out.grow HB0.out).row.below hb1) hyd).mono ?_; rw [← HXX.out]; rintro e w3 ⟨rfl, hb2⟩; have hb3 : Below W.heap.size W w3 := hb1.trans (hb2.mono hb1.size); refine .inl ⟨_, rfl, hb3, ?_⟩; simp only [Act.put, List.setIfInBounds_toArray, List.set_cons_succ, List.set_cons_zero]; iterate 4 (apply HavG.stg_same (by exact ho rfl) (by kernel_rfl); (focus (intro wv hI; skip; (try go_simp); try rfl; done)); simp only [Act.put, List.setIfInBounds_toArray, List.set_cons_succ, List.set_cons_zero])
 simp only [HavG.wpStg, List.filterMap]; have HB3 := Lib.hid hb3; have HY5 : Hid (Blk w3 B5 35 #[.int .i64 0]) := HX5.out.below hb3 HX5.out.lt; have c2 : w3.cell? ⟨B5, 0, none⟩ = some (.int .i64 0) := HY5.out.cell 0; have f2 := HY5.out.frozen 0; have l5 := HY5.out.lt; obtain ⟨xl, xr⟩ := X; clear hb hk hd hb1 hb2 hb3 hyd
 by_cases hx : xr = 0
 ·obtain ⟨rfl, rfl, rfl⟩ := HRX.out.1 hx; subst hx; go_wp2_with fail; refine (cmust_any false 4 _).mono ?_; rintro e wz ⟨qq, rfl⟩; obtain rfl : e = .panicked [refC 4] := qq; clear c2 f2 l5; go_wp2; obtain ⟨e1, e2, e3⟩ := HE.out
  refine api_panicC (ds := []) (B := W.heap.size) isAnsC56 EG56.out (Marks.nil _ _) HY5.out (fun w2 hk2 hfar hbel => ?_)
  have g0 := hk2.cell 0; simp at g0; refine ⟨.tuple #[.int .i64 (0 : Nat), .int .i64 (0 : Nat), .int .i64 (4 : Nat)], by simp [results, Tryz.results18, go_sem, g0], rfl, ?_⟩
  exact HB0.out.trans ((HB3.out.mono e2).trans ((hbel w.heap.size e2 e1).mono (Nat.le_refl _)))
 ·obtain ⟨rfl, rfl, rfl⟩ := HRX.out.2 hx; have hbq : ((r2 : Int) != 0) = true := by simp; exact hx
  go_wp2_with fail; refine (cmust_any true 4 _).mono ?_
  rintro e wz ⟨qq, rfl⟩; obtain rfl : e = .returned (.tuple #[]) := qq; go_wp2; obtain ⟨W9, hW9⟩ : ∃ W9, W9 = wz.setCell ⟨B5, 0, none⟩ (.int .i64 0) := ⟨_, rfl⟩; rw [← hW9]; have HT5 : Blk W9 B5 35 #[.int .i64 0] := by rw [hW9]; exact HY5.out.set_ 0 _
  obtain ⟨e1, e2, _⟩ := HE.out; have hB9 : Below w.heap.size w W9 := by rw [hW9]; exact (HB0.out.trans (HB3.out.mono e2)).setCell (p := ⟨B5, 0, none⟩) e1 _
  refine api_retC (ds := []) (B := W.heap.size) isAnsC56 EG56.out (Marks.nil _ _) (fun w4 hk hbel => ?_)
  have g0 := (hk _ _ _ HT5).cell 0; simp at g0; refine ⟨.tuple #[.int .i64 r1, .int .i64 r2, .int .i64 (0 : Nat)], by simp [results, Tryz.results18, go_sem, g0], rfl, ?_⟩
  exact hB9.trans (hbel w.heap.size e2)
theorem PCheck_any (hP : CtIn w w.heap.size fa fl la ll wa wn ta tn c) (hL : PlIn w w.heap.size pa pn ps) : Calls Tryz.prog 18 #[(.agg #[.int .i64 c.riv.depth.lo, .int .i64 c.riv.depth.hi, .int .i64 c.riv.fall.lo, .int .i64 c.riv.fall.hi, .int .i64 c.riv.days, .slice fa fl fc, .slice la ll lc, .int .i64 c.draws, .slice wa wn wc, .slice ta tn tc]), .slice pa pn pc] w fun e w' => e = .returned (.tuple #[.int .i64 ((checkW c ps).1 : Nat), .int .i64 ((checkW c ps).2 : Nat), .int .i64 (checkE c ps : Nat)]) ∧ Below w.heap.size w w' := by
 by_cases h : openE c (planB c ps) = 0
 ·exact PCheck_ok hP hL h
 ·exact PCheck_bad hP hL h
end
end Go.Proofs.YtgmfhngcehkibaaGreat
namespace Go.Proofs.YtgmfhngcehkibaaGreat
section
variable {tm : IWag → Nat} {ws : List IWag}
theorem brokenW_zero {t : Nat} {l : ILot} {g : IWag} {r : Int} : brokenW t l g r = 0 ↔ l.from_ ≤ g.leaves ∧ l.bales ≤ r ∧ t = 2 := by
 unfold brokenW
 split
 ·exact ⟨fun h => by omega, fun h => by omega⟩
 ·split
  ·exact ⟨fun h => by omega, fun h => by omega⟩
  ·split
   ·exact ⟨fun h => by omega, fun h => by omega⟩
   ·exact ⟨fun _ => by omega, fun _ => rfl⟩
end
end Go.Proofs.YtgmfhngcehkibaaGreat
namespace Go.HavG
open Go.RowKit
section
variable {R : Rel} {P : Program} {ops : Array Oper}
theorem wp_region_tabY {Q : Exit → Act → World → Prop} (Φ : Nat → (Nat → Value) → World → Prop) (Ψ : Nat → World → Prop) (J : List Nat → Act → World → Prop) (Old : Nat → Nat → Prop) (nw : List Nat) (sl : List (Option Nat)) {id : Nat} {a : Act} {w : World} (hm : P.follows .mixedOrders = true) (hok : tabSOk ops sl = true)
  (hsz : (sl.all fun d => match d with | some d => decide (d < a.tmps.size) | none => true) = true) (h0 : ∀ i, i < sl.length → Ψ i { w with drawn := w.drawn + 1 }) (hJ : J (List.range sl.length) a { w with drawn := w.drawn + 1 }) (hold : ∀ i b, Old i b → b < w.heap.size) (hdis : ∀ i j b, i ≠ j → Old i b → ¬ Old j b) (hG : ∀ {u u' : World}, R.G u u' → u.heap.size ≤ u'.heap.size)
  (hcg : ∀ i, i < sl.length → ∀ V V' w, Φ i V w → (∀ j, j = i ∨ ((Region.before ops).getD i 0).testBit j = true → V j = V' j) → Φ i V' w)
  (hnw : ∀ i ∈ nw, ∀ V w, Φ i V w → bkV (V i) < w.heap.size)
  (hstep : ∀ i, i < sl.length → ∀ o a' w', ops[i]? = some o → Agree ops (List.range sl.length) a a' → R.G w w' → (∀ j, ((Region.before ops).getD i 0).testBit j = true → j < sl.length → Φ j (valV sl (slot a')) w') → Ψ i w' → (∀ d, ((List.range sl.length).all fun k => !(sl[k]? == some (some d)) || ((Region.before ops).getD k 0).testBit i) = true → slot a' d = slot a d) → ∀ rem : List Nat, i ∈ rem → rem.Nodup → J rem a' w' →
   stepOf P ops o a' w' (fun a'' w'' => ∃ v, a'' = a'.put o.dst v ∧ (R.G w' w'' ∧ J (rem.erase i) (a'.put o.dst v) w'') ∧ (∀ k V, k < sl.length → k ≠ i → ((Region.before ops).getD k 0).testBit i = false → Φ k V w' → Φ k V w'') ∧ (∀ k, k < sl.length → k ≠ i → ((Region.before ops).getD i 0).testBit k = false → Ψ k w' → Ψ k w'') ∧ (∀ V, (∀ j, j ≠ i → V j = valV sl (slot a') j) → (o.dst ≠ none → V i = v) → Φ i V w'') ∧ (i ∈ nw → o.dst ≠ none ∧ (w'.heap.size ≤ bkV v ∨ Old i (bkV v)))) Q)
  (hend : ∀ (f : Nat → Value) w', R.G w w' → J [] (puts f (sl.filterMap fun d => d) a) w' → (∀ i, i < sl.length → Φ i (valV sl f) w') → (∀ i j, i ∈ nw → j ∈ nw → i ≠ j → i < sl.length → j < sl.length → bkV (valV sl f i) ≠ bkV (valV sl f j)) → wpList P ops Q [] (puts f (sl.filterMap fun d => d) a) w') : (Code.region id ops true).wp P Q a w := by
 simp only [tabSOk, Bool.and_eq_true] at hok; obtain ⟨k1, k2, k3⟩ := hok
 have hdst : ∀ i o, i < sl.length → ops[i]? = some o → sl[i]? = some o.dst := fun i o hi ho => by
  have := List.all_eq_true.1 k2 i (List.mem_range.2 hi); rw [ho] at this
  simpa using this
 have hinj : ∀ i k d, i < sl.length → k < sl.length → sl[i]? = some (some d) → sl[k]? = some (some d) → i = k := fun i k d hi hk h1 h2 => by
  have := List.all_eq_true.1 (List.all_eq_true.1 k3 i (List.mem_range.2 hi)) k (List.mem_range.2 hk); rw [h1, h2] at this
  simpa using this
 refine wp_region_gen (P := P) (fun rem a' w' => R.G w w' ∧ a'.tmps.size = a.tmps.size ∧ (∀ i ∈ rem, i < sl.length) ∧ (∀ k, k < sl.length → k ∉ rem → ∀ i ∈ rem, ((Region.before ops).getD k 0).testBit i = false) ∧ (∀ i, i < sl.length → i ∉ rem → Φ i (valV sl (slot a')) w') ∧ (∀ i ∈ rem, Ψ i w') ∧ (∀ d, (∀ k, k < sl.length → sl[k]? = some (some d) → k ∈ rem) → slot a' d = slot a d) ∧ J rem a' w' ∧ (∀ i ∈ nw, i < sl.length → i ∉ rem → w.heap.size ≤ bkV (valV sl (slot a') i) ∨ Old i (bkV (valV sl (slot a') i))) ∧
   ∀ i j, i ∈ nw → j ∈ nw → i ≠ j → i < sl.length → j < sl.length → i ∉ rem → j ∉ rem → bkV (valV sl (slot a') i) ≠ bkV (valV sl (slot a') j)) (List.range sl.length) [] hm k1
  ⟨R.drew w, rfl, fun i hi => List.mem_range.1 hi, fun k hk hn => absurd (List.mem_range.2 hk) hn, fun i hi hn => absurd (List.mem_range.2 hi) hn, fun i hi => h0 i (List.mem_range.1 hi), fun _ _ => rfl, hJ, fun i _ hi hn => absurd (List.mem_range.2 hi) hn, fun i j _ _ _ hi _ hn => absurd (List.mem_range.2 hi) hn⟩ ?_ ?_
 ·rintro rem i o a' w' hmem hnd ho hag hdep ⟨hg, hs, hlt, hdp, hf, hpsi, hsl, hj, hno, hap⟩; have hil := hlt i hmem; have hd := hdst i o hil ho
  have h := hstep i hil o a' w' ho hag hg (fun j hj hjl => hf j hjl (fun hm => by have := hdep j hm; rw [this] at hj; cases hj)) (hpsi i hmem) (fun d hd => hsl d fun k hk hkd => by
   have h1 := List.all_eq_true.1 hd k (List.mem_range.2 hk); rw [hkd] at h1
   apply Classical.byContradiction
   intro hn; have h2 := hdp k hk hn i hmem; rw [h2] at h1
   simp at h1) rem hmem hnd hj
  have next : ∀ a'' w'', (∃ v, a'' = a'.put o.dst v ∧ (R.G w' w'' ∧ J (rem.erase i) (a'.put o.dst v) w'') ∧ (∀ k V, k < sl.length → k ≠ i → ((Region.before ops).getD k 0).testBit i = false → Φ k V w' → Φ k V w'') ∧ (∀ k, k < sl.length → k ≠ i → ((Region.before ops).getD i 0).testBit k = false → Ψ k w' → Ψ k w'') ∧ (∀ V, (∀ j, j ≠ i → V j = valV sl (slot a') j) → (o.dst ≠ none → V i = v) → Φ i V w'') ∧ (i ∈ nw → o.dst ≠ none ∧ (w'.heap.size ≤ bkV v ∨ Old i (bkV v)))) →
    ∃ v, a'' = a'.put o.dst v ∧ R.G w w'' ∧ a''.tmps.size = a.tmps.size ∧ (∀ k ∈ rem.erase i, k < sl.length) ∧ (∀ k, k < sl.length → k ∉ rem.erase i → ∀ j ∈ rem.erase i, ((Region.before ops).getD k 0).testBit j = false) ∧ (∀ k, k < sl.length → k ∉ rem.erase i → Φ k (valV sl (slot a'')) w'') ∧ (∀ k ∈ rem.erase i, Ψ k w'') ∧ (∀ d, (∀ k, k < sl.length → sl[k]? = some (some d) → k ∈ rem.erase i) → slot a'' d = slot a d) ∧ J (rem.erase i) a'' w'' ∧ (∀ k ∈ nw, k < sl.length → k ∉ rem.erase i → w.heap.size ≤ bkV (valV sl (slot a'') k) ∨ Old k (bkV (valV sl (slot a'') k))) ∧
    ∀ k j, k ∈ nw → j ∈ nw → k ≠ j → k < sl.length → j < sl.length → k ∉ rem.erase i → j ∉ rem.erase i → bkV (valV sl (slot a'') k) ≠ bkV (valV sl (slot a'') j) := by
   rintro a'' w'' ⟨v, rfl, ⟨hg2, hj2⟩, hkp, hps2, hphi, hnew⟩
   have was : ∀ k, k ≠ i → k ∉ rem.erase i → k ∉ rem := fun k e hk hm => hk (hnd.mem_erase_iff.2 ⟨e, hm⟩)
   have keep : ∀ j, j ≠ i → valV sl (slot (a'.put o.dst v)) j = valV sl (slot a') j := fun j e => by
    unfold valV
    cases hj : sl[j]? with
    | none => rfl
    | some dj =>
     cases dj with
     | none => rfl
     | some d =>
      show slot (a'.put o.dst v) d = slot a' d
      exact slot_put _ (fun he => e (hinj j i d (List.getElem?_eq_some_iff.1 hj).1 hil hj (by rw [hd, he])))
   have self : o.dst ≠ none → valV sl (slot (a'.put o.dst v)) i = v := fun hn => by
    unfold valV; rw [hd]
    cases hod : o.dst with
    | none => exact absurd hod hn
    | some d =>
     rw [hod] at hd
     exact slot_self v (by
      rw [hs]; have := List.all_eq_true.1 hsz (some d) (List.mem_of_getElem? hd)
      simpa using this)
   have dif : ∀ k, k ∈ nw → i ∈ nw → k ≠ i → k < sl.length → k ∉ rem.erase i → bkV (valV sl (slot a') k) ≠ bkV v := fun k hk hi e hkl hr he => by
    have h1 := hnw k hk _ _ (hf k hkl (was k e hr)); rcases (hnew hi).2 with h2 | h2
    ·omega
    ·rcases hno k hk hkl (was k e hr) with h3 | h3
     ·have := hold _ _ h2; omega
     ·exact hdis k i _ e h3 (by rw [he]; exact h2)
   refine ⟨v, rfl, R.trans hg hg2, ?_, fun k hk => hlt k (List.mem_of_mem_erase hk), fun k hkl hk j hj => ?_, fun k hkl hk => ?_, fun k hk => hps2 k (hlt k (List.mem_of_mem_erase hk)) (fun e => (hnd.mem_erase_iff.1 hk).1 e) (hdep k (List.mem_of_mem_erase hk)) (hpsi k (List.mem_of_mem_erase hk)), fun d hdd => ?_, hj2, fun k hkn hkl hk => ?_, fun k j hkn hjn hkj hkl hjl hk hj => ?_⟩
   ·cases hod : o.dst with
    | none => exact hs
    | some d => simp [Act.put, hs]
   ·by_cases e : k = i
    ·subst e; exact hdep j (List.mem_of_mem_erase hj)
    ·exact hdp k hkl (was k e hk) j (List.mem_of_mem_erase hj)
   ·by_cases e : k = i
    ·subst e
     exact hphi _ (fun j hj => keep j hj) self
    ·refine hcg k hkl _ _ _ (hkp k _ hkl e (hdp k hkl (was k e hk) i hmem) (hf k hkl (was k e hk))) (fun j hj => (keep j (fun ej => ?_)).symm)
     subst ej; rcases hj with rfl | hj
     ·exact e rfl
     ·have := hdp k hkl (was k e hk) j hmem; rw [this] at hj; cases hj
   ·rw [slot_put _ (fun e => (hnd.mem_erase_iff.1 (hdd i hil (by rw [hd, e]))).1 rfl)]
    exact hsl d (fun k hk hkd => List.mem_of_mem_erase (hdd k hk hkd))
   ·by_cases e : k = i
    ·subst e; rw [self (hnew hkn).1]
     exact (hnew hkn).2.imp (fun h => Nat.le_trans (hG hg) h) (fun h => h)
    ·rw [keep k e]; exact hno k hkn hkl (was k e hk)
   ·by_cases e1 : k = i
    ·subst e1; rw [self (hnew hkn).1, keep j (Ne.symm hkj)]; exact (dif j hjn hkn (Ne.symm hkj) hjl hj).symm
    ·by_cases e2 : j = i
     ·subst e2; rw [self (hnew hjn).1, keep k e1]; exact dif k hkn hjn e1 hkl hk
     ·rw [keep k e1, keep j e2]; exact hap k j hkn hjn hkj hkl hjl (was k e1 hk) (was j e2 hj)
  unfold stepOf at h ⊢
  split
  ·rename_i hw
   rw [if_pos hw] at h; exact Oper.wp_mono next h
  ·rename_i hw
   rw [if_neg hw] at h; exact next _ _ h
 ·rintro a' w' hag ⟨hg, hs, _, _, hf, _, _, hj, _, hap⟩
  have he := agree_puts hag (sl.filterMap fun d => d) (by
   rw [List.all_eq_true]; intro i hi; have hil := List.mem_range.1 hi
   cases ho : ops[i]? with
   | none => rfl
   | some o =>
    have hd := hdst i o hil ho
    cases hod : o.dst with
    | none => simp [hod]
    | some d =>
     simp only [hod]; rw [hod] at hd
     simpa using List.mem_of_getElem? hd)
  rw [he]
  exact hend (slot a') w' hg (by rw [← he]; exact hj) (fun i hi => hf i hi (by simp)) (fun i j hi hj hij hil hjl => hap i j hi hj hij hil hjl (by simp) (by simp))
theorem tabY_val {o : Oper} {a : Act} {w : World} {i : Nat} {nw : List Nat} {Φ : (Nat → Value) → World → Prop} {X : (Nat → Value) → Prop} {G : Value → World → Prop} {L K : World → Prop} {B : Value → Prop} {Q : Exit → Act → World → Prop} (hg : o.guard = none) (hd : o.dst ≠ none)
  (h : ∃ v w', (execOp a.eval o).run P w = .ok (.value v) w' ∧ G v w' ∧ L w' ∧ K w' ∧ (∀ V, X V → V i = v → Φ V w') ∧ (i ∈ nw → B v)) :
  stepOf P ops o a w (fun a'' w'' => ∃ v, a'' = a.put o.dst v ∧ G v w'' ∧ L w'' ∧ K w'' ∧ (∀ V, X V → (o.dst ≠ none → V i = v) → Φ V w'') ∧ (i ∈ nw → o.dst ≠ none ∧ B v)) Q := by
 obtain ⟨v, w', h1, h2, h6, h5, h3, h4⟩ := h; unfold stepOf Oper.wp; rw [if_pos (by unfold Region.wanted; rw [hg]), h1]
 exact ⟨v, rfl, h2, h6, h5, fun V hV hv => h3 V hV (hv hd), fun hi => ⟨hd, h4 hi⟩⟩
theorem tabY_call {o : Oper} {a : Act} {w : World} {i : Nat} {nw : List Nat} {Φ : (Nat → Value) → World → Prop} {X : (Nat → Value) → Prop} {G : Value → World → Prop} {L K : World → Prop} {B : Value → Prop} {Q : Exit → Act → World → Prop} (hg : o.guard = none) (hd : o.dst ≠ none) {f : FuncId} {args : Array Value} (hx : (execOp a.eval o).run P w = .ok (.enter f args) w)
  (h : Calls P f args w fun e w' => ∃ v, e = .returned v ∧ G v w' ∧ L w' ∧ K w' ∧ (∀ V, X V → V i = v → Φ V w') ∧ (i ∈ nw → B v)) :
  stepOf P ops o a w (fun a'' w'' => ∃ v, a'' = a.put o.dst v ∧ G v w'' ∧ L w'' ∧ K w'' ∧ (∀ V, X V → (o.dst ≠ none → V i = v) → Φ V w'') ∧ (i ∈ nw → o.dst ≠ none ∧ B v)) Q := by
 unfold stepOf Oper.wp; rw [if_pos (by unfold Region.wanted; rw [hg]), hx]
 simp only [Oper.upon]; refine h.mono ?_; rintro e w' ⟨v, rfl, h2, h6, h5, h3, h4⟩
 exact ⟨v, rfl, h2, h6, h5, fun V hV hv => h3 V hV (hv hd), fun hi => ⟨hd, h4 hi⟩⟩
end
end Go.HavG
