/- The walk of the law's truly: a copy whose runs are counted rightly, and a truth of it. -/
import Derived.Test.YtlcolpnniipgbaaDoorLawU1
import Derived.Test.YtlcolpnniipgbaaDoorLawWages
namespace Go.Proofs.YtlcolpnniipgbaaDoor
open Go.RowKit Go.Hav
theorem Tryd.infoE24 : (Tryd.prog.info? 24).map (fun i => (i.zero, i.size, i.bytes)) = some (some (.slice none 0 0), 1, 24) := by kernel_rfl
theorem newsI (w1 : World) (t : TypeId) (n : Int) : ∀ j u, (inF n)[j]? = some u → (w1.alloc (.cells #[.int .i64 n] t)).cell? ((⟨w1.heap.size, 0, none⟩ : Addr).add j) = some u := by
  intro j u hu
  have h0 := (Blk.new w1 t #[.int .i64 n]).cell j
  rcases j with _ | j
  · simp [inF] at hu; subst hu; exact h0
  · simp [inF] at hu
theorem newsI_ (w1 : World) (t : TypeId) (n : Int) {g : Nat} (hg : w1.heap.size = g) : ∀ j u, (inF n)[j]? = some u → (w1.alloc (.cells #[.int .i64 n] t)).cell? ((⟨g, 0, none⟩ : Addr).add j) = some u := by
  subst hg; exact newsI w1 t n
theorem newsV (w1 : World) (t : TypeId) (v : Value) : ∀ j u, [v][j]? = some u → (w1.alloc (.cells #[v] t)).cell? ((⟨w1.heap.size, 0, none⟩ : Addr).add j) = some u := by
  intro j u hu
  have h0 := (Blk.new w1 t #[v]).cell j
  rcases j with _ | j
  · simp at hu; subst hu; exact h0
  · simp at hu
theorem sumF_snoc {l : List Int} {m : Nat} (h : l.length = m) (t : Int) : sumF (l ++ [t]) (m + 1) = sumF l m + t := by
  subst h
  have : ∀ q, q ≤ l.length → sumF (l ++ [t]) q = sumF l q := by
    intro q
    induction q with
    | zero => intro _; rfl
    | succ q ih => intro hq; rw [sumF, sumF, ih (by omega), List.getElem?_append_left (by omega)]
  rw [sumF, this _ (Nat.le_refl _), List.getElem?_append_right (Nat.le_refl _), Nat.sub_self]
  rfl
theorem called_snoc {p : PayD} {k m : Nat} {l : List Int} {t : Int} (hl : l.length = m) (h : ∀ (who : Nat) t, l[who]? = some t → (calledS p who k).lo ≤ t ∧ t ≤ (calledS p who k).hi) (ht : (calledS p m k).lo ≤ t ∧ t ≤ (calledS p m k).hi) :
    ∀ (who : Nat) t', (l ++ [t])[who]? = some t' → (calledS p who k).lo ≤ t' ∧ t' ≤ (calledS p who k).hi := fun who t' h' => by
  by_cases e : who < l.length
  · rw [List.getElem?_append_left e] at h'
    exact h who t' h'
  · have hw : who = m := by
      have := (List.getElem?_eq_some_iff.1 h').1
      rw [List.length_append] at this
      simp at this
      omega
    subst hw
    rw [List.getElem?_append_right (by omega), hl, Nat.sub_self] at h'
    obtain rfl : t = t' := by simpa using h'
    exact ht
theorem newsV_ (w1 : World) (t : TypeId) (v : Value) {g : Nat} (hg : w1.heap.size = g) : ∀ j u, [v][j]? = some u → (w1.alloc (.cells #[v] t)).cell? ((⟨g, 0, none⟩ : Addr).add j) = some u := by
  subst hg; exact newsV w1 t v
section
variable {people rate bill : Int} {ra ca da pa : Option Addr} {rl rc cl cc dl dc pl pc : Nat} {p : PayD}
set_option maxRecDepth 100000 in
set_option maxHeartbeats 6400000 in
theorem truly_any (w : World) (hv : payB p = true) (hP : PayIn w w.heap.size people ra rl ca cl rate bill da dl pa pl p) {A : Option Addr} {al ac : Nat} (hA : U16In w w.heap.size A al) (ha : al ≤ 9223372036854775807) :
    Calls Tryd.prog 31 #[payV people ra rl rc ca cl cc rate bill da dl dc pa pl pc, .slice A al ac] w fun e w' => (∃ g1 c1 g2 c2 g3 c3 g4 c4 S R L sc, e = .returned (.tuple #[payV people (some ⟨g1, 0, none⟩) rl c1 (some ⟨g2, 0, none⟩) cl c2 rate bill (some ⟨g3, 0, none⟩) dl c3 (some ⟨g4, 0, none⟩) pl c4, .slice S rl sc]) ∧
      OwnPay w' w.heap.size (runsP p R) g1 c1 g2 c2 g3 c3 g4 c4 ∧ SheepIn w' S L people.toNat ∧ TInv p people.toNat R L rl) ∧ Below w.heap.size w w' := by
  have HP := Lib.hid hP
  have HV := Lib.hid hv
  have HA := Lib.hid hA
  have HRL := Lib.hid hP.erl
  have HCL := Lib.hid hP.ecl
  have HPE := Lib.hid hP.epeople
  obtain ⟨⟨a1, a2, a3, a4, a5, a6, a7, a8, a9, a10, a11⟩, _⟩ := payB_parts HP.out hv
  obtain ⟨n, rfl⟩ : ∃ n : Nat, people = n := ⟨people.toNat, by omega⟩
  have hdl : dl ≤ 4 := by omega
  have hn4 : n ≤ 4 := by omega
  have hn1 : 1 ≤ n := by omega
  obtain ⟨i0, hi, hz0, hz1, hz2⟩ := info_parts Tryd.infoE3
  have HI := Lib.hid hi
  have HI0 := Lib.hid hz0
  have HI1 := Lib.hid hz1
  have HI2 := Lib.hid hz2
  obtain ⟨j0, hj, hy0, hy1, hy2⟩ := info_parts Tryd.infoE24
  have HJ := Lib.hid hj
  have HJ0 := Lib.hid hy0
  have HJ1 := Lib.hid hy1
  have HJ2 := Lib.hid hy2
  clear hv hP hA hi hz0 hz1 hz2 hj hy0 hy1 hy2 a10
  unfold payV
  go_enter Tryd.func31, Tryd.ntmps31
  go_wp2_with fail
  obtain ⟨W, hW⟩ : ∃ W, W = (w.alloc (.cells (payCs n ra rl rc ca cl cc rate bill da dl dc pa pl pc) 27)).alloc (.cells (payCs 0 none 0 0 none 0 0 0 0 none 0 0 none 0 0) 27) := ⟨_, rfl⟩
  have HBK : Hid (Blk W w.heap.size 27 (payCs n ra rl rc ca cl cc rate bill da dl dc pa pl pc)) := by show Blk _ _ _ _; rw [hW]; exact (Blk.new _ _ _).alloc _
  have HXK : Hid (Blk W (w.heap.size + 1) 27 (payCs 0 none 0 0 none 0 0 0 0 none 0 0 none 0 0)) := by show Blk _ _ _ _; rw [hW]; exact Blk.new_ (by simp) _ _
  have HBW : Hid (Below w.heap.size w W) := by show Below _ _ _; rw [hW]; exact ((Below.refl _ _).alloc (Nat.le_refl _) _).alloc (by simp) _
  have hs0 : w.heap.size + 1 < W.heap.size := HXK.out.lt
  have hW' := hW.symm
  unfold payCs at hW'
  rw [hW']
  clear hW hW'
  have facts : ∀ wv, Below (w.heap.size + 1) W wv → wv.cell? ⟨w.heap.size, 0, none⟩ = some (.int .i64 n) ∧ wv.cell? ⟨w.heap.size, 1, none⟩ = some (.slice ra rl rc) ∧ wv.cell? ⟨w.heap.size, 2, none⟩ = some (.slice ca cl cc) ∧
      wv.cell? ⟨w.heap.size, 3, none⟩ = some (.int .i64 rate) ∧ wv.cell? ⟨w.heap.size, 4, none⟩ = some (.int .i64 bill) ∧ wv.cell? ⟨w.heap.size, 5, none⟩ = some (.slice da dl dc) ∧ wv.cell? ⟨w.heap.size, 6, none⟩ = some (.slice pa pl pc) ∧ w.heap.size < wv.heap.size ∧ W.heap.size ≤ wv.heap.size := fun wv hb => by
    have h := HBK.out.below hb (Nat.lt_succ_self _)
    exact ⟨h.cell 0, h.cell 1, h.cell 2, h.cell 3, h.cell 4, h.cell 5, h.cell 6, h.lt, hb.size⟩
  have HF := Lib.hid facts
  clear facts
  have HPB : Hid (∀ wv, Below (w.heap.size + 1) W wv → PayIn wv wv.heap.size n ra rl ca cl rate bill da dl pa pl p) := fun wv hb => HP.out.grow (HBW.out.trans (hb.mono (Nat.le_succ _)))
  refine (copied_any (p := p) _ (by exact HP.out.grow HBW.out) (by omega) (by omega) (by omega) (by omega)).mono ?_
  simp only [payV]
  rintro e wc ⟨⟨g1, c1, g2, c2, g3, c3, g4, c4, rfl, HO⟩, hbc⟩
  have HOc := Lib.hid HO
  have HBc : Hid (Below W.heap.size W wc) := hbc
  have HXc : Hid (Blk wc (w.heap.size + 1) 27 (payCs 0 none 0 0 none 0 0 0 0 none 0 0 none 0 0)) := HXK.out.below hbc hs0
  have hwc : W.heap.size ≤ wc.heap.size := hbc.size
  have z0 := HXc.out.cell 0
  have z1 := HXc.out.cell 1
  have z2 := HXc.out.cell 2
  have z3 := HXc.out.cell 3
  have z4 := HXc.out.cell 4
  have z5 := HXc.out.cell 5
  have z6 := HXc.out.cell 6
  simp [payCs] at z0 z1 z2 z3 z4 z5 z6
  have y0 := HXc.out.frozen 0
  have y1 := HXc.out.frozen 1
  have y2 := HXc.out.frozen 2
  have y3 := HXc.out.frozen 3
  have y4 := HXc.out.frozen 4
  have y5 := HXc.out.frozen 5
  have y6 := HXc.out.frozen 6
  have hxl : w.heap.size + 1 < wc.heap.size := HXc.out.lt
  clear HO hbc
  go_wp2
  have KZ := seven_set HXc.out (.int .i64 n) (.slice (some ⟨g1, 0, none⟩) rl c1) (.slice (some ⟨g2, 0, none⟩) cl c2) (.int .i64 rate) (.int .i64 bill) (.slice (some ⟨g3, 0, none⟩) dl c3) (.slice (some ⟨g4, 0, none⟩) pl c4)
  have KB := seven_below ((Below.refl (w.heap.size + 1) W).trans (HBc.out.mono (by omega))) (b := w.heap.size + 1) (Nat.le_refl _) (.int .i64 n) (.slice (some ⟨g1, 0, none⟩) rl c1) (.slice (some ⟨g2, 0, none⟩) cl c2) (.int .i64 rate) (.int .i64 bill) (.slice (some ⟨g3, 0, none⟩) dl c3) (.slice (some ⟨g4, 0, none⟩) pl c4)
  have keep : ∀ e sz u m xs, wc.ownsRow W.heap.size e sz u m xs → (((((((wc.setCell ⟨w.heap.size + 1, 0, none⟩ (.int .i64 n)).setCell ⟨w.heap.size + 1, 1, none⟩ (.slice (some ⟨g1, 0, none⟩) rl c1)).setCell ⟨w.heap.size + 1, 2, none⟩ (.slice (some ⟨g2, 0, none⟩) cl c2)).setCell ⟨w.heap.size + 1, 3, none⟩ (.int .i64 rate)).setCell ⟨w.heap.size + 1, 4, none⟩ (.int .i64 bill)).setCell ⟨w.heap.size + 1, 5, none⟩ (.slice (some ⟨g3, 0, none⟩) dl c3)).setCell ⟨w.heap.size + 1, 6, none⟩ (.slice (some ⟨g4, 0, none⟩) pl c4)).ownsRow W.heap.size e sz u m xs := fun e sz u m xs h =>
    ownsRow_setCell_below (ownsRow_setCell_below (ownsRow_setCell_below (ownsRow_setCell_below (ownsRow_setCell_below (ownsRow_setCell_below (ownsRow_setCell_below h hs0 _) hs0 _) hs0 _) hs0 _) hs0 _) hs0 _) hs0 _
  have KO : OwnPay (((((((wc.setCell ⟨w.heap.size + 1, 0, none⟩ (.int .i64 n)).setCell ⟨w.heap.size + 1, 1, none⟩ (.slice (some ⟨g1, 0, none⟩) rl c1)).setCell ⟨w.heap.size + 1, 2, none⟩ (.slice (some ⟨g2, 0, none⟩) cl c2)).setCell ⟨w.heap.size + 1, 3, none⟩ (.int .i64 rate)).setCell ⟨w.heap.size + 1, 4, none⟩ (.int .i64 bill)).setCell ⟨w.heap.size + 1, 5, none⟩ (.slice (some ⟨g3, 0, none⟩) dl c3)).setCell ⟨w.heap.size + 1, 6, none⟩ (.slice (some ⟨g4, 0, none⟩) pl c4)) W.heap.size (runsP p p.runs) g1 c1 g2 c2 g3 c3 g4 c4 := ⟨keep _ _ _ _ _ HOc.out.runs, keep _ _ _ _ _ HOc.out.calls, keep _ _ _ _ _ HOc.out.days, keep _ _ _ _ _ HOc.out.paid⟩
  generalize (((((((wc.setCell ⟨w.heap.size + 1, 0, none⟩ (.int .i64 n)).setCell ⟨w.heap.size + 1, 1, none⟩ (.slice (some ⟨g1, 0, none⟩) rl c1)).setCell ⟨w.heap.size + 1, 2, none⟩ (.slice (some ⟨g2, 0, none⟩) cl c2)).setCell ⟨w.heap.size + 1, 3, none⟩ (.int .i64 rate)).setCell ⟨w.heap.size + 1, 4, none⟩ (.int .i64 bill)).setCell ⟨w.heap.size + 1, 5, none⟩ (.slice (some ⟨g3, 0, none⟩) dl c3)).setCell ⟨w.heap.size + 1, 6, none⟩ (.slice (some ⟨g4, 0, none⟩) pl c4)) = ws at *
  have HSX : Hid (Blk ws (w.heap.size + 1) 27 (payCs n (some ⟨g1, 0, none⟩) rl c1 (some ⟨g2, 0, none⟩) cl c2 rate bill (some ⟨g3, 0, none⟩) dl c3 (some ⟨g4, 0, none⟩) pl c4)) := KZ
  have HSB : Hid (Below (w.heap.size + 1) W ws) := KB
  have HSO := Lib.hid KO
  clear KZ KB keep KO HOc HXc HBc z0 z1 z2 z3 z4 z5 z6 y0 y1 y2 y3 y4 y5 y6 hxl
  go_loopw [5, 6, 21] (fun v5 at_ i wr => ∃ (k a : Nat) (R : List Sp) (L : List (List Int)) (vs : List Value), i = .int .i64 k ∧ k ≤ rl ∧ at_ = .int .i64 a ∧ a ≤ 4 * k ∧ Hid (TInv p n R L k) ∧ Hid (Blk wr (w.heap.size + 1) 27 (payCs n (some ⟨g1, 0, none⟩) rl c1 (some ⟨g2, 0, none⟩) cl c2 rate bill (some ⟨g3, 0, none⟩) dl c3 (some ⟨g4, 0, none⟩) pl c4)) ∧ Hid (OwnPay wr W.heap.size (runsP p R) g1 c1 g2 c2 g3 c3 g4 c4) ∧
      Hid (wr.ownsRow W.heap.size 24 1 v5 k vs) ∧ Hid (RowsIn wr W.heap.size vs L n) ∧ Hid (Below (w.heap.size + 1) W wr)) (fun _ _ i _ => rl - (intOf i).toNat)
  case atStart => exact ⟨0, 0, p.runs, [], [], rfl, Nat.zero_le _, rfl, Nat.zero_le _, TInv.zero p n, HSX.out, HSO.out, World.ownsRow_nil _ _ _ _, RowsIn.nil _ _ _, HSB.out⟩
  case round =>
    obtain ⟨k, a, R, L, vs, rfl, hk, rfl, hak, HTI, HBX, HBO, HOV, HRW, HBR⟩ := hrel
    obtain ⟨x0, x1, x2, x3, x4, x5, x6, x7, x8⟩ := HF.out _ HBR.out
    by_cases hlt : k < rl
    · go_wp2
      obtain ⟨wo, rfl⟩ : ∃ wo : World, wo = wr := ⟨_, rfl⟩
      clear x0 x1 x2 x3 x4 x5 x6 x7 x8
      go_loopw [6, 8, 9, 26] (fun at_ v8 al_ j wr => ∃ (m a : Nat) (l : List Int), j = .int .i64 m ∧ m ≤ n ∧ at_ = .int .i64 a ∧ a ≤ 4 * k + m ∧ al_ = .int .i64 (sumF l m) ∧ Hid (l.length = m) ∧ Hid (∀ (who : Nat) t, l[who]? = some t → (calledS p who k).lo ≤ t ∧ t ≤ (calledS p who k).hi) ∧ Hid (wr.ownsRow wo.heap.size 3 1 v8 m (l.flatMap inF)) ∧ Hid (Below wo.heap.size wo wr)) (fun _ _ _ j _ => n - (intOf j).toNat)
      case atStart => exact ⟨0, a, [], rfl, Nat.zero_le _, rfl, by omega, rfl, rfl, fun who t h => by simp at h, World.ownsRow_nil _ _ _ _, Below.refl _ _⟩
      case round =>
        obtain ⟨m, a, l, rfl, hm, rfl, ham, rfl, HLL, HLB, HO8, HBQ⟩ := hrel
        have hwo : W.heap.size ≤ wo.heap.size := HBR.out.size
        have HBQ' : Hid (Below (w.heap.size + 1) W wr) := HBR.out.trans (HBQ.out.mono (by omega))
        obtain ⟨x0, x1, x2, x3, x4, x5, x6, x7, x8⟩ := HF.out _ HBQ'.out
        have hs8 : 0 ≤ sumF l m ∧ sumF l m ≤ 100 * m := by
          have : ∀ q, q ≤ m → 0 ≤ sumF l q ∧ sumF l q ≤ 100 * q := by
            intro q
            induction q with
            | zero => intro _; simp [sumF]
            | succ q ih =>
              intro hq
              have h1 := ih (by omega)
              have hl : q < l.length := by rw [HLL.out]; omega
              have h2 := HLB.out q (l[q]) (by simp)
              have h3 := calledS_ok HV.out q k
              rw [sumF, List.getElem?_eq_getElem hl]
              simp only [Option.getD_some]
              omega
          exact this m (Nat.le_refl _)
        by_cases hml : m < n
        · obtain ⟨⟨CL, CU⟩, HCS⟩ : ∃ s, Hid (calledS p m k = s) := ⟨_, rfl⟩
          obtain ⟨c0, c5, c6⟩ : 0 ≤ CL ∧ CL ≤ CU ∧ CU ≤ 100 := by have h := calledS_ok HV.out m k; rw [HCS.out] at h; exact h
          go_wp2_with fail
          refine (last_any (p := p) m k _ (by exact HPB.out _ HBQ'.out)).mono ?_
          rintro e wb ⟨rfl, hbb⟩
          have HBb : Hid (Below wo.heap.size wo wb) := HBQ.out.trans (hbb.mono HBQ.out.size)
          have HBb' : Hid (Below (w.heap.size + 1) W wb) := HBR.out.trans (HBb.out.mono (by omega))
          have HOb := Lib.hid (own_below HO8.out hbb)
          clear hbb x0 x1 x2 x3 x4 x5 x6 x7 x8
          obtain ⟨x0, x1, x2, x3, x4, x5, x6, x7, x8⟩ := HF.out _ HBb'.out
          obtain ⟨SI, HSI⟩ : ∃ SI, Hid (standsI p m k = SI) := ⟨_, rfl⟩
          rw [HSI.out]
          have hob : wo.heap.size ≤ wb.heap.size := HBb.out.size
          by_cases hsi : SI < 0
          · have hz : CL = 0 ∧ CU = 0 := by
              have h2 := HCS.out
              rw [calledS, HSI.out, if_pos hsi] at h2
              injection h2 with h3 h4
              exact ⟨h3.symm, h4.symm⟩
            obtain ⟨rfl, rfl⟩ := hz
            have HNW : Hid (∀ u : Int, (wb.alloc (.cells #[.int .i64 u] 3)).ownsRow wo.heap.size 3 1 u8 m (l.flatMap inF)) := fun u => HOb.out.alloc _
            have hwb : wo.heap.size ≤ wb.heap.size + 1 := by omega
            go_wp2_with (go_loud (at_builtin; refine wpList_append_own _ rfl _ _ 24 rfl wo.heap.size 3 i0 _ 1 8 Tryd.underlying24 HI.out HI0.out HI1.out HI2.out rfl (by decide) _ _ _ rfl (HNW.out _) ⟨wb.heap.size, 0, none⟩ 1 1 (inF _) rfl rfl (newsI wb _ _) (by simp [inF, Value.oneCell']) (by unfold maxLen; omega) (by omega) (by simp; omega) ?_))
            intro v' w6 hown6 hgrow6 _
            have HO6 := Lib.hid hown6
            have HB6 : Hid (Below wo.heap.size wo w6) := Below.grown (HBb.out.alloc (by first | omega | (simp; omega)) _) hgrow6 (by simp; omega) (fun k' hk' => by have := ((HNW.out 0).lt k' hk').1; omega)
            clear hown6 hgrow6 HNW
            go_wp2
            go_roundw
            case rel => exact ⟨m + 1, a, l ++ [0], by go_num, by omega, rfl, by omega, (by rw [sumF_snoc HLL.out]; try go_num), (by show _ = _; rw [List.length_append, HLL.out]; rfl), called_snoc HLL.out HLB.out (by rw [HCS.out]; first | exact ⟨by omega, by omega⟩ | (simp only; omega)), (by show World.ownsRow _ _ _ _ _ _ _; rw [List.flatMap_append, List.flatMap_singleton]; exact HO6.out), HB6.out⟩
            case measure => simp [intOf]; omega
          · obtain ⟨N, rfl⟩ : ∃ N : Nat, SI = N := ⟨SI.toNat, by omega⟩
            obtain ⟨d, hd, _, _, _⟩ := stands_call HSI.out
            have hsh : d.sh = ⟨CL, CU⟩ := by rw [← called_of HSI.out hd]; exact HCS.out
            have hNl : N < cl := by have := (List.getElem?_eq_some_iff.1 hd).1; rw [HCL.out] at this; exact this
            obtain ⟨dw, dr, ds, dk⟩ := d
            simp only at hsh
            subst hsh
            obtain ⟨b, off, rfl, hbl, H0, H1, H2, H3, H4⟩ := (HPB.out _ HBb'.out).hcalls N _ hd
            simp only at H0 H1 H2 H3 H4
            clear hd
            by_cases hal : al = 0
            · subst hal
              have HNW : Hid (∀ u : Int, ((wb.alloc (.cells #[.int .i64 CL, .int .i64 CU] 34)).alloc (.cells #[.int .i64 u] 3)).ownsRow wo.heap.size 3 1 u8 m (l.flatMap inF)) := fun u => (HOb.out.alloc _).alloc _
              have hwb : wo.heap.size ≤ wb.heap.size + 1 + 1 := by omega
              go_wp2_with (go_loud (at_builtin; refine wpList_append_own _ rfl _ _ 24 rfl wo.heap.size 3 i0 _ 1 8 Tryd.underlying24 HI.out HI0.out HI1.out HI2.out rfl (by decide) _ _ _ rfl (HNW.out _) ⟨wb.heap.size + 1, 0, none⟩ 1 1 (inF _) rfl rfl (newsI_ (wb.alloc (.cells #[.int .i64 CL, .int .i64 CU] 34)) _ _ (by simp)) (by simp [inF, Value.oneCell']) (by unfold maxLen; omega) (by omega) (by simp; omega) ?_))
              intro v' w6 hown6 hgrow6 _
              have HO6 := Lib.hid hown6
              have HB6 : Hid (Below wo.heap.size wo w6) := Below.grown ((HBb.out.alloc hob _).alloc (by first | omega | (simp; omega)) _) hgrow6 (by simp; omega) (fun k' hk' => by have := ((HNW.out 0).lt k' hk').1; omega)
              clear hown6 hgrow6 HNW
              go_wp2
              go_roundw
              case rel => exact ⟨m + 1, a, l ++ [CL], by go_num, by omega, rfl, by omega, (by rw [sumF_snoc HLL.out]; try go_num), (by show _ = _; rw [List.length_append, HLL.out]; rfl), called_snoc HLL.out HLB.out (by rw [HCS.out]; first | exact ⟨by omega, by omega⟩ | (simp only; omega)), (by show World.ownsRow _ _ _ _ _ _ _; rw [List.flatMap_append, List.flatMap_singleton]; exact HO6.out), HB6.out⟩
              case measure => simp [intOf]; omega
            · have hal0 : 0 < al := by omega
              go_wp2
              obtain ⟨q, hq, hql⟩ : ∃ q : Nat, ((a : Int) + 1).tmod (al : Int) = (q : Int) ∧ q < al := by
                have h0 := Int.tmod_nonneg (al : Int) (a := (a : Int) + 1) (by omega)
                have h1 := Int.tmod_lt_of_pos ((a : Int) + 1) (b := (al : Int)) (by omega)
                exact ⟨(((a : Int) + 1).tmod (al : Int)).toNat, by omega, by omega⟩
              obtain ⟨b3, off3, v, rfl, hb3, V0, v0, v1⟩ := (HA.out.grow (HBW.out.trans (HBb'.out.mono (by omega)))) q hql
              have hb3w : b3 < wb.heap.size := by have := HBW.out.size; have := HBb'.out.size; omega
              have k1 : IntKind.i64.wrap (11 * ((a : Int) + 1)) = 11 * ((a : Int) + 1) := IntWalk.i64_in _ (by omega)
              have k2 : IntKind.i64.wrap (v + 11 * ((a : Int) + 1)) = v + 11 * ((a : Int) + 1) := IntWalk.i64_in _ (by omega)
              have k3 : IntKind.i64.wrap (CU - CL) = CU - CL := IntWalk.i64_in _ (by omega)
              have k4 : IntKind.i64.wrap (CU - CL + 1) = CU - CL + 1 := IntWalk.i64_in _ (by omega)
              have k5 : ¬ CU - CL + 1 = 0 := by omega
              obtain ⟨t, k6, t0, t1⟩ : ∃ t, (v + 11 * ((a : Int) + 1)).tmod (CU - CL + 1) = t ∧ 0 ≤ t ∧ t < CU - CL + 1 := ⟨_, rfl, Int.tmod_nonneg _ (by omega), Int.tmod_lt_of_pos _ (by omega)⟩
              have k7 : IntKind.i64.wrap (CL + t) = CL + t := IntWalk.i64_in _ (by omega)
              refine wp_region_havoc [(0,false),(1,false),(2,false),(3,false),(4,false),(5,false),(6,false),(7,false),(8,false),(9,false),(10,false),(11,false),(12,false),(13,false),(14,false),(15,false),(16,false),(17,false),(18,false),(19,false),(20,false)] [] (fun _ _ => False) (by kernel_rfl) (by kernel_rfl) (fun _ _ _ _ h => h.elim) ?_
              (apply hav_same (by simp only [List.getElem?_toArray, List.getElem?_cons_zero]; rfl) (by kernel_rfl); (focus (intro wv hgv _; have hcv : ∀ b o, b < _ → wv.cell? ⟨b, o, none⟩ = _ := fun b o hb => Below.cell hgv (p := ⟨b, o, none⟩) hb; go_simp; try rfl; done)); simp only [Act.put, List.setIfInBounds_toArray, List.set_cons_succ, List.set_cons_zero])
              iterate 7 (apply hav_same (by simp only [List.getElem?_toArray, List.getElem?_cons_succ, List.getElem?_cons_zero]; rfl) (by kernel_rfl); (focus (intro wv hgv _; have hcv : ∀ b o, b < _ → wv.cell? ⟨b, o, none⟩ = _ := fun b o hb => Below.cell hgv (p := ⟨b, o, none⟩) hb; go_simp; try rfl; done)); simp only [Act.put, List.setIfInBounds_toArray, List.set_cons_succ, List.set_cons_zero])
              (apply hav_same (by simp only [List.getElem?_toArray, List.getElem?_cons_succ, List.getElem?_cons_zero]; rfl) (by kernel_rfl); (focus (intro wv hgv _; exact conv16 rfl rfl v0 v1 _)); simp only [Act.put, List.setIfInBounds_toArray, List.set_cons_succ, List.set_cons_zero])
              iterate 12 (apply hav_same (by simp only [List.getElem?_toArray, List.getElem?_cons_succ, List.getElem?_cons_zero]; rfl) (by kernel_rfl); (focus (intro wv hgv _; have hcv : ∀ b o, b < _ → wv.cell? ⟨b, o, none⟩ = _ := fun b o hb => Below.cell hgv (p := ⟨b, o, none⟩) hb; go_simp; try rfl; done)); simp only [Act.put, List.setIfInBounds_toArray, List.set_cons_succ, List.set_cons_zero])
              refine hav_end (fun w9 hgw9 _ => ?_); simp only [List.filterMap]; have hcw9 : ∀ b o, b < _ → w9.cell? ⟨b, o, none⟩ = _ := fun b o hb => Below.cell hgw9 (p := ⟨b, o, none⟩) hb; have hfw9 : ∀ b o, b < _ → w9.frozen? ⟨b, o, none⟩ = _ := fun b o hb => Below.frozen hgw9 (p := ⟨b, o, none⟩) hb; have hzw9 := Below.size hgw9; (try simp at hzw9)
              have HB9 : Hid (Below wo.heap.size wo w9) := (HBb.out.alloc hob _).trans (hgw9.mono (by simp; omega))
              have HO9 := Lib.hid (own_below (HOb.out.alloc (.cells #[.int .i64 CL, .int .i64 CU] 34)) hgw9)
              have hw9 : wo.heap.size ≤ w9.heap.size := HB9.out.size
              clear hgw9 hcw9 hfw9 k1 k2 k3 k4 k5 k6 k7 hq
              have HNW : Hid (∀ u : Int, (w9.alloc (.cells #[.int .i64 u] 3)).ownsRow wo.heap.size 3 1 u8 m (l.flatMap inF)) := fun u => HO9.out.alloc _
              have hwb : wo.heap.size ≤ w9.heap.size + 1 := by omega
              go_wp2_with (go_loud (at_builtin; refine wpList_append_own _ rfl _ _ 24 rfl wo.heap.size 3 i0 _ 1 8 Tryd.underlying24 HI.out HI0.out HI1.out HI2.out rfl (by decide) _ _ _ rfl (HNW.out _) ⟨w9.heap.size, 0, none⟩ 1 1 (inF _) rfl rfl (newsI w9 _ _) (by simp [inF, Value.oneCell']) (by unfold maxLen; omega) (by omega) (by simp; omega) ?_))
              intro v' w6 hown6 hgrow6 _
              have HO6 := Lib.hid hown6
              have HB6 : Hid (Below wo.heap.size wo w6) := Below.grown (HB9.out.alloc (by first | omega | (simp; omega)) _) hgrow6 (by simp; omega) (fun k' hk' => by have := ((HNW.out 0).lt k' hk').1; omega)
              clear hown6 hgrow6 HNW
              go_wp2
              go_roundw
              case rel => exact ⟨m + 1, (a + 1), l ++ [(CL + t)], by go_num, by omega, by go_num, by omega, (by rw [sumF_snoc HLL.out]; try go_num), (by show _ = _; rw [List.length_append, HLL.out]; rfl), called_snoc HLL.out HLB.out (by rw [HCS.out]; first | exact ⟨by omega, by omega⟩ | (simp only; omega)), (by show World.ownsRow _ _ _ _ _ _ _; rw [List.flatMap_append, List.flatMap_singleton]; exact HO6.out), HB6.out⟩
              case measure => simp [intOf]; omega
        · obtain rfl : n = m := by omega
          obtain ⟨ALL, HALL⟩ : ∃ s, Hid (sumF l n = s) := ⟨_, rfl⟩
          rw [HALL.out] at hs8 ⊢
          obtain ⟨⟨RL, RU⟩, HRG⟩ : ∃ s, Hid (p.runs[k]? = some s) := ⟨p.runs[k]'(by rw [HRL.out]; exact hlt), by show _ = _; simp⟩
          obtain ⟨r0, r1, r2⟩ : 0 ≤ RL ∧ RL ≤ RU ∧ RU ≤ 400 := payB_run HV.out HRG.out
          have HRR : Hid ((runsP p R).runs[k]? = some ⟨RL, RU⟩) := (HTI.out.rest k (Nat.le_refl _)).trans HRG.out
          have HXQ : Hid (Blk wr (w.heap.size + 1) 27 (payCs n (some ⟨g1, 0, none⟩) rl c1 (some ⟨g2, 0, none⟩) cl c2 rate bill (some ⟨g3, 0, none⟩) dl c3 (some ⟨g4, 0, none⟩) pl c4)) := HBX.out.below HBQ.out HBX.out.lt
          have HOQ := Lib.hid (HBO.out.below HBQ.out)
          obtain ⟨u0, u1, u2, u3, u4⟩ := HOQ.out.runCells HRR.out
          simp only at u0 u1
          have z0 := HXQ.out.cell 0
          have z1 := HXQ.out.cell 1
          simp [payCs] at z0 z1
          have hxq : w.heap.size + 1 < wr.heap.size := HXQ.out.lt
          have k1 : IntKind.i64.wrap (RU - RL) = RU - RL := IntWalk.i64_in _ (by omega)
          obtain ⟨wd, hwd, wd0, wd1⟩ : ∃ wd : Int, (∀ w, (Builtin.min_ #[3, 3] 3 #[.int .i64 6, .int .i64 (RU - RL)]).run Tryd.prog w = .ok (.int .i64 wd) w) ∧ 0 ≤ wd ∧ wd ≤ 6 := by
            by_cases h : RU - RL < 6
            · exact ⟨RU - RL, fun w => by simp [Builtin.min_, Builtin.min2, h], by omega, by omega⟩
            · exact ⟨6, fun w => by simp [Builtin.min_, Builtin.min2, h], by omega, by omega⟩
          obtain ⟨LO, hlo, lo0, lo1⟩ : ∃ LO : Int, (∀ w, (Builtin.max_ #[3, 3] 3 #[.int .i64 0, .int .i64 (ALL - wd / 2)]).run Tryd.prog w = .ok (.int .i64 LO) w) ∧ 0 ≤ LO ∧ LO ≤ ALL := by
            by_cases h : 0 < ALL - wd / 2
            · exact ⟨ALL - wd / 2, fun w => by simp [Builtin.max_, Builtin.max2]; omega, by omega, by omega⟩
            · exact ⟨0, fun w => by simp [Builtin.max_, Builtin.max2]; omega, by omega, by omega⟩
          obtain ⟨HI', hhi, hi0, hi1⟩ : ∃ HI : Int, (∀ w, (Builtin.min_ #[3, 3] 3 #[.int .i64 400, .int .i64 (ALL + wd - wd / 2)]).run Tryd.prog w = .ok (.int .i64 HI) w) ∧ ALL ≤ HI ∧ HI ≤ 400 := by
            by_cases h : ALL + wd - wd / 2 < 400
            · exact ⟨ALL + wd - wd / 2, fun w => by simp [Builtin.min_, Builtin.min2, h], by omega, by omega⟩
            · exact ⟨400, fun w => by simp [Builtin.min_, Builtin.min2, h], by omega, by omega⟩
          obtain ⟨g8, c8, rfl⟩ : ∃ g8 c8, u8 = .slice (some ⟨g8, 0, none⟩) n c8 := by
            rcases HO8.out.2 with ⟨_, h⟩ | ⟨g, c, _, h, _⟩
            · omega
            · exact ⟨g, c, h⟩
          have q0 := u2 (k * 2)
          have q1 := u2 (k * 2 + 1)
          go_wp2
          refine wp_region_havoc [(0,false),(1,false),(2,false),(3,false),(4,false),(5,false),(6,false),(7,false),(8,false),(9,false),(10,false)] [] (fun _ _ => False) (by kernel_rfl) (by kernel_rfl) (fun _ _ _ _ h => h.elim) ?_
          (apply hav_same (by simp only [List.getElem?_toArray, List.getElem?_cons_zero]; rfl) (by kernel_rfl); (focus (intro wv hgv _; have hcv : ∀ b o, b < _ → wv.cell? ⟨b, o, none⟩ = _ := fun b o hb => Below.cell hgv (p := ⟨b, o, none⟩) hb; go_simp; try rfl; done)); simp only [Act.put, List.setIfInBounds_toArray, List.set_cons_succ, List.set_cons_zero])
          iterate 10 (apply hav_same (by simp only [List.getElem?_toArray, List.getElem?_cons_succ, List.getElem?_cons_zero]; rfl) (by kernel_rfl); (focus (intro wv hgv _; have hcv : ∀ b o, b < _ → wv.cell? ⟨b, o, none⟩ = _ := fun b o hb => Below.cell hgv (p := ⟨b, o, none⟩) hb; go_simp; try rfl; done)); simp only [Act.put, List.setIfInBounds_toArray, List.set_cons_succ, List.set_cons_zero])
          refine hav_end (fun w4 hgw4 _ => ?_); simp only [List.filterMap]; have hcw4 : ∀ b o, b < _ → w4.cell? ⟨b, o, none⟩ = _ := fun b o hb => Below.cell hgw4 (p := ⟨b, o, none⟩) hb; have hfw4 : ∀ b o, b < _ → w4.frozen? ⟨b, o, none⟩ = _ := fun b o hb => Below.frozen hgw4 (p := ⟨b, o, none⟩) hb; have hzw4 := Below.size hgw4; (try simp at hzw4)
          have HB4 : Hid (Below wo.heap.size wo w4) := HBQ.out.trans (hgw4.mono HBQ.out.size)
          have HG4 : Hid (Below wr.heap.size wr w4) := hgw4
          clear hgw4 hcw4 hfw4
          go_wp2_with fail
          refine (lspan_agg _ _ _).mono ?_
          rintro e w5 ⟨rfl, hb5⟩
          have HG5 : Hid (Below wr.heap.size wr w5) := HG4.out.trans (hb5.mono HG4.out.size)
          have hwr : W.heap.size ≤ wr.heap.size := HBQ'.out.size
          have hg1W : W.heap.size ≤ g1 := u4
          have hg1r : g1 < wr.heap.size := u3
          have HX5 : Hid (Blk w5 (w.heap.size + 1) 27 (payCs n (some ⟨g1, 0, none⟩) rl c1 (some ⟨g2, 0, none⟩) cl c2 rate bill (some ⟨g3, 0, none⟩) dl c3 (some ⟨g4, 0, none⟩) pl c4)) := HXQ.out.below HG5.out hxq
          have HO5 := Lib.hid (HOQ.out.below HG5.out)
          have HV5 := Lib.hid (own_below (own_below HOV.out HBQ.out) HG5.out)
          have HR5 := Lib.hid ((HRW.out.below HBQ.out).below HG5.out)
          have H85 := Lib.hid (own_le (own_below HO8.out HG5.out) (show W.heap.size ≤ wo.heap.size by omega))
          have HB5 : Hid (Below (w.heap.size + 1) W w5) := HBQ'.out.trans (HG5.out.mono (by omega))
          obtain ⟨cur, hcur, _⟩ := own_blk HO5.out.runs
          have hc1 := hcur.set_ (k * 2) (.int .i64 LO)
          have HBE : Hid (Below (w.heap.size + 1) W ((w5.setCell ⟨g1, k * 2, none⟩ (.int .i64 LO)).setCell ⟨g1, k * 2 + 1, none⟩ (.int .i64 HI'))) := setK_below (setK_below HB5.out (by omega) _ _) (by omega) _ _
          have HXE : Hid (Blk ((w5.setCell ⟨g1, k * 2, none⟩ (.int .i64 LO)).setCell ⟨g1, k * 2 + 1, none⟩ (.int .i64 HI')) (w.heap.size + 1) 27 (payCs n (some ⟨g1, 0, none⟩) rl c1 (some ⟨g2, 0, none⟩) cl c2 rate bill (some ⟨g3, 0, none⟩) dl c3 (some ⟨g4, 0, none⟩) pl c4)) := (HX5.out.far (p := ⟨g1, k * 2, none⟩) (by show _ ≠ g1; omega) _).far (p := ⟨g1, k * 2 + 1, none⟩) (by show _ ≠ g1; omega) _
          have HOE : Hid (OwnPay ((w5.setCell ⟨g1, k * 2, none⟩ (.int .i64 LO)).setCell ⟨g1, k * 2 + 1, none⟩ (.int .i64 HI')) W.heap.size (runsP p (R.set k ⟨LO, HI'⟩)) g1 c1 g2 c2 g3 c3 g4 c4) := HO5.out.setRun HRR.out
          have HVE : Hid ((((w5.setCell ⟨g1, k * 2, none⟩ (.int .i64 LO)).setCell ⟨g1, k * 2 + 1, none⟩ (.int .i64 HI')).alloc (.cells #[(.slice (some ⟨g8, 0, none⟩) n c8)] 24)).ownsRow W.heap.size 24 1 u5 k vs) := (outer_far (outer_far HV5.out hcur (by decide) _ _) hc1 (by decide) _ _).alloc _
          have HRE : Hid (RowsIn (((w5.setCell ⟨g1, k * 2, none⟩ (.int .i64 LO)).setCell ⟨g1, k * 2 + 1, none⟩ (.int .i64 HI')).alloc (.cells #[(.slice (some ⟨g8, 0, none⟩) n c8)] 24)) W.heap.size vs L n) := ((HR5.out.far hcur (by decide) _ _).far hc1 (by decide) _ _).below ((Below.refl _ _).alloc (Nat.le_refl _) _)
          have H8E : Hid ((((w5.setCell ⟨g1, k * 2, none⟩ (.int .i64 LO)).setCell ⟨g1, k * 2 + 1, none⟩ (.int .i64 HI')).alloc (.cells #[(.slice (some ⟨g8, 0, none⟩) n c8)] 24)).ownsRow W.heap.size 3 1 (.slice (some ⟨g8, 0, none⟩) n c8) n (l.flatMap inF)) := by
            have hne : g8 ≠ g1 := fun e => own_out H85.out (e ▸ hcur) (by decide) rfl
            exact (own_far (own_far H85.out hne _ _) hne _ _).alloc _
          obtain ⟨u0, u1, u2, u3, _⟩ := HO5.out.runCells HRR.out
          simp only at u0 u1
          have q0 := u2 (k * 2)
          have q1 := u2 (k * 2 + 1)
          have hw5 : W.heap.size ≤ w5.heap.size := HB5.out.size
          clear hb5 hcur hc1
          go_wp2_with (go_loud (at_builtin; refine wpList_append_own _ rfl _ _ 45 rfl W.heap.size 24 j0 _ 1 24 Tryd.underlying45 HJ.out HJ0.out HJ1.out HJ2.out rfl (by decide) _ _ _ rfl HVE.out ⟨w5.heap.size, 0, none⟩ 1 1 [(.slice (some ⟨g8, 0, none⟩) n c8)] rfl rfl (newsV_ ((w5.setCell ⟨g1, k * 2, none⟩ (.int .i64 LO)).setCell ⟨g1, k * 2 + 1, none⟩ (.int .i64 HI')) _ _ (by simp)) (by simp [Value.oneCell']) (by unfold maxLen; omega) (by omega) (by simp; omega) ?_))
          intro v' w6 hown6 hgrow6 _
          have HO6 := Lib.hid hown6
          have HX6 : Hid (Blk w6 (w.heap.size + 1) 27 (payCs n (some ⟨g1, 0, none⟩) rl c1 (some ⟨g2, 0, none⟩) cl c2 rate bill (some ⟨g3, 0, none⟩) dl c3 (some ⟨g4, 0, none⟩) pl c4)) := (HXE.out.alloc _).grown hgrow6 (own_out HVE.out (HXE.out.alloc _) (by decide))
          have HP6 : Hid (OwnPay w6 W.heap.size (runsP p (R.set k ⟨LO, HI'⟩)) g1 c1 g2 c2 g3 c3 g4 c4) := (HOE.out.below ((Below.refl _ _).alloc (Nat.le_refl _) _)).grown HVE.out hgrow6
          have HR6 : Hid (RowsIn w6 W.heap.size (vs ++ [(.slice (some ⟨g8, 0, none⟩) n c8)]) (L ++ [l]) n) := HRE.out.snoc HVE.out hgrow6 HLL.out hn1 H8E.out
          have HB6 : Hid (Below (w.heap.size + 1) W w6) := Below.grown (HBE.out.alloc (by simp; omega) _) hgrow6 (by simp; omega) (fun k' hk' => by have := (HVE.out.lt k' hk').1; omega)
          have HT6 : Hid (TInv p n (R.set k ⟨LO, HI'⟩) (L ++ [l]) (k + 1)) := HTI.out.step (by rw [HRL.out]; exact hlt) ⟨HLL.out, HLB.out, ⟨lo0, by rw [HALL.out]; exact lo1⟩, ⟨by rw [HALL.out]; exact hi0, hi1⟩⟩
          clear hown6 hgrow6 hlo hhi hwd x0 x1 x2 x3 x4 x5 x6 x7 x8 z0 z1 u0 u1 u2 u3 q0 q1
          go_wp2
          go_roundw
          case rel => exact ⟨k + 1, a, R.set k ⟨LO, HI'⟩, L ++ [l], vs ++ [Value.slice (some ⟨g8, 0, none⟩) n c8], by go_num, by omega, rfl, by omega, HT6.out, HX6.out, HP6.out, HO6.out, HR6.out, HB6.out⟩
          case measure => simp [intOf]; omega
    · obtain rfl : rl = k := by omega
      have z0 := HBX.out.cell 0
      have z1 := HBX.out.cell 1
      have z2 := HBX.out.cell 2
      have z3 := HBX.out.cell 3
      have z4 := HBX.out.cell 4
      have z5 := HBX.out.cell 5
      have z6 := HBX.out.cell 6
      simp [payCs] at z0 z1 z2 z3 z4 z5 z6
      have y0 := HBX.out.frozen 0
      have y1 := HBX.out.frozen 1
      have y2 := HBX.out.frozen 2
      have y3 := HBX.out.frozen 3
      have y4 := HBX.out.frozen 4
      have y5 := HBX.out.frozen 5
      have y6 := HBX.out.frozen 6
      have hxl : w.heap.size + 1 < wr.heap.size := HBX.out.lt
      have HBR0 := HBR
      clear x0 x1 x2 x3 x4 x5 x6 x7 x8
      go_wp2
      have KZ := seven_set HBX.out (.int .i64 n) (.slice (some ⟨g1, 0, none⟩) rl c1) (.slice (some ⟨g2, 0, none⟩) cl c2) (.int .i64 rate) (.int .i64 bill) (.slice (some ⟨g3, 0, none⟩) dl c3) (.slice (some ⟨g4, 0, none⟩) pl c4)
      have KB := seven_below HBR0.out (b := w.heap.size + 1) (Nat.le_refl _) (.int .i64 n) (.slice (some ⟨g1, 0, none⟩) rl c1) (.slice (some ⟨g2, 0, none⟩) cl c2) (.int .i64 rate) (.int .i64 bill) (.slice (some ⟨g3, 0, none⟩) dl c3) (.slice (some ⟨g4, 0, none⟩) pl c4)
      have keep : ∀ e sz u m xs, wr.ownsRow W.heap.size e sz u m xs → (((((((wr.setCell ⟨w.heap.size + 1, 0, none⟩ (.int .i64 n)).setCell ⟨w.heap.size + 1, 1, none⟩ (.slice (some ⟨g1, 0, none⟩) rl c1)).setCell ⟨w.heap.size + 1, 2, none⟩ (.slice (some ⟨g2, 0, none⟩) cl c2)).setCell ⟨w.heap.size + 1, 3, none⟩ (.int .i64 rate)).setCell ⟨w.heap.size + 1, 4, none⟩ (.int .i64 bill)).setCell ⟨w.heap.size + 1, 5, none⟩ (.slice (some ⟨g3, 0, none⟩) dl c3)).setCell ⟨w.heap.size + 1, 6, none⟩ (.slice (some ⟨g4, 0, none⟩) pl c4)).ownsRow W.heap.size e sz u m xs := fun e sz u m xs h =>
        ownsRow_setCell_below (ownsRow_setCell_below (ownsRow_setCell_below (ownsRow_setCell_below (ownsRow_setCell_below (ownsRow_setCell_below (ownsRow_setCell_below h hs0 _) hs0 _) hs0 _) hs0 _) hs0 _) hs0 _) hs0 _
      have KO : OwnPay (((((((wr.setCell ⟨w.heap.size + 1, 0, none⟩ (.int .i64 n)).setCell ⟨w.heap.size + 1, 1, none⟩ (.slice (some ⟨g1, 0, none⟩) rl c1)).setCell ⟨w.heap.size + 1, 2, none⟩ (.slice (some ⟨g2, 0, none⟩) cl c2)).setCell ⟨w.heap.size + 1, 3, none⟩ (.int .i64 rate)).setCell ⟨w.heap.size + 1, 4, none⟩ (.int .i64 bill)).setCell ⟨w.heap.size + 1, 5, none⟩ (.slice (some ⟨g3, 0, none⟩) dl c3)).setCell ⟨w.heap.size + 1, 6, none⟩ (.slice (some ⟨g4, 0, none⟩) pl c4)) w.heap.size (runsP p R) g1 c1 g2 c2 g3 c3 g4 c4 := ⟨own_le (keep _ _ _ _ _ HBO.out.runs) (by omega), own_le (keep _ _ _ _ _ HBO.out.calls) (by omega), own_le (keep _ _ _ _ _ HBO.out.days) (by omega), own_le (keep _ _ _ _ _ HBO.out.paid) (by omega)⟩
      have KS := SheepIn.of (keep _ _ _ _ _ HOV.out) (HRW.out.map keep) (by omega)
      clear keep
      generalize (((((((wr.setCell ⟨w.heap.size + 1, 0, none⟩ (.int .i64 n)).setCell ⟨w.heap.size + 1, 1, none⟩ (.slice (some ⟨g1, 0, none⟩) rl c1)).setCell ⟨w.heap.size + 1, 2, none⟩ (.slice (some ⟨g2, 0, none⟩) cl c2)).setCell ⟨w.heap.size + 1, 3, none⟩ (.int .i64 rate)).setCell ⟨w.heap.size + 1, 4, none⟩ (.int .i64 bill)).setCell ⟨w.heap.size + 1, 5, none⟩ (.slice (some ⟨g3, 0, none⟩) dl c3)).setCell ⟨w.heap.size + 1, 6, none⟩ (.slice (some ⟨g4, 0, none⟩) pl c4)) = wf at *
      obtain ⟨S, sc, rfl, hS⟩ := KS
      have r0 := KZ.cell 0
      have r1 := KZ.cell 1
      have r2 := KZ.cell 2
      have r3 := KZ.cell 3
      have r4 := KZ.cell 4
      have r5 := KZ.cell 5
      have r6 := KZ.cell 6
      simp at r0 r1 r2 r3 r4 r5 r6
      refine bodyPost_ret (v := .tuple #[payV n (some ⟨g1, 0, none⟩) rl c1 (some ⟨g2, 0, none⟩) cl c2 rate bill (some ⟨g3, 0, none⟩) dl c3 (some ⟨g4, 0, none⟩) pl c4, .slice (some ⟨S, 0, none⟩) rl sc]) (by simp [results, Tryd.results31, go_sem, payV, r0, r1, r2, r3, r4, r5, r6]) rfl ⟨⟨g1, c1, g2, c2, g3, c3, g4, c4, some ⟨S, 0, none⟩, R, L, sc, rfl, KO, hS, HTI.out⟩, HBW.out.trans (KB.mono (by omega))⟩
end
end Go.Proofs.YtlcolpnniipgbaaDoor
