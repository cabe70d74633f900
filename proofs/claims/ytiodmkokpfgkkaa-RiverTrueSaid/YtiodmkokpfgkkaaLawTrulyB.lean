/- The laws' truth: the loop that makes the looks. Conditions: the river is valid; what the frame holds. -/
import Derived.Test.YtiodmkokpfgkkaaLawTrulyA
import Derived.Test.YtiodmkokpfgkkaaLawU
namespace Go.Proofs.Ytiodmkokpfgkkaa
open Go.RowKit Go.Hav Go.Shelf Go.Sq
attribute [local go_sem] Oper.semAt_some
theorem infoE58 : (Try.prog.info? 58).map (fun i => (i.zero, i.size, i.bytes)) = some (some (.agg #[.int .i64 0, .int .i64 0, .int .i64 0]), 3, 24) := by kernel_rfl
section
variable {b2 b4 c s fl fc ll lc B ul uc N : Nat} {fa la ua : Option Addr} {r : IRiv} {t : Tr} {dv pv : Value} {w0 w : World} {U : List Nat}
set_option maxRecDepth 100000 in
set_option maxHeartbeats 6400000 in
theorem truly7 (hok : okR r = true) (hP : RvIn w0 B fa fl la ll r) (hU : UIn w0 B ua ul U) (hs : Blk w0 s 45 #[.slice ua ul uc]) (hBc : B ≤ c) (hBw : B ≤ w0.heap.size) (hc0 : c < w0.heap.size) (hsc : ¬ s = c) (ht : TrueT r t) (hT : Turn (fun b => b = c) w0 w) (hN : Cnt c N w) (hNM : N ≤ 100) (h2 : Blk w b2 27 #[.int .i64 r.depth.lo, .int .i64 r.depth.hi, .int .i64 r.fall.lo, .int .i64 r.fall.hi, .int .i64 r.days, .slice fa fl fc, .slice la ll lc]) (h20 : w0.heap.size ≤ b2) (h4 : Blk w b4 27 #[.int .i64 r.depth.lo, .int .i64 r.depth.hi, .int .i64 r.fall.lo, .int .i64 r.fall.hi, .int .i64 r.days, .slice fa fl fc, .slice none 0 0]) (h40 : w0.heap.size ≤ b4)
  (oD : w.ownsRow w0.heap.size 3 1 dv fl (t.ds.map nV)) (oP : w.ownsRow w0.heap.size 3 1 pv (r.nat.days + 1) ((List.range (r.nat.days + 1)).map fun d => nV (t.at_ d))) (c0 c3 c8 c9 c10 c11 c12 c13 c14 c15 c16 c17 c18 c19 c20 c21 c22 c23 c24 c25 c26 c27 c28 c29 c30 c31 c32 c33 c34 c35 c36 c37 c38 c39 c40 c41 c42 c43 c44 c45 c46 c47 c48 c49 c50 c51 c52 c53 c54 c55 c56 c57 c58 c59 c60 c61 c62 c63 c64 c65 c66 c67 c68 c69 c70 c71 c72 c73 c74 c75 c76 c77 c78 c79 c80 c81 c82 c83 c84 c85 c86 c87 : Value) :
  Code.wp Try.prog (trulyK 7) (bodyPost Try.prog Try.f36 (TrulyPost c fa fl fc r w0)) ⟨(c0::(.func (.func 98) #[] #[.pointer (some ⟨c, 0, none⟩), .pointer (some ⟨s, 0, none⟩)])::(.pointer (some ⟨b2, 0, none⟩))::c3::(.pointer (some ⟨b4, 0, none⟩))::(.int .i64 t.by_)::dv::pv::c8::c9::c10::c11::c12::c13::c14::c15::c16::c17::c18::c19::c20::c21::c22::c23::c24::c25::c26::c27::c28::c29::c30::c31::c32::c33::c34::c35::c36::c37::c38::c39::c40::c41::c42::c43::c44::c45::c46::c47::c48::c49::c50::c51::c52::c53::c54::c55::c56::c57::c58::c59::c60::c61::c62::c63::c64::c65::c66::c67::c68::c69::c70::c71::c72::c73::c74::c75::c76::c77::c78::c79::c80::c81::c82::c83::c84::c85::c86::c87::[]).toArray, []⟩ w := by
 obtain ⟨gp, cpp, rfl⟩ : ∃ gp cpp, pv = .slice (some ⟨gp, 0, none⟩) (r.nat.days + 1) cpp := by
  rcases oP.2 with ⟨_, h⟩ | ⟨g, cp, _, h, _⟩
  ·omega
  ·exact ⟨g, cp, h⟩
 obtain ⟨d1, d2, d3⟩ := days_nat hok
 have hll5 : ll ≤ 5 := by rw [← hP.ell]; exact (okR_pts hok).1.2.2.2.2
 have HELL := Lib.hid hP.ell
 have hat : ∀ d, t.at_ d ≤ 120 := fun d => by
  have hTI : TrueIn r t (r.lk.map fun l => ⟨l.day, ⟨((t.at_ l.day.toNat - 0 : Nat) : Int), ((t.at_ l.day.toNat + 0 : Nat) : Int)⟩⟩) := ht.looks (fun k l hk => by
   rw [List.getElem?_map] at hk
   obtain ⟨l0, h0, rfl⟩ := Option.map_eq_some_iff.1 hk
   exact ⟨l0, h0, rfl, 0, 0, by omega, by omega, rfl, rfl⟩) (by simp)
  exact hTI.at_le hok d
 have HOK := Lib.hid hok
 have HP := Lib.hid hP
 have HU0 := Lib.hid hU
 have HS0 := Lib.hid hs
 have HTT := Lib.hid ht
 have HAT := Lib.hid hat
 have HT := Lib.hid hT
 have HN := Lib.hid hN
 have H2 := Lib.hid h2
 have H4 := Lib.hid h4
 have HOD := Lib.hid oD
 have HOP := Lib.hid oP
 have HSC := Lib.hid hsc
 have hBW0 : w0.heap.size ≤ w.heap.size := hT.size
 have h2w := h2.lt
 have h4w := h4.lt
 have hs0 := hs.lt
 have f98 := enters_of Try.func98 (by kernel_rfl) rfl
 obtain ⟨i0, hi, hz0, hz1, hz2⟩ := info_parts infoE58
 have HI := Lib.hid hi
 have HI0 := Lib.hid hz0
 have HI1 := Lib.hid hz1
 have HI2 := Lib.hid hz2
 have q6 := h2.cell 6
 have ql := h2.lt
 simp at q6
 conv => arg 2; whnf
 conv => arg 2; arg 2; change trulyK 8
 clear hok hP hU hs ht hat hT hN h2 h4 oD oP hsc hi hz0 hz1 hz2 d1
 go_wp2
 clear q6 ql
 go_loopw [55] (fun i wr => ∃ (k : Nat) (lks : List ILk) (lA : Option Addr) (lp : Nat), k ≤ ll ∧ i = .int .i64 k ∧ Hid (lks.length = k) ∧ Hid (LooksOk r t lks) ∧ Hid (Blk wr b4 27 #[.int .i64 r.depth.lo, .int .i64 r.depth.hi, .int .i64 r.fall.lo, .int .i64 r.fall.hi, .int .i64 r.days, .slice fa fl fc, .slice lA k lp]) ∧ Hid (wr.ownsRow w.heap.size 58 3 (.slice lA k lp) k (lks.flatMap lkI)) ∧ Hid (Cnt c (N + 2 * k) wr) ∧ Hid (Turn (fun b => b = c ∨ b = b4) w wr)) (fun i _ => ll - (intOf i).toNat)
 case atStart => exact ⟨0, [], none, 0, Nat.zero_le _, rfl, rfl, fun k l h => by simp at h, H4.out, World.ownsRow_nil _ _ _ _, HN.out, Turn.refl _ _⟩
 case round =>
  obtain ⟨k, lks, lA, lp, hk, rfl, HLN, HLO, HX0, HO0, HC0, HTR⟩ := hrel
  by_cases hlt : k < ll
  ·obtain ⟨l0, hl0⟩ : ∃ l0, r.lk[k]? = some l0 := ⟨r.lk[k]'(by rw [HELL.out]; exact hlt), by simp⟩
   have HL0 := Lib.hid hl0
   have hday := inB_iff.1 (show inB l0.day 0 r.days = true from by
    have := List.all_eq_true.1 (okR_pts HOK.out).2.2 l0 (List.mem_of_getElem? hl0)
    unfold lkB at this
    rw [Bool.and_eq_true] at this
    exact this.1)
   obtain ⟨dn, hdn⟩ : ∃ dn : Nat, l0.day = dn := ⟨l0.day.toNat, by omega⟩
   have hdd : dn ≤ r.nat.days := by show dn ≤ r.days.toNat; omega
   obtain ⟨n, hn⟩ : ∃ n, n = t.at_ dn := ⟨_, rfl⟩
   have hn120 : n ≤ 120 := by rw [hn]; exact HAT.out dn
   have HNN : Hid (n = t.at_ l0.day.toNat) := by show _ = _; rw [hdn, hn]; rfl
   have hBwr : B ≤ wr.heap.size := Nat.le_trans hBw (Nat.le_trans hBW0 HTR.out.size)
   have tw : Turn (fun b => b = c ∨ b = b4) w0 wr := (HT.out.mono fun b e => .inl e).trans HTR.out
   have hPw : RdG lkI 3 wr B la r.lk := (HP.out.hlk).keep fun b hb _ => tw.block b (by omega) (by rintro (e | e) <;> omega)
   obtain ⟨bl, off, hA, hbl, H0, H1, H2'⟩ := rd_lkI hPw k l0 hl0
   subst hA
   have hblw : bl < wr.heap.size := by omega
   have opr : wr.ownsRow w0.heap.size 3 1 (.slice (some ⟨gp, 0, none⟩) (r.nat.days + 1) cpp) (r.nat.days + 1) ((List.range (r.nat.days + 1)).map fun d => nV (t.at_ d)) := own_turn HOP.out HTR.out (fun g hg e => by
    obtain ⟨hge, cs, hcs⟩ := own_block HOP.out hg
    rcases e with e | e
    ·omega
    ·exact blk_ne hcs H4.out (by decide) e)
   have pc : wr.cell? ⟨gp, dn, none⟩ = some (.int .i64 n) := own_at opr dn _ (by rw [List.getElem?_map, List.getElem?_range (by omega), hn]; rfl)
   have pl : gp < wr.heap.size := (own_blk opr).choose_spec.1.lt
   have hdi : (dn : Int) < ((r.nat.days + 1 : Nat) : Int) := by omega
   have hdi2 : (dn : Int) < (r.nat.days : Int) + 1 := by omega
   have hdi0 : (0 : Int) ≤ (dn : Int) := by omega
   obtain ⟨d0, ⟨d1, d2'⟩⟩ := l0
   simp only at H0 H1 H2' hdn
   subst hdn
   clear hl0 hPw opr tw hday hn
   go_upto_region 15 with (fail)
   obtain ⟨K, hK⟩ : ∃ K, K = wr.alloc (.cells #[.int .i64 (dn : Int), .int .i64 d1, .int .i64 d2'] 58) := ⟨_, rfl⟩
   obtain ⟨gk, hgk⟩ : ∃ g, g = wr.heap.size := ⟨_, rfl⟩
   have HBK : Below wr.heap.size wr K := by rw [hK]; exact (Below.refl _ _).alloc (Nat.le_refl _) _
   have HL : Hid (Blk K gk 58 #[.int .i64 (dn : Int), .int .i64 d1, .int .i64 d2']) := by rw [hK, hgk]; exact Blk.new wr 58 _
   rw [← hK, ← hgk]
   have tw : Turn (fun b => b = c ∨ b = b4) w0 K := ((HT.out.mono fun b e => .inl e).trans HTR.out).trans (Turn.of_below HBK)
   have HX : Hid (Blk K b4 27 #[.int .i64 r.depth.lo, .int .i64 r.depth.hi, .int .i64 r.fall.lo, .int .i64 r.fall.hi, .int .i64 r.days, .slice fa fl fc, (Value.slice lA k lp)]) := HX0.out.below HBK HX0.out.lt
   have HOL : Hid (K.ownsRow w.heap.size 58 3 (.slice lA k lp) k (lks.flatMap lkI)) := own_below HO0.out HBK
   have HCN : Hid (Cnt c (N + 2 * k) K) := HC0.out.below HBK
   have HU : Hid (UIn K B ua ul U) := HU0.out.turn hBw tw (fun b hb e => by rcases e with e | e <;> omega)
   have HSB : Hid (Blk K s 45 #[.slice ua ul uc]) := HS0.out.turn tw (fun e => by rcases e with e | e; exact HSC.out e; omega)
   have hB1 : w.heap.size ≤ K.heap.size := Nat.le_trans HTR.out.size HBK.size
   have hBK : B ≤ K.heap.size := by omega
   have hfv : ∀ g, (Value.slice lA k lp).ownBlock = some g → w.heap.size ≤ g ∧ g < wr.heap.size := fun g hg => by
    obtain ⟨h1, cs, hcs⟩ := own_block HO0.out hg
    exact ⟨h1, hcs.lt⟩
   have hKs := HBK.size
   have HSS : Hid (¬ (s = c ∨ s = b4 ∨ (Value.slice lA k lp).ownBlock = some s)) := by
    rintro (e | e | e)
    ·exact HSC.out e
    ·omega
    ·have := hfv s e; omega
   have HLS : Hid (¬ (gk = c ∨ gk = b4 ∨ (Value.slice lA k lp).ownBlock = some gk)) := by
    have := HTR.out.size
    rintro (e | e | e)
    ·omega
    ·omega
    ·have := hfv gk e; omega
   have HSB2 : Hid (∀ b, b < B → ¬ (b = c ∨ b = b4 ∨ (Value.slice lA k lp).ownBlock = some b)) := fun b hb => by
    rintro (e | e | e)
    ·omega
    ·omega
    ·have := hfv b e; omega
   have HFC : Hid (c < w.heap.size ∧ w.heap.size ≤ K.heap.size ∧ c ≠ b4 ∧ b4 < w.heap.size) := ⟨by omega, hB1, by omega, h4w⟩
   have HFV : Hid (∀ g, (Value.slice lA k lp).ownBlock = some g → w.heap.size ≤ g ∧ g < K.heap.size) := fun g hg => by have := hfv g hg; omega
   have HB4 : Hid (b4 < w.heap.size) := h4w
   have HFB : Hid (b4 < w.heap.size ∧ w.heap.size ≤ K.heap.size) := ⟨h4w, hB1⟩
   have HCV : Hid (¬ (Value.slice lA k lp).ownBlock = some c) := fun e => by have := hfv c e; omega
   have HCB : Hid (¬ c = b4) := by show ¬ _; omega
   have HTK : Hid (Turn (fun b => b = c ∨ b = b4) w K) := HTR.out.trans (Turn.of_below HBK)
   have hkk : k ≤ 5 := by omega
   clear HBK tw hfv hK hgk H0 H1 H2' pc pl hbl hblw
   refine HavG.wp_region_tabY (R := (TP (ι := Empty) (fun b => b = c ∨ b = b4 ∨ (Value.slice lA k lp).ownBlock = some b) (fun i _ => i.elim) (fun i => i.elim))) (fun i V wx => t15T w.heap.size K.heap.size b4 gk c s k (Value.slice lA k lp) (⟨(dn : Int), ⟨d1, d2'⟩⟩ : ILk) n lks fa fl fc r i V wx) (fun i wx => t15S w.heap.size b4 k (Value.slice lA k lp) lks fa fl fc r i wx) (fun rem _ w => cntJ c (N + 2 * k) 7 13 rem w) (fun _ _ => False) [] [some 64, some 65, some 66, some 67, some 68, some 69, some 70, some 71, some 72, some 73, some 74, some 75, some 76, some 77, some 78, some 79, some 80, some 81, some 82, none] (by kernel_rfl) (by kernel_rfl) (by rfl) (fun i _ => t15S_grow (t15S_zero HX.out HOL.out i) (Below.drew (Below.refl _ _))) (cntJ_below (cntJ_start HCN.out) (Below.drew (Below.refl _ _))) (fun _ _ h => h.elim) (fun _ _ _ _ h => h.elim) (fun h => h.1.size) ?_ (fun i hi => by cases hi) ?_ ?_
   ·intro i hi V V' w h hV
    match i, hi, h, hV with
    | 0, _, h, hV => exact (hV _ (.inl rfl)).symm.trans h
    | 1, _, h, hV => exact (hV _ (.inl rfl)).symm.trans h
    | 2, _, h, hV => exact (hV _ (.inl rfl)).symm.trans h
    | 3, _, h, hV => exact (hV _ (.inl rfl)).symm.trans h
    | 4, _, h, hV => exact (hV _ (.inl rfl)).symm.trans h
    | 5, _, h, hV => exact (hV _ (.inl rfl)).symm.trans h
    | 6, _, h, hV => exact (hV _ (.inl rfl)).symm.trans h
    | 7, _, h, hV => (obtain ⟨a, ha, e⟩ := h; exact ⟨a, ha, (hV 7 (.inl rfl)).symm.trans e⟩)
    | 8, _, h, hV => (obtain ⟨a, ha, e⟩ := h; exact ⟨a, ha, (hV 8 (.inl rfl)).symm.trans e⟩)
    | 9, _, h, hV => (obtain ⟨a, ha, e⟩ := h; exact ⟨a, ha, (hV 9 (.inl rfl)).symm.trans e⟩)
    | 10, _, h, hV => exact (hV _ (.inl rfl)).symm.trans h
    | 11, _, h, hV => exact (hV _ (.inl rfl)).symm.trans h
    | 12, _, h, hV => exact (hV _ (.inl rfl)).symm.trans h
    | 13, _, h, hV => (obtain ⟨a, ha, e⟩ := h; exact ⟨a, ha, (hV 13 (.inl rfl)).symm.trans e⟩)
    | 14, _, h, hV => (obtain ⟨a, ha, e⟩ := h; exact ⟨a, ha, (hV 14 (.inl rfl)).symm.trans e⟩)
    | 15, _, h, hV => (obtain ⟨a, b, ha, hb, e⟩ := h; exact ⟨a, b, ha, hb, (hV 15 (.inl rfl)).symm.trans e⟩)
    | 16, _, h, hV => (obtain ⟨a, b, g, ha, hb, e, h⟩ := h; exact ⟨a, b, g, ha, hb, (hV 16 (.inl rfl)).symm.trans e, h⟩)
    | 17, _, h, hV => (obtain ⟨a, b, g, cp, ha, hb, e, h⟩ := h; exact ⟨a, b, g, cp, ha, hb, (hV 17 (.inl rfl)).symm.trans e, h⟩)
    | 18, _, h, hV => exact (hV _ (.inl rfl)).symm.trans h
    | 19, _, h, hV => exact h
    | j + 20, hj, _, _ => exact absurd hj (by simp)
   ·intro i hi oo a' w' ho hag hg hd hps hsl rem him hnd hj
    match i, hi, ho, hd, hps, hsl, him with
    | 0, _, ho, hd, hps, hsl, him =>
     (simp only [List.getElem?_toArray, List.getElem?_cons_zero, Option.some.injEq] at ho; subst ho)
     have s4 : a'.tmps[4]?.getD undef = (.pointer (some ⟨b4, 0, none⟩)) := by rw [← Array.getD_eq_getD_getElem?]; exact hag.slot 4 (by kernel_rfl)
     have r4 : a'.tmps.getD 4 undef = (.pointer (some ⟨b4, 0, none⟩)) := hag.slot 4 (by kernel_rfl)
     refine HavG.tabY_val rfl (by simp) ⟨.pointer (some ⟨b4, 6, none⟩), w', ?_, ⟨HavG.Rel.refl _ _, cntJ_skip (by decide) (by decide) hj⟩, fun _ _ _ _ _ h => h, fun _ _ _ _ h => h, fun V _ hv => hv, fun h => by simp at h⟩
     go_simp
     try rfl
    | 1, _, ho, hd, hps, hsl, him =>
     (simp only [List.getElem?_toArray, List.getElem?_cons_succ, List.getElem?_cons_zero, Option.some.injEq] at ho; subst ho)
     have d64 : a'.tmps.getD 64 undef = (.pointer (some ⟨b4, 6, none⟩)) := hd 0 (by kernel_rfl) (by decide)
     have c64 : a'.tmps[64]?.getD undef = (.pointer (some ⟨b4, 6, none⟩)) := by rw [← Array.getD_eq_getD_getElem?]; exact d64
     have hps' : Blk w' b4 27 #[.int .i64 r.depth.lo, .int .i64 r.depth.hi, .int .i64 r.fall.lo, .int .i64 r.fall.hi, .int .i64 r.days, .slice fa fl fc, (Value.slice lA k lp)] := hps
     have z5 := hps'.cell 6
     have zl := hps'.lt
     simp at z5
     clear hps hps'
     refine HavG.tabY_val rfl (by simp) ⟨(Value.slice lA k lp), w', ?_, ⟨HavG.Rel.refl _ _, cntJ_skip (by decide) (by decide) hj⟩, fun _ _ _ _ _ h => h, fun _ _ _ _ h => h, fun V _ hv => hv, fun h => by simp at h⟩
     go_simp
     try rfl
    | 2, _, ho, hd, hps, hsl, him =>
     (simp only [List.getElem?_toArray, List.getElem?_cons_succ, List.getElem?_cons_zero, Option.some.injEq] at ho; subst ho)
     have s12 : a'.tmps[12]?.getD undef = (.pointer (some ⟨gk, 0, none⟩)) := by rw [← Array.getD_eq_getD_getElem?]; exact hag.slot 12 (by kernel_rfl)
     have r12 : a'.tmps.getD 12 undef = (.pointer (some ⟨gk, 0, none⟩)) := hag.slot 12 (by kernel_rfl)
     refine HavG.tabY_val rfl (by simp) ⟨.pointer (some ⟨gk, 0, none⟩), w', ?_, ⟨HavG.Rel.refl _ _, cntJ_skip (by decide) (by decide) hj⟩, fun _ _ _ _ _ h => h, fun _ _ _ _ h => h, fun V _ hv => hv, fun h => by simp at h⟩
     go_simp
     try rfl
    | 3, _, ho, hd, hps, hsl, him =>
     (simp only [List.getElem?_toArray, List.getElem?_cons_succ, List.getElem?_cons_zero, Option.some.injEq] at ho; subst ho)
     have d66 : a'.tmps.getD 66 undef = (.pointer (some ⟨gk, 0, none⟩)) := hd 2 (by kernel_rfl) (by decide)
     have c66 : a'.tmps[66]?.getD undef = (.pointer (some ⟨gk, 0, none⟩)) := by rw [← Array.getD_eq_getD_getElem?]; exact d66
     have hkb := HL.out.turn hg.1 HLS.out
     have z0 := hkb.cell 0
     have z1 := hkb.cell 1
     have z2 := hkb.cell 2
     have zl := hkb.lt
     simp at z0 z1 z2
     clear hkb
     refine HavG.tabY_val rfl (by simp) ⟨.int .i64 (dn : Int), w', ?_, ⟨HavG.Rel.refl _ _, cntJ_skip (by decide) (by decide) hj⟩, fun _ _ _ _ _ h => h, fun _ _ _ _ h => h, fun V _ hv => hv, fun h => by simp at h⟩
     go_simp
     try rfl
    | 4, _, ho, hd, hps, hsl, him =>
     (simp only [List.getElem?_toArray, List.getElem?_cons_succ, List.getElem?_cons_zero, Option.some.injEq] at ho; subst ho)
     have s13 : a'.tmps[13]?.getD undef = (.int .i64 n) := by rw [← Array.getD_eq_getD_getElem?]; exact hag.slot 13 (by kernel_rfl)
     have r13 : a'.tmps.getD 13 undef = (.int .i64 n) := hag.slot 13 (by kernel_rfl)
     refine HavG.tabY_val rfl (by simp) ⟨.int .i64 n, w', ?_, ⟨HavG.Rel.refl _ _, cntJ_skip (by decide) (by decide) hj⟩, fun _ _ _ _ _ h => h, fun _ _ _ _ h => h, fun V _ hv => hv, fun h => by simp at h⟩
     go_simp
     try rfl
    | 5, _, ho, hd, hps, hsl, him =>
     (simp only [List.getElem?_toArray, List.getElem?_cons_succ, List.getElem?_cons_zero, Option.some.injEq] at ho; subst ho)
     have s1 : a'.tmps[1]?.getD undef = (.func (.func 98) #[] #[.pointer (some ⟨c, 0, none⟩), .pointer (some ⟨s, 0, none⟩)]) := by rw [← Array.getD_eq_getD_getElem?]; exact hag.slot 1 (by kernel_rfl)
     have r1 : a'.tmps.getD 1 undef = (.func (.func 98) #[] #[.pointer (some ⟨c, 0, none⟩), .pointer (some ⟨s, 0, none⟩)]) := hag.slot 1 (by kernel_rfl)
     refine HavG.tabY_val rfl (by simp) ⟨(Value.func (.func 98) #[] #[.pointer (some ⟨c, 0, none⟩), .pointer (some ⟨s, 0, none⟩)]), w', ?_, ⟨HavG.Rel.refl _ _, cntJ_skip (by decide) (by decide) hj⟩, fun _ _ _ _ _ h => h, fun _ _ _ _ h => h, fun V _ hv => hv, fun h => by simp at h⟩
     go_simp
     try rfl
    | 6, _, ho, hd, hps, hsl, him =>
     (simp only [List.getElem?_toArray, List.getElem?_cons_succ, List.getElem?_cons_zero, Option.some.injEq] at ho; subst ho)
     refine HavG.tabY_call rfl (by simp) (f := 30) (args := #[.int .i64 0, .int .i64 3]) (by go_simp; try rfl) ((lspan_any 0 3 w').mono ?_)
     rintro e w2 ⟨rfl, HB⟩
     exact ⟨_, rfl, ⟨⟨Turn.of_below HB, fun i => i.elim⟩, cntJ_below (cntJ_skip (by decide) (by decide) hj) HB⟩, fun j V _ _ _ h => t15_grow h HB, fun j _ _ _ h => t15S_grow h HB, fun V _ hv => hv, fun h => by simp at h⟩
    | 7, _, ho, hd, hps, hsl, him =>
     (simp only [List.getElem?_toArray, List.getElem?_cons_succ, List.getElem?_cons_zero, Option.some.injEq] at ho; subst ho)
     have e1 : HavG.slot a' 69 = (.func (.func 98) #[] #[.pointer (some ⟨c, 0, none⟩), .pointer (some ⟨s, 0, none⟩)]) := hd 5 (by kernel_rfl) (by decide)
     have e2 : HavG.slot a' 70 = .agg #[.int .i64 ((0 : Nat) : Int), .int .i64 ((3 : Nat) : Int)] := hd 6 (by kernel_rfl) (by decide)
     have d1 : a'.tmps.getD 69 undef = (.func (.func 98) #[] #[.pointer (some ⟨c, 0, none⟩), .pointer (some ⟨s, 0, none⟩)]) := e1
     have c1 : a'.tmps[69]?.getD undef = (.func (.func 98) #[] #[.pointer (some ⟨c, 0, none⟩), .pointer (some ⟨s, 0, none⟩)]) := by rw [← Array.getD_eq_getD_getElem?]; exact e1
     have d2 : a'.tmps.getD 70 undef = .agg #[.int .i64 ((0 : Nat) : Int), .int .i64 ((3 : Nat) : Int)] := e2
     have c2 : a'.tmps[70]?.getD undef = .agg #[.int .i64 ((0 : Nat) : Int), .int .i64 ((3 : Nat) : Int)] := by rw [← Array.getD_eq_getD_getElem?]; exact e2
     obtain ⟨M, hM, hc, hnx⟩ := cntJ_p him hnd (by decide) hj
     refine HavG.tabY_call rfl (by simp) (f := 98) (args := #[.agg #[.int .i64 ((0 : Nat) : Int), .int .i64 ((3 : Nat) : Int)], .pointer (some ⟨c, 0, none⟩), .pointer (some ⟨s, 0, none⟩)]) (by go_simp; try rfl) ((draw98_any (by omega) (by omega) (by omega) w' (HSB.out.turn hg.1 HSS.out) hc (Nat.le_trans hBK hg.1.size) hBc (HU.out.turn hBK hg.1 HSB2.out)).mono ?_)
     rintro e w2 ⟨⟨v, rfl, hv1, hv2⟩, hc2, ht⟩
     exact ⟨_, rfl, ⟨⟨ht.mono (fun b e => .inl e), fun i => i.elim⟩, hnx _ hc2⟩, fun j V _ _ _ h => t15_turn h ht HFC.out, fun j _ _ _ h => t15S_turn h ht HFC.out, fun V _ hv => ⟨v, hv2, hv⟩, fun h => by simp at h⟩
    | 8, _, ho, hd, hps, hsl, him =>
     (simp only [List.getElem?_toArray, List.getElem?_cons_succ, List.getElem?_cons_zero, Option.some.injEq] at ho; subst ho)
     obtain ⟨a, ha, e7⟩ : ∃ a : Nat, a ≤ 3 ∧ HavG.slot a' 71 = .int .i64 a := hd 7 (by kernel_rfl) (by decide)
     have d68 : a'.tmps.getD 68 undef = (.int .i64 n) := hd 4 (by kernel_rfl) (by decide)
     have c68 : a'.tmps[68]?.getD undef = (.int .i64 n) := by rw [← Array.getD_eq_getD_getElem?]; exact d68
     have d71 : a'.tmps.getD 71 undef = .int .i64 a := e7
     have c71 : a'.tmps[71]?.getD undef = .int .i64 a := by rw [← Array.getD_eq_getD_getElem?]; exact d71
     have hw : IntKind.i64.wrap ((n : Int) - a) = (n : Int) - a := IntWalk.i64_in _ (by omega)
     refine HavG.tabY_val rfl (by simp) ⟨.int .i64 ((n : Int) - a), w', ?_, ⟨HavG.Rel.refl _ _, cntJ_skip (by decide) (by decide) hj⟩, fun _ _ _ _ _ h => h, fun _ _ _ _ h => h, fun V _ hv => ⟨a, ha, hv⟩, fun h => by simp at h⟩
     go_simp
     try rfl
    | 9, _, ho, hd, hps, hsl, him =>
     (simp only [List.getElem?_toArray, List.getElem?_cons_succ, List.getElem?_cons_zero, Option.some.injEq] at ho; subst ho)
     obtain ⟨a, ha, e8⟩ : ∃ a : Nat, a ≤ 3 ∧ HavG.slot a' 72 = .int .i64 ((n : Int) - a) := hd 8 (by kernel_rfl) (by decide)
     have d72 : a'.tmps.getD 72 undef = .int .i64 ((n : Int) - a) := e8
     have c72 : a'.tmps[72]?.getD undef = .int .i64 ((n : Int) - a) := by rw [← Array.getD_eq_getD_getElem?]; exact d72
     have hm : ∀ w, (Builtin.max_ #[3, 3] 3 #[.int .i64 0, .int .i64 ((n : Int) - a)]).run Try.prog w = .ok (.int .i64 ((n - a : Nat) : Int)) w := fun w => by rw [max_run]; congr 2; omega
     refine HavG.tabY_val rfl (by simp) ⟨.int .i64 ((n - a : Nat) : Int), w', ?_, ⟨HavG.Rel.refl _ _, cntJ_skip (by decide) (by decide) hj⟩, fun _ _ _ _ _ h => h, fun _ _ _ _ h => h, fun V _ hv => ⟨a, ha, hv⟩, fun h => by simp at h⟩
     go_simp
     try rfl
    | 10, _, ho, hd, hps, hsl, him =>
     (simp only [List.getElem?_toArray, List.getElem?_cons_succ, List.getElem?_cons_zero, Option.some.injEq] at ho; subst ho)
     have s13 : a'.tmps[13]?.getD undef = (.int .i64 n) := by rw [← Array.getD_eq_getD_getElem?]; exact hag.slot 13 (by kernel_rfl)
     have r13 : a'.tmps.getD 13 undef = (.int .i64 n) := hag.slot 13 (by kernel_rfl)
     refine HavG.tabY_val rfl (by simp) ⟨.int .i64 n, w', ?_, ⟨HavG.Rel.refl _ _, cntJ_skip (by decide) (by decide) hj⟩, fun _ _ _ _ _ h => h, fun _ _ _ _ h => h, fun V _ hv => hv, fun h => by simp at h⟩
     go_simp
     try rfl
    | 11, _, ho, hd, hps, hsl, him =>
     (simp only [List.getElem?_toArray, List.getElem?_cons_succ, List.getElem?_cons_zero, Option.some.injEq] at ho; subst ho)
     have s1 : a'.tmps[1]?.getD undef = (.func (.func 98) #[] #[.pointer (some ⟨c, 0, none⟩), .pointer (some ⟨s, 0, none⟩)]) := by rw [← Array.getD_eq_getD_getElem?]; exact hag.slot 1 (by kernel_rfl)
     have r1 : a'.tmps.getD 1 undef = (.func (.func 98) #[] #[.pointer (some ⟨c, 0, none⟩), .pointer (some ⟨s, 0, none⟩)]) := hag.slot 1 (by kernel_rfl)
     refine HavG.tabY_val rfl (by simp) ⟨(Value.func (.func 98) #[] #[.pointer (some ⟨c, 0, none⟩), .pointer (some ⟨s, 0, none⟩)]), w', ?_, ⟨HavG.Rel.refl _ _, cntJ_skip (by decide) (by decide) hj⟩, fun _ _ _ _ _ h => h, fun _ _ _ _ h => h, fun V _ hv => hv, fun h => by simp at h⟩
     go_simp
     try rfl
    | 12, _, ho, hd, hps, hsl, him =>
     (simp only [List.getElem?_toArray, List.getElem?_cons_succ, List.getElem?_cons_zero, Option.some.injEq] at ho; subst ho)
     refine HavG.tabY_call rfl (by simp) (f := 30) (args := #[.int .i64 0, .int .i64 3]) (by go_simp; try rfl) ((lspan_any 0 3 w').mono ?_)
     rintro e w2 ⟨rfl, HB⟩
     exact ⟨_, rfl, ⟨⟨Turn.of_below HB, fun i => i.elim⟩, cntJ_below (cntJ_skip (by decide) (by decide) hj) HB⟩, fun j V _ _ _ h => t15_grow h HB, fun j _ _ _ h => t15S_grow h HB, fun V _ hv => hv, fun h => by simp at h⟩
    | 13, _, ho, hd, hps, hsl, him =>
     (simp only [List.getElem?_toArray, List.getElem?_cons_succ, List.getElem?_cons_zero, Option.some.injEq] at ho; subst ho)
     have e1 : HavG.slot a' 75 = (.func (.func 98) #[] #[.pointer (some ⟨c, 0, none⟩), .pointer (some ⟨s, 0, none⟩)]) := hd 11 (by kernel_rfl) (by decide)
     have e2 : HavG.slot a' 76 = .agg #[.int .i64 ((0 : Nat) : Int), .int .i64 ((3 : Nat) : Int)] := hd 12 (by kernel_rfl) (by decide)
     have d1 : a'.tmps.getD 75 undef = (.func (.func 98) #[] #[.pointer (some ⟨c, 0, none⟩), .pointer (some ⟨s, 0, none⟩)]) := e1
     have c1 : a'.tmps[75]?.getD undef = (.func (.func 98) #[] #[.pointer (some ⟨c, 0, none⟩), .pointer (some ⟨s, 0, none⟩)]) := by rw [← Array.getD_eq_getD_getElem?]; exact e1
     have d2 : a'.tmps.getD 76 undef = .agg #[.int .i64 ((0 : Nat) : Int), .int .i64 ((3 : Nat) : Int)] := e2
     have c2 : a'.tmps[76]?.getD undef = .agg #[.int .i64 ((0 : Nat) : Int), .int .i64 ((3 : Nat) : Int)] := by rw [← Array.getD_eq_getD_getElem?]; exact e2
     obtain ⟨M, hM, hc, hnx⟩ := cntJ_q him hnd (by decide) hj
     refine HavG.tabY_call rfl (by simp) (f := 98) (args := #[.agg #[.int .i64 ((0 : Nat) : Int), .int .i64 ((3 : Nat) : Int)], .pointer (some ⟨c, 0, none⟩), .pointer (some ⟨s, 0, none⟩)]) (by go_simp; try rfl) ((draw98_any (by omega) (by omega) (by omega) w' (HSB.out.turn hg.1 HSS.out) hc (Nat.le_trans hBK hg.1.size) hBc (HU.out.turn hBK hg.1 HSB2.out)).mono ?_)
     rintro e w2 ⟨⟨v, rfl, hv1, hv2⟩, hc2, ht⟩
     exact ⟨_, rfl, ⟨⟨ht.mono (fun b e => .inl e), fun i => i.elim⟩, hnx _ hc2⟩, fun j V _ _ _ h => t15_turn h ht HFC.out, fun j _ _ _ h => t15S_turn h ht HFC.out, fun V _ hv => ⟨v, hv2, hv⟩, fun h => by simp at h⟩
    | 14, _, ho, hd, hps, hsl, him =>
     (simp only [List.getElem?_toArray, List.getElem?_cons_succ, List.getElem?_cons_zero, Option.some.injEq] at ho; subst ho)
     obtain ⟨a, ha, e7⟩ : ∃ a : Nat, a ≤ 3 ∧ HavG.slot a' 77 = .int .i64 a := hd 13 (by kernel_rfl) (by decide)
     have d74 : a'.tmps.getD 74 undef = (.int .i64 n) := hd 10 (by kernel_rfl) (by decide)
     have c74 : a'.tmps[74]?.getD undef = (.int .i64 n) := by rw [← Array.getD_eq_getD_getElem?]; exact d74
     have d77 : a'.tmps.getD 77 undef = .int .i64 a := e7
     have c77 : a'.tmps[77]?.getD undef = .int .i64 a := by rw [← Array.getD_eq_getD_getElem?]; exact d77
     have hw : IntKind.i64.wrap ((n : Int) + a) = (n : Int) + a := IntWalk.i64_in _ (by omega)
     refine HavG.tabY_val rfl (by simp) ⟨.int .i64 ((n : Int) + a), w', ?_, ⟨HavG.Rel.refl _ _, cntJ_skip (by decide) (by decide) hj⟩, fun _ _ _ _ _ h => h, fun _ _ _ _ h => h, fun V _ hv => ⟨a, ha, hv⟩, fun h => by simp at h⟩
     go_simp
     try rfl
    | 15, _, ho, hd, hps, hsl, him =>
     (simp only [List.getElem?_toArray, List.getElem?_cons_succ, List.getElem?_cons_zero, Option.some.injEq] at ho; subst ho)
     obtain ⟨a, ha, e9⟩ : ∃ a : Nat, a ≤ 3 ∧ HavG.slot a' 73 = .int .i64 ((n - a : Nat) : Int) := hd 9 (by kernel_rfl) (by decide)
     obtain ⟨b, hb, e14⟩ : ∃ b : Nat, b ≤ 3 ∧ HavG.slot a' 78 = .int .i64 ((n : Int) + b) := hd 14 (by kernel_rfl) (by decide)
     have d67 : a'.tmps.getD 67 undef = (.int .i64 (dn : Int)) := hd 3 (by kernel_rfl) (by decide)
     have c67 : a'.tmps[67]?.getD undef = (.int .i64 (dn : Int)) := by rw [← Array.getD_eq_getD_getElem?]; exact d67
     have d73 : a'.tmps.getD 73 undef = .int .i64 ((n - a : Nat) : Int) := e9
     have c73 : a'.tmps[73]?.getD undef = .int .i64 ((n - a : Nat) : Int) := by rw [← Array.getD_eq_getD_getElem?]; exact d73
     have d78 : a'.tmps.getD 78 undef = .int .i64 ((n : Int) + b) := e14
     have c78 : a'.tmps[78]?.getD undef = .int .i64 ((n : Int) + b) := by rw [← Array.getD_eq_getD_getElem?]; exact d78
     refine HavG.tabY_call rfl (by simp) (f := 40) (args := #[.int .i64 (dn : Int), .int .i64 ((n - a : Nat) : Int), .int .i64 ((n : Int) + b)]) (by go_simp; try rfl) ((look_any _ _ _ w').mono ?_)
     rintro e w2 ⟨rfl, HB⟩
     exact ⟨_, rfl, ⟨⟨Turn.of_below HB, fun i => i.elim⟩, cntJ_below (cntJ_skip (by decide) (by decide) hj) HB⟩, fun j V _ _ _ h => t15_grow h HB, fun j _ _ _ h => t15S_grow h HB, fun V _ hv => ⟨a, b, ha, hb, hv⟩, fun h => by simp at h⟩
    | 16, _, ho, hd, hps, hsl, him =>
     (simp only [List.getElem?_toArray, List.getElem?_cons_succ, List.getElem?_cons_zero, Option.some.injEq] at ho; subst ho)
     obtain ⟨a, b, ha, hb, e15⟩ : ∃ a b : Nat, a ≤ 3 ∧ b ≤ 3 ∧ HavG.slot a' 79 = .agg #[.int .i64 (dn : Int), .int .i64 ((n - a : Nat) : Int), .int .i64 ((n : Int) + b)] := hd 15 (by kernel_rfl) (by decide)
     have d79 : a'.tmps.getD 79 undef = .agg #[.int .i64 (dn : Int), .int .i64 ((n - a : Nat) : Int), .int .i64 ((n : Int) + b)] := e15
     have c79 : a'.tmps[79]?.getD undef = .agg #[.int .i64 (dn : Int), .int .i64 ((n - a : Nat) : Int), .int .i64 ((n : Int) + b)] := by rw [← Array.getD_eq_getD_getElem?]; exact d79
     have HB : Below w'.heap.size w' (w'.alloc (.cells #[Value.int .i64 (dn : Int), .int .i64 ((n - a : Nat) : Int), .int .i64 ((n : Int) + b)] 58)) := (Below.refl _ _).alloc (Nat.le_refl _) _
     refine HavG.tabY_val rfl (by simp) ⟨.slice (some ⟨w'.heap.size, 0, none⟩) 1 1, w'.alloc (.cells #[Value.int .i64 (dn : Int), .int .i64 ((n - a : Nat) : Int), .int .i64 ((n : Int) + b)] 58), ?_, ⟨⟨Turn.of_below HB, fun i => i.elim⟩, cntJ_below (cntJ_skip (by decide) (by decide) hj) HB⟩, fun j V _ _ _ h => t15_grow h HB, fun j _ _ _ h => t15S_grow h HB, fun V _ hv => ⟨a, b, w'.heap.size, ha, hb, hv, hg.1.size, Blk.new w' 58 _⟩, fun h => by simp at h⟩
     go_simp
     try rfl
    | 17, _, ho, hd, hps, hsl, him =>
     (simp only [List.getElem?_toArray, List.getElem?_cons_succ, List.getElem?_cons_zero, Option.some.injEq] at ho; subst ho)
     have e1 : HavG.slot a' 65 = (Value.slice lA k lp) := hd 1 (by kernel_rfl) (by decide)
     obtain ⟨a, b, g, ha, hb, e16, hgB, hk16⟩ : ∃ a b g : Nat, a ≤ 3 ∧ b ≤ 3 ∧ HavG.slot a' 80 = .slice (some ⟨g, 0, none⟩) 1 1 ∧ K.heap.size ≤ g ∧ Blk w' g 58 #[Value.int .i64 (dn : Int), .int .i64 ((n - a : Nat) : Int), .int .i64 ((n : Int) + b)] := hd 16 (by kernel_rfl) (by decide)
     have hps' : w'.ownsRow w.heap.size 58 3 (Value.slice lA k lp) k (lks.flatMap lkI) := hps
     obtain ⟨g2, cp, w2, hrun, hown, ht, hgg⟩ := append_at (P := Try.prog) w.heap.size 25 25 58 i0 _ 3 24 Try.underlying25 HI.out HI0.out HI1.out HI2.out rfl (by decide) (Value.slice lA k lp) k _ hps' ⟨g, 0, none⟩ 1 [Value.int .i64 (dn : Int), .int .i64 ((n - a : Nat) : Int), .int .i64 ((n : Int) + b)] rfl (news_block hk16) (by simp [Value.oneCell']) (by omega) (by omega) (Nat.le_trans hB1 hg.1.size)
     exact HavG.tabY_val rfl (by simp) ⟨_, w2, append_oper rfl e1 e16 hrun, ⟨⟨ht.mono (fun b e => .inr (.inr e)), fun i => i.elim⟩, cntJ_turn (cntJ_skip (by decide) (by decide) hj) ht HCV.out⟩, fun j V hj hji hbf h => t15_app h ht HFV.out hji (by intro e; subst e; exact Bool.false_ne_true (hbf.symm.trans (by kernel_rfl))), fun j _ hji _ h => t15S_app h ht HFV.out HB4.out hji, fun V _ hv => ⟨a, b, g2, cp, ha, hb, hv, hown⟩, fun h => by simp at h⟩
    | 18, _, ho, hd, hps, hsl, him =>
     (simp only [List.getElem?_toArray, List.getElem?_cons_succ, List.getElem?_cons_zero, Option.some.injEq] at ho; subst ho)
     have s4 : a'.tmps[4]?.getD undef = (.pointer (some ⟨b4, 0, none⟩)) := by rw [← Array.getD_eq_getD_getElem?]; exact hag.slot 4 (by kernel_rfl)
     have r4 : a'.tmps.getD 4 undef = (.pointer (some ⟨b4, 0, none⟩)) := hag.slot 4 (by kernel_rfl)
     refine HavG.tabY_val rfl (by simp) ⟨.pointer (some ⟨b4, 6, none⟩), w', ?_, ⟨HavG.Rel.refl _ _, cntJ_skip (by decide) (by decide) hj⟩, fun _ _ _ _ _ h => h, fun _ _ _ _ h => h, fun V _ hv => hv, fun h => by simp at h⟩
     go_simp
     try rfl
    | 19, _, ho, hd, hps, hsl, him =>
     (simp only [List.getElem?_toArray, List.getElem?_cons_succ, List.getElem?_cons_zero, Option.some.injEq] at ho; subst ho)
     have d82 : a'.tmps.getD 82 undef = (.pointer (some ⟨b4, 6, none⟩)) := hd 18 (by kernel_rfl) (by decide)
     have c82 : a'.tmps[82]?.getD undef = (.pointer (some ⟨b4, 6, none⟩)) := by rw [← Array.getD_eq_getD_getElem?]; exact d82
     obtain ⟨a, b, g, cp, ha, hb, e17, ho⟩ : ∃ a b g cp : Nat, a ≤ 3 ∧ b ≤ 3 ∧ HavG.slot a' 81 = .slice (some ⟨g, 0, none⟩) (k + 1) cp ∧ w'.ownsRow w.heap.size 58 3 (.slice (some ⟨g, 0, none⟩) (k + 1) cp) (k + 1) (lks.flatMap lkI ++ [Value.int .i64 (dn : Int), .int .i64 ((n - a : Nat) : Int), .int .i64 ((n : Int) + b)]) := hd 17 (by kernel_rfl) (by decide)
     have d81 : a'.tmps.getD 81 undef = .slice (some ⟨g, 0, none⟩) (k + 1) cp := e17
     have c81 : a'.tmps[81]?.getD undef = .slice (some ⟨g, 0, none⟩) (k + 1) cp := by rw [← Array.getD_eq_getD_getElem?]; exact d81
     have hps' : Blk w' b4 27 #[.int .i64 r.depth.lo, .int .i64 r.depth.hi, .int .i64 r.fall.lo, .int .i64 r.fall.hi, .int .i64 r.days, .slice fa fl fc, (Value.slice lA k lp)] := hps
     have z5 := hps'.cell 6
     have z6 := hps'.frozen 6
     have zl := hps'.lt
     simp at z5
     have hset : Turn (fun b => b = b4) w' (w'.setCell ⟨b4, 6, none⟩ (.slice (some ⟨g, 0, none⟩) (k + 1) cp)) := Turn.set _ _ (fun _ => rfl)
     have hnew : Blk (w'.setCell ⟨b4, 6, none⟩ (.slice (some ⟨g, 0, none⟩) (k + 1) cp)) b4 27 #[.int .i64 r.depth.lo, .int .i64 r.depth.hi, .int .i64 r.fall.lo, .int .i64 r.fall.hi, .int .i64 r.days, .slice fa fl fc, .slice (some ⟨g, 0, none⟩) (k + 1) cp] := by have h := hps'.set_ 6 (.slice (some ⟨g, 0, none⟩) (k + 1) cp); simpa using h
     have hb4 : b4 < w.heap.size := HB4.out
     refine HavG.tabY_store rfl rfl (by simp) ⟨w'.setCell ⟨b4, 6, none⟩ (.slice (some ⟨g, 0, none⟩) (k + 1) cp), ?_, ⟨⟨hset.mono (fun b e => .inr (.inl e)), fun i => i.elim⟩, cntJ_turn (cntJ_skip (by decide) (by decide) hj) hset HCB.out⟩, fun j V _ hji _ h => t15_set h hset HFB.out hji, fun j _ hji hbf h => t15S_set h hset HFB.out hji (by intro e; subst e; exact Bool.false_ne_true (hbf.symm.trans (by kernel_rfl))) (by intro e; subst e; exact Bool.false_ne_true (hbf.symm.trans (by kernel_rfl))), fun V _ => ⟨a, b, g, cp, ha, hb, hnew, own_turn ho hset (fun q hq e => by cases hq; have := (own_blk ho).choose_spec.2.1; have e' : g = b4 := e; omega)⟩⟩
     clear hnew hset hps hps' e17
     go_simp
     try rfl
    | j + 20, hj, _, _, _, _, _ => exact absurd hj (by simp)
   intro f w2 hg hjj hf _
   have q64 : f 64 = _ := hf 0 (by decide)
   have q65 : f 65 = _ := hf 1 (by decide)
   have q66 : f 66 = _ := hf 2 (by decide)
   have q67 : f 67 = _ := hf 3 (by decide)
   have q68 : f 68 = _ := hf 4 (by decide)
   have q69 : f 69 = _ := hf 5 (by decide)
   have q70 : f 70 = _ := hf 6 (by decide)
   have q74 : f 74 = _ := hf 10 (by decide)
   have q75 : f 75 = _ := hf 11 (by decide)
   have q76 : f 76 = _ := hf 12 (by decide)
   have q82 : f 82 = _ := hf 18 (by decide)
   obtain ⟨a71, -, q71⟩ : ∃ a : Nat, a ≤ 3 ∧ f 71 = .int .i64 a := hf 7 (by decide)
   obtain ⟨a72, -, q72⟩ : ∃ a : Nat, a ≤ 3 ∧ f 72 = .int .i64 ((n : Int) - a) := hf 8 (by decide)
   obtain ⟨a73, -, q73⟩ : ∃ a : Nat, a ≤ 3 ∧ f 73 = .int .i64 ((n - a : Nat) : Int) := hf 9 (by decide)
   obtain ⟨a77, -, q77⟩ : ∃ a : Nat, a ≤ 3 ∧ f 77 = .int .i64 a := hf 13 (by decide)
   obtain ⟨a78, -, q78⟩ : ∃ a : Nat, a ≤ 3 ∧ f 78 = .int .i64 ((n : Int) + a) := hf 14 (by decide)
   obtain ⟨a79, b79, -, -, q79⟩ : ∃ a b : Nat, a ≤ 3 ∧ b ≤ 3 ∧ f 79 = .agg #[Value.int .i64 (dn : Int), .int .i64 ((n - a : Nat) : Int), .int .i64 ((n : Int) + b)] := hf 15 (by decide)
   obtain ⟨a80, b80, g80, -, -, q80, -, -⟩ : ∃ a b g : Nat, a ≤ 3 ∧ b ≤ 3 ∧ f 80 = .slice (some ⟨g, 0, none⟩) 1 1 ∧ K.heap.size ≤ g ∧ Blk w2 g 58 #[Value.int .i64 (dn : Int), .int .i64 ((n - a : Nat) : Int), .int .i64 ((n : Int) + b)] := hf 16 (by decide)
   obtain ⟨a81, b81, g81, p81, -, -, q81, -⟩ : ∃ a b g cp : Nat, a ≤ 3 ∧ b ≤ 3 ∧ f 81 = .slice (some ⟨g, 0, none⟩) (k + 1) cp ∧ w2.ownsRow w.heap.size 58 3 (.slice (some ⟨g, 0, none⟩) (k + 1) cp) (k + 1) (lks.flatMap lkI ++ [Value.int .i64 (dn : Int), .int .i64 ((n - a : Nat) : Int), .int .i64 ((n : Int) + b)]) := hf 17 (by decide)
   obtain ⟨a, b, g, cp, ha, hb, hb4n, hon⟩ : ∃ a b g cp : Nat, a ≤ 3 ∧ b ≤ 3 ∧ Blk w2 b4 27 #[.int .i64 r.depth.lo, .int .i64 r.depth.hi, .int .i64 r.fall.lo, .int .i64 r.fall.hi, .int .i64 r.days, .slice fa fl fc, .slice (some ⟨g, 0, none⟩) (k + 1) cp] ∧ w2.ownsRow w.heap.size 58 3 (.slice (some ⟨g, 0, none⟩) (k + 1) cp) (k + 1) (lks.flatMap lkI ++ [Value.int .i64 (dn : Int), .int .i64 ((n - a : Nat) : Int), .int .i64 ((n : Int) + b)]) := hf 19 (by decide)
   have tg := hg.1
   simp only [List.filterMap, HavG.puts, List.foldl_cons, List.foldl_nil, Act.put, List.setIfInBounds_toArray, List.set_cons_succ, List.set_cons_zero]
   rw [q64, q65, q66, q67, q68, q69, q70, q71, q72, q73, q74, q75, q76, q77, q78, q79, q80, q81, q82]
   clear hf q64 q65 q66 q67 q68 q69 q70 q71 q72 q73 q74 q75 q76 q77 q78 q79 q80 q81 q82 hg
   have HJ : Hid (Cnt c (N + 2 * (k + 1)) w2) := by have h := cntJ_end hjj; exact h
   have HR4 : Hid (Blk w2 b4 27 #[.int .i64 r.depth.lo, .int .i64 r.depth.hi, .int .i64 r.fall.lo, .int .i64 r.fall.hi, .int .i64 r.days, .slice fa fl fc, .slice (some ⟨g, 0, none⟩) (k + 1) cp]) := hb4n
   have HRO : Hid (w2.ownsRow w.heap.size 58 3 (.slice (some ⟨g, 0, none⟩) (k + 1) cp) (k + 1) ((lks ++ [(⟨(dn : Int), ⟨((n - a : Nat) : Int), (n : Int) + b⟩⟩ : ILk)]).flatMap lkI)) := by rw [List.flatMap_append]; exact hon
   have HRT : Hid (Turn (fun b => b = c ∨ b = b4) w w2) := HTK.out.join tg (fun b e hb => by
    rcases e with e | e | e
    ·exact .inl e
    ·exact .inr e
    ·have := HFV.out b e; omega)
   have HRL : Hid (LooksOk r t (lks ++ [(⟨(dn : Int), ⟨((n - a : Nat) : Int), (n : Int) + b⟩⟩ : ILk)])) := HLO.out.snoc HLN.out HL0.out HNN.out ha hb
   have HRN : Hid ((lks ++ [(⟨(dn : Int), ⟨((n - a : Nat) : Int), (n : Int) + b⟩⟩ : ILk)]).length = k + 1) := by show _ = _; rw [List.length_append, HLN.out]; rfl
   clear hb4n hon tg hjj
   go_wp2
   go_roundw
   case rel => exact ⟨k + 1, _, some ⟨g, 0, none⟩, cp, by omega, by go_num, HRN, HRL, HR4, HRO, HJ, HRT⟩
   case measure => simp [intOf]; omega
  ·obtain rfl : k = ll := by omega
   have HFIN : Hid (∀ (c0 c3 c8 c9 c10 c11 c12 c13 c14 c15 c16 c17 c18 c19 c20 c21 c22 c23 c24 c25 c26 c27 c28 c29 c30 c31 c32 c33 c34 c35 c36 c37 c38 c39 c40 c41 c42 c43 c44 c45 c46 c47 c48 c49 c50 c51 c52 c53 c54 c55 c56 c57 c58 c59 c60 c61 c62 c63 c64 c65 c66 c67 c68 c69 c70 c71 c72 c73 c74 c75 c76 c77 c78 c79 c80 c81 c82 c83 c84 c85 c86 c87 : Value), Code.wp Try.prog (trulyK 8) (bodyPost Try.prog Try.f36 (TrulyPost c fa fl fc r w0)) ⟨(c0::(.func (.func 98) #[] #[.pointer (some ⟨c, 0, none⟩), .pointer (some ⟨s, 0, none⟩)])::(.pointer (some ⟨b2, 0, none⟩))::c3::(.pointer (some ⟨b4, 0, none⟩))::(.int .i64 t.by_)::dv::(.slice (some ⟨gp, 0, none⟩) (r.nat.days + 1) cpp)::c8::c9::c10::c11::c12::c13::c14::c15::c16::c17::c18::c19::c20::c21::c22::c23::c24::c25::c26::c27::c28::c29::c30::c31::c32::c33::c34::c35::c36::c37::c38::c39::c40::c41::c42::c43::c44::c45::c46::c47::c48::c49::c50::c51::c52::c53::c54::c55::c56::c57::c58::c59::c60::c61::c62::c63::c64::c65::c66::c67::c68::c69::c70::c71::c72::c73::c74::c75::c76::c77::c78::c79::c80::c81::c82::c83::c84::c85::c86::c87::[]).toArray, []⟩ wr) := by
    have far : ∀ {v : Value} {sz n : Nat} {xs : List Value}, w.ownsRow w0.heap.size 3 sz v n xs → wr.ownsRow w0.heap.size 3 sz v n xs := fun ho => own_turn ho HTR.out (fun g hg e => by
     obtain ⟨hge, cs, hcs⟩ := own_block ho hg
     rcases e with e | e
     ·omega
     ·exact blk_ne hcs H4.out (by decide) e)
    exact truly8 (HTT.out.looks HLO.out (HLN.out.trans HELL.out.symm)) (HT.out.join HTR.out (fun b e hb => by rcases e with e | e; exact e; omega)) HX0.out h40 (by rw [HELL.out]; exact own_base HO0.out hBW0) (far HOD.out) (far HOP.out)
   go_wp2
   exact HFIN.out _ _ _ _ _ _ _ _ _ _ _ _ _ _ _ _ _ _ _ _ _ _ _ _ _ _ _ _ _ _ _ _ _ _ _ _ _ _ _ _ _ _ _ _ _ _ _ _ _ _ _ _ _ _ _ _ _ _ _ _ _ _ _ _ _ _ _ _ _ _ _ _ _ _ _ _ _ _ _ _ _ _
end
end Go.Proofs.Ytiodmkokpfgkkaa
