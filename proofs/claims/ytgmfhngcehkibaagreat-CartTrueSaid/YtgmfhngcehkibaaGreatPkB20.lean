/- The search: what all lots that are left are worth together. Condition: what the statements say. -/
import Derived.Test.YtgmfhngcehkibaaGreatPkB19
set_option maxRecDepth 100000
set_option maxHeartbeats 6400000
namespace Go.Proofs.YtgmfhngcehkibaaGreat
open Go.RowKit Go.Hav Go.Shelf Go.Sq
attribute [local go_sem] Oper.semAt_some
section
variable {fa la wa ta : Option Addr} {fl fc ll lc wn wc tn tc : Nat} {c : ICart}
variable {w w' : World} {B d k b1 b2 b3 b4 fo : Nat} {of_ : ILot → IWag → Int}
theorem GM.set {F : Left4 → Int × Int} {X : World} (h : (GM k F).G w X) {p : Addr} (hp : w.heap.size ≤ p.block) (hk : p.block ≠ k) (v : Value) : (GM k F).G w (X.setCell p v) :=
 ⟨⟨h.1.os, h.1.tape, h.1.output, by simp; exact h.1.size, fun b hb hn => (Below.heap_setCell X p v b (by omega)).trans (h.1.block b hb hn)⟩, fun hm => (h.2 hm).keep (Below.heap_setCell X p v k (Ne.symm hk))⟩
theorem GM.alloc {F : Left4 → Int × Int} {X : World} (h : (GM k F).G w X) (o : Obj) : (GM k F).G w (X.alloc o) := (GM k F).trans h (GM.below ((Below.refl _ _).alloc (Nat.le_refl _) _))
theorem rd_two {X : World} {g : Nat} {a b : Int} (h : Blk X g 3 #[.int .i64 a, .int .i64 b]) : RdG inI 1 X X.heap.size (some ⟨g, 0, none⟩) [a, b] := fun i x hx => by
 refine ⟨g, 0, rfl, h.lt, fun j v hv => ?_⟩
 match i, hx with
 | 0, hx => cases hx; match j, hv with | 0, hv => cases hv; exact h.cell 0
 | 1, hx => cases hx; match j, hv with | 0, hv => cases hv; exact h.cell 1
theorem GM.own {F : Left4 → Int × Int} {X Y : World} {S : Nat → Prop} (h : (GM k F).G w X) (t : Turn S X Y) (hs : ∀ b, S b → w.heap.size ≤ b ∧ b ≠ k) : (GM k F).G w Y :=
 ⟨⟨t.os.trans h.1.os, t.tape.trans h.1.tape, t.output.trans h.1.output, Nat.le_trans h.1.size t.size, fun b hb hn => (t.block b (Nat.lt_of_lt_of_le hb h.1.size) (fun e => by have := (hs b e).1; omega)).trans (h.1.block b hb hn)⟩, fun hm => (h.2 hm).keep (t.block k (h.2 hm).lt (fun e => (hs k e).2 rfl))⟩
theorem MoIn.own {X Y : World} {S : Nat → Prop} (h : MoIn X B d k b1 b2 b3 b4 fo of_ fa fl fc la ll lc wa wn wc ta tn tc c) (t : Turn S X Y) (hs : ∀ b, S b → B ≤ b ∧ b ≠ k ∧ b ≠ d ∧ b ≠ b1 ∧ b ≠ b2 ∧ b ≠ b3 ∧ b ≠ b4) : MoIn Y B d k b1 b2 b3 b4 fo of_ fa fl fc la ll lc wa wn wc ta tn tc c :=
 ⟨h.yd.turn t (fun b e => (hs b e).1) (fun e => (hs d e).2.2.1 rfl), h.c1.turn t (fun e => (hs b1 e).2.2.2.1 rfl), h.c2.turn t (fun e => (hs b2 e).2.2.2.2.1 rfl), h.c3.turn t (fun e => (hs b3 e).2.2.2.2.2.1 rfl), h.c4.turn t (fun e => (hs b4 e).2.2.2.2.2.2 rfl), h.map.keep (t.block k h.map.lt (fun e => (hs k e).2.1 rfl)), h.hk⟩
theorem cinfoE137 : (Tryz.prog.info? 137).map (fun i => (i.zero, i.size, i.bytes)) = some (some (.agg #[.int .i64 0, .int .i64 0]), 2, 16) := by kernel_rfl
theorem field137 (a b : Int) (w : World) : (Instr.field 137 (.agg #[.int .i64 a, .int .i64 b]) 0).run Tryz.prog w = .ok (.int .i64 a) w := by kernel_rfl
theorem field137b (a b : Int) (w : World) : (Instr.field 137 (.agg #[.int .i64 a, .int .i64 b]) 1).run Tryz.prog w = .ok (.int .i64 b) w := by kernel_rfl
theorem own_len {α : Type} (f : α → List Value) (sz : Nat) (hsz : ∀ x, (f x).length = sz) (h0 : 0 < sz) {B g n cp : Nat} {e : TypeId} {l : List α} (h : w.ownsRow B e sz (.slice (some ⟨g, 0, none⟩) n cp) n (l.flatMap f)) : l.length = n := by
 obtain ⟨cur, _, _, hn, _, hs, ht⟩ := own_blk h; have h1 := congrArg List.length ht; rw [flat_len f sz hsz, List.length_take, Array.length_toList, hs] at h1; have h2 : n * sz ≤ cp * sz := Nat.mul_le_mul hn (Nat.le_refl _); rw [Nat.min_eq_left h2] at h1; exact (Nat.eq_of_mul_eq_mul_right h0 h1).symm
theorem on_step (m : Nat) (IH : Hid (∀ m', m = m' + 1 → ∀ (t : Left4) (w : World), t.Ok → t.lot + m' = tn → MoIn w B d k b1 b2 b3 b4 fo of_ fa fl fc la ll lc wa wn wc ta tn tc c → Calls Tryz.prog 102 #[leftV t, .pointer (some ⟨b1, 0, none⟩), .pointer (some ⟨b2, 0, none⟩), .pointer (some ⟨b3, 0, none⟩), .pointer (some ⟨b4, 0, none⟩)] w fun e w' => e = .returned (wayV (onF of_ c t)) ∧ (GM k (onF of_ c)).G w w'))
  (hO : IsOf fo of_) (hbd : ∀ l ∈ c.lt, ∀ g ∈ c.wg, 0 ≤ of_ l g ∧ of_ l g ≤ 1000) (t : Left4) (ht : t.Ok) (hm : t.lot + m = tn) (hM : MoIn w B d k b1 b2 b3 b4 fo of_ fa fl fc la ll lc wa wn wc ta tn tc c) :
  Calls Tryz.prog 102 #[leftV t, .pointer (some ⟨b1, 0, none⟩), .pointer (some ⟨b2, 0, none⟩), .pointer (some ⟨b3, 0, none⟩), .pointer (some ⟨b4, 0, none⟩)] w fun e w' => e = .returned (wayV (onF of_ c t)) ∧ (GM k (onF of_ c)).G w w' := by
 have ht5 : tn ≤ 5 := by have := hM.yd.etn; have := (okC_parts hM.yd.ok).2.2.2.1; omega
 have hw3 : wn ≤ 3 := by have := hM.yd.ewn; have := (okC_parts hM.yd.ok).2.2.1; omega
 obtain ⟨W, hW⟩ : ∃ W, W = (w.alloc (.cells (leftC t) 135)).alloc (.cells #[.int .i64 0, .int .i64 0] 137) := ⟨_, rfl⟩; obtain ⟨p5, hp5⟩ : ∃ b, b = w.heap.size := ⟨_, rfl⟩; obtain ⟨p6, hp6⟩ : ∃ b, b = w.heap.size + 1 := ⟨_, rfl⟩; have HB : Hid (Below w.heap.size w W) := by rw [hW]; exact ((Below.refl _ _).alloc (Nat.le_refl _) _).alloc (by simp) _
 have HX5 : Hid (Blk W p5 135 (leftC t)) := by rw [hW, hp5]; exact (Blk.new w 135 _).alloc _
 have HX6 : Hid (Blk W p6 137 #[.int .i64 0, .int .i64 0]) := by rw [hW, hp6]; exact Blk.new_ (by simp) 137 _
 have HN : Hid (p5 = w.heap.size ∧ p6 = w.heap.size + 1) := ⟨hp5, hp6⟩; have HMW := Lib.hid (hM.keep (GM.below HB.out)); have HG0 : Hid ((GM k (onF of_ c)).G w W) := GM.below HB.out; have HO := Lib.hid hO; have HBD := Lib.hid hbd; have HT := Lib.hid ht; have y9 : W.cell? ⟨d, 9, none⟩ = some (.slice ta tn tc) := HMW.out.yd.blk.cell 9; have yl := HMW.out.yd.blk.lt; have z1 : W.cell? ⟨b1, 0, none⟩ = some (.pointer (some ⟨d, 0, none⟩)) := HMW.out.c1.cell 0; have zl := HMW.out.c1.lt; have x0 : W.cell? ⟨p5, 0, none⟩ = some (.int .i64 t.lot) := HX5.out.cell 0; have xl := HX5.out.lt; have hkne : p6 ≠ k := HMW.out.map.ne HX6.out; clear hO hbd ht hM; unfold leftV; dsimp only [leftC] at hW ⊢
 go_enter Tryz.func102, Tryz.ntmps102
 go_upto_region 1 with (fail); rw [← hp6, ← hp5, ← hW]; clear hW hp6 hp5
 refine wp_region_havoc [(0,false),(1,false),(2,false),(3,false),(4,false),(5,false),(6,false),(7,false),(8,false)] [] (fun _ _ => False) (by kernel_rfl) (by kernel_rfl) (fun _ _ _ _ h => h.elim) ?_
 (apply hav_same (by exact ho rfl) (by kernel_rfl); (focus (intro wv hgv _; have hcv := cvB hgv; (try go_simp); try rfl; done)); simp only [Act.put, List.setIfInBounds_toArray, List.set_cons_succ, List.set_cons_zero])
 iterate 8 (apply hav_same (by exact ho rfl) (by kernel_rfl); (focus (intro wv hgv _; have hcv := cvB hgv; (try go_simp); try rfl; done)); simp only [Act.put, List.setIfInBounds_toArray, List.set_cons_succ, List.set_cons_zero])
 refine hav_end (fun w1 hgz _ => ?_)
 simp only [List.filterMap]; have hb1 : Below W.heap.size W w1 := hgz; have HG1 : Hid ((GM k (onF of_ c)).G w w1) := (GM k (onF of_ c)).trans HG0.out (GM.below hb1); have HM1 := Lib.hid (HMW.out.keep (GM.below hb1)); have HY5 := Lib.hid (HX5.out.below hb1 HX5.out.lt); have HY6 := Lib.hid (HX6.out.below hb1 HX6.out.lt); clear hgz hb1 y9 yl z1 zl x0 xl
 cases m with
 | zero =>
  have hlt : t.lot = tn := by omega
  have HF : Hid (onF of_ c t = (0, 0)) := onF_end (by rw [HM1.out.yd.etn]; exact hlt)
  have v0 := HY6.out.cell 0; have v1 := HY6.out.cell 1; have g0 := HY6.out.frozen 0; have g1 := HY6.out.frozen 1; have vl := HY6.out.lt; simp at v0 v1; go_wp2; obtain ⟨W9, hW9⟩ : ∃ W9, W9 = (w1.setCell ⟨p6, 0, none⟩ (.int .i64 0)).setCell ⟨p6, 1, none⟩ (.int .i64 0) := ⟨_, rfl⟩; rw [← hW9]; have hk : Blk W9 p6 137 #[.int .i64 0, .int .i64 0] := by rw [hW9]; have h := (HY6.out.set_ 0 (.int .i64 0)).set_ 1 (.int .i64 0); simpa using h
  have hn : w.heap.size ≤ p6 := by have := HN.out; omega
  have hg9 : (GM k (onF of_ c)).G w W9 := by rw [hW9]; exact GM.set (GM.set HG1.out (p := ⟨p6, 0, none⟩) hn hkne _) (p := ⟨p6, 1, none⟩) hn hkne _
  have k0 := hk.cell 0; have k1 := hk.cell 1; simp at k0 k1; exact bodyPost_ret (by simp [results, Tryz.results102, go_sem, k0, k1]; rfl) rfl ⟨by rw [HF.out]; rfl, hg9⟩
 | succ m =>
  have hne : ((t.lot : Int) == (tn : Int)) = false := by simp; omega
  obtain ⟨is, hlk0⟩ := HM1.out.map.look t HT.out; have hlk := hlk0 w1 rfl; obtain ⟨⟨f1, f2⟩, hf⟩ : ∃ f, f = onF of_ c t := ⟨_, rfl⟩; have HF : Hid (onF of_ c t = (f1, f2)) := hf.symm; rw [← hf] at hlk; unfold leftV leftC at hlk; have x0 := HY5.out.cell 0; have x1 := HY5.out.cell 1; have x2 := HY5.out.cell 2; have x3 := HY5.out.cell 3; have xl := HY5.out.lt
  simp [leftC] at x0 x1 x2 x3
  have y2 := HM1.out.c2.cell 0; have yl := HM1.out.c2.lt; simp at y2; clear hlk0 hf; cases is
  ·simp only [Bool.false_eq_true, if_false, wayV, wayC] at hlk; have y3 := HM1.out.c3.cell 0; have y3l := HM1.out.c3.lt; simp at y3; obtain ⟨W2, hW2⟩ : ∃ W2, W2 = w1.alloc (.cells #[.int .i64 0, .int .i64 0] 137) := ⟨_, rfl⟩; have HG2 : Hid ((GM k (onF of_ c)).G w W2) := by rw [hW2]; exact GM.alloc HG1.out _
   have hg12 : (GM k (onF of_ c)).G w1 W2 := by rw [hW2]; exact GM.alloc ((GM k (onF of_ c)).refl _) _
   have HM2 := Lib.hid (HM1.out.keep hg12); have HZ5 : Hid (Blk W2 p5 135 (leftC t)) := by rw [hW2]; exact HY5.out.alloc _
   have HZ6 : Hid (Blk W2 p6 137 #[.int .i64 0, .int .i64 0]) := by rw [hW2]; exact HY6.out.alloc _
   have hwt : IntKind.i64.wrap ((t.lot : Int) + 1) = (t.lot : Int) + 1 := IntWalk.i64_in _ (by omega)
   have hIH := IH.out m rfl t.next W2 (Left4.next_ok HT.out (by omega)) (by show t.lot + 1 + m = tn; omega) HM2.out
   unfold leftV leftC Left4.next at hIH; simp only at hIH; rw [show ((t.lot + 1 : Nat) : Int) = (t.lot : Int) + 1 by omega] at hIH
   have HIH := Lib.hid hIH; clear hg12 hIH; go_wp2_with fail; rw [← hW2]; refine HIH.out.mono ?_; rintro e w3 ⟨rfl, hg3⟩; have HG3 : Hid ((GM k (onF of_ c)).G w w3) := (GM k (onF of_ c)).trans HG2.out hg3; have HM3 := Lib.hid (HM2.out.keep hg3); have HV5 := Lib.hid (HZ5.out.turn (GM.turn hg3) (HM2.out.map.ne HZ5.out)); have HV6 := Lib.hid (HZ6.out.turn (GM.turn hg3) (HM2.out.map.ne HZ6.out)); obtain ⟨⟨n1, n2⟩, hn1⟩ : ∃ f, f = onF of_ c t.next := ⟨_, rfl⟩; have HNX : Hid (onF of_ c t.next = (n1, n2)) := hn1.symm; rw [show onF of_ c { lot := t.lot + 1, a := t.a, b := t.b, c := t.c } = (n1, n2) from HNX.out]
   obtain ⟨W4, hW4⟩ : ∃ W4, W4 = w3.alloc (.cells #[.int .i64 n1, .int .i64 (-1)] 137) := ⟨_, rfl⟩; obtain ⟨g9, hg9⟩ : ∃ g, g = w3.heap.size := ⟨_, rfl⟩; have HG4 : Hid ((GM k (onF of_ c)).G w W4) := by rw [hW4]; exact GM.alloc HG3.out _
   have hg34 : (GM k (onF of_ c)).G w3 W4 := by rw [hW4]; exact GM.alloc ((GM k (onF of_ c)).refl _) _
   have HM4 := Lib.hid (HM3.out.keep hg34); have HU5 : Hid (Blk W4 p5 135 (leftC t)) := by rw [hW4]; exact HV5.out.alloc _
   have HU6 : Hid (Blk W4 p6 137 #[.int .i64 0, .int .i64 0]) := by rw [hW4]; exact HV6.out.alloc _
   have HU9 : Hid (Blk W4 g9 137 #[.int .i64 n1, .int .i64 (-1)]) := by rw [hW4, hg9]; exact Blk.new w3 137 _
   have HG9 : Hid (p5 < g9 ∧ p6 < g9 ∧ w.heap.size ≤ g9 ∧ k < g9 ∧ d < g9 ∧ B ≤ g9) := by rw [hg9]; exact ⟨HV5.out.lt, HV6.out.lt, HG3.out.1.size, HM3.out.map.lt, HM3.out.yd.blk.lt, HM3.out.yd.hB⟩
   have HGB : Hid (b1 < g9 ∧ b2 < g9 ∧ b3 < g9 ∧ b4 < g9) := by rw [hg9]; exact ⟨HM3.out.c1.lt, HM3.out.c2.lt, HM3.out.c3.lt, HM3.out.c4.lt⟩
   clear hlk y2 yl y3 y3l hg34 hg3 hn1; unfold wayV wayC; have hfl := field137; go_upto_region 7 with (fail); rw [← hg9, ← hW4]; clear hW4 hg9 hW2 hwt hfl x0 x1 x2 x3 xl; obtain ⟨l, hl⟩ : ∃ l, c.lt[t.lot]? = some l := ⟨c.lt[t.lot]'(by have := HM4.out.yd.etn; omega), by simp⟩
   have HL := Lib.hid hl
   have HOW : Hid (W4.ownsRow g9 137 2 (.slice (some ⟨g9, 0, none⟩) 1 1) 1 ((waysN of_ c t l 0).flatMap wayL)) := by
    have e : waysN of_ c t l 0 = [(n1, -1)] := by unfold waysN; rw [HNX.out]; rfl
    show W4.ownsRow _ _ _ _ _ _; rw [e]; exact ⟨rfl, .inr ⟨g9, 1, #[.int .i64 n1, .int .i64 (-1)], rfl, Nat.le_refl _, HU9.out, by omega, by unfold maxLen; omega, rfl, rfl⟩⟩
   have z1 := HM4.out.c1.cell 0; have zl := HM4.out.c1.lt; have y8 : W4.cell? ⟨d, 8, none⟩ = some (.slice wa wn wc) := HM4.out.yd.blk.cell 8; have yl := HM4.out.yd.blk.lt; simp at z1; clear hl; go_wp2; clear z1 zl y8 yl
   go_loopw [48, 9] (fun i v wr => ∃ (n q g cp : Nat), n ≤ wn ∧ i = .int .i64 n ∧ v = .slice (some ⟨g, 0, none⟩) q cp ∧ q ≤ n + 1 ∧ Hid (wr.ownsRow g9 137 2 (.slice (some ⟨g, 0, none⟩) q cp) q ((waysN of_ c t l n).flatMap wayL)) ∧ Hid ((GM k (onF of_ c)).G w wr) ∧ Hid (Blk wr p5 135 (leftC t)) ∧ Hid (Blk wr p6 137 #[.int .i64 0, .int .i64 0]) ∧ Hid (MoIn wr B d k b1 b2 b3 b4 fo of_ fa fl fc la ll lc wa wn wc ta tn tc c)) (fun i _ _ => wn - (intOf i).toNat)
   case atStart => exact ⟨0, 1, g9, 1, Nat.zero_le _, rfl, rfl, by omega, HOW, HG4, HU5, HU6, HM4⟩
   case round =>
    obtain ⟨n, q, g, cp, hn, rfl, rfl, hq, HO1, HGR, HR5, HR6, HMR⟩ := hrel
    by_cases hlt : n < wn
    ·obtain ⟨wg, hw⟩ : ∃ x, c.wg[n]? = some x := ⟨c.wg[n]'(by have := HMR.out.yd.ewn; omega), by simp⟩
     obtain ⟨bk, off, hwa, hbk, H0, H1, H2, H3⟩ := rd_wg HMR.out.yd.hwg n wg hw; subst hwa; have hbkw : bk < wr.heap.size := by have := HMR.out.yd.hB; omega
     have HW := Lib.hid hw; obtain ⟨gg0, ⟨gg1, gg2⟩, gg3⟩ := wg; simp only at H0 H1 H2 H3; obtain ⟨W5, hW5⟩ : ∃ W5, W5 = wr.alloc (.cells #[.int .i64 gg0, .int .i64 gg1, .int .i64 gg2, .int .i64 gg3] 65) := ⟨_, rfl⟩; obtain ⟨b11, hb11⟩ : ∃ b, b = wr.heap.size := ⟨_, rfl⟩; have hgr5 : (GM k (onF of_ c)).G wr W5 := by rw [hW5]; exact GM.alloc ((GM k (onF of_ c)).refl _) _
     have HG5 : Hid ((GM k (onF of_ c)).G w W5) := (GM k (onF of_ c)).trans HGR.out hgr5; have HX11 : Hid (Blk W5 b11 65 #[.int .i64 gg0, .int .i64 gg1, .int .i64 gg2, .int .i64 gg3]) := by rw [hW5, hb11]; exact Blk.new wr 65 _
     have HO5 : Hid (W5.ownsRow g9 137 2 (.slice (some ⟨g, 0, none⟩) q cp) q ((waysN of_ c t l n).flatMap wayL)) := by rw [hW5]; exact own_below HO1.out ((Below.refl _ _).alloc (Nat.le_refl _) _)
     have HS5 : Hid (Blk W5 p5 135 (leftC t)) := by rw [hW5]; exact HR5.out.alloc _
     have HS6 : Hid (Blk W5 p6 137 #[.int .i64 0, .int .i64 0]) := by rw [hW5]; exact HR6.out.alloc _
     have HM5 := Lib.hid (HMR.out.keep hgr5); have HB11 : Hid (g < b11) := by rw [hb11]; exact (own_blk HO1.out).choose_spec.1.lt
     clear hw hbk hgr5; go_upto_region 10 with (fail); rw [← hW5, ← hb11]; clear hW5 hb11 H0 H1 H2 H3 hbkw; obtain ⟨bl, ol, hta, hbl, L0, L1, L2, L3, L4⟩ := rd_lt HM5.out.yd.hlt t.lot l HL.out; subst hta; have hblw : bl < W5.heap.size := by have := HM5.out.yd.hB; omega
     have HLB := Lib.hid ((okC_parts HM5.out.yd.ok).2.2.2.2.2 l (List.mem_of_getElem? HL.out)); obtain ⟨l0, l1, l2, l3, l4⟩ := l; simp only at L0 L1 L2 L3 L4; have z1 := HM5.out.c1.cell 0; have zl := HM5.out.c1.lt; have y9 : W5.cell? ⟨d, 9, none⟩ = some (.slice (some ⟨bl, ol, none⟩) tn tc) := HM5.out.yd.blk.cell 9; have yl := HM5.out.yd.blk.lt; have x0 : W5.cell? ⟨p5, 0, none⟩ = some (.int .i64 t.lot) := HS5.out.cell 0
     have hv0 : (leftC t)[1 + n]? = some (.int .i64 (rmOf t n)) := by
      match n, (show n < 3 by omega) with
      | 0, _ => rfl
      | 1, _ => rfl
      | 2, _ => rfl
     have xn : W5.cell? ⟨p5, 1 + n, none⟩ = some (.int .i64 (rmOf t n)) := (HS5.out.cell (1 + n)).trans hv0; have xl := HS5.out.lt; have hn3 : (n : Int) < 3 := by omega
     have hlt5 : (t.lot : Int) < tn := by omega
     simp at z1; obtain ⟨br, hbr⟩ : ∃ br, br = brokenW (c.tm ⟨gg0, ⟨gg1, gg2⟩, gg3⟩) ⟨l0, l1, l2, l3, l4⟩ ⟨gg0, ⟨gg1, gg2⟩, gg3⟩ (rmOf t n) := ⟨_, rfl⟩; have HBRV := Lib.hid hbr; clear hv0 hbr
     refine wp_region_havoc [(0,false),(1,false),(2,false),(3,false),(4,false),(5,false),(6,false),(7,false),(8,false),(9,false),(10,false),(11,false),(12,false),(13,false),(14,false),(15,false),(16,false),(17,false),(18,false)] [] (fun _ _ => False) (by kernel_rfl) (by kernel_rfl) (fun _ _ _ _ h => h.elim) ?_
     (apply hav_same (by exact ho rfl) (by kernel_rfl); (focus (intro wv hgv _; have hcv := cvB hgv; (try go_simp); try rfl; done)); simp only [Act.put, List.setIfInBounds_toArray, List.set_cons_succ, List.set_cons_zero])
     iterate 16 (apply hav_same (by exact ho rfl) (by kernel_rfl); (focus (intro wv hgv _; have hcv := cvB hgv; (try go_simp); try rfl; done)); simp only [Act.put, List.setIfInBounds_toArray, List.set_cons_succ, List.set_cons_zero])
     (apply hav_call (by exact ho rfl) (by kernel_rfl); (focus (intro wv; go_simp; try exact ⟨rfl, rfl⟩; done)); (focus (intro wv hgv _; refine (broken_any (fa := fa) (fl := fl) (fc := fc) (la := la) (ll := ll) (lc := lc) (wa := _) (wn := wn) (wc := wc) (tn := tn) (tc := tc) ⟨l0, l1, l2, l3, l4⟩ n (rmOf t n) ⟨gg0, ⟨gg1, gg2⟩, gg3⟩ HW.out (HM5.out.yd.grow hgv)).mono ?_; rintro e w' ⟨rfl, hb⟩; exact ⟨rfl, hb⟩; done)); simp only [Act.put, List.setIfInBounds_toArray, List.set_cons_succ, List.set_cons_zero])
     rw [← HBRV.out]; (apply hav_same (by exact ho rfl) (by kernel_rfl); (focus (intro wv hgv _; have hcv := cvB hgv; (try go_simp); try rfl; done)); simp only [Act.put, List.setIfInBounds_toArray, List.set_cons_succ, List.set_cons_zero])
     refine hav_end (fun w6 hgz _ => ?_)
     simp only [List.filterMap]; have hb6 : Below W5.heap.size W5 w6 := hgz; have HG6 : Hid ((GM k (onF of_ c)).G w w6) := (GM k (onF of_ c)).trans HG5.out (GM.below hb6); have HM6 := Lib.hid (HM5.out.keep (GM.below hb6)); have HT5 := Lib.hid (HS5.out.below hb6 HS5.out.lt); have HT6 := Lib.hid (HS6.out.below hb6 HS6.out.lt); have HT11 := Lib.hid (HX11.out.below hb6 HX11.out.lt); have HO6 : Hid (w6.ownsRow g9 137 2 (.slice (some ⟨g, 0, none⟩) q cp) q ((waysN of_ c t ⟨l0, l1, l2, l3, l4⟩ n).flatMap wayL)) := own_below HO5.out hb6; clear hgz hb6 L0 L1 L2 L3 L4 hblw hbl z1 zl y9 yl x0 xn xl
     by_cases hb0 : br = 0
     ·subst hb0
      have hle : l1 ≤ rmOf t n := by
       have h := HBRV.out; unfold brokenW at h; simp only at h
       split at h
       ·cases h
       ·split at h
        ·cases h
        ·omega
      have hlb := lotB_iff.1 HLB.out; simp only at hlb; obtain ⟨bn, rfl⟩ : ∃ b : Nat, l1 = b := ⟨l1.toNat, by omega⟩
      have hrb := rmOf_bd HT.out n; obtain ⟨W7, hW7⟩ : ∃ W7, W7 = w6.alloc (.cells (roomsC (rmOf t)) 106) := ⟨_, rfl⟩; obtain ⟨b12, hb12⟩ : ∃ b, b = w6.heap.size := ⟨_, rfl⟩; have hgr7 : (GM k (onF of_ c)).G w6 W7 := by rw [hW7]; exact GM.alloc ((GM k (onF of_ c)).refl _) _
      have HG7 : Hid ((GM k (onF of_ c)).G w W7) := (GM k (onF of_ c)).trans HG6.out hgr7; have HM7 := Lib.hid (HM6.out.keep hgr7); have HX12 : Hid (Blk W7 b12 106 (roomsC (rmOf t))) := by rw [hW7, hb12]; exact Blk.new w6 106 _
      have HO7 : Hid (W7.ownsRow g9 137 2 (.slice (some ⟨g, 0, none⟩) q cp) q ((waysN of_ c t ⟨l0, bn, l2, l3, l4⟩ n).flatMap wayL)) := by rw [hW7]; exact own_below HO6.out ((Below.refl _ _).alloc (Nat.le_refl _) _)
      have HQ5 : Hid (Blk W7 p5 135 (leftC t)) := by rw [hW7]; exact HT5.out.alloc _
      have HQ6 : Hid (Blk W7 p6 137 #[.int .i64 0, .int .i64 0]) := by rw [hW7]; exact HT6.out.alloc _
      have HQ11 : Hid (Blk W7 b11 65 #[.int .i64 gg0, .int .i64 gg1, .int .i64 gg2, .int .i64 gg3]) := by rw [hW7]; exact HT11.out.alloc _
      have HB12 : Hid (g < b12 ∧ w.heap.size ≤ b12) := ⟨by rw [hb12]; exact (own_blk HO6.out).choose_spec.1.lt, by rw [hb12]; exact HG6.out.1.size⟩
      have HNE : Hid ((d ≠ b12 ∧ b1 ≠ b12 ∧ b2 ≠ b12 ∧ b3 ≠ b12 ∧ b4 ≠ b12) ∧ k ≠ b12 ∧ p5 ≠ b12 ∧ p6 ≠ b12 ∧ b11 ≠ b12 ∧ B ≤ b12) := by
       rw [hb12]; exact ⟨⟨Nat.ne_of_lt HM6.out.yd.blk.lt, Nat.ne_of_lt HM6.out.c1.lt, Nat.ne_of_lt HM6.out.c2.lt, Nat.ne_of_lt HM6.out.c3.lt, Nat.ne_of_lt HM6.out.c4.lt⟩, Nat.ne_of_lt HM6.out.map.lt, Nat.ne_of_lt HT5.out.lt, Nat.ne_of_lt HT6.out.lt, Nat.ne_of_lt HT11.out.lt, HM6.out.yd.hB⟩
      have x1 := HT5.out.cell 1; have x2 := HT5.out.cell 2; have x3 := HT5.out.cell 3; have xl := HT5.out.lt
      simp [leftC] at x1 x2 x3
      rw [roomsC_rm] at hW7; clear hgr7; go_upto_region 12 with (fail); rw [← hW7, ← hb12]; clear hW7 hb12 x1 x2 x3 xl; obtain ⟨bl2, ol2, hta2, hbl2, L0, L1, L2, L3, L4⟩ := rd_lt HM7.out.yd.hlt t.lot ⟨l0, bn, l2, l3, l4⟩ HL.out; obtain ⟨rfl, rfl⟩ : bl = bl2 ∧ ol = ol2 := by simpa using hta2
      simp only at L1; have hblw2 : bl < W7.heap.size := by have := HM7.out.yd.hB; omega
      have z1 := HM7.out.c1.cell 0; have zl := HM7.out.c1.lt; have y9 : W7.cell? ⟨d, 9, none⟩ = some (.slice (some ⟨bl, ol, none⟩) tn tc) := HM7.out.yd.blk.cell 9; have yl := HM7.out.yd.blk.lt; have x0 : W7.cell? ⟨p5, 0, none⟩ = some (.int .i64 t.lot) := HQ5.out.cell 0; have xl := HQ5.out.lt
      have hv1 : (roomsC (rmOf t))[n]? = some (.int .i64 (rmOf t n)) := by
       unfold roomsC
       match n, (show n < 3 by omega) with
       | 0, _ => rfl
       | 1, _ => rfl
       | 2, _ => rfl
      have vn : W7.cell? ⟨b12, n, none⟩ = some (.int .i64 (rmOf t n)) := (HX12.out.cell n).trans hv1; have vl := HX12.out.lt; have hws : IntKind.i64.wrap (rmOf t n - (bn : Int)) = rmOf t n - (bn : Int) := IntWalk.i64_in _ (by omega)
      simp at z1
      refine wp_region_havoc [(0,false),(1,false),(2,false),(3,false),(4,false),(5,false),(6,false),(7,false),(8,false),(9,false),(10,false),(11,false),(12,false),(13,false),(14,false),(15,false),(16,false)] [17] (fun _ _ => False) (by kernel_rfl) (by kernel_rfl) (fun _ _ _ _ h => h.elim) ?_
      (apply hav_same (by exact ho rfl) (by kernel_rfl); (focus (intro wv hgv _; have hcv := cvB hgv; (try go_simp); try rfl; done)); simp only [Act.put, List.setIfInBounds_toArray, List.set_cons_succ, List.set_cons_zero])
      iterate 16 (apply hav_same (by exact ho rfl) (by kernel_rfl); (focus (intro wv hgv _; have hcv := cvB hgv; (try go_simp); try rfl; done)); simp only [Act.put, List.setIfInBounds_toArray, List.set_cons_succ, List.set_cons_zero])
      refine hav_end (fun w8 hgz _ => ?_)
      simp only [List.filterMap]; have hb8 : Below W7.heap.size W7 w8 := hgz; have HP12 := Lib.hid (HX12.out.below hb8 HX12.out.lt); have HP5 := Lib.hid (HQ5.out.below hb8 HQ5.out.lt); have HP6 := Lib.hid (HQ6.out.below hb8 HQ6.out.lt); have HP11 := Lib.hid (HQ11.out.below hb8 HQ11.out.lt); have HP0 : Hid (w8.ownsRow g9 137 2 (.slice (some ⟨g, 0, none⟩) q cp) q ((waysN of_ c t ⟨l0, bn, l2, l3, l4⟩ n).flatMap wayL)) := own_below HO7.out hb8; have HM8 := Lib.hid (HM7.out.keep (GM.below hb8)); have HG8 : Hid ((GM k (onF of_ c)).G w w8) := (GM k (onF of_ c)).trans HG7.out (GM.below hb8); have un : w8.cell? ⟨b12, n, none⟩ = some (.int .i64 (rmOf t n)) := (HP12.out.cell n).trans hv1; have fn := HP12.out.frozen n; have ul := HP12.out.lt; clear hgz hb8 L0 L1 L2 L3 L4 hblw2 hbl2 hta2 z1 zl y9 yl x0 xl vn vl hv1 hws; have hn3' : n < 3 := by omega
      have hk12 : b12 ≠ k := HM8.out.map.ne HP12.out; go_upto_region 13 with (fail); obtain ⟨W9, hW9⟩ : ∃ W9, W9 = w8.setCell ⟨b12, n, none⟩ (.int .i64 (rmOf t n - (bn : Int))) := ⟨_, rfl⟩; rw [← hW9]
      have ht9 : Turn (fun x => x = b12) w8 W9 := by rw [hW9]; exact Turn.set _ _ (fun _ => rfl)
      have HG9w : Hid ((GM k (onF of_ c)).G w W9) := by rw [hW9]; exact GM.set HG8.out (p := ⟨b12, n, none⟩) HB12.out.2 hk12 _
      have HM9 : Hid (MoIn W9 B d k b1 b2 b3 b4 fo of_ fa fl fc la ll lc (some ⟨bk, off, none⟩) wn wc (some ⟨bl, ol, none⟩) tn tc c) := by
       obtain ⟨⟨e0, e1, e2, e3, e4⟩, e5, _, _, _, e9⟩ := HNE.out
       exact ⟨HM8.out.yd.turn ht9 (fun b e => by have e' : b = b12 := e; omega) e0, HM8.out.c1.turn ht9 e1, HM8.out.c2.turn ht9 e2, HM8.out.c3.turn ht9 e3, HM8.out.c4.turn ht9 e4, HM8.out.map.keep (ht9.block k HM8.out.map.lt e5), HM8.out.hk⟩
      have HR0 : Hid (W9.ownsRow g9 137 2 (.slice (some ⟨g, 0, none⟩) q cp) q ((waysN of_ c t ⟨l0, bn, l2, l3, l4⟩ n).flatMap wayL)) := own_turn HP0.out ht9 (fun x hx e => by cases hx; have e' : g = b12 := e; have := HB12.out.1; omega)
      have HK5 : Hid (Blk W9 p5 135 (leftC t)) := HP5.out.turn ht9 HNE.out.2.2.1; have HK6 : Hid (Blk W9 p6 137 #[.int .i64 0, .int .i64 0]) := HP6.out.turn ht9 HNE.out.2.2.2.1; have HK11 : Hid (Blk W9 b11 65 #[.int .i64 gg0, .int .i64 gg1, .int .i64 gg2, .int .i64 gg3]) := HP11.out.turn ht9 HNE.out.2.2.2.2.1
      have HK12 : Hid (Blk W9 b12 106 (roomsC (rmOf (t.on n bn)))) := by
       show Blk _ _ _ _; rw [rmOf_on hn3' hle, ← roomsC_take _ hn3', hW9]; exact HP12.out.set_ n _
      clear ht9 hW9 un fn ul; obtain ⟨u, hu⟩ : ∃ u, u = t.on n bn := ⟨_, rfl⟩; have HU : Hid (u = t.on n bn) := hu; have hul : (u.lot : Int) = (t.lot : Int) + 1 := by rw [hu]; rfl
      rw [← hu, roomsC_rm] at HK12; clear hu; obtain ⟨bl3, ol3, hta3, hbl3, L0, L1, L2, L3, L4⟩ := rd_lt HM9.out.yd.hlt t.lot ⟨l0, bn, l2, l3, l4⟩ HL.out; obtain ⟨rfl, rfl⟩ : bl = bl3 ∧ ol = ol3 := by simpa using hta3
      simp only at L0 L1 L2 L3 L4; have hblk : bl ≠ k := by have := HM9.out.hk; omega
      have hblw3 : bl < W9.heap.size := by have := HM9.out.yd.hB; omega
      have HKW : Hid (∀ wv, (GM k (onF of_ c)).G W9 wv → ((wv.cell? ⟨b1, 0, none⟩ = some (.pointer (some ⟨d, 0, none⟩)) ∧ b1 < wv.heap.size) ∧ (wv.cell? ⟨b3, 0, none⟩ = some (.func (.func 102) #[] #[.pointer (some ⟨b1, 0, none⟩), .pointer (some ⟨b2, 0, none⟩), .pointer (some ⟨b3, 0, none⟩), .pointer (some ⟨b4, 0, none⟩)]) ∧ b3 < wv.heap.size) ∧ (wv.cell? ⟨b4, 0, none⟩ = some (.func (.func fo) #[] #[]) ∧ b4 < wv.heap.size) ∧ (wv.cell? ⟨d, 9, none⟩ = some (.slice (some ⟨bl, ol, none⟩) tn tc) ∧ d < wv.heap.size)) ∧
        (wv.cell? ⟨p5, 0, none⟩ = some (.int .i64 t.lot) ∧ p5 < wv.heap.size) ∧ (Blk wv b11 65 #[.int .i64 gg0, .int .i64 gg1, .int .i64 gg2, .int .i64 gg3]) ∧ (Blk wv b12 106 #[.int .i64 u.a, .int .i64 u.b, .int .i64 u.c]) ∧
        (wv.cell? ⟨bl, ol + t.lot * 5, none⟩ = some (.int .i64 l0) ∧ wv.cell? ⟨bl, ol + t.lot * 5 + 1, none⟩ = some (.int .i64 bn) ∧ wv.cell? ⟨bl, ol + t.lot * 5 + 2, none⟩ = some (.int .i64 l2) ∧ wv.cell? ⟨bl, ol + t.lot * 5 + 3, none⟩ = some (.int .i64 l3) ∧ wv.cell? ⟨bl, ol + t.lot * 5 + 4, none⟩ = some (.int .i64 l4) ∧ bl < wv.heap.size)) := fun wv hgv => by
       have tv := GM.turn hgv; have k1 := HM9.out.c1.turn tv (HM9.out.map.ne HM9.out.c1); have k3 := HM9.out.c3.turn tv (HM9.out.map.ne HM9.out.c3); have k4 := HM9.out.c4.turn tv (HM9.out.map.ne HM9.out.c4); have kd := HM9.out.yd.blk.turn tv (HM9.out.map.ne HM9.out.yd.blk); have k5 := HK5.out.turn tv (HM9.out.map.ne HK5.out); have hh : wv.heap[bl]? = W9.heap[bl]? := tv.block bl hblw3 hblk
       have hc : ∀ o, wv.cell? ⟨bl, o, none⟩ = W9.cell? ⟨bl, o, none⟩ := fun o => World.cell?_of_block (a := ⟨bl, o, none⟩) hh
       exact ⟨⟨⟨k1.cell 0, k1.lt⟩, ⟨k3.cell 0, k3.lt⟩, ⟨k4.cell 0, k4.lt⟩, ⟨kd.cell 9, kd.lt⟩⟩, ⟨k5.cell 0, k5.lt⟩, HK11.out.turn tv (HM9.out.map.ne HK11.out), HK12.out.turn tv (HM9.out.map.ne HK12.out), (hc _).trans L0, (hc _).trans L1, (hc _).trans L2, (hc _).trans L3, (hc _).trans L4, Nat.lt_of_lt_of_le hblw3 tv.size⟩
      clear L0 L1 L2 L3 L4 hblk hblw3 hbl3 hta3; have heg := HO.out.1; have hfl := field137; obtain ⟨ov, hov⟩ : ∃ o, o = of_ ⟨l0, bn, l2, l3, l4⟩ ⟨gg0, ⟨gg1, gg2⟩, gg3⟩ := ⟨_, rfl⟩; obtain ⟨⟨m1, m2⟩, hm1⟩ : ∃ f, f = onF of_ c u := ⟨_, rfl⟩; have HOV := Lib.hid hov; have HWB := Lib.hid ((okC_parts HM9.out.yd.ok).2.2.2.2.1 _ (List.mem_of_getElem? HW.out)); have hu4 : leftV u = .agg #[.int .i64 ((t.lot : Int) + 1), .int .i64 u.a, .int .i64 u.b, .int .i64 u.c] := by unfold leftV leftC; rw [hul]
      have HU4 := Lib.hid hu4; have HUO : Hid (u.Ok ∧ u.lot + m = tn) := ⟨by rw [HU.out]; exact Left4.on_ok HT.out (by omega), by rw [HU.out]; show t.lot + 1 + m = tn; omega⟩
      clear hu4 hul; have HM1' := Lib.hid hm1; have hwt2 : IntKind.i64.wrap ((t.lot : Int) + 1) = (t.lot : Int) + 1 := IntWalk.i64_in _ (by omega)
      clear hov hm1
      refine HavG.wp_region_havoc (R := GM k (onF of_ c)) [(0,false),(1,false),(2,false),(3,false),(4,false),(5,false),(6,false),(7,false),(8,false),(9,false),(10,false),(11,false),(12,false),(13,false),(14,false),(15,false),(16,false),(17,false),(18,false),(19,false),(20,false),(23,false),(21,true),(22,false),(24,false),(25,true)] [26, 27] (fun _ _ => False) (by kernel_rfl) (by kernel_rfl) (fun _ _ _ _ h => h.elim) ?_
      (apply HavG.hav_same (by exact ho rfl) (by kernel_rfl); (focus (intro wv hgv _; obtain ⟨⟨⟨a0, a1⟩, ⟨a2, a3⟩, ⟨a4, a5⟩, ⟨a6, a7⟩⟩, ⟨a8, a9⟩, ab11, ab12, a10, a11, a12, a13, a14, a15⟩ := HKW.out wv hgv; have c0 := ab11.cell 0; have c1 := ab11.cell 1; have c2 := ab11.cell 2; have c3 := ab11.cell 3; have cl := ab11.lt; have d0 := ab12.cell 0; have d1 := ab12.cell 1; have d2 := ab12.cell 2; have dl := ab12.lt; (simp at c0 c1 c2 c3 d0 d1 d2); (try go_simp); try rfl; done)); simp only [Act.put, List.setIfInBounds_toArray, List.set_cons_succ, List.set_cons_zero])
      iterate 11 (apply HavG.hav_same (by exact ho rfl) (by kernel_rfl); (focus (intro wv hgv _; obtain ⟨⟨⟨a0, a1⟩, ⟨a2, a3⟩, ⟨a4, a5⟩, ⟨a6, a7⟩⟩, ⟨a8, a9⟩, ab11, ab12, a10, a11, a12, a13, a14, a15⟩ := HKW.out wv hgv; have c0 := ab11.cell 0; have c1 := ab11.cell 1; have c2 := ab11.cell 2; have c3 := ab11.cell 3; have cl := ab11.lt; have d0 := ab12.cell 0; have d1 := ab12.cell 1; have d2 := ab12.cell 2; have dl := ab12.lt; (simp at c0 c1 c2 c3 d0 d1 d2); (try go_simp); try rfl; done)); simp only [Act.put, List.setIfInBounds_toArray, List.set_cons_succ, List.set_cons_zero])
      (apply HavG.hav_call (by exact ho rfl) (by kernel_rfl); (focus (intro wv; go_simp; try exact ⟨rfl, rfl⟩; done)); (focus (intro wv hgv hF; refine (HO.out.2 ⟨l0, bn, l2, l3, l4⟩ ⟨gg0, ⟨gg1, gg2⟩, gg3⟩ wv HLB.out HWB.out).mono ?_; rw [← HOV.out]; rintro e w' ⟨rfl, hb⟩; exact ⟨rfl, GM.below hb⟩; done)); simp only [Act.put, List.setIfInBounds_toArray, List.set_cons_succ, List.set_cons_zero])
      iterate 6 (apply HavG.hav_same (by exact ho rfl) (by kernel_rfl); (focus (intro wv hgv _; obtain ⟨⟨⟨a0, a1⟩, ⟨a2, a3⟩, ⟨a4, a5⟩, ⟨a6, a7⟩⟩, ⟨a8, a9⟩, ab11, ab12, a10, a11, a12, a13, a14, a15⟩ := HKW.out wv hgv; have c0 := ab11.cell 0; have c1 := ab11.cell 1; have c2 := ab11.cell 2; have c3 := ab11.cell 3; have cl := ab11.lt; have d0 := ab12.cell 0; have d1 := ab12.cell 1; have d2 := ab12.cell 2; have dl := ab12.lt; (simp at c0 c1 c2 c3 d0 d1 d2); (try go_simp); try rfl; done)); simp only [Act.put, List.setIfInBounds_toArray, List.set_cons_succ, List.set_cons_zero])
      (apply HavG.hav_call (by exact ho rfl) (by kernel_rfl); (focus (intro wv; go_simp; try exact ⟨rfl, rfl⟩; done)); (focus (intro wv hgv hF; have hq := IH.out m rfl u wv HUO.out.1 HUO.out.2 (HM9.out.keep hgv); rw [← HM1'.out, HU4.out] at hq; exact hq; done)); simp only [Act.put, List.setIfInBounds_toArray, List.set_cons_succ, List.set_cons_zero])
      iterate 2 (apply HavG.hav_same (by exact ho rfl) (by kernel_rfl); (focus (intro wv hgv _; obtain ⟨⟨⟨a0, a1⟩, ⟨a2, a3⟩, ⟨a4, a5⟩, ⟨a6, a7⟩⟩, ⟨a8, a9⟩, ab11, ab12, a10, a11, a12, a13, a14, a15⟩ := HKW.out wv hgv; have c0 := ab11.cell 0; have c1 := ab11.cell 1; have c2 := ab11.cell 2; have c3 := ab11.cell 3; have cl := ab11.lt; have d0 := ab12.cell 0; have d1 := ab12.cell 1; have d2 := ab12.cell 2; have dl := ab12.lt; (simp at c0 c1 c2 c3 d0 d1 d2); (try go_simp); try rfl; done)); simp only [Act.put, List.setIfInBounds_toArray, List.set_cons_succ, List.set_cons_zero])
      have hovb := HBD.out _ (List.mem_of_getElem? HL.out) _ (List.mem_of_getElem? HW.out); rw [← HOV.out] at hovb
      have hmb : 0 ≤ m1 ∧ m1 ≤ 1000 * 5 := by
       have h := onP_bd (c := c) (of_ := of_) (M := 1000) (by omega) (c.lt.drop u.lot) (rmOf u) (fun l hl g hg => HBD.out l (List.mem_of_mem_drop hl) g hg)
       have e : (onP c.tm c.wg of_ (c.lt.drop u.lot) (rmOf u)) = (m1, m2) := HM1'.out.symm; rw [e] at h; have h2 : (c.lt.drop u.lot).length ≤ 5 := by rw [List.length_drop]; have := HM9.out.yd.etn; omega
       simp only at h
       omega
      have HSUM : Hid (sumL [ov, m1] = ov + m1) := by show _ = _; simp [sumL]
      refine HavG.hav_val_ghost (fun v w => ∃ g3, v = .slice (some ⟨g3, 0, none⟩) 2 2 ∧ g3 ≠ k ∧ Blk w g3 3 #[.int .i64 ov, .int .i64 m1]) (by exact ho rfl) (by kernel_rfl) ?hst1 ?hv1 ?hc1
      case hst1 =>
       rintro v w w' ⟨g3, e, hn, hb⟩ hg; exact ⟨g3, e, hn, hb.turn (GM.turn hg) hn⟩
      case hv1 =>
       intro wv hgv _; refine ⟨.slice (some ⟨wv.heap.size, 0, none⟩) 2 2, wv.alloc (.cells #[.int .i64 ov, .int .i64 m1] 3), ?_, GM.alloc ((GM k (onF of_ c)).refl _) _, wv.heap.size, rfl, Nat.ne_of_gt (HM9.out.keep hgv).map.lt, Blk.new wv 3 _⟩
       go_simp
       try rfl
      case hc1 =>
       intro v21; simp only [Act.put, List.setIfInBounds_toArray, List.set_cons_succ, List.set_cons_zero]; (apply HavG.hav_call (by exact ho rfl) (by kernel_rfl); (focus (intro wv; go_simp; try exact ⟨rfl, rfl⟩; done)); (focus (intro wv hgv hF; obtain ⟨_, g3, e3, hnk, hb3⟩ := hF; subst e3; refine (sum_any (n := 2) (l := [ov, m1]) rfl (by omega) (by intro x hx; simp at hx; omega) wv (B := wv.heap.size) (rd_two hb3) (Nat.le_refl _)).mono ?_; rw [HSUM.out]; rintro e w' ⟨rfl, hb⟩; exact ⟨rfl, GM.below hb⟩; done)); simp only [Act.put, List.setIfInBounds_toArray, List.set_cons_succ, List.set_cons_zero])
       (apply HavG.hav_same (by exact ho rfl) (by kernel_rfl); (focus (intro wv hgv _; obtain ⟨⟨⟨a0, a1⟩, ⟨a2, a3⟩, ⟨a4, a5⟩, ⟨a6, a7⟩⟩, ⟨a8, a9⟩, ab11, ab12, a10, a11, a12, a13, a14, a15⟩ := HKW.out wv hgv; have c0 := ab11.cell 0; have c1 := ab11.cell 1; have c2 := ab11.cell 2; have c3 := ab11.cell 3; have cl := ab11.lt; have d0 := ab12.cell 0; have d1 := ab12.cell 1; have d2 := ab12.cell 2; have dl := ab12.lt; (simp at c0 c1 c2 c3 d0 d1 d2); (try go_simp); try rfl; done)); simp only [Act.put, List.setIfInBounds_toArray, List.set_cons_succ, List.set_cons_zero])
       refine HavG.hav_val_ghost (fun v w => ∃ g3, v = .slice (some ⟨g3, 0, none⟩) 1 1 ∧ g3 ≠ k ∧ Blk w g3 137 #[.int .i64 (ov + m1), .int .i64 n]) (by exact ho rfl) (by kernel_rfl) ?hst2 ?hv2 ?hc2
       case hst2 =>
        rintro v w w' ⟨g3, e, hn, hb⟩ hg; exact ⟨g3, e, hn, hb.turn (GM.turn hg) hn⟩
       case hv2 =>
        intro wv hgv _; refine ⟨.slice (some ⟨wv.heap.size, 0, none⟩) 1 1, wv.alloc (.cells #[.int .i64 (ov + m1), .int .i64 n] 137), ?_, GM.alloc ((GM k (onF of_ c)).refl _) _, wv.heap.size, rfl, Nat.ne_of_gt (HM9.out.keep hgv).map.lt, Blk.new wv 137 _⟩
        go_simp
        try rfl
       case hc2 =>
        intro v25; simp only [Act.put, List.setIfInBounds_toArray, List.set_cons_succ, List.set_cons_zero]
        refine HavG.hav_end (fun w10 hg10 hF => ?_)
        simp only [List.filterMap]; obtain ⟨-, gy, ey, hyk, hby⟩ := hF; subst ey; have tk := GM.turn hg10; obtain ⟨i0, hi, hz0, hz1, hz2⟩ := info_parts cinfoE137
        have HR10 := own_turn HR0.out tk (fun x hx e => by cases hx; have e' : g = k := e; have := HG9.out.2.2.2.1; have := (own_blk HR0.out).choose_spec.2.1; omega)
        obtain ⟨g2, cp2, w11, hrun, hown, ht11, hgg⟩ := append_at (P := Tryz.prog) g9 139 139 137 i0 _ 2 16 Tryz.underlying139 hi hz0 hz1 hz2 rfl (by decide) (.slice (some ⟨g, 0, none⟩) q cp) q _ HR10 ⟨gy, 0, none⟩ 1 [.int .i64 (ov + m1), .int .i64 n] rfl (news_block hby) (by simp [Value.oneCell']) (by omega) (by omega) (by have := (own_blk HR10).choose_spec.2.1; have := (own_blk HR10).choose_spec.1.lt; omega)
        have HRUN := Lib.hid hrun; have HOWN := Lib.hid hown; have HT11' := Lib.hid ht11; have HK5' := Lib.hid (HK5.out.turn tk (HM9.out.map.ne HK5.out)); have HK6' := Lib.hid (HK6.out.turn tk (HM9.out.map.ne HK6.out)); have HM10 := Lib.hid (HM9.out.keep hg10); have HG10 : Hid ((GM k (onF of_ c)).G w w10) := (GM k (onF of_ c)).trans HG9w.out hg10; have hgg9 : g9 ≤ g := (own_blk HR0.out).choose_spec.2.1
        have HWN : Hid (waysN of_ c t ⟨l0, bn, l2, l3, l4⟩ (n + 1) = waysN of_ c t ⟨l0, bn, l2, l3, l4⟩ n ++ [(ov + m1, (n : Int))]) := by
         show _ = _; rw [waysN_on hn3' (b := bn) rfl HW.out (HBRV.out.symm), ← HU.out, ← HM1'.out, ← HOV.out]
        clear hrun hown ht11 hgg hi hz0 hz1 hz2 tk HR10 hg10 hby hyk; refine wpList_append_run rfl _ _ 139 rfl rfl rfl HRUN.out ?_
        have hS : ∀ b, (Value.slice (some ⟨g, 0, none⟩) q cp).ownBlock = some b → b = g := fun b e => by cases e; rfl
        have HZ5' : Hid (Blk w11 p5 135 (leftC t)) := HK5'.out.turn HT11'.out (fun e => by have := hS _ e; have := HG9.out; omega)
        have HZ6' : Hid (Blk w11 p6 137 #[.int .i64 0, .int .i64 0]) := HK6'.out.turn HT11'.out (fun e => by have := hS _ e; have := HG9.out; omega)
        have HG11 : Hid ((GM k (onF of_ c)).G w w11) := GM.own HG10.out HT11'.out (fun b e => by have := hS _ e; have := HG9.out; omega)
        have HM11 : Hid (MoIn w11 B d k b1 b2 b3 b4 fo of_ fa fl fc la ll lc (some ⟨bk, off, none⟩) wn wc (some ⟨bl, ol, none⟩) tn tc c) := HM10.out.own HT11'.out (fun b e => by have := hS _ e; have := HG9.out; have := HGB.out; omega)
        have HO11 : Hid (w11.ownsRow g9 137 2 (.slice (some ⟨g2, 0, none⟩) (q + 1) cp2) (q + 1) ((waysN of_ c t ⟨l0, bn, l2, l3, l4⟩ (n + 1)).flatMap wayL)) := by
         have h := HOWN.out; show World.ownsRow _ _ _ _ _ _ _; rw [HWN.out, List.flatMap_append]; exact h
        clear hS; go_wp2; go_roundw
        case rel => exact ⟨n + 1, q + 1, g2, cp2, by omega, by go_num, rfl, by omega, HO11, HG11, HZ5', HZ6', HM11⟩
        case measure => simp [intOf]; omega
     ·have HWN : Hid (waysN of_ c t ⟨l0, l1, l2, l3, l4⟩ (n + 1) = waysN of_ c t ⟨l0, l1, l2, l3, l4⟩ n) := waysN_no HW.out (by rw [← HBRV.out]; exact hb0)
      have hbq : ((br : Int) == 0) = false := by simp; exact hb0
      have HO7 : Hid (w6.ownsRow g9 137 2 (.slice (some ⟨g, 0, none⟩) q cp) q ((waysN of_ c t ⟨l0, l1, l2, l3, l4⟩ (n + 1)).flatMap wayL)) := by rw [HWN.out]; exact HO6
      clear hb0; go_wp2; go_roundw
      case rel => exact ⟨n + 1, q, g, cp, by omega, by go_num, rfl, by omega, HO7, HG6, HT5, HT6, HM6⟩
      case measure => simp [intOf]; omega
    ·obtain rfl : n = wn := by omega
     have HWL : Hid ((waysN of_ c t l n).length = q) := own_len wayL 2 (fun _ => rfl) (by omega) HO1.out
     have HRD : Hid (RdG wayL 2 wr wr.heap.size (some ⟨g, 0, none⟩) (waysN of_ c t l n)) := RdG.of_own (fun _ => rfl) (by omega) HO1.out (Nat.le_refl _) rfl
     obtain ⟨⟨f1, f2⟩, hf⟩ : ∃ f, f = onF of_ c t := ⟨_, rfl⟩; have HF : Hid (onF of_ c t = (f1, f2)) := hf.symm
     have HBK : Hid (bestK (waysN of_ c t l n) = (f1, f2)) := by
      have h := onF_best (of_ := of_) (c := c) HL.out; rw [HMR.out.yd.ewn, HF.out] at h; exact h.symm
     clear hf; have z2 := HMR.out.c2.cell 0; have zl := HMR.out.c2.lt; have x0 := HR5.out.cell 0; have x1 := HR5.out.cell 1; have x2 := HR5.out.cell 2; have x3 := HR5.out.cell 3; have xl := HR5.out.lt
     simp [leftC] at x0 x1 x2 x3 z2
     have hq4 : q ≤ 1000 := by omega
     clear hq; go_upto_region 15 with (fail)
     refine wp_region_havoc [(0,false),(1,false),(2,false),(3,false),(4,false)] [5] (fun _ _ => False) (by kernel_rfl) (by kernel_rfl) (fun _ _ _ _ h => h.elim) ?_
     (apply hav_same (by exact ho rfl) (by kernel_rfl); (focus (intro wv hgv _; have hcv := cvB hgv; (try go_simp); try rfl; done)); simp only [Act.put, List.setIfInBounds_toArray, List.set_cons_succ, List.set_cons_zero])
     iterate 3 (apply hav_same (by exact ho rfl) (by kernel_rfl); (focus (intro wv hgv _; have hcv := cvB hgv; (try go_simp); try rfl; done)); simp only [Act.put, List.setIfInBounds_toArray, List.set_cons_succ, List.set_cons_zero])
     (apply hav_call (by exact ho rfl) (by kernel_rfl); (focus (intro wv; go_simp; try exact ⟨rfl, rfl⟩; done)); (focus (intro wv hgv _; refine (best_any HWL.out hq4 wv (HRD.out.grow hgv) (Nat.le_refl _)).mono ?_; rw [HBK.out]; rintro e w' ⟨rfl, hb⟩; exact ⟨rfl, hb⟩; done)); simp only [Act.put, List.setIfInBounds_toArray, List.set_cons_succ, List.set_cons_zero])
     refine hav_end (fun w8 hgz _ => ?_)
     simp only [List.filterMap]; have hb8 : Below wr.heap.size wr w8 := hgz; have HM8 := Lib.hid (HMR.out.keep (GM.below hb8)); have HG8 : Hid ((GM k (onF of_ c)).G w w8) := (GM k (onF of_ c)).trans HGR.out (GM.below hb8); have HP5 := Lib.hid (HR5.out.below hb8 HR5.out.lt); have HP6 := Lib.hid (HR6.out.below hb8 HR6.out.lt); obtain ⟨w9, hrun, hm9, hg9, hs9, hlk9⟩ := HM8.out.map.store t HT.out
     have ht9 : (GM k (onF of_ c)).G w8 w9 := ⟨hg9, fun _ => hm9⟩
     have HM9 := Lib.hid (HM8.out.keep ht9); have HG9' : Hid ((GM k (onF of_ c)).G w w9) := (GM k (onF of_ c)).trans HG8.out ht9; have HQ5 := Lib.hid (HP5.out.turn (GM.turn ht9) (HM8.out.map.ne HP5.out)); have HQ6 := Lib.hid (HP6.out.turn (GM.turn ht9) (HM8.out.map.ne HP6.out)); have hlk2 := hlk9 w9 rfl; rw [HF.out] at hrun hlk2; unfold leftV wayV leftC wayC at hrun hlk2; unfold wayV wayC; clear hgz hb8 z2 zl x0 x1 x2 x3 xl hm9 hg9 hs9 hlk9 ht9; have z2 := HM9.out.c2.cell 0; have zl := HM9.out.c2.lt; have x0 := HQ5.out.cell 0; have x1 := HQ5.out.cell 1; have x2 := HQ5.out.cell 2; have x3 := HQ5.out.cell 3; have xl := HQ5.out.lt
     simp [leftC] at x0 x1 x2 x3 z2
     have v0 := HQ6.out.cell 0; have v1 := HQ6.out.cell 1; have g0 := HQ6.out.frozen 0; have g1 := HQ6.out.frozen 1; have vl := HQ6.out.lt; simp at v0 v1; go_wp2; obtain ⟨W9, hW9⟩ : ∃ W9, W9 = (w9.setCell ⟨p6, 0, none⟩ (.int .i64 f1)).setCell ⟨p6, 1, none⟩ (.int .i64 f2) := ⟨_, rfl⟩; rw [← hW9]; have hk : Blk W9 p6 137 #[.int .i64 f1, .int .i64 f2] := by rw [hW9]; have h := (HQ6.out.set_ 0 (.int .i64 f1)).set_ 1 (.int .i64 f2); simpa using h
     have hn : w.heap.size ≤ p6 := by have := HN.out; omega
     have hg9 : (GM k (onF of_ c)).G w W9 := by rw [hW9]; exact GM.set (GM.set HG9'.out (p := ⟨p6, 0, none⟩) hn hkne _) (p := ⟨p6, 1, none⟩) hn hkne _
     have k0 := hk.cell 0; have k1 := hk.cell 1; simp at k0 k1; exact bodyPost_ret (by simp [results, Tryz.results102, go_sem, k0, k1]; rfl) rfl ⟨by rw [HF.out]; rfl, hg9⟩
  ·have v0 := HY6.out.cell 0; have v1 := HY6.out.cell 1; have g0 := HY6.out.frozen 0; have g1 := HY6.out.frozen 1; have vl := HY6.out.lt; simp at v0 v1; simp only [if_true, wayV, wayC] at hlk; go_wp2; obtain ⟨W9, hW9⟩ : ∃ W9, W9 = ((w1.setCell ⟨p6, 0, none⟩ (.int .i64 f1)).setCell ⟨p6, 1, none⟩ (.int .i64 f2)).alloc (.cells #[.int .i64 f1, .int .i64 f2] 137) := ⟨_, rfl⟩; rw [← hW9]; have hk : Blk W9 p6 137 #[.int .i64 f1, .int .i64 f2] := by rw [hW9]; have h := (((HY6.out.set_ 0 (.int .i64 f1)).set_ 1 (.int .i64 f2))).alloc (.cells #[.int .i64 f1, .int .i64 f2] 137); simpa using h
   have hn : w.heap.size ≤ p6 := by have := HN.out; omega
   have hg9 : (GM k (onF of_ c)).G w W9 := by rw [hW9]; exact GM.alloc (GM.set (GM.set HG1.out (p := ⟨p6, 0, none⟩) hn hkne _) (p := ⟨p6, 1, none⟩) hn hkne _) _
   have k0 := hk.cell 0; have k1 := hk.cell 1; simp at k0 k1; exact bodyPost_ret (by simp [results, Tryz.results102, go_sem, k0, k1]; rfl) rfl ⟨by rw [HF.out]; rfl, hg9⟩
end
end Go.Proofs.YtgmfhngcehkibaaGreat
