/- The law CartTrue: the days on which the wagons truly come. A truth that is drawn: what is known of it. The law CartTrue: carts whose looks are right. The law CartTrue: days and rises of the freshes. Condition: what the statements say. -/
import Derived.Test.YtgmfhngcehkibaaGreatPkZ2
set_option maxRecDepth 100000
set_option maxHeartbeats 6400000
namespace Go.Proofs.YtgmfhngcehkibaaGreat
open Go.RowKit Go.Hav Go.Shelf Go.Sq
attribute [local go_sem] Oper.semAt_some
theorem Tryz.infoE4 : (Tryz.prog.info? 4).map (fun i => (i.zero, i.size, i.bytes)) = some (some (.bool false), 1, 1) := by kernel_rfl
theorem UIn.at_ {w w' : World} {B : Nat} {ua : Option Addr} {ul : Nat} {U : List Nat} (h : UIn w B ua ul U) (hb : Below B w w') : UIn w' B ua ul U := { h with rd := h.rd.below hb }
structure TrD (w0 w : World) (b3 cn us fl fc ll lc wn wc tn tc bn ul uc N : Nat) (fa la wa ta ba ua : Option Addr) (c : ICart) (U by_ : List Nat) : Prop where
 bw : Below w0.heap.size w0 w
 hP : CtIn w0 w0.heap.size fa fl la ll wa wn ta tn c
 box : Blk w b3 31 #[.int .i64 c.riv.depth.lo, .int .i64 c.riv.depth.hi, .int .i64 c.riv.fall.lo, .int .i64 c.riv.fall.hi, .int .i64 c.riv.days, .slice fa fl fc, .slice la ll lc, .int .i64 c.draws, .slice wa wn wc, .slice ta tn tc]
 ok : okC c = true
 hbn : by_.length = bn
 hbm : bn ≤ 9223372036854775807
 h255 : ∀ x ∈ by_, x ≤ 255
 hby : RdG byF 1 w0 w0.heap.size ba by_
 hU : UIn w0 w0.heap.size ua ul U
 hs : Blk w us 52 #[.slice ua ul uc]
 c0 : w0.heap.size ≤ cn
 cnt : Cnt cn N w
structure TrZ (w0 w : World) (b3 cn us fl fc ll lc wn wc tn tc bn ul uc b8 b11 cx dc rc B1 N : Nat) (fa la wa ta lx ba ua dA rA : Option Addr) (c x : ICart) (t : Tr) (lk : List ILk) (U by_ : List Nat) : Prop where
 d : TrD w0 w b3 cn us fl fc ll lc wn wc tn tc bn ul uc N fa la wa ta ba ua c U by_
 c1 : cn < B1
 bt : Blk w b8 57 #[.int .i64 t.d, .int .i64 t.by_, .slice dA fl dc, .slice rA fl rc]
 sm : t.Small fl
 oD : w.ownsRow B1 3 1 (.slice dA fl dc) fl (t.ds.flatMap fun x => [nV x])
 oR : w.ownsRow B1 3 1 (.slice rA fl rc) fl (t.rs.flatMap fun x => [nV x])
 tr : TrueIn c.riv t lk
 xe : cartL c lk = x
 bx : Blk w b11 31 #[.int .i64 x.riv.depth.lo, .int .i64 x.riv.depth.hi, .int .i64 x.riv.fall.lo, .int .i64 x.riv.fall.hi, .int .i64 x.riv.days, .slice fa fl fc, .slice lx ll cx, .int .i64 x.draws, .slice wa wn wc, .slice ta tn tc]
 oL : w.ownsRow B1 61 3 (.slice lx ll cx) ll (lk.flatMap lkI)
section
variable {w0 w w' K : World} {S : Nat → Prop} {b3 b8 b11 cn us fl fc ll lc wn wc tn tc cx bn bc ul uc dc rc B1 N N' : Nat} {fa la wa ta lx ba ua dA rA : Option Addr} {c x : ICart} {t : Tr} {lk : List ILk} {U by_ : List Nat}
theorem Cnt.ne {b : Nat} {ty : TypeId} {cs : Array Value} (h : Cnt cn N w) (k : Blk w b ty cs) (hn : ty ≠ 3) : ¬ b = cn := by
 obtain ⟨n, -, h2⟩ := h; exact blk_ne k h2 hn
theorem TrD.turn (h : TrD w0 w b3 cn us fl fc ll lc wn wc tn tc bn ul uc N fa la wa ta ba ua c U by_) (t : Turn S w w') (hS : ∀ b, S b → w0.heap.size ≤ b) (h3 : ¬ S b3) (hu : ¬ S us) (hc : Cnt cn N' w') : TrD w0 w' b3 cn us fl fc ll lc wn wc tn tc bn ul uc N' fa la wa ta ba ua c U by_ :=
 { h with bw := h.bw.trans (t.below h.bw.size hS), box := h.box.turn t h3, hs := h.hs.turn t hu, cnt := hc }
theorem TrD.below (h : TrD w0 w b3 cn us fl fc ll lc wn wc tn tc bn ul uc N fa la wa ta ba ua c U by_) (hb : Below w.heap.size w w') : TrD w0 w' b3 cn us fl fc ll lc wn wc tn tc bn ul uc N fa la wa ta ba ua c U by_ :=
 h.turn (S := fun _ => False) (Turn.of_below hb) (fun _ e => e.elim) id id (h.cnt.below hb)
theorem TrD.draw {lo hi : Nat} (h : TrD w0 w b3 cn us fl fc ll lc wn wc tn tc bn ul uc N fa la wa ta ba ua c U by_) (hN : N ≤ 1000) (hlo : lo ≤ hi) (hhi : hi ≤ 1000) : Calls Tryz.prog 87 #[.agg #[.int .i64 lo, .int .i64 hi], .pointer (some ⟨cn, 0, none⟩), .pointer (some ⟨us, 0, none⟩)] w (DrawPost cn N lo hi w) :=
 draw87_any hN hlo hhi w h.hs h.cnt h.bw.size h.c0 (h.hU.at_ h.bw)
theorem TrD.inn (h : TrD w0 w b3 cn us fl fc ll lc wn wc tn tc bn ul uc N fa la wa ta ba ua c U by_) : CtIn w w.heap.size fa fl la ll wa wn ta tn c := h.hP.grow h.bw
theorem TrZ.turn (h : TrZ w0 w b3 cn us fl fc ll lc wn wc tn tc bn ul uc b8 b11 cx dc rc B1 N fa la wa ta lx ba ua dA rA c x t lk U by_) (tu : Turn (fun b => b = cn) w w') (hc : Cnt cn N' w') : TrZ w0 w' b3 cn us fl fc ll lc wn wc tn tc bn ul uc b8 b11 cx dc rc B1 N' fa la wa ta lx ba ua dA rA c x t lk U by_ := by
 have far : ∀ {v : Value} {e sz n : Nat} {xs : List Value}, w.ownsRow B1 e sz v n xs → w'.ownsRow B1 e sz v n xs := fun ho => own_turn ho tu (fun g hg e => by
  have h1 := (own_block ho hg).1; have h2 := h.c1; have e' : g = cn := e
  omega)
 exact { h with d := h.d.turn tu (fun b e => by have e' : b = cn := e; rw [e']; exact h.d.c0) (h.d.cnt.ne h.d.box (by decide)) (h.d.cnt.ne h.d.hs (by decide)) hc, bt := h.bt.turn tu (h.d.cnt.ne h.bt (by decide)), oD := far h.oD, oR := far h.oR, bx := h.bx.turn tu (h.d.cnt.ne h.bx (by decide)), oL := far h.oL }
theorem TrZ.below (h : TrZ w0 w b3 cn us fl fc ll lc wn wc tn tc bn ul uc b8 b11 cx dc rc B1 N fa la wa ta lx ba ua dA rA c x t lk U by_) (hb : Below w.heap.size w w') : TrZ w0 w' b3 cn us fl fc ll lc wn wc tn tc bn ul uc b8 b11 cx dc rc B1 N fa la wa ta lx ba ua dA rA c x t lk U by_ :=
 h.turn (Turn.of_below hb) (h.d.cnt.below hb)
theorem TrZ.ti (h : TrZ w0 w b3 cn us fl fc ll lc wn wc tn tc bn ul uc b8 b11 cx dc rc B1 N fa la wa ta lx ba ua dA rA c x t lk U by_) : TrIn w t dA rA := by
 obtain ⟨A1, c1, -, e1, h1, -⟩ := RowN.of_own (e := nV) h.oD h.sm.ds; obtain ⟨A2, c2, -, e2, h2, -⟩ := RowN.of_own (e := nV) h.oR h.sm.rs; cases e1
 cases e2
 exact ⟨h1, h2⟩
theorem TrZ.hx (h : TrZ w0 w b3 cn us fl fc ll lc wn wc tn tc bn ul uc b8 b11 cx dc rc B1 N fa la wa ta lx ba ua dA rA c x t lk U by_) : CBox w b11 fa fl fc lx ll cx wa wn wc ta tn tc x := by
 refine ⟨h.bx, ?_⟩; have hi := h.d.inn
 obtain ⟨A1, c1, he, h1, -⟩ := own_rd (f := lkI) (fun _ => rfl) (by decide) (show w.ownsRow B1 61 3 (.slice lx ll cx) lk.length (lk.flatMap lkI) by rw [h.tr.len, hi.riv.ell]; exact h.oL)
 injection he with e1 e2 e3
 subst e1; rw [← h.xe]; exact { hi with riv := { hi.riv with ell := by show lk.length = ll; rw [h.tr.len, hi.riv.ell], hlk := h1 } }
theorem TrZ.hv (h : TrZ w0 w b3 cn us fl fc ll lc wn wc tn tc bn ul uc b8 b11 cx dc rc B1 N fa la wa ta lx ba ua dA rA c x t lk U by_) : openE x true = 0 := by rw [← h.xe]; exact cartL_open h.d.ok h.tr
theorem TrZ.okx (h : TrZ w0 w b3 cn us fl fc ll lc wn wc tn tc bn ul uc b8 b11 cx dc rc B1 N fa la wa ta lx ba ua dA rA c x t lk U by_) : okC x = true := by rw [← h.xe]; exact cartL_ok h.d.ok h.tr
theorem TrZ.xw (h : TrZ w0 w b3 cn us fl fc ll lc wn wc tn tc bn ul uc b8 b11 cx dc rc B1 N fa la wa ta lx ba ua dA rA c x t lk U by_) : x.wg = c.wg := by rw [← h.xe]; rfl
theorem RdG.of_bools {B : Nat} {A : Option Addr} {n cp : Nat} {L : List Bool} (h : w.ownsRow B 4 1 (.slice A n cp) n (L.flatMap boV)) (hn : L.length = n) : RdG boV 1 w w.heap.size A L := by
 rw [← hn] at h; obtain ⟨A', cq, he, hrd, -⟩ := own_rd boV_len (by decide) h
 injection he with e1 e2 e3
 rw [e1]; exact hrd
def DaysK (c : ICart) (t : Tr) (k : Nat) (D : List Int) (TI : List Bool) : Prop := D.length = k ∧ TI.length = k ∧ ∀ (m : Nat) (g : IWag), m < k → c.wg[m]? = some g → ∃ d : Nat, D[m]? = some (d : Int) ∧ g.leaves + g.takes.lo ≤ d ∧ (d : Int) ≤ g.leaves + g.takes.hi ∧ TI[m]? = some (isIn c t d)
theorem DaysK.snoc {k d : Nat} {D : List Int} {TI : List Bool} {g : IWag} (h : DaysK c t k D TI) (hg : c.wg[k]? = some g) (h1 : g.leaves + g.takes.lo ≤ d) (h2 : (d : Int) ≤ g.leaves + g.takes.hi) : DaysK c t (k + 1) (D ++ [(d : Int)]) (TI ++ [isIn c t d]) := by
 refine ⟨by simp [h.1], by simp [h.2.1], fun m g' hm hg' => ?_⟩
 by_cases e : m = k
 ·subst e; rw [hg] at hg'
  cases hg'
  exact ⟨d, by rw [← h.1]; simp, h1, h2, by rw [← h.2.1]; simp⟩
 ·obtain ⟨d', a1, a2, a3, a4⟩ := h.2.2 m g' (by omega) hg'
  have l1 := h.1; have l2 := h.2.1; exact ⟨d', by rw [List.getElem?_append_left (by omega)]; exact a1, a2, a3, by rw [List.getElem?_append_left (by omega)]; exact a4⟩
theorem TrZ.toX {A15 A16 : Option Addr} {c15 c16 B2 : Nat} {D : List Int} {TI : List Bool} (h : TrZ w0 w b3 cn us fl fc ll lc wn wc tn tc bn ul uc b8 b11 cx dc rc B1 N fa la wa ta lx ba ua dA rA c x t lk U by_) (hd : DaysK c t wn D TI) (o1 : w.ownsRow B2 3 1 (.slice A15 wn c15) wn (D.flatMap inI)) (o2 : w.ownsRow B2 4 1 (.slice A16 wn c16) wn (TI.flatMap boV)) : TrX w0 w b3 b11 fl fc ll lc wn wc tn tc cx bn fa la wa ta lx ba A15 A16 c x t lk D TI by_ :=
 { bw := h.d.bw, hP := h.d.hP, box := h.d.box, ok := h.d.ok, xe := h.xe, tr := h.tr, hx := h.hx, rd := RdG.of_ints o1 hd.1, rt := RdG.of_bools o2 hd.2.1, days := fun m g hg => hd.2.2 m g (by have := (List.getElem?_eq_some_iff.1 hg).1; have := h.d.hP.ewn; omega) hg, hbn := h.d.hbn, hbm := h.d.hbm, h255 := h.d.h255, hby := h.d.hby }
theorem two_app {B k d c15 c16 : Nat} {A15 A16 : Option Addr} {D : List Int} {TI : List Bool} {b : Bool} (hB : B ≤ w.heap.size) (hk : k ≤ 100) (o1 : w.ownsRow B 3 1 (.slice A15 k c15) k (D.flatMap inI)) (o2 : w.ownsRow B 4 1 (.slice A16 k c16) k (TI.flatMap boV)) :
  ∃ (gA cA gB cB : Nat) (w1 w2 : World), (Builtin.append_ #[32, 32] 32 #[.slice A15 k c15, .slice (some ⟨w.heap.size, 0, none⟩) 1 1]).run Tryz.prog (w.alloc (.cells #[.int .i64 d] 3)) = .ok (.slice (some ⟨gA, 0, none⟩) (k + 1) cA) w1 ∧
   (Builtin.append_ #[63, 63] 63 #[.slice A16 k c16, .slice (some ⟨w1.heap.size, 0, none⟩) 1 1]).run Tryz.prog (w1.alloc (.cells #[.bool b] 4)) = .ok (.slice (some ⟨gB, 0, none⟩) (k + 1) cB) w2 ∧
   w2.ownsRow B 3 1 (.slice (some ⟨gA, 0, none⟩) (k + 1) cA) (k + 1) ((D ++ [(d : Int)]).flatMap inI) ∧ w2.ownsRow B 4 1 (.slice (some ⟨gB, 0, none⟩) (k + 1) cB) (k + 1) ((TI ++ [b]).flatMap boV) ∧ Turn (fun b => B ≤ b) w w2 := by
 obtain ⟨i3, hi, hz0, hz1, hz2⟩ := info_parts Tryz.infoE3; obtain ⟨i4, ji, jz0, jz1, jz2⟩ := info_parts Tryz.infoE4; have hb1 : Below w.heap.size w (w.alloc (.cells #[.int .i64 d] 3)) := (Below.refl _ _).alloc (Nat.le_refl _) _; have ob1 := own_below o1 hb1; obtain ⟨gA, cA, w1, hr1, p1, t1, -⟩ := append_at (P := Tryz.prog) B 32 32 3 i3 _ 1 8 Tryz.underlying32 hi hz0 hz1 hz2 rfl (by decide) _ k _ ob1 ⟨w.heap.size, 0, none⟩ 1 [.int .i64 d] rfl (news_block (Blk.new w 3 _)) (by simp [Value.oneCell']) (by omega) (by omega) (Nat.le_trans hB hb1.size)
 have ob2 := own_turn (own_below o2 hb1) t1 (fun g hg e => by
  obtain ⟨-, cs, hcs⟩ := own_block (own_below o2 hb1) hg; obtain ⟨-, cs', hcs'⟩ := own_block ob1 e
  exact blk_ne hcs hcs' (by decide) rfl)
 have hb2 : Below w1.heap.size w1 (w1.alloc (.cells #[.bool b] 4)) := (Below.refl _ _).alloc (Nat.le_refl _) _; have ob3 := own_below ob2 hb2; have hs1 := t1.size; have hb1s := hb1.size; obtain ⟨gB, cB, w2, hr2, p2, t2, -⟩ := append_at (P := Tryz.prog) B 63 63 4 i4 _ 1 1 Tryz.underlying63 ji jz0 jz1 jz2 rfl (by decide) _ k _ ob3 ⟨w1.heap.size, 0, none⟩ 1 [.bool b] rfl (news_block (Blk.new w1 4 _)) (by simp [Value.oneCell']) (by omega) (by omega) (by have := hb2.size; omega)
 have p3 := own_below p1 hb2; refine ⟨gA, cA, gB, cB, w1, w2, hr1, hr2, ?_, ?_, ?_⟩
 ·rw [List.flatMap_append]
  refine own_turn p3 t2 (fun g hg e => ?_)
  obtain ⟨-, cs, hcs⟩ := own_block p3 hg; obtain ⟨-, cs', hcs'⟩ := own_block ob3 e; exact blk_ne hcs hcs' (by decide) rfl
 ·rw [List.flatMap_append]; exact p2
 ·have a1 : Turn (fun b => B ≤ b) w (w.alloc (.cells #[.int .i64 d] 3)) := Turn.of_below hb1
  have a2 : Turn (fun b => B ≤ b) (w.alloc (.cells #[.int .i64 d] 3)) w1 := t1.mono (fun g e => (own_block ob1 e).1)
  have a3 : Turn (fun b => B ≤ b) w1 (w1.alloc (.cells #[.bool b] 4)) := Turn.of_below hb2
  exact ((a1.trans a2).trans a3).trans (t2.mono (fun g e => (own_block ob3 e).1))
theorem tr8 (hZ : TrZ w0 K b3 cn us fl fc ll lc wn wc tn tc bn ul uc b8 b11 cx dc rc B1 N fa la wa ta lx ba ua dA rA c x t lk U by_) (hN : N ≤ 900) : TR5 8 w0 (.slice ba bn bc) (.pointer (some ⟨b3, 0, none⟩)) (.func (.func 87) #[] #[.pointer (some ⟨cn, 0, none⟩), .pointer (some ⟨us, 0, none⟩)]) (.pointer (some ⟨b8, 0, none⟩)) (.pointer (some ⟨b11, 0, none⟩)) K := by
 unfold TR5 TG
 intros
 have hw3 : wn ≤ 3 := by have := (okC_parts hZ.d.ok).2.2.1; rw [hZ.d.hP.ewn] at this; exact this
 have HEW := Lib.hid hZ.d.hP.ewn; have HCK : Hid (cn < K.heap.size) := hZ.d.cnt.lt
 have HEND : Hid (∀ (wz : World) (A15 A16 : Option Addr) (c15 c16 : Nat) (D : List Int) (TI : List Bool), Turn (fun b => b = cn) K wz → Cnt cn (N + wn) wz → DaysK c t wn D TI → wz.ownsRow K.heap.size 3 1 (.slice A15 wn c15) wn (D.flatMap inI) → wz.ownsRow K.heap.size 4 1 (.slice A16 wn c16) wn (TI.flatMap boV) → TR4 11 w0 (.slice ba bn bc) (.pointer (some ⟨b3, 0, none⟩)) (.pointer (some ⟨b11, 0, none⟩)) (.slice A15 wn c15) (.slice A16 wn c16) wz) := fun wz A15 A16 c15 c16 D TI ht hc hd o1 o2 => tr11 ((hZ.turn ht hc).toX hd o1 o2)
 have HOF : Hid (∀ {wr : World} (wz : World), Turn (fun b => b = cn) wr wz → ∀ {v : Value} {e sz n : Nat} {xs : List Value}, wr.ownsRow K.heap.size e sz v n xs → wz.ownsRow K.heap.size e sz v n xs) := fun wz ht v e sz n xs ho => own_turn ho ht (fun g hg e => by
  have h1 := (own_block ho hg).1; have h2 := HCK.out; have e' : g = cn := e
  omega)
 have HZ := Lib.hid hZ; clear hZ
 conv => arg 2; whnf
 conv => arg 2; arg 2; arg 2; arg 2; change trK 11
 have hx := HZ.out.d.box; obtain ⟨q0, q1, q2, q3, q4, q5, q6, q7, q8, q9, ql⟩ := cx31 hx; clear hx; go_wp2; clear q0 q1 q2 q3 q4 q5 q6 q7 q8 q9 ql
 go_loopw [15, 16, 133] (fun a b i wr => ∃ (k : Nat) (D : List Int) (TI : List Bool) (A15 A16 : Option Addr) (c15 c16 : Nat), k ≤ wn ∧ i = .int .i64 k ∧ a = .slice A15 k c15 ∧ b = .slice A16 k c16 ∧ Hid (DaysK c t k D TI) ∧ Hid (Turn (fun b => b = cn) K wr) ∧ Hid (Cnt cn (N + k) wr) ∧ Hid (wr.ownsRow K.heap.size 3 1 (.slice A15 k c15) k (D.flatMap inI)) ∧ Hid (wr.ownsRow K.heap.size 4 1 (.slice A16 k c16) k (TI.flatMap boV))) (fun _ _ i _ => wn - (intOf i).toNat)
 case atStart => exact ⟨0, [], [], none, none, 0, 0, Nat.zero_le _, rfl, rfl, rfl, ⟨rfl, rfl, fun m g hm => absurd hm (by omega)⟩, Turn.refl _ _, HZ.out.d.cnt, World.ownsRow_nil _ _ _ _, World.ownsRow_nil _ _ _ _⟩
 case round =>
  obtain ⟨k, D, TI, A15, A16, c15, c16, hk, rfl, rfl, rfl, HDK, HT, HC, HO1, HO2⟩ := hrel
  by_cases hlt : k < wn
  ·obtain ⟨g, hg⟩ : ∃ g, c.wg[k]? = some g := ⟨c.wg[k]'(by have := HEW.out; omega), by simp⟩
   have HZ1 := Lib.hid (HZ.out.turn HT.out HC.out); have hgb := (okC_parts HZ1.out.d.ok).2.2.2.2.1 g (List.mem_of_getElem? hg); obtain ⟨bw, ow, hwa, hbw, G0, G1, G2, G3⟩ := rd_wg HZ1.out.d.inn.hwg k g hg; have hbw' : bw < wr.heap.size := hbw; obtain ⟨T, hT⟩ : ∃ T, x.tm g = T := ⟨_, rfl⟩; have HXG : Hid (x.wg[k]? = some g) := by show _ = _; rw [HZ1.out.xw]; exact hg
   have hib : isWagB x k = true := inB_iff.2 ⟨by omega, by rw [HZ1.out.xw]; have := HEW.out; omega⟩
   have HIE : Hid (inTimeE x k = 0 ∧ inTimeV x k = T) := by
    have h1 : inTimeE x k = 0 := by unfold inTimeE; rw [hib]; exact HZ1.out.hv
    exact ⟨h1, by unfold inTimeV; rw [h1, if_pos rfl, Int.toNat_natCast, HXG.out]; exact hT⟩
   have HAE0 : Hid (arrivesE x k = 0 ∧ arrivesV x k = (g.leaves + g.takes.lo, g.leaves + g.takes.hi)) := by
    have h1 : arrivesE x k = 0 := by unfold arrivesE; rw [HZ1.out.okx, hib]; rfl
    exact ⟨h1, by unfold arrivesV; rw [h1, if_pos rfl, Int.toNat_natCast, HXG.out]; rfl⟩
   have HTT0 : Hid (∀ d : Nat, g.leaves + g.takes.lo ≤ d → (d : Int) ≤ g.leaves + g.takes.hi → (T = 2 → isIn c t d = true) ∧ (T = 0 → isIn c t d = false) ∧ T ≤ 2) := fun d h1 h2 => by rw [← hT, ← HZ1.out.xe]; exact tm_true HZ1.out.d.ok HZ1.out.tr hgb h1 h2
   have HG0 := Lib.hid hg; have hgB := wagB_iff.1 hgb; obtain ⟨g0, ⟨g1, g2⟩, g3⟩ := g; simp only at hgB G0 G1 G2 G3 HAE0 HTT0; obtain ⟨lv, rfl⟩ : ∃ n : Nat, g0 = n := ⟨g0.toNat, by omega⟩
   obtain ⟨lo, rfl⟩ : ∃ n : Nat, g1 = n := ⟨g1.toNat, by omega⟩
   obtain ⟨hi, rfl⟩ : ∃ n : Nat, g2 = n := ⟨g2.toNat, by omega⟩
   have HAE := HAE0; have HG := HG0; have HGB := Lib.hid hgB; subst hwa; have hki : (k : Int) < wn := by omega
   obtain ⟨V1, hV1⟩ : ∃ V, V = wr.alloc (.cells #[.int .i64 (lv : Int), .int .i64 (lo : Int), .int .i64 (hi : Int), .int .i64 g3] 65) := ⟨_, rfl⟩; obtain ⟨pW, hpW⟩ : ∃ q, q = wr.heap.size := ⟨_, rfl⟩; have hb1 : Below wr.heap.size wr V1 := by rw [hV1]; exact (Below.refl _ _).alloc (Nat.le_refl _) _
   have HW1 : Hid (Blk V1 pW 65 #[.int .i64 (lv : Int), .int .i64 (lo : Int), .int .i64 (hi : Int), .int .i64 g3]) := by rw [hV1, hpW]; exact Blk.new wr 65 _
   have HZ2 := Lib.hid (HZ1.out.below hb1)
   have HT1 : Hid (Turn (fun b => b = cn) wr V1) := Turn.of_below hb1
   clear hg hgb hT hib; go_upto_region 23 with (fail); rw [← hV1, ← hpW]; clear hV1 hpW hb1 G0 G1 G2 G3 hbw hbw'; have HNW : Hid (¬ pW = cn) := HZ2.out.d.cnt.ne HW1.out (by decide)
   have hNk : N + k ≤ 1000 := by omega
   refine HavG.wp_region_stg (fun wv => Turn (fun b => b = cn) V1 wv) [(0,false),(1,false),(2,false),(3,false),(4,false),(5,true)] [6, 7] (fun _ _ => False) (by kernel_rfl) (by kernel_rfl) (fun _ _ _ _ h => h.elim) ((Turn.refl _ _).drew) ?_
   (apply HavG.stg_same (by exact ho rfl) (by kernel_rfl); (focus (intro wv hI; have hx := HW1.out.turn hI HNW.out; have y0 := hx.cell 0; have y1 := hx.cell 1; have y2 := hx.cell 2; have yl := hx.lt; (simp at y0 y1 y2); (try go_simp); try rfl; done)); simp only [Act.put, List.setIfInBounds_toArray, List.set_cons_succ, List.set_cons_zero])
   iterate 4 (apply HavG.stg_same (by exact ho rfl) (by kernel_rfl); (focus (intro wv hI; have hx := HW1.out.turn hI HNW.out; have y0 := hx.cell 0; have y1 := hx.cell 1; have y2 := hx.cell 2; have yl := hx.lt; (simp at y0 y1 y2); (try go_simp); try rfl; done)); simp only [Act.put, List.setIfInBounds_toArray, List.set_cons_succ, List.set_cons_zero])
   (apply HavG.stg_call (by exact ho rfl) (by kernel_rfl); (focus (go_simp; try exact ⟨rfl, rfl⟩; done)))
   have hZd := (HZ2.out.turn ((Turn.refl _ V1).drew) (HZ2.out.d.cnt.turn ((Turn.refl (fun _ => False) V1).drew) id)).d
   refine (hZd.draw hNk (by omega) (by omega)).mono ?_
   rintro e v2 ⟨⟨v, rfl, hv1, hv2⟩, hc2, ht2⟩
   have ht : Turn (fun b => b = cn) V1 v2 := ((Turn.refl _ _).drew).trans ht2
   refine .inl ⟨_, rfl, ht, ?_⟩; simp only [Act.put, List.setIfInBounds_toArray, List.set_cons_succ, List.set_cons_zero]; simp only [HavG.wpStg, List.filterMap]; have HZV := Lib.hid (HZ2.out.turn ht hc2)
   have HTV : Hid (Turn (fun b => b = cn) wr v2) := HT1.out.trans ht
   have HWV := Lib.hid (HW1.out.turn ht HNW.out); have HV12 : Hid (lo ≤ v ∧ v ≤ hi) := ⟨hv1, hv2⟩; have hwv : IntKind.i64.wrap ((lv : Int) + v) = ((lv + v : Nat) : Int) := (IntWalk.i64_in _ (by omega)).trans (by omega)
   have HTT : Hid ((T = 2 → isIn c t (lv + v) = true) ∧ (T = 0 → isIn c t (lv + v) = false) ∧ T ≤ 2) := HTT0.out (lv + v) (by omega) (by omega)
   obtain ⟨b, hbE⟩ : ∃ b, isIn c t (lv + v) = b := ⟨_, rfl⟩; rw [hbE] at HTT; have HBE := Lib.hid hbE; have hcd := (okR_pts (okC_parts HZV.out.d.ok).1).1.2.2.1; have hcd2 := inB_iff.1 hcd; clear hZd hv1 hv2 hc2 ht2 ht hbE; go_upto_region 24 with (fail); have hx := HZV.out.d.box; obtain ⟨q0, q1, q2, q3, q4, q5, q6, q7, q8, q9, ql⟩ := cx31 hx; clear hx; have hbt := HZV.out.bt; have u0 := hbt.cell 0; have u1 := hbt.cell 1; have u2 := hbt.cell 2; have u3 := hbt.cell 3; have ul := hbt.lt; simp at u0 u1 u2 u3; clear hbt
   by_cases hd : (lv : Int) + v ≤ c.riv.days
   ·have hq : decide (((lv + v : Nat) : Int) ≤ c.riv.days) = true := decide_eq_true (by omega)
    have hq3 : decide (c.draws ≤ ((t.at_ (lv + v) : Nat) : Int)) = b := by
     have h := HBE.out; unfold isIn at h; have h5 : c.riv.nat.days = c.riv.days.toNat := rfl; rw [decide_eq_true (show lv + v ≤ c.riv.nat.days by rw [h5]; omega), Bool.true_and] at h
     rw [← h]; exact decide_eq_decide.2 (by omega)
    refine wp_region_havoc [(0,false),(1,false),(2,false),(3,false),(4,false),(5,false),(6,false),(7,false),(8,false),(9,false),(10,false),(11,false),(12,false),(13,false),(14,false),(15,false),(16,false),(17,false)] [] (fun _ _ => False) (by kernel_rfl) (by kernel_rfl) (fun _ _ _ _ h => h.elim) ?_
    (apply hav_same (by exact ho rfl) (by kernel_rfl); (focus (intro wv hgv _; have hcv := cvB hgv; (try go_simp); try rfl; done)); simp only [Act.put, List.setIfInBounds_toArray, List.set_cons_succ, List.set_cons_zero])
    iterate 11 (apply hav_same (by exact ho rfl) (by kernel_rfl); (focus (intro wv hgv _; have hcv := cvB hgv; (try go_simp); try rfl; done)); simp only [Act.put, List.setIfInBounds_toArray, List.set_cons_succ, List.set_cons_zero])
    (apply hav_call (by exact ho rfl) (by kernel_rfl); (focus (intro wv; go_simp; try exact ⟨rfl, rfl⟩; done)); (focus (intro wv hgv _; rw [if_neg (show ¬ c.riv.days < (lv : Int) + (v : Int) by omega)]; have h9 := in_any (dc := dc) (rc := rc) HZV.out.sm (lv + v) (by omega) wv (HZV.out.ti.below hgv); rw [show ((lv + v : Nat) : Int) = (lv : Int) + v from by omega] at h9; exact h9; done)); simp only [Act.put, List.setIfInBounds_toArray, List.set_cons_succ, List.set_cons_zero])
    iterate 5 (apply hav_same (by exact ho rfl) (by kernel_rfl); (focus (intro wv hgv _; have hcv := cvB hgv; (try go_simp); try rfl; done)); simp only [Act.put, List.setIfInBounds_toArray, List.set_cons_succ, List.set_cons_zero])
    refine hav_end (fun v3 hgz _ => ?_)
    simp only [List.filterMap]; have HZ3 := Lib.hid (HZV.out.below hgz)
    have HT3 : Hid (Turn (fun b => b = cn) wr v3) := HTV.out.trans (Turn.of_below hgz)
    clear hgz u0 u1 u2 u3 ul; clear q0 q1 q2 q3 q4 q5 q6 q7 q8 q9 ql; have hx := HZ3.out.hx.box; obtain ⟨q0, q1, q2, q3, q4, q5, q6, q7, q8, q9, ql⟩ := cx31 hx; clear hx; go_wp2_with fail; refine (PArrives_any (fa := fa) (fl := fl) (fc := fc) (la := lx) (ll := ll) (lc := cx) (wa := some ⟨bw, ow, none⟩) (wn := wn) (wc := wc) (ta := ta) (tn := tn) (tc := tc) (w := v3) (c := x) k HZ3.out.hx.inn).mono ?_; rw [HAE.out.1, HAE.out.2]; rintro e v4 ⟨rfl, hb⟩; unfold spanV; clear q0 q1 q2 q3 q4 q5 q6 q7 q8 q9 ql; obtain ⟨V5, hV5⟩ : ∃ V, V = v4.alloc (.cells #[.int .i64 ((lv : Int) + (lo : Int)), .int .i64 ((lv : Int) + (hi : Int))] 23) := ⟨_, rfl⟩; obtain ⟨pS, hpS⟩ : ∃ q, q = v4.heap.size := ⟨_, rfl⟩; have hb5 : Below v3.heap.size v3 V5 := by rw [hV5]; exact hb.alloc hb.size _
    have HS5 : Hid (Blk V5 pS 23 #[.int .i64 ((lv : Int) + (lo : Int)), .int .i64 ((lv : Int) + (hi : Int))]) := by rw [hV5, hpS]; exact Blk.new v4 23 _
    have HZ5 := Lib.hid (HZ3.out.below hb5)
    have HT5 : Hid (Turn (fun b => b = cn) wr V5) := HT3.out.trans (Turn.of_below hb5)
    go_upto_region 26 with (fail); rw [← hV5, ← hpS]; clear hV5 hpS hb hb5; have hx := HZ5.out.hx.box; obtain ⟨q0, q1, q2, q3, q4, q5, q6, q7, q8, q9, ql⟩ := cx31 hx; clear hx; go_wp2_with fail; refine (PInTime_any (fa := fa) (fl := fl) (fc := fc) (la := lx) (ll := ll) (lc := cx) (wa := some ⟨bw, ow, none⟩) (wn := wn) (wc := wc) (ta := ta) (tn := tn) (tc := tc) (w := V5) (c := x) k HZ5.out.hx.inn).mono ?_; rw [HIE.out.1, HIE.out.2]; rintro e v6 ⟨rfl, hb⟩; have HS6 := Lib.hid (HS5.out.below hb HS5.out.lt); have HZ6 := Lib.hid (HZ5.out.below hb)
    have HT6 : Hid (Turn (fun b => b = cn) wr v6) := HT5.out.trans (Turn.of_below hb)
    clear hb; clear q0 q1 q2 q3 q4 q5 q6 q7 q8 q9 ql; have hs := HS6.out; have z0 := hs.cell 0; have z1 := hs.cell 1; have zl := hs.lt; simp at z0 z1; clear hs; obtain ⟨gA, cA, gB, cB, w1, w2, hr1, hr2, p1, p2, t12⟩ := two_app (w := v6) (B := K.heap.size) (k := k) (d := lv + v) (b := b) (Nat.le_trans HT.out.size HT6.out.size) (by omega) (HOF.out v6 HT6.out HO1.out) (HOF.out v6 HT6.out HO2.out)
    have HN1 : Hid (Turn (fun b => b = cn) K w2) := (HT.out.trans HT6.out).join t12 (fun b hb hl => absurd hl (by have hb' : K.heap.size ≤ b := hb; omega))
    have HN2 : Hid (Cnt cn (N + (k + 1)) w2) := by have h : Cnt cn (N + k + 1) w2 := HZ6.out.d.cnt.turn t12 (by have := HCK.out; intro e; have e' : K.heap.size ≤ cn := e; omega); exact h
    have HND : Hid (DaysK c t (k + 1) (D ++ [((lv + v : Nat) : Int)]) (TI ++ [b])) := by have h := HDK.out.snoc (d := lv + v) HG.out (by show (lv : Int) + lo ≤ _; have := HV12.out; omega) (by show _ ≤ (lv : Int) + hi; have := HV12.out; omega); rw [HBE.out] at h; exact h
    have HP1 := Lib.hid p1; have HP2 := Lib.hid p2; have HR1 := Lib.hid hr1; have HR2 := Lib.hid hr2; clear hr1 hr2 p1 p2 t12; have y1 : decide (v < lo) = false := decide_eq_false (by have := HV12.out; omega)
    have y2 : decide (hi < v) = false := decide_eq_false (by have := HV12.out; omega)
    have y3 : ¬ v < lo := by have := HV12.out; omega
    have y4 : ¬ hi < v := by have := HV12.out; omega
    have hT3 := HTT.out.2.2
    by_cases hT0 : T = 0
    ·obtain rfl : b = false := HTT.out.2.1 hT0; subst hT0
     go_wp2_with (first | (at_builtin; refine wpList_append_runM rfl _ _ 32 rfl rfl rfl HR1.out ?_; clear HR1) | (at_builtin; refine wpList_append_runM rfl _ _ 63 rfl rfl rfl HR2.out ?_; clear HR2))
     go_wp2; go_roundw
     case rel => exact ⟨k + 1, _, _, some ⟨gA, 0, none⟩, some ⟨gB, 0, none⟩, cA, cB, by omega, by go_num, rfl, rfl, HND, HN1, HN2, HP1, HP2⟩
     case measure => simp [intOf]; omega
    by_cases hT2 : T = 2
    ·obtain rfl : b = true := HTT.out.1 hT2; subst hT2
     go_wp2_with (first | (at_builtin; refine wpList_append_runM rfl _ _ 32 rfl rfl rfl HR1.out ?_; clear HR1) | (at_builtin; refine wpList_append_runM rfl _ _ 63 rfl rfl rfl HR2.out ?_; clear HR2))
     go_wp2; go_roundw
     case rel => exact ⟨k + 1, _, _, some ⟨gA, 0, none⟩, some ⟨gB, 0, none⟩, cA, cB, by omega, by go_num, rfl, rfl, HND, HN1, HN2, HP1, HP2⟩
     case measure => simp [intOf]; omega
    ·obtain rfl : T = 1 := by omega
     go_wp2_with (first | (at_builtin; refine wpList_append_runM rfl _ _ 32 rfl rfl rfl HR1.out ?_; clear HR1) | (at_builtin; refine wpList_append_runM rfl _ _ 63 rfl rfl rfl HR2.out ?_; clear HR2))
     go_wp2; go_roundw
     case rel => exact ⟨k + 1, _, _, some ⟨gA, 0, none⟩, some ⟨gB, 0, none⟩, cA, cB, by omega, by go_num, rfl, rfl, HND, HN1, HN2, HP1, HP2⟩
     case measure => simp [intOf]; omega
   ·have hq : decide (((lv + v : Nat) : Int) ≤ c.riv.days) = false := decide_eq_false (by omega)
    obtain rfl : b = false := by
     rw [← HBE.out]; unfold isIn; have h5 : c.riv.nat.days = c.riv.days.toNat := rfl; rw [decide_eq_false (show ¬ lv + v ≤ c.riv.nat.days by rw [h5]; omega), Bool.false_and]
    refine wp_region_havoc [(0,false),(1,false),(2,false),(3,false),(4,false),(5,false),(6,false),(7,false),(8,false),(9,false),(10,false),(11,false),(12,false),(13,false),(14,false),(15,false),(16,false),(17,false)] [] (fun _ _ => False) (by kernel_rfl) (by kernel_rfl) (fun _ _ _ _ h => h.elim) ?_
    (apply hav_same (by exact ho rfl) (by kernel_rfl); (focus (intro wv hgv _; have hcv := cvB hgv; (try go_simp); try rfl; done)); simp only [Act.put, List.setIfInBounds_toArray, List.set_cons_succ, List.set_cons_zero])
    iterate 5 (apply hav_same (by exact ho rfl) (by kernel_rfl); (focus (intro wv hgv _; have hcv := cvB hgv; (try go_simp); try rfl; done)); simp only [Act.put, List.setIfInBounds_toArray, List.set_cons_succ, List.set_cons_zero])
    iterate 10 (refine HavG.hav_skip (by exact ho rfl) (by kernel_rfl) ?_; simp only [Act.put, List.setIfInBounds_toArray, List.set_cons_succ, List.set_cons_zero])
    iterate 2 (apply hav_same (by exact ho rfl) (by kernel_rfl); (focus (intro wv hgv _; have hcv := cvB hgv; (try go_simp); try rfl; done)); simp only [Act.put, List.setIfInBounds_toArray, List.set_cons_succ, List.set_cons_zero])
    refine hav_end (fun v3 hgz _ => ?_)
    simp only [List.filterMap]; have HZ3 := Lib.hid (HZV.out.below hgz)
    have HT3 : Hid (Turn (fun b => b = cn) wr v3) := HTV.out.trans (Turn.of_below hgz)
    clear hgz u0 u1 u2 u3 ul; clear q0 q1 q2 q3 q4 q5 q6 q7 q8 q9 ql; have hx := HZ3.out.hx.box; obtain ⟨q0, q1, q2, q3, q4, q5, q6, q7, q8, q9, ql⟩ := cx31 hx; clear hx; go_wp2_with fail; refine (PArrives_any (fa := fa) (fl := fl) (fc := fc) (la := lx) (ll := ll) (lc := cx) (wa := some ⟨bw, ow, none⟩) (wn := wn) (wc := wc) (ta := ta) (tn := tn) (tc := tc) (w := v3) (c := x) k HZ3.out.hx.inn).mono ?_; rw [HAE.out.1, HAE.out.2]; rintro e v4 ⟨rfl, hb⟩; unfold spanV; clear q0 q1 q2 q3 q4 q5 q6 q7 q8 q9 ql; obtain ⟨V5, hV5⟩ : ∃ V, V = v4.alloc (.cells #[.int .i64 ((lv : Int) + (lo : Int)), .int .i64 ((lv : Int) + (hi : Int))] 23) := ⟨_, rfl⟩; obtain ⟨pS, hpS⟩ : ∃ q, q = v4.heap.size := ⟨_, rfl⟩; have hb5 : Below v3.heap.size v3 V5 := by rw [hV5]; exact hb.alloc hb.size _
    have HS5 : Hid (Blk V5 pS 23 #[.int .i64 ((lv : Int) + (lo : Int)), .int .i64 ((lv : Int) + (hi : Int))]) := by rw [hV5, hpS]; exact Blk.new v4 23 _
    have HZ5 := Lib.hid (HZ3.out.below hb5)
    have HT5 : Hid (Turn (fun b => b = cn) wr V5) := HT3.out.trans (Turn.of_below hb5)
    go_upto_region 26 with (fail); rw [← hV5, ← hpS]; clear hV5 hpS hb hb5; have hx := HZ5.out.hx.box; obtain ⟨q0, q1, q2, q3, q4, q5, q6, q7, q8, q9, ql⟩ := cx31 hx; clear hx; go_wp2_with fail; refine (PInTime_any (fa := fa) (fl := fl) (fc := fc) (la := lx) (ll := ll) (lc := cx) (wa := some ⟨bw, ow, none⟩) (wn := wn) (wc := wc) (ta := ta) (tn := tn) (tc := tc) (w := V5) (c := x) k HZ5.out.hx.inn).mono ?_; rw [HIE.out.1, HIE.out.2]; rintro e v6 ⟨rfl, hb⟩; have HS6 := Lib.hid (HS5.out.below hb HS5.out.lt); have HZ6 := Lib.hid (HZ5.out.below hb)
    have HT6 : Hid (Turn (fun b => b = cn) wr v6) := HT5.out.trans (Turn.of_below hb)
    clear hb; clear q0 q1 q2 q3 q4 q5 q6 q7 q8 q9 ql; have hs := HS6.out; have z0 := hs.cell 0; have z1 := hs.cell 1; have zl := hs.lt; simp at z0 z1; clear hs; obtain ⟨gA, cA, gB, cB, w1, w2, hr1, hr2, p1, p2, t12⟩ := two_app (w := v6) (B := K.heap.size) (k := k) (d := lv + v) (b := false) (Nat.le_trans HT.out.size HT6.out.size) (by omega) (HOF.out v6 HT6.out HO1.out) (HOF.out v6 HT6.out HO2.out)
    have HN1 : Hid (Turn (fun b => b = cn) K w2) := (HT.out.trans HT6.out).join t12 (fun b hb hl => absurd hl (by have hb' : K.heap.size ≤ b := hb; omega))
    have HN2 : Hid (Cnt cn (N + (k + 1)) w2) := by have h : Cnt cn (N + k + 1) w2 := HZ6.out.d.cnt.turn t12 (by have := HCK.out; intro e; have e' : K.heap.size ≤ cn := e; omega); exact h
    have HND : Hid (DaysK c t (k + 1) (D ++ [((lv + v : Nat) : Int)]) (TI ++ [false])) := by have h := HDK.out.snoc (d := lv + v) HG.out (by show (lv : Int) + lo ≤ _; have := HV12.out; omega) (by show _ ≤ (lv : Int) + hi; have := HV12.out; omega); rw [HBE.out] at h; exact h
    have HP1 := Lib.hid p1; have HP2 := Lib.hid p2; have HR1 := Lib.hid hr1; have HR2 := Lib.hid hr2; clear hr1 hr2 p1 p2 t12; have y1 : decide (v < lo) = false := decide_eq_false (by have := HV12.out; omega)
    have y2 : decide (hi < v) = false := decide_eq_false (by have := HV12.out; omega)
    have y3 : ¬ v < lo := by have := HV12.out; omega
    have y4 : ¬ hi < v := by have := HV12.out; omega
    have hT3 := HTT.out.2.2
    by_cases hT0 : T = 0
    ·skip
     subst hT0
     go_wp2_with (first | (at_builtin; refine wpList_append_runM rfl _ _ 32 rfl rfl rfl HR1.out ?_; clear HR1) | (at_builtin; refine wpList_append_runM rfl _ _ 63 rfl rfl rfl HR2.out ?_; clear HR2))
     go_wp2; go_roundw
     case rel => exact ⟨k + 1, _, _, some ⟨gA, 0, none⟩, some ⟨gB, 0, none⟩, cA, cB, by omega, by go_num, rfl, rfl, HND, HN1, HN2, HP1, HP2⟩
     case measure => simp [intOf]; omega
    by_cases hT2 : T = 2
    ·exact absurd (HTT.out.1 hT2) (by decide)
    ·obtain rfl : T = 1 := by omega
     go_wp2_with (first | (at_builtin; refine wpList_append_runM rfl _ _ 32 rfl rfl rfl HR1.out ?_; clear HR1) | (at_builtin; refine wpList_append_runM rfl _ _ 63 rfl rfl rfl HR2.out ?_; clear HR2))
     go_wp2; go_roundw
     case rel => exact ⟨k + 1, _, _, some ⟨gA, 0, none⟩, some ⟨gB, 0, none⟩, cA, cB, by omega, by go_num, rfl, rfl, HND, HN1, HN2, HP1, HP2⟩
     case measure => simp [intOf]; omega
  ·obtain rfl : k = wn := by omega
   go_wp2; exact (HEND.out _ _ _ _ _ _ _ HT.out HC.out HDK.out HO1.out HO2.out).go.go
end
end Go.Proofs.YtgmfhngcehkibaaGreat
namespace Go.Proofs.YtgmfhngcehkibaaGreat
structure TrueT (r : IRiv) (t : Tr) : Prop where
 b1 : r.nat.fall.lo ≤ t.by_
 b2 : t.by_ ≤ r.nat.fall.hi
 d1 : r.nat.depth.lo ≤ t.d
 d2 : t.d ≤ r.nat.depth.hi
 sp : InSp r.nat.fr t.dsF t.rsF
 nds : t.ds.length = r.fr.length
 nrs : t.rs.length = r.fr.length
def LooksOk (r : IRiv) (t : Tr) (lk : List ILk) : Prop := ∀ (k : Nat) (l : ILk), lk[k]? = some l → ∃ l0 : ILk, r.lk[k]? = some l0 ∧ l.day = l0.day ∧ ∃ a c : Nat, a ≤ 3 ∧ c ≤ 3 ∧ l.dep.lo = ((t.at_ l0.day.toNat - a : Nat) : Int) ∧ l.dep.hi = ((t.at_ l0.day.toNat + c : Nat) : Int)
theorem TrueT.looks {r : IRiv} {t : Tr} {lk : List ILk} (h : TrueT r t) (hl : LooksOk r t lk) (hn : lk.length = r.lk.length) : TrueIn r t lk := ⟨h.b1, h.b2, h.d1, h.d2, h.sp, h.nds, h.nrs, hn, hl⟩
theorem LooksOk.snoc {r : IRiv} {t : Tr} {lks : List ILk} {k n a b : Nat} {l0 : ILk} (h : LooksOk r t lks) (hk : lks.length = k) (h0 : r.lk[k]? = some l0) (hn : n = t.at_ l0.day.toNat) (ha : a ≤ 3) (hb : b ≤ 3) : LooksOk r t (lks ++ [⟨l0.day, ⟨((n - a : Nat) : Int), (n : Int) + b⟩⟩]) := fun j l hj => by
 by_cases e : j < lks.length
 ·rw [List.getElem?_append_left e] at hj; exact h j l hj
 ·have e2 : j = k := by
   have := (List.getElem?_eq_some_iff.1 hj).1; simp at this
   omega
  subst e2; rw [List.getElem?_append_right (by omega), hk, Nat.sub_self] at hj
  simp only [List.getElem?_cons_zero, Option.some.injEq] at hj; subst hj; exact ⟨l0, h0, rfl, a, b, ha, hb, by rw [hn], by rw [hn]; push_cast; rfl⟩
section
variable {r : IRiv}
structure Drawn (r : IRiv) (k : Nat) (xs ys : List Nat) : Prop where
 lx : xs.length = k
 ly : ys.length = k
 sp : ∀ (i : Nat) (f : IFr), i < k → r.fr[i]? = some f → ∃ x y, xs[i]? = some x ∧ ys[i]? = some y ∧ f.days.lo ≤ (x : Int) ∧ (x : Int) ≤ f.days.hi ∧ f.rise.lo ≤ (y : Int) ∧ (y : Int) ≤ f.rise.hi
theorem Drawn.true_ {xs ys : List Nat} {d b : Nat} (h : Drawn r r.fr.length xs ys) (b1 : r.nat.fall.lo ≤ b) (b2 : b ≤ r.nat.fall.hi) (d1 : r.nat.depth.lo ≤ d) (d2 : d ≤ r.nat.depth.hi) : TrueT r ⟨d, b, xs, ys⟩ :=
 ⟨b1, b2, d1, d2, fun i f hf => by
  have hf' : (r.fr.map (·.nat))[i]? = some f := hf; rw [List.getElem?_map] at hf'; obtain ⟨g, hg, rfl⟩ := Option.map_eq_some_iff.1 hf'; obtain ⟨x, y, e1, e2, h1, h2, h3, h4⟩ := h.sp i g (List.getElem?_eq_some_iff.1 hg).1 hg; have ex : (⟨d, b, xs, ys⟩ : Tr).dsF i = x := by show xs.getD i 0 = x; rw [List.getD_eq_getElem?_getD, e1]; rfl
  have ey : (⟨d, b, xs, ys⟩ : Tr).rsF i = y := by show ys.getD i 0 = y; rw [List.getD_eq_getElem?_getD, e2]; rfl
  rw [ex, ey]; show g.days.lo.toNat ≤ x ∧ x ≤ g.days.hi.toNat ∧ g.rise.lo.toNat ≤ y ∧ y ≤ g.rise.hi.toNat
  omega, h.lx, h.ly⟩
theorem Drawn.small {xs ys : List Nat} {d b : Nat} (hok : okR r = true) (h : Drawn r r.fr.length xs ys) (hd : d ≤ 60) (hb : b ≤ 60) : Tr.Small ⟨d, b, xs, ys⟩ r.fr.length := by
 have h3 := (okR_pts hok).1.2.2.2.1; have hdy := inB_iff.1 (okR_pts hok).1.2.2.1
 have key : ∀ (i : Nat) (f : IFr), r.fr[i]? = some f → f.days.hi ≤ 10 ∧ f.rise.hi ≤ 20 := fun i f hf => by
  have h6 := List.all_eq_true.1 (okR_pts hok).2.1 f (List.mem_of_getElem? hf); unfold frB at h6; rw [Bool.and_eq_true] at h6; have a := spB_iff.1 h6.1; have b := spB_iff.1 h6.2
  omega
 refine ⟨hd, hb, h3, h.lx, h.ly, fun x hx => ?_, fun y hy => ?_⟩
 ·obtain ⟨i, hi⟩ := List.getElem?_of_mem hx; have hlt : i < r.fr.length := by have h1 := (List.getElem?_eq_some_iff.1 hi).1; have h2 := h.lx; simp only at h1; omega
  have hf : r.fr[i]? = some r.fr[i] := List.getElem?_eq_getElem hlt; obtain ⟨x', y', e1, e2, h1, h2, h3, h4⟩ := h.sp i _ hlt hf; obtain rfl : x' = x := by simp only at hi; rw [e1] at hi; exact Option.some.inj hi
  have := (key i _ hf).1
  omega
 ·obtain ⟨i, hi⟩ := List.getElem?_of_mem hy; have hlt : i < r.fr.length := by have h1 := (List.getElem?_eq_some_iff.1 hi).1; have h2 := h.ly; simp only at h1; omega
  have hf : r.fr[i]? = some r.fr[i] := List.getElem?_eq_getElem hlt; obtain ⟨x', y', e1, e2, h1, h2, h3, h4⟩ := h.sp i _ hlt hf; obtain rfl : y' = y := by simp only at hi; rw [e2] at hi; exact Option.some.inj hi
  have := (key i _ hf).2
  omega
end
end Go.Proofs.YtgmfhngcehkibaaGreat
namespace Go.Proofs.YtgmfhngcehkibaaGreat
open Go.RowKit Go.Hav Go.Shelf Go.Sq
attribute [local go_sem] Oper.semAt_some
theorem Tryz.infoE61 : (Tryz.prog.info? 61).map (fun i => (i.zero, i.size, i.bytes)) = some (some (.agg #[.int .i64 0, .int .i64 0, .int .i64 0]), 3, 24) := by kernel_rfl
structure TrY (w0 w : World) (b3 cn us fl fc ll lc wn wc tn tc bn ul uc b8 dc rc B1 N : Nat) (fa la wa ta ba ua dA rA : Option Addr) (c : ICart) (t : Tr) (U by_ : List Nat) : Prop where
 d : TrD w0 w b3 cn us fl fc ll lc wn wc tn tc bn ul uc N fa la wa ta ba ua c U by_
 c1 : cn < B1
 b1 : B1 ≤ w.heap.size
 bt : Blk w b8 57 #[.int .i64 t.d, .int .i64 t.by_, .slice dA fl dc, .slice rA fl rc]
 sm : t.Small fl
 oD : w.ownsRow B1 3 1 (.slice dA fl dc) fl (t.ds.flatMap fun x => [nV x])
 oR : w.ownsRow B1 3 1 (.slice rA fl rc) fl (t.rs.flatMap fun x => [nV x])
 ht : TrueT c.riv t
section
variable {w0 w w' K : World} {S : Nat → Prop} {b3 b8 b11 cn us fl fc ll lc wn wc tn tc bn bc ul uc dc rc B1 N N' : Nat} {fa la wa ta ba ua dA rA : Option Addr} {c : ICart} {t : Tr} {U by_ : List Nat}
theorem TrY.turn (h : TrY w0 w b3 cn us fl fc ll lc wn wc tn tc bn ul uc b8 dc rc B1 N fa la wa ta ba ua dA rA c t U by_) (tu : Turn S w w') (hS : ∀ b, S b → w0.heap.size ≤ b) (h3 : ¬ S b3) (hu : ¬ S us) (h8 : ¬ S b8) (hr : ∀ g cs, S g → B1 ≤ g → ¬ Blk w g 3 cs) (hc : Cnt cn N' w') : TrY w0 w' b3 cn us fl fc ll lc wn wc tn tc bn ul uc b8 dc rc B1 N' fa la wa ta ba ua dA rA c t U by_ := by
 have far : ∀ {v : Value} {sz n : Nat} {xs : List Value}, w.ownsRow B1 3 sz v n xs → w'.ownsRow B1 3 sz v n xs := fun ho => own_turn ho tu (fun g hg e => by
  obtain ⟨h1, cs, hcs⟩ := own_block ho hg
  exact hr g cs e h1 hcs)
 exact { h with d := h.d.turn tu hS h3 hu hc, b1 := Nat.le_trans h.b1 tu.size, bt := h.bt.turn tu h8, oD := far h.oD, oR := far h.oR }
theorem TrY.below (h : TrY w0 w b3 cn us fl fc ll lc wn wc tn tc bn ul uc b8 dc rc B1 N fa la wa ta ba ua dA rA c t U by_) (hb : Below w.heap.size w w') : TrY w0 w' b3 cn us fl fc ll lc wn wc tn tc bn ul uc b8 dc rc B1 N fa la wa ta ba ua dA rA c t U by_ :=
 h.turn (S := fun _ => False) (Turn.of_below hb) (fun _ e => e.elim) id id id (fun _ _ e => e.elim) (h.d.cnt.below hb)
theorem TrY.ti (h : TrY w0 w b3 cn us fl fc ll lc wn wc tn tc bn ul uc b8 dc rc B1 N fa la wa ta ba ua dA rA c t U by_) : TrIn w t dA rA := by
 obtain ⟨A1, c1, -, e1, h1, -⟩ := RowN.of_own (e := nV) h.oD h.sm.ds; obtain ⟨A2, c2, -, e2, h2, -⟩ := RowN.of_own (e := nV) h.oR h.sm.rs; cases e1
 cases e2
 exact ⟨h1, h2⟩
theorem TrueT.at120 (ht : TrueT c.riv t) (hok : okR c.riv = true) (d : Nat) : t.at_ d ≤ 120 := by
 have hTI : TrueIn c.riv t (c.riv.lk.map fun l => ⟨l.day, ⟨((t.at_ l.day.toNat - 0 : Nat) : Int), ((t.at_ l.day.toNat + 0 : Nat) : Int)⟩⟩) := ht.looks (fun k l hk => by
  rw [List.getElem?_map] at hk; obtain ⟨l0, h0, rfl⟩ := Option.map_eq_some_iff.1 hk
  exact ⟨l0, h0, rfl, 0, 0, by omega, by omega, rfl, rfl⟩) (by simp)
 exact hTI.at_le hok d
theorem tr7 (hY : TrY w0 K b3 cn us fl fc ll lc wn wc tn tc bn ul uc b8 dc rc B1 N fa la wa ta ba ua dA rA c t U by_) (hN : N ≤ 100) (h11 : Blk K b11 31 #[.int .i64 c.riv.depth.lo, .int .i64 c.riv.depth.hi, .int .i64 c.riv.fall.lo, .int .i64 c.riv.fall.hi, .int .i64 c.riv.days, .slice fa fl fc, .slice none 0 0, .int .i64 c.draws, .slice wa wn wc, .slice ta tn tc]) (h110 : w0.heap.size ≤ b11) (h311 : b3 ≠ b11) : TR5 7 w0 (.slice ba bn bc) (.pointer (some ⟨b3, 0, none⟩)) (.func (.func 87) #[] #[.pointer (some ⟨cn, 0, none⟩), .pointer (some ⟨us, 0, none⟩)]) (.pointer (some ⟨b8, 0, none⟩)) (.pointer (some ⟨b11, 0, none⟩)) K := by
 unfold TR5 TG
 intros
 have hll5 : ll ≤ 5 := by rw [← hY.d.hP.riv.ell]; exact (okR_pts (okC_parts hY.d.ok).1).1.2.2.2.2
 have hw3 : wn ≤ 3 := by have := (okC_parts hY.d.ok).2.2.1; rw [hY.d.hP.ewn] at this; exact this
 have HELL := Lib.hid hY.d.hP.riv.ell; have HAT : Hid (∀ d, t.at_ d ≤ 120) := hY.ht.at120 (okC_parts hY.d.ok).1; have HCK : Hid (cn < K.heap.size ∧ b11 < K.heap.size ∧ w0.heap.size ≤ K.heap.size) := ⟨hY.d.cnt.lt, h11.lt, hY.d.bw.size⟩
 have HYT : Hid (∀ (X : World) (M : Nat), Turn (fun b => b = cn ∨ b = b11) K X → Cnt cn M X → TrY w0 X b3 cn us fl fc ll lc wn wc tn tc bn ul uc b8 dc rc B1 M fa la wa ta ba ua dA rA c t U by_) := fun X M tu hc =>
  hY.turn tu (fun b e => by rcases e with e | e; rw [e]; exact hY.d.c0; rw [e]; exact h110)
   (by rintro (e | e); exact hY.d.cnt.ne hY.d.box (by decide) e; exact h311 e)
   (by rintro (e | e); exact hY.d.cnt.ne hY.d.hs (by decide) e; exact blk_ne hY.d.hs h11 (by decide) e)
   (by rintro (e | e); exact hY.d.cnt.ne hY.bt (by decide) e; exact blk_ne hY.bt h11 (by decide) e)
   (fun g cs e h1 hk => by rcases e with e | e; have := hY.c1; omega; exact blk_ne hk h11 (by decide) e) hc
 have HEND : Hid (∀ (wz : World) (lA : Option Addr) (lp : Nat) (lks : List ILk), Turn (fun b => b = cn ∨ b = b11) K wz → Cnt cn (N + 2 * ll) wz → lks.length = ll → LooksOk c.riv t lks → Blk wz b11 31 #[.int .i64 c.riv.depth.lo, .int .i64 c.riv.depth.hi, .int .i64 c.riv.fall.lo, .int .i64 c.riv.fall.hi, .int .i64 c.riv.days, .slice fa fl fc, .slice lA ll lp, .int .i64 c.draws, .slice wa wn wc, .slice ta tn tc] → wz.ownsRow K.heap.size 61 3 (.slice lA ll lp) ll (lks.flatMap lkI) → TR5 8 w0 (.slice ba bn bc) (.pointer (some ⟨b3, 0, none⟩)) (.func (.func 87) #[] #[.pointer (some ⟨cn, 0, none⟩), .pointer (some ⟨us, 0, none⟩)]) (.pointer (some ⟨b8, 0, none⟩)) (.pointer (some ⟨b11, 0, none⟩)) wz) := fun wz lA lp lks tu hc hlen hlo hbx ho => by
  have hz := HYT.out wz _ tu hc; exact tr8 (x := cartL c lks) (lk := lks) (dA := dA) (rA := rA) (dc := dc) (rc := rc) (B1 := B1) (lx := lA) (cx := lp) (t := t) { d := hz.d, c1 := hz.c1, bt := hz.bt, sm := hz.sm, oD := hz.oD, oR := hz.oR, tr := hz.ht.looks hlo (by rw [hlen, HELL.out]), xe := rfl, bx := hbx, oL := own_base ho hY.b1 } (by omega)
 obtain ⟨i0, hi, hz0, hz1, hz2⟩ := info_parts Tryz.infoE61; have HI := Lib.hid hi; have HI0 := Lib.hid hz0; have HI1 := Lib.hid hz1; have HI2 := Lib.hid hz2; have HY := Lib.hid hY; have H11 := Lib.hid h11; clear hY h11 h110 h311 hi hz0 hz1 hz2
 conv => arg 2; whnf
 conv => arg 2; arg 2; change trK 8
 have hx := HY.out.d.box; obtain ⟨q0, q1, q2, q3, q4, q5, q6, q7, q8, q9, ql⟩ := cx31 hx; clear hx; go_wp2; clear q0 q1 q2 q3 q4 q5 q6 q7 q8 q9 ql
 go_loopw [99] (fun i wr => ∃ (k : Nat) (lks : List ILk) (lA : Option Addr) (lp : Nat), k ≤ ll ∧ i = .int .i64 k ∧ Hid (lks.length = k) ∧ Hid (LooksOk c.riv t lks) ∧ Hid (Blk wr b11 31 #[.int .i64 c.riv.depth.lo, .int .i64 c.riv.depth.hi, .int .i64 c.riv.fall.lo, .int .i64 c.riv.fall.hi, .int .i64 c.riv.days, .slice fa fl fc, .slice lA k lp, .int .i64 c.draws, .slice wa wn wc, .slice ta tn tc]) ∧ Hid (wr.ownsRow K.heap.size 61 3 (Value.slice lA k lp) k (lks.flatMap lkI)) ∧ Hid (Cnt cn (N + 2 * k) wr) ∧ Hid (Turn (fun b => b = cn ∨ b = b11) K wr)) (fun i _ => ll - (intOf i).toNat)
 case atStart => exact ⟨0, [], none, 0, Nat.zero_le _, rfl, rfl, fun k l h => by simp at h, H11.out, World.ownsRow_nil _ _ _ _, HY.out.d.cnt, Turn.refl _ _⟩
 case round =>
  obtain ⟨k, lks, lA, lp, hk, rfl, HLN, HLO, HX0, HO0, HC0, HTR⟩ := hrel
  by_cases hlt : k < ll
  ·obtain ⟨l0, hl0⟩ : ∃ l0, c.riv.lk[k]? = some l0 := ⟨c.riv.lk[k]'(by rw [HELL.out]; exact hlt), by simp⟩
   have HY1 := Lib.hid (HYT.out wr _ HTR.out HC0.out); have HL0 := Lib.hid hl0
   have hday := inB_iff.1 (show inB l0.day 0 c.riv.days = true from by
    have := List.all_eq_true.1 (okR_pts (okC_parts HY1.out.d.ok).1).2.2 l0 (List.mem_of_getElem? hl0); unfold lkB at this; rw [Bool.and_eq_true] at this
    exact this.1)
   have hcd := inB_iff.1 (okR_pts (okC_parts HY1.out.d.ok).1).1.2.2.1; obtain ⟨bl, off, hA, hbl, G0, G1, G2⟩ := rd_lkI HY1.out.d.inn.riv.hlk k l0 hl0; have hbl' : bl < wr.heap.size := hbl; subst hA; obtain ⟨d0, ⟨d1, d2⟩⟩ := l0; simp only at G0 G1 G2 hday; obtain ⟨dn, rfl⟩ : ∃ dn : Nat, d0 = dn := ⟨d0.toNat, by omega⟩
   have hd10 : dn ≤ 10 := by omega
   obtain ⟨n, hn⟩ : ∃ n, t.at_ dn = n := ⟨_, rfl⟩; have hn120 : n ≤ 120 := by rw [← hn]; exact HAT.out dn
   have HNN : Hid (t.at_ dn = n) := hn; have hki : (k : Int) < ll := by omega
   have HFV : Hid (∀ g, (Value.slice lA k lp).ownBlock = some g → K.heap.size ≤ g ∧ g < wr.heap.size) := fun g hg => by
    obtain ⟨h1, cs, hcs⟩ := own_block HO0.out hg; exact ⟨h1, hcs.lt⟩
   obtain ⟨V1, hV1⟩ : ∃ V, V = wr.alloc (.cells #[.int .i64 (dn : Int), .int .i64 d1, .int .i64 d2] 61) := ⟨_, rfl⟩; obtain ⟨pL, hpL⟩ : ∃ q, q = wr.heap.size := ⟨_, rfl⟩; have hb1 : Below wr.heap.size wr V1 := by rw [hV1]; exact (Below.refl _ _).alloc (Nat.le_refl _) _
   have HL1 : Hid (Blk V1 pL 61 #[.int .i64 (dn : Int), .int .i64 d1, .int .i64 d2]) := by rw [hV1, hpL]; exact Blk.new wr 61 _
   have HY2 := Lib.hid (HY1.out.below hb1); clear hl0 hday hn hbl; go_upto_region 15 with (fail); rw [← hV1, ← hpL]
   have HPL : Hid (∀ g, g < wr.heap.size → ¬ pL = g) := fun g hg => by omega
   clear hV1 hpL G0 G1 G2 hbl'; have hbt := HY2.out.bt; have u0 := hbt.cell 0; have u1 := hbt.cell 1; have u2 := hbt.cell 2; have u3 := hbt.cell 3; have hul := hbt.lt; simp at u0 u1 u2 u3; clear hbt; have hz := HL1.out; have z0 := hz.cell 0; have z1 := hz.cell 1; have z2 := hz.cell 2; have zl := hz.lt; simp at z0 z1 z2; clear hz; go_wp2_with fail; refine (in_any (dc := dc) (rc := rc) HY2.out.sm dn hd10 V1 HY2.out.ti).mono ?_; rw [HNN.out]; rintro e v2 ⟨rfl, hb⟩; have hb2 : Below wr.heap.size wr v2 := hb1.trans (hb.mono hb1.size); have HY3 := Lib.hid (HY2.out.below hb); have HL3 := Lib.hid (HL1.out.below hb HL1.out.lt); have HX3 := Lib.hid (HX0.out.below hb2 HX0.out.lt); have HO3 := Lib.hid (own_below HO0.out hb2)
   have HT3 : Hid (Turn (fun b => b = cn ∨ b = b11) K v2) := HTR.out.trans (Turn.of_below hb2)
   clear hb hb1 hb2 u0 u1 u2 u3 hul z0 z1 z2 zl; go_upto_region 16 with (fail); have hcnk := HCK.out
   have HN11 : Hid (¬ (b11 = cn ∨ (Value.slice lA k lp).ownBlock = some b11)) := by
    rintro (e | e)
    ·exact HY3.out.d.cnt.ne HX3.out (by decide) e
    ·have := (HFV.out b11 e).1; omega
   have HN13 : Hid (¬ (pL = cn ∨ (Value.slice lA k lp).ownBlock = some pL)) := by
    rintro (e | e)
    ·exact HY3.out.d.cnt.ne HL3.out (by decide) e
    ·exact HPL.out pL (HFV.out pL e).2 rfl
   have HDT : Hid (∀ (X : World) (M : Nat), Turn (fun b => b = cn ∨ (Value.slice lA k lp).ownBlock = some b) v2 X → Cnt cn M X → TrD w0 X b3 cn us fl fc ll lc wn wc tn tc bn ul uc M fa (some ⟨bl, off, none⟩) wa ta ba ua c U by_) := fun X M tu hc => HY3.out.d.turn tu (fun b e => by rcases e with e | e; rw [e]; exact HY3.out.d.c0; have := (HFV.out b e).1; omega)
    (by rintro (e | e); exact HY3.out.d.cnt.ne HY3.out.d.box (by decide) e; (obtain ⟨-, cs, hcs⟩ := own_block HO3.out e; exact blk_ne HY3.out.d.box hcs (by decide) rfl))
    (by rintro (e | e); exact HY3.out.d.cnt.ne HY3.out.d.hs (by decide) e; (obtain ⟨-, cs, hcs⟩ := own_block HO3.out e; exact blk_ne HY3.out.d.hs hcs (by decide) rfl)) hc
   have hNk : N + 2 * k + 1 ≤ 1000 := by omega
   have e0 : ((0 : Nat) : Int) = 0 := rfl; have e3 : ((3 : Nat) : Int) = 3 := rfl; clear hcnk
   refine HavG.wp_region_stg (fun wv => Turn (fun b => b = cn ∨ (Value.slice lA k lp).ownBlock = some b) v2 wv) [(0,false),(1,false),(2,false),(3,false),(4,false),(5,false),(6,false),(11,false),(12,false),(7,true),(8,true),(9,false),(10,false),(13,true),(14,true),(15,false),(16,true),(17,false),(18,true),(19,true)] [20, 21, 22] (fun _ _ => False) (by kernel_rfl) (by kernel_rfl) (fun _ _ _ _ h => h.elim) ((Turn.refl _ _).drew) ?_
   have t0 : Turn (fun b => b = cn ∨ (Value.slice lA k lp).ownBlock = some b) v2 v2.drew := (Turn.refl _ _).drew
   have c0 : Cnt cn (N + 2 * k) v2.drew := HY3.out.d.cnt.turn ((Turn.refl (fun _ => False) v2).drew) id
   (apply HavG.stg_same (by exact ho rfl) (by kernel_rfl); (focus (intro wv hI; have hx := HX3.out.turn hI HN11.out; obtain ⟨q0, q1, q2, q3, q4, q5, q6, q7, q8, q9, ql⟩ := cx31 hx; (try go_simp); try rfl; done)); simp only [Act.put, List.setIfInBounds_toArray, List.set_cons_succ, List.set_cons_zero])
   iterate 2 (apply HavG.stg_same (by exact ho rfl) (by kernel_rfl); (focus (intro wv hI; have hx := HX3.out.turn hI HN11.out; obtain ⟨q0, q1, q2, q3, q4, q5, q6, q7, q8, q9, ql⟩ := cx31 hx; (try go_simp); try rfl; done)); simp only [Act.put, List.setIfInBounds_toArray, List.set_cons_succ, List.set_cons_zero])
   iterate 2 (apply HavG.stg_same (by exact ho rfl) (by kernel_rfl); (focus (intro wv hI; have hx := HL3.out.turn hI HN13.out; have y0 := hx.cell 0; have y1 := hx.cell 1; have y2 := hx.cell 2; have yl := hx.lt; (simp at y0 y1 y2); (try go_simp); try rfl; done)); simp only [Act.put, List.setIfInBounds_toArray, List.set_cons_succ, List.set_cons_zero])
   iterate 4 (apply HavG.stg_same (by exact ho rfl) (by kernel_rfl); (focus (intro wv hI; skip; (try go_simp); try rfl; done)); simp only [Act.put, List.setIfInBounds_toArray, List.set_cons_succ, List.set_cons_zero])
   (apply HavG.stg_call (by exact ho rfl) (by kernel_rfl); (focus (go_simp; try exact ⟨rfl, rfl⟩; done)))
   refine (lspan_any 0 3 _).mono ?_; rintro e u1 ⟨rfl, h1⟩; have t1 := t0.trans (Turn.of_below h1); have c1 := c0.below h1; refine .inl ⟨_, rfl, t1, ?_⟩; simp only [Act.put, List.setIfInBounds_toArray, List.set_cons_succ, List.set_cons_zero]; (apply HavG.stg_call (by exact ho rfl) (by kernel_rfl); (focus (go_simp; try exact ⟨rfl, rfl⟩; done)))
   have hd := (HDT.out _ _ t1 c1).draw (lo := 0) (hi := 3) (by omega) (by omega) (by omega)
   rw [e0, e3] at hd; refine hd.mono ?_; rintro e u2 ⟨⟨a, rfl, -, ha⟩, c2, h2⟩
   have t2 := t1.trans (h2.mono (S' := (fun b => b = cn ∨ (Value.slice lA k lp).ownBlock = some b)) (fun b e => .inl e))
   clear hd; refine .inl ⟨_, rfl, t2, ?_⟩; simp only [Act.put, List.setIfInBounds_toArray, List.set_cons_succ, List.set_cons_zero]; have hw1 : IntKind.i64.wrap ((n : Int) - a) = (n : Int) - a := IntWalk.i64_in _ (by omega)
   obtain ⟨q, hq⟩ : ∃ q : Nat, q = n - a := ⟨_, rfl⟩
   have hmx : ∀ w, (Builtin.max_ #[3, 3] 3 #[.int .i64 0, .int .i64 ((n : Int) - a)]).run Tryz.prog w = .ok (.int .i64 (q : Int)) w := fun w => by rw [max_run]; congr 2; omega
   (apply HavG.stg_same (by exact ho rfl) (by kernel_rfl); (focus (intro wv hI; skip; (try go_simp); try rfl; done)); simp only [Act.put, List.setIfInBounds_toArray, List.set_cons_succ, List.set_cons_zero])
   (apply HavG.stg_same (by exact ho rfl) (by kernel_rfl); (focus (intro wv hI; (try go_simp); (try exact hmx _); (try rfl); done)); simp only [Act.put, List.setIfInBounds_toArray, List.set_cons_succ, List.set_cons_zero])
   (apply HavG.stg_call (by exact ho rfl) (by kernel_rfl); (focus (go_simp; try exact ⟨rfl, rfl⟩; done)))
   refine (lspan_any 0 3 _).mono ?_; rintro e u3 ⟨rfl, h3⟩; have t3 := t2.trans (Turn.of_below h3); have c3 := c2.below h3; refine .inl ⟨_, rfl, t3, ?_⟩; simp only [Act.put, List.setIfInBounds_toArray, List.set_cons_succ, List.set_cons_zero]; (apply HavG.stg_call (by exact ho rfl) (by kernel_rfl); (focus (go_simp; try exact ⟨rfl, rfl⟩; done)))
   have hd := (HDT.out _ _ t3 c3).draw (lo := 0) (hi := 3) (by omega) (by omega) (by omega)
   rw [e0, e3] at hd; refine hd.mono ?_; rintro e u4 ⟨⟨b, rfl, -, hb⟩, c4, h4⟩
   have t4 := t3.trans (h4.mono (S' := (fun b => b = cn ∨ (Value.slice lA k lp).ownBlock = some b)) (fun b e => .inl e))
   clear hd; refine .inl ⟨_, rfl, t4, ?_⟩; simp only [Act.put, List.setIfInBounds_toArray, List.set_cons_succ, List.set_cons_zero]; have hw2 : IntKind.i64.wrap ((n : Int) + b) = (n : Int) + b := IntWalk.i64_in _ (by omega)
   (apply HavG.stg_same (by exact ho rfl) (by kernel_rfl); (focus (intro wv hI; skip; (try go_simp); try rfl; done)); simp only [Act.put, List.setIfInBounds_toArray, List.set_cons_succ, List.set_cons_zero])
   (apply HavG.stg_call (by exact ho rfl) (by kernel_rfl); (focus (go_simp; try exact ⟨rfl, rfl⟩; done)))
   refine (lspan_any _ _ _).mono ?_; rintro e u5 ⟨rfl, h5⟩; have t5 := t4.trans (Turn.of_below h5); have c5 := c4.below h5; refine .inl ⟨_, rfl, t5, ?_⟩; simp only [Act.put, List.setIfInBounds_toArray, List.set_cons_succ, List.set_cons_zero]; (apply HavG.stg_same (by exact ho rfl) (by kernel_rfl); (focus (intro wv hI; skip; (try go_simp); try rfl; done)); simp only [Act.put, List.setIfInBounds_toArray, List.set_cons_succ, List.set_cons_zero])
   have h6 : Below u5.heap.size u5 (u5.alloc (.cells #[.int .i64 (dn : Int), .int .i64 (q : Int), .int .i64 ((n : Int) + b)] 61)) := (Below.refl _ _).alloc (Nat.le_refl _) _; have t6 := t5.trans (Turn.of_below h6); have c6 := c5.below h6; refine HavG.stg_val (v := .slice (some ⟨u5.heap.size, 0, none⟩) 1 1) (w' := u5.alloc (.cells #[.int .i64 (dn : Int), .int .i64 (q : Int), .int .i64 ((n : Int) + b)] 61)) (by exact ho rfl) (by kernel_rfl) (by go_simp; try rfl) t6 ?_
   simp only [Act.put, List.setIfInBounds_toArray, List.set_cons_succ, List.set_cons_zero]
   have o6 : (u5.alloc (.cells #[.int .i64 (dn : Int), .int .i64 (q : Int), .int .i64 ((n : Int) + b)] 61)).ownsRow K.heap.size 61 3 (Value.slice lA k lp) k (lks.flatMap lkI) := own_turn (own_turn (own_turn (own_turn HO3.out ((Turn.refl (fun b => b = cn) v2).drew.trans (Turn.of_below h1)) (fun g hg e => by have h := (HFV.out g hg).1; have h' := HCK.out; have e' : g = cn := e; omega)) (h2.trans (Turn.of_below h3)) (fun g hg e => by have h := (HFV.out g hg).1; have h' := HCK.out; have e' : g = cn := e; omega)) (h4.trans (Turn.of_below h5)) (fun g hg e => by have h := (HFV.out g hg).1; have h' := HCK.out; have e' : g = cn := e; omega)) (Turn.of_below (S := fun _ => False) h6) (fun _ _ e => e.elim)
   obtain ⟨gL, cL, u7, hr7, o7, h7, -⟩ := append_at (P := Tryz.prog) K.heap.size 25 25 61 i0 _ 3 24 Tryz.underlying25 HI.out HI0.out HI1.out HI2.out rfl (by decide) (Value.slice lA k lp) k _ o6 ⟨u5.heap.size, 0, none⟩ 1 [.int .i64 (dn : Int), .int .i64 (q : Int), .int .i64 ((n : Int) + b)] rfl (news_block (Blk.new u5 61 _)) (by simp [Value.oneCell']) (by omega) (by omega) (by have h := HT3.out.size; have h' := t6.size; omega)
   have t7 := t6.trans (h7.mono (S' := (fun b => b = cn ∨ (Value.slice lA k lp).ownBlock = some b)) (fun b e => .inr e))
   have c7 : Cnt cn (N + 2 * (k + 1)) u7 := by have h : Cnt cn (N + 2 * k + 1 + 1) u7 := c6.turn h7 (fun e => by have h := (HFV.out _ e).1; have h' := HCK.out; omega); exact h
   have HR7 := Lib.hid hr7; refine HavG.stg_val (by exact ho rfl) (by kernel_rfl) (append_oper (v := (Value.slice lA k lp)) (u := .slice (some ⟨u5.heap.size, 0, none⟩) 1 1) rfl (by go_simp; try rfl) (by go_simp; try rfl) HR7.out) t7 ?_
   simp only [Act.put, List.setIfInBounds_toArray, List.set_cons_succ, List.set_cons_zero]; simp only [HavG.wpStg, List.filterMap]; have hx7 := HX3.out.turn t7 HN11.out; have x6 := hx7.cell 6; have xf := hx7.frozen 6; have xl := hx7.lt; simp at x6
   have ts : Turn (fun b => b = b11) u7 (u7.setCell ⟨b11, 6, none⟩ (.slice (some ⟨gL, 0, none⟩) (k + 1) cL)) := Turn.set (S := fun b => b = b11) ⟨b11, 6, none⟩ _ (fun _ => rfl)
   have HB8 : Hid (Blk (u7.setCell ⟨b11, 6, none⟩ (.slice (some ⟨gL, 0, none⟩) (k + 1) cL)) b11 31 #[.int .i64 c.riv.depth.lo, .int .i64 c.riv.depth.hi, .int .i64 c.riv.fall.lo, .int .i64 c.riv.fall.hi, .int .i64 c.riv.days, .slice fa fl fc, .slice (some ⟨gL, 0, none⟩) (k + 1) cL, .int .i64 c.draws, .slice wa wn wc, .slice ta tn tc]) := by show Blk _ _ _ _; have h := hx7.set_ 6 (.slice (some ⟨gL, 0, none⟩) (k + 1) cL); simpa using h
   have HO8 : Hid ((u7.setCell ⟨b11, 6, none⟩ (.slice (some ⟨gL, 0, none⟩) (k + 1) cL)).ownsRow K.heap.size 61 3 (.slice (some ⟨gL, 0, none⟩) (k + 1) cL) (k + 1) ((lks ++ [(⟨(dn : Int), ⟨((n - a : Nat) : Int), (n : Int) + b⟩⟩ : ILk)]).flatMap lkI)) := by
    rw [List.flatMap_append]
    have h := own_turn o7 ts (fun g hg e => by obtain ⟨-, cs, hcs⟩ := own_block o7 hg; exact blk_ne hcs hx7 (by decide) e)
    rw [hq] at h; exact h
   have HC8 : Hid (Cnt cn (N + 2 * (k + 1)) (u7.setCell ⟨b11, 6, none⟩ (.slice (some ⟨gL, 0, none⟩) (k + 1) cL))) := c7.turn ts (fun e => c7.ne hx7 (by decide) e.symm)
   have HT8 : Hid (Turn (fun b => b = cn ∨ b = b11) K (u7.setCell ⟨b11, 6, none⟩ (.slice (some ⟨gL, 0, none⟩) (k + 1) cL))) := (HT3.out.join t7 (fun b e hb => by rcases e with e | e; exact .inl e; have := (HFV.out b e).1; omega)).trans (ts.mono (fun b e => .inr e))
   have HL8 : Hid (LooksOk c.riv t (lks ++ [(⟨(dn : Int), ⟨((n - a : Nat) : Int), (n : Int) + b⟩⟩ : ILk)])) := HLO.out.snoc HLN.out HL0.out HNN.out.symm ha hb; have HN8 : Hid ((lks ++ [(⟨(dn : Int), ⟨((n - a : Nat) : Int), (n : Int) + b⟩⟩ : ILk)]).length = k + 1) := by show _ = _; rw [List.length_append, HLN.out]; rfl
   clear h1 h2 h3 h4 h5 h6 h7 t0 t1 t2 t3 t4 t5 t6 t7 c0 c1 c2 c3 c4 c5 c6 c7 o6 o7 hr7 hx7 ts hw1 hw2 hmx hq; go_wp2; go_roundw
   case rel => exact ⟨k + 1, _, some ⟨gL, 0, none⟩, cL, by omega, by go_num, HN8, HL8, HB8, HO8, HC8, HT8⟩
   case measure => simp [intOf]; omega
  ·obtain rfl : k = ll := by omega
   go_wp2; exact (HEND.out _ _ _ _ HTR.out HC0.out HLN.out HLO.out HX0.out HO0.out).go.go
theorem tr5 (hY : TrY w0 K b3 cn us fl fc ll lc wn wc tn tc bn ul uc b8 dc rc B1 N fa la wa ta ba ua dA rA c t U by_) (hN : N ≤ 100) : TR6 5 w0 (.slice ba bn bc) (.pointer (some ⟨b3, 0, none⟩)) (.func (.func 87) #[] #[.pointer (some ⟨cn, 0, none⟩), .pointer (some ⟨us, 0, none⟩)]) (.pointer (some ⟨b8, 0, none⟩)) K := by
 unfold TR6 TG
 intros
 obtain ⟨W, hW⟩ : ∃ W, W = K.alloc (.cells #[.int .i64 c.riv.depth.lo, .int .i64 c.riv.depth.hi, .int .i64 c.riv.fall.lo, .int .i64 c.riv.fall.hi, .int .i64 c.riv.days, .slice fa fl fc, .slice la ll lc, .int .i64 c.draws, .slice wa wn wc, .slice ta tn tc] 31) := ⟨_, rfl⟩; obtain ⟨b11, hb11⟩ : ∃ b, b = K.heap.size := ⟨_, rfl⟩; have hb : Below K.heap.size K W := by rw [hW]; exact (Below.refl _ _).alloc (Nat.le_refl _) _
 have hk : Blk W b11 31 #[.int .i64 c.riv.depth.lo, .int .i64 c.riv.depth.hi, .int .i64 c.riv.fall.lo, .int .i64 c.riv.fall.hi, .int .i64 c.riv.days, .slice fa fl fc, .slice la ll lc, .int .i64 c.draws, .slice wa wn wc, .slice ta tn tc] := by rw [hW, hb11]; exact Blk.new K 31 _
 have hge : K.heap.size ≤ b11 := by omega
 have ts : Turn (fun b => b = b11) W (W.setCell ⟨b11, 6, none⟩ (.slice none 0 0)) := Turn.set (S := fun b => b = b11) ⟨b11, 6, none⟩ _ (fun _ => rfl)
 have hbs : Below K.heap.size K (W.setCell ⟨b11, 6, none⟩ (.slice none 0 0)) := hb.setCell (p := ⟨b11, 6, none⟩) hge _; have hk2 : Blk (W.setCell ⟨b11, 6, none⟩ (.slice none 0 0)) b11 31 #[.int .i64 c.riv.depth.lo, .int .i64 c.riv.depth.hi, .int .i64 c.riv.fall.lo, .int .i64 c.riv.fall.hi, .int .i64 c.riv.days, .slice fa fl fc, .slice none 0 0, .int .i64 c.draws, .slice wa wn wc, .slice ta tn tc] := by have h := hk.set_ 6 (.slice none 0 0); simpa using h
 have HEND : Hid (TR5 7 w0 (.slice ba bn bc) (.pointer (some ⟨b3, 0, none⟩)) (.func (.func 87) #[] #[.pointer (some ⟨cn, 0, none⟩), .pointer (some ⟨us, 0, none⟩)]) (.pointer (some ⟨b8, 0, none⟩)) (.pointer (some ⟨b11, 0, none⟩)) (W.setCell ⟨b11, 6, none⟩ (.slice none 0 0))) := tr7 (hY.below hbs) hN hk2 (Nat.le_trans hY.d.bw.size hge) (by have := hY.d.box.lt; omega)
 have HY := Lib.hid hY; have HK := Lib.hid hk; clear hY hk hk2 ts hb hbs hge
 conv => arg 2; whnf
 conv => arg 2; arg 2; arg 2; change trK 7
 have hx := HY.out.d.box; obtain ⟨q0, q1, q2, q3, q4, q5, q6, q7, q8, q9, ql⟩ := cx31 hx; clear hx; go_upto_region 11 with (fail); rw [← hW, ← hb11]; clear q0 q1 q2 q3 q4 q5 q6 q7 q8 q9 ql; clear hW hb11; have x6 := HK.out.cell 6; have xf := HK.out.frozen 6; have xl := HK.out.lt; simp at x6; go_wp2; exact (HEND.out).go.go
end
theorem Drawn.snoc {r : IRiv} {k x y : Nat} {xs ys : List Nat} {f : IFr} (h : Drawn r k xs ys) (hf : r.fr[k]? = some f) (h1 : f.days.lo ≤ (x : Int) ∧ (x : Int) ≤ f.days.hi) (h2 : f.rise.lo ≤ (y : Int) ∧ (y : Int) ≤ f.rise.hi) : Drawn r (k + 1) (xs ++ [x]) (ys ++ [y]) :=
 ⟨by simp [h.lx], by simp [h.ly], fun i g hi hg => by
  by_cases e : i = k
  ·subst e; rw [hf] at hg; cases hg
   exact ⟨x, y, by rw [← h.lx]; simp, by rw [← h.ly]; simp, h1.1, h1.2, h2.1, h2.2⟩
  ·obtain ⟨a, b, e1, e2, h3⟩ := h.sp i g (by omega) hg
   have l1 := h.lx; have l2 := h.ly
   exact ⟨a, b, by rw [List.getElem?_append_left (by omega)]; exact e1, by rw [List.getElem?_append_left (by omega)]; exact e2, h3⟩⟩
theorem app_row {w : World} {B k x : Nat} {v : Value} {L : List Nat} (hB : B ≤ w.heap.size) (hk : k ≤ 100) (o : w.ownsRow B 3 1 v k (L.flatMap fun x => [nV x])) :
  ∃ (g cp : Nat) (w' : World), (Builtin.append_ #[32, 32] 32 #[v, .slice (some ⟨w.heap.size, 0, none⟩) 1 1]).run Tryz.prog (w.alloc (.cells #[.int .i64 x] 3)) = .ok (.slice (some ⟨g, 0, none⟩) (k + 1) cp) w' ∧
   w'.ownsRow B 3 1 (.slice (some ⟨g, 0, none⟩) (k + 1) cp) (k + 1) ((L ++ [x]).flatMap fun x => [nV x]) ∧ Turn (fun b => v.ownBlock = some b) w w' ∧ (v.ownBlock = some g ∨ w.heap.size ≤ g) ∧ g < w'.heap.size := by
 obtain ⟨i3, hi, hz0, hz1, hz2⟩ := info_parts Tryz.infoE3; have hb1 : Below w.heap.size w (w.alloc (.cells #[.int .i64 x] 3)) := (Below.refl _ _).alloc (Nat.le_refl _) _; obtain ⟨g, cp, w', hr, ho, ht, hg⟩ := append_at (P := Tryz.prog) B 32 32 3 i3 _ 1 8 Tryz.underlying32 hi hz0 hz1 hz2 rfl (by decide) v k _ (own_below o hb1) ⟨w.heap.size, 0, none⟩ 1 [.int .i64 x] rfl (news_block (Blk.new w 3 _)) (by simp [Value.oneCell']) (by omega) (by omega) (Nat.le_trans hB hb1.size)
 refine ⟨g, cp, w', hr, by rw [List.flatMap_append]; exact ho, (Turn.of_below hb1).trans ht, ?_, (own_blk ho).choose_spec.1.lt⟩
 rcases hg with hg | hg
 ·exact .inl hg
 ·exact .inr (Nat.le_trans hb1.size hg)
section
variable {w0 w w' K : World} {S : Nat → Prop} {b3 b8 cn us fl fc ll lc wn wc tn tc bn bc ul uc d0 y0 N N' : Nat} {fa la wa ta ba ua : Option Addr} {c : ICart} {U by_ : List Nat}
theorem tr4 (hD : TrD w0 K b3 cn us fl fc ll lc wn wc tn tc bn ul uc N fa la wa ta ba ua c U by_) (hN : N ≤ 50) (h8 : Blk K b8 57 #[.int .i64 (d0 : Nat), .int .i64 (y0 : Nat), .slice none 0 0, .slice none 0 0]) (h80 : w0.heap.size ≤ b8) (hdp : c.riv.nat.depth.lo ≤ d0 ∧ d0 ≤ c.riv.nat.depth.hi) (hfa : c.riv.nat.fall.lo ≤ y0 ∧ y0 ≤ c.riv.nat.fall.hi) : TR6 4 w0 (.slice ba bn bc) (.pointer (some ⟨b3, 0, none⟩)) (.func (.func 87) #[] #[.pointer (some ⟨cn, 0, none⟩), .pointer (some ⟨us, 0, none⟩)]) (.pointer (some ⟨b8, 0, none⟩)) K := by
 unfold TR6 TG
 intros
 have hfl3 : fl ≤ 3 := by rw [← hD.hP.riv.efl]; exact (okR_pts (okC_parts hD.ok).1).1.2.2.2.1
 have hd60 : d0 ≤ 60 ∧ y0 ≤ 60 := by
  have h := okR_sp (okC_parts hD.ok).1; have h1 : c.riv.nat.depth.hi = c.riv.depth.hi.toNat := rfl; have h2 : c.riv.nat.fall.hi = c.riv.fall.hi.toNat := rfl
  omega
 have HEFL := Lib.hid hD.hP.riv.efl; have HCK : Hid (cn < K.heap.size ∧ w0.heap.size ≤ K.heap.size) := ⟨hD.cnt.lt, hD.bw.size⟩
 have HDT0 : Hid (∀ (X : World) (M : Nat), Turn (fun b => b = cn ∨ b = b8) K X → Cnt cn M X → TrD w0 X b3 cn us fl fc ll lc wn wc tn tc bn ul uc M fa la wa ta ba ua c U by_) := fun X M tu hc =>
  hD.turn tu (fun b e => by rcases e with e | e; rw [e]; exact hD.c0; rw [e]; exact h80)
   (by rintro (e | e); exact hD.cnt.ne hD.box (by decide) e; exact blk_ne hD.box h8 (by decide) e)
   (by rintro (e | e); exact hD.cnt.ne hD.hs (by decide) e; exact blk_ne hD.hs h8 (by decide) e) hc
 have HEND : Hid (∀ (wz : World) (dA rA : Option Addr) (dc rc : Nat) (xs ys : List Nat), Turn (fun b => b = cn ∨ b = b8) K wz → Cnt cn (N + 2 * fl) wz → Drawn c.riv fl xs ys → Blk wz b8 57 #[.int .i64 (d0 : Nat), .int .i64 (y0 : Nat), .slice dA fl dc, .slice rA fl rc] → wz.ownsRow K.heap.size 3 1 (.slice dA fl dc) fl (xs.flatMap fun x => [nV x]) → wz.ownsRow K.heap.size 3 1 (.slice rA fl rc) fl (ys.flatMap fun x => [nV x]) → TR6 5 w0 (.slice ba bn bc) (.pointer (some ⟨b3, 0, none⟩)) (.func (.func 87) #[] #[.pointer (some ⟨cn, 0, none⟩), .pointer (some ⟨us, 0, none⟩)]) (.pointer (some ⟨b8, 0, none⟩)) wz) := fun wz dA rA dc rc xs ys tu hc hdr hbt o1 o2 => by
  have hz := HDT0.out wz _ tu hc; have hdr' : Drawn c.riv c.riv.fr.length xs ys := by rw [HEFL.out]; exact hdr
  have hsm := hdr'.small (okC_parts hz.ok).1 hd60.1 hd60.2; rw [HEFL.out] at hsm; exact tr5 (t := ⟨d0, y0, xs, ys⟩) (dA := dA) (rA := rA) (dc := dc) (rc := rc) (B1 := K.heap.size) { d := hz, c1 := HCK.out.1, b1 := tu.size, bt := hbt, sm := hsm, oD := o1, oR := o2, ht := hdr'.true_ hfa.1 hfa.2 hdp.1 hdp.2 } (by omega)
 have HD := Lib.hid hD; have H8 := Lib.hid h8; clear hD h8 h80 hdp hfa
 conv => arg 2; whnf
 conv => arg 2; arg 2; change trK 5
 have hx := HD.out.box; obtain ⟨q0, q1, q2, q3, q4, q5, q6, q7, q8, q9, ql⟩ := cx31 hx; clear hx; go_wp2; clear q0 q1 q2 q3 q4 q5 q6 q7 q8 q9 ql
 go_loopw [69] (fun i wr => ∃ (k : Nat) (xs ys : List Nat) (dA rA : Option Addr) (dc rc : Nat), k ≤ fl ∧ i = .int .i64 k ∧ Hid (Drawn c.riv k xs ys) ∧ Hid (Blk wr b8 57 #[.int .i64 (d0 : Nat), .int .i64 (y0 : Nat), .slice dA k dc, .slice rA k rc]) ∧ Hid (wr.ownsRow K.heap.size 3 1 (Value.slice dA k dc) k (xs.flatMap fun x => [nV x])) ∧ Hid (wr.ownsRow K.heap.size 3 1 (Value.slice rA k rc) k (ys.flatMap fun x => [nV x])) ∧ Hid (∀ g, (Value.slice dA k dc).ownBlock = some g → ¬ (Value.slice rA k rc).ownBlock = some g) ∧ Hid (Cnt cn (N + 2 * k) wr) ∧ Hid (Turn (fun b => b = cn ∨ b = b8) K wr)) (fun i _ => fl - (intOf i).toNat)
 case atStart => exact ⟨0, [], [], none, none, 0, 0, Nat.zero_le _, rfl, ⟨rfl, rfl, fun i f hi => absurd hi (by omega)⟩, H8.out, World.ownsRow_nil _ _ _ _, World.ownsRow_nil _ _ _ _, fun g e => (by cases e), HD.out.cnt, Turn.refl _ _⟩
 case round =>
  obtain ⟨k, xs, ys, dA, rA, dc, rc, hk, rfl, HDR, HX0, HO0, HP0, HAP, HC0, HTR⟩ := hrel
  by_cases hlt : k < fl
  ·obtain ⟨f0, hf0⟩ : ∃ f0, c.riv.fr[k]? = some f0 := ⟨c.riv.fr[k]'(by rw [HEFL.out]; exact hlt), by simp⟩
   have HD1 := Lib.hid (HDT0.out wr _ HTR.out HC0.out); have HF0 := Lib.hid hf0
   have hfb : 0 ≤ f0.days.lo ∧ f0.days.lo ≤ f0.days.hi ∧ f0.days.hi ≤ 10 ∧ 0 ≤ f0.rise.lo ∧ f0.rise.lo ≤ f0.rise.hi ∧ f0.rise.hi ≤ 20 := by
    have h6 := List.all_eq_true.1 (okR_pts (okC_parts HD1.out.ok).1).2.1 f0 (List.mem_of_getElem? hf0); have hdy := inB_iff.1 (okR_pts (okC_parts HD1.out.ok).1).1.2.2.1; unfold frB at h6; rw [Bool.and_eq_true] at h6; have a := spB_iff.1 h6.1; have b := spB_iff.1 h6.2
    omega
   obtain ⟨bl, off, hA, hbl, G0, G1, G2, G3⟩ := rd_frI HD1.out.inn.riv.hfr k f0 hf0; have hbl' : bl < wr.heap.size := hbl; subst hA; obtain ⟨⟨a1, a2⟩, ⟨a3, a4⟩⟩ := f0; simp only at G0 G1 G2 G3 hfb; obtain ⟨p0, rfl⟩ : ∃ n : Nat, a1 = n := ⟨a1.toNat, by omega⟩
   obtain ⟨p1, rfl⟩ : ∃ n : Nat, a2 = n := ⟨a2.toNat, by omega⟩
   obtain ⟨q0, rfl⟩ : ∃ n : Nat, a3 = n := ⟨a3.toNat, by omega⟩
   obtain ⟨q1, rfl⟩ : ∃ n : Nat, a4 = n := ⟨a4.toNat, by omega⟩
   have hki : (k : Int) < fl := by omega
   have HFA : Hid (∀ g, (Value.slice dA k dc).ownBlock = some g → K.heap.size ≤ g ∧ g < wr.heap.size) := fun g hg => by
    obtain ⟨h1, cs, hcs⟩ := own_block HO0.out hg; exact ⟨h1, hcs.lt⟩
   have HFB : Hid (∀ g, (Value.slice rA k rc).ownBlock = some g → K.heap.size ≤ g ∧ g < wr.heap.size) := fun g hg => by
    obtain ⟨h1, cs, hcs⟩ := own_block HP0.out hg; exact ⟨h1, hcs.lt⟩
   obtain ⟨V1, hV1⟩ : ∃ V, V = wr.alloc (.cells #[.int .i64 (p0 : Int), .int .i64 (p1 : Int), .int .i64 (q0 : Int), .int .i64 (q1 : Int)] 59) := ⟨_, rfl⟩; obtain ⟨pL, hpL⟩ : ∃ q, q = wr.heap.size := ⟨_, rfl⟩; have hb1 : Below wr.heap.size wr V1 := by rw [hV1]; exact (Below.refl _ _).alloc (Nat.le_refl _) _
   have HL1 : Hid (Blk V1 pL 59 #[.int .i64 (p0 : Int), .int .i64 (p1 : Int), .int .i64 (q0 : Int), .int .i64 (q1 : Int)]) := by rw [hV1, hpL]; exact Blk.new wr 59 _
   have HD2 := Lib.hid (HD1.out.below hb1); have HX1 := Lib.hid (HX0.out.below hb1 HX0.out.lt); have HO1 := Lib.hid (own_below HO0.out hb1); have HP1 := Lib.hid (own_below HP0.out hb1)
   have HT1 : Hid (Turn (fun b => b = cn ∨ b = b8) K V1) := HTR.out.trans (Turn.of_below hb1)
   have HWS : Hid (wr.heap.size ≤ V1.heap.size) := hb1.size; clear hf0 hbl; go_upto_region 8 with (fail); rw [← hV1, ← hpL]; clear hV1 hpL hb1 G0 G1 G2 G3 hbl'
   have own3 : ∀ {b ty : Nat} {cs : Array Value}, Blk V1 b ty cs → ty ≠ 3 → ¬ (b = cn ∨ (Value.slice dA k dc).ownBlock = some b ∨ (Value.slice rA k rc).ownBlock = some b) := fun hb hne => by
    rintro (e | e | e)
    ·exact HD2.out.cnt.ne hb hne e
    ·obtain ⟨-, cs, hcs⟩ := own_block HO1.out e; exact blk_ne hb hcs hne rfl
    ·obtain ⟨-, cs, hcs⟩ := own_block HP1.out e; exact blk_ne hb hcs hne rfl
   have HN8 := Lib.hid (own3 HX1.out (by decide))
   have HN10 := Lib.hid (own3 HL1.out (by decide))
   have HDT : Hid (∀ (X : World) (M : Nat), Turn (fun b => b = cn ∨ (Value.slice dA k dc).ownBlock = some b ∨ (Value.slice rA k rc).ownBlock = some b) V1 X → Cnt cn M X → TrD w0 X b3 cn us fl fc ll lc wn wc tn tc bn ul uc M (some ⟨bl, off, none⟩) la wa ta ba ua c U by_) := fun X M tu hc => HD2.out.turn tu (fun b e => by rcases e with e | e | e; rw [e]; exact HD2.out.c0; have := (HFA.out b e).1; have := HCK.out; omega; have := (HFB.out b e).1; have := HCK.out; omega) (own3 HD2.out.box (by decide)) (own3 HD2.out.hs (by decide)) hc
   clear own3; have hNk : N + 2 * k + 1 ≤ 1000 := by omega
   refine HavG.wp_region_stg (fun wv => Turn (fun b => b = cn ∨ (Value.slice dA k dc).ownBlock = some b ∨ (Value.slice rA k rc).ownBlock = some b) V1 wv) [(0,false),(1,false),(8,false),(9,false),(2,false),(3,false),(4,false),(10,false),(11,false),(12,false),(5,true),(6,true),(7,true),(16,false),(13,true),(14,true),(15,true)] [17, 18, 19] (fun _ _ => False) (by kernel_rfl) (by kernel_rfl) (fun _ _ _ _ h => h.elim) ((Turn.refl _ _).drew) ?_
   have t0 : Turn (fun b => b = cn ∨ (Value.slice dA k dc).ownBlock = some b ∨ (Value.slice rA k rc).ownBlock = some b) V1 V1.drew := (Turn.refl _ _).drew
   have s0 : Turn (fun b => b = cn) V1 V1.drew := (Turn.refl _ _).drew
   have c0 : Cnt cn (N + 2 * k) V1.drew := HD2.out.cnt.turn ((Turn.refl (fun _ => False) V1).drew) id
   (apply HavG.stg_same (by exact ho rfl) (by kernel_rfl); (focus (intro wv hI; have hx := HX1.out.turn hI HN8.out; have z0 := hx.cell 0; have z1 := hx.cell 1; have z2 := hx.cell 2; have z3 := hx.cell 3; have zl := hx.lt; (simp at z0 z1 z2 z3); (try go_simp); try rfl; done)); simp only [Act.put, List.setIfInBounds_toArray, List.set_cons_succ, List.set_cons_zero])
   iterate 3 (apply HavG.stg_same (by exact ho rfl) (by kernel_rfl); (focus (intro wv hI; have hx := HX1.out.turn hI HN8.out; have z0 := hx.cell 0; have z1 := hx.cell 1; have z2 := hx.cell 2; have z3 := hx.cell 3; have zl := hx.lt; (simp at z0 z1 z2 z3); (try go_simp); try rfl; done)); simp only [Act.put, List.setIfInBounds_toArray, List.set_cons_succ, List.set_cons_zero])
   (apply HavG.stg_same (by exact ho rfl) (by kernel_rfl); (focus (intro wv hI; skip; (try go_simp); try rfl; done)); simp only [Act.put, List.setIfInBounds_toArray, List.set_cons_succ, List.set_cons_zero])
   iterate 2 (apply HavG.stg_same (by exact ho rfl) (by kernel_rfl); (focus (intro wv hI; have hx := HL1.out.turn hI HN10.out; have y0 := hx.cell 0; have y1 := hx.cell 1; have y2 := hx.cell 2; have y3 := hx.cell 3; have yl := hx.lt; (simp at y0 y1 y2 y3); (try go_simp); try rfl; done)); simp only [Act.put, List.setIfInBounds_toArray, List.set_cons_succ, List.set_cons_zero])
   (apply HavG.stg_same (by exact ho rfl) (by kernel_rfl); (focus (intro wv hI; skip; (try go_simp); try rfl; done)); simp only [Act.put, List.setIfInBounds_toArray, List.set_cons_succ, List.set_cons_zero])
   iterate 2 (apply HavG.stg_same (by exact ho rfl) (by kernel_rfl); (focus (intro wv hI; have hx := HL1.out.turn hI HN10.out; have y0 := hx.cell 0; have y1 := hx.cell 1; have y2 := hx.cell 2; have y3 := hx.cell 3; have yl := hx.lt; (simp at y0 y1 y2 y3); (try go_simp); try rfl; done)); simp only [Act.put, List.setIfInBounds_toArray, List.set_cons_succ, List.set_cons_zero])
   (apply HavG.stg_call (by exact ho rfl) (by kernel_rfl); (focus (go_simp; try exact ⟨rfl, rfl⟩; done)))
   refine ((HDT.out _ _ t0 c0).draw (lo := p0) (hi := p1) (by omega) (by omega) (by omega)).mono ?_
   rintro e u1 ⟨⟨x, rfl, hx1, hx2⟩, c1, h1⟩; have s1 := s0.trans h1
   have t1 := t0.trans (h1.mono (S' := (fun b => b = cn ∨ (Value.slice dA k dc).ownBlock = some b ∨ (Value.slice rA k rc).ownBlock = some b)) (fun b e => .inl e))
   refine .inl ⟨_, rfl, t1, ?_⟩; simp only [Act.put, List.setIfInBounds_toArray, List.set_cons_succ, List.set_cons_zero]
   have o1 := own_turn HO1.out s1 (fun g hg e => by have h := (HFA.out g hg).1; have h' := HCK.out.1; have e' : g = cn := e; omega)
   have r1 := own_turn HP1.out s1 (fun g hg e => by have h := (HFB.out g hg).1; have h' := HCK.out.1; have e' : g = cn := e; omega)
   have hs1 : K.heap.size ≤ u1.heap.size := Nat.le_trans HT1.out.size t1.size; have h2 : Below u1.heap.size u1 (u1.alloc (.cells #[.int .i64 (x : Int)] 3)) := (Below.refl _ _).alloc (Nat.le_refl _) _; have t2 := t1.trans (Turn.of_below h2); obtain ⟨gA, cA, u2, hrA, o2, hA, hgA, hlA⟩ := app_row (x := x) hs1 (by omega) o1
   have HRA := Lib.hid hrA; refine HavG.stg_val (v := .slice (some ⟨u1.heap.size, 0, none⟩) 1 1) (w' := u1.alloc (.cells #[.int .i64 (x : Int)] 3)) (by exact ho rfl) (by kernel_rfl) (by go_simp; try rfl) t2 ?_
   simp only [Act.put, List.setIfInBounds_toArray, List.set_cons_succ, List.set_cons_zero]
   have t3 : Turn (fun b => b = cn ∨ (Value.slice dA k dc).ownBlock = some b ∨ (Value.slice rA k rc).ownBlock = some b) V1 u2 := t1.trans (hA.mono (S' := (fun b => b = cn ∨ (Value.slice dA k dc).ownBlock = some b ∨ (Value.slice rA k rc).ownBlock = some b)) (fun b e => .inr (.inl e)))
   have c2 := c1.turn hA (fun e => by have h := (HFA.out _ e).1; have h' := HCK.out.1; omega)
   refine HavG.stg_val (by exact ho rfl) (by kernel_rfl) (append_oper (v := (Value.slice dA k dc)) (u := .slice (some ⟨u1.heap.size, 0, none⟩) 1 1) rfl (by go_simp; try rfl) (by go_simp; try rfl) HRA.out) t3 ?_
   simp only [Act.put, List.setIfInBounds_toArray, List.set_cons_succ, List.set_cons_zero]; (apply HavG.stg_same (by exact ho rfl) (by kernel_rfl); (focus (intro wv hI; skip; (try go_simp); try rfl; done)); simp only [Act.put, List.setIfInBounds_toArray, List.set_cons_succ, List.set_cons_zero])
   have r2 := own_turn r1 hA (fun g hg e => HAP.out g e hg)
   (apply HavG.stg_call (by exact ho rfl) (by kernel_rfl); (focus (go_simp; try exact ⟨rfl, rfl⟩; done)))
   refine ((HDT.out _ _ t3 c2).draw (lo := q0) (hi := q1) (by omega) (by omega) (by omega)).mono ?_
   rintro e u3 ⟨⟨y, rfl, hy1, hy2⟩, c3, h3⟩
   have t4 := t3.trans (h3.mono (S' := (fun b => b = cn ∨ (Value.slice dA k dc).ownBlock = some b ∨ (Value.slice rA k rc).ownBlock = some b)) (fun b e => .inl e))
   refine .inl ⟨_, rfl, t4, ?_⟩; simp only [Act.put, List.setIfInBounds_toArray, List.set_cons_succ, List.set_cons_zero]
   have o3 := own_turn o2 h3 (fun g hg e => by have h := (own_block o2 hg).1; have h' := HCK.out.1; have e' : g = cn := e; omega)
   have r3 := own_turn r2 h3 (fun g hg e => by have h := (HFB.out g hg).1; have h' := HCK.out.1; have e' : g = cn := e; omega)
   have hs3 : K.heap.size ≤ u3.heap.size := Nat.le_trans HT1.out.size t4.size; have h4 : Below u3.heap.size u3 (u3.alloc (.cells #[.int .i64 (y : Int)] 3)) := (Below.refl _ _).alloc (Nat.le_refl _) _; have t5 := t4.trans (Turn.of_below h4); obtain ⟨gB, cB, u4, hrB, r4, hB, hgB, hlB⟩ := app_row (x := y) hs3 (by omega) r3
   have HRB := Lib.hid hrB; refine HavG.stg_val (v := .slice (some ⟨u3.heap.size, 0, none⟩) 1 1) (w' := u3.alloc (.cells #[.int .i64 (y : Int)] 3)) (by exact ho rfl) (by kernel_rfl) (by go_simp; try rfl) t5 ?_
   simp only [Act.put, List.setIfInBounds_toArray, List.set_cons_succ, List.set_cons_zero]
   have t6 : Turn (fun b => b = cn ∨ (Value.slice dA k dc).ownBlock = some b ∨ (Value.slice rA k rc).ownBlock = some b) V1 u4 := t4.trans (hB.mono (S' := (fun b => b = cn ∨ (Value.slice dA k dc).ownBlock = some b ∨ (Value.slice rA k rc).ownBlock = some b)) (fun b e => .inr (.inr e)))
   have c4 : Cnt cn (N + 2 * (k + 1)) u4 := by have h : Cnt cn (N + 2 * k + 1 + 1) u4 := c3.turn hB (fun e => by have h := (HFB.out _ e).1; have h' := HCK.out.1; omega); exact h
   refine HavG.stg_val (by exact ho rfl) (by kernel_rfl) (append_oper (v := (Value.slice rA k rc)) (u := .slice (some ⟨u3.heap.size, 0, none⟩) 1 1) rfl (by go_simp; try rfl) (by go_simp; try rfl) HRB.out) t6 ?_
   simp only [Act.put, List.setIfInBounds_toArray, List.set_cons_succ, List.set_cons_zero]; simp only [HavG.wpStg, List.filterMap]
   have hne : ¬ (Value.slice rA k rc).ownBlock = some gA := fun e => by
    rcases hgA with hg | hg
    ·exact HAP.out gA hg e
    ·have h := (HFB.out gA e).2; have h' := HWS.out; have h'' := s1.size; omega
   have o4 := own_turn o3 hB (fun g hg e => by cases hg; exact hne e)
   have hAB : gA ≠ gB := fun e => by
    subst e; rcases hgB with hg | hg
    ·exact hne hg
    ·have := h3.size; omega
   have hx7 := HX1.out.turn t6 HN8.out; have x2 := hx7.cell 2; have xf := hx7.frozen 2; have x3 := hx7.cell 3; have xg := hx7.frozen 3; have xl := hx7.lt; simp at x2 x3; obtain ⟨W1, hW1⟩ : ∃ W, W = u4.setCell ⟨b8, 2, none⟩ (.slice (some ⟨gA, 0, none⟩) (k + 1) cA) := ⟨_, rfl⟩
   have ts1 : Turn (fun b => b = b8) u4 W1 := by rw [hW1]; exact Turn.set (S := fun b => b = b8) ⟨b8, 2, none⟩ _ (fun _ => rfl)
   have hb81 : Blk W1 b8 57 #[.int .i64 (d0 : Nat), .int .i64 (y0 : Nat), .slice (some ⟨gA, 0, none⟩) (k + 1) cA, (Value.slice rA k rc)] := by rw [hW1]; have h := hx7.set_ 2 (.slice (some ⟨gA, 0, none⟩) (k + 1) cA); simpa using h
   obtain ⟨W2, hW2⟩ : ∃ W, W = W1.setCell ⟨b8, 3, none⟩ (.slice (some ⟨gB, 0, none⟩) (k + 1) cB) := ⟨_, rfl⟩
   have ts2 : Turn (fun b => b = b8) u4 W2 := by rw [hW2]; exact ts1.trans (Turn.set (S := fun b => b = b8) ⟨b8, 3, none⟩ _ (fun _ => rfl))
   have HB8 : Hid (Blk W2 b8 57 #[.int .i64 (d0 : Nat), .int .i64 (y0 : Nat), .slice (some ⟨gA, 0, none⟩) (k + 1) cA, .slice (some ⟨gB, 0, none⟩) (k + 1) cB]) := by show Blk _ _ _ _; rw [hW2]; have h := hb81.set_ 3 (.slice (some ⟨gB, 0, none⟩) (k + 1) cB); simpa using h
   have HO8 := Lib.hid (own_turn o4 ts2 (fun g hg e => by obtain ⟨-, cs, hcs⟩ := own_block o4 hg; exact blk_ne hcs hx7 (by decide) e))
   have HP8 := Lib.hid (own_turn r4 ts2 (fun g hg e => by obtain ⟨-, cs, hcs⟩ := own_block r4 hg; exact blk_ne hcs hx7 (by decide) e))
   have HA8 : Hid (∀ g, (Value.slice (some ⟨gA, 0, none⟩) (k + 1) cA).ownBlock = some g → ¬ (Value.slice (some ⟨gB, 0, none⟩) (k + 1) cB).ownBlock = some g) := fun g h1 h2 => by cases h1; cases h2; exact hAB rfl
   have HC8 : Hid (Cnt cn (N + 2 * (k + 1)) W2) := c4.turn ts2 (fun e => c4.ne hx7 (by decide) e.symm)
   have HT8 : Hid (Turn (fun b => b = cn ∨ b = b8) K W2) := (HT1.out.join t6 (fun b e hb => by rcases e with e | e | e; exact .inl e; have := (HFA.out b e).1; omega; have := (HFB.out b e).1; omega)).trans (ts2.mono (fun b e => .inr e))
   have HR8 : Hid (Drawn c.riv (k + 1) (xs ++ [x]) (ys ++ [y])) := HDR.out.snoc HF0.out ⟨by show (p0 : Int) ≤ x; omega, by show (x : Int) ≤ p1; omega⟩ ⟨by show (q0 : Int) ≤ y; omega, by show (y : Int) ≤ q1; omega⟩
   have HWW : Hid (W2 = (u4.setCell ⟨b8, 2, none⟩ (.slice (some ⟨gA, 0, none⟩) (k + 1) cA)).setCell ⟨b8, 3, none⟩ (.slice (some ⟨gB, 0, none⟩) (k + 1) cB)) := by show _ = _; rw [hW2, hW1]
   have w3 := hb81.cell 3; have wf3 := hb81.frozen 3; have wl3 := hb81.lt; simp at w3; rw [hW1] at w3 wf3 wl3; clear h1 h2 h3 h4 hA hB t0 t1 t2 t3 t4 t5 t6 s0 s1 c0 c1 c2 c3 c4 o1 o2 o3 o4 r1 r2 r3 r4 hrA hrB hx7 ts1 ts2 hgA hgB hlA hlB hne hAB hb81 hs1 hs3 hW1 hW2; go_wp2
   try rw [← HWW.out]
   go_roundw
   case rel => exact ⟨k + 1, _, _, some ⟨gA, 0, none⟩, some ⟨gB, 0, none⟩, cA, cB, by omega, by go_num, HR8, HB8, HO8, HP8, HA8, HC8, HT8⟩
   case measure => simp [intOf]; omega
  ·obtain rfl : k = fl := by omega
   go_wp2; exact (HEND.out _ _ _ _ _ _ _ HTR.out HC0.out HDR.out HX0.out HO0.out HP0.out).go.go
end
end Go.Proofs.YtgmfhngcehkibaaGreat
