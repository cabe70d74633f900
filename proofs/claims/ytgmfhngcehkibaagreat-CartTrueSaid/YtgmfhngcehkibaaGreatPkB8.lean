/- Run's forward loop: of all days the states that can be reached. Condition: what the statements say. -/
import Derived.Test.YtgmfhngcehkibaaGreatPkB7
set_option maxRecDepth 100000
set_option maxHeartbeats 6400000
namespace Go.Proofs.YtgmfhngcehkibaaGreat
open Go.RowKit Go.Hav Go.Shelf Go.Sq
attribute [local go_sem] Oper.semAt_some
noncomputable def fwdD : Code := tailSeq (headSeq (runTail 4))
section
variable {B d k : Nat} {fa la : Option Addr} {fl fc ll lc : Nat} {r : Riv}
structure FwdDay (r : Riv) (by_ looks day : Nat) (w0 : World) (B2 B3 B4 Bd d : Nat) (ms : Nat → Option Nat) (ds : List Deferred) (w : World) : Prop where
 run : RunB w0 w B2 B3 B4 d by_ looks ms
 dayB : Blk w Bd 3 #[.int .i64 day]
 bd : w0.heap.size ≤ Bd
 b4 : w0.heap.size ≤ B4
 ne : Bd ≠ B4 ∧ B2 ≠ B4 ∧ B3 ≠ B4
 maps : MapsN w0.heap.size w ms day (fwd r by_ looks)
 mrk : Marks w0.heap.size w ds
theorem fwdD_any (hv : r.Good) {w0 w : World} {B2 B3 B4 Bd by_ looks : Nat} {ms : Nat → Option Nat} (hD : GauIn w0 B d k fa fl fc la ll lc r) (hB0 : B ≤ w0.heap.size) {ds : List Deferred} (hI : FwdDay r by_ looks 1 w0 B2 B3 B4 Bd d ms ds w)
  (h1 : by_ < 1000) (h2 : looks < 1000) {Q : Exit → Act → World → Prop} {c0 c1 c5 c6 c7 c8 c10 c11 c12 c13 c14 c15 c16 c17 c18 c19 c20 c21 c22 c23 c24 c25 c26 c27 c28 c29 c30 c31 c32 c33 c34 c35 c36 c37 c38 c39 c40 c41 c42 c43 c44 c45 c46 c47 c48 c49 c50 c51 c52 c53 c54 c55 c56 c57 c58 c59 c60 c61 c62 c63 c64 c65 c66 c67 c68 c69 c70 c71 c72 c73 c74 c75 c76 c77 c78 c79 c80 c81 c82 c83 c84 c85 c86 c87 c88 c89 c90 c91 c92 c93 c94 c95 c96 c97 c98 c99 c100 c101 c102 c103 c104 c105 c106 c107 c108 c109 c110 c111 c112 c113 c114 c115 c116 c117 c118 c119 c120 c121 c122 c123 c124 c125 c126 c127 c128 c129 c130 c131 c132 c133 c134 c135 c136 : Value}
  (HQ : Hid (∀ (u9 u10 u11 u54 u55 u56 u57 u58 u59 u60 u61 u62 u63 u64 u65 u66 u67 u68 u69 u70 u71 u72 u73 u74 u75 u76 u77 u78 u79 u80 u81 u82 u83 u84 u85 u86 u87 u88 u89 u90 u91 u92 : Value) (Bd' : Nat) (ms' : Nat → Option Nat) (ds' : List Deferred) (w' : World), FwdDay r by_ looks (r.days + 1) w0 B2 B3 B4 Bd' d ms' ds' w' → Q .normal ⟨(c0::c1::(.pointer (some ⟨B2, 0, none⟩))::(.pointer (some ⟨B3, 0, none⟩))::(.pointer (some ⟨B4, 0, none⟩))::c5::c6::c7::c8::u9::u10::u11::c12::c13::c14::c15::c16::c17::c18::c19::c20::c21::c22::c23::c24::c25::c26::c27::c28::c29::c30::c31::c32::c33::c34::c35::c36::c37::c38::c39::c40::c41::c42::c43::c44::c45::c46::c47::c48::c49::c50::c51::c52::c53::u54::u55::u56::u57::u58::u59::u60::u61::u62::u63::u64::u65::u66::u67::u68::u69::u70::u71::u72::u73::u74::u75::u76::u77::u78::u79::u80::u81::u82::u83::u84::u85::u86::u87::u88::u89::u90::u91::u92::c93::c94::c95::c96::c97::c98::c99::c100::c101::c102::c103::c104::c105::c106::c107::c108::c109::c110::c111::c112::c113::c114::c115::c116::c117::c118::c119::c120::c121::c122::c123::c124::c125::c126::c127::c128::c129::c130::c131::c132::c133::c134::c135::c136::[]).toArray, ds'⟩ w')) :
  Code.wp Tryz.prog fwdD Q ⟨(c0::c1::(.pointer (some ⟨B2, 0, none⟩))::(.pointer (some ⟨B3, 0, none⟩))::(.pointer (some ⟨B4, 0, none⟩))::c5::c6::c7::c8::(.pointer (some ⟨Bd, 0, none⟩))::c10::c11::c12::c13::c14::c15::c16::c17::c18::c19::c20::c21::c22::c23::c24::c25::c26::c27::c28::c29::c30::c31::c32::c33::c34::c35::c36::c37::c38::c39::c40::c41::c42::c43::c44::c45::c46::c47::c48::c49::c50::c51::c52::c53::c54::c55::c56::c57::c58::c59::c60::c61::c62::c63::c64::c65::c66::c67::c68::c69::c70::c71::c72::c73::c74::c75::c76::c77::c78::c79::c80::c81::c82::c83::c84::c85::c86::c87::c88::c89::c90::c91::c92::c93::c94::c95::c96::c97::c98::c99::c100::c101::c102::c103::c104::c105::c106::c107::c108::c109::c110::c111::c112::c113::c114::c115::c116::c117::c118::c119::c120::c121::c122::c123::c124::c125::c126::c127::c128::c129::c130::c131::c132::c133::c134::c135::c136::[]).toArray, ds⟩ w := by
 conv => arg 2; whnf
 refine wp_block ?_
 refine wp_loop_ghost (fun n a' wr => ∃ (u10 u11 u54 u55 u56 u57 u58 u59 u60 u61 u62 u63 u64 u65 u66 u67 u68 u69 u70 u71 u72 u73 u74 u75 u76 u77 u78 u79 u80 u81 u82 u83 u84 u85 u86 u87 u88 u89 u90 u91 u92 : Value) (ds' : List Deferred) (Bd : Nat) (ms : Nat → Option Nat) (day : Nat), (day + n = r.days + 1 ∧ 1 ≤ day ∧ FwdDay r by_ looks day w0 B2 B3 B4 Bd d ms ds' wr) ∧ a' = ⟨(c0::c1::(.pointer (some ⟨B2, 0, none⟩))::(.pointer (some ⟨B3, 0, none⟩))::(.pointer (some ⟨B4, 0, none⟩))::c5::c6::c7::c8::(.pointer (some ⟨Bd, 0, none⟩))::u10::u11::c12::c13::c14::c15::c16::c17::c18::c19::c20::c21::c22::c23::c24::c25::c26::c27::c28::c29::c30::c31::c32::c33::c34::c35::c36::c37::c38::c39::c40::c41::c42::c43::c44::c45::c46::c47::c48::c49::c50::c51::c52::c53::u54::u55::u56::u57::u58::u59::u60::u61::u62::u63::u64::u65::u66::u67::u68::u69::u70::u71::u72::u73::u74::u75::u76::u77::u78::u79::u80::u81::u82::u83::u84::u85::u86::u87::u88::u89::u90::u91::u92::c93::c94::c95::c96::c97::c98::c99::c100::c101::c102::c103::c104::c105::c106::c107::c108::c109::c110::c111::c112::c113::c114::c115::c116::c117::c118::c119::c120::c121::c122::c123::c124::c125::c126::c127::c128::c129::c130::c131::c132::c133::c134::c135::c136::[]).toArray, ds'⟩) r.days ?_ ?_
 ·exact ⟨_, _, _, _, _, _, _, _, _, _, _, _, _, _, _, _, _, _, _, _, _, _, _, _, _, _, _, _, _, _, _, _, _, _, _, _, _, _, _, _, _, ds, Bd, ms, 1, ⟨by omega, Nat.le_refl _, hI⟩, rfl⟩
 ·clear hI; rintro n a wr ⟨u10, u11, u54, u55, u56, u57, u58, u59, u60, u61, u62, u63, u64, u65, u66, u67, u68, u69, u70, u71, u72, u73, u74, u75, u76, u77, u78, u79, u80, u81, u82, u83, u84, u85, u86, u87, u88, u89, u90, u91, u92, ds', Bd, ms, day, ⟨hn, hge, hI⟩, rfl⟩; have hv2 := hv.n2; have HI := Lib.hid hI; have HD := Lib.hid hD; have HV := Lib.hid hv; have HN := Lib.hid hn; have HDr := Lib.hid (hD.grow hI.run.b); have u2 : wr.cell? ⟨B2, 0, none⟩ = some (.pointer (some ⟨d, 0, none⟩)) := hI.run.g.cell 0; have u9 : wr.cell? ⟨Bd, 0, none⟩ = some (.int .i64 day) := hI.dayB.cell 0; have ud : wr.cell? ⟨d, 4, none⟩ = some (.int .i64 r.days) := HDr.out.blk.cell 4; have m2 := hI.run.g.lt; have m9 := hI.dayB.lt; have md := HDr.out.blk.lt; clear hI hD hv hn; go_wp2
  refine HavG.wp_region_havoc (R := RelB) [(0,false),(1,false),(2,false),(3,false),(4,false),(5,false),(6,false)] [] (fun _ _ => False) (by kernel_rfl) (by kernel_rfl) (fun _ _ _ _ h => h.elim) ?_
  (apply HavG.hav_same (by exact ho rfl) (by kernel_rfl); (focus (intro wv hgv _; have hcv := cvB hgv; (try go_simp); try rfl; done)); simp only [Act.put, List.setIfInBounds_toArray, List.set_cons_succ, List.set_cons_zero])
  iterate 6 (apply HavG.hav_same (by exact ho rfl) (by kernel_rfl); (focus (intro wv hgv _; have hcv := cvB hgv; (try go_simp); try rfl; done)); simp only [Act.put, List.setIfInBounds_toArray, List.set_cons_succ, List.set_cons_zero])
  refine HavG.hav_end (fun wz hgz _ => ?_)
  simp only [List.filterMap]; have HBZ : Hid (Below wr.heap.size wr wz) := hgz; have hsz := HBZ.out.size; clear hgz u2 u9 ud
  by_cases hlt : day ≤ r.days
  ·have hc : (day : Int) ≤ r.days := by omega
   have hmm := @run_makeMap Tryz.prog
   have HIz : Hid (FwdDay r by_ looks day w0 B2 B3 B4 Bd d ms ds' wz) := by
    have t : Turn (fun _ => False) wr wz := Turn.of_below HBZ.out
    exact ⟨HI.out.run.grow HBZ.out, HI.out.dayB.turn t id, HI.out.bd, HI.out.b4, HI.out.ne, HI.out.maps.turn t (fun _ _ _ _ h => h), HI.out.mrk.turn t (fun _ h => h.elim)⟩
   have n9 : wz.cell? ⟨Bd, 0, none⟩ = some (.int .i64 day) := HIz.out.dayB.cell 0; have n4 : wz.cell? ⟨B4, day, none⟩ = some (.map (ms day)) := (HIz.out.run.a.cell day).trans (runC_get ms (by omega))
   have f4 : wz.frozen? ⟨B4, day, none⟩ = false := HIz.out.run.a.frozen day; have l9 := HIz.out.dayB.lt; have l4 := HIz.out.run.a.lt; have hd11 : (day : Int) < 11 := by omega
   go_upto_region 15 with (fail); obtain ⟨bN, hbN⟩ : ∃ bN, bN = wz.heap.size := ⟨_, rfl⟩; obtain ⟨W6, hW6⟩ : ∃ W6, W6 = (wz.setCell ⟨B4, day, none⟩ (.map (some wz.heap.size))).alloc (.map #[] 0) := ⟨_, rfl⟩; obtain ⟨p, hp⟩ : ∃ p, day = p + 1 := ⟨day - 1, by omega⟩
   obtain ⟨bp, Sp, q1, q2, q3, q4⟩ := HIz.out.maps.at_ p (by omega)
   have hsS : (wz.setCell ⟨B4, day, none⟩ (.map (some wz.heap.size))).heap.size = wz.heap.size := by simp [World.setCell]
   have HT6 : Hid (Turn (fun x => x = B4) wz W6) := by rw [hW6]; exact (Turn.set (S := fun x => x = B4) ⟨B4, day, none⟩ _ (fun _ => rfl)).alloc _
   have hs6 : W6.heap.size = wz.heap.size + 1 := by rw [hW6]; simp [World.setCell]
   have HM6 : Hid (MapS W6 bN []) := by
    have h := MapS.made (wz.setCell ⟨B4, day, none⟩ (.map (some wz.heap.size))); rw [hsS] at h; rw [hW6, hbN]; exact h
   have HA6 : Hid (Blk W6 B4 184 (runC (updM ms day bN))) := by
    rw [hW6, hbN, ← runC_set _ (by omega)]; exact (HIz.out.run.a.set_ day _).alloc _
   have HR6 : Hid (RunB w0 W6 B2 B3 B4 d by_ looks (updM ms day bN)) := ⟨HIz.out.run.b.trans (HT6.out.below HIz.out.run.b.size (fun x e => by have e' : x = B4 := e; have := HIz.out.b4; omega)), HIz.out.run.g.turn HT6.out HIz.out.ne.2.1, HIz.out.run.q.turn HT6.out HIz.out.ne.2.2, HA6.out⟩
   have HY6 : Hid (Blk W6 Bd 3 #[.int .i64 day]) := HIz.out.dayB.turn HT6.out HIz.out.ne.1; have hbp4 : bp ≠ B4 := q3.ne_blk HIz.out.run.a; have HMp : Hid (MapS W6 bp Sp) := q3.turn HT6.out hbp4
   have HK6 : Hid (Marks w0.heap.size W6 ds') := HIz.out.mrk.turn HT6.out (fun D e h => by
    obtain rfl : D = B4 := e
    rw [show wz.heap[D]? = _ from HIz.out.run.a] at h; cases h)
   have hbpz : bp < wz.heap.size := q3.lt; have Hq4 := Lib.hid q4; have Hq1 := Lib.hid q1; have Hhp := Lib.hid hp; have HbN := Lib.hid hbN; have hpc : (day : Int) - 1 = (p : Int) := by omega
   have n9 : W6.cell? ⟨Bd, 0, none⟩ = some (.int .i64 day) := HY6.out.cell 0
   have n4 : W6.cell? ⟨B4, p, none⟩ = some (.map (some bp)) := by
    refine (HA6.out.cell p).trans ((runC_get _ (by omega)).trans ?_)
    rw [updM, if_neg (by omega), q1]
   have l9 := HY6.out.lt; have l4 := HA6.out.lt; have hp11 : (p : Int) < 11 := by omega
   have hp0 : 0 ≤ (p : Int) := by omega
   have HS6 := Lib.hid hs6; obtain ⟨W7, hrun, hr7, hg7, hs7⟩ := HMp.out.range; rw [← hbN]; rw [← hbN] at hW6; rw [← hW6]; have HR7 := Lib.hid hr7; have HG7 := Lib.hid hg7; have HS7 := Lib.hid hs7; clear hW6 hbN q1 q2 q3 q4 hp hsS hs6 hr7 hg7 hs7 f4
   go_upto_block 4 with (fail)
   rename ∀ a w, Code.wp Tryz.prog (Code.seq (Code.seq (Code.region 22 _ _) _) _) _ a w → _ => hK22
   have HK22 := Lib.hid hK22; clear hK22 hrun n9 n4; obtain ⟨rg, hrg⟩ : ∃ rg, rg = W6.heap.size := ⟨_, rfl⟩; have hM7 : RanS W7 bp rg Sp Sp := by rw [hrg]; exact HR7.out
   have HT7 : Hid (Turn (fun _ => False) W6 W7) := Turn.of_grown HG7.out (fun q e _ => by cases e)
   have hmd : updM ms day bN day = some bN := by simp [updM]
   have h6 := HS6.out; have hzw : w0.heap.size ≤ wz.heap.size := HIz.out.run.b.size; have hbN := HbN.out
   have hfl : ∀ s ∈ Sp, s.1 ≤ 1000 ∧ s.2 < 8 := fun s hs => by
    have h := fwd_le HV.out p s ((Hq4.out s).1 hs); have := Hhp.out; exact ⟨by omega, h.2⟩
   rw [← hrg]
   refine fwdR_any HV.out HD.out (HR6.out.turn HT7.out (fun _ h => h.elim)) (HY6.out.turn HT7.out id) hmd hM7 (HM6.out.turn HT7.out id) (by omega) (by omega) (by omega) (by omega) hB0 h1 h2 (by omega) hfl (HK6.out.turn HT7.out (fun _ h => h.elim)) (Lib.hid ?_)
   rintro v10 v11 v71 v72 v73 v74 v75 v76 v77 v78 v79 v80 v81 v82 v83 v84 v85 v86 v87 v88 v89 v90 v91 ds2 W8 hF; have HF := Lib.hid hF
   have HT8 : Hid (Turn (fun x => x = B4 ∨ x = bN ∨ x = rg) wz W8) := (((HT6.out.mono fun _ h => .inl h).trans (HT7.out.mono fun _ h => h.elim)).trans (hF.t.mono fun _ h => .inr h))
   have hBdb : Bd ≠ bN ∧ Bd ≠ rg := by have := l9; have := HIz.out.dayB.lt; exact ⟨by omega, by omega⟩
   have HY8 : Hid (Blk W8 Bd 3 #[.int .i64 day]) := HIz.out.dayB.turn HT8.out (fun h => h.elim HIz.out.ne.1 (fun h => h.elim hBdb.1 hBdb.2))
   have n9 : W8.cell? ⟨Bd, 0, none⟩ = some (.int .i64 day) := HY8.out.cell 0; have l9' := HY8.out.lt; have Hrg := Lib.hid hrg; clear hF hM7 hmd hfl hBdb hrg h6 hbN; refine HK22.out _ _ ?_; go_wp2; have hn := HN.out; have hz4 := HIz.out.run.a.lt; have hz2 := HIz.out.run.g.lt; have hz3 := HIz.out.run.q.lt; have hsz8 := HT8.out.size; have hbN := HbN.out; have hrg := Hrg.out; have h6 := HS6.out; refine ⟨n - 1, by omega, _, _, _, _, _, _, _, _, _, _, _, _, _, _, _, _, _, _, _, _, _, _, _, _, _, _, _, _, _, _, _, _, _, _, _, _, _, _, _, _, _, ds2, W8.heap.size, updM ms day bN, day + 1, ⟨by omega, by omega, ?_⟩, rfl⟩
   have hR8 : RunB w0 W8 B2 B3 B4 d by_ looks (updM ms day bN) := (HR6.out.turn HT7.out (fun _ h => h.elim)).turn HF.out.t (fun x h => by
    have e : x = bN ∨ x = rg := h
    exact ⟨by omega, by omega, by omega, by omega⟩)
   have hA : Turn (fun _ => False) W8 (W8.alloc (.cells #[.int .i64 ((day : Int) + 1)] 3)) := (Turn.refl _ _).alloc _
   obtain ⟨S8, hm8, hS8⟩ := HF.out.map
   refine ⟨hR8.turn hA (fun _ h => h.elim), ?_, by omega, HIz.out.b4, ⟨by omega, HIz.out.ne.2⟩, ?_, HF.out.mrk.turn hA (fun _ h => h.elim)⟩
   ·rw [show ((day + 1 : Nat) : Int) = (day : Int) + 1 by omega]; exact Blk.new _ _ _
   ·refine HIz.out.maps.push (HT8.out.trans (hA.mono fun _ h => h.elim)) (fun x hx => ?_) (by omega) (by omega) (hm8.turn hA id) (fun s => ?_)
    ·by_cases e4 : x = B4
     ·right
      intro j hj hm; obtain ⟨bj, Sj, j1, _, j3, _⟩ := HIz.out.maps.at_ j hj; rw [j1] at hm; cases hm
      exact j3.ne_blk HIz.out.run.a e4
     ·left
      intro h; have h' : x = B4 ∨ x = bN ∨ x = rg := h
      omega
    ·rw [hS8 s, Hhp.out]; constructor
     ·rintro ⟨s0, j1, _, j2, j3⟩; exact ⟨s0, (Hq4.out s0).1 j1, j2, j3⟩
     ·rintro ⟨s0, j1, j2, j3⟩; exact ⟨s0, (Hq4.out s0).2 j1, by simp, j2, j3⟩
  ·have hc : ¬ (day : Int) ≤ r.days := by omega
   obtain rfl : day = r.days + 1 := by have := HN.out; omega
   have HP : Hid (FwdDay r by_ looks (r.days + 1) w0 B2 B3 B4 Bd d ms ds' wz) := by
    have t : Turn (fun _ => False) wr wz := Turn.of_below HBZ.out
    exact ⟨HI.out.run.grow HBZ.out, HI.out.dayB.turn t id, HI.out.bd, HI.out.b4, HI.out.ne, HI.out.maps.turn t (fun _ _ _ _ h => h), HI.out.mrk.turn t (fun _ h => h.elim)⟩
   go_wp2; exact HQ.out _ _ _ _ _ _ _ _ _ _ _ _ _ _ _ _ _ _ _ _ _ _ _ _ _ _ _ _ _ _ _ _ _ _ _ _ _ _ _ _ _ _ Bd ms ds' wz HP.out
end
end Go.Proofs.YtgmfhngcehkibaaGreat
namespace Go.Proofs.YtgmfhngcehkibaaGreat
open Go.RowKit Go.Hav Go.Shelf Go.Sq
attribute [local go_sem] Oper.semAt_some
noncomputable def bckD : Code := tailSeq (headSeq (runTail 5))
theorem MapsN.change {B : Nat} {X Y : World} {ms : Nat → Option Nat} {n p b rg : Nat} {F F' : Nat → St → Prop} {S' : List St} (h : MapsN B X ms n F) (hp : ms p = some b) (hpn : p < n) (t : Turn (fun x => x = b ∨ x = rg) X Y) (hrg : ∀ j x, j < n → ms j = some x → x ≠ rg)
  (hM : MapS Y b S') (hS : ∀ s, s ∈ S' ↔ F' p s) (hF : ∀ j, j < n → j ≠ p → ∀ s, F' j s ↔ F j s) : MapsN B Y ms n F' := by
 refine ⟨fun j hj => ?_, h.inj⟩
 by_cases e : j = p
 ·subst e; obtain ⟨b', S, h1, h2, _⟩ := h.at_ j hj; rw [hp] at h1; cases h1
  exact ⟨b, S', hp, h2, hM, hS⟩
 ·obtain ⟨b', S, h1, h2, h3, h4⟩ := h.at_ j hj
  refine ⟨b', S, h1, h2, h3.turn t (fun he => ?_), fun s => (h4 s).trans (hF j hj e s).symm⟩
  rcases he with he | he
  ·exact e (h.inj j p hj hpn (by rw [h1, hp, show b' = b from he]))
  ·exact hrg j b' hj h1 he
section
variable {B d k : Nat} {fa la : Option Addr} {fl fc ll lc : Nat} {r : Riv}
def famD (r : Riv) (by_ looks m : Nat) (j : Nat) (s : St) : Prop := if j < m then fwd r by_ looks j s else AllS r by_ looks j s
structure BckDay (r : Riv) (by_ looks m : Nat) (w0 : World) (B2 B3 B4 Bd d : Nat) (ms : Nat → Option Nat) (ds : List Deferred) (w : World) : Prop where
 run : RunB w0 w B2 B3 B4 d by_ looks ms
 dayB : Blk w Bd 3 #[.int .i64 ((m : Int) - 1)]
 bd : w0.heap.size ≤ Bd
 b4 : w0.heap.size ≤ B4
 ne : Bd ≠ B4 ∧ B2 ≠ B4 ∧ B3 ≠ B4
 maps : MapsN w0.heap.size w ms (r.days + 1) (famD r by_ looks m)
 mrk : Marks w0.heap.size w ds
theorem bckD_any (hv : r.Good) {w0 w : World} {B2 B3 B4 Bd by_ looks : Nat} {ms : Nat → Option Nat} (hD : GauIn w0 B d k fa fl fc la ll lc r) {ds : List Deferred} (hI : BckDay r by_ looks r.days w0 B2 B3 B4 Bd d ms ds w)
  (h1 : by_ < 1000) {Q : Exit → Act → World → Prop} {c0 c1 c5 c6 c7 c8 c9 c10 c11 c13 c14 c15 c16 c17 c18 c19 c20 c21 c22 c23 c24 c25 c26 c27 c28 c29 c30 c31 c32 c33 c34 c35 c36 c37 c38 c39 c40 c41 c42 c43 c44 c45 c46 c47 c48 c49 c50 c51 c52 c53 c54 c55 c56 c57 c58 c59 c60 c61 c62 c63 c64 c65 c66 c67 c68 c69 c70 c71 c72 c73 c74 c75 c76 c77 c78 c79 c80 c81 c82 c83 c84 c85 c86 c87 c88 c89 c90 c91 c92 c93 c94 c95 c96 c97 c98 c99 c100 c101 c102 c103 c104 c105 c106 c107 c108 c109 c110 c111 c112 c113 c114 c115 c116 c117 c118 c119 c120 c121 c122 c123 c124 c125 c126 c127 c128 c129 c130 c131 c132 c133 c134 c135 c136 : Value}
  (HQ : Hid (∀ (u12 u13 u14 u99 u100 u101 u102 u103 u104 u105 u106 u107 u108 u109 u110 u111 u112 u113 u114 u115 u116 u117 u118 u119 u120 u121 u122 u123 u124 u125 u126 u127 u128 u129 : Value) (Bd' : Nat) (ds' : List Deferred) (w' : World), BckDay r by_ looks 0 w0 B2 B3 B4 Bd' d ms ds' w' → Q .normal ⟨(c0::c1::(.pointer (some ⟨B2, 0, none⟩))::(.pointer (some ⟨B3, 0, none⟩))::(.pointer (some ⟨B4, 0, none⟩))::c5::c6::c7::c8::c9::c10::c11::u12::u13::u14::c15::c16::c17::c18::c19::c20::c21::c22::c23::c24::c25::c26::c27::c28::c29::c30::c31::c32::c33::c34::c35::c36::c37::c38::c39::c40::c41::c42::c43::c44::c45::c46::c47::c48::c49::c50::c51::c52::c53::c54::c55::c56::c57::c58::c59::c60::c61::c62::c63::c64::c65::c66::c67::c68::c69::c70::c71::c72::c73::c74::c75::c76::c77::c78::c79::c80::c81::c82::c83::c84::c85::c86::c87::c88::c89::c90::c91::c92::c93::c94::c95::c96::c97::c98::u99::u100::u101::u102::u103::u104::u105::u106::u107::u108::u109::u110::u111::u112::u113::u114::u115::u116::u117::u118::u119::u120::u121::u122::u123::u124::u125::u126::u127::u128::u129::c130::c131::c132::c133::c134::c135::c136::[]).toArray, ds'⟩ w')) :
  Code.wp Tryz.prog bckD Q ⟨(c0::c1::(.pointer (some ⟨B2, 0, none⟩))::(.pointer (some ⟨B3, 0, none⟩))::(.pointer (some ⟨B4, 0, none⟩))::c5::c6::c7::c8::c9::c10::c11::(.pointer (some ⟨Bd, 0, none⟩))::c13::c14::c15::c16::c17::c18::c19::c20::c21::c22::c23::c24::c25::c26::c27::c28::c29::c30::c31::c32::c33::c34::c35::c36::c37::c38::c39::c40::c41::c42::c43::c44::c45::c46::c47::c48::c49::c50::c51::c52::c53::c54::c55::c56::c57::c58::c59::c60::c61::c62::c63::c64::c65::c66::c67::c68::c69::c70::c71::c72::c73::c74::c75::c76::c77::c78::c79::c80::c81::c82::c83::c84::c85::c86::c87::c88::c89::c90::c91::c92::c93::c94::c95::c96::c97::c98::c99::c100::c101::c102::c103::c104::c105::c106::c107::c108::c109::c110::c111::c112::c113::c114::c115::c116::c117::c118::c119::c120::c121::c122::c123::c124::c125::c126::c127::c128::c129::c130::c131::c132::c133::c134::c135::c136::[]).toArray, ds⟩ w := by
 conv => arg 2; whnf
 refine wp_block ?_
 refine wp_loop_ghost (fun m a' wr => ∃ (u13 u14 u99 u100 u101 u102 u103 u104 u105 u106 u107 u108 u109 u110 u111 u112 u113 u114 u115 u116 u117 u118 u119 u120 u121 u122 u123 u124 u125 u126 u127 u128 u129 : Value) (ds' : List Deferred) (Bd : Nat), (m ≤ r.days ∧ BckDay r by_ looks m w0 B2 B3 B4 Bd d ms ds' wr) ∧ a' = ⟨(c0::c1::(.pointer (some ⟨B2, 0, none⟩))::(.pointer (some ⟨B3, 0, none⟩))::(.pointer (some ⟨B4, 0, none⟩))::c5::c6::c7::c8::c9::c10::c11::(.pointer (some ⟨Bd, 0, none⟩))::u13::u14::c15::c16::c17::c18::c19::c20::c21::c22::c23::c24::c25::c26::c27::c28::c29::c30::c31::c32::c33::c34::c35::c36::c37::c38::c39::c40::c41::c42::c43::c44::c45::c46::c47::c48::c49::c50::c51::c52::c53::c54::c55::c56::c57::c58::c59::c60::c61::c62::c63::c64::c65::c66::c67::c68::c69::c70::c71::c72::c73::c74::c75::c76::c77::c78::c79::c80::c81::c82::c83::c84::c85::c86::c87::c88::c89::c90::c91::c92::c93::c94::c95::c96::c97::c98::u99::u100::u101::u102::u103::u104::u105::u106::u107::u108::u109::u110::u111::u112::u113::u114::u115::u116::u117::u118::u119::u120::u121::u122::u123::u124::u125::u126::u127::u128::u129::c130::c131::c132::c133::c134::c135::c136::[]).toArray, ds'⟩) r.days ?_ ?_
 ·exact ⟨_, _, _, _, _, _, _, _, _, _, _, _, _, _, _, _, _, _, _, _, _, _, _, _, _, _, _, _, _, _, _, _, _, ds, Bd, ⟨Nat.le_refl _, hI⟩, rfl⟩
 ·clear hI; rintro m a wr ⟨u13, u14, u99, u100, u101, u102, u103, u104, u105, u106, u107, u108, u109, u110, u111, u112, u113, u114, u115, u116, u117, u118, u119, u120, u121, u122, u123, u124, u125, u126, u127, u128, u129, ds', Bd, ⟨hm, hI⟩, rfl⟩; have hv2 := hv.n2; have HI := Lib.hid hI; have HD := Lib.hid hD; have HV := Lib.hid hv; have m9 := hI.dayB.lt; have hbk := hI.dayB; clear hI hD hv
  cases m with
  | zero =>
   have u9 : wr.cell? ⟨Bd, 0, none⟩ = some (.int .i64 (-1)) := hbk.cell 0; clear hbk; go_wp2; exact HQ.out _ _ _ _ _ _ _ _ _ _ _ _ _ _ _ _ _ _ _ _ _ _ _ _ _ _ _ _ _ _ _ _ _ _ Bd ds' wr HI.out
  | succ p =>
   have hb2 : Blk wr Bd 3 #[.int .i64 p] := by have := hbk; rwa [show ((p + 1 : Nat) : Int) - 1 = (p : Int) by omega] at this
   have HB := Lib.hid hb2; have u9 : wr.cell? ⟨Bd, 0, none⟩ = some (.int .i64 p) := hb2.cell 0; have hp0 : 0 ≤ (p : Int) := by omega
   have hp11 : (p : Int) < 11 := by omega
   obtain ⟨b, S0, q1, q2, q3, q4⟩ := HI.out.maps.at_ p (by omega)
   obtain ⟨bn, N, r1, r2, r3, r4⟩ := HI.out.maps.at_ (p + 1) (by omega)
   have l4 := HI.out.run.a.lt
   have n4 : wr.cell? ⟨B4, p, none⟩ = some (.map (some b)) := by
    refine (HI.out.run.a.cell p).trans ((runC_get _ (by omega)).trans ?_)
    rw [q1]
   obtain ⟨W7, hrun, hr7, hg7, hs7⟩ := q3.range; have HR7 := Lib.hid hr7; have HG7 := Lib.hid hg7; have HS7 := Lib.hid hs7; have H1 := Lib.hid q1; have H3 := Lib.hid q3; have H4 := Lib.hid q4; have R1 := Lib.hid r1; have R3 := Lib.hid r3; have R4 := Lib.hid r4; clear hbk hb2 hr7 hg7 hs7 q1 q3 q4 r1 r3 r4
   go_upto_block 10 with (fail)
   refine wp_scope_straight ?_
   go_upto_block 10 with (fail)
   refine wp_label ?_
   go_upto_block 10 with (fail)
   rename ∀ a w, Code.wp Tryz.prog (Code.seq (Code.seq (Code.region 34 _ _) _) _) _ a w → _ => hK34
   have HK34 := Lib.hid hK34; clear hK34 hrun n4 u9; obtain ⟨rg, hrg⟩ : ∃ rg, rg = wr.heap.size := ⟨_, rfl⟩; have hM7 : RanS W7 b rg S0 S0 := by rw [hrg]; exact HR7.out
   have HT7 : Hid (Turn (fun _ => False) wr W7) := Turn.of_grown HG7.out (fun q e _ => by cases e)
   have hzw : w0.heap.size ≤ wr.heap.size := HI.out.run.b.size; have hbz : b < wr.heap.size := H3.out.lt; have hbnz : bn < wr.heap.size := R3.out.lt
   have hb4 : ∀ s ∈ S0, fwd r by_ looks p s := fun s hs => by
    have h := (H4.out s).1 hs
    rwa [famD, if_pos (by omega)] at h
   have hbbn : b ≠ bn := fun e => by
    have := HI.out.maps.inj p (p + 1) (by omega) (by omega) (by rw [H1.out, R1.out, e])
    omega
   have hfl : ∀ s ∈ S0, s.1 ≤ 1000 ∧ s.2 < 8 := fun s hs => by
    have h := fwd_le HV.out p s (hb4 s hs); exact ⟨by omega, h.2⟩
   have HFW := Lib.hid hb4; have HNE := Lib.hid hbbn; rw [← hrg]
   refine bckR_any HV.out HD.out (HI.out.run.turn HT7.out (fun _ h => h.elim)) (HB.out.turn HT7.out id) H1.out R1.out hM7 (R3.out.turn HT7.out id) hbbn (by omega) q2 (by omega) h1 (by omega) hfl (HI.out.mrk.turn HT7.out (fun _ h => h.elim)) (Lib.hid ?_)
   rintro v13 v14 v107 v108 v109 v110 v111 v112 v113 v114 v115 v116 v117 v118 v119 v120 v121 v122 v123 v124 v125 v126 v127 v128 ds2 W8 hF; have HF := Lib.hid hF
   have HT8 : Hid (Turn (fun x => x = b ∨ x = rg) wr W8) := (HT7.out.mono fun _ h => h.elim).trans hF.t
   have hbB : b ≠ Bd := H3.out.ne_blk HB.out; have hrB : rg ≠ Bd := by omega
   have HY8 : Hid (Blk W8 Bd 3 #[.int .i64 p]) := HB.out.turn HT8.out (fun h => h.elim (fun e => hbB (show Bd = b from e).symm) (fun e => hrB (show Bd = rg from e).symm))
   have n9 : W8.cell? ⟨Bd, 0, none⟩ = some (.int .i64 p) := HY8.out.cell 0; have l9' := HY8.out.lt; have Hrg := Lib.hid hrg; clear hF hM7 hfl hrg hb4 hbbn hbB hrB; refine HK34.out _ _ ?_; go_wp2; have hz4 := HI.out.run.a.lt; have hz2 := HI.out.run.g.lt; have hz3 := HI.out.run.q.lt; have hsz8 := HT8.out.size; have hrg := Hrg.out
   have hR8 : RunB w0 W8 B2 B3 B4 d by_ looks ms := HI.out.run.turn HT8.out (fun x h => by
    have e : x = b ∨ x = rg := h; have k1 := H3.out.ne_blk HI.out.run.g; have k2 := H3.out.ne_blk HI.out.run.q; have k3 := H3.out.ne_blk HI.out.run.a
    exact ⟨by omega, by omega, by omega, by omega⟩)
   have hA : Turn (fun _ => False) W8 (W8.alloc (.cells #[.int .i64 ((p : Int) - 1)] 3)) := (Turn.refl _ _).alloc _
   obtain ⟨S8, hm8, hS8⟩ := HF.out.ran; refine Exists.intro p ⟨by omega, _, _, _, _, _, _, _, _, _, _, _, _, _, _, _, _, _, _, _, _, _, _, _, _, _, _, _, _, _, _, _, _, _, ds2, W8.heap.size, ⟨by omega, ?_⟩, rfl⟩
   refine ⟨hR8.turn hA (fun _ h => h.elim), Blk.new _ _ _, by omega, HI.out.b4, ⟨by omega, HI.out.ne.2⟩, ?_, HF.out.mrk.turn hA (fun _ h => h.elim)⟩
   refine HI.out.maps.change H1.out (by omega) (HT8.out.trans (hA.mono fun _ h => h.elim)) (fun j x hj hx => ?_) (hm8.owns.turn hA id) (fun s => ?_) (fun j hj hne s => ?_)
   ·obtain ⟨bj, Sj, j1, _, j3, _⟩ := HI.out.maps.at_ j hj; rw [j1] at hx; cases hx
    have := j3.lt
    omega
   ·rw [hS8 s]; have e1 : famD r by_ looks p p s ↔ AllS r by_ looks p s := by rw [famD, if_neg (by omega)]
    rw [e1]
    have key : ∀ y, y ∈ N ↔ AllS r by_ looks (p + 1) y := fun y => by rw [R4.out y, famD, if_neg (by omega)]
    constructor
    ·rintro ⟨j1, j2⟩; have hf := HFW.out s j1; rw [allS_back (by omega) hf]
     rcases j2 with j2 | ⟨y, j3, j4⟩
     ·simp at j2
     ·exact ⟨y, j3, (key y).1 j4⟩
    ·intro ha; have hs : s ∈ S0 := (H4.out s).2 (by rw [famD, if_pos (by omega)]; exact ha.1)
     obtain ⟨y, j3, j4⟩ := (allS_back (by omega) ha.1).1 ha
     exact ⟨hs, .inr ⟨y, j3, (key y).2 j4⟩⟩
   ·by_cases e : j < p
    ·rw [famD, famD, if_pos e, if_pos (by omega)]
    ·rw [famD, famD, if_neg e, if_neg (by omega)]
end
end Go.Proofs.YtgmfhngcehkibaaGreat
namespace Go.Proofs.YtgmfhngcehkibaaGreat
open Go.RowKit Go.Hav Go.Shelf Go.Sq
attribute [local go_sem] Oper.semAt_some
section
variable {B d k : Nat} {fa la : Option Addr} {fl fc ll lc : Nat} {r : Riv}
structure RunFin (r : Riv) (by_ looks k : Nat) (w0 : World) (B4 : Nat) (ms : Nat → Option Nat) (ds : List Deferred) (w : World) : Prop where
 a : Blk w B4 184 (runC ms)
 ok : RunOK w k r by_ looks ms
 kept : KeptOK w k r
 grown : w0.grownBy w (some k)
 mrk : Marks w0.heap.size w ds
theorem runOK_of {w0 w : World} {by_ looks : Nat} {ms : Nat → Option Nat} (h : MapsN w0.heap.size w ms (r.days + 1) (famD r by_ looks 0)) (hk : k < w0.heap.size) : RunOK w k r by_ looks ms := fun day hd => by
 obtain ⟨b, S, h1, h2, h3, h4⟩ := h.at_ day (by omega)
 exact ⟨b, S, h1, by omega, h3, fun s => by rw [h4 s, famD, if_neg (by omega)]⟩
theorem runT4_any (hv : r.Good) {w0 w : World} {B2 B3 B4 by_ looks : Nat} {ms : Nat → Option Nat} (hD : GauIn w0 B d k fa fl fc la ll lc r) (hB0 : B ≤ w0.heap.size) (hK : KeptOK w0 k r) {ds : List Deferred} (hR : RunB w0 w B2 B3 B4 d by_ looks ms) (hmk : Marks w0.heap.size w ds) (hM : MapsN w0.heap.size w ms 1 (fwd r by_ looks))
  (hb4 : w0.heap.size ≤ B4) (hn2 : B2 ≠ B4) (hn3 : B3 ≠ B4)
  (h1 : by_ < 1000) (h2 : looks < 1000) {Q : Exit → Act → World → Prop} {c0 c1 c5 c6 c7 c8 c9 c10 c11 c12 c13 c14 c15 c16 c17 c18 c19 c20 c21 c22 c23 c24 c25 c26 c27 c28 c29 c30 c31 c32 c33 c34 c35 c36 c37 c38 c39 c40 c41 c42 c43 c44 c45 c46 c47 c48 c49 c50 c51 c52 c53 c54 c55 c56 c57 c58 c59 c60 c61 c62 c63 c64 c65 c66 c67 c68 c69 c70 c71 c72 c73 c74 c75 c76 c77 c78 c79 c80 c81 c82 c83 c84 c85 c86 c87 c88 c89 c90 c91 c92 c93 c94 c95 c96 c97 c98 c99 c100 c101 c102 c103 c104 c105 c106 c107 c108 c109 c110 c111 c112 c113 c114 c115 c116 c117 c118 c119 c120 c121 c122 c123 c124 c125 c126 c127 c128 c129 c130 c131 c132 c133 c134 c135 c136 : Value}
  (HQ : Hid (∀ (u9 u10 u11 u12 u13 u14 u54 u55 u56 u57 u58 u59 u60 u61 u62 u63 u64 u65 u66 u67 u68 u69 u70 u71 u72 u73 u74 u75 u76 u77 u78 u79 u80 u81 u82 u83 u84 u85 u86 u87 u88 u89 u90 u91 u92 u93 u94 u95 u96 u97 u98 u99 u100 u101 u102 u103 u104 u105 u106 u107 u108 u109 u110 u111 u112 u113 u114 u115 u116 u117 u118 u119 u120 u121 u122 u123 u124 u125 u126 u127 u128 u129 u130 u131 u132 u133 u134 u135 u136 : Value) (ms' : Nat → Option Nat) (ds' : List Deferred) (w' : World), RunFin r by_ looks k w0 B4 ms' ds' w' → Q .ret ⟨(c0::c1::(.pointer (some ⟨B2, 0, none⟩))::(.pointer (some ⟨B3, 0, none⟩))::(.pointer (some ⟨B4, 0, none⟩))::c5::c6::c7::c8::u9::u10::u11::u12::u13::u14::c15::c16::c17::c18::c19::c20::c21::c22::c23::c24::c25::c26::c27::c28::c29::c30::c31::c32::c33::c34::c35::c36::c37::c38::c39::c40::c41::c42::c43::c44::c45::c46::c47::c48::c49::c50::c51::c52::c53::u54::u55::u56::u57::u58::u59::u60::u61::u62::u63::u64::u65::u66::u67::u68::u69::u70::u71::u72::u73::u74::u75::u76::u77::u78::u79::u80::u81::u82::u83::u84::u85::u86::u87::u88::u89::u90::u91::u92::u93::u94::u95::u96::u97::u98::u99::u100::u101::u102::u103::u104::u105::u106::u107::u108::u109::u110::u111::u112::u113::u114::u115::u116::u117::u118::u119::u120::u121::u122::u123::u124::u125::u126::u127::u128::u129::u130::u131::u132::u133::u134::u135::u136::[]).toArray, ds'⟩ w')) :
  Code.wp Tryz.prog (runTail 4) Q ⟨(c0::c1::(.pointer (some ⟨B2, 0, none⟩))::(.pointer (some ⟨B3, 0, none⟩))::(.pointer (some ⟨B4, 0, none⟩))::c5::c6::c7::c8::c9::c10::c11::c12::c13::c14::c15::c16::c17::c18::c19::c20::c21::c22::c23::c24::c25::c26::c27::c28::c29::c30::c31::c32::c33::c34::c35::c36::c37::c38::c39::c40::c41::c42::c43::c44::c45::c46::c47::c48::c49::c50::c51::c52::c53::c54::c55::c56::c57::c58::c59::c60::c61::c62::c63::c64::c65::c66::c67::c68::c69::c70::c71::c72::c73::c74::c75::c76::c77::c78::c79::c80::c81::c82::c83::c84::c85::c86::c87::c88::c89::c90::c91::c92::c93::c94::c95::c96::c97::c98::c99::c100::c101::c102::c103::c104::c105::c106::c107::c108::c109::c110::c111::c112::c113::c114::c115::c116::c117::c118::c119::c120::c121::c122::c123::c124::c125::c126::c127::c128::c129::c130::c131::c132::c133::c134::c135::c136::[]).toArray, ds⟩ w := by
 conv => arg 2; whnf
 have HR := Lib.hid hR; have HD := Lib.hid hD; have HV := Lib.hid hv; have HMK := Lib.hid hmk; have HM := Lib.hid hM; have HK := Lib.hid hK; have HN2 := Lib.hid hn2; have HN3 := Lib.hid hn3; clear hR hD hv hmk hM hK hn2 hn3
 go_upto_block 2 with (fail)
 rename ∀ a w, Code.wp Tryz.prog (Code.seq (Code.seq (Code.region 24 _ _) _) _) _ a w → _ => hK24
 have HK24 := Lib.hid hK24; clear hK24
 have hA : Turn (fun _ => False) w (w.alloc (.cells #[.int .i64 1] 3)) := (Turn.refl _ _).alloc _
 have hz4 := HR.out.a.lt; have hzw := HR.out.b.size
 refine fwdD_any HV.out HD.out hB0 ⟨HR.out.turn hA (fun _ h => h.elim), Blk.new _ _ _, by omega, hb4, ⟨by omega, HN2.out, HN3.out⟩, HM.out.turn hA (fun _ _ _ _ h => h), HMK.out.turn hA (fun _ h => h.elim)⟩ h1 h2 (Lib.hid ?_)
 rintro u9 u10 u11 u54 u55 u56 u57 u58 u59 u60 u61 u62 u63 u64 u65 u66 u67 u68 u69 u70 u71 u72 u73 u74 u75 u76 u77 u78 u79 u80 u81 u82 u83 u84 u85 u86 u87 u88 u89 u90 u91 u92 Bd' ms' ds1 W1 hF; have HF := Lib.hid hF; have HD1 := Lib.hid (HD.out.grow hF.run.b); have u2 : W1.cell? ⟨B2, 0, none⟩ = some (.pointer (some ⟨d, 0, none⟩)) := hF.run.g.cell 0; have ud : W1.cell? ⟨d, 4, none⟩ = some (.int .i64 r.days) := HD1.out.blk.cell 4; have m2 := hF.run.g.lt; have md := HD1.out.blk.lt; have hv1 := HV.out.n1; have hv2 := HV.out.n2; have hge : (1 : Int) ≤ r.days := by omega
 have hle : (r.days : Int) ≤ 10 := by omega
 clear hF hA; refine HK24.out _ _ ?_
 go_upto_block 8 with (fail)
 rename ∀ a w, Code.wp Tryz.prog (Code.seq (Code.region 36 _ _) _) _ a w → _ => hK36
 have HK36 := Lib.hid hK36; clear hK36 u2 ud
 have hA : Turn (fun _ => False) W1 (W1.alloc (.cells #[.int .i64 ((r.days : Int) - 1)] 3)) := (Turn.refl _ _).alloc _
 have hz4 := HF.out.run.a.lt; have hzw := HF.out.run.b.size
 refine bckD_any HV.out HD.out ⟨HF.out.run.turn hA (fun _ h => h.elim), Blk.new _ _ _, by omega, hb4, ⟨by omega, HN2.out, HN3.out⟩, ?_, HF.out.mrk.turn hA (fun _ h => h.elim)⟩ h1 (Lib.hid ?_)
 ·have h := HF.out.maps.turn hA (fun _ _ _ _ h => h)
  refine ⟨fun j hj => ?_, h.inj⟩
  obtain ⟨b, S, q1, q2, q3, q4⟩ := h.at_ j hj
  refine ⟨b, S, q1, q2, q3, fun s => ?_⟩
  rw [q4 s]
  by_cases e : j < r.days
  ·rw [famD, if_pos e]
  ·obtain rfl : j = r.days := by omega
   rw [famD, if_neg e, allS_last]
 rintro v12 v13 v14 v99 v100 v101 v102 v103 v104 v105 v106 v107 v108 v109 v110 v111 v112 v113 v114 v115 v116 v117 v118 v119 v120 v121 v122 v123 v124 v125 v126 v127 v128 v129 Bd2 ds2 W8 hG; have HG8 := Lib.hid hG; have HD8 := Lib.hid (HD.out.grow hG.run.b); have hkw : k < w0.heap.size := by obtain ⟨o, ho, _⟩ := HK.out.lt; exact (Array.getElem?_eq_some_iff.1 ho).1
 have hsz8 := hG.run.b.size; have HK8 := Lib.hid (HK.out.below hG.run.b); have HO8 := Lib.hid (runOK_of hG.maps hkw); have u2 : W8.cell? ⟨B2, 0, none⟩ = some (.pointer (some ⟨d, 0, none⟩)) := hG.run.g.cell 0; have u3 : W8.cell? ⟨B3, 0, none⟩ = some (.int .i64 by_) := hG.run.q.cell 0; have u4 : W8.cell? ⟨B3, 1, none⟩ = some (.int .u64 looks) := hG.run.q.cell 1; have ud : W8.cell? ⟨d, 7, none⟩ = some (.map (some k)) := HD8.out.blk.cell 7; have m2 := hG.run.g.lt; have m3 := hG.run.q.lt; have m4 := hG.run.a.lt; have md := HD8.out.blk.lt; clear hG hA
 have zc0 : W8.cell? ⟨B4, 0, none⟩ = some (.map (ms' 0)) := (HG8.out.run.a.cell 0).trans (runC_get ms' (by omega)); have zc1 : W8.cell? ⟨B4, 1, none⟩ = some (.map (ms' 1)) := (HG8.out.run.a.cell 1).trans (runC_get ms' (by omega)); have zc2 : W8.cell? ⟨B4, 2, none⟩ = some (.map (ms' 2)) := (HG8.out.run.a.cell 2).trans (runC_get ms' (by omega)); have zc3 : W8.cell? ⟨B4, 3, none⟩ = some (.map (ms' 3)) := (HG8.out.run.a.cell 3).trans (runC_get ms' (by omega)); have zc4 : W8.cell? ⟨B4, 4, none⟩ = some (.map (ms' 4)) := (HG8.out.run.a.cell 4).trans (runC_get ms' (by omega)); have zc5 : W8.cell? ⟨B4, 5, none⟩ = some (.map (ms' 5)) := (HG8.out.run.a.cell 5).trans (runC_get ms' (by omega)); have zc6 : W8.cell? ⟨B4, 6, none⟩ = some (.map (ms' 6)) := (HG8.out.run.a.cell 6).trans (runC_get ms' (by omega)); have zc7 : W8.cell? ⟨B4, 7, none⟩ = some (.map (ms' 7)) := (HG8.out.run.a.cell 7).trans (runC_get ms' (by omega)); have zc8 : W8.cell? ⟨B4, 8, none⟩ = some (.map (ms' 8)) := (HG8.out.run.a.cell 8).trans (runC_get ms' (by omega)); have zc9 : W8.cell? ⟨B4, 9, none⟩ = some (.map (ms' 9)) := (HG8.out.run.a.cell 9).trans (runC_get ms' (by omega)); have zc10 : W8.cell? ⟨B4, 10, none⟩ = some (.map (ms' 10)) := (HG8.out.run.a.cell 10).trans (runC_get ms' (by omega)); have zf0 : W8.frozen? ⟨B4, 0, none⟩ = false := HG8.out.run.a.frozen 0; have zf1 : W8.frozen? ⟨B4, 1, none⟩ = false := HG8.out.run.a.frozen 1; have zf2 : W8.frozen? ⟨B4, 2, none⟩ = false := HG8.out.run.a.frozen 2; have zf3 : W8.frozen? ⟨B4, 3, none⟩ = false := HG8.out.run.a.frozen 3; have zf4 : W8.frozen? ⟨B4, 4, none⟩ = false := HG8.out.run.a.frozen 4; have zf5 : W8.frozen? ⟨B4, 5, none⟩ = false := HG8.out.run.a.frozen 5; have zf6 : W8.frozen? ⟨B4, 6, none⟩ = false := HG8.out.run.a.frozen 6; have zf7 : W8.frozen? ⟨B4, 7, none⟩ = false := HG8.out.run.a.frozen 7; have zf8 : W8.frozen? ⟨B4, 8, none⟩ = false := HG8.out.run.a.frozen 8; have zf9 : W8.frozen? ⟨B4, 9, none⟩ = false := HG8.out.run.a.frozen 9; have zf10 : W8.frozen? ⟨B4, 10, none⟩ = false := HG8.out.run.a.frozen 10
 refine HK36.out _ _ ?_; go_wp2
 refine HavG.wp_region_havoc (R := RelB) [(0,false),(1,false),(2,false),(3,false),(4,false),(5,false)] [6] (fun _ _ => False) (by kernel_rfl) (by kernel_rfl) (fun _ _ _ _ h => h.elim) ?_
 (apply HavG.hav_same (by exact ho rfl) (by kernel_rfl); (focus (intro wv hgv _; have hcv := cvB hgv; (try go_simp); try rfl; done)); simp only [Act.put, List.setIfInBounds_toArray, List.set_cons_succ, List.set_cons_zero])
 iterate 5 (apply HavG.hav_same (by exact ho rfl) (by kernel_rfl); (focus (intro wv hgv _; have hcv := cvB hgv; (try go_simp); try rfl; done)); simp only [Act.put, List.setIfInBounds_toArray, List.set_cons_succ, List.set_cons_zero])
 refine HavG.hav_end (fun W9 hg9 _ => ?_)
 simp only [List.filterMap]; have HB9 : Hid (Below W8.heap.size W8 W9) := hg9
 obtain ⟨W10, hrun, hk10, ho10, hg10, hs10⟩ := (HK8.out.below HB9.out).store by_ looks h1 h2 (HO8.out.keep (fun b o _ hb _ => (HB9.out.block b (Array.getElem?_eq_some_iff.1 hb).1).trans hb))
 have HK10 := Lib.hid hk10; have HO10 := Lib.hid ho10; have HG10 := Lib.hid hg10; have hk4 : k ≠ B4 := by omega
 have HA10 : Hid (Blk W10 B4 184 (runC ms')) := (HG8.out.run.a.below HB9.out HG8.out.run.a.lt).grown hg10 (fun e => hk4 (Option.some.inj e).symm)
 have HM10 : Hid (Marks w0.heap.size W10 ds2) := (HG8.out.mrk.turn (Turn.of_below (S := fun _ => False) HB9.out) (fun _ h => h.elim)).turn (Turn.of_grown (S := fun x => x = k) hg10 (fun q e _ => by cases e; rfl)) (fun D e h => by
  obtain rfl : D = k := e; obtain ⟨o, ho, hw⟩ := (HK8.out.below HB9.out).lt; rw [ho] at h; cases h
  cases hw)
 have m10 := HA10.out.lt; dsimp only [quV, runV] at hrun; clear hk10 ho10 hg10 hs10 hg9 u2 u3 u4 ud; clear zc0 zf0 zc1 zf1 zc2 zf2 zc3 zf3 zc4 zf4 zc5 zf5 zc6 zf6 zc7 zf7 zc8 zf8 zc9 zf9 zc10 zf10
 have yc0 : W10.cell? ⟨B4, 0, none⟩ = some (.map (ms' 0)) := (HA10.out.cell 0).trans (runC_get ms' (by omega)); have yc1 : W10.cell? ⟨B4, 1, none⟩ = some (.map (ms' 1)) := (HA10.out.cell 1).trans (runC_get ms' (by omega)); have yc2 : W10.cell? ⟨B4, 2, none⟩ = some (.map (ms' 2)) := (HA10.out.cell 2).trans (runC_get ms' (by omega)); have yc3 : W10.cell? ⟨B4, 3, none⟩ = some (.map (ms' 3)) := (HA10.out.cell 3).trans (runC_get ms' (by omega)); have yc4 : W10.cell? ⟨B4, 4, none⟩ = some (.map (ms' 4)) := (HA10.out.cell 4).trans (runC_get ms' (by omega)); have yc5 : W10.cell? ⟨B4, 5, none⟩ = some (.map (ms' 5)) := (HA10.out.cell 5).trans (runC_get ms' (by omega)); have yc6 : W10.cell? ⟨B4, 6, none⟩ = some (.map (ms' 6)) := (HA10.out.cell 6).trans (runC_get ms' (by omega)); have yc7 : W10.cell? ⟨B4, 7, none⟩ = some (.map (ms' 7)) := (HA10.out.cell 7).trans (runC_get ms' (by omega)); have yc8 : W10.cell? ⟨B4, 8, none⟩ = some (.map (ms' 8)) := (HA10.out.cell 8).trans (runC_get ms' (by omega)); have yc9 : W10.cell? ⟨B4, 9, none⟩ = some (.map (ms' 9)) := (HA10.out.cell 9).trans (runC_get ms' (by omega)); have yc10 : W10.cell? ⟨B4, 10, none⟩ = some (.map (ms' 10)) := (HA10.out.cell 10).trans (runC_get ms' (by omega)); have yf0 : W10.frozen? ⟨B4, 0, none⟩ = false := HA10.out.frozen 0; have yf1 : W10.frozen? ⟨B4, 1, none⟩ = false := HA10.out.frozen 1; have yf2 : W10.frozen? ⟨B4, 2, none⟩ = false := HA10.out.frozen 2; have yf3 : W10.frozen? ⟨B4, 3, none⟩ = false := HA10.out.frozen 3; have yf4 : W10.frozen? ⟨B4, 4, none⟩ = false := HA10.out.frozen 4; have yf5 : W10.frozen? ⟨B4, 5, none⟩ = false := HA10.out.frozen 5; have yf6 : W10.frozen? ⟨B4, 6, none⟩ = false := HA10.out.frozen 6; have yf7 : W10.frozen? ⟨B4, 7, none⟩ = false := HA10.out.frozen 7; have yf8 : W10.frozen? ⟨B4, 8, none⟩ = false := HA10.out.frozen 8; have yf9 : W10.frozen? ⟨B4, 9, none⟩ = false := HA10.out.frozen 9; have yf10 : W10.frozen? ⟨B4, 10, none⟩ = false := HA10.out.frozen 10
 go_wp2; clear yc0 yf0 yc1 yf1 yc2 yf2 yc3 yf3 yc4 yf4 yc5 yf5 yc6 yf6 yc7 yf7 yc8 yf8 yc9 yf9 yc10 yf10
 have hT := set11_turn W10 B4 ms'
 have hne : ∀ (b : Nat) (o : Obj), W10.heap[b]? = some o → o.isWalk = true → b ≠ B4 := fun b o hb hw e => by
  subst e; rw [show W10.heap[b]? = _ from HA10.out] at hb
  cases hb
  cases hw
 exact HQ.out _ _ _ _ _ _ _ _ _ _ _ _ _ _ _ _ _ _ _ _ _ _ _ _ _ _ _ _ _ _ _ _ _ _ _ _ _ _ _ _ _ _ _ _ _ _ _ _ _ _ _ _ _ _ _ _ _ _ _ _ _ _ _ _ _ _ _ _ _ _ _ _ _ _ _ _ _ _ _ _ _ _ _ _ _ _ _ _ _ ms' ds2 (set11 W10 B4 ms') ⟨set11_blk HA10.out ms', HO10.out.keep (fun b o _ hb hw => (hT.block b (Array.getElem?_eq_some_iff.1 hb).1 (fun e => hne b o hb hw e)).trans hb), HK10.out.turn hT (fun b o e hb => by
   cases hw : o.isWalk with
   | false => rfl
   | true => exact absurd e (hne b o hb hw)),
  ⟨hT.os.trans (HG10.out.os.trans (HB9.out.os.trans HG8.out.run.b.os)), hT.tape.trans (HG10.out.tape.trans (HB9.out.tape.trans HG8.out.run.b.tape)), hT.output.trans (HG10.out.output.trans (HB9.out.output.trans HG8.out.run.b.output)), Nat.le_trans HG8.out.run.b.size (Nat.le_trans HB9.out.size (Nat.le_trans HG10.out.size hT.size)), fun b hb hn => by
   have q1 : b < W8.heap.size := by omega
   have q2 : b < W9.heap.size := Nat.lt_of_lt_of_le q1 HB9.out.size
   exact (hT.block b (Nat.lt_of_lt_of_le q2 HG10.out.size) (fun e => by have e' : b = B4 := e; omega)).trans ((HG10.out.block b q2 hn).trans ((HB9.out.block b q1).trans (HG8.out.run.b.block b hb)))⟩,
  HM10.out.turn hT (fun D e h => by
   obtain rfl : D = B4 := e; rw [show W10.heap[D]? = _ from HA10.out] at h
   cases h)⟩
end
end Go.Proofs.YtgmfhngcehkibaaGreat
namespace Go.Proofs.YtgmfhngcehkibaaGreat
open Go.RowKit Go.Hav Go.Shelf Go.Sq
attribute [local go_sem] Oper.semAt_some
section
variable {B d k : Nat} {fa la : Option Addr} {fl fc ll lc : Nat} {r : Riv}
theorem run_any (hv : r.Good) (by_ looks : Nat) (h1 : by_ < 1000) (h2 : looks < 1000) (w : World) (hD : GauIn w B d k fa fl fc la ll lc r) (hK : KeptOK w k r) :
  Calls Tryz.prog 134 #[(.pointer (some ⟨d, 0, none⟩)), quV by_ looks] w fun e w' => ∃ ms, e = .returned (runV ms) ∧ RunOK w' k r by_ looks ms ∧ KeptOK w' k r ∧ w.grownBy w' (some k) := by
 have HD := Lib.hid hD; have HV := Lib.hid hv; have HK := Lib.hid hK; obtain ⟨is, ms0, hlook, his⟩ := hK.look_at by_ looks h1 h2; have HL := Lib.hid hlook; have HIS := Lib.hid his; have hkw : k < w.heap.size := by obtain ⟨o, ho, _⟩ := hK.lt; exact (Array.getElem?_eq_some_iff.1 ho).1
 have p7 : w.cell? ⟨d, 7, none⟩ = some (.map (some k)) := hD.blk.cell 7; have hdw : d < w.heap.size := hD.blk.lt
 obtain ⟨W0, hW0⟩ : ∃ W0, W0 = ((w.alloc (.cells #[(.pointer (some ⟨d, 0, none⟩))] 115)).alloc (.cells #[.int .i64 by_, .int .u64 looks] 187)).alloc (.cells (runC fun _ => none) 184) := ⟨_, rfl⟩
 have HB0 : Hid (Below w.heap.size w W0) := by rw [hW0]; exact (((Below.refl _ _).alloc (Nat.le_refl _) _).alloc (by simp) _).alloc (by simp; omega) _
 have hs0 : W0.heap.size = w.heap.size + 3 := by rw [hW0]; simp
 have HX1 : Hid (Blk W0 w.heap.size 115 #[(.pointer (some ⟨d, 0, none⟩))]) := by rw [hW0]; exact ((Blk.new w 115 _).alloc _).alloc _
 have HX2 : Hid (Blk W0 (w.heap.size + 1) 187 #[.int .i64 by_, .int .u64 looks]) := by rw [hW0]; exact (Blk.new_ (by simp) 187 _).alloc _
 have HX3 : Hid (Blk W0 (w.heap.size + 1 + 1) 184 (runC fun _ => none)) := by rw [hW0]; exact Blk.new_ (by simp) 184 _
 clear hv hD hK hlook his; unfold quV; refine (callsIn_wide (n := 6)).1 (callsIn_of_wp_marks Tryz.func134 rfl trivial ?_ rfl); simp only [Tryz.ntmps134, List.size_toArray, List.length_cons, List.length_nil, Nat.reduceAdd, Nat.reduceSub, Array.replicate_succ, Array.replicate_zero, List.push_toArray, List.append_toArray, List.nil_append, List.cons_append]; refine wpIn_wide.2 ?_; go_wp2; simp only [runC] at hW0; rw [← hW0]; clear hW0; obtain ⟨B2, hB2⟩ : ∃ B2, B2 = w.heap.size := ⟨_, rfl⟩; obtain ⟨B3, hB3⟩ : ∃ B3, B3 = w.heap.size + 1 := ⟨_, rfl⟩; obtain ⟨B4, hB4⟩ : ∃ B4, B4 = w.heap.size + 1 + 1 := ⟨_, rfl⟩; rw [← hB4, ← hB3, ← hB2]; have HY2 : Hid (Blk W0 B2 115 #[(.pointer (some ⟨d, 0, none⟩))]) := by rw [hB2]; exact HX1.out
 have HY3 : Hid (Blk W0 B3 187 #[.int .i64 by_, .int .u64 looks]) := by rw [hB3]; exact HX2.out
 have HY4 : Hid (Blk W0 B4 184 (runC fun _ => none)) := by rw [hB4]; exact HX3.out
 have HE2 := Lib.hid hB2; have HE3 := Lib.hid hB3; have HE4 := Lib.hid hB4; have m2 : B2 < W0.heap.size := by omega
 have m3 : B3 < W0.heap.size := by omega
 have m4 : B4 < W0.heap.size := by omega
 have hdW : d < W0.heap.size := by omega
 have hkW : k < W0.heap.size := by omega
 have u2 : W0.cell? ⟨B2, 0, none⟩ = some (.pointer (some ⟨d, 0, none⟩)) := HY2.out.cell 0; have u3 : W0.cell? ⟨B3, 0, none⟩ = some (.int .i64 by_) := HY3.out.cell 0; have u4 : W0.cell? ⟨B3, 1, none⟩ = some (.int .u64 looks) := HY3.out.cell 1; have u7 : W0.cell? ⟨d, 7, none⟩ = some (.map (some k)) := (HB0.out.cell (p := ⟨d, 7, none⟩) hdw).trans p7
 have HLW : Hid (∀ wv : World, wv.heap[k]? = W0.heap[k]? → (Instr.lookup 177 (.map (some k)) (.agg #[.int .i64 by_, .int .u64 looks]) true).run Tryz.prog wv = .ok (.tuple #[runV ms0, .bool is]) wv) := fun wv he => HL.out wv (he.trans (HB0.out.block k hkw))
 have HS0 := Lib.hid hs0; clear hB2 hB3 hB4 hs0 p7 HX1 HX2 HX3
 refine HavG.wp_region_havoc (R := GZ W0.heap.size 184 (runC fun _ => none) (runC ms0)) [(0,false),(1,false),(2,false),(3,false),(4,false),(5,false),(6,false),(7,false),(8,false),(9,true),(10,true)] [11] (fun _ _ => False) (by kernel_rfl) (by kernel_rfl) (fun _ _ _ _ h => h.elim) ?_
 (apply HavG.hav_same (by exact ho rfl) (by kernel_rfl); (focus (intro wv hgv _; have hcv := cvB hgv.1; (try go_simp); try rfl; done)); simp only [Act.put, List.setIfInBounds_toArray, List.set_cons_succ, List.set_cons_zero])
 iterate 4 (apply HavG.hav_same (by exact ho rfl) (by kernel_rfl); (focus (intro wv hgv _; have hcv := cvB hgv.1; (try go_simp); try rfl; done)); simp only [Act.put, List.setIfInBounds_toArray, List.set_cons_succ, List.set_cons_zero])
 (apply HavG.hav_same (by exact ho rfl) (by kernel_rfl); (focus (intro wv hgv _; have hcv := cvB hgv.1; have hlk := HLW.out wv (hgv.1.block k hkW); (try go_simp); try rfl; done)); simp only [Act.put, List.setIfInBounds_toArray, List.set_cons_succ, List.set_cons_zero])
 iterate 3 (apply HavG.hav_same (by exact ho rfl) (by kernel_rfl); (focus (intro wv hgv _; have hcv := cvB hgv.1; (try go_simp); try rfl; done)); simp only [Act.put, List.setIfInBounds_toArray, List.set_cons_succ, List.set_cons_zero])
 refine HavG.hav_val_ghost (PlaceZ W0.heap.size 184 (runC fun _ => none) (runC ms0)) (by exact ho rfl) (by kernel_rfl) (fun v w w' h hG => h.stable hG) ?_ (fun v => ?_)
 ·intro wv hgv _
  refine ⟨.pointer (some ⟨wv.heap.size, 0, none⟩), wv.alloc (.cells (runC fun _ => none) 184), ?_, GZ.below hgv.1.size ((Below.refl _ _).alloc (Nat.le_refl _) _), wv.heap.size, rfl, hgv.1.size, .inl (Blk.new wv 184 _)⟩
  go_simp
  try rfl
 simp only [Act.put, List.setIfInBounds_toArray, List.set_cons_succ, List.set_cons_zero]
 refine HavG.hav_store (StoredZ W0.heap.size 184 (runC ms0) v) (by exact ho rfl) (by kernel_rfl) rfl (fun w w' h hG => h.stable hG) ?_ ?_
 ·rintro wv hgv ⟨_, g, rfl, hgB, hk⟩
  obtain ⟨ms1, hk1⟩ : ∃ ms1, Blk wv g 184 (runC ms1) := hk.elim (fun h => ⟨_, h⟩) (fun h => ⟨_, h⟩)
  have hlg := hk1.lt; have c0 : wv.cell? ⟨g, 0, none⟩ = some (.map (ms1 0)) := hk1.cell 0; have c1 : wv.cell? ⟨g, 1, none⟩ = some (.map (ms1 1)) := hk1.cell 1; have c2 : wv.cell? ⟨g, 2, none⟩ = some (.map (ms1 2)) := hk1.cell 2; have c3 : wv.cell? ⟨g, 3, none⟩ = some (.map (ms1 3)) := hk1.cell 3; have c4 : wv.cell? ⟨g, 4, none⟩ = some (.map (ms1 4)) := hk1.cell 4; have c5 : wv.cell? ⟨g, 5, none⟩ = some (.map (ms1 5)) := hk1.cell 5; have c6 : wv.cell? ⟨g, 6, none⟩ = some (.map (ms1 6)) := hk1.cell 6; have c7 : wv.cell? ⟨g, 7, none⟩ = some (.map (ms1 7)) := hk1.cell 7; have c8 : wv.cell? ⟨g, 8, none⟩ = some (.map (ms1 8)) := hk1.cell 8; have c9 : wv.cell? ⟨g, 9, none⟩ = some (.map (ms1 9)) := hk1.cell 9; have c10 : wv.cell? ⟨g, 10, none⟩ = some (.map (ms1 10)) := hk1.cell 10; have f0 := hk1.frozen 0; have f1 := hk1.frozen 1; have f2 := hk1.frozen 2; have f3 := hk1.frozen 3; have f4 := hk1.frozen 4; have f5 := hk1.frozen 5; have f6 := hk1.frozen 6; have f7 := hk1.frozen 7; have f8 := hk1.frozen 8; have f9 := hk1.frozen 9; have f10 := hk1.frozen 10; refine ⟨set11 wv g ms0, ?_, GZ.turn hgB (set11_turn wv g ms0) hgv.1.size (set11_blk hk1 ms0), g, rfl, hgB, set11_blk hk1 ms0⟩; dsimp only [runV]; unfold set11
  go_simp
  try rfl
 refine HavG.hav_end (fun W5 hg5 hF => ?_)
 simp only [List.filterMap]; obtain ⟨_, g5, rfl, hgB5, hk5⟩ := hF; have HK5 := Lib.hid hk5; have HB5 : Hid (Below W0.heap.size W0 W5) := hg5.1; have HBW5 : Hid (Below w.heap.size w W5) := HB0.out.trans (hg5.1.mono HB0.out.size); have hl5 := hk5.lt; clear hg5 hk5 u2 u3 u4 u7; have HY25 : Hid (Blk W5 B2 115 #[(.pointer (some ⟨d, 0, none⟩))]) := HY2.out.below HB5.out m2; have HY35 : Hid (Blk W5 B3 187 #[.int .i64 by_, .int .u64 looks]) := HY3.out.below HB5.out m3
 have HY45 : Hid (Blk W5 B4 184 (runC fun _ => none)) := HY4.out.below HB5.out m4
 cases is
 ·clear HL HIS HLW HB5 HK5; have hmm := @run_makeMap Tryz.prog; have n2 : B2 < W5.heap.size := HY25.out.lt; have n3 : B3 < W5.heap.size := HY35.out.lt; have n4 : B4 < W5.heap.size := HY45.out.lt; have nd : d < W5.heap.size := Nat.lt_of_lt_of_le hdw HBW5.out.size; have v2 : W5.cell? ⟨B2, 0, none⟩ = some (.pointer (some ⟨d, 0, none⟩)) := HY25.out.cell 0; have HD5 := Lib.hid (HD.out.grow HBW5.out); have v0 : W5.cell? ⟨d, 0, none⟩ = some (.int .i64 r.depth.lo) := HD5.out.blk.cell 0; have y0 : W5.cell? ⟨B4, 0, none⟩ = some (.map none) := HY45.out.cell 0; have yf : W5.frozen? ⟨B4, 0, none⟩ = false := HY45.out.frozen 0; have hnd : d ≠ B4 := by have := HE4.out; omega
  have hn2 : B2 ≠ B4 := by have := HE4.out; have := HE2.out; omega
  go_wp2; obtain ⟨W6, hW6⟩ : ∃ W6, W6 = (W5.setCell ⟨B4, 0, none⟩ (.map (some W5.heap.size))).alloc (.map #[] 0) := ⟨_, rfl⟩
  have hs56 : (W5.setCell ⟨B4, 0, none⟩ (.map (some W5.heap.size))).heap.size = W5.heap.size := by simp [World.setCell]
  obtain ⟨b0, hb0⟩ : ∃ b0, b0 = W5.heap.size := ⟨_, rfl⟩
  have HM6 : Hid (MapS W6 b0 []) := by
   have h := MapS.made (W5.setCell ⟨B4, 0, none⟩ (.map (some W5.heap.size))); rw [hs56] at h; rw [hW6, hb0]; exact h
  have HR6 : Hid (RunB w W6 B2 B3 B4 d by_ looks (updM (fun _ => none) 0 b0)) := by
   have h4 : w.heap.size ≤ B4 := by have := HE4.out; omega
   have ht : Turn (fun b => b = B4) W5 (W5.setCell ⟨B4, 0, none⟩ (.map (some W5.heap.size))) := Turn.set _ _ (fun _ => rfl)
   refine ⟨?_, ?_, ?_, ?_⟩
   ·rw [hW6]; exact (HBW5.out.setCell h4 _).alloc (by rw [hs56]; exact HBW5.out.size) _
   ·rw [hW6]; exact (HY25.out.turn ht hn2).alloc _
   ·rw [hW6]; exact (HY35.out.turn ht (by have := HE4.out; have := HE3.out; omega)).alloc _
   ·rw [hW6, hb0, ← runC_set _ (by omega)]; exact (HY45.out.set_ 0 _).alloc _
  have hz6 : b0 < W6.heap.size := HM6.out.lt; have hzw : w.heap.size ≤ b0 := by rw [hb0]; exact HBW5.out.size
  rw [← hW6, ← hb0]; have HB0E : Hid (b0 ≠ B2 ∧ b0 ≠ B3 ∧ b0 ≠ B4) := ⟨by omega, by omega, by omega⟩
  clear hW6 hb0 hs56 n2 n3 n4 nd v2 HD5 v0 y0 yf hnd hn2
  rename ∀ a w, Code.wp Tryz.prog (runTail 4) _ a w → _ => hKT
  have HKT := Lib.hid hKT; clear hKT; have HDL := Lib.hid HV.out.d1; have HDL2 := Lib.hid HV.out.d2
  go_loopw [7] (fun v wr => ∃ j, j ≤ r.depth.hi + 1 - r.depth.lo ∧ v = .int .i64 ((r.depth.lo + j : Nat) : Int) ∧ Hid (∃ S, MapS wr b0 S ∧ ∀ s, s ∈ S ↔ ∃ i, i < j ∧ s = (r.depth.lo + i, 0) ∧ fits r looks 0 (r.depth.lo + i) = true) ∧ Hid (RunB w wr B2 B3 B4 d by_ looks (updM (fun _ => none) 0 b0))) (fun v _ => r.depth.hi + 1 - (intOf v).toNat)
  case atStart => exact ⟨0, Nat.zero_le _, rfl, ⟨[], HM6.out, by simp⟩, HR6⟩
  case round =>
   obtain ⟨j, hj, rfl, HS, HR⟩ := hrel; have HDR := Lib.hid (HD.out.grow HR.out.b); have hzr := HR.out.b.size; have nd : d < wr.heap.size := by omega
   have n2 : B2 < wr.heap.size := HR.out.g.lt; have n3 : B3 < wr.heap.size := HR.out.q.lt; have n4 : B4 < wr.heap.size := HR.out.a.lt; have v2 : wr.cell? ⟨B2, 0, none⟩ = some (.pointer (some ⟨d, 0, none⟩)) := HR.out.g.cell 0; have v3 : wr.cell? ⟨B3, 1, none⟩ = some (.int .u64 looks) := HR.out.q.cell 1; have v4 : wr.cell? ⟨B4, 0, none⟩ = some (.map (some b0)) := HR.out.a.cell 0; have v0 : wr.cell? ⟨d, 1, none⟩ = some (.int .i64 r.depth.hi) := HDR.out.blk.cell 1; have hd2 := HDL2.out; have hd1 := HDL.out
   by_cases hlt : r.depth.lo + j ≤ r.depth.hi
   ·have hc : (r.depth.lo : Int) + j ≤ r.depth.hi := by omega
    have hcast : ((r.depth.lo + j : Nat) : Int) = (r.depth.lo : Int) + j := by omega
    go_wp2_with fail; have hfit := fits_any HV.out (r.depth.lo + j, 0) 0 looks (by omega) (wr.alloc (.cells #[.int .i64 ((r.depth.lo : Int) + j), .int .u64 0] 189)) (HDR.out.grow ((Below.refl wr.heap.size wr).alloc (Nat.le_refl _) _))
    dsimp only [stV, stC] at hfit; rw [hcast] at hfit; refine hfit.mono ?_; rintro e w2 ⟨rfl, hb2⟩; have HB2 := Lib.hid hb2
    have HF0 : Hid (Turn (fun _ => False) wr w2) := Turn.of_below (((Below.refl _ _).alloc (Nat.le_refl _) _).trans (hb2.mono (by simp)))
    have HR2 : Hid (RunB w w2 B2 B3 B4 d by_ looks (updM (fun _ => none) 0 b0)) := HR.out.turn HF0.out (fun _ h => h.elim)
    have HX2 : Hid (Blk w2 wr.heap.size 189 #[.int .i64 ((r.depth.lo : Int) + j), .int .u64 0]) := (Blk.new wr 189 _).below hb2 (by simp)
    obtain ⟨S, hS1, hS2⟩ := HS.out; have HS1 := Lib.hid (hS1.turn HF0.out id); have HS2 := Lib.hid hS2; clear hfit hb2 v2 v3 v4 v0 hS1 hS2
    cases hft : fits r looks 0 (r.depth.lo + j)
    ·have HFT := Lib.hid hft; clear hft; go_wp2; go_roundw
     case rel =>
      refine ⟨j + 1, by omega, by go_num, ⟨S, HS1.out, fun s => (HS2.out s).trans ⟨?_, ?_⟩⟩, HR2⟩
      ·rintro ⟨i, q1, q2⟩; exact ⟨i, by omega, q2⟩
      ·rintro ⟨i, q1, q2, q3⟩
       by_cases e : i = j
       ·subst e; rw [HFT.out] at q3; cases q3
       ·exact ⟨i, by omega, q2, q3⟩
     case measure => simp [intOf]; omega
    ·have HFT := Lib.hid hft; have HTY : Hid (Tiny (r.depth.lo + j, 0)) := ⟨by show r.depth.lo + j < 1000000; omega, by show 0 < 8; omega⟩
     obtain ⟨w3, hrun, hm3, hg3, hs3⟩ := HS1.out.store (r.depth.lo + j, 0) HTY.out; dsimp only [stV, stC] at hrun; rw [hcast, show ((0 : Nat) : Int) = 0 from rfl] at hrun
     have HM3 := Lib.hid hm3
     have HT3 : Hid (Turn (fun x => x = b0) w2 w3) := Turn.of_grown hg3 (fun q e _ => by cases e; rfl)
     have HR3 : Hid (RunB w w3 B2 B3 B4 d by_ looks (updM (fun _ => none) 0 b0)) := HR2.out.turn HT3.out (fun x e => by obtain rfl : x = b0 := e; exact ⟨hzw, HB0E.out⟩)
     have u4 : w2.cell? ⟨B4, 0, none⟩ = some (.map (some b0)) := HR2.out.a.cell 0; have u8 : w2.cell? ⟨wr.heap.size, 0, none⟩ = some (.int .i64 ((r.depth.lo : Int) + j)) := HX2.out.cell 0; have u8' : w2.cell? ⟨wr.heap.size, 1, none⟩ = some (.int .u64 0) := HX2.out.cell 1; have l4 := HR2.out.a.lt; have l8 := HX2.out.lt; clear hft hm3 hg3 hs3; go_wp2; go_roundw
     case rel =>
      refine ⟨j + 1, by omega, by go_num, ⟨_, HM3.out, fun s => ?_⟩, HR3⟩
      have hz : s ∈ (if (r.depth.lo + j, 0) ∈ S then S else (r.depth.lo + j, 0) :: S) ↔ s = (r.depth.lo + j, 0) ∨ s ∈ S := by
       by_cases hm : (r.depth.lo + j, 0) ∈ S
       ·rw [if_pos hm]; exact ⟨.inr, fun h => h.elim (fun e => e ▸ hm) id⟩
       ·rw [if_neg hm]; simp
      rw [hz, HS2.out s]; constructor
      ·rintro (rfl | ⟨i, q1, q2⟩)
       ·exact ⟨j, by omega, rfl, HFT.out⟩
       ·exact ⟨i, by omega, q2⟩
      ·rintro ⟨i, q1, q2, q3⟩
       by_cases e : i = j
       ·subst e; exact .inl q2
       ·exact .inr ⟨i, by omega, q2, q3⟩
     case measure => simp [intOf]; omega
   ·have hc : ¬ (r.depth.lo : Int) + j ≤ r.depth.hi := by omega
    have hjn : j = r.depth.hi + 1 - r.depth.lo := by omega
    have HMN : Hid (MapsN w.heap.size wr (updM (fun _ => none) 0 b0) 1 (fwd r by_ looks)) := by
     obtain ⟨S, hS1, hS2⟩ := HS.out
     refine ⟨fun i hi => ?_, fun i i' h1 h2 _ => by omega⟩
     obtain rfl : i = 0 := by omega
     refine ⟨b0, S, by simp [updM], hzw, hS1, fun s => ?_⟩
     rw [hS2 s]; constructor
     ·rintro ⟨i, q1, rfl, q3⟩; exact ⟨rfl, by simp only; omega, by simp only; omega, q3⟩
     ·rintro ⟨q1, q2, q3, q4⟩; obtain ⟨x, c⟩ := s; simp only at q1 q2 q3 q4; refine ⟨x - r.depth.lo, by omega, ?_, ?_⟩
      ·rw [q1, show r.depth.lo + (x - r.depth.lo) = x by omega]
      ·rw [show r.depth.lo + (x - r.depth.lo) = x by omega]; exact q4
    have HQQ : Hid (w.heap.size ≤ B4 ∧ B2 ≠ B4 ∧ B3 ≠ B4) := by
     have hE4 := HE4.out; have hE3 := HE3.out; have hE2 := HE2.out; exact ⟨by omega, by omega, by omega⟩
    clear HS hjn; go_wp2; refine HKT.out _ _ (runT4_any HV.out HD.out (by have := HD.out.hB; omega) HK.out HR.out (Marks.nil _ _) HMN.out HQQ.out.1 HQQ.out.2.1 HQQ.out.2.2 h1 h2 (Lib.hid ?_))
    rintro v9 v10 v11 v12 v13 v14 v54 v55 v56 v57 v58 v59 v60 v61 v62 v63 v64 v65 v66 v67 v68 v69 v70 v71 v72 v73 v74 v75 v76 v77 v78 v79 v80 v81 v82 v83 v84 v85 v86 v87 v88 v89 v90 v91 v92 v93 v94 v95 v96 v97 v98 v99 v100 v101 v102 v103 v104 v105 v106 v107 v108 v109 v110 v111 v112 v113 v114 v115 v116 v117 v118 v119 v120 v121 v122 v123 v124 v125 v126 v127 v128 v129 v130 v131 v132 v133 v134 v135 v136 ms' ds' w' hF
    refine leaves_marks (by simp) ds' w' hF.mrk fun w2 hs => ?_
    have ha2 : Blk w2 B4 184 (runC ms') := hs.other B4 _ hF.a (fun c e => by cases e)
    have hc11 : ∀ j, j < 11 → w2.cell? ⟨B4, j, none⟩ = some (.map (ms' j)) := fun j hj => (ha2.cell j).trans (runC_get ms' hj)
    have hx0 := hc11 0 (by omega)
    have hx1 := hc11 1 (by omega)
    have hx2 := hc11 2 (by omega)
    have hx3 := hc11 3 (by omega)
    have hx4 := hc11 4 (by omega)
    have hx5 := hc11 5 (by omega)
    have hx6 := hc11 6 (by omega)
    have hx7 := hc11 7 (by omega)
    have hx8 := hc11 8 (by omega)
    have hx9 := hc11 9 (by omega)
    have hx10 := hc11 10 (by omega)
    have hwk : ∀ (b : Nat) (o : Obj), w'.heap[b]? = some o → o.isWalk = true → w2.heap[b]? = some o := fun b o hb hw => hs.other b o hb (fun c e => by subst e; cases hw)
    have hg : w.grownBy w2 (some k) := ⟨hs.os.trans hF.grown.os, hs.tape.trans hF.grown.tape, hs.output.trans hF.grown.output, by rw [hs.size]; exact hF.grown.size, fun b hb hn => (hs.low b hb).trans (hF.grown.block b hb hn)⟩
    refine ⟨runV ms', ?_, ms', rfl, hF.ok.keep (fun b o _ hb hw => hwk b o hb hw), hF.kept.keep hwk, hg⟩
    clear hs hF hg hwk
    simp [results, Tryz.results134, go_sem, hx0, hx1, hx2, hx3, hx4, hx5, hx6, hx7, hx8, hx9, hx10, runV]
 ·have xc0 : W5.cell? ⟨g5, 0, none⟩ = some (.map (ms0 0)) := HK5.out.cell 0; have xc1 : W5.cell? ⟨g5, 1, none⟩ = some (.map (ms0 1)) := HK5.out.cell 1; have xc2 : W5.cell? ⟨g5, 2, none⟩ = some (.map (ms0 2)) := HK5.out.cell 2; have xc3 : W5.cell? ⟨g5, 3, none⟩ = some (.map (ms0 3)) := HK5.out.cell 3; have xc4 : W5.cell? ⟨g5, 4, none⟩ = some (.map (ms0 4)) := HK5.out.cell 4; have xc5 : W5.cell? ⟨g5, 5, none⟩ = some (.map (ms0 5)) := HK5.out.cell 5; have xc6 : W5.cell? ⟨g5, 6, none⟩ = some (.map (ms0 6)) := HK5.out.cell 6; have xc7 : W5.cell? ⟨g5, 7, none⟩ = some (.map (ms0 7)) := HK5.out.cell 7; have xc8 : W5.cell? ⟨g5, 8, none⟩ = some (.map (ms0 8)) := HK5.out.cell 8; have xc9 : W5.cell? ⟨g5, 9, none⟩ = some (.map (ms0 9)) := HK5.out.cell 9; have xc10 : W5.cell? ⟨g5, 10, none⟩ = some (.map (ms0 10)) := HK5.out.cell 10; have xf0 : W5.frozen? ⟨g5, 0, none⟩ = false := HK5.out.frozen 0; have xf1 : W5.frozen? ⟨g5, 1, none⟩ = false := HK5.out.frozen 1; have xf2 : W5.frozen? ⟨g5, 2, none⟩ = false := HK5.out.frozen 2; have xf3 : W5.frozen? ⟨g5, 3, none⟩ = false := HK5.out.frozen 3; have xf4 : W5.frozen? ⟨g5, 4, none⟩ = false := HK5.out.frozen 4; have xf5 : W5.frozen? ⟨g5, 5, none⟩ = false := HK5.out.frozen 5; have xf6 : W5.frozen? ⟨g5, 6, none⟩ = false := HK5.out.frozen 6; have xf7 : W5.frozen? ⟨g5, 7, none⟩ = false := HK5.out.frozen 7; have xf8 : W5.frozen? ⟨g5, 8, none⟩ = false := HK5.out.frozen 8; have xf9 : W5.frozen? ⟨g5, 9, none⟩ = false := HK5.out.frozen 9; have xf10 : W5.frozen? ⟨g5, 10, none⟩ = false := HK5.out.frozen 10
  have yc0 : W5.cell? ⟨B4, 0, none⟩ = some (.map ((fun _ : Nat => (none : Option Nat)) 0)) := HY45.out.cell 0; have yc1 : W5.cell? ⟨B4, 1, none⟩ = some (.map ((fun _ : Nat => (none : Option Nat)) 1)) := HY45.out.cell 1; have yc2 : W5.cell? ⟨B4, 2, none⟩ = some (.map ((fun _ : Nat => (none : Option Nat)) 2)) := HY45.out.cell 2; have yc3 : W5.cell? ⟨B4, 3, none⟩ = some (.map ((fun _ : Nat => (none : Option Nat)) 3)) := HY45.out.cell 3; have yc4 : W5.cell? ⟨B4, 4, none⟩ = some (.map ((fun _ : Nat => (none : Option Nat)) 4)) := HY45.out.cell 4; have yc5 : W5.cell? ⟨B4, 5, none⟩ = some (.map ((fun _ : Nat => (none : Option Nat)) 5)) := HY45.out.cell 5; have yc6 : W5.cell? ⟨B4, 6, none⟩ = some (.map ((fun _ : Nat => (none : Option Nat)) 6)) := HY45.out.cell 6; have yc7 : W5.cell? ⟨B4, 7, none⟩ = some (.map ((fun _ : Nat => (none : Option Nat)) 7)) := HY45.out.cell 7; have yc8 : W5.cell? ⟨B4, 8, none⟩ = some (.map ((fun _ : Nat => (none : Option Nat)) 8)) := HY45.out.cell 8; have yc9 : W5.cell? ⟨B4, 9, none⟩ = some (.map ((fun _ : Nat => (none : Option Nat)) 9)) := HY45.out.cell 9; have yc10 : W5.cell? ⟨B4, 10, none⟩ = some (.map ((fun _ : Nat => (none : Option Nat)) 10)) := HY45.out.cell 10; have yf0 : W5.frozen? ⟨B4, 0, none⟩ = false := HY45.out.frozen 0; have yf1 : W5.frozen? ⟨B4, 1, none⟩ = false := HY45.out.frozen 1; have yf2 : W5.frozen? ⟨B4, 2, none⟩ = false := HY45.out.frozen 2; have yf3 : W5.frozen? ⟨B4, 3, none⟩ = false := HY45.out.frozen 3; have yf4 : W5.frozen? ⟨B4, 4, none⟩ = false := HY45.out.frozen 4; have yf5 : W5.frozen? ⟨B4, 5, none⟩ = false := HY45.out.frozen 5; have yf6 : W5.frozen? ⟨B4, 6, none⟩ = false := HY45.out.frozen 6; have yf7 : W5.frozen? ⟨B4, 7, none⟩ = false := HY45.out.frozen 7; have yf8 : W5.frozen? ⟨B4, 8, none⟩ = false := HY45.out.frozen 8; have yf9 : W5.frozen? ⟨B4, 9, none⟩ = false := HY45.out.frozen 9; have yf10 : W5.frozen? ⟨B4, 10, none⟩ = false := HY45.out.frozen 10
  simp only at yc0 yc1 yc2 yc3 yc4 yc5 yc6 yc7 yc8 yc9 yc10; have hn4 : w.heap.size ≤ B4 := by have := HE4.out; omega
  have HRO := Lib.hid (HIS.out rfl); clear HIS; go_wp2; clear xc0 xc1 xc2 xc3 xc4 xc5 xc6 xc7 xc8 xc9 xc10 xf0 xf1 xf2 xf3 xf4 xf5 xf6 xf7 xf8 xf9 xf10; clear yc0 yc1 yc2 yc3 yc4 yc5 yc6 yc7 yc8 yc9 yc10 yf0 yf1 yf2 yf3 yf4 yf5 yf6 yf7 yf8 yf9 yf10; have hT := set11_turn W5 B4 ms0; have ha2 : Blk (set11 W5 B4 ms0) B4 184 (runC ms0) := set11_blk HY45.out ms0
  have hwk : ∀ (b : Nat) (o : Obj), w.heap[b]? = some o → o.isWalk = true → (set11 W5 B4 ms0).heap[b]? = some o := fun b o hb _ => by
   have hbw := (Array.getElem?_eq_some_iff.1 hb).1
   exact (hT.block b (Nat.lt_of_lt_of_le hbw HBW5.out.size) (fun e => by have e' : b = B4 := e; omega)).trans ((HBW5.out.block b hbw).trans hb)
  have hg : w.grownBy (set11 W5 B4 ms0) (some k) := ⟨hT.os.trans HBW5.out.os, hT.tape.trans HBW5.out.tape, hT.output.trans HBW5.out.output, Nat.le_trans HBW5.out.size hT.size, fun b hb _ => (hT.block b (Nat.lt_of_lt_of_le hb HBW5.out.size) (fun e => by have e' : b = B4 := e; omega)).trans (HBW5.out.block b hb)⟩
  have hc11 : ∀ j, j < 11 → (set11 W5 B4 ms0).cell? ⟨B4, j, none⟩ = some (.map (ms0 j)) := fun j hj => (ha2.cell j).trans (runC_get ms0 hj)
  have hx0 := hc11 0 (by omega)
  have hx1 := hc11 1 (by omega)
  have hx2 := hc11 2 (by omega)
  have hx3 := hc11 3 (by omega)
  have hx4 := hc11 4 (by omega)
  have hx5 := hc11 5 (by omega)
  have hx6 := hc11 6 (by omega)
  have hx7 := hc11 7 (by omega)
  have hx8 := hc11 8 (by omega)
  have hx9 := hc11 9 (by omega)
  have hx10 := hc11 10 (by omega)
  obtain ⟨WZ, hWZ⟩ : ∃ WZ, WZ = set11 W5 B4 ms0 := ⟨_, rfl⟩; have hWZ2 := hWZ; unfold set11 at hWZ2; rw [← hWZ2]; rw [← hWZ] at hx0 hx1 hx2 hx3 hx4 hx5 hx6 hx7 hx8 hx9 hx10 hwk hg; clear hWZ hWZ2 hT ha2 hc11
  refine ⟨runV ms0, ?_, ms0, rfl, HRO.out.keep (fun b o _ hb hw => hwk b o hb hw), HK.out.keep hwk, hg⟩
  clear hwk hg
  simp [results, Tryz.results134, go_sem, hx0, hx1, hx2, hx3, hx4, hx5, hx6, hx7, hx8, hx9, hx10, runV]
end
end Go.Proofs.YtgmfhngcehkibaaGreat
