/- The walk of the reference's Out. -/
import Derived.Test.YtlcolpnniipgbaaDoorPlain1
import Derived.Test.YtlcolpnniipgbaaDoorRef10
import Derived.Test.YtlcolpnniipgbaaDoorMem
namespace Go.Proofs.YtlcolpnniipgbaaDoor
open Go.RowKit Go.Hav
section
variable {people rate bill : Int} {ra ca da pa : Option Addr} {rl rc cl cc dl dc pl pc : Nat} {p : PayD}
/-- The pay with another count of a run. -/
def setRun (p : PayD) (r : Nat) (s : Sp) : PayD := { p with runs := p.runs.set r s }
theorem setRun_payB (hv : payB p = true) (r : Nat) (n : Int) (h0 : 0 ≤ n) (h1 : n ≤ 400) : payB (setRun p r ⟨n, n⟩) = true := by
  simp only [payB, Bool.and_eq_true] at hv ⊢
  obtain ⟨⟨⟨⟨a, b⟩, c⟩, d⟩, e⟩ := hv
  refine ⟨⟨⟨⟨(show headB (setRun p r ⟨n, n⟩) = headB p by simp only [headB, setRun, List.length_set]; rfl).trans a, ?_⟩, ?_⟩, d⟩, ?_⟩
  · rw [List.all_eq_true] at b ⊢
    intro x hx
    rcases List.mem_or_eq_of_mem_set hx with h | h
    · exact b x h
    · rw [h]; simp [spanB]; omega
  · rw [List.all_eq_true] at c ⊢
    intro x hx
    simpa [callB, whoB, runB, setRun] using c x hx
  · rw [List.all_eq_true] at e ⊢
    intro x hx
    simpa [paidB, whoB, runB, setRun] using e x hx
def outH (p : PayD) (r : Nat) : Sp := hullS (fun n => okRun (setRun p r ⟨n, n⟩) r) (runS p r).lo (runS p r).hi ⟨401, -1⟩

theorem Tryd.infoE34 : (Tryd.prog.info? 34).map (fun i => (i.zero, i.size, i.bytes)) = some (some (.agg #[.int .i64 0, .int .i64 0]), 2, 16) := by kernel_rfl

theorem RdSpans.set_ {w : World} {B g : Nat} {l : List Sp} {r : Nat} {cur : Array Value} {t : TypeId} (hbk : Blk w g t cur) (hsz : l.length * 2 ≤ cur.size) (h : RdSpans w B (some ⟨g, 0, none⟩) l) (hB : g < B) (n : Sp) (hr : r < l.length) :
    RdSpans ((w.setCell ⟨g, 0 + r * 2, none⟩ (.int .i64 n.lo)).setCell ⟨g, 0 + r * 2 + 1, none⟩ (.int .i64 n.hi)) B (some ⟨g, 0, none⟩) (l.set r n) := by
  intro k x hx
  have hk : k < l.length := by have := (List.getElem?_eq_some_iff.1 hx).1; simpa using this
  have hb2 := (hbk.set_ (0 + r * 2) (.int .i64 n.lo)).set_ (0 + r * 2 + 1) (.int .i64 n.hi)
  refine ⟨g, 0, rfl, hB, ?_⟩
  rw [hb2.cell, hb2.cell]
  by_cases hkr : k = r
  · subst hkr
    rw [List.getElem?_set_self hr] at hx
    cases hx
    constructor
    · rw [Array.getElem?_setIfInBounds_ne (by omega), Array.getElem?_setIfInBounds_self_of_lt (by omega)]
    · rw [Array.getElem?_setIfInBounds_self_of_lt (by simp; omega)]
  · rw [List.getElem?_set_ne (Ne.symm hkr)] at hx
    obtain ⟨b, off, e, _, h0, h1⟩ := h k x hx
    obtain ⟨rfl, rfl⟩ : b = g ∧ off = 0 := by injection e with e; injection e with e1 e2; exact ⟨e1.symm, e2.symm⟩
    rw [hbk.cell] at h0 h1
    rw [Array.getElem?_setIfInBounds_ne (by omega), Array.getElem?_setIfInBounds_ne (by omega), Array.getElem?_setIfInBounds_ne (by omega), Array.getElem?_setIfInBounds_ne (by omega)]
    exact ⟨h0, h1⟩

theorem RdSpans.blk {w w' : World} {B g : Nat} {l : List Sp} {t : TypeId} {cur : Array Value} (h : RdSpans w B (some ⟨g, 0, none⟩) l) (hb : Blk w g t cur) (hb' : Blk w' g t cur) : RdSpans w' B (some ⟨g, 0, none⟩) l := fun k x hx => by
  obtain ⟨b, off, e, hl, h0, h1⟩ := h k x hx
  obtain ⟨rfl, rfl⟩ : b = g ∧ off = 0 := by injection e with e; injection e with e1 e2; exact ⟨e1.symm, e2.symm⟩
  rw [hb.cell] at h0 h1
  exact ⟨b, 0, rfl, hl, by rw [hb'.cell]; exact h0, by rw [hb'.cell]; exact h1⟩

set_option maxRecDepth 100000 in
set_option maxHeartbeats 6400000 in
theorem ROut_ok (run : Int) (w : World) (hP : PayIn w w.heap.size people ra rl ca cl rate bill da dl pa pl p) (hz : checkE p (runB p run) true = 0) :
    Calls Tryd.prog 19 #[payV people ra rl rc ca cl cc rate bill da dl dc pa pl pc, .int .i64 run] w fun e w' => e = .returned (.tuple #[spV (outH p run.toNat), .int .i64 0]) ∧ Below w.heap.size w w' := by
  have HP := Lib.hid hP
  have HE2 := Lib.hid hP.erl
  have HPE := Lib.hid hP.epeople
  have m1 := hP.mrl
  clear hP
  unfold payV
  have hne : (checkE p (runB p run) true != 0) = false := by simp [hz]
  obtain ⟨z1, z2, z3⟩ := checkE_zero hz
  obtain ⟨zr0, zr1⟩ := inB_iff.1 z2
  obtain ⟨r, rfl⟩ := Int.eq_ofNat_of_zero_le zr0
  have zl : r < rl := by have := HE2.out; omega
  have zl' : (r : Int) < (rl : Int) := by omega
  have hrl := payB_people z1
  have hrl4 : rl ≤ 4 := by have := HE2.out; omega
  have hrl1 : 1 ≤ rl := by omega
  have hpe1 : 1 ≤ people := by have := HPE.out; omega
  obtain ⟨HR0, hR1, hR2, hR3⟩ := runS_ok z1 r zr0 (by omega)
  obtain ⟨R, HRS⟩ : ∃ R, Hid (runS p r = R) := ⟨_, rfl⟩
  have HOH : Hid (outH p r = hullF (fun n => okRun (setRun p r ⟨n, n⟩) r) R.lo ⟨401, -1⟩ (R.hi + 1 - R.lo).toNat) := by show _ = _; rw [outH, HRS.out]; rfl
  rw [HRS.out] at HR0 hR1 hR2 hR3
  obtain ⟨b, off, rfl, hbl, H0, H1⟩ := HP.out.hruns r R HR0
  have hbl2 : b < w.heap.size + 1 + 1 := by omega
  have Z1 := Lib.hid z1
  have HRR := Lib.hid HR0
  obtain ⟨i0, hi, hz0, hz1, hz2⟩ := info_parts Tryd.infoE34
  have HI := Lib.hid hi
  have HI0 := Lib.hid hz0
  have HI1 := Lib.hid hz1
  have HI2 := Lib.hid hz2
  clear hz z1 z2 z3 hrl HR0 zr1 hi hz0 hz1 hz2
  go_enter Tryd.func19, Tryd.ntmps19
  go_wp2
  refine wp_region_havoc [(0,false),(1,false),(2,false),(3,false),(4,false),(5,false)] [] (fun _ _ => False) (by kernel_rfl) (by kernel_rfl) (fun _ _ _ _ h => h.elim) ?_
  iterate 3 (apply hav_same (by simp only [List.getElem?_toArray, List.getElem?_cons_succ, List.getElem?_cons_zero]; rfl) (by kernel_rfl); (focus (intro wv hgv _; have hcv : ∀ b o, b < _ → wv.cell? ⟨b, o, none⟩ = _ := fun b o hb => Below.cell hgv (p := ⟨b, o, none⟩) hb; go_simp; try rfl; done)); simp only [Act.put, List.setIfInBounds_toArray, List.set_cons_succ, List.set_cons_zero])
  (apply hav_call (by simp only [List.getElem?_toArray, List.getElem?_cons_succ, List.getElem?_cons_zero]; rfl) (by kernel_rfl); (focus (intro wv; go_simp; try exact ⟨rfl, rfl⟩; done)); (focus (intro wv hgv _; exact Run_any (p := p) r _ HE2.out m1; done)); simp only [Act.put, List.setIfInBounds_toArray, List.set_cons_succ, List.set_cons_zero])
  (apply hav_call (by simp only [List.getElem?_toArray, List.getElem?_cons_succ, List.getElem?_cons_zero]; rfl) (by kernel_rfl); (focus (intro wv; go_simp; try exact ⟨rfl, rfl⟩; done)); (focus (intro wv hgv _; have hb : Below w.heap.size w wv := Below.trans (by repeat (first | exact Below.refl _ _ | assumption | refine Below.drew ?_ | refine below_drewN ?_ _ | refine Below.alloc ?_ (by (try simp) <;> omega) _ | refine Below.setCell ?_ (by (try simp) <;> omega) _ | refine Below.trans ?_ (Below.mono (by assumption) (by (try simp) <;> omega)))) (Below.mono hgv (by simp <;> omega)); exact check_any (p := p) _ _ _ (HP.out.grow hb); done)); simp only [Act.put, List.setIfInBounds_toArray, List.set_cons_succ, List.set_cons_zero])
  (apply hav_same (by simp only [List.getElem?_toArray, List.getElem?_cons_succ, List.getElem?_cons_zero]; rfl) (by kernel_rfl); (focus (intro wv hgv _; have hcv : ∀ b o, b < _ → wv.cell? ⟨b, o, none⟩ = _ := fun b o hb => Below.cell hgv (p := ⟨b, o, none⟩) hb; go_simp; try rfl; done)); simp only [Act.put, List.setIfInBounds_toArray, List.set_cons_succ, List.set_cons_zero])
  refine hav_end (fun w1 hgw1 _ => ?_); simp only [List.filterMap]; have hcw1 : ∀ b o, b < _ → w1.cell? ⟨b, o, none⟩ = _ := fun b o hb => Below.cell hgw1 (p := ⟨b, o, none⟩) hb; have hfw1 : ∀ b o, b < _ → w1.frozen? ⟨b, o, none⟩ = _ := fun b o hb => Below.frozen hgw1 (p := ⟨b, o, none⟩) hb; have hzw1 := Below.size hgw1; (try simp at hzw1)
  have hbl3 : b < w1.heap.size := by omega
  have q1 : w.heap.size < w1.heap.size := by omega
  have q2 : w.heap.size + 1 < w1.heap.size := by omega
  have HG1 := Lib.hid hgw1
  clear hgw1
  go_wp2
  go_loopw [8] (fun i wr => ∃ (m : Int) (o : Sp), R.lo ≤ m ∧ m ≤ R.hi + 1 ∧ i = .int .i64 m ∧ Hid (hullF (fun n => okRun (setRun p r ⟨n, n⟩) r) R.lo ⟨401, -1⟩ (m - R.lo).toNat = o) ∧
      Blk wr w1.heap.size 34 #[.int .i64 o.lo, .int .i64 o.hi] ∧ Below w1.heap.size w1 wr) (fun i _ => (R.hi + 1 - intOf i).toNat)
  case atStart => exact ⟨R.lo, ⟨401, -1⟩, by omega, by omega, rfl, by show _ = _; rw [Int.sub_self]; rfl, Blk.new _ _ _, (Below.refl _ _).alloc (by simp) _⟩
  case round =>
    obtain ⟨m, o, hm1, hm2, rfl, HF, hk, hb⟩ := hrel
    have hA : ∀ b o, b < w1.heap.size → wr.cell? ⟨b, o, none⟩ = w1.cell? ⟨b, o, none⟩ := fun b o h => hb.cell (p := ⟨b, o, none⟩) h
    have hAf : ∀ b o, b < w1.heap.size → wr.frozen? ⟨b, o, none⟩ = w1.frozen? ⟨b, o, none⟩ := fun b o h => hb.frozen (p := ⟨b, o, none⟩) h
    have q3 := hk.lt
    have c0 : wr.cell? ⟨w1.heap.size, 0, none⟩ = some (.int .i64 o.lo) := hk.cell 0
    have c1 : wr.cell? ⟨w1.heap.size, 1, none⟩ = some (.int .i64 o.hi) := hk.cell 1
    have f0 : wr.frozen? ⟨w1.heap.size, 0, none⟩ = false := hk.frozen 0
    have f1 : wr.frozen? ⟨w1.heap.size, 1, none⟩ = false := hk.frozen 1
    have HB2 := Lib.hid hb
    have HK := Lib.hid hk
    clear hb hk
    have HBW1 : Hid (Below w.heap.size w w1) := (((Below.refl w.heap.size w).alloc (by simp) _).alloc (by simp) _).trans (Below.mono HG1.out (by simp <;> omega))
    have HBW : Hid (Below w.heap.size w wr) := HBW1.out.trans (HB2.out.mono (by omega))
    by_cases hle : m ≤ R.hi
    · have HST := Lib.hid (hullF_step (fun n => okRun (setRun p r ⟨n, n⟩) r) R.lo ⟨401, -1⟩ m hm1)
      have q4 : b < wr.heap.size := by omega
      have q5 : w.heap.size < wr.heap.size := by omega
      have q6 : w.heap.size < wr.heap.size + 1 := by omega
      have q7 : b < wr.heap.size + 1 := by omega
      have q8 : w1.heap.size < wr.heap.size + 1 := by omega
      have HW1 : Hid (Below w.heap.size w ((wr.alloc (Obj.cells #[Value.int IntKind.i64 people, Value.slice (some { block := b, off := off }) rl rc, Value.slice ca cl cc, Value.int IntKind.i64 rate, Value.int IntKind.i64 bill, Value.slice da dl dc, Value.slice pa pl pc] 27)).alloc (Obj.cells #[] 34))) := (HBW.out.alloc (by omega) _).alloc (by simp; omega) _
      have HXB : Hid (Blk ((wr.alloc (Obj.cells #[Value.int IntKind.i64 people, Value.slice (some { block := b, off := off }) rl rc, Value.slice ca cl cc, Value.int IntKind.i64 rate, Value.int IntKind.i64 bill, Value.slice da dl dc, Value.slice pa pl pc] 27)).alloc (Obj.cells #[] 34)) wr.heap.size 27 #[Value.int IntKind.i64 people, Value.slice (some { block := b, off := off }) rl rc, Value.slice ca cl cc, Value.int IntKind.i64 rate, Value.int IntKind.i64 bill, Value.slice da dl dc, Value.slice pa pl pc]) := (Blk.new wr _ _).alloc _
      have HOWN := Lib.hid (ownsRow_empty (w := wr.alloc (Obj.cells #[Value.int IntKind.i64 people, Value.slice (some { block := b, off := off }) rl rc, Value.slice ca cl cc, Value.int IntKind.i64 rate, Value.int IntKind.i64 bill, Value.slice da dl dc, Value.slice pa pl pc] 27)) (g := wr.heap.size + 1) (by simp) 34 2)
      go_wp2_with (at_builtin; refine wpList_append_own _ rfl _ _ 22 rfl (wr.heap.size + 1) 34 i0 _ 2 16 Tryd.underlying22 HI.out HI0.out HI1.out HI2.out rfl (by decide) _ 0 [] rfl HOWN.out ⟨b, off, none⟩ rl rc (p.runs.flatMap spF) rfl (by rw [flat_len spF 2 spF_len, HE2.out]) (((HP.out.hruns.below HW1.out).g).news spF_len (by decide)) (by simp only [List.mem_flatMap, spF]; rintro u ⟨x, _, hx⟩; simp at hx; rcases hx with rfl | rfl <;> rfl) (by unfold maxLen; omega) (by omega) (by simp) ?_)
      intro v' w2 hown2 hgrow2 _
      have hb2 : Below (wr.heap.size + 1) _ w2 := Below.grown (Below.refl _ _) hgrow2 (by simp) (by intro k hk; simp [Value.ownBlock] at hk; omega)
      have HX2 := Lib.hid (HXB.out.below hb2 (by omega))
      have HGW : Hid (Below w.heap.size w w2) := HW1.out.trans (hb2.mono (by omega))
      have HOB2 : Hid (Below w1.heap.size w1 w2) := ((HB2.out.alloc (by omega) _).alloc (by simp; omega) _).trans (hb2.mono (by omega))
      have HK2 : Hid (Blk w2 w1.heap.size 34 #[.int .i64 o.lo, .int .i64 o.hi]) := ((HK.out.alloc _).alloc _).below hb2 (by omega)
      obtain ⟨g, cap, cur, hv', hg, hh, hle2, hcs, HSP⟩ : ∃ g cap cur, v' = .slice (some ⟨g, 0, none⟩) rl cap ∧ wr.heap.size + 1 ≤ g ∧ Blk w2 g 34 cur ∧ rl ≤ cap ∧ cur.size = cap * 2 ∧ Hid (RdSpans w2 w2.heap.size (some ⟨g, 0, none⟩) p.runs) := by
        rcases hown2.2 with ⟨_, h0⟩ | ⟨g, cap, cur, rfl, hg, hh, hle, _, hsz, _⟩
        · omega
        · exact ⟨g, cap, cur, rfl, hg, hh, hle, hsz, RdSpans.of_g (RdG.of_own spF_len (by decide) hown2 (Nat.le_refl _) rfl)⟩
      rw [hv']
      have x0 : ∀ i, w2.cell? ⟨wr.heap.size, i, none⟩ = _ := fun i => HX2.out.cell i
      have x1 : ∀ i, w2.frozen? ⟨wr.heap.size, i, none⟩ = false := fun i => HX2.out.frozen i
      have q9 : g < w2.heap.size := Blk.lt hh
      have q10 : ¬ g = wr.heap.size := by omega
      have q11 : ¬ wr.heap.size = g := by omega
      obtain ⟨y0, hy0⟩ : ∃ y, cur[r * 2]? = some y := ⟨cur[r * 2]'(by omega), by simp⟩
      obtain ⟨y1, hy1⟩ : ∃ y, cur[r * 2 + 1]? = some y := ⟨cur[r * 2 + 1]'(by omega), by simp⟩
      have u0 : w2.cell? ⟨g, r * 2, none⟩ = some y0 := by rw [Blk.cell hh]; exact hy0
      have u1 : w2.cell? ⟨g, r * 2 + 1, none⟩ = some y1 := by rw [Blk.cell hh]; exact hy1
      have u2 : ∀ i, w2.frozen? ⟨g, i, none⟩ = false := fun i => Blk.frozen hh i
      have HH := Lib.hid hh
      have HCS := Lib.hid hcs
      clear hown2 hgrow2 hb2 hv' hh hcs hy0 hy1
      go_wp2_with fail
      generalize hW3 : ((w2.setCell ⟨wr.heap.size, 1, none⟩ (Value.slice (some ⟨g, 0, none⟩) rl cap)).setCell ⟨g, r * 2, none⟩ (Value.int IntKind.i64 m)).setCell ⟨g, r * 2 + 1, none⟩ (Value.int IntKind.i64 m) = W3
      have hsz3 : W3.heap.size = w2.heap.size := by rw [← hW3]; simp [World.setCell]
      have HB3 : Hid (Below w.heap.size w W3) := by rw [← hW3]; exact ((HGW.out.setCell (by simp; omega) _).setCell (by simp; omega) _).setCell (by simp; omega) _
      have HOB3 : Hid (Below w1.heap.size w1 W3) := by rw [← hW3]; exact ((HOB2.out.setCell (by simp; omega) _).setCell (by simp; omega) _).setCell (by simp; omega) _
      have HK3 : Hid (Blk W3 w1.heap.size 34 #[.int .i64 o.lo, .int .i64 o.hi]) := by rw [← hW3]; exact ((HK2.out.far (by simp; omega) _).far (by simp; omega) _).far (by simp; omega) _
      have HS3 : Hid (RdSpans W3 W3.heap.size (some ⟨g, 0, none⟩) (p.runs.set r ⟨m, m⟩)) := by
        have hg2 : Blk (w2.setCell ⟨wr.heap.size, 1, none⟩ (Value.slice (some ⟨g, 0, none⟩) rl cap)) g 34 cur := HH.out.far (by simp; omega) _
        have h1 := RdSpans.set_ (r := r) hg2 (by rw [HCS.out, HE2.out]; omega) (HSP.out.blk HH.out hg2) q9 ⟨m, m⟩ (by rw [HE2.out]; exact zl)
        rw [Nat.zero_add] at h1
        rw [hsz3, ← hW3]
        exact h1
      have HP3 : Hid (PayIn W3 W3.heap.size people (some ⟨g, 0, none⟩) rl ca cl rate bill da dl pa pl (setRun p r ⟨m, m⟩)) :=
        { (HP.out.grow HB3.out) with erl := by simpa [setRun] using HE2.out, hruns := HS3.out }
      have HV3 : Hid (payB (setRun p r ⟨m, m⟩) = true) := setRun_payB Z1.out r m (by omega) (by omega)
      have HO : Hid (okRun (setRun p r ⟨m, m⟩) r = someB (setRun p r ⟨m, m⟩) r (-1) 0 people.toNat 0 0) := by show _ = _; rw [okRun]; show someB _ _ _ _ p.people.toNat _ _ = _; rw [HPE.out]
      clear hW3
      refine (some_any (p := setRun p r ⟨m, m⟩) HV3.out r (-1) 0 zr0 zl' people.toNat 0 0 _ (by omega) (by omega) (by omega) (by omega) HP3.out).mono ?_
      rw [← HO.out]
      rintro e w4 ⟨rfl, hbw4⟩; obtain ⟨hcw4, hfw4⟩ := bcell hbw4; have hzw4 := hbw4.size; (try simp at hzw4)
      have HB4 : Hid (Below w.heap.size w w4) := HB3.out.trans (hbw4.mono HB3.out.size)
      have HOB4 : Hid (Below w1.heap.size w1 w4) := HOB3.out.trans (hbw4.mono HOB3.out.size)
      have HK4 : Hid (Blk w4 w1.heap.size 34 #[.int .i64 o.lo, .int .i64 o.hi]) := HK3.out.below hbw4 (Blk.lt HK3.out)
      have d0 : w4.cell? ⟨w1.heap.size, 0, none⟩ = some (.int .i64 o.lo) := HK4.out.cell 0
      have d1 : w4.cell? ⟨w1.heap.size, 1, none⟩ = some (.int .i64 o.hi) := HK4.out.cell 1
      have e0 : w4.frozen? ⟨w1.heap.size, 0, none⟩ = false := HK4.out.frozen 0
      have e1 : w4.frozen? ⟨w1.heap.size, 1, none⟩ = false := HK4.out.frozen 1
      clear hcw4 hfw4 hbw4
      cases hv : okRun (setRun p r ⟨m, m⟩) r
      all_goals
        have HV1 := Lib.hid hv
        clear hv
        go_wp2
        go_roundw
      case rel => exact ⟨m + 1, o, by omega, by omega, rfl, by show _ = _; rw [HST.out, HV1.out, HF.out]; rfl, HK4.out, HOB4.out⟩
      case measure => simp [intOf]; omega
      case rel => exact ⟨m + 1, ⟨if m < o.lo then m else o.lo, if o.hi < m then m else o.hi⟩, by omega, by omega, rfl, by show _ = _; rw [HST.out, HV1.out, HF.out]; rfl, (HK4.out.set_ 0 _).set_ 1 _, (HOB4.out.setCell (by simp) _).setCell (by simp) _⟩
      case measure => simp [intOf]; omega
    · have HRB : Hid (Blk wr (w.heap.size + 1) 34 #[.int .i64 0, .int .i64 0]) := ((Blk.new_ (by simp) _ _).below HG1.out (by simp)).below HB2.out (by omega)
      have r0 : wr.cell? ⟨w.heap.size + 1, 0, none⟩ = some (.int .i64 0) := HRB.out.cell 0
      have r1 : wr.cell? ⟨w.heap.size + 1, 1, none⟩ = some (.int .i64 0) := HRB.out.cell 1
      have g0 : wr.frozen? ⟨w.heap.size + 1, 0, none⟩ = false := HRB.out.frozen 0
      have g1 : wr.frozen? ⟨w.heap.size + 1, 1, none⟩ = false := HRB.out.frozen 1
      obtain rfl : R.hi + 1 = m := by omega
      go_wp2
      have e0 := ((HRB.out.set_ 0 (.int .i64 o.lo)).set_ 1 (.int .i64 o.hi)).cell 0
      have e1 := ((HRB.out.set_ 0 (.int .i64 o.lo)).set_ 1 (.int .i64 o.hi)).cell 1
      refine bodyPost_ret (v := .tuple #[spV (outH p r), .int .i64 0]) (by rw [HOH.out, HF.out]; simp [results, Tryd.results19, go_sem, e0, e1, spV]) rfl ⟨by simp, ?_⟩
      exact (HBW.out.setCell (by simp) _).setCell (by simp) _

set_option maxHeartbeats 1600000 in
theorem ROut_err (run : Int) (w : World) (hP : PayIn w w.heap.size people ra rl ca cl rate bill da dl pa pl p) (hz : checkE p (runB p run) true ≠ 0) :
    Calls Tryd.prog 19 #[payV people ra rl rc ca cl cc rate bill da dl dc pa pl pc, .int .i64 run] w fun e w' => e = .returned (.tuple #[spV ⟨0, 0⟩, .int .i64 (checkE p (runB p run) true)]) ∧ Below w.heap.size w w' := by
  have HP := Lib.hid hP
  have HE2 := Lib.hid hP.erl
  have m1 := hP.mrl
  clear hP
  unfold payV
  have hne : (checkE p (runB p run) true != 0) = true := by simp [hz]
  clear hz
  go_enter Tryd.func19, Tryd.ntmps19
  go_wp2
  refine wp_region_havoc [(0,false),(1,false),(2,false),(3,false),(4,false),(5,false)] [] (fun _ _ => False) (by kernel_rfl) (by kernel_rfl) (fun _ _ _ _ h => h.elim) ?_
  iterate 3 (apply hav_same (by simp only [List.getElem?_toArray, List.getElem?_cons_succ, List.getElem?_cons_zero]; rfl) (by kernel_rfl); (focus (intro wv hgv _; have hcv : ∀ b o, b < _ → wv.cell? ⟨b, o, none⟩ = _ := fun b o hb => Below.cell hgv (p := ⟨b, o, none⟩) hb; go_simp; try rfl; done)); simp only [Act.put, List.setIfInBounds_toArray, List.set_cons_succ, List.set_cons_zero])
  (apply hav_call (by simp only [List.getElem?_toArray, List.getElem?_cons_succ, List.getElem?_cons_zero]; rfl) (by kernel_rfl); (focus (intro wv; go_simp; try exact ⟨rfl, rfl⟩; done)); (focus (intro wv hgv _; exact Run_any (p := p) run _ HE2.out m1; done)); simp only [Act.put, List.setIfInBounds_toArray, List.set_cons_succ, List.set_cons_zero])
  (apply hav_call (by simp only [List.getElem?_toArray, List.getElem?_cons_succ, List.getElem?_cons_zero]; rfl) (by kernel_rfl); (focus (intro wv; go_simp; try exact ⟨rfl, rfl⟩; done)); (focus (intro wv hgv _; have hb : Below w.heap.size w wv := Below.trans (by repeat (first | exact Below.refl _ _ | assumption | refine Below.drew ?_ | refine below_drewN ?_ _ | refine Below.alloc ?_ (by (try simp) <;> omega) _ | refine Below.setCell ?_ (by (try simp) <;> omega) _ | refine Below.trans ?_ (Below.mono (by assumption) (by (try simp) <;> omega)))) (Below.mono hgv (by simp <;> omega)); exact check_any (p := p) _ _ _ (HP.out.grow hb); done)); simp only [Act.put, List.setIfInBounds_toArray, List.set_cons_succ, List.set_cons_zero])
  (apply hav_same (by simp only [List.getElem?_toArray, List.getElem?_cons_succ, List.getElem?_cons_zero]; rfl) (by kernel_rfl); (focus (intro wv hgv _; have hcv : ∀ b o, b < _ → wv.cell? ⟨b, o, none⟩ = _ := fun b o hb => Below.cell hgv (p := ⟨b, o, none⟩) hb; go_simp; try rfl; done)); simp only [Act.put, List.setIfInBounds_toArray, List.set_cons_succ, List.set_cons_zero])
  refine hav_end (fun w1 hgw1 _ => ?_); simp only [List.filterMap]; have hcw1 : ∀ b o, b < _ → w1.cell? ⟨b, o, none⟩ = _ := fun b o hb => Below.cell hgw1 (p := ⟨b, o, none⟩) hb; have hfw1 : ∀ b o, b < _ → w1.frozen? ⟨b, o, none⟩ = _ := fun b o hb => Below.frozen hgw1 (p := ⟨b, o, none⟩) hb; have hzw1 := Below.size hgw1; (try simp at hzw1)
  have HRB1 : Hid (Blk w1 (w.heap.size + 1) 34 #[.int .i64 0, .int .i64 0]) := (Blk.new_ (by simp) _ _).below hgw1 (by simp)
  have r0 : w1.cell? ⟨w.heap.size + 1, 0, none⟩ = some (.int .i64 0) := HRB1.out.cell 0
  have r1 : w1.cell? ⟨w.heap.size + 1, 1, none⟩ = some (.int .i64 0) := HRB1.out.cell 1
  have g0 : w1.frozen? ⟨w.heap.size + 1, 0, none⟩ = false := HRB1.out.frozen 0
  have g1 : w1.frozen? ⟨w.heap.size + 1, 1, none⟩ = false := HRB1.out.frozen 1
  have HBW : Hid (Below w.heap.size w w1) := Below.trans (((Below.refl w.heap.size w).alloc (by simp) _).alloc (by simp) _) (Below.mono hgw1 (by simp <;> omega))
  clear hgw1
  go_wp2
  have e0 := ((HRB1.out.set_ 0 (.int .i64 0)).set_ 1 (.int .i64 0)).cell 0
  have e1 := ((HRB1.out.set_ 0 (.int .i64 0)).set_ 1 (.int .i64 0)).cell 1
  refine bodyPost_ret (v := .tuple #[spV ⟨0, 0⟩, .int .i64 (checkE p (runB p run) true)]) (by simp [results, Tryd.results19, go_sem, e0, e1, spV]) rfl ⟨rfl, ?_⟩
  exact (HBW.out.setCell (by simp) _).setCell (by simp) _

theorem ROut_any (run : Int) (w : World) (hP : PayIn w w.heap.size people ra rl ca cl rate bill da dl pa pl p) :
    Calls Tryd.prog 19 #[payV people ra rl rc ca cl cc rate bill da dl dc pa pl pc, .int .i64 run] w fun e w' => e = .returned (.tuple #[spV (spanR (checkE p (runB p run) true) (outH p run.toNat)).1, .int .i64 (spanR (checkE p (runB p run) true) (outH p run.toNat)).2]) ∧ Below w.heap.size w w' := by
  by_cases hz : checkE p (runB p run) true = 0
  · rw [show spanR (checkE p (runB p run) true) (outH p run.toNat) = (outH p run.toNat, 0) from if_pos hz]
    exact ROut_ok run w hP hz
  · rw [show spanR (checkE p (runB p run) true) (outH p run.toNat) = (⟨0, 0⟩, checkE p (runB p run) true) from if_neg hz]
    exact ROut_err run w hP hz
end
end Go.Proofs.YtlcolpnniipgbaaDoor
