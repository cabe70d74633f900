/- The walks of sum, bare; no condition but that the shed is read, and its press is valid. -/
import Derived.Test.YtbfjebglaimcmaaData
import Derived.Test.YtbfjebglaimcmaaBits
namespace Go.Proofs.Ytbfjebglaimcmaa
open Go.RowKit Go.Hav
theorem Try.infoE87 : (Try.prog.info? 87).map (fun i => (i.zero, i.size, i.bytes)) = some (some (.agg #[.int .i64 0, .int .i64 0]), 2, 16) := by kernel_rfl
set_option maxHeartbeats 400000 in
theorem sum_any (A : Option Addr) (n cp : Nat) (hn : n ≤ 100) (xs : List Sp) (hl : xs.length = n) (hx : ∀ x ∈ xs, midS 1000000 x) (w : World) (hr : RdG spF 2 w w.heap.size A xs) :
    Calls Try.prog 108 #[.slice A n cp] w fun e w' => e = .returned (spV (sumK xs n)) ∧ Below w.heap.size w w' := by
  have HR := Lib.hid hr
  have HX := Lib.hid hx
  clear hr hx
  go_enter Try.func108, Try.ntmps108
  go_wp2
  go_loopw [8] (fun i wr => ∃ (k : Nat) (o : Sp), k ≤ n ∧ i = .int .i64 k ∧ Hid (sumK xs k = o) ∧ midS (1000000 * k) o ∧ Blk wr w.heap.size 87 #[.int .i64 o.lo, .int .i64 o.hi] ∧
      Below w.heap.size w wr) (fun i _ => n - (intOf i).toNat)
  case atStart => exact ⟨0, ⟨0, 0⟩, Nat.zero_le _, rfl, rfl, by simp [midS], Blk.new_ (by simp) _ _, (Below.refl w.heap.size w).alloc (by simp) _⟩
  case round =>
    obtain ⟨k, o, hk, rfl, HF, hm, hbk, hb⟩ := hrel
    have HB := Lib.hid hb
    have HK := Lib.hid hbk
    have HM := Lib.hid hm
    have hlt0 := hbk.lt
    have r0 : wr.cell? ⟨w.heap.size, 0, none⟩ = some (.int .i64 o.lo) := hbk.cell 0
    have r1 : wr.cell? ⟨w.heap.size, 1, none⟩ = some (.int .i64 o.hi) := hbk.cell 1
    have f0 : wr.frozen? ⟨w.heap.size, 0, none⟩ = false := hbk.frozen 0
    have f1 : wr.frozen? ⟨w.heap.size, 1, none⟩ = false := hbk.frozen 1
    clear hb hbk hm
    have HBW := HB
    by_cases hlt : k < n
    · obtain ⟨c, hc⟩ : ∃ c, xs[k]? = some c := ⟨xs[k]'(by omega), by simp⟩
      have HST : Hid (sumK xs (k + 1) = plusS o c) := by show _ = _; rw [sumK, HF.out, hc]; rfl
      have HC := Lib.hid (HX.out c (List.mem_of_getElem? hc))
      obtain ⟨b, off, rfl, hbl, H0, H1⟩ := rd_sp (HR.out.below HBW.out) k c hc
      clear hc
      go_wp2_with fail
      refine (plus_any o c ?_ ?_ _).mono ?_
      · have := HM.out; unfold midS at this ⊢; omega
      · have := HC.out; unfold midS at this ⊢; omega
      unfold spV
      rintro e w1 ⟨rfl, hbw1⟩; obtain ⟨hcw1, hfw1⟩ := bcell hbw1; have hzw1 := hbw1.size; (try simp at hzw1)
      go_wp2
      go_roundw
      case rel =>
        have HB1 : Hid (Below (w.heap.size + 1) wr w1) := ((Below.refl (w.heap.size + 1) wr).alloc (by omega) _).trans (hbw1.mono (by simp; omega))
        refine ⟨k + 1, plusS o c, by omega, by go_num, HST, ?_, ((HK.out.below HB1.out (by omega)).set_ 0 _).set_ 1 _, ((HB.out.trans (HB1.out.mono (by omega))).setCell (by simp) _).setCell (by simp) _⟩
        have h := midS_plus HM.out HC.out
        rwa [show (1000000 : Int) * (k : Nat) + 1000000 = 1000000 * ((k + 1 : Nat) : Int) by omega] at h
      case measure => simp [intOf]; omega
    · obtain rfl : n = k := by omega
      go_wp2
      have e0 := ((HK.out.set_ 0 (.int .i64 o.lo)).set_ 1 (.int .i64 o.hi)).cell 0
      have e1 := ((HK.out.set_ 0 (.int .i64 o.lo)).set_ 1 (.int .i64 o.hi)).cell 1
      refine bodyPost_ret (v := spV o) (by simp [results, Try.results108, go_sem, e0, e1, spV]) rfl ⟨by rw [HF.out], ?_⟩
      exact (HBW.out.setCell (by simp) _).setCell (by simp) _
/-- The weights of the fleeces of a set, of the first k. -/
def bareL (p : PressD) (s : Nat) : Nat → List Sp
  | 0 => []
  | k + 1 => if s.testBit k = true then bareL p s k ++ [p.fw k] else bareL p s k
theorem bareL_len (p : PressD) (s : Nat) : ∀ k, (bareL p s k).length ≤ k := by
  intro k
  induction k with
  | zero => simp [bareL]
  | succ k ih =>
    rw [bareL]
    split
    · rw [List.length_append, List.length_singleton]; omega
    · omega
theorem bareL_sum (p : PressD) (s : Nat) : ∀ k : Nat, sumK (bareL p s k) (bareL p s k).length = ⟨sb (fun i => (p.fw i).lo) s k, sb (fun i => (p.fw i).hi) s k⟩ := by
  intro k
  induction k with
  | zero => rfl
  | succ k ih =>
    rw [bareL, sb, sb]
    split
    · rw [sumK_snoc, ih]; simp [plusS]
    · rw [ih]; simp
theorem bareL_ok {p : PressD} (h : p.ok = true) (s : Nat) : ∀ (k : Nat), k ≤ p.n → ∀ x ∈ bareL p s k, midS 1000000 x := by
  intro k
  induction k with
  | zero => intro _ x hx; simp [bareL] at hx
  | succ k ih =>
    intro hk x hx
    rw [bareL] at hx
    split at hx
    · rcases List.mem_append.1 hx with hx | hx
      · exact ih (by omega) x hx
      · simp only [List.mem_singleton] at hx
        subst hx
        have := PressD.ok_fl h (i := k) (by omega)
        unfold midS
        omega
    · exact ih (by omega) x hx
theorem fw_of {p : PressD} {k : Nat} {c : Fl} (h : p.fl[k]? = some c) : p.fw k = c.w ∧ p.line k = c.line := by
  simp [PressD.fw, PressD.line, h]
section
variable {B d : Nat} {low top bales : Int} {fa wa : Option Addr} {fl fc wl wc : Nat} {p : PressD}
set_option maxRecDepth 100000 in
set_option maxHeartbeats 1600000 in
theorem bare_any (hv : p.ok = true) (s : Nat) (hs : s < 1024) (w : World) (hD : ShedIn w B d fa fl fc low top bales wa wl wc p) :
    Calls Try.prog 106 #[(.pointer (some ⟨d, 0, none⟩)), .int .u64 s] w fun e w' => e = .returned (spV (p.bare s)) ∧ Below w.heap.size w w' := by
  have HD := Lib.hid hD
  have HV := Lib.hid hv
  have p0 := hD.c0
  have hdw : d < w.heap.size := Nat.lt_of_lt_of_le hD.hd hD.hB
  have hn := (PressD.ok_head hv).1
  have hfl : fl ≤ 10 := by have := hD.rd.efl; unfold PressD.n at hn; omega
  obtain ⟨i0, hi, hz0, hz1, hz2⟩ := info_parts Try.infoE87
  have HI := Lib.hid hi
  have HI0 := Lib.hid hz0
  have HI1 := Lib.hid hz1
  have HI2 := Lib.hid hz2
  clear hv hD hn hi hz0 hz1 hz2
  go_enter Try.func106, Try.ntmps106
  go_wp2
  go_loopw [5, 14] (fun l i wr => ∃ k : Nat, k ≤ fl ∧ i = .int .i64 k ∧ wr.ownsRow (w.heap.size + 1) 87 2 l (bareL p s k).length ((bareL p s k).flatMap spF) ∧
      Blk wr w.heap.size 87 #[.int .i64 0, .int .i64 0] ∧ Below w.heap.size w wr) (fun _ i _ => fl - (intOf i).toNat)
  case atStart => exact ⟨0, Nat.zero_le _, rfl, World.ownsRow_nil _ _ _ _, Blk.new_ (by simp) _ _, (Below.refl w.heap.size w).alloc (by simp) _⟩
  case round =>
    obtain ⟨k, hk, rfl, hown, hblk, hbw⟩ := hrel
    have HO := Lib.hid hown
    have HB := Lib.hid hbw
    have HK := Lib.hid hblk
    have hlt0 := hblk.lt
    clear hown hblk hbw
    by_cases hlt : k < fl
    · obtain ⟨c, hc⟩ : ∃ c, p.fl[k]? = some c := ⟨p.fl[k]'(by have := HD.out.rd.efl; omega), by simp⟩
      have HC := Lib.hid (fw_of hc)
      obtain ⟨b, off, rfl, hbl, H0, H1, H2⟩ := rd_fl ((HD.out.grow HB.out).rd.hfl) k c hc
      have hbw : b < wr.heap.size := Nat.lt_of_lt_of_le hbl (HD.out.grow HB.out).hB
      have htb := tb_u64 s k (by omega)
      clear hc
      cases hbit : s.testBit k
      · have HL : Hid (bareL p s (k + 1) = bareL p s k) := by show _ = _; rw [bareL, if_neg (by rw [hbit]; simp)]
        rw [hbit] at htb
        clear hbit
        go_wp2
        go_roundw
        case rel => exact ⟨k + 1, by omega, by go_num, by rw [HL.out]; exact own_below HO.out (by repeat (first | exact Below.refl _ _ | assumption | refine Below.drew ?_ | refine below_drewN ?_ _ | refine Below.alloc ?_ (by (try simp) <;> omega) _ | refine Below.setCell ?_ (by (try simp) <;> omega) _ | refine Below.trans ?_ (Below.mono (by assumption) (by (try simp) <;> omega)))), HK.out.alloc _, HB.out.alloc (by omega) _⟩
        case measure => simp [intOf]; omega
      · have HL : Hid (bareL p s (k + 1) = bareL p s k ++ [c.w]) := by show _ = _; rw [bareL, if_pos hbit, HC.out.1]
        rw [hbit] at htb
        clear hbit
        obtain ⟨⟨c0, c1⟩, cl⟩ := c
        simp only at H0 H1 H2 HL
        have HOWN := Lib.hid (own_below (w' := (wr.alloc (.cells #[.int .i64 c0, .int .i64 c1, .int .i64 cl] 58)).alloc (.cells #[.int .i64 c0, .int .i64 c1] 87)) HO.out (((Below.refl wr.heap.size wr).alloc (Nat.le_refl _) _).alloc (by simp) _))
        have HLEN := Lib.hid (bareL_len p s k)
        go_wp2_with (go_loud (at_builtin; refine wpList_append_own _ rfl _ _ 133 rfl (w.heap.size + 1) 87 i0 _ 2 16 Try.underlying133 HI.out HI0.out HI1.out HI2.out rfl (by decide) _ _ _ rfl HOWN.out ⟨wr.heap.size + 1, 0, none⟩ 1 1 (spF ⟨c0, c1⟩) rfl rfl (news_block (Blk.new_ (by simp) 87 _)) (by simp [spF, Value.oneCell']) (by have := HLEN.out; unfold maxLen; omega) (by have := HLEN.out; omega) (by simp; omega) ?_))
        intro v' w2 hown2 hgrow2 _
        have HO2 := Lib.hid hown2
        have HG2 : Hid (Below w.heap.size w w2) := Below.grown ((HB.out.alloc (by omega) _).alloc (by simp; omega) _) hgrow2 (by simp; omega) (fun k' hk' => by have := (HOWN.out.lt k' hk').1; omega)
        have HK2 : Hid (Blk w2 w.heap.size 87 #[.int .i64 0, .int .i64 0]) := ((HK.out.alloc _).alloc _).grown hgrow2 (by intro e; have := (HOWN.out.lt _ e.symm).1; omega)
        clear hown2 hgrow2
        go_wp2
        go_roundw
        case rel => exact ⟨k + 1, by omega, by go_num, by rw [HL.out, List.length_append, List.flatMap_append, List.flatMap_singleton]; exact HO2.out, HK2.out, HG2.out⟩
        case measure => simp [intOf]; omega
    · obtain rfl : fl = k := by omega
      obtain ⟨A, cp, rfl, hrs, _⟩ := own_rd spF_len (by decide) HO.out
      have HRS := Lib.hid hrs
      have HLEN := Lib.hid (bareL_len p s fl)
      have r0 : wr.cell? ⟨w.heap.size, 0, none⟩ = some (.int .i64 0) := HK.out.cell 0
      have r1 : wr.cell? ⟨w.heap.size, 1, none⟩ = some (.int .i64 0) := HK.out.cell 1
      have f0 : wr.frozen? ⟨w.heap.size, 0, none⟩ = false := HK.out.frozen 0
      have f1 : wr.frozen? ⟨w.heap.size, 1, none⟩ = false := HK.out.frozen 1
      have HF : Hid (p.bare s = sumK (bareL p s fl) (bareL p s fl).length) := by
        show _ = _; rw [bareL_sum]; unfold PressD.bare PressD.n; rw [HD.out.rd.efl]
      clear hrs
      go_wp2_with fail
      refine (sum_any A _ cp (by have := HLEN.out; omega) (bareL p s fl) rfl (bareL_ok HV.out s fl (by unfold PressD.n; rw [HD.out.rd.efl]; omega)) _ (by exact HRS.out)).mono ?_
      obtain ⟨c, HC⟩ : ∃ c, Hid (p.bare s = c) := ⟨_, rfl⟩
      rw [← HF.out, HC.out]
      unfold spV
      rintro e w1 ⟨rfl, hbw1⟩; obtain ⟨hcw1, hfw1⟩ := bcell hbw1; have hzw1 := hbw1.size; (try simp at hzw1)
      go_wp2
      have e0 := (((HK.out.below hbw1 (by omega)).set_ 0 (.int .i64 c.lo)).set_ 1 (.int .i64 c.hi)).cell 0
      have e1 := (((HK.out.below hbw1 (by omega)).set_ 0 (.int .i64 c.lo)).set_ 1 (.int .i64 c.hi)).cell 1
      refine bodyPost_ret (v := spV c) (by simp [results, Try.results106, go_sem, e0, e1, spV]) rfl ⟨by rw [HC.out], ?_⟩
      exact ((HB.out.trans (hbw1.mono (by omega))).setCell (by simp) _).setCell (by simp) _
end
end Go.Proofs.Ytbfjebglaimcmaa
