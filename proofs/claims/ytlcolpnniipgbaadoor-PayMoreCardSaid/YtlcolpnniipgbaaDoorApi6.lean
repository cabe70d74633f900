/- The walk of Check. -/
import Derived.Test.YtlcolpnniipgbaaDoorApi5
import Derived.Test.YtlcolpnniipgbaaDoorRef10
namespace Go.Proofs.YtlcolpnniipgbaaDoor
open Go.RowKit Go.Hav
section
variable {people rate bill : Int} {ra ca da pa : Option Addr} {rl rc cl cc dl dc pl pc : Nat} {p : PayD}
/-- The name of the rules' method. -/
def brkN : String := String.ofList ([115, 104, 101, 97, 114, 119, 111, 114, 107, 115, 47, 112, 97, 121, 46, 98, 114, 101, 97, 107, 115].map Char.ofNat)
theorem breaks_at1 (nm : String) (w : World) (h : nm = brkN) : (method 248 144 (.agg #[]) nm).run Tryd.prog w = .ok (119, .agg #[]) w := by subst h; kernel_rfl
theorem breaks_at2 (nm : String) (w : World) (h : nm = brkN) : (method 248 145 (.agg #[]) nm).run Tryd.prog w = .ok (121, .agg #[]) w := by subst h; kernel_rfl
theorem breaks_at3 (nm : String) (w : World) (h : nm = brkN) : (method 248 146 (.agg #[]) nm).run Tryd.prog w = .ok (122, .agg #[]) w := by subst h; kernel_rfl
/-- The variable rules lies as its initialiser lays it. -/
structure RulesIn (w : World) : Prop where
  lt : 0 < w.heap.size
  r0 : w.cell? ⟨0, 0, none⟩ = some .nilIface
  r1 : w.cell? ⟨0, 1, none⟩ = some (.iface 144 (.agg #[]))
  r2 : w.cell? ⟨0, 2, none⟩ = some (.iface 145 (.agg #[]))
  r3 : w.cell? ⟨0, 3, none⟩ = some (.iface 146 (.agg #[]))
theorem RulesIn.below {w w' : World} (h : RulesIn w) (hb : Below w.heap.size w w') : RulesIn w' :=
  ⟨Nat.lt_of_lt_of_le h.lt hb.size, (hb.cell (p := ⟨0, 0, none⟩) h.lt).trans h.r0, (hb.cell (p := ⟨0, 1, none⟩) h.lt).trans h.r1, (hb.cell (p := ⟨0, 2, none⟩) h.lt).trans h.r2, (hb.cell (p := ⟨0, 3, none⟩) h.lt).trans h.r3⟩
set_option maxRecDepth 100000 in
set_option maxHeartbeats 1600000 in
theorem PCheck_err (w : World) (hP : PayIn w w.heap.size people ra rl ca cl rate bill da dl pa pl p) (hv : payB p = false) :
    Calls Tryd.prog 26 #[payV people ra rl rc ca cl cc rate bill da dl dc pa pl pc] w fun e w' => e = .returned (.tuple #[.int .i64 0, .int .i64 0, .int .i64 1]) ∧ Below w.heap.size w w' := by
  have HV := Lib.hid hv
  clear hv
  have HP := Lib.hid hP
  have EG := Lib.hid (enters_of Tryd.func66 (by kernel_rfl) rfl)
  have hmf : ∀ (fn : Fn) (first cap : Array Value) (w : World), (Instr.makeFunc fn first cap).run Tryd.prog w = .ok (.func fn first cap) w := fun _ _ _ _ => rfl
  clear hP
  unfold payV
  go_enter_defers Tryd.func26, Tryd.ntmps26
  go_wp2_with fail
  obtain ⟨W, hW⟩ : ∃ W, W = ((w.alloc (.cells (payCs people ra rl rc ca cl cc rate bill da dl dc pa pl pc) 27)).alloc (.cells #[.int .i64 0] 30)) := ⟨_, rfl⟩
  have b0 : Blk W (w.heap.size) 27 (payCs people ra rl rc ca cl cc rate bill da dl dc pa pl pc) := by rw [hW]; exact ((Blk.new_ (by simp) _ _).alloc _)
  have b1 : Blk W (w.heap.size + 1) 30 #[.int .i64 0] := by rw [hW]; exact Blk.new_ (by simp) _ _
  have HBW : Hid (Below w.heap.size w W) := by rw [hW]; exact (((Below.refl w.heap.size w).alloc (by simp <;> omega) _).alloc (by simp <;> omega) _)
  have c00 : W.cell? ⟨w.heap.size, 0, none⟩ = some (.int .i64 people) := b0.cell 0
  have c01 : W.cell? ⟨w.heap.size, 1, none⟩ = some (.slice ra rl rc) := b0.cell 1
  have c02 : W.cell? ⟨w.heap.size, 2, none⟩ = some (.slice ca cl cc) := b0.cell 2
  have c03 : W.cell? ⟨w.heap.size, 3, none⟩ = some (.int .i64 rate) := b0.cell 3
  have c04 : W.cell? ⟨w.heap.size, 4, none⟩ = some (.int .i64 bill) := b0.cell 4
  have c05 : W.cell? ⟨w.heap.size, 5, none⟩ = some (.slice da dl dc) := b0.cell 5
  have c06 : W.cell? ⟨w.heap.size, 6, none⟩ = some (.slice pa pl pc) := b0.cell 6
  have c10 : W.cell? ⟨w.heap.size + 1, 0, none⟩ = some (.int .i64 0) := b1.cell 0
  have hs0 : w.heap.size < W.heap.size := b0.lt
  have hs1 : w.heap.size + 1 < W.heap.size := b1.lt
  have fz1 : W.frozen? ⟨w.heap.size + 1, 0, none⟩ = false := b1.frozen 0
  have HBE := Lib.hid b1
  have hW' := hW.symm
  try unfold payCs at hW'
  rw [hW']
  clear hW hW' b0 b1
  refine (open_bad (p := p) _ _ (by exact HP.out.grow HBW.out) HV.out).mono ?_
  rintro e w9 ⟨rfl, hb9⟩
  have HB9 : Hid (Below W.heap.size W w9) := hb9
  clear hb9
  have HE2 : Hid (Blk w9 (w.heap.size + 1) 30 #[.int .i64 0]) := HBE.out.below HB9.out hs1
  go_wp2
  exact api_panics (b := w.heap.size + 1) rfl (HE2.out.cell 0) (HE2.out.frozen 0) (v := .tuple #[.int .i64 0, .int .i64 0, .int .i64 1]) (by
    have g0 := (HE2.out.set_ 0 (.int .i64 1)).cell 0
    simp at g0
    simp [results, Tryd.results26, go_sem, g0]) ⟨rfl, setCell_below (HBW.out.trans (HB9.out.mono (by omega))) (by omega) _⟩
set_option maxRecDepth 100000 in
set_option maxHeartbeats 1600000 in
theorem PCheck_clash (w : World) (hP : PayIn w w.heap.size people ra rl ca cl rate bill da dl pa pl p) (hv : payB p = true) (ht : wrongI p ≠ 0) :
    Calls Tryd.prog 26 #[payV people ra rl rc ca cl cc rate bill da dl dc pa pl pc] w fun e w' => e = .returned (.tuple #[.int .i64 0, .int .i64 0, .int .i64 10]) ∧ Below w.heap.size w w' := by
  have HV := Lib.hid hv
  have HT := Lib.hid ht
  clear ht
  clear hv
  have HP := Lib.hid hP
  have EG := Lib.hid (enters_of Tryd.func66 (by kernel_rfl) rfl)
  have hmf : ∀ (fn : Fn) (first cap : Array Value) (w : World), (Instr.makeFunc fn first cap).run Tryd.prog w = .ok (.func fn first cap) w := fun _ _ _ _ => rfl
  clear hP
  unfold payV
  go_enter_defers Tryd.func26, Tryd.ntmps26
  go_wp2_with fail
  obtain ⟨W, hW⟩ : ∃ W, W = ((w.alloc (.cells (payCs people ra rl rc ca cl cc rate bill da dl dc pa pl pc) 27)).alloc (.cells #[.int .i64 0] 30)) := ⟨_, rfl⟩
  have b0 : Blk W (w.heap.size) 27 (payCs people ra rl rc ca cl cc rate bill da dl dc pa pl pc) := by rw [hW]; exact ((Blk.new_ (by simp) _ _).alloc _)
  have b1 : Blk W (w.heap.size + 1) 30 #[.int .i64 0] := by rw [hW]; exact Blk.new_ (by simp) _ _
  have HBW : Hid (Below w.heap.size w W) := by rw [hW]; exact (((Below.refl w.heap.size w).alloc (by simp <;> omega) _).alloc (by simp <;> omega) _)
  have c00 : W.cell? ⟨w.heap.size, 0, none⟩ = some (.int .i64 people) := b0.cell 0
  have c01 : W.cell? ⟨w.heap.size, 1, none⟩ = some (.slice ra rl rc) := b0.cell 1
  have c02 : W.cell? ⟨w.heap.size, 2, none⟩ = some (.slice ca cl cc) := b0.cell 2
  have c03 : W.cell? ⟨w.heap.size, 3, none⟩ = some (.int .i64 rate) := b0.cell 3
  have c04 : W.cell? ⟨w.heap.size, 4, none⟩ = some (.int .i64 bill) := b0.cell 4
  have c05 : W.cell? ⟨w.heap.size, 5, none⟩ = some (.slice da dl dc) := b0.cell 5
  have c06 : W.cell? ⟨w.heap.size, 6, none⟩ = some (.slice pa pl pc) := b0.cell 6
  have c10 : W.cell? ⟨w.heap.size + 1, 0, none⟩ = some (.int .i64 0) := b1.cell 0
  have hs0 : w.heap.size < W.heap.size := b0.lt
  have hs1 : w.heap.size + 1 < W.heap.size := b1.lt
  have fz1 : W.frozen? ⟨w.heap.size + 1, 0, none⟩ = false := b1.frozen 0
  have HBE := Lib.hid b1
  have hW' := hW.symm
  try unfold payCs at hW'
  rw [hW']
  clear hW hW' b0 b1
  refine (open_fine (p := p) 66 #[] EG.out _ (by exact HP.out.grow HBW.out) HV.out (clos66 _)).mono ?_
  rintro e w1 ⟨rfl, hD, hb1⟩
  have HD := Lib.hid hD
  have HB1 : Hid (Below W.heap.size W w1) := hb1
  clear hb1 hD
  go_wp2_with fail
  refine (told_any (p := p) HV.out _ (by exact HD.out)).mono ?_
  rintro e w9 ⟨h1, hb2⟩
  rw [if_neg HT.out] at h1
  obtain rfl : e = .panicked [refE 10] := h1
  have HB9 : Hid (Below W.heap.size W w9) := HB1.out.trans (hb2.mono HB1.out.size)
  clear hb2
  have HE2 : Hid (Blk w9 (w.heap.size + 1) 30 #[.int .i64 0]) := HBE.out.below HB9.out hs1
  go_wp2
  exact api_panics (b := w.heap.size + 1) rfl (HE2.out.cell 0) (HE2.out.frozen 0) (v := .tuple #[.int .i64 0, .int .i64 0, .int .i64 10]) (by
    have g0 := (HE2.out.set_ 0 (.int .i64 10)).cell 0
    simp at g0
    simp [results, Tryd.results26, go_sem, g0]) ⟨rfl, setCell_below (HBW.out.trans (HB9.out.mono (by omega))) (by omega) _⟩
set_option maxRecDepth 100000 in
set_option maxHeartbeats 6400000 in
theorem PCheck_ok (w : World) (hP : PayIn w w.heap.size people ra rl ca cl rate bill da dl pa pl p) (hv : payB p = true) (ht : wrongI p = 0) (hR : RulesIn w) :
    Calls Tryd.prog 26 #[payV people ra rl rc ca cl cc rate bill da dl dc pa pl pc] w fun e w' => e = .returned (.tuple #[.int .i64 (checkF p (ruleX p) pl 0).1, .int .i64 (checkF p (ruleX p) pl 0).2.1, .int .i64 (checkF p (ruleX p) pl 0).2.2]) ∧ Below w.heap.size w w' := by
  have HV := Lib.hid hv
  have HT := Lib.hid ht
  have HRU := Lib.hid hR
  have HPL := Lib.hid hP.epl
  have HPL8 : Hid (pl ≤ 8) := by have := payB_rate hv; have := hP.epl; show _ ≤ _; omega
  clear hv ht hR
  have HP := Lib.hid hP
  have EG := Lib.hid (enters_of Tryd.func66 (by kernel_rfl) rfl)
  have hmf : ∀ (fn : Fn) (first cap : Array Value) (w : World), (Instr.makeFunc fn first cap).run Tryd.prog w = .ok (.func fn first cap) w := fun _ _ _ _ => rfl
  clear hP
  unfold payV
  go_enter_defers Tryd.func26, Tryd.ntmps26
  go_wp2_with fail
  obtain ⟨W, hW⟩ : ∃ W, W = ((w.alloc (.cells (payCs people ra rl rc ca cl cc rate bill da dl dc pa pl pc) 27)).alloc (.cells #[.int .i64 0] 30)) := ⟨_, rfl⟩
  have b0 : Blk W (w.heap.size) 27 (payCs people ra rl rc ca cl cc rate bill da dl dc pa pl pc) := by rw [hW]; exact ((Blk.new_ (by simp) _ _).alloc _)
  have b1 : Blk W (w.heap.size + 1) 30 #[.int .i64 0] := by rw [hW]; exact Blk.new_ (by simp) _ _
  have HBW : Hid (Below w.heap.size w W) := by rw [hW]; exact (((Below.refl w.heap.size w).alloc (by simp <;> omega) _).alloc (by simp <;> omega) _)
  have c00 : W.cell? ⟨w.heap.size, 0, none⟩ = some (.int .i64 people) := b0.cell 0
  have c01 : W.cell? ⟨w.heap.size, 1, none⟩ = some (.slice ra rl rc) := b0.cell 1
  have c02 : W.cell? ⟨w.heap.size, 2, none⟩ = some (.slice ca cl cc) := b0.cell 2
  have c03 : W.cell? ⟨w.heap.size, 3, none⟩ = some (.int .i64 rate) := b0.cell 3
  have c04 : W.cell? ⟨w.heap.size, 4, none⟩ = some (.int .i64 bill) := b0.cell 4
  have c05 : W.cell? ⟨w.heap.size, 5, none⟩ = some (.slice da dl dc) := b0.cell 5
  have c06 : W.cell? ⟨w.heap.size, 6, none⟩ = some (.slice pa pl pc) := b0.cell 6
  have c10 : W.cell? ⟨w.heap.size + 1, 0, none⟩ = some (.int .i64 0) := b1.cell 0
  have hs0 : w.heap.size < W.heap.size := b0.lt
  have hs1 : w.heap.size + 1 < W.heap.size := b1.lt
  have fz1 : W.frozen? ⟨w.heap.size + 1, 0, none⟩ = false := b1.frozen 0
  have HBE := Lib.hid b1
  have hW' := hW.symm
  try unfold payCs at hW'
  rw [hW']
  clear hW hW' b0 b1
  refine (open_fine (p := p) 66 #[] EG.out _ (by exact HP.out.grow HBW.out) HV.out (clos66 _)).mono ?_
  rintro e w1 ⟨rfl, hD, hb1⟩
  have HD := Lib.hid hD
  have HB1 : Hid (Below W.heap.size W w1) := hb1
  clear hb1 hD
  go_wp2_with fail
  refine (told_any (p := p) HV.out _ (by exact HD.out)).mono ?_
  rintro e w2 ⟨h1, hb2⟩
  rw [if_pos HT.out] at h1
  obtain rfl := h1
  have HB2 : Hid (Below W.heap.size W w2) := HB1.out.trans (hb2.mono HB1.out.size)
  have HD2 := Lib.hid (HD.out.grow hb2)
  have b6 : w2.cell? ⟨w.heap.size, 6, none⟩ = some (.slice pa pl pc) := (HB2.out.cell (p := ⟨w.heap.size, 6, none⟩) hs0).trans c06
  have hpl8 := HPL8.out
  clear hb2
  go_wp2
  have hi0 : ∀ w, (Instr.index 92 (.agg #[.nilIface, .iface 144 (.agg #[]), .iface 145 (.agg #[]), .iface 146 (.agg #[])]) (.int .i64 0)).run Tryd.prog w = .ok .nilIface w := fun _ => by kernel_rfl
  have hi1 : ∀ w, (Instr.index 92 (.agg #[.nilIface, .iface 144 (.agg #[]), .iface 145 (.agg #[]), .iface 146 (.agg #[])]) (.int .i64 1)).run Tryd.prog w = .ok (.iface 144 (.agg #[])) w := fun _ => by kernel_rfl
  have hi2 : ∀ w, (Instr.index 92 (.agg #[.nilIface, .iface 144 (.agg #[]), .iface 145 (.agg #[]), .iface 146 (.agg #[])]) (.int .i64 2)).run Tryd.prog w = .ok (.iface 145 (.agg #[])) w := fun _ => by kernel_rfl
  have hi3 : ∀ w, (Instr.index 92 (.agg #[.nilIface, .iface 144 (.agg #[]), .iface 145 (.agg #[]), .iface 146 (.agg #[])]) (.int .i64 3)).run Tryd.prog w = .ok (.iface 146 (.agg #[])) w := fun _ => by kernel_rfl
  go_loopw [6, 7, 8, 15] (fun _ _ _ i wr => ∃ k : Nat, i = .int .i64 k ∧ k ≤ pl ∧ Hid (checkF p (ruleX p) pl 0 = checkF p (ruleX p) (pl - k) k) ∧ Hid (Below w2.heap.size w2 wr)) (fun _ _ _ i _ => pl - (intOf i).toNat)
  case atStart => exact ⟨0, rfl, Nat.zero_le _, rfl, Below.refl _ _⟩
  case round =>
    obtain ⟨k, rfl, hk, HC, HBR⟩ := hrel
    have HBR1 : Hid (Below W.heap.size W wr) := HB2.out.trans (HBR.out.mono HB2.out.size)
    have HDR := Lib.hid (HD2.out.grow HBR.out)
    have HRR := Lib.hid (HRU.out.below (HBW.out.trans (HBR1.out.mono (by omega))))
    by_cases hlt : k < pl
    · obtain ⟨x, hx⟩ : ∃ x, p.paid[k]? = some x := ⟨p.paid[k]'(by have := HPL.out; omega), by simp⟩
      have HX := Lib.hid hx
      have r0 := HRR.out.r0
      have r1 := HRR.out.r1
      have r2 := HRR.out.r2
      have r3 := HRR.out.r3
      clear hx
      have HCK : Hid (checkF p (ruleX p) pl 0 = if ruleX p x k = 0 then checkF p (ruleX p) (pl - (k + 1)) (k + 1) else ((k : Int), ruleX p x k, 0)) := by
        show _ = _
        rw [HC.out, show pl - k = (pl - (k + 1)) + 1 by omega, checkF, HX.out]
      have k4 : W.heap.size ≤ wr.heap.size := HBR1.out.size
      have e0 : wr.cell? ⟨w.heap.size + 1, 0, none⟩ = some (.int .i64 0) := (HBR1.out.cell (p := ⟨w.heap.size + 1, 0, none⟩) hs1).trans c10
      go_wp2
      refine wp_loop_rounds 5 ?_
      rw [rounds_succ]
      go_wp2_with fail
      rw [rounds_succ]
      go_wp2_with fail
      rw [breaks_at1]
      case h => kernel_rfl
      go_wp2_with fail
      refine (twice_any (p := p) k x HX.out hpl8 _ (by exact HDR.out.desk)).mono ?_
      rintro e w3 ⟨rfl, hb3⟩
      have HB3 : Hid (Below W.heap.size W w3) := HBR1.out.trans (hb3.mono HBR1.out.size)
      have HBQ3 : Hid (Below w2.heap.size w2 w3) := HBR.out.trans (hb3.mono HBR.out.size)
      have HD3 := Lib.hid (HDR.out.grow hb3)
      have q30 : w3.cell? ⟨w.heap.size + 1, 0, none⟩ = some (.int .i64 0) := (HB3.out.cell (p := ⟨w.heap.size + 1, 0, none⟩) hs1).trans c10
      have q31 : w3.frozen? ⟨w.heap.size + 1, 0, none⟩ = false := (HBE.out.below HB3.out hs1).frozen 0
      clear hb3
      cases h1 : twiceF p.paid x k
      case true =>
        have HR : Hid (checkF p (ruleX p) pl 0 = ((k : Int), 1, 0)) := by
          have hr : ruleX p x k = 1 := by rw [ruleX, h1]; rfl
          show _ = _
          rw [HCK.out, hr]; rfl
        go_wp2
        have HE9 : Hid (Blk w3 (w.heap.size + 1) 30 #[.int .i64 0]) := HBE.out.below HB3.out hs1
        have g0 := (HE9.out.set_ 0 (.int .i64 0)).cell 0
        exact api_returns (b := w.heap.size + 1) rfl (v := .tuple #[.int .i64 k, .int .i64 1, .int .i64 0]) (by
          simp at g0
          simp [results, Tryd.results26, go_sem, g0]) ⟨by rw [HR.out], setCell_below (HBW.out.trans (HB3.out.mono (by omega))) (by omega) _⟩
      case false =>
        go_wp2_with fail
        rw [rounds_succ]
        go_wp2_with fail
        rw [breaks_at2]
        case h => kernel_rfl
        go_wp2_with fail
        refine (none_any (p := p) HV.out k x HX.out _ (by exact HD3.out)).mono ?_
        rintro e w4 ⟨rfl, hb4⟩
        have HB4 : Hid (Below W.heap.size W w4) := HB3.out.trans (hb4.mono HB3.out.size)
        have HBQ4 : Hid (Below w2.heap.size w2 w4) := HBQ3.out.trans (hb4.mono HBQ3.out.size)
        have HD4 := Lib.hid (HD3.out.grow hb4)
        have q40 : w4.cell? ⟨w.heap.size + 1, 0, none⟩ = some (.int .i64 0) := (HB4.out.cell (p := ⟨w.heap.size + 1, 0, none⟩) hs1).trans c10
        have q41 : w4.frozen? ⟨w.heap.size + 1, 0, none⟩ = false := (HBE.out.below HB4.out hs1).frozen 0
        clear hb4
        obtain ⟨b2, HB2b⟩ : ∃ b2, Hid (decide (standsI p x.who x.run < 0) = b2) := ⟨_, rfl⟩
        rw [HB2b.out]
        cases b2
        case true =>
          have HR : Hid (checkF p (ruleX p) pl 0 = ((k : Int), 2, 0)) := by
            have h2 : standsI p x.who x.run < 0 := of_decide_eq_true HB2b.out
            have hr : ruleX p x k = 2 := by rw [ruleX, h1, if_neg (by simp), if_pos h2]
            show _ = _
            rw [HCK.out, hr]; rfl
          go_wp2
          have HE9 : Hid (Blk w4 (w.heap.size + 1) 30 #[.int .i64 0]) := HBE.out.below HB4.out hs1
          have g0 := (HE9.out.set_ 0 (.int .i64 0)).cell 0
          exact api_returns (b := w.heap.size + 1) rfl (v := .tuple #[.int .i64 k, .int .i64 2, .int .i64 0]) (by
            simp at g0
            simp [results, Tryd.results26, go_sem, g0]) ⟨by rw [HR.out], setCell_below (HBW.out.trans (HB4.out.mono (by omega))) (by omega) _⟩
        case false =>
          go_wp2_with fail
          rw [rounds_succ]
          go_wp2_with fail
          rw [breaks_at3]
          case h => kernel_rfl
          go_wp2_with fail
          refine (much_any (p := p) HV.out HT.out k x HX.out _ (by exact HD4.out)).mono ?_
          rintro e w5 ⟨rfl, hb5⟩
          have HB5 : Hid (Below W.heap.size W w5) := HB4.out.trans (hb5.mono HB4.out.size)
          have HBQ5 : Hid (Below w2.heap.size w2 w5) := HBQ4.out.trans (hb5.mono HBQ4.out.size)
          have q50 : w5.cell? ⟨w.heap.size + 1, 0, none⟩ = some (.int .i64 0) := (HB5.out.cell (p := ⟨w.heap.size + 1, 0, none⟩) hs1).trans c10
          have q51 : w5.frozen? ⟨w.heap.size + 1, 0, none⟩ = false := (HBE.out.below HB5.out hs1).frozen 0
          clear hb5
          have h2 : ¬ standsI p x.who x.run < 0 := of_decide_eq_false HB2b.out
          cases h3 : muchB p x
          case true =>
            have HR : Hid (checkF p (ruleX p) pl 0 = ((k : Int), 3, 0)) := by
              have hr : ruleX p x k = 3 := by rw [ruleX, h1, if_neg (by simp), if_neg h2, h3]; rfl
              show _ = _
              rw [HCK.out, hr]; rfl
            go_wp2
            have HE9 : Hid (Blk w5 (w.heap.size + 1) 30 #[.int .i64 0]) := HBE.out.below HB5.out hs1
            have g0 := (HE9.out.set_ 0 (.int .i64 0)).cell 0
            exact api_returns (b := w.heap.size + 1) rfl (v := .tuple #[.int .i64 k, .int .i64 3, .int .i64 0]) (by
              simp at g0
              simp [results, Tryd.results26, go_sem, g0]) ⟨by rw [HR.out], setCell_below (HBW.out.trans (HB5.out.mono (by omega))) (by omega) _⟩
          case false =>
            have HCN : Hid (checkF p (ruleX p) pl 0 = checkF p (ruleX p) (pl - (k + 1)) (k + 1)) := by
              have hr : ruleX p x k = 0 := by rw [ruleX, h1, if_neg (by simp), if_neg h2, h3]; rfl
              show _ = _
              rw [HCK.out, hr]; rfl
            go_wp2_with fail
            rw [rounds_succ]
            go_wp2
            go_roundw
            case rel => exact ⟨k + 1, by go_num, by omega, HCN, HBQ5.out⟩
            case measure => simp [intOf]; omega
    · obtain rfl : pl = k := by omega
      have HR : Hid (checkF p (ruleX p) pl 0 = (0, 0, 4)) := by
        show _ = _
        rw [HC.out, Nat.sub_self]; rfl
      have q30 : wr.cell? ⟨w.heap.size + 1, 0, none⟩ = some (.int .i64 0) := (HBR1.out.cell (p := ⟨w.heap.size + 1, 0, none⟩) hs1).trans c10
      have q31 : wr.frozen? ⟨w.heap.size + 1, 0, none⟩ = false := (HBE.out.below HBR1.out hs1).frozen 0
      go_wp2
      have HE9 : Hid (Blk wr (w.heap.size + 1) 30 #[.int .i64 0]) := HBE.out.below HBR1.out hs1
      have g0 := (HE9.out.set_ 0 (.int .i64 4)).cell 0
      exact api_returns (b := w.heap.size + 1) rfl (v := .tuple #[.int .i64 0, .int .i64 0, .int .i64 4]) (by
        simp at g0
        simp [results, Tryd.results26, go_sem, g0]) ⟨by rw [HR.out], setCell_below (HBW.out.trans (HBR1.out.mono (by omega))) (by omega) _⟩
end
end Go.Proofs.YtlcolpnniipgbaaDoor
