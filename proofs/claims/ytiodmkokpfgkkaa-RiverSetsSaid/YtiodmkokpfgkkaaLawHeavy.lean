/- The walk of the laws' heavy: whatever it says, it says it. No condition. -/
import Derived.Test.YtiodmkokpfgkkaaRefU
namespace Go.Proofs.Ytiodmkokpfgkkaa
open Go.RowKit Go.Hav Go.Shelf Go.Sq
attribute [local go_sem] Oper.semAt_some
theorem mul_bd {a b A B : Int} (ha : 0 ≤ a) (hA : a ≤ A) (hb : 0 ≤ b) (hB : b ≤ B) : 0 ≤ a * b ∧ a * b ≤ A * B := ⟨Int.mul_nonneg ha hb, Int.le_trans (Int.mul_le_mul_of_nonneg_right hA hb) (Int.mul_le_mul_of_nonneg_left hB (by omega))⟩
section
variable {fa la : Option Addr} {fl fc ll lc : Nat} {r : IRiv}
set_option maxRecDepth 100000 in
set_option maxHeartbeats 1600000 in
theorem heavy_any (m : Int) (w : World) (hP : RvIn w w.heap.size fa fl la ll r) : Calls Try.prog 12 #[(.agg #[.int .i64 r.depth.lo, .int .i64 r.depth.hi, .int .i64 r.fall.lo, .int .i64 r.fall.hi, .int .i64 r.days, .slice fa fl fc, .slice la ll lc]), .int .i64 m] w fun e w' => (∃ b, e = .returned (.bool b)) ∧ Below w.heap.size w w' := by
  have HP := Lib.hid hP
  have HEF := Lib.hid hP.efl
  clear hP
  obtain ⟨W, hW⟩ : ∃ W, W = w.alloc (.cells #[.int .i64 r.depth.lo, .int .i64 r.depth.hi, .int .i64 r.fall.lo, .int .i64 r.fall.hi, .int .i64 r.days, .slice fa fl fc, .slice la ll lc] 27) := ⟨_, rfl⟩
  have HX : Hid (Blk W w.heap.size 27 #[.int .i64 r.depth.lo, .int .i64 r.depth.hi, .int .i64 r.fall.lo, .int .i64 r.fall.hi, .int .i64 r.days, .slice fa fl fc, .slice la ll lc]) := by rw [hW]; exact Blk.new w 27 _
  have HBW : Hid (Below w.heap.size w W) := by rw [hW]; exact (Below.refl _ _).alloc (Nat.le_refl _) _
  go_enter Try.func12, Try.ntmps12
  go_wp2_with fail
  rw [← hW]
  clear hW
  have q0 := HX.out.cell 0
  have q1 := HX.out.cell 1
  have q2 := HX.out.cell 2
  have q3 := HX.out.cell 3
  have q4 := HX.out.cell 4
  have q5 := HX.out.cell 5
  have q6 := HX.out.cell 6
  have ql := HX.out.lt
  simp at q0 q1 q2 q3 q4 q5 q6
  go_wp2_with fail
  refine (long_any (fa := fa) (la := la) (fc := fc) (lc := lc) (r := r) W HP.out.mfl HP.out.mll).mono ?_
  rintro e X ⟨⟨b, rfl, -⟩, hb⟩
  have HBX : Hid (Below w.heap.size w X) := HBW.out.trans (hb.mono HBW.out.size)
  have HX1 := Lib.hid (HX.out.below hb HX.out.lt)
  clear hb q0 q1 q2 q3 q4 q5 q6 ql HX
  have HX := HX1
  have q0 := HX.out.cell 0
  have q1 := HX.out.cell 1
  have q2 := HX.out.cell 2
  have q3 := HX.out.cell 3
  have q4 := HX.out.cell 4
  have q5 := HX.out.cell 5
  have q6 := HX.out.cell 6
  have ql := HX.out.lt
  simp at q0 q1 q2 q3 q4 q5 q6
  cases b
  case true =>
    go_wp2_with fail
    refine (long_any (fa := fa) (la := la) (fc := fc) (lc := lc) (r := r) X HP.out.mfl HP.out.mll).mono ?_
    rintro e Z ⟨⟨b, rfl, -⟩, hb⟩
    have HBZ : Hid (Below w.heap.size w Z) := HBX.out.trans (hb.mono HBX.out.size)
    clear hb
    go_wp2
    go_ret
    exact ⟨⟨_, rfl⟩, HBZ.out⟩
  go_wp2_with fail
  refine (rriver_any (fc := fc) (lc := lc) X (HP.out.grow HBX.out)).mono ?_
  cases hok : okR r
  · rintro e Y ⟨rfl, hb⟩
    have HBY : Hid (Below w.heap.size w Y) := HBX.out.trans (hb.mono HBX.out.size)
    have HX2 := Lib.hid (HX.out.below hb HX.out.lt)
    clear hb q0 q1 q2 q3 q4 q5 q6 ql HX HX1 hok
    have HX := HX2
    have q0 := HX.out.cell 0
    have q1 := HX.out.cell 1
    have q2 := HX.out.cell 2
    have q3 := HX.out.cell 3
    have q4 := HX.out.cell 4
    have q5 := HX.out.cell 5
    have q6 := HX.out.cell 6
    have ql := HX.out.lt
    simp at q0 q1 q2 q3 q4 q5 q6
    go_wp2_with fail
    refine (long_any (fa := fa) (la := la) (fc := fc) (lc := lc) (r := r) Y HP.out.mfl HP.out.mll).mono ?_
    rintro e Z ⟨⟨b, rfl, -⟩, hb⟩
    have HBZ : Hid (Below w.heap.size w Z) := HBY.out.trans (hb.mono HBY.out.size)
    clear hb
    go_wp2
    go_ret
    exact ⟨⟨_, rfl⟩, HBZ.out⟩
  · have HOK := Lib.hid hok
    obtain ⟨⟨h1, h2, h3, h4, h5⟩, h6, h7⟩ := okR_parts hok
    obtain ⟨a1, a2, a3, a4⟩ := spB_iff.1 h1
    obtain ⟨b1, b2, b3, b4⟩ := spB_iff.1 h2
    have hfl : fl ≤ 3 := by have := HEF.out; omega
    rintro e Y ⟨rfl, hb⟩
    have HBY : Hid (Below w.heap.size w Y) := HBX.out.trans (hb.mono HBX.out.size)
    have HX2 := Lib.hid (HX.out.below hb HX.out.lt)
    have HH6 := Lib.hid h6
    clear hb q0 q1 q2 q3 q4 q5 q6 ql HX HX1 hok h1 h2 h3 h4 h5 h6 h7
    have HX := HX2
    have q0 := HX.out.cell 0
    have q1 := HX.out.cell 1
    have q2 := HX.out.cell 2
    have q3 := HX.out.cell 3
    have q4 := HX.out.cell 4
    have q5 := HX.out.cell 5
    have q6 := HX.out.cell 6
    have ql := HX.out.lt
    simp at q0 q1 q2 q3 q4 q5 q6
    obtain ⟨m1, m2⟩ := mul_bd (a := r.depth.hi - r.depth.lo + 1) (b := r.fall.hi - r.fall.lo + 1) (A := 5) (B := 3) (by omega) (by omega) (by omega) (by omega)
    have hm1 : IntKind.i64.wrap ((r.depth.hi - r.depth.lo + 1) * (r.fall.hi - r.fall.lo + 1)) = (r.depth.hi - r.depth.lo + 1) * (r.fall.hi - r.fall.lo + 1) := IntWalk.i64_in _ (by omega)
    go_wp2
    clear hm1 a1 a2 a3 a4 b1 b2 b3 b4 q0 q1 q2 q3 q4 q5 q6 ql
    go_loopw [5, 37] (fun v i wr => ∃ (k : Nat) (n : Int), k ≤ fl ∧ i = .int .i64 k ∧ v = .int .i64 n ∧ 0 ≤ n ∧ Hid (n ≤ 15 * 16 ^ k) ∧ Hid (Below w.heap.size w wr)) (fun _ i _ => fl - (intOf i).toNat)
    case atStart => exact ⟨0, _, Nat.zero_le _, rfl, rfl, m1, by show _ ≤ _; omega, HBY⟩
    case round =>
      obtain ⟨k, n, hk, rfl, rfl, hn, HN, HBR⟩ := hrel
      clear m1 m2
      by_cases hlt : k < fl
      · obtain ⟨c, hc⟩ : ∃ c, r.fr[k]? = some c := ⟨r.fr[k]'(by have := HEF.out; omega), by simp⟩
        obtain ⟨b, off, rfl, hbl, H0, H1, H2, H3⟩ := rd_frI ((HP.out.grow HBR.out).hfr) k c hc
        have hfr := List.all_eq_true.1 HH6.out c (List.mem_of_getElem? hc)
        unfold frB at hfr
        rw [Bool.and_eq_true] at hfr
        obtain ⟨d1, d2, d3, d4⟩ := spB_iff.1 hfr.1
        obtain ⟨e1, e2, e3, e4⟩ := spB_iff.1 hfr.2
        have gd := inB_iff.1 (okR_parts HOK.out).1.2.2.1
        obtain ⟨⟨c0, c1⟩, ⟨c2, c3⟩⟩ := c
        simp only at H0 H1 H2 H3 d1 d2 d3 d4 e1 e2 e3 e4
        have hd10 : c1 ≤ 10 := by omega
        have hp : (16 : Int) ^ k ≤ 256 := by
          have h1 := Nat.pow_le_pow_right (n := 16) (by omega) (show k ≤ 2 by omega)
          have h2 : ((16 ^ k : Nat) : Int) = 16 ^ k := by push_cast; rfl
          omega
        have hnb : n ≤ 3840 := by have := HN.out; omega
        obtain ⟨t1, t2⟩ := mul_bd (a := c1 - c0 + 1) (b := c3 - c2 + 1) (A := 4) (B := 4) (by omega) (by omega) (by omega) (by omega)
        obtain ⟨t3, t4⟩ := mul_bd (a := n) (b := (c1 - c0 + 1) * (c3 - c2 + 1)) (A := 15 * 16 ^ k) (B := 16) hn HN.out t1 (by omega)
        have hw1 : IntKind.i64.wrap ((c1 - c0 + 1) * (c3 - c2 + 1)) = (c1 - c0 + 1) * (c3 - c2 + 1) := IntWalk.i64_in _ (by omega)
        have hw2 : IntKind.i64.wrap (n * ((c1 - c0 + 1) * (c3 - c2 + 1))) = n * ((c1 - c0 + 1) * (c3 - c2 + 1)) := IntWalk.i64_in _ (by omega)
        have HN2 : Hid (n * ((c1 - c0 + 1) * (c3 - c2 + 1)) ≤ 15 * 16 ^ (k + 1)) := by
          show _ ≤ _
          rw [Int.pow_succ]; omega
        have HT3 := Lib.hid t3
        clear hc hfr gd t1 t2 t3 t4 hp
        go_wp2
        go_roundw
        case rel => exact ⟨k + 1, _, by omega, by go_num, rfl, HT3.out, HN2, (by have hbr := HBR.out; have hsz := hbr.size; show Below _ _ _; exact (by repeat (first | exact Below.refl _ _ | assumption | refine Below.drew ?_ | refine below_drewN ?_ _ | refine Below.alloc ?_ (by (try simp) <;> omega) _ | refine Below.setCell ?_ (by (try simp) <;> omega) _ | refine Below.trans ?_ (Below.mono (by assumption) (by (try simp) <;> omega)))))⟩
        case measure => simp [intOf]; omega
      · obtain rfl : fl = k := by omega
        go_wp2
        go_ret
        exact ⟨⟨_, rfl⟩, HBR.out⟩
end
end Go.Proofs.Ytiodmkokpfgkkaa
