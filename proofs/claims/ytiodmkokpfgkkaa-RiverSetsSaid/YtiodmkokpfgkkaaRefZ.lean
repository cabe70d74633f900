/- The walk of the reference's Clash. No condition. -/
import Derived.Test.YtiodmkokpfgkkaaRefY
namespace Go.Proofs.Ytiodmkokpfgkkaa
open Go.RowKit Go.Hav Go.Shelf Go.Sq
attribute [local go_sem] Oper.semAt_some
theorem clashN_lt {R : Riv} {b : Nat} : ∀ n, clashN R b n < n ∨ clashN R b n = b
  | 0 => .inr rfl
  | n + 1 => by
    rw [clashN]
    split
    · exact .inl (by omega)
    · rcases clashN_lt (R := R) (b := b) n with h | h
      · exact .inl (by omega)
      · exact .inr h
section
variable {fa la : Option Addr} {fl fc ll lc : Nat} {r : IRiv}
set_option maxRecDepth 100000 in
set_option maxHeartbeats 1600000 in
theorem rClash_any (w : World) (hP : RvIn w w.heap.size fa fl la ll r) : Calls Try.prog 29 #[(.agg #[.int .i64 r.depth.lo, .int .i64 r.depth.hi, .int .i64 r.fall.lo, .int .i64 r.fall.hi, .int .i64 r.days, .slice fa fl fc, .slice la ll lc])] w fun e w' => e = .returned (.tuple #[.int .i64 (clashV r), .int .i64 (clashE r)]) ∧ Below w.heap.size w w' := by
  have HP := Lib.hid hP
  have HLL : Hid (r.nat.lk.length = ll) := by show (r.lk.map (·.nat)).length = _; rw [List.length_map]; exact hP.ell
  have HEL := Lib.hid hP.ell
  clear hP
  obtain ⟨V, hV⟩ : ∃ V, clashV r = V := ⟨_, rfl⟩
  obtain ⟨E, hE⟩ : ∃ E, clashE r = E := ⟨_, rfl⟩
  rw [hV, hE]
  have HV := Lib.hid (And.intro hV hE)
  clear hV hE
  obtain ⟨W, hW⟩ : ∃ W, W = w.alloc (.cells #[.int .i64 r.depth.lo, .int .i64 r.depth.hi, .int .i64 r.fall.lo, .int .i64 r.fall.hi, .int .i64 r.days, .slice fa fl fc, .slice la ll lc] 27) := ⟨_, rfl⟩
  have HX : Hid (Blk W w.heap.size 27 #[.int .i64 r.depth.lo, .int .i64 r.depth.hi, .int .i64 r.fall.lo, .int .i64 r.fall.hi, .int .i64 r.days, .slice fa fl fc, .slice la ll lc]) := by rw [hW]; exact Blk.new w 27 _
  have HBW : Hid (Below w.heap.size w W) := by rw [hW]; exact (Below.refl _ _).alloc (Nat.le_refl _) _
  go_enter Try.func29, Try.ntmps29
  go_wp2_with fail
  rw [← hW]
  clear hW
  have q0 := HX.out.cell 0
  have q1 := HX.out.cell 1
  have q2 := HX.out.cell 2
  have q3 := HX.out.cell 3
  have q4 := HX.out.cell 4
  have q5 := HX.out.cell 5
  have q6 := HX.out.cell 6
  have ql := HX.out.lt
  simp at q0 q1 q2 q3 q4 q5 q6
  go_wp2_with fail
  refine (check_any (fc := fc) (lc := lc) true W (HP.out.grow HBW.out)).mono ?_
  cases hok : okR r
  · rintro e X ⟨rfl, hb⟩
    have HE' : Hid (E = 1 ∧ V = 0) := by
      have h1 : clashE r = 1 := by rw [clashE, if_pos hok]
      exact ⟨by rw [← HV.out.2, h1], by rw [← HV.out.1, clashV, if_neg (by rw [h1]; omega)]⟩
    have HBZ : Hid (Below w.heap.size w X) := HBW.out.trans (hb.mono HBW.out.size)
    clear hb hok
    simp only [if_true]
    go_wp2
    go_ret2
    exact ⟨by rw [HE'.out.1, HE'.out.2]; rfl, HBZ.out⟩
  · have HOK := Lib.hid hok
    have h5 : ll ≤ 5 := by have := (okR_parts hok).1.2.2.2.2; have := HEL.out; omega
    rintro e X ⟨rfl, hb⟩
    have HX1 := Lib.hid (HX.out.below hb HX.out.lt)
    have HBX : Hid (Below w.heap.size w X) := HBW.out.trans (hb.mono HBW.out.size)
    clear hb hok q0 q1 q2 q3 q4 q5 q6 ql HX
    have HX := HX1
    have q0 := HX.out.cell 0
    have q1 := HX.out.cell 1
    have q2 := HX.out.cell 2
    have q3 := HX.out.cell 3
    have q4 := HX.out.cell 4
    have q5 := HX.out.cell 5
    have q6 := HX.out.cell 6
    have ql := HX.out.lt
    simp at q0 q1 q2 q3 q4 q5 q6
    simp only [Bool.true_eq_false, if_false]
    go_wp2_with fail
    refine (rtruths_any (fc := fc) (lc := lc) HOK.out X (HP.out.grow HBX.out)).mono ?_
    rintro e Y ⟨A, c, rfl, -, hb⟩
    rw [show truthsP r.nat (full ll) = truthsA r.nat by rw [truthsA, HLL.out]]
    have HX2 := Lib.hid (HX.out.below hb HX.out.lt)
    have HBY : Hid (Below w.heap.size w Y) := HBX.out.trans (hb.mono HBX.out.size)
    clear hb q0 q1 q2 q3 q4 q5 q6 ql HX HX1
    have HX := HX2
    have q0 := HX.out.cell 0
    have q1 := HX.out.cell 1
    have q2 := HX.out.cell 2
    have q3 := HX.out.cell 3
    have q4 := HX.out.cell 4
    have q5 := HX.out.cell 5
    have q6 := HX.out.cell 6
    have ql := HX.out.lt
    simp at q0 q1 q2 q3 q4 q5 q6
    obtain ⟨N, hN⟩ : ∃ N, (truthsA r.nat).length = N := ⟨_, rfl⟩
    rw [hN]
    by_cases h0 : N = 0
    case neg =>
      have HE' : Hid (E = 4 ∧ V = 0) := by
        have h1 : clashE r = 4 := by rw [clashE, if_neg (by rw [HOK.out]; simp), if_neg (fun e => h0 (by rw [← hN, e]; rfl))]
        exact ⟨by rw [← HV.out.2, h1], by rw [← HV.out.1, clashV, if_neg (by rw [h1]; omega)]⟩
      have h0' : 0 < N := by omega
      clear hN h0
      go_wp2
      go_ret2
      exact ⟨by rw [HE'.out.1, HE'.out.2]; rfl, HBY.out⟩
    obtain ⟨F, hF⟩ : ∃ F, full ll = F := ⟨_, rfl⟩
    have HE' : Hid (E = 0 ∧ V = clashN r.nat F (F + 1)) := by
      have h1 : clashE r = 0 := by rw [clashE, if_neg (by rw [HOK.out]; simp), if_pos (List.eq_nil_of_length_eq_zero (by rw [hN, h0]))]
      exact ⟨by rw [← HV.out.2, h1], by rw [← HV.out.1, clashV, if_pos h1, clashP, HLL.out, hF]⟩
    have hF32 : F < 32 := by rw [← hF]; have := Nat.pow_le_pow_right (n := 2) (by omega) h5; unfold full; omega
    have HEV : Hid (∀ wv : World, Calls Try.prog 93 #[(.agg #[.int .i64 r.depth.lo, .int .i64 r.depth.hi, .int .i64 r.fall.lo, .int .i64 r.fall.hi, .int .i64 r.days, .slice fa fl fc, .slice la ll lc])] wv fun e w' => e = .returned (.int .i64 (F : Nat)) ∧ Below wv.heap.size wv w') := fun wv => by
      have h := revery_any (fa := fa) (la := la) (fl := fl) (fc := fc) (lc := lc) (r := r) h5 wv
      rwa [hF] at h
    subst h0
    clear hN hF
    go_wp2_with fail
    refine (HEV.out Y).mono ?_
    rintro e Z ⟨rfl, hb⟩
    have HX3 := Lib.hid (HX.out.below hb HX.out.lt)
    have HBZ : Hid (Below w.heap.size w Z) := HBY.out.trans (hb.mono HBY.out.size)
    clear hb q0 q1 q2 q3 q4 q5 q6 ql HX HX2
    go_wp2
    go_loopw [5, 6] (fun o i wr => ∃ (k b : Nat), k ≤ F + 1 ∧ i = .int .i64 k ∧ o = .int .i64 b ∧ Hid (clashN r.nat F k = b) ∧ b < 32 ∧ Hid (Below Z.heap.size Z wr)) (fun _ i _ => F + 1 - (intOf i).toNat)
    case atStart => exact ⟨0, F, Nat.zero_le _, rfl, rfl, rfl, hF32, Below.refl _ _⟩
    case round =>
      obtain ⟨k, b, hk, rfl, rfl, HB, hb32, HBR⟩ := hrel
      have HX := Lib.hid (HX3.out.below HBR.out HX3.out.lt)
      have HBWR : Hid (Below w.heap.size w wr) := HBZ.out.trans (HBR.out.mono HBZ.out.size)
      have q0 := HX.out.cell 0
      have q1 := HX.out.cell 1
      have q2 := HX.out.cell 2
      have q3 := HX.out.cell 3
      have q4 := HX.out.cell 4
      have q5 := HX.out.cell 5
      have q6 := HX.out.cell 6
      have ql := HX.out.lt
      simp at q0 q1 q2 q3 q4 q5 q6
      go_wp2_with fail
      refine (HEV.out wr).mono ?_
      rintro e Z1 ⟨rfl, hb⟩
      have HX4 := Lib.hid (HX.out.below hb HX.out.lt)
      have HB1 : Hid (Below Z.heap.size Z Z1) := HBR.out.trans (hb.mono HBR.out.size)
      have HBW1 : Hid (Below w.heap.size w Z1) := HBWR.out.trans (hb.mono HBWR.out.size)
      clear hb q0 q1 q2 q3 q4 q5 q6 ql HX
      have HX := HX4
      have q0 := HX.out.cell 0
      have q1 := HX.out.cell 1
      have q2 := HX.out.cell 2
      have q3 := HX.out.cell 3
      have q4 := HX.out.cell 4
      have q5 := HX.out.cell 5
      have q6 := HX.out.cell 6
      have ql := HX.out.lt
      simp at q0 q1 q2 q3 q4 q5 q6
      by_cases hlt : k ≤ F
      · obtain ⟨sk, hsk⟩ : ∃ x, sizeP k = x := ⟨_, rfl⟩
        obtain ⟨sb, hsb⟩ : ∃ x, sizeP b = x := ⟨_, rfl⟩
        have HSK : Hid (∀ wv : World, Calls Try.prog 42 #[.int .i64 k] wv fun e w' => e = .returned (.int .i64 sk) ∧ w' = wv) := fun wv => by have h := rsize_any k (by omega) wv; rwa [hsk] at h
        have HSB : Hid (∀ wv : World, Calls Try.prog 42 #[.int .i64 b] wv fun e w' => e = .returned (.int .i64 sb) ∧ w' = wv) := fun wv => by have h := rsize_any b hb32 wv; rwa [hsb] at h
        have HNX : Hid (clashN r.nat F (k + 1) = if clashB r.nat k = true ∧ sk < sb then k else b) := by show _ = _; rw [clashN, HB.out, hsk, hsb]
        have hk32 : k < 32 := by omega
        clear hsk hsb
        go_wp2_with fail
        refine (HSK.out _).mono ?_
        rintro e w5 ⟨rfl, rfl⟩
        go_wp2_with fail
        refine (HSB.out _).mono ?_
        rintro e w5 ⟨rfl, rfl⟩
        by_cases hs : sk < sb
        case neg =>
          have HN : Hid (clashN r.nat F (k + 1) = b) := by show _ = _; rw [HNX.out, if_neg (fun h => hs h.2)]
          have hd : decide ((sk : Int) < (sb : Int)) = false := by simp; omega
          go_wp2
          go_roundw
          case rel => exact ⟨k + 1, b, by omega, by go_num, rfl, HN, hb32, HB1⟩
          case measure => simp [intOf]; omega
        have hs' : (sk : Int) < (sb : Int) := by omega
        go_wp2_with fail
        refine (truths_any (fc := fc) (lc := lc) HOK.out hk32 _ (HP.out.grow HBW1.out)).mono ?_
        rintro e Z2 ⟨A2, c2, rfl, -, hb⟩
        have HB2 : Hid (Below Z.heap.size Z Z2) := HB1.out.trans (hb.mono HB1.out.size)
        obtain ⟨M, hM⟩ : ∃ M, (truthsP r.nat k).length = M := ⟨_, rfl⟩
        rw [hM]
        clear hb q0 q1 q2 q3 q4 q5 q6 ql
        by_cases hm : M = 0
        · have HN : Hid (clashN r.nat F (k + 1) = k) := by
            show _ = _
            rw [HNX.out, if_pos ⟨by rw [clashB, List.isEmpty_iff]; exact List.eq_nil_of_length_eq_zero (by rw [hM, hm]), hs⟩]
          subst hm
          clear hM
          go_wp2
          go_roundw
          case rel => exact ⟨k + 1, k, by omega, by go_num, rfl, HN, hk32, HB2⟩
          case measure => simp [intOf]; omega
        · have HN : Hid (clashN r.nat F (k + 1) = b) := by
            show _ = _
            rw [HNX.out, if_neg (fun h => hm (by
              have h1 := h.1
              rw [clashB, List.isEmpty_iff] at h1
              rw [← hM, h1]; rfl))]
          have hd : ((M : Int) == 0) = false := by simp; omega
          clear hM
          go_wp2
          go_roundw
          case rel => exact ⟨k + 1, b, by omega, by go_num, rfl, HN, hb32, HB2⟩
          case measure => simp [intOf]; omega
      · obtain rfl : k = F + 1 := by omega
        have HN : Hid (V = b) := by show _ = _; rw [HE'.out.2, HB.out]
        have hd : decide (((F + 1 : Nat) : Int) ≤ (F : Int)) = false := by simp; omega
        clear hlt
        go_wp2
        go_ret2
        exact ⟨by rw [HN.out, HE'.out.1]; rfl, HBW1.out⟩
end
end Go.Proofs.Ytiodmkokpfgkkaa
