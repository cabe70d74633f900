/- The laws' press and line; awake: what the document fixes of them. No condition. TopLine: both lines against what is so; awake at the end. Conditions: what the frame holds. TopLine: what all, the line and the proof say of the line of which all was looked at. Conditions: what the frame holds. TopLine: all that was pressed and all that waits are the fleeces; what follows where nothing was pressed. Conditions: what the frame holds. The walk of TopLine: for every press, bounds and numbers it answers true; conditions: what the types say. -/
import Derived.Test.YtbfjebglaimcmaaLawT0
import Derived.Test.YtbfjebglaimcmaaLawA
import Derived.Test.YtbfjebglaimcmaaClsWX
import Derived.Test.YtbfjebglaimcmaaClsSV
import Derived.Test.YtbfjebglaimcmaaLawT4
namespace Go.Proofs.Ytbfjebglaimcmaa
open Go.RowKit Go.Hav Go.Sq
theorem lineA_ok : ClsOk lineA := ⟨by decide, by decide, by decide, by decide, by decide, fun b hb => by simp [lineA] at hb; rcases hb with rfl | rfl | rfl <;> (constructor <;> decide)⟩
section
set_option maxRecDepth 100000 in
set_option maxHeartbeats 1600000 in
theorem press08_any (w : World) :
    Calls Try.prog 83 #[] w fun e w' => (∃ g, e = .returned (pressV (some ⟨g, 0, none⟩) 6 6 9 12 3 none 0 0) ∧ PressIn w' w'.heap.size (some ⟨g, 0, none⟩) 6 9 12 3 none 0 (sampD [])) ∧ Below w.heap.size w w' := by
  go_enter Try.func83, Try.ntmps83
  go_wp2_with fail
  refine (span46_any _ _ _).mono ?_; rintro e w1 ⟨rfl, hb1⟩
  have HZ1 : Hid (Blk w1 w.heap.size 25 #[.slice none 0 0, .int .i64 0, .int .i64 0, .int .i64 0, .slice none 0 0]) := (Blk.new_ rfl _ _).below hb1 (by simp)
  have HB1 : Hid (Below w.heap.size w w1) := ((Below.refl w.heap.size w).alloc (Nat.le_refl _) _).trans (hb1.mono (by simp))
  clear hb1
  go_wp2_with fail
  refine (span46_any _ _ _).mono ?_; rintro e w2 ⟨rfl, hb2⟩
  have HZ2 := Lib.hid (HZ1.out.below hb2 HZ1.out.lt)
  have HB2 : Hid (Below w.heap.size w w2) := HB1.out.trans (hb2.mono HB1.out.size)
  clear hb2
  go_wp2_with fail
  refine (span46_any _ _ _).mono ?_; rintro e w3 ⟨rfl, hb3⟩
  have HZ3 := Lib.hid (HZ2.out.below hb3 HZ2.out.lt)
  have HB3 : Hid (Below w.heap.size w w3) := HB2.out.trans (hb3.mono HB2.out.size)
  clear hb3
  go_wp2_with fail
  refine (span46_any _ _ _).mono ?_; rintro e w4 ⟨rfl, hb4⟩
  have HZ4 := Lib.hid (HZ3.out.below hb4 HZ3.out.lt)
  have HB4 : Hid (Below w.heap.size w w4) := HB3.out.trans (hb4.mono HB3.out.size)
  clear hb4
  go_wp2_with fail
  refine (span46_any _ _ _).mono ?_; rintro e w5 ⟨rfl, hb5⟩
  have HZ5 := Lib.hid (HZ4.out.below hb5 HZ4.out.lt)
  have HB5 : Hid (Below w.heap.size w w5) := HB4.out.trans (hb5.mono HB4.out.size)
  clear hb5
  go_wp2_with fail
  refine (span46_any _ _ _).mono ?_; rintro e w6 ⟨rfl, hb6⟩
  have HZ6 := Lib.hid (HZ5.out.below hb6 HZ5.out.lt)
  have HB6 : Hid (Below w.heap.size w w6) := HB5.out.trans (hb6.mono HB5.out.size)
  clear hb6
  have hz0 := HZ6.out.cell 0
  have hz1 := HZ6.out.cell 1
  have hz2 := HZ6.out.cell 2
  have hz3 := HZ6.out.cell 3
  have hz4 := HZ6.out.cell 4
  have fz0 := HZ6.out.frozen 0
  have fz1 := HZ6.out.frozen 1
  have fz2 := HZ6.out.frozen 2
  have fz3 := HZ6.out.frozen 3
  have fz4 := HZ6.out.frozen 4
  simp at hz0 hz1 hz2 hz3 hz4
  have hlt := HZ6.out.lt
  go_wp2
  have KZ := (((((HZ6.out.set_ 0 (.slice (some ⟨w6.heap.size, 0, none⟩) 6 6)).set_ 1 (.int .i64 9)).set_ 2 (.int .i64 12)).set_ 3 (.int .i64 3)).set_ 4 (.slice none 0 0)).alloc (.cells #[.int .i64 4, .int .i64 5, .int .i64 0, .int .i64 5, .int .i64 5, .int .i64 0, .int .i64 3, .int .i64 4, .int .i64 0, .int .i64 6, .int .i64 7, .int .i64 1, .int .i64 4, .int .i64 4, .int .i64 1, .int .i64 2, .int .i64 3, .int .i64 0] 58)
  have KF : Blk ((((((w6.setCell ⟨w.heap.size, 0, none⟩ (.slice (some ⟨w6.heap.size, 0, none⟩) 6 6)).setCell ⟨w.heap.size, 1, none⟩ (.int .i64 9)).setCell ⟨w.heap.size, 2, none⟩ (.int .i64 12)).setCell ⟨w.heap.size, 3, none⟩ (.int .i64 3)).setCell ⟨w.heap.size, 4, none⟩ (.slice none 0 0)).alloc (.cells #[.int .i64 4, .int .i64 5, .int .i64 0, .int .i64 5, .int .i64 5, .int .i64 0, .int .i64 3, .int .i64 4, .int .i64 0, .int .i64 6, .int .i64 7, .int .i64 1, .int .i64 4, .int .i64 4, .int .i64 1, .int .i64 2, .int .i64 3, .int .i64 0] 58)) w6.heap.size 58 #[.int .i64 4, .int .i64 5, .int .i64 0, .int .i64 5, .int .i64 5, .int .i64 0, .int .i64 3, .int .i64 4, .int .i64 0, .int .i64 6, .int .i64 7, .int .i64 1, .int .i64 4, .int .i64 4, .int .i64 1, .int .i64 2, .int .i64 3, .int .i64 0] := Blk.new_ (by simp) 58 _
  have KB := (setCell_below (setCell_below (setCell_below (setCell_below (setCell_below HB6.out (Nat.le_refl _) 0 (.slice (some ⟨w6.heap.size, 0, none⟩) 6 6)) (Nat.le_refl _) 1 (.int .i64 9)) (Nat.le_refl _) 2 (.int .i64 12)) (Nat.le_refl _) 3 (.int .i64 3)) (Nat.le_refl _) 4 (.slice none 0 0)).alloc (by simp; omega) (.cells #[.int .i64 4, .int .i64 5, .int .i64 0, .int .i64 5, .int .i64 5, .int .i64 0, .int .i64 3, .int .i64 4, .int .i64 0, .int .i64 6, .int .i64 7, .int .i64 1, .int .i64 4, .int .i64 4, .int .i64 1, .int .i64 2, .int .i64 3, .int .i64 0] 58)
  generalize ((((((w6.setCell ⟨w.heap.size, 0, none⟩ (.slice (some ⟨w6.heap.size, 0, none⟩) 6 6)).setCell ⟨w.heap.size, 1, none⟩ (.int .i64 9)).setCell ⟨w.heap.size, 2, none⟩ (.int .i64 12)).setCell ⟨w.heap.size, 3, none⟩ (.int .i64 3)).setCell ⟨w.heap.size, 4, none⟩ (.slice none 0 0)).alloc (.cells #[.int .i64 4, .int .i64 5, .int .i64 0, .int .i64 5, .int .i64 5, .int .i64 0, .int .i64 3, .int .i64 4, .int .i64 0, .int .i64 6, .int .i64 7, .int .i64 1, .int .i64 4, .int .i64 4, .int .i64 1, .int .i64 2, .int .i64 3, .int .i64 0] 58)) = W at *
  have k0 := KZ.cell 0
  have k1 := KZ.cell 1
  have k2 := KZ.cell 2
  have k3 := KZ.cell 3
  have k4 := KZ.cell 4
  simp at k0 k1 k2 k3 k4
  refine bodyPost_ret (v := pressV (some ⟨w6.heap.size, 0, none⟩) 6 6 9 12 3 none 0 0) (by simp [results, Try.results83, go_sem, k0, k1, k2, k3, k4, pressV]) rfl ⟨⟨w6.heap.size, rfl, ?_⟩, KB⟩
  exact ⟨rfl, rfl, rfl, rfl, rfl, by omega, by omega, RdG.of_blk (t := 58) flF_len KF KF.lt, RdG.nil _ _ _ _ _⟩
set_option maxRecDepth 100000 in
set_option maxHeartbeats 1600000 in
theorem line08_any (w : World) : Calls Try.prog 84 #[] w fun e w' => (∃ g, e = .returned (.agg (clsC (some ⟨g, 0, none⟩) 3 lineA)) ∧ ClsIn w' w'.heap.size (some ⟨g, 0, none⟩) lineA) ∧ Below w.heap.size w w' := by
  go_enter Try.func84, Try.ntmps84
  go_wp2
  have KF : Blk ((w.alloc (.cells #[.slice (some ⟨w.heap.size + 1, 0, none⟩) 3 3, .int .i64 2, .int .i64 2, .int .i64 1] 75)).alloc (.cells #[.int .i64 10, .int .i64 4, .int .i64 1, .int .i64 10, .int .i64 5, .int .i64 0, .int .i64 8, .int .i64 8, .int .i64 3] 77)) (w.heap.size + 1) 77 (lineA.bl.flatMap blF).toArray := Blk.new_ (by simp) 77 _
  have KZ : Blk ((w.alloc (.cells #[.slice (some ⟨w.heap.size + 1, 0, none⟩) 3 3, .int .i64 2, .int .i64 2, .int .i64 1] 75)).alloc (.cells #[.int .i64 10, .int .i64 4, .int .i64 1, .int .i64 10, .int .i64 5, .int .i64 0, .int .i64 8, .int .i64 8, .int .i64 3] 77)) w.heap.size 75 #[.slice (some ⟨w.heap.size + 1, 0, none⟩) 3 3, .int .i64 2, .int .i64 2, .int .i64 1] := (Blk.new w 75 _).alloc _
  have KB : Below w.heap.size w ((w.alloc (.cells #[.slice (some ⟨w.heap.size + 1, 0, none⟩) 3 3, .int .i64 2, .int .i64 2, .int .i64 1] 75)).alloc (.cells #[.int .i64 10, .int .i64 4, .int .i64 1, .int .i64 10, .int .i64 5, .int .i64 0, .int .i64 8, .int .i64 8, .int .i64 3] 77)) := ((Below.refl _ _).alloc (Nat.le_refl _) _).alloc (by simp) _
  generalize ((w.alloc (.cells #[.slice (some ⟨w.heap.size + 1, 0, none⟩) 3 3, .int .i64 2, .int .i64 2, .int .i64 1] 75)).alloc (.cells #[.int .i64 10, .int .i64 4, .int .i64 1, .int .i64 10, .int .i64 5, .int .i64 0, .int .i64 8, .int .i64 8, .int .i64 3] 77)) = W at *
  have k0 := KZ.cell 0
  have k1 := KZ.cell 1
  have k2 := KZ.cell 2
  have k3 := KZ.cell 3
  simp at k0 k1 k2 k3
  refine bodyPost_ret (v := .agg #[.slice (some ⟨w.heap.size + 1, 0, none⟩) 3 3, .int .i64 2, .int .i64 2, .int .i64 1]) (by simp [results, Try.results84, go_sem, k0, k1, k2, k3]) rfl ⟨⟨w.heap.size + 1, rfl, lineA_ok, RdG.of_blk (t := 77) blF_len KF KF.lt, Nat.le_refl _⟩, KB⟩
theorem eq2_A (w : World) : (Op.equalIn 10000 29 (.agg #[.int .i64 3, .int .i64 16]) (.agg #[.int .i64 3, .int .i64 16])).run Try.prog w = .ok true w := by kernel_rfl
set_option maxRecDepth 100000 in
set_option maxHeartbeats 6400000 in
theorem awake08_any (w : World) : Calls Try.prog 44 #[] w fun e w' => e = .returned (.bool true) ∧ Below w.heap.size w w' := by
  go_enter Try.func44, Try.ntmps44
  go_wp2_with fail
  refine (press08_any w).mono ?_
  rintro e w1 ⟨⟨g1, rfl, hp1⟩, hb1⟩
  have HP1 := Lib.hid hp1
  have HB1 := Lib.hid hb1
  clear hp1 hb1
  go_wp2_with fail
  refine (PPlan_any (p := sampD []) w1 (by exact HP1.out)).mono ?_
  rw [show planE (sampD []) = 0 from sq_plan, show intsP (sampD []) = [24, 37] from sq_ints]
  rintro e w2 ⟨vl, rfl, hown, hb2⟩
  have HB2 : Hid (Below w.heap.size w w2) := HB1.out.trans (hb2.mono HB1.out.size)
  obtain ⟨Al, cl, hvl, hrl, _⟩ := own_rd inF_len (by decide) hown
  simp only [List.length_cons, List.length_nil, Nat.reduceAdd] at hvl
  subst hvl
  have HL2 := Lib.hid hrl
  clear hrl hown hb2
  go_wp2_with fail
  refine (press08_any w2).mono ?_
  rintro e w3 ⟨⟨g3, rfl, hp3⟩, hb3⟩
  have HP3 := Lib.hid hp3
  have HB3 : Hid (Below w.heap.size w w3) := HB2.out.trans (hb3.mono HB2.out.size)
  have HL3 := Lib.hid (HL2.out.grow hb3)
  clear hp3 hb3
  go_wp2_with fail
  refine (PWait_any (p := sampD []) w3 (by exact HP3.out)).mono ?_
  rw [show waitR (sampD []) = .tuple #[.agg #[.int .i64 1, .int .i64 0, .int .i64 0], .int .i64 0] from sq_wait]
  rintro e w4 ⟨rfl, hb4⟩
  have HB4 : Hid (Below w.heap.size w w4) := HB3.out.trans (hb4.mono HB3.out.size)
  have HL4 := Lib.hid (HL3.out.grow hb4)
  clear hb4
  go_upto_region 3 with fail
  obtain ⟨V4, hV4⟩ : ∃ V, V = w4.alloc (.cells #[.int .i64 1, .int .i64 0, .int .i64 0] 41) := ⟨_, rfl⟩
  have HJ4 : Hid (Blk V4 w4.heap.size 41 #[.int .i64 1, .int .i64 0, .int .i64 0]) := by rw [hV4]; exact Blk.new w4 41 _
  have HY4 : Hid (Below w4.heap.size w4 V4) := by rw [hV4]; exact (Below.refl _ _).alloc (Nat.le_refl _) _
  rw [← hV4]
  clear hV4
  have HBV4 : Hid (Below w.heap.size w V4) := HB4.out.trans (HY4.out.mono HB4.out.size)
  have HLV4 := Lib.hid (HL4.out.grow HY4.out)
  go_wp2_with fail
  refine (line08_any V4).mono ?_
  rintro e w5 ⟨⟨g5, rfl, hc5⟩, hb5⟩
  have HC5 := Lib.hid hc5
  have HB5 : Hid (Below w.heap.size w w5) := HBV4.out.trans (hb5.mono HBV4.out.size)
  have HL5 := Lib.hid (HLV4.out.grow hb5)
  have HJ5 := Lib.hid (HJ4.out.below hb5 HJ4.out.lt)
  clear hc5 hb5
  go_wp2_with fail
  refine (CAll_any w5 HC5.out (by decide +kernel)).mono ?_
  rw [allA]
  rintro e w6 ⟨rfl, hb6⟩
  have HB6 : Hid (Below w.heap.size w w6) := HB5.out.trans (hb6.mono HB5.out.size)
  have HL6 := Lib.hid (HL5.out.grow hb6)
  have HJ6 := Lib.hid (HJ5.out.below hb6 HJ5.out.lt)
  clear hb6
  unfold spI encO
  simp only
  go_upto_region 4 with fail
  obtain ⟨V6, hV6⟩ : ∃ V, V = w6.alloc (.cells #[.int .i64 3, .int .i64 16] 29) := ⟨_, rfl⟩
  have HK6 : Hid (Blk V6 w6.heap.size 29 #[.int .i64 3, .int .i64 16]) := by rw [hV6]; exact Blk.new w6 29 _
  have HY6 : Hid (Below w6.heap.size w6 V6) := by rw [hV6]; exact (Below.refl _ _).alloc (Nat.le_refl _) _
  have HBV6 : Hid (Below w.heap.size w V6) := HB6.out.trans (HY6.out.mono HB6.out.size)
  have HLV6 := Lib.hid (HL6.out.grow HY6.out)
  have HJV6 := Lib.hid (HJ6.out.below HY6.out HJ6.out.lt)
  rw [← hV6]
  clear hV6
  go_wp2_with fail
  refine (line08_any V6).mono ?_
  rintro e w7 ⟨⟨g7, rfl, hc7⟩, hb7⟩
  have HC7 := Lib.hid hc7
  have HB7 : Hid (Below w.heap.size w w7) := HBV6.out.trans (hb7.mono HBV6.out.size)
  have HL7 := Lib.hid (HLV6.out.grow hb7)
  have HJ7 := Lib.hid (HJV6.out.below hb7 HJV6.out.lt)
  have HK7 := Lib.hid (HK6.out.below hb7 HK6.out.lt)
  clear hc7 hb7
  go_wp2_with fail
  refine (CMore_A w7 HC7.out).mono ?_
  rintro e w8 ⟨rfl, hb8⟩
  have HB8 : Hid (Below w.heap.size w w8) := HB7.out.trans (hb8.mono HB7.out.size)
  have HL8 := Lib.hid (HL7.out.grow hb8)
  have HJ8 := Lib.hid (HJ7.out.below hb8 HJ7.out.lt)
  have HK8 := Lib.hid (HK7.out.below hb8 HK7.out.lt)
  clear hb8
  have he3 := eq3_one
  have he2 := eq2_A
  go_upto_region 5 with fail
  refine wp_region_havoc [(0,false),(1,true),(2,false),(3,false),(4,false),(5,false),(6,false),(7,false),(8,false),(9,false),(10,false),(11,false),(12,false),(13,false),(14,false),(15,false),(16,false),(17,false),(18,false),(19,false),(20,false),(21,false),(22,false),(23,false),(24,false),(25,false),(26,false),(27,false),(28,false),(29,false),(30,false),(31,false),(32,false)] [33] (fun _ _ => False) (by kernel_rfl) (by kernel_rfl) (fun _ _ _ _ h => h.elim) ?_
  (apply hav_same (by simp only [List.getElem?_toArray, List.getElem?_cons_zero]; rfl) (by kernel_rfl); (focus (intro wv hgv _; have hcv : ∀ b o, b < _ → wv.cell? ⟨b, o, none⟩ = _ := fun b o hb => Below.cell hgv (p := ⟨b, o, none⟩) hb; (try go_simp); try rfl; done)); simp only [Act.put, List.setIfInBounds_toArray, List.set_cons_succ, List.set_cons_zero])
  (apply hav_new (fun g => .slice (some ⟨g, 0, none⟩) 2 2) (.cells #[.int .i64 24, .int .i64 37] 3) (by simp only [List.getElem?_toArray, List.getElem?_cons_succ, List.getElem?_cons_zero]; rfl) (by kernel_rfl); (focus (intro wv hgv _; have hcv : ∀ b o, b < _ → wv.cell? ⟨b, o, none⟩ = _ := fun b o hb => Below.cell hgv (p := ⟨b, o, none⟩) hb; (try go_simp); try rfl; done)); intro v; simp only [Act.put, List.setIfInBounds_toArray, List.set_cons_succ, List.set_cons_zero])
  apply hav_call (by simp only [List.getElem?_toArray, List.getElem?_cons_succ, List.getElem?_cons_zero]; rfl) (by kernel_rfl)
  focus (intro wv; go_simp; try exact ⟨rfl, rfl⟩; done)
  focus (intro wv hgv hF; obtain ⟨_, g, hv, hB, hh⟩ := hF; subst hv; have hq := ints_any (A := Al) (n := 2) (c := cl) (l := [24, 37]) (A2 := some ⟨g, 0, none⟩) (n2 := 2) (c2 := 2) (l2 := [24, 37]) (by omega) rfl (by omega) rfl wv (HL8.out.grow hgv) (RdG.of_blk (t := 3) inF_len hh (Array.getElem?_eq_some_iff.1 hh).1); rw [decide_eq_true rfl] at hq; exact hq)
  simp only [Act.put, List.setIfInBounds_toArray, List.set_cons_succ, List.set_cons_zero]
  iterate 15 (apply hav_same (by simp only [List.getElem?_toArray, List.getElem?_cons_succ, List.getElem?_cons_zero]; rfl) (by kernel_rfl); (focus (intro wv hgv _; have hcv : ∀ b o, b < _ → wv.cell? ⟨b, o, none⟩ = _ := fun b o hb => Below.cell hgv (p := ⟨b, o, none⟩) hb; have hj := HJ8.out.below hgv HJ8.out.lt; have j0 := hj.cell 0; have j1 := hj.cell 1; have j2 := hj.cell 2; have jl := hj.lt; have hk := HK8.out.below hgv HK8.out.lt; have k0 := hk.cell 0; have k1 := hk.cell 1; have kl := hk.lt; (simp at j0 j1 j2 k0 k1); (try go_simp); try rfl; done)); simp only [Act.put, List.setIfInBounds_toArray, List.set_cons_succ, List.set_cons_zero])
  (apply hav_call (by simp only [List.getElem?_toArray, List.getElem?_cons_succ, List.getElem?_cons_zero]; rfl) (by kernel_rfl); (focus (intro wv; go_simp; try exact ⟨rfl, rfl⟩; done)); (focus (intro wv hgv _; exact span46_any 3 16 wv; done)); simp only [Act.put, List.setIfInBounds_toArray, List.set_cons_succ, List.set_cons_zero])
  iterate 14 (apply hav_same (by simp only [List.getElem?_toArray, List.getElem?_cons_succ, List.getElem?_cons_zero]; rfl) (by kernel_rfl); (focus (intro wv hgv _; have hcv : ∀ b o, b < _ → wv.cell? ⟨b, o, none⟩ = _ := fun b o hb => Below.cell hgv (p := ⟨b, o, none⟩) hb; (try go_simp); try rfl; done)); simp only [Act.put, List.setIfInBounds_toArray, List.set_cons_succ, List.set_cons_zero])
  refine hav_end (fun w9 hgw9 _ => ?_); simp only [List.filterMap]; have hcw9 : ∀ b o, b < _ → w9.cell? ⟨b, o, none⟩ = _ := fun b o hb => Below.cell hgw9 (p := ⟨b, o, none⟩) hb; have hfw9 : ∀ b o, b < _ → w9.frozen? ⟨b, o, none⟩ = _ := fun b o hb => Below.frozen hgw9 (p := ⟨b, o, none⟩) hb; have hzw9 := Below.size hgw9; (try simp at hzw9)
  have HB9 : Hid (Below w.heap.size w w9) := HB8.out.trans (hgw9.mono HB8.out.size)
  clear hgw9 hcw9 hfw9
  go_wp2
  go_ret
  exact ⟨rfl, HB9.out⟩
end
end Go.Proofs.Ytbfjebglaimcmaa
namespace Go.Proofs.Ytbfjebglaimcmaa
open Go.RowKit Go.Hav Go.Sq
attribute [local go_sem] Oper.semAt_some
/-- Both lines and what waits truly, as the questions read them. -/
structure TopE (w K : World) (gc gs may : Nat) (xs : List TopB) (A1 A2 A3 : Option Addr) (c1 c2 : Nat) : Prop where
  bw : Below w.heap.size w K
  hc : Blk K gc 75 (clsC A1 c1 (justC may xs))
  hs : Blk K gs 75 (clsC A2 c2 (seenC may xs))
  ok1 : ClsOk (justC may xs)
  ok2 : ClsOk (seenC may xs)
  rc : RdG blF 3 K K.heap.size A1 (justC may xs).bl
  rs : RdG blF 3 K K.heap.size A2 (seenC may xs).bl
  rk : RdG natF 1 K K.heap.size A3 (xs.map (·.k))
section
variable {w K K' : World} {gc gs may c1 c2 : Nat} {xs : List TopB} {A1 A2 A3 : Option Addr}
theorem TopE.grow (h : TopE w K gc gs may xs A1 A2 A3 c1 c2) (hb : Below K.heap.size K K') : TopE w K' gc gs may xs A1 A2 A3 c1 c2 :=
  { h with bw := h.bw.trans (hb.mono h.bw.size), hc := h.hc.below hb h.hc.lt, hs := h.hs.below hb h.hs.lt, rc := h.rc.grow hb, rs := h.rs.grow hb, rk := h.rk.grow hb }
theorem TopE.just (h : TopE w K gc gs may xs A1 A2 A3 c1 c2) : ClsIn K K.heap.size A1 (justC may xs) := ⟨h.ok1, h.rc, Nat.le_refl _⟩
theorem TopE.seen (h : TopE w K gc gs may xs A1 A2 A3 c1 c2) : ClsIn K K.heap.size A2 (seenC may xs) := ⟨h.ok2, h.rs, Nat.le_refl _⟩
/-- What the law says of each bale. -/
def TopE.Law (may : Nat) (xs : List TopB) : Prop := mistakenC (seenC may xs) (fun _ => true) ≤ (seenC may xs).mis ∧ ∀ (i : Nat) (b : Bl) (k : Nat), (seenC may xs).bl[i]? = some b → (xs.map (·.k))[i]? = some k → ((wrongC (seenC may xs) i b).1 ≤ k ∧ k ≤ (wrongC (seenC may xs) i b).2) ∧ (toldC may (wrongC (seenC may xs) i b) = 2 → k ≤ may) ∧ (toldC may (wrongC (seenC may xs) i b) = 0 → may < k)
set_option maxRecDepth 100000 in
set_option maxHeartbeats 6400000 in
theorem top19 {n lc : Nat} (hE : TopE w K gc gs may xs A1 A2 A3 c1 c2) (hl : xs.length = n) (hn5 : n ≤ 5) (hlaw : TopE.Law may xs)
    {s0 s1 s2 s3 s4 s5 s6 s7 s8 s9 s10 s11 s12 s13 s16 s17 s18 s20 s21 s22 s23 s24 s25 s26 s27 s28 s29 s30 s31 s32 s33 s34 s35 s36 s37 s38 s39 s40 s41 s42 s43 s44 s45 s46 s47 s48 s49 s50 s51 s52 s53 s54 s55 s56 s57 s58 s59 s60 s61 s62 s63 s64 s65 s66 s67 s68 s69 s70 s71 s72 s73 s74 s75 s76 s77 s78 s79 s80 s81 s82 s83 s84 s85 s86 s87 s88 s89 s90 s91 s92 s93 s94 s95 s96 s97 s98 s99 s100 s101 s102 s103 s104 s105 s106 s107 s108 s109 s110 s111 s112 s113 s114 s115 s116 s117 s118 s119 s120 s121 s122 s123 s124 s125 s126 s127 s128 s129 s130 s131 s132 s133 s134 s135 s136 s137 s138 s139 s140 s141 s142 s143 s144 s145 s146 s147 s148 s149 s150 s151 s152 s153 s154 s155 s156 s157 s158 s159 s160 s161 s162 s163 s164 s165 s166 s167 s168 s169 s170 s171 s172 s173 s174 s175 s176 s177 s178 s179 s180 s181 s182 s183 s184 s185 s186 s187 s188 s189 s190 s191 s192 s193 s194 s195 s196 s197 s198 s199 s200 s201 s202 s203 s204 s205 s206 s207 s208 s209 s210 s211 s212 s213 s214 s215 s216 s217 s218 s219 s220 s221 s222 s223 s224 s225 s226 s227 s228 s229 s230 s231 s232 s233 s234 s235 s236 s237 s238 s239 s240 s241 s242 s243 s244 s245 s246 s247 s248 s249 s250 s251 s252 s253 s254 s255 s256 s257 s258 s259 s260 s261 s262 s263 s264 s265 s266 s267 s268 s269 s270 s271 s272 s273 s274 s275 s276 s277 s278 s279 s280 s281 s282 s283 s284 s285 s286 s287 s288 s289 s290 s291 s292 s293 s294 s295 s296 s297 s298 s299 s300 s301 s302 s303 s304 s305 s306 s307 s308 : Value} :
    Code.wp Try.prog (tpK 19) (bodyPost Try.prog Try.f11 (LawTrueV w)) ⟨(s0::s1::s2::s3::s4::s5::s6::s7::s8::s9::s10::s11::s12::s13::(.pointer (some ⟨gc, 0, none⟩))::(.pointer (some ⟨gs, 0, none⟩))::s16::s17::s18::(.slice A3 n lc)::s20::s21::s22::s23::s24::s25::s26::s27::s28::s29::s30::s31::s32::s33::s34::s35::s36::s37::s38::s39::s40::s41::s42::s43::s44::s45::s46::s47::s48::s49::s50::s51::s52::s53::s54::s55::s56::s57::s58::s59::s60::s61::s62::s63::s64::s65::s66::s67::s68::s69::s70::s71::s72::s73::s74::s75::s76::s77::s78::s79::s80::s81::s82::s83::s84::s85::s86::s87::s88::s89::s90::s91::s92::s93::s94::s95::s96::s97::s98::s99::s100::s101::s102::s103::s104::s105::s106::s107::s108::s109::s110::s111::s112::s113::s114::s115::s116::s117::s118::s119::s120::s121::s122::s123::s124::s125::s126::s127::s128::s129::s130::s131::s132::s133::s134::s135::s136::s137::s138::s139::s140::s141::s142::s143::s144::s145::s146::s147::s148::s149::s150::s151::s152::s153::s154::s155::s156::s157::s158::s159::s160::s161::s162::s163::s164::s165::s166::s167::s168::s169::s170::s171::s172::s173::s174::s175::s176::s177::s178::s179::s180::s181::s182::s183::s184::s185::s186::s187::s188::s189::s190::s191::s192::s193::s194::s195::s196::s197::s198::s199::s200::s201::s202::s203::s204::s205::s206::s207::s208::s209::s210::s211::s212::s213::s214::s215::s216::s217::s218::s219::s220::s221::s222::s223::s224::s225::s226::s227::s228::s229::s230::s231::s232::s233::s234::s235::s236::s237::s238::s239::s240::s241::s242::s243::s244::s245::s246::s247::s248::s249::s250::s251::s252::s253::s254::s255::s256::s257::s258::s259::s260::s261::s262::s263::s264::s265::s266::s267::s268::s269::s270::s271::s272::s273::s274::s275::s276::s277::s278::s279::s280::s281::s282::s283::s284::s285::s286::s287::s288::s289::s290::s291::s292::s293::s294::s295::s296::s297::s298::s299::s300::s301::s302::s303::s304::s305::s306::s307::s308::[]).toArray, []⟩ K := by
  have HE := Lib.hid hE
  have HN := Lib.hid hl
  have HL := Lib.hid hlaw
  clear hE hl hlaw
  conv => arg 2; whnf
  conv => arg 2; arg 2; change tpK 20
  go_upto_region 36 with (fail)
  go_loopw [258] (fun i wr => ∃ (k : Nat), k ≤ n ∧ i = .int .i64 k ∧ TopE w wr gc gs may xs A1 A2 A3 c1 c2) (fun i _ => n - (intOf i).toNat)
  case atStart => exact ⟨0, Nat.zero_le _, rfl, HE.out⟩
  case round =>
    obtain ⟨k, hk, rfl, he⟩ := hrel
    have HE1 := Lib.hid he
    clear he
    by_cases hlt : k < n
    · have hki : (k : Int) < n := by omega
      obtain ⟨y, hy⟩ : ∃ y, (xs.map (·.k))[k]? = some y := ⟨_, List.getElem?_eq_getElem (by rw [List.length_map, HN.out]; exact hlt)⟩
      obtain ⟨b, hb⟩ : ∃ b, (seenC may xs).bl[k]? = some b := ⟨_, List.getElem?_eq_getElem (by unfold seenC; simp only [List.length_map]; rw [HN.out]; exact hlt)⟩
      obtain ⟨⟨h1, h2⟩, h3, h4⟩ := HL.out.2 k b y hb hy
      have HBL := Lib.hid hb
      obtain ⟨sp, hsp⟩ : ∃ sp, wrongC (seenC may xs) k b = sp := ⟨_, rfl⟩
      have HSP := Lib.hid hsp
      rw [hsp] at h1 h2 h3 h4
      obtain ⟨t, ht⟩ : ∃ t, toldC may sp = t := ⟨_, rfl⟩
      have HT := Lib.hid ht
      rw [ht] at h3 h4
      obtain ⟨gb, off, rfl, hgb, hcell⟩ := HE1.out.rk k y hy
      have x0 : wr.cell? ⟨gb, off + k, none⟩ = some (.int .i64 y) := by have h := hcell 0 (.int .i64 y) rfl; simpa using h
      have y0 := HE1.out.hs.cell 0
      have y1 := HE1.out.hs.cell 1
      have y2 := HE1.out.hs.cell 2
      have y3 := HE1.out.hs.cell 3
      have yl := HE1.out.hs.lt
      simp [clsC] at y0 y1 y2 y3
      clear hcell hy hb hsp ht
      go_wp2_with fail
      refine (CWrong_any (bc := c2) wr HE1.out.seen HBL.out HL.out.1).mono ?_
      rw [HSP.out]
      rintro e w1 ⟨rfl, hb1⟩
      have HE2 := Lib.hid (HE1.out.grow hb1)
      clear hb1 x0 y0 y1 y2 y3 yl
      unfold spN
      go_upto_region 39 with fail
      obtain ⟨W2, hW2⟩ : ∃ W, W = w1.alloc (.cells #[.int .i64 sp.1, .int .i64 sp.2] 29) := ⟨_, rfl⟩
      obtain ⟨g, hg⟩ : ∃ g, g = w1.heap.size := ⟨_, rfl⟩
      have HX2 : Hid (Blk W2 g 29 #[.int .i64 sp.1, .int .i64 sp.2]) := by rw [hW2, hg]; exact Blk.new w1 29 _
      have HE3 : Hid (TopE w W2 gc gs may xs A1 A2 (some ⟨gb, off, none⟩) c1 c2) := HE2.out.grow (by rw [hW2]; exact (Below.refl _ _).alloc (Nat.le_refl _) _)
      rw [← hW2, ← hg]
      clear hW2 hg
      have y0 := HE3.out.hs.cell 0
      have y1 := HE3.out.hs.cell 1
      have y2 := HE3.out.hs.cell 2
      have y3 := HE3.out.hs.cell 3
      have yl := HE3.out.hs.lt
      simp [clsC] at y0 y1 y2 y3
      go_wp2_with fail
      refine (CKeeps_any (bc := c2) W2 HE3.out.seen HBL.out HL.out.1).mono ?_
      rw [show (seenC may xs).may = may from rfl, HSP.out, HT.out]
      rintro e w3 ⟨rfl, hb3⟩
      have HE4 := Lib.hid (HE3.out.grow hb3)
      have HX4 := Lib.hid (HX2.out.below hb3 HX2.out.lt)
      clear hb3 y0 y1 y2 y3 yl
      go_upto_region 40 with fail
      have x0 := HX4.out.cell 0
      have x1 := HX4.out.cell 1
      have xl := HX4.out.lt
      have y1 := HE4.out.hc.cell 1
      have yl := HE4.out.hc.lt
      simp [clsC, justC] at x0 x1 y1
      go_wp2_with fail
      refine (inside04_any y sp.1 sp.2 w3).mono ?_
      rw [decide_eq_true (⟨by omega, by omega⟩ : (sp.1 : Int) ≤ y ∧ (y : Int) ≤ sp.2)]
      rintro e w5 ⟨rfl, hb5⟩
      have HE5 := Lib.hid (HE4.out.grow hb5)
      clear hb5 x0 x1 xl y1 yl
      have y1 := HE5.out.hc.cell 1
      have yl := HE5.out.hc.lt
      simp [clsC, justC] at y1
      have mw5 : IntKind.i64.wrap ((k : Int) + 1) = (k : Int) + 1 := IntWalk.i64_in _ (by omega)
      by_cases ht2 : t = 2
      · subst ht2
        have hym : y ≤ may := h3 rfl
        have hd : decide (may < y) = false := by simp; omega
        clear h3 h4
        go_wp2
        go_roundw
        case rel => exact ⟨k + 1, by omega, by go_num, HE5.out⟩
        case measure => simp [intOf]; omega
      · have e2 : ((t : Int) == 2) = false := by simp; omega
        by_cases ht0 : t = 0
        · subst ht0
          have hym : may < y := h4 rfl
          have hd : decide (y ≤ may) = false := by simp; omega
          clear h3 h4
          go_wp2
          go_roundw
          case rel => exact ⟨k + 1, by omega, by go_num, HE5.out⟩
          case measure => simp [intOf]; omega
        · have e0 : ((t : Int) == 0) = false := by simp; omega
          clear h3 h4
          go_wp2
          go_roundw
          case rel => exact ⟨k + 1, by omega, by go_num, HE5.out⟩
          case measure => simp [intOf]; omega
    · obtain rfl : k = n := by omega
      go_wp2
      conv => arg 2; whnf
      go_wp2_with fail
      refine (awake08_any wr).mono ?_
      rintro e w9 ⟨rfl, hb9⟩
      go_wp2
      go_ret
      exact ⟨rfl, HE1.out.bw.trans (hb9.mono HE1.out.bw.size)⟩
end
end Go.Proofs.Ytbfjebglaimcmaa
namespace Go.Proofs.Ytbfjebglaimcmaa
open Go.RowKit Go.Hav Go.Sq
attribute [local go_sem] Oper.semAt_some
theorem eq29_any (a b : Int) (w : World) : (Op.equalIn 10000 29 (.agg #[.int .i64 a, .int .i64 b]) (.agg #[.int .i64 a, .int .i64 b])).run Try.prog w = .ok true w := by
  have h1 := Try.underlying29
  have h2 : Try.prog.stoodInHeld 29 = false := by kernel_rfl
  have h3 : Try.prog.underlying 29 = some (.struct (Try.prog.fieldsOf 29)) := by kernel_rfl
  rw [show (10000 : Nat) = 9999 + 1 from rfl]
  go_simp
section
variable {w K K' : World} {gc gs may c1 c2 : Nat} {xs : List TopB} {A1 A2 A3 : Option Addr}
set_option maxRecDepth 100000 in
set_option maxHeartbeats 6400000 in
theorem top17 {n lc S : Nat} {q : Nat × Nat} (hE : TopE w K gc gs may xs A1 A2 A3 c1 c2) (hl : xs.length = n) (hn5 : n ≤ 5) (hlaw : TopE.Law may xs) (hq : allC (seenC may xs) = some q) (hq1 : q.1 ≤ S) (hq2 : S ≤ q.2)
    {s0 s1 s2 s3 s4 s5 s6 s7 s8 s9 s10 s11 s12 s13 s16 s18 s20 s21 s22 s23 s24 s25 s26 s27 s28 s29 s30 s31 s32 s33 s34 s35 s36 s37 s38 s39 s40 s41 s42 s43 s44 s45 s46 s47 s48 s49 s50 s51 s52 s53 s54 s55 s56 s57 s58 s59 s60 s61 s62 s63 s64 s65 s66 s67 s68 s69 s70 s71 s72 s73 s74 s75 s76 s77 s78 s79 s80 s81 s82 s83 s84 s85 s86 s87 s88 s89 s90 s91 s92 s93 s94 s95 s96 s97 s98 s99 s100 s101 s102 s103 s104 s105 s106 s107 s108 s109 s110 s111 s112 s113 s114 s115 s116 s117 s118 s119 s120 s121 s122 s123 s124 s125 s126 s127 s128 s129 s130 s131 s132 s133 s134 s135 s136 s137 s138 s139 s140 s141 s142 s143 s144 s145 s146 s147 s148 s149 s150 s151 s152 s153 s154 s155 s156 s157 s158 s159 s160 s161 s162 s163 s164 s165 s166 s167 s168 s169 s170 s171 s172 s173 s174 s175 s176 s177 s178 s179 s180 s181 s182 s183 s184 s185 s186 s187 s188 s189 s190 s191 s192 s193 s194 s195 s196 s197 s198 s199 s200 s201 s202 s203 s204 s205 s206 s207 s208 s209 s210 s211 s212 s213 s214 s215 s216 s217 s218 s219 s220 s221 s222 s223 s224 s225 s226 s227 s228 s229 s230 s231 s232 s233 s234 s235 s236 s237 s238 s239 s240 s241 s242 s243 s244 s245 s246 s247 s248 s249 s250 s251 s252 s253 s254 s255 s256 s257 s258 s259 s260 s261 s262 s263 s264 s265 s266 s267 s268 s269 s270 s271 s272 s273 s274 s275 s276 s277 s278 s279 s280 s281 s282 s283 s284 s285 s286 s287 s288 s289 s290 s291 s292 s293 s294 s295 s296 s297 s298 s299 s300 s301 s302 s303 s304 s305 s306 s307 s308 : Value} :
    Code.wp Try.prog (tpK 17) (bodyPost Try.prog Try.f11 (LawTrueV w)) ⟨(s0::s1::s2::s3::s4::s5::s6::s7::s8::s9::s10::s11::s12::s13::(.pointer (some ⟨gc, 0, none⟩))::(.pointer (some ⟨gs, 0, none⟩))::s16::(.int .i64 (S : Nat))::s18::(.slice A3 n lc)::s20::s21::s22::s23::s24::s25::s26::s27::s28::s29::s30::s31::s32::s33::s34::s35::s36::s37::s38::s39::s40::s41::s42::s43::s44::s45::s46::s47::s48::s49::s50::s51::s52::s53::s54::s55::s56::s57::s58::s59::s60::s61::s62::s63::s64::s65::s66::s67::s68::s69::s70::s71::s72::s73::s74::s75::s76::s77::s78::s79::s80::s81::s82::s83::s84::s85::s86::s87::s88::s89::s90::s91::s92::s93::s94::s95::s96::s97::s98::s99::s100::s101::s102::s103::s104::s105::s106::s107::s108::s109::s110::s111::s112::s113::s114::s115::s116::s117::s118::s119::s120::s121::s122::s123::s124::s125::s126::s127::s128::s129::s130::s131::s132::s133::s134::s135::s136::s137::s138::s139::s140::s141::s142::s143::s144::s145::s146::s147::s148::s149::s150::s151::s152::s153::s154::s155::s156::s157::s158::s159::s160::s161::s162::s163::s164::s165::s166::s167::s168::s169::s170::s171::s172::s173::s174::s175::s176::s177::s178::s179::s180::s181::s182::s183::s184::s185::s186::s187::s188::s189::s190::s191::s192::s193::s194::s195::s196::s197::s198::s199::s200::s201::s202::s203::s204::s205::s206::s207::s208::s209::s210::s211::s212::s213::s214::s215::s216::s217::s218::s219::s220::s221::s222::s223::s224::s225::s226::s227::s228::s229::s230::s231::s232::s233::s234::s235::s236::s237::s238::s239::s240::s241::s242::s243::s244::s245::s246::s247::s248::s249::s250::s251::s252::s253::s254::s255::s256::s257::s258::s259::s260::s261::s262::s263::s264::s265::s266::s267::s268::s269::s270::s271::s272::s273::s274::s275::s276::s277::s278::s279::s280::s281::s282::s283::s284::s285::s286::s287::s288::s289::s290::s291::s292::s293::s294::s295::s296::s297::s298::s299::s300::s301::s302::s303::s304::s305::s306::s307::s308::[]).toArray, []⟩ K := by
  have HE := Lib.hid hE
  have HQ := Lib.hid hq
  have HL := Lib.hid hlaw
  clear hE hq hlaw
  conv => arg 2; whnf
  conv => arg 2; arg 2; change tpK 18
  have y0 := HE.out.hs.cell 0
  have y1 := HE.out.hs.cell 1
  have y2 := HE.out.hs.cell 2
  have y3 := HE.out.hs.cell 3
  have yl := HE.out.hs.lt
  simp [clsC] at y0 y1 y2 y3
  go_wp2_with fail
  refine (CAll_any (bc := c2) K HE.out.seen HL.out.1).mono ?_
  rw [HQ.out]
  rintro e w1 ⟨rfl, hb1⟩
  have HE1 := Lib.hid (HE.out.grow hb1)
  clear hb1 y0 y1 y2 y3 yl
  unfold spI encO
  simp only
  go_wp2
  conv => arg 2; whnf
  conv => arg 2; arg 2; change tpK 19
  obtain ⟨W2, hW2⟩ : ∃ W, W = w1.alloc (.cells #[.int .i64 q.1, .int .i64 q.2] 29) := ⟨_, rfl⟩
  obtain ⟨g, hg⟩ : ∃ g, g = w1.heap.size := ⟨_, rfl⟩
  have HX2 : Hid (Blk W2 g 29 #[.int .i64 q.1, .int .i64 q.2]) := by rw [hW2, hg]; exact Blk.new w1 29 _
  have HE2 : Hid (TopE w W2 gc gs may xs A1 A2 A3 c1 c2) := HE1.out.grow (by rw [hW2]; exact (Below.refl _ _).alloc (Nat.le_refl _) _)
  rw [← hW2, ← hg]
  clear hW2 hg
  have x0 := HX2.out.cell 0
  have x1 := HX2.out.cell 1
  have xl := HX2.out.lt
  simp at x0 x1
  go_wp2_with fail
  refine (inside04_any S q.1 q.2 W2).mono ?_
  rw [decide_eq_true (⟨by omega, by omega⟩ : (q.1 : Int) ≤ S ∧ (S : Int) ≤ q.2)]
  rintro e w5 ⟨rfl, hb5⟩
  have HE5 := Lib.hid (HE2.out.grow hb5)
  clear hb5 x0 x1 xl
  go_wp2
  exact top19 HE5.out hl hn5 HL.out
set_option maxRecDepth 100000 in
set_option maxHeartbeats 6400000 in
theorem top16A {n lc S g : Nat} {q : Nat × Nat} (hE : TopE w K gc gs may xs A1 A2 A3 c1 c2) (hX : Blk K g 29 #[.int .i64 S, .int .i64 S]) (hl : xs.length = n) (hn5 : n ≤ 5) (hlaw : TopE.Law may xs) (hq : allC (seenC may xs) = some q) (hq1 : q.1 ≤ S) (hq2 : S ≤ q.2)
    {s0 s1 s2 s3 s4 s5 s6 s7 s8 s9 s10 s11 s12 s13 s16 s20 s21 s22 s23 s24 s31 s32 s33 s34 s35 s36 s37 s38 s39 s40 s41 s42 s43 s44 s45 s46 s47 s48 s49 s50 s51 s52 s53 s54 s55 s56 s57 s58 s59 s60 s61 s62 s63 s64 s65 s66 s67 s68 s69 s70 s71 s72 s73 s74 s75 s76 s77 s78 s79 s80 s81 s82 s83 s84 s85 s86 s87 s88 s89 s90 s91 s92 s93 s94 s95 s96 s97 s98 s99 s100 s101 s102 s103 s104 s105 s106 s107 s108 s109 s110 s111 s112 s113 s114 s115 s116 s117 s118 s119 s120 s121 s122 s123 s124 s125 s126 s127 s128 s129 s130 s131 s132 s133 s134 s135 s136 s137 s138 s139 s140 s141 s142 s143 s144 s145 s146 s147 s148 s149 s150 s151 s152 s153 s154 s155 s156 s157 s158 s159 s160 s161 s162 s163 s164 s165 s166 s167 s168 s169 s170 s171 s172 s173 s174 s175 s176 s177 s178 s179 s180 s181 s182 s183 s184 s185 s186 s187 s188 s189 s190 s191 s192 s193 s194 s195 s196 s197 s198 s199 s200 s201 s202 s203 s204 s205 s206 s207 s208 s209 s210 s211 s212 s213 s214 s215 s216 s217 s218 s219 s220 s221 s222 s223 s224 s225 s226 s227 s228 s229 s230 s231 s232 s233 s234 s235 s236 s237 s238 s239 s240 s241 s242 s243 s244 s245 s246 s247 s248 s249 s250 s251 s252 s253 s254 s255 s256 s257 s258 s259 s260 s261 s262 s263 s264 s265 s266 s267 s268 s269 s270 s271 s272 s273 s274 s275 s276 s277 s278 s279 s280 s281 s282 s283 s284 s285 s286 s287 s288 s289 s290 s291 s292 s293 s294 s295 s296 s297 s298 s299 s300 s301 s302 s303 s304 s305 s306 s307 s308 : Value} :
    Code.wp Try.prog (tpK 16) (bodyPost Try.prog Try.f11 (LawTrueV w)) ⟨(s0::s1::s2::s3::s4::s5::s6::s7::s8::s9::s10::s11::s12::s13::(.pointer (some ⟨gc, 0, none⟩))::(.pointer (some ⟨gs, 0, none⟩))::s16::(.int .i64 (S : Nat))::(.int .i64 (-1))::(.slice A3 n lc)::s20::s21::s22::s23::s24::(.pointer (some ⟨g, 0, none⟩))::(.int .i64 0)::(.int .i64 2)::(.int .i64 0)::(.int .i64 0)::(.int .i64 4)::s31::s32::s33::s34::s35::s36::s37::s38::s39::s40::s41::s42::s43::s44::s45::s46::s47::s48::s49::s50::s51::s52::s53::s54::s55::s56::s57::s58::s59::s60::s61::s62::s63::s64::s65::s66::s67::s68::s69::s70::s71::s72::s73::s74::s75::s76::s77::s78::s79::s80::s81::s82::s83::s84::s85::s86::s87::s88::s89::s90::s91::s92::s93::s94::s95::s96::s97::s98::s99::s100::s101::s102::s103::s104::s105::s106::s107::s108::s109::s110::s111::s112::s113::s114::s115::s116::s117::s118::s119::s120::s121::s122::s123::s124::s125::s126::s127::s128::s129::s130::s131::s132::s133::s134::s135::s136::s137::s138::s139::s140::s141::s142::s143::s144::s145::s146::s147::s148::s149::s150::s151::s152::s153::s154::s155::s156::s157::s158::s159::s160::s161::s162::s163::s164::s165::s166::s167::s168::s169::s170::s171::s172::s173::s174::s175::s176::s177::s178::s179::s180::s181::s182::s183::s184::s185::s186::s187::s188::s189::s190::s191::s192::s193::s194::s195::s196::s197::s198::s199::s200::s201::s202::s203::s204::s205::s206::s207::s208::s209::s210::s211::s212::s213::s214::s215::s216::s217::s218::s219::s220::s221::s222::s223::s224::s225::s226::s227::s228::s229::s230::s231::s232::s233::s234::s235::s236::s237::s238::s239::s240::s241::s242::s243::s244::s245::s246::s247::s248::s249::s250::s251::s252::s253::s254::s255::s256::s257::s258::s259::s260::s261::s262::s263::s264::s265::s266::s267::s268::s269::s270::s271::s272::s273::s274::s275::s276::s277::s278::s279::s280::s281::s282::s283::s284::s285::s286::s287::s288::s289::s290::s291::s292::s293::s294::s295::s296::s297::s298::s299::s300::s301::s302::s303::s304::s305::s306::s307::s308::[]).toArray, []⟩ K := by
  have HE := Lib.hid hE
  have HX := Lib.hid hX
  have he29 := eq29_any S S
  clear hE hX
  conv => arg 2; whnf
  conv => arg 2; arg 2; change tpK 17
  go_upto_region 30 with (fail)
  refine HavG.wp_region_stg (fun wv => TopE w wv gc gs may xs A1 A2 A3 c1 c2 ∧ Blk wv g 29 #[.int .i64 S, .int .i64 S]) [(0,false),(1,false),(2,false),(3,false),(4,false),(5,false),(6,true),(7,false),(8,false),(9,false),(10,false),(11,false),(12,false),(13,false),(14,false),(15,false),(16,false),(17,false),(18,false),(19,false),(20,false),(21,false),(22,false),(23,false),(24,false),(25,false),(26,false),(27,false),(28,false),(29,false),(30,false),(31,false),(32,false),(33,false),(34,false),(35,false),(36,false),(37,false),(38,false),(39,false),(40,false),(41,false),(42,false),(43,false),(44,false),(45,false),(46,false),(47,false),(48,false),(49,false)] [50] (fun _ _ => False) (by kernel_rfl) (by kernel_rfl) (fun _ _ _ _ h => h.elim) ⟨HE.out.grow (Below.drew (Below.refl _ _)), HX.out.below (Below.drew (Below.refl _ _)) HX.out.lt⟩ ?_
  (apply HavG.stg_same (by simp only [List.getElem?_toArray, List.getElem?_cons_zero]; rfl) (by kernel_rfl); (focus (intro wv hI; clear hI; (try go_simp); try rfl; done)); simp only [Act.put, List.setIfInBounds_toArray, List.set_cons_succ, List.set_cons_zero])
  iterate 2 (apply HavG.stg_same (by simp only [List.getElem?_toArray, List.getElem?_cons_succ, List.getElem?_cons_zero]; rfl) (by kernel_rfl); (focus (intro wv hI; clear hI; (try go_simp); try rfl; done)); simp only [Act.put, List.setIfInBounds_toArray, List.set_cons_succ, List.set_cons_zero])
  (apply HavG.stg_same (by simp only [List.getElem?_toArray, List.getElem?_cons_succ, List.getElem?_cons_zero]; rfl) (by kernel_rfl); (focus (intro wv hI; have x0 := hI.2.cell 0; have x1 := hI.2.cell 1; have xl := hI.2.lt; (simp at x0 x1); clear hI; (try go_simp); try rfl; done)); simp only [Act.put, List.setIfInBounds_toArray, List.set_cons_succ, List.set_cons_zero])
  iterate 2 (apply HavG.stg_same (by simp only [List.getElem?_toArray, List.getElem?_cons_succ, List.getElem?_cons_zero]; rfl) (by kernel_rfl); (focus (intro wv hI; clear hI; (try go_simp); try rfl; done)); simp only [Act.put, List.setIfInBounds_toArray, List.set_cons_succ, List.set_cons_zero])
  (apply HavG.stg_call (by simp only [List.getElem?_toArray, List.getElem?_cons_succ, List.getElem?_cons_zero]; rfl) (by kernel_rfl); (focus (go_simp; try exact ⟨rfl, rfl⟩; done)))
  refine (span46_any S S K.drew).mono ?_
  rintro e w1 ⟨rfl, hb1⟩
  have HE1 : Hid (TopE w w1 gc gs may xs A1 A2 A3 c1 c2) := (HE.out.grow (Below.drew (Below.refl _ _))).grow hb1
  have hX1 : Blk w1 g 29 #[.int .i64 S, .int .i64 S] := (HX.out.below (Below.drew (Below.refl _ _)) HX.out.lt).below hb1 (by have := HX.out.lt; simpa using this)
  refine .inl ⟨_, rfl, ⟨HE1.out, hX1⟩, ?_⟩
  clear hX1 hb1
  simp only [Act.put, List.setIfInBounds_toArray, List.set_cons_succ, List.set_cons_zero]
  iterate 31 (apply HavG.stg_same (by simp only [List.getElem?_toArray, List.getElem?_cons_succ, List.getElem?_cons_zero]; rfl) (by kernel_rfl); (focus (intro wv hI; clear hI; (try go_simp); try rfl; done)); simp only [Act.put, List.setIfInBounds_toArray, List.set_cons_succ, List.set_cons_zero])
  (refine HavG.stg_skip (by simp only [List.getElem?_toArray, List.getElem?_cons_succ, List.getElem?_cons_zero]; rfl) (by kernel_rfl) ?_; simp only [Act.put, List.setIfInBounds_toArray, List.set_cons_succ, List.set_cons_zero])
  (refine HavG.stg_skip (by simp only [List.getElem?_toArray, List.getElem?_cons_succ, List.getElem?_cons_zero]; rfl) (by kernel_rfl) ?_; simp only [Act.put, List.setIfInBounds_toArray, List.set_cons_succ, List.set_cons_zero])
  (refine HavG.stg_skip (by simp only [List.getElem?_toArray, List.getElem?_cons_succ, List.getElem?_cons_zero]; rfl) (by kernel_rfl) ?_; simp only [Act.put, List.setIfInBounds_toArray, List.set_cons_succ, List.set_cons_zero])
  iterate 9 (apply HavG.stg_same (by simp only [List.getElem?_toArray, List.getElem?_cons_succ, List.getElem?_cons_zero]; rfl) (by kernel_rfl); (focus (intro wv hI; clear hI; (try go_simp); try rfl; done)); simp only [Act.put, List.setIfInBounds_toArray, List.set_cons_succ, List.set_cons_zero])
  simp only [HavG.wpStg, List.filterMap]
  go_wp2
  exact top17 HE1.out hl hn5 hlaw hq hq1 hq2
set_option maxRecDepth 100000 in
set_option maxHeartbeats 6400000 in
theorem top16B {n lc S g i : Nat} {q : Nat × Nat} (hE : TopE w K gc gs may xs A1 A2 A3 c1 c2) (hX : Blk K g 29 #[.int .i64 S, .int .i64 S]) (hl : xs.length = n) (hn5 : n ≤ 5) (hlaw : TopE.Law may xs) (hq : allC (seenC may xs) = some q) (hq1 : q.1 ≤ S) (hq2 : S ≤ q.2)
    {s0 s1 s2 s3 s4 s5 s6 s7 s8 s9 s10 s11 s12 s13 s16 s20 s21 s22 s23 s24 s31 s32 s33 s34 s35 s36 s37 s38 s39 s40 s41 s42 s43 s44 s45 s46 s47 s48 s49 s50 s51 s52 s53 s54 s55 s56 s57 s58 s59 s60 s61 s62 s63 s64 s65 s66 s67 s68 s69 s70 s71 s72 s73 s74 s75 s76 s77 s78 s79 s80 s81 s82 s83 s84 s85 s86 s87 s88 s89 s90 s91 s92 s93 s94 s95 s96 s97 s98 s99 s100 s101 s102 s103 s104 s105 s106 s107 s108 s109 s110 s111 s112 s113 s114 s115 s116 s117 s118 s119 s120 s121 s122 s123 s124 s125 s126 s127 s128 s129 s130 s131 s132 s133 s134 s135 s136 s137 s138 s139 s140 s141 s142 s143 s144 s145 s146 s147 s148 s149 s150 s151 s152 s153 s154 s155 s156 s157 s158 s159 s160 s161 s162 s163 s164 s165 s166 s167 s168 s169 s170 s171 s172 s173 s174 s175 s176 s177 s178 s179 s180 s181 s182 s183 s184 s185 s186 s187 s188 s189 s190 s191 s192 s193 s194 s195 s196 s197 s198 s199 s200 s201 s202 s203 s204 s205 s206 s207 s208 s209 s210 s211 s212 s213 s214 s215 s216 s217 s218 s219 s220 s221 s222 s223 s224 s225 s226 s227 s228 s229 s230 s231 s232 s233 s234 s235 s236 s237 s238 s239 s240 s241 s242 s243 s244 s245 s246 s247 s248 s249 s250 s251 s252 s253 s254 s255 s256 s257 s258 s259 s260 s261 s262 s263 s264 s265 s266 s267 s268 s269 s270 s271 s272 s273 s274 s275 s276 s277 s278 s279 s280 s281 s282 s283 s284 s285 s286 s287 s288 s289 s290 s291 s292 s293 s294 s295 s296 s297 s298 s299 s300 s301 s302 s303 s304 s305 s306 s307 s308 : Value} :
    Code.wp Try.prog (tpK 16) (bodyPost Try.prog Try.f11 (LawTrueV w)) ⟨(s0::s1::s2::s3::s4::s5::s6::s7::s8::s9::s10::s11::s12::s13::(.pointer (some ⟨gc, 0, none⟩))::(.pointer (some ⟨gs, 0, none⟩))::s16::(.int .i64 (S : Nat))::(.int .i64 (i : Nat))::(.slice A3 n lc)::s20::s21::s22::s23::s24::(.pointer (some ⟨g, 0, none⟩))::(.int .i64 0)::(.int .i64 0)::(.int .i64 0)::(.int .i64 (i : Nat))::(.int .i64 0)::s31::s32::s33::s34::s35::s36::s37::s38::s39::s40::s41::s42::s43::s44::s45::s46::s47::s48::s49::s50::s51::s52::s53::s54::s55::s56::s57::s58::s59::s60::s61::s62::s63::s64::s65::s66::s67::s68::s69::s70::s71::s72::s73::s74::s75::s76::s77::s78::s79::s80::s81::s82::s83::s84::s85::s86::s87::s88::s89::s90::s91::s92::s93::s94::s95::s96::s97::s98::s99::s100::s101::s102::s103::s104::s105::s106::s107::s108::s109::s110::s111::s112::s113::s114::s115::s116::s117::s118::s119::s120::s121::s122::s123::s124::s125::s126::s127::s128::s129::s130::s131::s132::s133::s134::s135::s136::s137::s138::s139::s140::s141::s142::s143::s144::s145::s146::s147::s148::s149::s150::s151::s152::s153::s154::s155::s156::s157::s158::s159::s160::s161::s162::s163::s164::s165::s166::s167::s168::s169::s170::s171::s172::s173::s174::s175::s176::s177::s178::s179::s180::s181::s182::s183::s184::s185::s186::s187::s188::s189::s190::s191::s192::s193::s194::s195::s196::s197::s198::s199::s200::s201::s202::s203::s204::s205::s206::s207::s208::s209::s210::s211::s212::s213::s214::s215::s216::s217::s218::s219::s220::s221::s222::s223::s224::s225::s226::s227::s228::s229::s230::s231::s232::s233::s234::s235::s236::s237::s238::s239::s240::s241::s242::s243::s244::s245::s246::s247::s248::s249::s250::s251::s252::s253::s254::s255::s256::s257::s258::s259::s260::s261::s262::s263::s264::s265::s266::s267::s268::s269::s270::s271::s272::s273::s274::s275::s276::s277::s278::s279::s280::s281::s282::s283::s284::s285::s286::s287::s288::s289::s290::s291::s292::s293::s294::s295::s296::s297::s298::s299::s300::s301::s302::s303::s304::s305::s306::s307::s308::[]).toArray, []⟩ K := by
  have HE := Lib.hid hE
  have HX := Lib.hid hX
  have he29 := eq29_any S S
  clear hE hX
  have hd1 : decide (((i : Nat) : Int) < 0) = false := by simp
  conv => arg 2; whnf
  conv => arg 2; arg 2; change tpK 17
  go_upto_region 30 with (fail)
  refine HavG.wp_region_stg (fun wv => TopE w wv gc gs may xs A1 A2 A3 c1 c2 ∧ Blk wv g 29 #[.int .i64 S, .int .i64 S]) [(0,false),(1,false),(2,false),(3,false),(4,false),(5,false),(6,true),(7,false),(8,false),(9,false),(10,false),(11,false),(12,false),(13,false),(14,false),(15,false),(16,false),(17,false),(18,false),(19,false),(20,false),(21,false),(22,false),(23,false),(24,false),(25,false),(26,false),(27,false),(28,false),(29,false),(30,false),(31,false),(32,false),(33,false),(34,false),(35,false),(36,false),(37,false),(38,false),(39,false),(40,false),(41,false),(42,false),(43,false),(44,false),(45,false),(46,false),(47,false),(48,false),(49,false)] [50] (fun _ _ => False) (by kernel_rfl) (by kernel_rfl) (fun _ _ _ _ h => h.elim) ⟨HE.out.grow (Below.drew (Below.refl _ _)), HX.out.below (Below.drew (Below.refl _ _)) HX.out.lt⟩ ?_
  (apply HavG.stg_same (by simp only [List.getElem?_toArray, List.getElem?_cons_zero]; rfl) (by kernel_rfl); (focus (intro wv hI; clear hI; (try go_simp); try rfl; done)); simp only [Act.put, List.setIfInBounds_toArray, List.set_cons_succ, List.set_cons_zero])
  iterate 2 (apply HavG.stg_same (by simp only [List.getElem?_toArray, List.getElem?_cons_succ, List.getElem?_cons_zero]; rfl) (by kernel_rfl); (focus (intro wv hI; clear hI; (try go_simp); try rfl; done)); simp only [Act.put, List.setIfInBounds_toArray, List.set_cons_succ, List.set_cons_zero])
  (apply HavG.stg_same (by simp only [List.getElem?_toArray, List.getElem?_cons_succ, List.getElem?_cons_zero]; rfl) (by kernel_rfl); (focus (intro wv hI; have x0 := hI.2.cell 0; have x1 := hI.2.cell 1; have xl := hI.2.lt; (simp at x0 x1); clear hI; (try go_simp); try rfl; done)); simp only [Act.put, List.setIfInBounds_toArray, List.set_cons_succ, List.set_cons_zero])
  iterate 2 (apply HavG.stg_same (by simp only [List.getElem?_toArray, List.getElem?_cons_succ, List.getElem?_cons_zero]; rfl) (by kernel_rfl); (focus (intro wv hI; clear hI; (try go_simp); try rfl; done)); simp only [Act.put, List.setIfInBounds_toArray, List.set_cons_succ, List.set_cons_zero])
  (apply HavG.stg_call (by simp only [List.getElem?_toArray, List.getElem?_cons_succ, List.getElem?_cons_zero]; rfl) (by kernel_rfl); (focus (go_simp; try exact ⟨rfl, rfl⟩; done)))
  refine (span46_any S S K.drew).mono ?_
  rintro e w1 ⟨rfl, hb1⟩
  have HE1 : Hid (TopE w w1 gc gs may xs A1 A2 A3 c1 c2) := (HE.out.grow (Below.drew (Below.refl _ _))).grow hb1
  have hX1 : Blk w1 g 29 #[.int .i64 S, .int .i64 S] := (HX.out.below (Below.drew (Below.refl _ _)) HX.out.lt).below hb1 (by have := HX.out.lt; simpa using this)
  refine .inl ⟨_, rfl, ⟨HE1.out, hX1⟩, ?_⟩
  clear hX1 hb1
  simp only [Act.put, List.setIfInBounds_toArray, List.set_cons_succ, List.set_cons_zero]
  iterate 40 (apply HavG.stg_same (by simp only [List.getElem?_toArray, List.getElem?_cons_succ, List.getElem?_cons_zero]; rfl) (by kernel_rfl); (focus (intro wv hI; clear hI; (try go_simp); try rfl; done)); simp only [Act.put, List.setIfInBounds_toArray, List.set_cons_succ, List.set_cons_zero])
  (refine HavG.stg_skip (by simp only [List.getElem?_toArray, List.getElem?_cons_succ, List.getElem?_cons_zero]; rfl) (by kernel_rfl) ?_; simp only [Act.put, List.setIfInBounds_toArray, List.set_cons_succ, List.set_cons_zero])
  (refine HavG.stg_skip (by simp only [List.getElem?_toArray, List.getElem?_cons_succ, List.getElem?_cons_zero]; rfl) (by kernel_rfl) ?_; simp only [Act.put, List.setIfInBounds_toArray, List.set_cons_succ, List.set_cons_zero])
  iterate 1 (apply HavG.stg_same (by simp only [List.getElem?_toArray, List.getElem?_cons_succ, List.getElem?_cons_zero]; rfl) (by kernel_rfl); (focus (intro wv hI; clear hI; (try go_simp); try rfl; done)); simp only [Act.put, List.setIfInBounds_toArray, List.set_cons_succ, List.set_cons_zero])
  simp only [HavG.wpStg, List.filterMap]
  go_wp2
  exact top17 HE1.out hl hn5 hlaw hq hq1 hq2
set_option maxRecDepth 100000 in
set_option maxHeartbeats 6400000 in
theorem top13 {n lc S : Nat} (hE : TopE w K gc gs may xs A1 A2 A3 c1 c2) (hl : xs.length = n) (hn5 : n ≤ 5) (hok : ∀ x ∈ xs, x.Ok) (hne : xs ≠ []) (hS : (xs.map (·.k)).sum = S)
    {s0 s1 s2 s3 s4 s5 s6 s7 s8 s9 s10 s11 s12 s13 s16 s20 s21 s22 s23 s24 s25 s26 s27 s28 s29 s30 s31 s32 s33 s34 s35 s36 s37 s38 s39 s40 s41 s42 s43 s44 s45 s46 s47 s48 s49 s50 s51 s52 s53 s54 s55 s56 s57 s58 s59 s60 s61 s62 s63 s64 s65 s66 s67 s68 s69 s70 s71 s72 s73 s74 s75 s76 s77 s78 s79 s80 s81 s82 s83 s84 s85 s86 s87 s88 s89 s90 s91 s92 s93 s94 s95 s96 s97 s98 s99 s100 s101 s102 s103 s104 s105 s106 s107 s108 s109 s110 s111 s112 s113 s114 s115 s116 s117 s118 s119 s120 s121 s122 s123 s124 s125 s126 s127 s128 s129 s130 s131 s132 s133 s134 s135 s136 s137 s138 s139 s140 s141 s142 s143 s144 s145 s146 s147 s148 s149 s150 s151 s152 s153 s154 s155 s156 s157 s158 s159 s160 s161 s162 s163 s164 s165 s166 s167 s168 s169 s170 s171 s172 s173 s174 s175 s176 s177 s178 s179 s180 s181 s182 s183 s184 s185 s186 s187 s188 s189 s190 s191 s192 s193 s194 s195 s196 s197 s198 s199 s200 s201 s202 s203 s204 s205 s206 s207 s208 s209 s210 s211 s212 s213 s214 s215 s216 s217 s218 s219 s220 s221 s222 s223 s224 s225 s226 s227 s228 s229 s230 s231 s232 s233 s234 s235 s236 s237 s238 s239 s240 s241 s242 s243 s244 s245 s246 s247 s248 s249 s250 s251 s252 s253 s254 s255 s256 s257 s258 s259 s260 s261 s262 s263 s264 s265 s266 s267 s268 s269 s270 s271 s272 s273 s274 s275 s276 s277 s278 s279 s280 s281 s282 s283 s284 s285 s286 s287 s288 s289 s290 s291 s292 s293 s294 s295 s296 s297 s298 s299 s300 s301 s302 s303 s304 s305 s306 s307 s308 : Value} :
    Code.wp Try.prog (tpK 13) (bodyPost Try.prog Try.f11 (LawTrueV w)) ⟨(s0::s1::s2::s3::s4::s5::s6::s7::s8::s9::s10::s11::s12::s13::(.pointer (some ⟨gc, 0, none⟩))::(.pointer (some ⟨gs, 0, none⟩))::s16::(.int .i64 (S : Nat))::(.int .i64 (fstI may (xs.map (·.k))))::(.slice A3 n lc)::s20::s21::s22::s23::s24::s25::s26::s27::s28::s29::s30::s31::s32::s33::s34::s35::s36::s37::s38::s39::s40::s41::s42::s43::s44::s45::s46::s47::s48::s49::s50::s51::s52::s53::s54::s55::s56::s57::s58::s59::s60::s61::s62::s63::s64::s65::s66::s67::s68::s69::s70::s71::s72::s73::s74::s75::s76::s77::s78::s79::s80::s81::s82::s83::s84::s85::s86::s87::s88::s89::s90::s91::s92::s93::s94::s95::s96::s97::s98::s99::s100::s101::s102::s103::s104::s105::s106::s107::s108::s109::s110::s111::s112::s113::s114::s115::s116::s117::s118::s119::s120::s121::s122::s123::s124::s125::s126::s127::s128::s129::s130::s131::s132::s133::s134::s135::s136::s137::s138::s139::s140::s141::s142::s143::s144::s145::s146::s147::s148::s149::s150::s151::s152::s153::s154::s155::s156::s157::s158::s159::s160::s161::s162::s163::s164::s165::s166::s167::s168::s169::s170::s171::s172::s173::s174::s175::s176::s177::s178::s179::s180::s181::s182::s183::s184::s185::s186::s187::s188::s189::s190::s191::s192::s193::s194::s195::s196::s197::s198::s199::s200::s201::s202::s203::s204::s205::s206::s207::s208::s209::s210::s211::s212::s213::s214::s215::s216::s217::s218::s219::s220::s221::s222::s223::s224::s225::s226::s227::s228::s229::s230::s231::s232::s233::s234::s235::s236::s237::s238::s239::s240::s241::s242::s243::s244::s245::s246::s247::s248::s249::s250::s251::s252::s253::s254::s255::s256::s257::s258::s259::s260::s261::s262::s263::s264::s265::s266::s267::s268::s269::s270::s271::s272::s273::s274::s275::s276::s277::s278::s279::s280::s281::s282::s283::s284::s285::s286::s287::s288::s289::s290::s291::s292::s293::s294::s295::s296::s297::s298::s299::s300::s301::s302::s303::s304::s305::s306::s307::s308::[]).toArray, []⟩ K := by
  have HE := Lib.hid hE
  have HN := Lib.hid hl
  obtain ⟨m1, m2, la1, la2, la3, ⟨q, la4, la5, la6⟩, la7⟩ := top_law (may := may) hok hne
  rw [hS] at la1 la5 la6
  have M1 : Hid (mistakenC (justC may xs) (fun _ => true) ≤ (justC may xs).mis) := Nat.le_of_eq m1
  have M2 : Hid (mistakenC (seenC may xs) (fun _ => true) ≤ (seenC may xs).mis) := Nat.le_of_eq m2
  have LA1 := Lib.hid la1
  have LA2 := Lib.hid la2
  have LA3 := Lib.hid la3
  have LA4 := Lib.hid la4
  have LAW : Hid (TopE.Law may xs) := ⟨Nat.le_of_eq m2, la7⟩
  have FC := Lib.hid (fstI_cases may (xs.map (·.k)))
  have he29 := eq29_any S S
  clear hE hl m1 m2 la1 la2 la3 la4 la7
  conv => arg 2; whnf
  conv => arg 2; arg 2; whnf
  conv => arg 2; arg 2; arg 2; whnf
  conv => arg 2; arg 2; arg 2; arg 2; change tpK 16
  have y0 := HE.out.hc.cell 0
  have y1 := HE.out.hc.cell 1
  have y2 := HE.out.hc.cell 2
  have y3 := HE.out.hc.cell 3
  have yl := HE.out.hc.lt
  simp [clsC] at y0 y1 y2 y3
  go_wp2_with fail
  refine (CAll_any (bc := c1) K HE.out.just M1.out).mono ?_
  rw [LA1.out]
  rintro e w1 ⟨rfl, hb1⟩
  have HE1 := Lib.hid (HE.out.grow hb1)
  clear hb1 y0 y1 y2 y3 yl
  unfold spI encO
  simp only
  go_upto_region 28 with fail
  obtain ⟨W2, hW2⟩ : ∃ W, W = w1.alloc (.cells #[.int .i64 S, .int .i64 S] 29) := ⟨_, rfl⟩
  obtain ⟨g, hg⟩ : ∃ g, g = w1.heap.size := ⟨_, rfl⟩
  have HX2 : Hid (Blk W2 g 29 #[.int .i64 S, .int .i64 S]) := by rw [hW2, hg]; exact Blk.new w1 29 _
  have HE2 : Hid (TopE w W2 gc gs may xs A1 A2 A3 c1 c2) := HE1.out.grow (by rw [hW2]; exact (Below.refl _ _).alloc (Nat.le_refl _) _)
  rw [← hW2, ← hg]
  clear hW2 hg
  have y0 := HE2.out.hc.cell 0
  have y1 := HE2.out.hc.cell 1
  have y2 := HE2.out.hc.cell 2
  have y3 := HE2.out.hc.cell 3
  have yl := HE2.out.hc.lt
  simp [clsC] at y0 y1 y2 y3
  go_wp2_with fail
  refine (CLine_any (bc := c1) W2 HE2.out.just M1.out).mono ?_
  rw [LA2.out]
  rintro e w3 ⟨rfl, hb3⟩
  have HE3 := Lib.hid (HE2.out.grow hb3)
  have HX3 := Lib.hid (HX2.out.below hb3 HX2.out.lt)
  clear hb3 y0 y1 y2 y3 yl
  rcases FC.out with ⟨hF, hP, hA⟩ | ⟨i, hF, -, hP, hA⟩
  · rw [hF, hA, if_pos rfl]
    go_upto_region 29 with fail
    have y0 := HE3.out.hc.cell 0
    have y1 := HE3.out.hc.cell 1
    have y2 := HE3.out.hc.cell 2
    have y3 := HE3.out.hc.cell 3
    have yl := HE3.out.hc.lt
    simp [clsC] at y0 y1 y2 y3
    go_wp2_with fail
    refine (CProof_any (bc := c1) w3 HE3.out.just M1.out).mono ?_
    rw [show proofV (justC may xs) = .tuple #[.int .i64 0, .int .i64 4] by unfold proofV; rw [LA3.out, hP]]
    rintro e w4 ⟨rfl, hb4⟩
    have HE4 := Lib.hid (HE3.out.grow hb4)
    have HX4 := Lib.hid (HX3.out.below hb4 HX3.out.lt)
    clear hb4 y0 y1 y2 y3 yl
    go_wp2
    exact top16A HE4.out HX4.out HN.out hn5 LAW.out LA4.out la5 la6
  · rw [hF, hA, if_neg (by simp)]
    go_upto_region 29 with fail
    have y0 := HE3.out.hc.cell 0
    have y1 := HE3.out.hc.cell 1
    have y2 := HE3.out.hc.cell 2
    have y3 := HE3.out.hc.cell 3
    have yl := HE3.out.hc.lt
    simp [clsC] at y0 y1 y2 y3
    go_wp2_with fail
    refine (CProof_any (bc := c1) w3 HE3.out.just M1.out).mono ?_
    rw [show proofV (justC may xs) = .tuple #[.int .i64 (i : Nat), .int .i64 0] by unfold proofV; rw [LA3.out, hP]]
    rintro e w4 ⟨rfl, hb4⟩
    have HE4 := Lib.hid (HE3.out.grow hb4)
    have HX4 := Lib.hid (HX3.out.below hb4 HX3.out.lt)
    clear hb4 y0 y1 y2 y3 yl
    go_wp2
    exact top16B HE4.out HX4.out HN.out hn5 LAW.out LA4.out la5 la6
end
end Go.Proofs.Ytbfjebglaimcmaa
namespace Go.Proofs.Ytbfjebglaimcmaa
open Go.RowKit Go.Hav Go.Sq
attribute [local go_sem] Oper.semAt_some
theorem just_ok {may : Nat} {xs : List TopB} (hm : may ≤ 30) (h1 : 1 ≤ xs.length) (h6 : xs.length ≤ 6) (h : ∀ x ∈ xs, x.Ok) : ClsOk (justC may xs) :=
  ⟨by simpa [justC] using h1, by simpa [justC] using h6, hm, Nat.le_refl _, Nat.zero_le _, fun b hb => by
    obtain ⟨x, hx, rfl⟩ := List.mem_map.1 hb
    have := h x hx
    unfold TopB.Ok at this
    unfold BlOk
    simp only
    omega⟩
theorem seen_ok {may : Nat} {xs : List TopB} (hm : may ≤ 30) (h1 : 1 ≤ xs.length) (h6 : xs.length ≤ 6) (h : ∀ x ∈ xs, x.Ok) : ClsOk (seenC may xs) :=
  ⟨by simpa [seenC] using h1, by simpa [seenC] using h6, hm, Nat.le_refl _, Nat.zero_le _, fun b hb => by
    obtain ⟨x, hx, rfl⟩ := List.mem_map.1 hb
    have := h x hx
    unfold TopB.Ok at this
    unfold BlOk
    simp only
    omega⟩
section
variable {w K K' : World} {Bq gc gs cn us may ul uc N : Nat} {ua : Option Addr} {U : List Nat} {vc vs vw : Value} {xs : List TopB}
/-- From the rows of the loop to what the questions read. -/
theorem TopW.toE {n : Nat} (h : TopW w K Bq gc gs cn us may ul uc ua U N vc n ((justC may xs).bl.flatMap blF) vs n ((seenC may xs).bl.flatMap blF) vw n ((xs.map (·.k)).flatMap natF)) (hl : xs.length = n) (hm : may ≤ 30) (h1 : 1 ≤ n) (h6 : n ≤ 6) (hok : ∀ x ∈ xs, x.Ok) :
    ∃ A1 A2 A3 c1 c2 c3, vw = .slice A3 n c3 ∧ TopE w K gc gs may xs A1 A2 A3 c1 c2 := by
  subst hl
  have e1 : (justC may xs).bl.length = xs.length := by simp [justC]
  have e2 : (seenC may xs).bl.length = xs.length := by simp [seenC]
  have e3 : (xs.map (·.k)).length = xs.length := by simp
  have o1 := h.oc
  have o2 := h.os
  have o3 := h.ow
  rw [← e1] at o1
  rw [← e2] at o2
  rw [← e3] at o3
  obtain ⟨A1, c1, v1, r1, -⟩ := own_rd blF_len (by decide) o1
  obtain ⟨A2, c2, v2, r2, -⟩ := own_rd blF_len (by decide) o2
  obtain ⟨A3, c3, v3, r3, -⟩ := own_rd natF_len (by decide) o3
  have hc := h.hc
  have hs := h.hs
  rw [v1] at hc
  rw [v2] at hs
  exact ⟨A1, A2, A3, c1, c2, c3, by rw [v3, e3], h.bw, hc, hs, just_ok hm h1 h6 hok, seen_ok hm h1 h6 hok, r1, r2, r3⟩
set_option maxRecDepth 100000 in
set_option maxHeartbeats 6400000 in
theorem top11 {n lc b4 b11 fl fc bb : Nat} {a0 a1 a2 : Int} {L : List Nat} {fa LA : Option Addr} (hT : TopW w K Bq gc gs cn us may ul uc ua U N vc n ((justC may xs).bl.flatMap blF) vs n ((seenC may xs).bl.flatMap blF) vw n ((xs.map (·.k)).flatMap natF)) (hL : TopL L bb n xs) (hn5 : n ≤ 5) (hm : may ≤ 30)
    (hp : K.cell? ⟨b4, 0, none⟩ = some (.slice fa fl fc)) (hw : Blk K b11 41 #[.int .i64 a0, .int .i64 a1, .int .i64 a2]) (ha : 0 ≤ a0 ∧ a0 ≤ 100 ∧ 0 ≤ a1 ∧ a1 ≤ 100 ∧ 0 ≤ a2 ∧ a2 ≤ 100) (hsum : (((xs.map (·.n)).sum : Nat) : Int) + a0 + a1 + a2 = fl)
    {s0 s1 s2 s3 s5 s6 s7 s8 s10 s12 s13 s20 s21 s22 s23 s24 s25 s26 s27 s28 s29 s30 s31 s32 s33 s34 s35 s36 s37 s38 s39 s40 s41 s42 s43 s44 s45 s46 s47 s48 s49 s50 s51 s52 s53 s54 s55 s56 s57 s58 s59 s60 s61 s62 s63 s64 s65 s66 s67 s68 s69 s70 s71 s72 s73 s74 s75 s76 s77 s78 s79 s80 s81 s82 s83 s84 s85 s86 s87 s88 s89 s90 s91 s92 s93 s94 s95 s96 s97 s98 s99 s100 s101 s102 s103 s104 s105 s106 s107 s108 s109 s110 s111 s112 s113 s114 s115 s116 s117 s118 s119 s120 s121 s122 s123 s124 s125 s126 s127 s128 s129 s130 s131 s132 s133 s134 s135 s136 s137 s138 s139 s140 s141 s142 s143 s144 s145 s146 s147 s148 s149 s150 s151 s152 s153 s154 s155 s156 s157 s158 s159 s160 s161 s162 s163 s164 s165 s166 s167 s168 s169 s170 s171 s172 s173 s174 s175 s176 s177 s178 s179 s180 s181 s182 s183 s184 s185 s186 s187 s188 s189 s190 s191 s192 s193 s194 s195 s196 s197 s198 s199 s200 s201 s202 s203 s204 s205 s206 s207 s208 s209 s210 s211 s212 s213 s214 s215 s216 s217 s218 s219 s220 s221 s222 s223 s224 s225 s226 s227 s228 s229 s230 s231 s232 s233 s234 s235 s236 s237 s238 s239 s240 s241 s242 s243 s244 s245 s246 s247 s248 s249 s250 s251 s252 s253 s254 s255 s256 s257 s258 s259 s260 s261 s262 s263 s264 s265 s266 s267 s268 s269 s270 s271 s272 s273 s274 s275 s276 s277 s278 s279 s280 s281 s282 s283 s284 s285 s286 s287 s288 s289 s290 s291 s292 s293 s294 s295 s296 s297 s298 s299 s300 s301 s302 s303 s304 s305 s306 s307 s308 : Value} :
    Code.wp Try.prog (tpK 11) (bodyPost Try.prog Try.f11 (LawTrueV w)) ⟨(s0::s1::s2::s3::(.pointer (some ⟨b4, 0, none⟩))::s5::s6::s7::s8::(.slice LA n lc)::s10::(.pointer (some ⟨b11, 0, none⟩))::s12::s13::(.pointer (some ⟨gc, 0, none⟩))::(.pointer (some ⟨gs, 0, none⟩))::(.int .i64 ((xs.map (·.n)).sum : Nat))::(.int .i64 ((xs.map (·.k)).sum : Nat))::(.int .i64 (fstI may (xs.map (·.k))))::vw::s20::s21::s22::s23::s24::s25::s26::s27::s28::s29::s30::s31::s32::s33::s34::s35::s36::s37::s38::s39::s40::s41::s42::s43::s44::s45::s46::s47::s48::s49::s50::s51::s52::s53::s54::s55::s56::s57::s58::s59::s60::s61::s62::s63::s64::s65::s66::s67::s68::s69::s70::s71::s72::s73::s74::s75::s76::s77::s78::s79::s80::s81::s82::s83::s84::s85::s86::s87::s88::s89::s90::s91::s92::s93::s94::s95::s96::s97::s98::s99::s100::s101::s102::s103::s104::s105::s106::s107::s108::s109::s110::s111::s112::s113::s114::s115::s116::s117::s118::s119::s120::s121::s122::s123::s124::s125::s126::s127::s128::s129::s130::s131::s132::s133::s134::s135::s136::s137::s138::s139::s140::s141::s142::s143::s144::s145::s146::s147::s148::s149::s150::s151::s152::s153::s154::s155::s156::s157::s158::s159::s160::s161::s162::s163::s164::s165::s166::s167::s168::s169::s170::s171::s172::s173::s174::s175::s176::s177::s178::s179::s180::s181::s182::s183::s184::s185::s186::s187::s188::s189::s190::s191::s192::s193::s194::s195::s196::s197::s198::s199::s200::s201::s202::s203::s204::s205::s206::s207::s208::s209::s210::s211::s212::s213::s214::s215::s216::s217::s218::s219::s220::s221::s222::s223::s224::s225::s226::s227::s228::s229::s230::s231::s232::s233::s234::s235::s236::s237::s238::s239::s240::s241::s242::s243::s244::s245::s246::s247::s248::s249::s250::s251::s252::s253::s254::s255::s256::s257::s258::s259::s260::s261::s262::s263::s264::s265::s266::s267::s268::s269::s270::s271::s272::s273::s274::s275::s276::s277::s278::s279::s280::s281::s282::s283::s284::s285::s286::s287::s288::s289::s290::s291::s292::s293::s294::s295::s296::s297::s298::s299::s300::s301::s302::s303::s304::s305::s306::s307::s308::[]).toArray, []⟩ K := by
  obtain ⟨S1, hS1⟩ : ∃ S, (xs.map (·.n)).sum = S := ⟨_, rfl⟩
  obtain ⟨S2, hS2⟩ : ∃ S, (xs.map (·.k)).sum = S := ⟨_, rfl⟩
  obtain ⟨F, hF⟩ : ∃ F, fstI may (xs.map (·.k)) = F := ⟨_, rfl⟩
  have hb1 := (top_sums hL.ok).1
  rw [hL.len, hS1] at hb1
  rw [hS1] at hsum
  rw [hS1, hS2, hF]
  have HT := Lib.hid hT
  have HTL := Lib.hid hL
  have HS2 := Lib.hid hS2
  have HF := Lib.hid hF
  clear hT hL hS1 hS2 hF
  have x0 := hw.cell 0
  have x1 := hw.cell 1
  have x2 := hw.cell 2
  have xl := hw.lt
  simp at x0 x1 x2
  obtain ⟨h1, h2, h3, h4, h5, h6⟩ := ha
  have m1 : IntKind.i64.wrap ((S1 : Int) + a0) = (S1 : Int) + a0 := IntWalk.i64_in _ (by omega)
  have m2 : IntKind.i64.wrap ((S1 : Int) + a0 + a1) = (S1 : Int) + a0 + a1 := IntWalk.i64_in _ (by omega)
  have m3 : IntKind.i64.wrap ((S1 : Int) + a0 + a1 + a2) = (fl : Int) := (IntWalk.i64_in _ (by omega)).trans hsum
  conv => arg 2; whnf
  conv => arg 2; arg 2; change tpK 12
  go_wp2
  conv => arg 2; whnf
  conv => arg 2; arg 2; change tpK 13
  by_cases hn0 : n = 0
  · have e0 : ((n : Int) == 0) = true := by simp; omega
    go_wp2_with fail
    refine (awake08_any K).mono ?_
    rintro e w9 ⟨rfl, hb9⟩
    go_wp2
    go_ret
    exact ⟨rfl, HT.out.bw.trans (hb9.mono HT.out.bw.size)⟩
  · have e0 : ((n : Int) == 0) = false := by simp; omega
    go_wp2
    obtain ⟨A1, A2, A3, c1, c2, c3, rfl, he⟩ := HT.out.toE HTL.out.len hm (by omega) (by omega) HTL.out.ok
    have hne : xs ≠ [] := fun e => by have := HTL.out.len; rw [e] at this; exact hn0 this.symm
    rw [← HF.out]
    exact top13 he HTL.out.len hn5 HTL.out.ok hne HS2.out
end
end Go.Proofs.Ytbfjebglaimcmaa
namespace Go.Proofs.Ytbfjebglaimcmaa
open Go.RowKit Go.Hav Go.Sq
attribute [local go_sem] Oper.semAt_some
theorem pop_more {s n : Nat} (hs : s < 2 ^ n) (hn : n ≤ 10) : pop s 10 = pop s n := by
  obtain ⟨k, hk⟩ : ∃ k, n + k = 10 := ⟨10 - n, by omega⟩
  rw [← hk]
  clear hk hn
  unfold pop
  induction k with
  | zero => rfl
  | succ k ih =>
    rw [← Nat.add_assoc, sb, ih, Nat.testBit_lt_two_pow (Nat.lt_of_lt_of_le hs (Nat.pow_le_pow_right (by omega) (by omega))), if_neg (by simp)]
    omega
theorem top_sum {p : PressD} (hv : p.ok = true) {L : List Nat} (h : Pressing p L) : (((L.map popN).sum : Nat) : Int) + waitK p L p.n 0 + waitK p L p.n 1 + waitK p L p.n 2 = p.n := by
  have h1 := wait_sum (p := p) (L := L) p.n (fun i hi => by
    obtain ⟨-, -, -, -, g0, g1⟩ := PressD.ok_fl hv (i := i) hi
    omega)
  have h2 := pop_orL h.disj L.length (Nat.le_refl _)
  rw [List.take_of_length_le (Nat.le_refl _), pops_cast, pop_more (orL_lt fun s hs => (h.sure s hs).1) (PressD.ok_head hv).1] at h2
  omega
section
variable {low top bales : Int} {fa wa ua : Option Addr} {fl fc wl wp ul uc bb mm : Nat} {p : PressD} {us : List Nat}
set_option maxRecDepth 100000 in
set_option maxHeartbeats 6400000 in
theorem top2 {b4 : Nat} {w W : World} (hbb : bb ≤ 65535) (hmm : mm ≤ 255) (hBW : Below w.heap.size w W) (hX : Blk W b4 25 #[Value.slice fa fl fc, Value.int IntKind.i64 low, Value.int IntKind.i64 top, Value.int IntKind.i64 bales, Value.slice wa wl wp]) (hP : PressIn W W.heap.size fa fl low top bales wa wl p) (hU : UIn W w.heap.size ua ul us) (hv : p.ok = true)
    {s0 s5 s6 s7 s8 s9 s10 s11 s12 s13 s14 s15 s16 s17 s18 s19 s20 s21 s22 s23 s24 s25 s26 s27 s28 s29 s30 s31 s32 s33 s34 s35 s36 s37 s38 s39 s40 s41 s42 s43 s44 s45 s46 s47 s48 s49 s50 s51 s52 s53 s54 s55 s56 s57 s58 s59 s60 s61 s62 s63 s64 s65 s66 s67 s68 s69 s70 s71 s72 s73 s74 s75 s76 s77 s78 s79 s80 s81 s82 s83 s84 s85 s86 s87 s88 s89 s90 s91 s92 s93 s94 s95 s96 s97 s98 s99 s100 s101 s102 s103 s104 s105 s106 s107 s108 s109 s110 s111 s112 s113 s114 s115 s116 s117 s118 s119 s120 s121 s122 s123 s124 s125 s126 s127 s128 s129 s130 s131 s132 s133 s134 s135 s136 s137 s138 s139 s140 s141 s142 s143 s144 s145 s146 s147 s148 s149 s150 s151 s152 s153 s154 s155 s156 s157 s158 s159 s160 s161 s162 s163 s164 s165 s166 s167 s168 s169 s170 s171 s172 s173 s174 s175 s176 s177 s178 s179 s180 s181 s182 s183 s184 s185 s186 s187 s188 s189 s190 s191 s192 s193 s194 s195 s196 s197 s198 s199 s200 s201 s202 s203 s204 s205 s206 s207 s208 s209 s210 s211 s212 s213 s214 s215 s216 s217 s218 s219 s220 s221 s222 s223 s224 s225 s226 s227 s228 s229 s230 s231 s232 s233 s234 s235 s236 s237 s238 s239 s240 s241 s242 s243 s244 s245 s246 s247 s248 s249 s250 s251 s252 s253 s254 s255 s256 s257 s258 s259 s260 s261 s262 s263 s264 s265 s266 s267 s268 s269 s270 s271 s272 s273 s274 s275 s276 s277 s278 s279 s280 s281 s282 s283 s284 s285 s286 s287 s288 s289 s290 s291 s292 s293 s294 s295 s296 s297 s298 s299 s300 s301 s302 s303 s304 s305 s306 s307 s308 : Value} :
    Code.wp Try.prog (tpK 2) (bodyPost Try.prog Try.f11 (LawTrueV w)) ⟨(s0::(.int .u16 bb)::(.int .u8 mm)::(.slice ua ul uc)::(.pointer (some ⟨b4, 0, none⟩))::s5::s6::s7::s8::s9::s10::s11::s12::s13::s14::s15::s16::s17::s18::s19::s20::s21::s22::s23::s24::s25::s26::s27::s28::s29::s30::s31::s32::s33::s34::s35::s36::s37::s38::s39::s40::s41::s42::s43::s44::s45::s46::s47::s48::s49::s50::s51::s52::s53::s54::s55::s56::s57::s58::s59::s60::s61::s62::s63::s64::s65::s66::s67::s68::s69::s70::s71::s72::s73::s74::s75::s76::s77::s78::s79::s80::s81::s82::s83::s84::s85::s86::s87::s88::s89::s90::s91::s92::s93::s94::s95::s96::s97::s98::s99::s100::s101::s102::s103::s104::s105::s106::s107::s108::s109::s110::s111::s112::s113::s114::s115::s116::s117::s118::s119::s120::s121::s122::s123::s124::s125::s126::s127::s128::s129::s130::s131::s132::s133::s134::s135::s136::s137::s138::s139::s140::s141::s142::s143::s144::s145::s146::s147::s148::s149::s150::s151::s152::s153::s154::s155::s156::s157::s158::s159::s160::s161::s162::s163::s164::s165::s166::s167::s168::s169::s170::s171::s172::s173::s174::s175::s176::s177::s178::s179::s180::s181::s182::s183::s184::s185::s186::s187::s188::s189::s190::s191::s192::s193::s194::s195::s196::s197::s198::s199::s200::s201::s202::s203::s204::s205::s206::s207::s208::s209::s210::s211::s212::s213::s214::s215::s216::s217::s218::s219::s220::s221::s222::s223::s224::s225::s226::s227::s228::s229::s230::s231::s232::s233::s234::s235::s236::s237::s238::s239::s240::s241::s242::s243::s244::s245::s246::s247::s248::s249::s250::s251::s252::s253::s254::s255::s256::s257::s258::s259::s260::s261::s262::s263::s264::s265::s266::s267::s268::s269::s270::s271::s272::s273::s274::s275::s276::s277::s278::s279::s280::s281::s282::s283::s284::s285::s286::s287::s288::s289::s290::s291::s292::s293::s294::s295::s296::s297::s298::s299::s300::s301::s302::s303::s304::s305::s306::s307::s308::[]).toArray, []⟩ W := by
  have HPW := Lib.hid hP
  have HU := Lib.hid hU
  have HX := Lib.hid hX
  have HBW := Lib.hid hBW
  have HV := Lib.hid hv
  have HEN : Hid (p.n = fl) := hP.efl
  have HEB : Hid (p.bales = bales) := hP.ebales
  have HF : Hid (∀ wv, Below W.heap.size W wv → wv.cell? ⟨b4, 0, none⟩ = some (Value.slice fa fl fc) ∧ wv.cell? ⟨b4, 1, none⟩ = some (Value.int IntKind.i64 low) ∧ wv.cell? ⟨b4, 2, none⟩ = some (Value.int IntKind.i64 top) ∧ wv.cell? ⟨b4, 3, none⟩ = some (Value.int IntKind.i64 bales) ∧ wv.cell? ⟨b4, 4, none⟩ = some (Value.slice wa wl wp) ∧ b4 < wv.heap.size) := fun wv hb => by
    have h := HX.out.below hb HX.out.lt
    have a0 := h.cell 0
    have a1 := h.cell 1
    have a2 := h.cell 2
    have a3 := h.cell 3
    have a4 := h.cell 4
    simp at a0 a1 a2 a3 a4
    exact ⟨a0, a1, a2, a3, a4, h.lt⟩
  have hhead := PressD.ok_head hv
  have hn10 : fl ≤ 10 := by rw [← HEN.out]; exact hhead.1
  have hbl0 : 0 ≤ bales := by rw [← HEB.out]; exact hhead.2.2.2.2.1
  have hbl5 : bales ≤ 5 := by rw [← HEB.out]; exact hhead.2.2.2.2.2.1
  obtain ⟨W0, W1, W2, W3, hWR⟩ : ∃ a b c d, waitR p = .tuple #[.agg #[.int .i64 a, .int .i64 b, .int .i64 c], .int .i64 d] := by
    unfold waitR waitV
    split
    · exact ⟨_, _, _, _, rfl⟩
    · exact ⟨_, _, _, _, rfl⟩
  obtain ⟨E, hE⟩ : ∃ E, planE p = E := ⟨_, rfl⟩
  obtain ⟨Z, hZ⟩ : ∃ Z, intsP p = Z := ⟨_, rfl⟩
  obtain ⟨n, hn⟩ : ∃ n, Z.length = n := ⟨_, rfl⟩
  have HWR := Lib.hid hWR
  have HE := Lib.hid hE
  have HZ := Lib.hid hZ
  have HN := Lib.hid hn
  clear hhead hWR hE hZ hn hP hU hX hBW hv
  obtain ⟨x0, x1, x2, x3, x4, xl⟩ := HF.out W (Below.refl _ _)
  conv => arg 2; whnf
  conv => arg 2; arg 2; whnf
  conv => arg 2; arg 2; arg 2; whnf
  conv => arg 2; arg 2; arg 2; arg 2; whnf
  conv => arg 2; arg 2; arg 2; arg 2; arg 2; whnf
  conv => arg 2; arg 2; arg 2; arg 2; arg 2; arg 2; whnf
  conv => arg 2; arg 2; arg 2; arg 2; arg 2; arg 2; arg 2; whnf
  conv => arg 2; arg 2; arg 2; arg 2; arg 2; arg 2; arg 2; arg 2; whnf
  conv => arg 2; arg 2; arg 2; arg 2; arg 2; arg 2; arg 2; arg 2; arg 2; change tpK 10
  go_wp2_with fail
  refine (PPlan_any (p := p) W (by exact HPW.out)).mono ?_
  rw [HE.out, HZ.out]
  rintro e v2 ⟨v, rfl, hown, hb2⟩
  obtain ⟨LA, lc, rfl, hrd, -⟩ := own_rd (l := Z) inF_len (by decide) hown
  rw [HN.out]
  have HR2 := Lib.hid hrd
  have HC2 : Hid (Below W.heap.size W v2) := hb2
  clear hown hrd hb2 x0 x1 x2 x3 x4 xl
  obtain ⟨x0, x1, x2, x3, x4, xl⟩ := HF.out v2 HC2.out
  go_wp2_with fail
  refine (PWait_any (p := p) v2 (by exact HPW.out.grow HC2.out)).mono ?_
  rw [HWR.out]
  rintro e v4 ⟨rfl, hb4'⟩
  have HC4 : Hid (Below W.heap.size W v4) := HC2.out.trans (hb4'.mono HC2.out.size)
  have HR4 : Hid (RdG inF 1 v4 v4.heap.size LA Z) := (HR2.out.below hb4').more hb4'.size
  clear hb4' x0 x1 x2 x3 x4 xl
  go_upto_region 5 with fail
  obtain ⟨V4, hV4⟩ : ∃ V, V = v4.alloc (.cells #[.int .i64 W0, .int .i64 W1, .int .i64 W2] 41) := ⟨_, rfl⟩
  obtain ⟨b11, hb11⟩ : ∃ g, g = v4.heap.size := ⟨_, rfl⟩
  have HS4 : Hid (Blk V4 b11 41 #[.int .i64 W0, .int .i64 W1, .int .i64 W2]) := by rw [hV4, hb11]; exact Blk.new v4 41 _
  have HY4 : Hid (Below v4.heap.size v4 V4) := by rw [hV4]; exact (Below.refl _ _).alloc (Nat.le_refl _) _
  have HD4 : Hid (Below W.heap.size W V4) := HC4.out.trans (HY4.out.mono HC4.out.size)
  have HR5 : Hid (RdG inF 1 V4 V4.heap.size LA Z) := (HR4.out.below HY4.out).more HY4.out.size
  have HWB : Hid (w.heap.size ≤ W.heap.size) := HBW.out.size
  rw [← hV4, ← hb11]
  clear hV4 hb11
  by_cases h0 : E = 0
  case neg =>
    have he10 : E = 10 := by
      rw [← HE.out] at h0 ⊢
      unfold planE at h0 ⊢
      rw [if_neg (by rw [HV.out]; simp)] at h0 ⊢
      split at h0
      · exact absurd rfl h0
      · rename_i h; rw [if_neg h]
    have hw : W3 = E := by
      have h := HWR.out
      rw [waitR, if_neg (by rw [HE.out]; exact h0), HE.out] at h
      simp only [Value.tuple.injEq, Value.agg.injEq, Array.mk.injEq, List.cons.injEq, Value.int.injEq, true_and, and_true] at h
      exact h.2.symm
    have hz : n = 0 := by
      have h := HZ.out
      rw [intsP, if_neg (by rw [HE.out]; exact h0)] at h
      rw [← HN.out, ← h]; rfl
    subst hw
    subst he10
    subst hz
    clear h0
    go_wp2_with fail
    refine (awake08_any V4).mono ?_
    rintro e v5 ⟨rfl, hb5⟩
    go_wp2
    go_ret
    exact ⟨rfl, HBW.out.trans ((HD4.out.trans (hb5.mono HD4.out.size)).mono HWB.out)⟩
  subst h0
  obtain ⟨L, hL⟩ : ∃ L, planP p = L := ⟨_, rfl⟩
  have hzl : Z = intZ L := by rw [← HZ.out, intsP, if_pos HE.out, hL]
  have hln : L.length = n := by rw [← HN.out, hzl, intZ_len]
  subst hzl
  have hpl : plan p.sets (full p.n) p.bales.toNat = L := hL
  obtain ⟨hpr, hps⟩ := plan_pressing (p := p) (by rw [HEB.out]; exact hbl0)
  rw [hpl] at hpr hps
  have hwv : W0 = waitK p L fl 0 ∧ W1 = waitK p L fl 1 ∧ W2 = waitK p L fl 2 ∧ W3 = 0 := by
    have h := HWR.out
    rw [waitR, if_pos HE.out, hL, waitV, HEN.out] at h
    simp only [Value.tuple.injEq, Value.agg.injEq, Array.mk.injEq, List.cons.injEq, Value.int.injEq, true_and, and_true] at h
    exact ⟨h.1.1.symm, h.1.2.1.symm, h.1.2.2.symm, h.2.symm⟩
  obtain ⟨e0, e1, e2, e3⟩ := hwv
  subst e3
  have HWV : Hid (W0 = waitK p L fl 0 ∧ W1 = waitK p L fl 1 ∧ W2 = waitK p L fl 2) := ⟨e0, e1, e2⟩
  have HPR := Lib.hid hpr
  have HLN := Lib.hid hln
  have hnb : (n : Int) ≤ bales := by have := hpr.len; rw [hln, HEB.out] at this; exact this
  have hn5 : n ≤ 5 := by omega
  have HLB : Hid (∀ s ∈ L, s < 1024 ∧ 0 < s) := fun s hs => ⟨Nat.lt_of_lt_of_le (hpr.sure s hs).1 (PressD.n_pow HV.out), sure_pos (hpr.sure s hs).2⟩
  clear e0 e1 e2 hL hpl hpr hps hln
  go_wp2_with fail
  refine (draws45_any V4).mono ?_
  rintro e v5 ⟨⟨cn, us', hc0, hs0, rfl, hkc, hks⟩, hb5⟩
  have HB5 : Hid (Below V4.heap.size V4 v5) := hb5
  have HKC := Lib.hid hkc
  have HKS := Lib.hid hks
  have HU5 : Hid (UIn v5 w.heap.size ua ul us) := HU.out.turn HWB.out (Turn.of_below (S := fun _ => False) (HD4.out.trans (HB5.out.mono HD4.out.size))) (fun _ _ e => e)
  have hne : us' ≠ cn := fun e => by subst e; have h1 : v5.heap[us']? = _ := hks; have h2 : v5.heap[us']? = _ := hkc; rw [h1] at h2; injection h2 with h2; injection h2 with _ h2; cases h2
  obtain ⟨may, hmay⟩ : ∃ m, mm % 6 = m := ⟨_, rfl⟩
  have hm6 : may < 6 := by omega
  have tm : ((mm : Int)).tmod 6 = (may : Int) := by rw [Int.tmod_eq_emod_of_nonneg (by omega), ← hmay]; push_cast; rfl
  have mw : IntKind.i64.wrap (mm : Int) = (mm : Int) := IntWalk.i64_in _ (by omega)
  have mw2 : IntKind.i64.wrap (may : Int) = (may : Int) := IntWalk.i64_in _ (by omega)
  clear hb5 hkc hks hmay
  go_upto_region 9 with fail
  obtain ⟨V8, hV8⟩ : ∃ V, V = v5.alloc (.cells #[.slice none 0 0, .int .i64 (may : Nat), .int .i64 30, .int .i64 0] 75) := ⟨_, rfl⟩
  obtain ⟨gc, hgc⟩ : ∃ g, g = v5.heap.size := ⟨_, rfl⟩
  have hs8 : V8.heap.size = gc + 1 := by rw [hV8, hgc]; simp
  have HG8 : Hid (Blk V8 gc 75 #[.slice none 0 0, .int .i64 (may : Nat), .int .i64 30, .int .i64 0]) := by rw [hV8, hgc]; exact Blk.new v5 75 _
  have HB8 : Hid (Below v5.heap.size v5 V8) := by rw [hV8]; exact (Below.refl _ _).alloc (Nat.le_refl _) _
  rw [← hV8, ← hgc]
  have HGC := Lib.hid (And.intro hgc hs8)
  clear hV8 hgc hs8
  have z0 := HG8.out.cell 0
  have z1 := HG8.out.cell 1
  have z2 := HG8.out.cell 2
  have z3 := HG8.out.cell 3
  have zl := HG8.out.lt
  simp at z0 z1 z2 z3
  go_upto_region 10 with fail
  obtain ⟨V9, hV9⟩ : ∃ V, V = V8.alloc (.cells #[.slice none 0 0, .int .i64 (may : Nat), .int .i64 30, .int .i64 0] 75) := ⟨_, rfl⟩
  obtain ⟨gs, hgs⟩ : ∃ g, g = V8.heap.size := ⟨_, rfl⟩
  have hs9 : V9.heap.size = gs + 1 := by rw [hV9, hgs]; simp
  have HS9 : Hid (Blk V9 gs 75 #[.slice none 0 0, .int .i64 (may : Nat), .int .i64 30, .int .i64 0]) := by rw [hV9, hgs]; exact Blk.new V8 75 _
  have HB9 : Hid (Below V8.heap.size V8 V9) := by rw [hV9]; exact (Below.refl _ _).alloc (Nat.le_refl _) _
  rw [← hV9, ← hgs]
  clear hV9 z0 z1 z2 z3 zl
  obtain ⟨hgc, hs8⟩ := HGC.out
  have HB59 : Hid (Below v5.heap.size v5 V9) := HB8.out.trans (HB9.out.mono (by omega))
  have HB49 : Hid (Below V4.heap.size V4 V9) := HB5.out.trans (HB59.out.mono HB5.out.size)
  have HBW9 : Hid (Below W.heap.size W V9) := HD4.out.trans (HB49.out.mono HD4.out.size)
  have l1 := HKC.out.lt
  have l2 := HKS.out.lt
  have l3 := HD4.out.size
  have l4 := HB5.out.size
  have l5 := HWB.out
  have l6 := HB49.out.size
  have HT9 : Hid (TopW w V9 V9.heap.size gc gs cn us' may ul uc ua us 0 (.slice none 0 0) 0 [] (.slice none 0 0) 0 [] (.slice none 0 0) 0 []) :=
    { bw := HBW.out.trans (HBW9.out.mono HWB.out), hB := Nat.le_refl _, wB := by omega, hc := HG8.out.below HB9.out HG8.out.lt, hs := HS9.out, oc := own_nil _ _ _ _, os := own_nil _ _ _ _, ow := own_nil _ _ _ _, cnt := ⟨0, Nat.le_refl _, HKC.out.below HB59.out HKC.out.lt⟩, hu := HKS.out.below HB59.out HKS.out.lt, uin := HU5.out.turn (by omega) (Turn.of_below (S := fun _ => False) HB59.out) (fun _ _ e => e), low := ⟨by omega, by omega, by omega, by omega, by omega, by omega, by omega, by omega⟩, ne := ⟨by omega, by omega, by omega, by omega, by omega, hne⟩, sep := fun k => ⟨fun h => (by simp [Value.ownBlock] at h), fun h => (by simp [Value.ownBlock] at h)⟩ }
  have HL9 : Hid (RdG inF 1 V9 V4.heap.size LA (intZ L)) := HR5.out.below HB49.out
  have HX9 : Hid (V9.cell? ⟨b4, 0, none⟩ = some (Value.slice fa fl fc) ∧ b4 < W.heap.size) := ⟨(HF.out V9 HBW9.out).1, HX.out.lt⟩
  have HS49 : Hid (Blk V9 b11 41 #[.int .i64 W0, .int .i64 W1, .int .i64 W2] ∧ b11 < V4.heap.size) := ⟨HS4.out.below HB49.out HS4.out.lt, HS4.out.lt⟩
  have ha : 0 ≤ W0 ∧ W0 ≤ 100 ∧ 0 ≤ W1 ∧ W1 ≤ 100 ∧ 0 ≤ W2 ∧ W2 ≤ 100 := by
    obtain ⟨e0, e1, e2⟩ := HWV.out
    have q0 := waitK_bd p L 0 fl
    have q1 := waitK_bd p L 1 fl
    have q2 := waitK_bd p L 2 fl
    rw [← e0] at q0
    rw [← e1] at q1
    rw [← e2] at q2
    omega
  have HSUM : Hid ((((L.map popN).sum : Nat) : Int) + W0 + W1 + W2 = fl) := by
    obtain ⟨e0, e1, e2⟩ := HWV.out
    have h := top_sum HV.out HPR.out
    rw [HEN.out, ← e0, ← e1, ← e2] at h
    exact h
  have HOM : Hid (V4.heap.size ≤ gc ∧ V4.heap.size ≤ gs ∧ V4.heap.size ≤ cn ∧ V4.heap.size ≤ V9.heap.size) := ⟨by omega, by omega, by omega, by omega⟩
  have hbl4 : b4 < V4.heap.size := by have := HX9.out.2; omega
  clear hgc hs8 hgs hs9 l1 l2 l3 l4 l5 l6 hc0 hs0
  go_wp2
  refine top10 HT9.out HL9.out HOM.out HLN.out hn5 HLB.out hbb ?_
  intro K' xs vc vs vw hT' hB' hTL
  intros
  refine top11 hT' hTL hn5 (by omega) ((hB'.cell (p := ⟨b4, 0, none⟩) hbl4).trans HX9.out.1) (HS49.out.1.below hB' HS49.out.2) ha ?_
  rw [hTL.n, ← HLN.out, List.take_of_length_le (Nat.le_refl _)]
  exact HSUM.out
set_option maxRecDepth 100000 in
set_option maxHeartbeats 6400000 in
theorem TopLine_any (hbb : bb ≤ 65535) (hmm : mm ≤ 255) (w : World) (hP : PressIn w w.heap.size fa fl low top bales wa wl p) (hU : UIn w w.heap.size ua ul us) :
    Calls Try.prog 11 #[pressV fa fl fc low top bales wa wl wp, .int .u16 bb, .int .u8 mm, .slice ua ul uc] w fun e w' => e = .returned (.bool true) ∧ Below w.heap.size w w' := by
  have HP := Lib.hid hP
  have HU := Lib.hid hU
  have HEN : Hid (p.n = fl) := hP.efl
  have HEB : Hid (p.bales = bales) := hP.ebales
  clear hP hU
  unfold pressV
  go_enter Try.func11, Try.ntmps11
  conv => arg 2; arg 2; arg 2; change tpK 2
  obtain ⟨W, hW⟩ : ∃ W, W = w.alloc (Obj.cells #[Value.slice fa fl fc, Value.int IntKind.i64 low, Value.int IntKind.i64 top, Value.int IntKind.i64 bales, Value.slice wa wl wp] 25) := ⟨_, rfl⟩
  have HX : Hid (Blk W w.heap.size 25 #[Value.slice fa fl fc, Value.int IntKind.i64 low, Value.int IntKind.i64 top, Value.int IntKind.i64 bales, Value.slice wa wl wp]) := by rw [hW]; exact Blk.new w 25 _
  have HBW : Hid (Below w.heap.size w W) := by rw [hW]; exact (Below.refl _ _).alloc (Nat.le_refl _) _
  have HPW : Hid (PressIn W W.heap.size fa fl low top bales wa wl p) := HP.out.grow HBW.out
  have HF : Hid (∀ wv, Below W.heap.size W wv → wv.cell? ⟨w.heap.size, 0, none⟩ = some (Value.slice fa fl fc) ∧ wv.cell? ⟨w.heap.size, 1, none⟩ = some (Value.int IntKind.i64 low) ∧ wv.cell? ⟨w.heap.size, 2, none⟩ = some (Value.int IntKind.i64 top) ∧ wv.cell? ⟨w.heap.size, 3, none⟩ = some (Value.int IntKind.i64 bales) ∧ wv.cell? ⟨w.heap.size, 4, none⟩ = some (Value.slice wa wl wp) ∧ w.heap.size < wv.heap.size) := fun wv hb => by
    have h := HX.out.below hb HX.out.lt
    have a0 := h.cell 0
    have a1 := h.cell 1
    have a2 := h.cell 2
    have a3 := h.cell 3
    have a4 := h.cell 4
    simp at a0 a1 a2 a3 a4
    exact ⟨a0, a1, a2, a3, a4, h.lt⟩
  go_upto_region 1 with fail
  rw [← hW]
  clear hW
  obtain ⟨x0, x1, x2, x3, x4, xl⟩ := HF.out W (Below.refl _ _)
  have HX0 := Lib.hid HX.out
  by_cases h40 : fl ≤ 40 ∧ wl ≤ 40
  · obtain ⟨hf40, hw40⟩ := h40
    have d1 : decide (40 < fl) = false := by simp; omega
    have d2 : decide (40 < wl) = false := by simp; omega
    go_wp2_with fail
    all_goals
      refine (rpress_any (p := p) W (by exact HPW.out)).mono ?_
      rintro e v1 ⟨rfl, hb1⟩
      have HC1 := Lib.hid hb1
      clear hb1 x0 x1 x2 x3 x4 xl d1 d2
      cases hv : p.ok
      · go_wp2_with fail
        refine (awake08_any v1).mono ?_
        rintro e v2 ⟨rfl, hb2⟩
        go_wp2
        go_ret
        exact ⟨rfl, HBW.out.trans ((HC1.out.trans (hb2.mono HC1.out.size)).mono HBW.out.size)⟩
      · go_wp2
        exact top2 hbb hmm (HBW.out.trans (HC1.out.mono HBW.out.size)) (HX0.out.below HC1.out HX0.out.lt) (HPW.out.grow HC1.out) (HU.out.turn (Nat.le_refl _) (Turn.of_below (S := fun _ => False) (HBW.out.trans (HC1.out.mono HBW.out.size))) (fun _ _ e => e)) hv
  · go_wp2_with fail
    all_goals first
      | (refine (awake08_any W).mono ?_; rintro e v2 ⟨rfl, hb2⟩; go_wp2; go_ret; exact ⟨rfl, HBW.out.trans (hb2.mono HBW.out.size)⟩)
      | (exfalso; simp_all; omega)
end
end Go.Proofs.Ytbfjebglaimcmaa
