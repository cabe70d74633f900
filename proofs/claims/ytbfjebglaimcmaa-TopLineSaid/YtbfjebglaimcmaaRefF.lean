/- The walks of the reference's Press (all of it), the law's fine, heavy, sample. -/
import Derived.Test.YtbfjebglaimcmaaRefE
namespace Go.Proofs.Ytbfjebglaimcmaa
open Go.RowKit Go.Hav
section
variable {low top bales : Int} {fa wa : Option Addr} {fl fc wl wc : Nat} {p : PressD}
theorem rpress_any (w : World) (hP : PressIn w w.heap.size fa fl low top bales wa wl p) : Calls Try.prog 37 #[pressV fa fl fc low top bales wa wl wc] w fun e w' => e = .returned (.bool p.ok) ∧ Below w.heap.size w w' := by
  cases hh : p.headB
  · exact rpress_head w hP hh
  · have h := hh
    rw [headB_eq hP] at h
    simp only [Bool.and_eq_true, decide_eq_true_eq] at h
    obtain ⟨⟨⟨⟨h1, h2⟩, h3⟩, h4⟩, h5⟩ := h
    exact rpress_body w hP h1 h2 h3 h4 h5 hh
set_option maxRecDepth 100000 in
set_option maxHeartbeats 1600000 in
theorem fine_any (w : World) (hP : PressIn w w.heap.size fa fl low top bales wa wl p) :
    Calls Try.prog 29 #[pressV fa fl fc low top bales wa wl wc] w fun e w' => (∃ b, e = .returned (.bool b) ∧ (b = true → p.ok = true ∧ fl ≤ 40 ∧ wl ≤ 40)) ∧ Below w.heap.size w w' := by
  have HP := Lib.hid hP
  have HF := Lib.hid (fun w' => far_any (low := low) (top := top) (bales := bales) (fa := fa) (fc := fc) (wa := wa) (wc := wc) w' hP.mfl hP.mwl)
  clear hP
  unfold pressV
  go_enter Try.func29, Try.ntmps29
  go_wp2_with fail
  refine (HF.out _).mono ?_
  rintro e w1 ⟨⟨b, rfl, hb⟩, hb1⟩
  have HB1 : Hid (Below w.heap.size w w1) := ((Below.refl w.heap.size w).alloc (Nat.le_refl _) _).trans (hb1.mono (by simp))
  have HX1 : Hid (Blk w1 w.heap.size 25 #[Value.slice fa fl fc, Value.int IntKind.i64 low, Value.int IntKind.i64 top, Value.int IntKind.i64 bales, Value.slice wa wl wc]) := (Blk.new w 25 _).below hb1 (by simp)
  have x0 := HX1.out.cell 0
  have x1 := HX1.out.cell 1
  have x2 := HX1.out.cell 2
  have x3 := HX1.out.cell 3
  have x4 := HX1.out.cell 4
  simp at x0 x1 x2 x3 x4
  have hl := HX1.out.lt
  clear hb1
  cases b
  · have h40 := Lib.hid (hb rfl)
    clear hb
    go_wp2_with fail
    refine (rpress_any (p := p) _ (by exact HP.out.grow HB1.out)).mono ?_
    rintro e w2 ⟨rfl, hbw2⟩; obtain ⟨hcw2, hfw2⟩ := bcell hbw2; have hzw2 := hbw2.size; (try simp at hzw2)
    go_wp2
    go_ret
    exact ⟨⟨_, rfl, fun h => ⟨h, h40.out⟩⟩, HB1.out.trans (hbw2.mono HB1.out.size)⟩
  · go_wp2
    go_ret
    exact ⟨⟨_, rfl, fun h => by cases h⟩, HB1.out⟩
set_option maxRecDepth 100000 in
set_option maxHeartbeats 1600000 in
theorem heavy_any (m : Int) (w : World) (hP : PressIn w w.heap.size fa fl low top bales wa wl p) :
    Calls Try.prog 12 #[pressV fa fl fc low top bales wa wl wc, .int .i64 m] w fun e w' => (∃ b, e = .returned (.bool b) ∧ (b = false → (fl ≤ 40 ∧ wl ≤ 40) ∧ (p.ok = true → (fl : Int) ≤ m))) ∧ Below w.heap.size w w' := by
  have HP := Lib.hid hP
  have HF := Lib.hid (fun w' => far_any (low := low) (top := top) (bales := bales) (fa := fa) (fc := fc) (wa := wa) (wc := wc) w' hP.mfl hP.mwl)
  have hm := hP.mfl
  clear hP
  unfold pressV
  go_enter Try.func12, Try.ntmps12
  go_wp2_with fail
  refine (HF.out _).mono ?_
  rintro e w1 ⟨⟨b, rfl, hb⟩, hb1⟩
  have HB1 : Hid (Below w.heap.size w w1) := ((Below.refl w.heap.size w).alloc (Nat.le_refl _) _).trans (hb1.mono (by simp))
  have HX1 : Hid (Blk w1 w.heap.size 25 #[Value.slice fa fl fc, Value.int IntKind.i64 low, Value.int IntKind.i64 top, Value.int IntKind.i64 bales, Value.slice wa wl wc]) := (Blk.new w 25 _).below hb1 (by simp)
  have x0 := HX1.out.cell 0
  have x1 := HX1.out.cell 1
  have x2 := HX1.out.cell 2
  have x3 := HX1.out.cell 3
  have x4 := HX1.out.cell 4
  simp at x0 x1 x2 x3 x4
  have hl := HX1.out.lt
  clear hb1
  cases b
  · have h40 := Lib.hid (hb rfl)
    clear hb
    go_wp2_with fail
    refine (rpress_any (p := p) _ (by exact HP.out.grow HB1.out)).mono ?_
    cases hv : p.ok
    · rintro e w2 ⟨rfl, hb2⟩
      have HB2 : Hid (Below w.heap.size w w2) := HB1.out.trans (hb2.mono HB1.out.size)
      clear hb2
      go_wp2
      go_ret
      exact ⟨⟨_, rfl, fun _ => ⟨h40.out, fun h => by rw [hv] at h; cases h⟩⟩, HB2.out⟩
    · rintro e w2 ⟨rfl, hb2⟩
      have HB2 : Hid (Below w.heap.size w w2) := HB1.out.trans (hb2.mono HB1.out.size)
      have y0 : w2.cell? ⟨w.heap.size, 0, none⟩ = some (.slice fa fl fc) := (hb2.cell (p := ⟨w.heap.size, 0, none⟩) hl).trans x0
      have hl2 : w.heap.size < w2.heap.size := by have := hb2.size; omega
      clear hb2
      go_wp2
      go_ret
      exact ⟨⟨_, rfl, fun h => ⟨h40.out, fun _ => by simp at h; omega⟩⟩, HB2.out⟩
  · go_wp2
    go_ret
    exact ⟨⟨_, rfl, fun h => by cases h⟩, HB1.out⟩
end
/-- The press of the document's examples. -/
def sampD (l : List Ba) : PressD := { fl := [⟨⟨4, 5⟩, 0⟩, ⟨⟨5, 5⟩, 0⟩, ⟨⟨3, 4⟩, 0⟩, ⟨⟨6, 7⟩, 1⟩, ⟨⟨4, 4⟩, 1⟩, ⟨⟨2, 3⟩, 0⟩], low := 9, top := 12, bales := 3, weighed := l }
theorem RdG.of_blk {α : Type} {f : α → List Value} {sz : Nat} (hsz : ∀ x, (f x).length = sz) {w : World} {B g : Nat} {t : TypeId} {l : List α} (h : Blk w g t (l.flatMap f).toArray) (hB : g < B) : RdG f sz w B (some ⟨g, 0, none⟩) l := by
  intro k x hx
  refine ⟨g, 0, rfl, hB, fun i u hu => ?_⟩
  have hi : i < sz := by rw [← hsz x]; exact (List.getElem?_eq_some_iff.1 hu).1
  rw [Nat.zero_add, h.cell, List.getElem?_toArray, flat_get f sz hsz l k i hi, hx]
  exact hu
section
variable {wa : Option Addr} {wl wc : Nat}
set_option maxRecDepth 100000 in
set_option maxHeartbeats 1600000 in
theorem sample_any (l : List Ba) (hl : l.length = wl) (h4 : wl ≤ 4) (w : World) (hR : RdG baF 3 w w.heap.size wa l) :
    Calls Try.prog 53 #[.slice wa wl wc] w fun e w' => (∃ g, e = .returned (pressV (some ⟨g, 0, none⟩) 6 6 9 12 3 wa wl wc) ∧ PressIn w' w'.heap.size (some ⟨g, 0, none⟩) 6 9 12 3 wa wl (sampD l)) ∧ Below w.heap.size w w' := by
  have HR := Lib.hid hR
  have HL := Lib.hid hl
  clear hR hl
  go_enter Try.func53, Try.ntmps53
  go_wp2_with fail
  refine (fleece_any _ _ _ _).mono ?_; rintro e w1 ⟨rfl, hb1⟩
  have HZ1 : Hid (Blk w1 w.heap.size 25 #[.slice none 0 0, .int .i64 0, .int .i64 0, .int .i64 0, .slice none 0 0]) := (Blk.new_ rfl _ _).below hb1 (by simp)
  have HB1 : Hid (Below w.heap.size w w1) := ((Below.refl w.heap.size w).alloc (Nat.le_refl _) _).trans (hb1.mono (by simp))
  clear hb1
  go_wp2_with fail
  refine (fleece_any _ _ _ _).mono ?_; rintro e w2 ⟨rfl, hb2⟩
  have HZ2 := Lib.hid (HZ1.out.below hb2 HZ1.out.lt)
  have HB2 : Hid (Below w.heap.size w w2) := HB1.out.trans (hb2.mono HB1.out.size)
  clear hb2
  go_wp2_with fail
  refine (fleece_any _ _ _ _).mono ?_; rintro e w3 ⟨rfl, hb3⟩
  have HZ3 := Lib.hid (HZ2.out.below hb3 HZ2.out.lt)
  have HB3 : Hid (Below w.heap.size w w3) := HB2.out.trans (hb3.mono HB2.out.size)
  clear hb3
  go_wp2_with fail
  refine (fleece_any _ _ _ _).mono ?_; rintro e w4 ⟨rfl, hb4⟩
  have HZ4 := Lib.hid (HZ3.out.below hb4 HZ3.out.lt)
  have HB4 : Hid (Below w.heap.size w w4) := HB3.out.trans (hb4.mono HB3.out.size)
  clear hb4
  go_wp2_with fail
  refine (fleece_any _ _ _ _).mono ?_; rintro e w5 ⟨rfl, hb5⟩
  have HZ5 := Lib.hid (HZ4.out.below hb5 HZ4.out.lt)
  have HB5 : Hid (Below w.heap.size w w5) := HB4.out.trans (hb5.mono HB4.out.size)
  clear hb5
  go_wp2_with fail
  refine (fleece_any _ _ _ _).mono ?_; rintro e w6 ⟨rfl, hb6⟩
  have HZ6 := Lib.hid (HZ5.out.below hb6 HZ5.out.lt)
  have HB6 : Hid (Below w.heap.size w w6) := HB5.out.trans (hb6.mono HB5.out.size)
  clear hb6
  have hz0 := HZ6.out.cell 0
  have hz1 := HZ6.out.cell 1
  have hz2 := HZ6.out.cell 2
  have hz3 := HZ6.out.cell 3
  have hz4 := HZ6.out.cell 4
  have fz0 := HZ6.out.frozen 0
  have fz1 := HZ6.out.frozen 1
  have fz2 := HZ6.out.frozen 2
  have fz3 := HZ6.out.frozen 3
  have fz4 := HZ6.out.frozen 4
  simp at hz0 hz1 hz2 hz3 hz4
  have hlt := HZ6.out.lt
  go_wp2
  have KZ := (((((HZ6.out.set_ 0 (.slice (some ⟨w6.heap.size, 0, none⟩) 6 6)).set_ 1 (.int .i64 9)).set_ 2 (.int .i64 12)).set_ 3 (.int .i64 3)).set_ 4 (.slice wa wl wc)).alloc (.cells #[.int .i64 4, .int .i64 5, .int .i64 0, .int .i64 5, .int .i64 5, .int .i64 0, .int .i64 3, .int .i64 4, .int .i64 0, .int .i64 6, .int .i64 7, .int .i64 1, .int .i64 4, .int .i64 4, .int .i64 1, .int .i64 2, .int .i64 3, .int .i64 0] 58)
  have KF : Blk ((((((w6.setCell ⟨w.heap.size, 0, none⟩ (.slice (some ⟨w6.heap.size, 0, none⟩) 6 6)).setCell ⟨w.heap.size, 1, none⟩ (.int .i64 9)).setCell ⟨w.heap.size, 2, none⟩ (.int .i64 12)).setCell ⟨w.heap.size, 3, none⟩ (.int .i64 3)).setCell ⟨w.heap.size, 4, none⟩ (.slice wa wl wc)).alloc (.cells #[.int .i64 4, .int .i64 5, .int .i64 0, .int .i64 5, .int .i64 5, .int .i64 0, .int .i64 3, .int .i64 4, .int .i64 0, .int .i64 6, .int .i64 7, .int .i64 1, .int .i64 4, .int .i64 4, .int .i64 1, .int .i64 2, .int .i64 3, .int .i64 0] 58)) w6.heap.size 58 #[.int .i64 4, .int .i64 5, .int .i64 0, .int .i64 5, .int .i64 5, .int .i64 0, .int .i64 3, .int .i64 4, .int .i64 0, .int .i64 6, .int .i64 7, .int .i64 1, .int .i64 4, .int .i64 4, .int .i64 1, .int .i64 2, .int .i64 3, .int .i64 0] := Blk.new_ (by simp) 58 _
  have KB := (setCell_below (setCell_below (setCell_below (setCell_below (setCell_below HB6.out (Nat.le_refl _) 0 (.slice (some ⟨w6.heap.size, 0, none⟩) 6 6)) (Nat.le_refl _) 1 (.int .i64 9)) (Nat.le_refl _) 2 (.int .i64 12)) (Nat.le_refl _) 3 (.int .i64 3)) (Nat.le_refl _) 4 (.slice wa wl wc)).alloc (by simp; omega) (.cells #[.int .i64 4, .int .i64 5, .int .i64 0, .int .i64 5, .int .i64 5, .int .i64 0, .int .i64 3, .int .i64 4, .int .i64 0, .int .i64 6, .int .i64 7, .int .i64 1, .int .i64 4, .int .i64 4, .int .i64 1, .int .i64 2, .int .i64 3, .int .i64 0] 58)
  generalize ((((((w6.setCell ⟨w.heap.size, 0, none⟩ (.slice (some ⟨w6.heap.size, 0, none⟩) 6 6)).setCell ⟨w.heap.size, 1, none⟩ (.int .i64 9)).setCell ⟨w.heap.size, 2, none⟩ (.int .i64 12)).setCell ⟨w.heap.size, 3, none⟩ (.int .i64 3)).setCell ⟨w.heap.size, 4, none⟩ (.slice wa wl wc)).alloc (.cells #[.int .i64 4, .int .i64 5, .int .i64 0, .int .i64 5, .int .i64 5, .int .i64 0, .int .i64 3, .int .i64 4, .int .i64 0, .int .i64 6, .int .i64 7, .int .i64 1, .int .i64 4, .int .i64 4, .int .i64 1, .int .i64 2, .int .i64 3, .int .i64 0] 58)) = W at *
  have k0 := KZ.cell 0
  have k1 := KZ.cell 1
  have k2 := KZ.cell 2
  have k3 := KZ.cell 3
  have k4 := KZ.cell 4
  simp at k0 k1 k2 k3 k4
  refine bodyPost_ret (v := pressV (some ⟨w6.heap.size, 0, none⟩) 6 6 9 12 3 wa wl wc) (by simp [results, Try.results53, go_sem, k0, k1, k2, k3, k4, pressV]) rfl ⟨⟨w6.heap.size, rfl, ?_⟩, KB⟩
  refine ⟨rfl, rfl, rfl, rfl, HL.out, by omega, by omega, RdG.of_blk (t := 58) flF_len KF KF.lt, (HR.out.below KB).more KB.size⟩
end
end Go.Proofs.Ytbfjebglaimcmaa
