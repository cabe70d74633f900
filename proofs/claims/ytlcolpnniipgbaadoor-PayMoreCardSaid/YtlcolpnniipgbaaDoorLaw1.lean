/- The walks of the law's small functions: far, span, call, paid, sample. -/
import Derived.Test.YtlcolpnniipgbaaDoorApi7
namespace Go.Proofs.YtlcolpnniipgbaaDoor
open Go.RowKit Go.Hav
theorem RdG.of_blk {α : Type} {f : α → List Value} {sz : Nat} (hsz : ∀ x, (f x).length = sz) {w : World} {B g : Nat} {t : TypeId} {l : List α} (h : Blk w g t (l.flatMap f).toArray) (hB : g < B) : RdG f sz w B (some ⟨g, 0, none⟩) l := by
  intro k x hx
  refine ⟨g, 0, rfl, hB, fun i u hu => ?_⟩
  have hi : i < sz := by rw [← hsz x]; exact (List.getElem?_eq_some_iff.1 hu).1
  rw [Nat.zero_add, h.cell, List.getElem?_toArray, flat_get f sz hsz l k i hi, hx]
  exact hu
theorem lspan_any (lo hi : Int) (w : World) : Calls Tryd.prog 37 #[.int .i64 lo, .int .i64 hi] w fun e w' => e = .returned (spV ⟨lo, hi⟩) ∧ Below w.heap.size w w' := by
  go_enter Tryd.func37, Tryd.ntmps37
  go_wp2
  refine bodyPost_ret (v := spV ⟨lo, hi⟩) (by simp [results, Tryd.results37, go_sem, spV]) rfl ⟨rfl, (by repeat (first | exact Below.refl _ _ | assumption | refine Below.drew ?_ | refine below_drewN ?_ _ | refine Below.alloc ?_ (by (try simp) <;> omega) _ | refine Below.setCell ?_ (by (try simp) <;> omega) _ | refine Below.trans ?_ (Below.mono (by assumption) (by (try simp) <;> omega))))⟩
theorem lcall_any (who run lo hi : Int) (b : Bool) (w : World) : Calls Tryd.prog 72 #[.int .i64 who, .int .i64 run, .int .i64 lo, .int .i64 hi, .bool b] w fun e w' => e = .returned (.agg #[.int .i64 who, .int .i64 run, .int .i64 lo, .int .i64 hi, .bool b]) ∧ Below w.heap.size w w' := by
  go_enter Tryd.func72, Tryd.ntmps72
  go_wp2_with fail
  refine (lspan_any lo hi _).mono ?_
  unfold spV
  rintro e w1 ⟨rfl, hbw1⟩; obtain ⟨hcw1, hfw1⟩ := bcell hbw1; have hzw1 := hbw1.size; (try simp at hzw1)
  go_wp2
  have hk := (((((Blk.new_ (w := w) rfl 55 #[.int .i64 0, .int .i64 0, .int .i64 0, .int .i64 0, .bool false]).below hbw1 (by simp)).set_ 0 (.int .i64 who)).set_ 1 (.int .i64 run)).set_ 2 (.int .i64 lo)).set_ 3 (.int .i64 hi) |>.set_ 4 (.bool b)
  have e0 := hk.cell 0
  have e1 := hk.cell 1
  have e2 := hk.cell 2
  have e3 := hk.cell 3
  have e4 := hk.cell 4
  simp at e0 e1 e2 e3 e4
  refine bodyPost_ret (v := .agg #[.int .i64 who, .int .i64 run, .int .i64 lo, .int .i64 hi, .bool b]) (by simp [results, Tryd.results72, go_sem, e0, e1, e2, e3, e4]) rfl ⟨rfl, ?_⟩
  exact setK_below (setK_below (setK_below (setK_below (setK_below (((Below.refl w.heap.size w).alloc (Nat.le_refl _) _).trans (hbw1.mono (by simp))) (Nat.le_refl _) 0 _) (Nat.le_refl _) 1 _) (Nat.le_refl _) 2 _) (Nat.le_refl _) 3 _) (Nat.le_refl _) 4 _
theorem lpaid_any (who run pence : Int) (w : World) : Calls Tryd.prog 73 #[.int .i64 who, .int .i64 run, .int .i64 pence] w fun e w' => e = .returned (.agg #[.int .i64 who, .int .i64 run, .int .i64 pence]) ∧ Below w.heap.size w w' := by
  go_enter Tryd.func73, Tryd.ntmps73
  go_wp2
  refine bodyPost_ret (v := .agg #[.int .i64 who, .int .i64 run, .int .i64 pence]) (by simp [results, Tryd.results73, go_sem]) rfl ⟨rfl, (by repeat (first | exact Below.refl _ _ | assumption | refine Below.drew ?_ | refine below_drewN ?_ _ | refine Below.alloc ?_ (by (try simp) <;> omega) _ | refine Below.setCell ?_ (by (try simp) <;> omega) _ | refine Below.trans ?_ (Below.mono (by assumption) (by (try simp) <;> omega))))⟩
section
variable {people rate bill : Int} {ra ca da pa : Option Addr} {rl rc cl cc dl dc pl pc : Nat} {p : PayD}
theorem far_any (w : World) (m1 : rl ≤ 9223372036854775807) (m2 : cl ≤ 9223372036854775807) (m3 : dl ≤ 9223372036854775807) (m4 : pl ≤ 9223372036854775807) :
    Calls Tryd.prog 33 #[payV people ra rl rc ca cl cc rate bill da dl dc pa pl pc] w fun e w' => (∃ b, e = .returned (.bool b) ∧ (b = false → rl ≤ 40 ∧ cl ≤ 40 ∧ dl ≤ 40 ∧ pl ≤ 40)) ∧ Below w.heap.size w w' := by
  obtain ⟨m, hm, hle⟩ : ∃ m : Int, (∀ w, (Builtin.max_ #[3, 3, 3, 3] 3 #[.int .i64 (rl : Int), .int .i64 (cl : Int), .int .i64 (dl : Int), .int .i64 (pl : Int)]).run Tryd.prog w = .ok (.int .i64 m) w) ∧ Hid (decide (40 < m) = false → rl ≤ 40 ∧ cl ≤ 40 ∧ dl ≤ 40 ∧ pl ≤ 40) := by
    refine ⟨max (max (max (rl : Int) cl) dl) pl, fun w => ?_, show _ → _ from fun h => by simp at h; omega⟩
    have e : ∀ a b : Int, (if b > a then b else a) = max a b := fun a b => by split <;> omega
    have e2 : (if rl < cl then (cl : Int) else (rl : Int)) = max (rl : Int) cl := by split <;> omega
    simp [Builtin.max_, Builtin.max2, e, e2]
  unfold payV
  go_enter Tryd.func33, Tryd.ntmps33
  go_wp2
  go_ret
  exact ⟨⟨_, rfl, hle.out⟩, (by repeat (first | exact Below.refl _ _ | assumption | refine Below.drew ?_ | refine below_drewN ?_ _ | refine Below.alloc ?_ (by (try simp) <;> omega) _ | refine Below.setCell ?_ (by (try simp) <;> omega) _ | refine Below.trans ?_ (Below.mono (by assumption) (by (try simp) <;> omega))))⟩
end
theorem seven_far {w : World} {g b : Nat} {t : TypeId} {cs : Array Value} (h : Blk w g t cs) (hne : g ≠ b) (u0 u1 u2 u3 u4 u5 u6 : Value) : Blk (((((((w.setCell ⟨b, 0, none⟩ u0).setCell ⟨b, 1, none⟩ u1).setCell ⟨b, 2, none⟩ u2).setCell ⟨b, 3, none⟩ u3).setCell ⟨b, 4, none⟩ u4).setCell ⟨b, 5, none⟩ u5).setCell ⟨b, 6, none⟩ u6) g t cs :=
  ((((((h.far (p := ⟨b, 0, none⟩) hne u0).far (p := ⟨b, 1, none⟩) hne u1).far (p := ⟨b, 2, none⟩) hne u2).far (p := ⟨b, 3, none⟩) hne u3).far (p := ⟨b, 4, none⟩) hne u4).far (p := ⟨b, 5, none⟩) hne u5).far (p := ⟨b, 6, none⟩) hne u6
theorem seven_set {w : World} {b : Nat} {t : TypeId} {z0 z1 z2 z3 z4 z5 z6 : Value} (h : Blk w b t #[z0, z1, z2, z3, z4, z5, z6]) (u0 u1 u2 u3 u4 u5 u6 : Value) : Blk (((((((w.setCell ⟨b, 0, none⟩ u0).setCell ⟨b, 1, none⟩ u1).setCell ⟨b, 2, none⟩ u2).setCell ⟨b, 3, none⟩ u3).setCell ⟨b, 4, none⟩ u4).setCell ⟨b, 5, none⟩ u5).setCell ⟨b, 6, none⟩ u6) b t #[u0, u1, u2, u3, u4, u5, u6] := by
  have h7 := ((((((h.set_ 0 u0).set_ 1 u1).set_ 2 u2).set_ 3 u3).set_ 4 u4).set_ 5 u5).set_ 6 u6
  simpa using h7
theorem seven_below {w w' : World} {B b : Nat} (h : Below B w w') (hb : B ≤ b) (u0 u1 u2 u3 u4 u5 u6 : Value) : Below B w (((((((w'.setCell ⟨b, 0, none⟩ u0).setCell ⟨b, 1, none⟩ u1).setCell ⟨b, 2, none⟩ u2).setCell ⟨b, 3, none⟩ u3).setCell ⟨b, 4, none⟩ u4).setCell ⟨b, 5, none⟩ u5).setCell ⟨b, 6, none⟩ u6) :=
  setK_below (setK_below (setK_below (setK_below (setK_below (setK_below (setK_below h hb 0 u0) hb 1 u1) hb 2 u2) hb 3 u3) hb 4 u4) hb 5 u5) hb 6 u6
/-- The pay of the document's examples. -/
def sampD (b : Bool) : PayD := { people := 2, runs := [⟨50, 52⟩, ⟨20, 25⟩], calls := [⟨0, 0, ⟨28, 30⟩, false⟩, ⟨1, 0, ⟨20, 24⟩, false⟩, ⟨0, 1, ⟨22, 22⟩, false⟩, ⟨0, 0, ⟨26, 28⟩, false⟩, ⟨1, 1, ⟨15, 25⟩, b⟩], rate := 150, bill := 100, days := [6, 3], paid := [⟨0, 0, 30⟩, ⟨1, 0, 36⟩, ⟨0, 0, 5⟩, ⟨1, 1, 5⟩] }
theorem sample_any (b : Bool) (w : World) : Calls Tryd.prog 40 #[.bool b] w fun e w' => (∃ g1 g2 g3 g4 rc cc dc pc, e = .returned (payV 2 (some ⟨g1, 0, none⟩) 2 rc (some ⟨g2, 0, none⟩) 5 cc 150 100 (some ⟨g3, 0, none⟩) 2 dc (some ⟨g4, 0, none⟩) 4 pc) ∧
    PayIn w' w'.heap.size 2 (some ⟨g1, 0, none⟩) 2 (some ⟨g2, 0, none⟩) 5 150 100 (some ⟨g3, 0, none⟩) 2 (some ⟨g4, 0, none⟩) 4 (sampD b)) ∧ Below w.heap.size w w' := by
  go_enter Tryd.func40, Tryd.ntmps40
  have hsz0 : w.heap.size < w.heap.size + 1 := by omega
  go_wp2_with fail
  refine (lspan_any _ _ _).mono ?_; unfold spV; rintro e w1 ⟨rfl, hb1⟩
  have HZ1 : Hid (Blk w1 w.heap.size 27 #[.int .i64 0, .slice none 0 0, .slice none 0 0, .int .i64 0, .int .i64 0, .slice none 0 0, .slice none 0 0]) := (Blk.new_ rfl _ _).below hb1 (by simp)
  have HB1 : Hid (Below w.heap.size w w1) := ((Below.refl w.heap.size w).alloc (Nat.le_refl _) _).trans (hb1.mono (by simp))
  clear hb1
  go_wp2_with fail
  refine (lspan_any _ _ _).mono ?_; unfold spV; rintro e w2 ⟨rfl, hb2⟩
  have HZ2 := Lib.hid (HZ1.out.below hb2 HZ1.out.lt)
  have HB2 : Hid (Below w.heap.size w w2) := HB1.out.trans (hb2.mono HB1.out.size)
  clear hb2
  go_wp2_with fail
  refine (lcall_any _ _ _ _ _ _).mono ?_; rintro e w3 ⟨rfl, hb3⟩
  have HZ3 := Lib.hid ((HZ2.out.alloc _).below hb3 (by have := HZ2.out.lt; simp; omega))
  have HR3 : Hid (Blk w3 (w2.heap.size) 34 #[.int .i64 50, .int .i64 52, .int .i64 20, .int .i64 25]) := (Blk.new_ (by simp) 34 #[.int .i64 50, .int .i64 52, .int .i64 20, .int .i64 25]).below hb3 (by (try simp) <;> omega)
  have hs2 : w.heap.size ≤ w2.heap.size := HB2.out.size
  have HB3 : Hid (Below w.heap.size w w3) := (HB2.out.alloc (by (try simp) <;> omega) _).trans (hb3.mono (by (try simp) <;> omega))
  clear hb3
  go_wp2_with fail
  refine (lcall_any _ _ _ _ _ _).mono ?_; rintro e w4 ⟨rfl, hb4⟩
  have HZ4 := Lib.hid (HZ3.out.below hb4 HZ3.out.lt)
  have HR4 := Lib.hid (HR3.out.below hb4 HR3.out.lt)
  have HB4 : Hid (Below w.heap.size w w4) := HB3.out.trans (hb4.mono HB3.out.size)
  clear hb4
  go_wp2_with fail
  refine (lcall_any _ _ _ _ _ _).mono ?_; rintro e w5 ⟨rfl, hb5⟩
  have HZ5 := Lib.hid (HZ4.out.below hb5 HZ4.out.lt)
  have HR5 := Lib.hid (HR4.out.below hb5 HR4.out.lt)
  have HB5 : Hid (Below w.heap.size w w5) := HB4.out.trans (hb5.mono HB4.out.size)
  clear hb5
  go_wp2_with fail
  refine (lcall_any _ _ _ _ _ _).mono ?_; rintro e w6 ⟨rfl, hb6⟩
  have HZ6 := Lib.hid (HZ5.out.below hb6 HZ5.out.lt)
  have HR6 := Lib.hid (HR5.out.below hb6 HR5.out.lt)
  have HB6 : Hid (Below w.heap.size w w6) := HB5.out.trans (hb6.mono HB5.out.size)
  clear hb6
  go_wp2_with fail
  refine (lcall_any _ _ _ _ _ _).mono ?_; rintro e w7 ⟨rfl, hb7⟩
  have HZ7 := Lib.hid (HZ6.out.below hb7 HZ6.out.lt)
  have HR7 := Lib.hid (HR6.out.below hb7 HR6.out.lt)
  have HB7 : Hid (Below w.heap.size w w7) := HB6.out.trans (hb7.mono HB6.out.size)
  clear hb7
  go_wp2_with fail
  refine (lpaid_any _ _ _ _).mono ?_; rintro e w8 ⟨rfl, hb8⟩
  have HZ8 := Lib.hid (((HZ7.out.alloc _).alloc _).below hb8 (by have := HZ7.out.lt; simp; omega))
  have HR8 := Lib.hid (((HR7.out.alloc _).alloc _).below hb8 (by have := HR7.out.lt; simp; omega))
  have HC8 : Hid (Blk w8 (w7.heap.size) 55 #[.int .i64 0, .int .i64 0, .int .i64 28, .int .i64 30, .bool false, .int .i64 1, .int .i64 0, .int .i64 20, .int .i64 24, .bool false, .int .i64 0, .int .i64 1, .int .i64 22, .int .i64 22, .bool false, .int .i64 0, .int .i64 0, .int .i64 26, .int .i64 28, .bool false, .int .i64 1, .int .i64 1, .int .i64 15, .int .i64 25, .bool b]) := ((Blk.new_ (by simp) 55 #[.int .i64 0, .int .i64 0, .int .i64 28, .int .i64 30, .bool false, .int .i64 1, .int .i64 0, .int .i64 20, .int .i64 24, .bool false, .int .i64 0, .int .i64 1, .int .i64 22, .int .i64 22, .bool false, .int .i64 0, .int .i64 0, .int .i64 26, .int .i64 28, .bool false, .int .i64 1, .int .i64 1, .int .i64 15, .int .i64 25, .bool b]).alloc _).below hb8 (by (try simp) <;> omega)
  have HD8 : Hid (Blk w8 (w7.heap.size + 1) 3 #[.int .i64 6, .int .i64 3]) := (Blk.new_ (by simp) 3 #[.int .i64 6, .int .i64 3]).below hb8 (by (try simp) <;> omega)
  have hs7 : w.heap.size ≤ w7.heap.size := HB7.out.size
  have HB8 : Hid (Below w.heap.size w w8) := ((HB7.out.alloc (by (try simp) <;> omega) _).alloc (by (try simp) <;> omega) _).trans (hb8.mono (by (try simp) <;> omega))
  clear hb8
  go_wp2_with fail
  refine (lpaid_any _ _ _ _).mono ?_; rintro e w9 ⟨rfl, hb9⟩
  have HZ9 := Lib.hid (HZ8.out.below hb9 HZ8.out.lt)
  have HR9 := Lib.hid (HR8.out.below hb9 HR8.out.lt)
  have HC9 := Lib.hid (HC8.out.below hb9 HC8.out.lt)
  have HD9 := Lib.hid (HD8.out.below hb9 HD8.out.lt)
  have HB9 : Hid (Below w.heap.size w w9) := HB8.out.trans (hb9.mono HB8.out.size)
  clear hb9
  go_wp2_with fail
  refine (lpaid_any _ _ _ _).mono ?_; rintro e w10 ⟨rfl, hb10⟩
  have HZ10 := Lib.hid (HZ9.out.below hb10 HZ9.out.lt)
  have HR10 := Lib.hid (HR9.out.below hb10 HR9.out.lt)
  have HC10 := Lib.hid (HC9.out.below hb10 HC9.out.lt)
  have HD10 := Lib.hid (HD9.out.below hb10 HD9.out.lt)
  have HB10 : Hid (Below w.heap.size w w10) := HB9.out.trans (hb10.mono HB9.out.size)
  clear hb10
  go_wp2_with fail
  refine (lpaid_any _ _ _ _).mono ?_; rintro e w11 ⟨rfl, hb11⟩
  have HZ11 := Lib.hid (HZ10.out.below hb11 HZ10.out.lt)
  have HR11 := Lib.hid (HR10.out.below hb11 HR10.out.lt)
  have HC11 := Lib.hid (HC10.out.below hb11 HC10.out.lt)
  have HD11 := Lib.hid (HD10.out.below hb11 HD10.out.lt)
  have HB11 : Hid (Below w.heap.size w w11) := HB10.out.trans (hb11.mono HB10.out.size)
  clear hb11
  have hz0 := HZ11.out.cell 0
  have hz1 := HZ11.out.cell 1
  have hz2 := HZ11.out.cell 2
  have hz3 := HZ11.out.cell 3
  have hz4 := HZ11.out.cell 4
  have hz5 := HZ11.out.cell 5
  have hz6 := HZ11.out.cell 6
  simp at hz0 hz1 hz2 hz3 hz4 hz5 hz6
  have hf0 := HZ11.out.frozen 0
  have hf1 := HZ11.out.frozen 1
  have hf2 := HZ11.out.frozen 2
  have hf3 := HZ11.out.frozen 3
  have hf4 := HZ11.out.frozen 4
  have hf5 := HZ11.out.frozen 5
  have hf6 := HZ11.out.frozen 6
  have hzl := HZ11.out.lt
  go_wp2
  have hs7 := HB7.out.size
  have hs2' := HB2.out.size
  have hr1 := HR11.out.lt
  have hc1 := HC11.out.lt
  have hd1 := HD11.out.lt
  have KZ := (seven_set HZ11.out (.int .i64 2) (.slice (some ⟨w2.heap.size, 0, none⟩) 2 2) (.slice (some ⟨w7.heap.size, 0, none⟩) 5 5) (.int .i64 150) (.int .i64 100) (.slice (some ⟨w7.heap.size + 1, 0, none⟩) 2 2) (.slice (some ⟨w11.heap.size, 0, none⟩) 4 4)).alloc (.cells #[.int .i64 0, .int .i64 0, .int .i64 30, .int .i64 1, .int .i64 0, .int .i64 36, .int .i64 0, .int .i64 0, .int .i64 5, .int .i64 1, .int .i64 1, .int .i64 5] 49)
  have hZ2 := HZ2.out.lt
  have hZ7 := HZ7.out.lt
  have KR := (seven_far HR11.out (b := w.heap.size) (by omega) (.int .i64 2) (.slice (some ⟨w2.heap.size, 0, none⟩) 2 2) (.slice (some ⟨w7.heap.size, 0, none⟩) 5 5) (.int .i64 150) (.int .i64 100) (.slice (some ⟨w7.heap.size + 1, 0, none⟩) 2 2) (.slice (some ⟨w11.heap.size, 0, none⟩) 4 4)).alloc (.cells #[.int .i64 0, .int .i64 0, .int .i64 30, .int .i64 1, .int .i64 0, .int .i64 36, .int .i64 0, .int .i64 0, .int .i64 5, .int .i64 1, .int .i64 1, .int .i64 5] 49)
  have KC := (seven_far HC11.out (b := w.heap.size) (by omega) (.int .i64 2) (.slice (some ⟨w2.heap.size, 0, none⟩) 2 2) (.slice (some ⟨w7.heap.size, 0, none⟩) 5 5) (.int .i64 150) (.int .i64 100) (.slice (some ⟨w7.heap.size + 1, 0, none⟩) 2 2) (.slice (some ⟨w11.heap.size, 0, none⟩) 4 4)).alloc (.cells #[.int .i64 0, .int .i64 0, .int .i64 30, .int .i64 1, .int .i64 0, .int .i64 36, .int .i64 0, .int .i64 0, .int .i64 5, .int .i64 1, .int .i64 1, .int .i64 5] 49)
  have KD := (seven_far HD11.out (b := w.heap.size) (by omega) (.int .i64 2) (.slice (some ⟨w2.heap.size, 0, none⟩) 2 2) (.slice (some ⟨w7.heap.size, 0, none⟩) 5 5) (.int .i64 150) (.int .i64 100) (.slice (some ⟨w7.heap.size + 1, 0, none⟩) 2 2) (.slice (some ⟨w11.heap.size, 0, none⟩) 4 4)).alloc (.cells #[.int .i64 0, .int .i64 0, .int .i64 30, .int .i64 1, .int .i64 0, .int .i64 36, .int .i64 0, .int .i64 0, .int .i64 5, .int .i64 1, .int .i64 1, .int .i64 5] 49)
  have KP : Blk ((((((((w11.setCell ⟨w.heap.size, 0, none⟩ (.int .i64 2)).setCell ⟨w.heap.size, 1, none⟩ (.slice (some ⟨w2.heap.size, 0, none⟩) 2 2)).setCell ⟨w.heap.size, 2, none⟩ (.slice (some ⟨w7.heap.size, 0, none⟩) 5 5)).setCell ⟨w.heap.size, 3, none⟩ (.int .i64 150)).setCell ⟨w.heap.size, 4, none⟩ (.int .i64 100)).setCell ⟨w.heap.size, 5, none⟩ (.slice (some ⟨w7.heap.size + 1, 0, none⟩) 2 2)).setCell ⟨w.heap.size, 6, none⟩ (.slice (some ⟨w11.heap.size, 0, none⟩) 4 4)).alloc (.cells #[.int .i64 0, .int .i64 0, .int .i64 30, .int .i64 1, .int .i64 0, .int .i64 36, .int .i64 0, .int .i64 0, .int .i64 5, .int .i64 1, .int .i64 1, .int .i64 5] 49)) w11.heap.size 49 #[.int .i64 0, .int .i64 0, .int .i64 30, .int .i64 1, .int .i64 0, .int .i64 36, .int .i64 0, .int .i64 0, .int .i64 5, .int .i64 1, .int .i64 1, .int .i64 5] := Blk.new_ (by simp) _ _
  have KB := (seven_below HB11.out (Nat.le_refl _) (.int .i64 2) (.slice (some ⟨w2.heap.size, 0, none⟩) 2 2) (.slice (some ⟨w7.heap.size, 0, none⟩) 5 5) (.int .i64 150) (.int .i64 100) (.slice (some ⟨w7.heap.size + 1, 0, none⟩) 2 2) (.slice (some ⟨w11.heap.size, 0, none⟩) 4 4)).alloc (by simp; omega) (.cells #[.int .i64 0, .int .i64 0, .int .i64 30, .int .i64 1, .int .i64 0, .int .i64 36, .int .i64 0, .int .i64 0, .int .i64 5, .int .i64 1, .int .i64 1, .int .i64 5] 49)
  have hWs : ((((((((w11.setCell ⟨w.heap.size, 0, none⟩ (.int .i64 2)).setCell ⟨w.heap.size, 1, none⟩ (.slice (some ⟨w2.heap.size, 0, none⟩) 2 2)).setCell ⟨w.heap.size, 2, none⟩ (.slice (some ⟨w7.heap.size, 0, none⟩) 5 5)).setCell ⟨w.heap.size, 3, none⟩ (.int .i64 150)).setCell ⟨w.heap.size, 4, none⟩ (.int .i64 100)).setCell ⟨w.heap.size, 5, none⟩ (.slice (some ⟨w7.heap.size + 1, 0, none⟩) 2 2)).setCell ⟨w.heap.size, 6, none⟩ (.slice (some ⟨w11.heap.size, 0, none⟩) 4 4)).alloc (.cells #[.int .i64 0, .int .i64 0, .int .i64 30, .int .i64 1, .int .i64 0, .int .i64 36, .int .i64 0, .int .i64 0, .int .i64 5, .int .i64 1, .int .i64 1, .int .i64 5] 49)).heap.size = w11.heap.size + 1 := by simp
  generalize ((((((((w11.setCell ⟨w.heap.size, 0, none⟩ (.int .i64 2)).setCell ⟨w.heap.size, 1, none⟩ (.slice (some ⟨w2.heap.size, 0, none⟩) 2 2)).setCell ⟨w.heap.size, 2, none⟩ (.slice (some ⟨w7.heap.size, 0, none⟩) 5 5)).setCell ⟨w.heap.size, 3, none⟩ (.int .i64 150)).setCell ⟨w.heap.size, 4, none⟩ (.int .i64 100)).setCell ⟨w.heap.size, 5, none⟩ (.slice (some ⟨w7.heap.size + 1, 0, none⟩) 2 2)).setCell ⟨w.heap.size, 6, none⟩ (.slice (some ⟨w11.heap.size, 0, none⟩) 4 4)).alloc (.cells #[.int .i64 0, .int .i64 0, .int .i64 30, .int .i64 1, .int .i64 0, .int .i64 36, .int .i64 0, .int .i64 0, .int .i64 5, .int .i64 1, .int .i64 1, .int .i64 5] 49)) = W at *
  have k0 := KZ.cell 0
  have k1 := KZ.cell 1
  have k2 := KZ.cell 2
  have k3 := KZ.cell 3
  have k4 := KZ.cell 4
  have k5 := KZ.cell 5
  have k6 := KZ.cell 6
  simp at k0 k1 k2 k3 k4 k5 k6
  refine bodyPost_ret (v := payV 2 (some ⟨w2.heap.size, 0, none⟩) 2 2 (some ⟨w7.heap.size, 0, none⟩) 5 5 150 100 (some ⟨w7.heap.size + 1, 0, none⟩) 2 2 (some ⟨w11.heap.size, 0, none⟩) 4 4) (by simp [results, Tryd.results40, go_sem, payV, k0, k1, k2, k3, k4, k5, k6]) rfl ⟨⟨_, _, _, _, _, _, _, _, rfl, ?_⟩, KB⟩
  exact ⟨rfl, rfl, rfl, rfl, rfl, rfl, rfl, by omega, by omega, by omega, by omega, RdSpans.of_g (RdG.of_blk spF_len KR (by omega)), RdCalls.of_g (RdG.of_blk caF_len KC (by omega)), RdInts.of_g (RdG.of_blk inF_len KD (by omega)), RdPaid.of_g (RdG.of_blk pdF_len KP (by omega))⟩
end Go.Proofs.YtlcolpnniipgbaaDoor
