/- The laws' small functions: span, sample, clash, long, heavy, fine, made, brings. The laws' long, heavy, fine, made, brings. The walk of alive: what the document's examples answer. CartTimes: a wagon is in time as its days are; a boat that draws less is in time no less. Condition: what the statements say. -/
import Derived.Test.YtgmfhngcehkibaaGreatPkB21
set_option maxRecDepth 100000
set_option maxHeartbeats 6400000
namespace Go.Proofs.YtgmfhngcehkibaaGreat
open Go.RowKit Go.Hav Go.Shelf Go.Sq
attribute [local go_sem] Oper.semAt_some
theorem RdG.of_blk {α : Type} {f : α → List Value} {sz : Nat} (hsz : ∀ x, (f x).length = sz) {w : World} {B g : Nat} {t : TypeId} {l : List α} (h : Blk w g t (l.flatMap f).toArray) (hB : g < B) : RdG f sz w B (some ⟨g, 0, none⟩) l := by
 intro k x hx
 refine ⟨g, 0, rfl, hB, fun i u hu => ?_⟩
 have hi : i < sz := by rw [← hsz x]; exact (List.getElem?_eq_some_iff.1 hu).1
 rw [Nat.zero_add, h.cell, List.getElem?_toArray, flat_get f sz hsz l k i hi, hx]; exact hu
theorem lspan_any (lo hi : Int) (w : World) : Calls Tryz.prog 31 #[.int .i64 lo, .int .i64 hi] w fun e w' => e = .returned (.agg #[.int .i64 lo, .int .i64 hi]) ∧ Below w.heap.size w w' := by
 go_enter Tryz.func31, Tryz.ntmps31
 go_wp2; refine bodyPost_ret (v := .agg #[.int .i64 lo, .int .i64 hi]) (by simp [results, Tryz.results31, go_sem]) rfl ⟨rfl, (by repeat (first | exact Below.refl _ _ | assumption | refine Below.drew ?_ | refine below_drewN ?_ _ | refine Below.alloc ?_ (by (try simp) <;> omega) _ | refine Below.setCell ?_ (by (try simp) <;> omega) _ | refine Below.trans ?_ (Below.mono (by assumption) (by (try simp) <;> omega))))⟩
def set10 (w : World) (g : Nat) (a b c d e f h i j k : Value) : World := (((((((((w.setCell ⟨g, 0, none⟩ a).setCell ⟨g, 1, none⟩ b).setCell ⟨g, 2, none⟩ c).setCell ⟨g, 3, none⟩ d).setCell ⟨g, 4, none⟩ e).setCell ⟨g, 5, none⟩ f).setCell ⟨g, 6, none⟩ h).setCell ⟨g, 7, none⟩ i).setCell ⟨g, 8, none⟩ j).setCell ⟨g, 9, none⟩ k
theorem set10_blk {w : World} {g : Nat} {a b c d e f h i j k a' b' c' d' e' f' h' i' j' k' : Value} (hb : Blk w g 31 #[a', b', c', d', e', f', h', i', j', k']) : Blk (set10 w g a b c d e f h i j k) g 31 #[a, b, c, d, e, f, h, i, j, k] := by
 have h0 : Blk _ g 31 #[a, b', c', d', e', f', h', i', j', k'] := hb.set_ 0 a; have h1 : Blk _ g 31 #[a, b, c', d', e', f', h', i', j', k'] := h0.set_ 1 b; have h2 : Blk _ g 31 #[a, b, c, d', e', f', h', i', j', k'] := h1.set_ 2 c; have h3 : Blk _ g 31 #[a, b, c, d, e', f', h', i', j', k'] := h2.set_ 3 d; have h4 : Blk _ g 31 #[a, b, c, d, e, f', h', i', j', k'] := h3.set_ 4 e; have h5 : Blk _ g 31 #[a, b, c, d, e, f, h', i', j', k'] := h4.set_ 5 f; have h6 : Blk _ g 31 #[a, b, c, d, e, f, h, i', j', k'] := h5.set_ 6 h; have h7 : Blk _ g 31 #[a, b, c, d, e, f, h, i, j', k'] := h6.set_ 7 i; have h8 : Blk _ g 31 #[a, b, c, d, e, f, h, i, j, k'] := h7.set_ 8 j; have h9 : Blk _ g 31 #[a, b, c, d, e, f, h, i, j, k] := h8.set_ 9 k; exact h9
theorem set10_below {w w' : World} {B g : Nat} (hb : Below B w w') (hg : B ≤ g) (a b c d e f h i j k : Value) : Below B w (set10 w' g a b c d e f h i j k) := by
 unfold set10; exact setCell_below (setCell_below (setCell_below (setCell_below (setCell_below (setCell_below (setCell_below (setCell_below (setCell_below (setCell_below hb hg _ _) hg _ _) hg _ _) hg _ _) hg _ _) hg _ _) hg _ _) hg _ _) hg _ _) hg _ _
theorem set10_turn (w : World) (g : Nat) (a b c d e f h i j k : Value) : Turn (fun x => x = g) w (set10 w g a b c d e f h i j k) := by
 unfold set10
 have h : ∀ (X : World) (o : Nat) (v : Value), Turn (fun x => x = g) X (X.setCell ⟨g, o, none⟩ v) := fun X o v => Turn.set _ _ (fun _ => rfl)
 exact (((((((((h _ _ _).trans (h _ _ _)).trans (h _ _ _)).trans (h _ _ _)).trans (h _ _ _)).trans (h _ _ _)).trans (h _ _ _)).trans (h _ _ _)).trans (h _ _ _)).trans (h _ _ _)
def sampR (l : List ILk) : IRiv := ⟨⟨10, 11⟩, ⟨1, 2⟩, 5, [⟨⟨2, 3⟩, ⟨4, 5⟩⟩], l⟩
def sampC (l : List ILk) (d : Int) : ICart := ⟨sampR l, d, [⟨0, ⟨1, 1⟩, 10⟩, ⟨1, ⟨2, 2⟩, 6⟩, ⟨2, ⟨1, 2⟩, 20⟩], [⟨0, 6, 5, 1, 3⟩, ⟨1, 4, 6, 3, 2⟩, ⟨0, 5, 3, 5, 1⟩]⟩
def SampC (l : List ILk) (d : Int) (w : World) (e : Ending) (w' : World) : Prop := ∃ gf gw gt A, e = .returned (.agg #[.int .i64 10, .int .i64 11, .int .i64 1, .int .i64 2, .int .i64 5, .slice (some ⟨gf, 0, none⟩) 1 1, .slice A l.length l.length, .int .i64 d, .slice (some ⟨gw, 0, none⟩) 3 3, .slice (some ⟨gt, 0, none⟩) 3 3]) ∧
 CtIn w' w'.heap.size (some ⟨gf, 0, none⟩) 1 A l.length (some ⟨gw, 0, none⟩) 3 (some ⟨gt, 0, none⟩) 3 (sampC l d) ∧ Below w.heap.size w w'
def SampD (d : Int) (w : World) (e : Ending) (w' : World) : Prop := ∃ gf gw gt, e = .returned (.agg #[.int .i64 10, .int .i64 11, .int .i64 1, .int .i64 2, .int .i64 5, .slice (some ⟨gf, 0, none⟩) 1 1, .slice none 0 0, .int .i64 d, .slice (some ⟨gw, 0, none⟩) 3 3, .slice (some ⟨gt, 0, none⟩) 3 3]) ∧
 CtIn w' w'.heap.size (some ⟨gf, 0, none⟩) 1 none 0 (some ⟨gw, 0, none⟩) 3 (some ⟨gt, 0, none⟩) 3 (sampC [] d) ∧ Below w.heap.size w w' ∧ w.heap.size ≤ gf ∧ w.heap.size ≤ gw ∧ w.heap.size ≤ gt
def sampT (gf : Nat) (d : Int) (B : Nat) (i : Nat) (v : Value) (w : World) : Prop :=
 match i with
 | 0 => v = .agg #[.int .i64 10, .int .i64 11, .int .i64 1, .int .i64 2, .int .i64 5, .slice (some ⟨gf, 0, none⟩) 1 1, .slice none 0 0]
 | 1 => v = .int .i64 d
 | 2 => v = .agg #[.int .i64 1, .int .i64 1]
 | 3 => v = .agg #[.int .i64 0, .int .i64 1, .int .i64 1, .int .i64 10]
 | 4 => v = .agg #[.int .i64 2, .int .i64 2]
 | 5 => v = .agg #[.int .i64 1, .int .i64 2, .int .i64 2, .int .i64 6]
 | 6 => v = .agg #[.int .i64 1, .int .i64 2]
 | 7 => v = .agg #[.int .i64 2, .int .i64 1, .int .i64 2, .int .i64 20]
 | 8 => ∃ g, v = .slice (some ⟨g, 0, none⟩) 3 3 ∧ B ≤ g ∧ Blk w g 65 #[.int .i64 0, .int .i64 1, .int .i64 1, .int .i64 10, .int .i64 1, .int .i64 2, .int .i64 2, .int .i64 6, .int .i64 2, .int .i64 1, .int .i64 2, .int .i64 20]
 | 9 => v = .agg #[.int .i64 0, .int .i64 6, .int .i64 5, .int .i64 1, .int .i64 3]
 | 10 => v = .agg #[.int .i64 1, .int .i64 4, .int .i64 6, .int .i64 3, .int .i64 2]
 | 11 => v = .agg #[.int .i64 0, .int .i64 5, .int .i64 3, .int .i64 5, .int .i64 1]
 | 12 => ∃ g, v = .slice (some ⟨g, 0, none⟩) 3 3 ∧ B ≤ g ∧ Blk w g 68 #[.int .i64 0, .int .i64 6, .int .i64 5, .int .i64 1, .int .i64 3, .int .i64 1, .int .i64 4, .int .i64 6, .int .i64 3, .int .i64 2, .int .i64 0, .int .i64 5, .int .i64 3, .int .i64 5, .int .i64 1]
 | _ => True
theorem sampT_keep {gf B : Nat} {d : Int} {i : Nat} {v : Value} {w w' : World} (h : sampT gf d B i v w) (hg : Below w.heap.size w w') : sampT gf d B i v w' := by
 match i, h with
 | 0, h => exact h
 | 1, h => exact h
 | 2, h => exact h
 | 3, h => exact h
 | 4, h => exact h
 | 5, h => exact h
 | 6, h => exact h
 | 7, h => exact h
 | 8, h => obtain ⟨g, e, h1, h2⟩ := h; exact ⟨g, e, h1, h2.below hg h2.lt⟩
 | 9, h => exact h
 | 10, h => exact h
 | 11, h => exact h
 | 12, h => obtain ⟨g, e, h1, h2⟩ := h; exact ⟨g, e, h1, h2.below hg h2.lt⟩
 | j + 13, _ => exact trivial
theorem sampleD_any (d : Int) (w : World) : Calls Tryz.prog 29 #[.int .i64 d] w (SampD d w) := by
 obtain ⟨W, hW⟩ : ∃ W, W = w.alloc (.cells #[.int .i64 0, .int .i64 0, .int .i64 0, .int .i64 0, .int .i64 0, .slice none 0 0, .slice none 0 0, .int .i64 0, .slice none 0 0, .slice none 0 0] 31) := ⟨_, rfl⟩; obtain ⟨b2, hb2⟩ : ∃ b, b = w.heap.size := ⟨_, rfl⟩; have HB0 : Hid (Below w.heap.size w W) := by rw [hW]; exact (Below.refl _ _).alloc (Nat.le_refl _) _
 have HX : Hid (Blk W b2 31 #[.int .i64 0, .int .i64 0, .int .i64 0, .int .i64 0, .int .i64 0, .slice none 0 0, .slice none 0 0, .int .i64 0, .slice none 0 0, .slice none 0 0]) := by rw [hW, hb2]; exact Blk.new w 31 _
 have HN : Hid (w.heap.size ≤ b2) := by show _ ≤ _; omega
 go_enter Tryz.func29, Tryz.ntmps29
 go_upto_region 1 with (fail); rw [← hW, ← hb2]; clear hW hb2; go_wp2_with fail; refine (lspan_any _ _ _).mono ?_; rintro e w1 ⟨rfl, hb⟩; have HB1 : Hid (Below w.heap.size w w1) := HB0.out.trans (hb.mono HB0.out.size); have HX1 := Lib.hid (HX.out.below hb HX.out.lt); clear hb; go_wp2_with fail; refine (lspan_any _ _ _).mono ?_; rintro e w2 ⟨rfl, hb⟩; have HB2 : Hid (Below w.heap.size w w2) := HB1.out.trans (hb.mono HB1.out.size); have HX2 := Lib.hid (HX1.out.below hb HX1.out.lt); clear hb; go_wp2_with fail; refine (lspan_any _ _ _).mono ?_; rintro e w3 ⟨rfl, hb⟩; have HB3 : Hid (Below w.heap.size w w3) := HB2.out.trans (hb.mono HB2.out.size); have HX3 := Lib.hid (HX2.out.below hb HX2.out.lt); clear hb; go_wp2_with fail; refine (lspan_any _ _ _).mono ?_; rintro e w4 ⟨rfl, hb⟩; have HB4 : Hid (Below w.heap.size w w4) := HB3.out.trans (hb.mono HB3.out.size); have HX4 := Lib.hid (HX3.out.below hb HX3.out.lt); clear hb; go_upto_region 2 with (fail); obtain ⟨W5, hW5⟩ : ∃ W5, W5 = w4.alloc (.cells #[.int .i64 2, .int .i64 3, .int .i64 4, .int .i64 5] 59) := ⟨_, rfl⟩; obtain ⟨gf, hgf⟩ : ∃ g, g = w4.heap.size := ⟨_, rfl⟩; obtain ⟨W6, hW6⟩ : ∃ W6, W6 = W5.alloc (.cells #[.int .i64 10, .int .i64 11, .int .i64 1, .int .i64 2, .int .i64 5, .slice (some ⟨gf, 0, none⟩) 1 1, .slice none 0 0] 27) := ⟨_, rfl⟩; obtain ⟨b3, hb3⟩ : ∃ b, b = w4.heap.size + 1 := ⟨_, rfl⟩; rw [← hW5, ← hb3, ← hgf, ← hW6]; have HB5 : Hid (Below w.heap.size w W5) := by rw [hW5]; exact HB4.out.alloc HB4.out.size _
 have HB6 : Hid (Below w.heap.size w W6) := by rw [hW6]; exact HB5.out.alloc HB5.out.size _
 have HX5 := Lib.hid (HX4.out.alloc (.cells #[.int .i64 2, .int .i64 3, .int .i64 4, .int .i64 5] 59)); rw [← hW5] at HX5; have HX6 := Lib.hid (HX5.out.alloc (.cells #[.int .i64 10, .int .i64 11, .int .i64 1, .int .i64 2, .int .i64 5, .slice (some ⟨gf, 0, none⟩) 1 1, .slice none 0 0] 27)); rw [← hW6] at HX6; have HF6 : Hid (Blk W6 gf 59 #[.int .i64 2, .int .i64 3, .int .i64 4, .int .i64 5]) := by rw [hW6, hW5, hgf]; exact (Blk.new w4 59 _).alloc _
 have HR6 : Hid (Blk W6 b3 27 #[.int .i64 10, .int .i64 11, .int .i64 1, .int .i64 2, .int .i64 5, .slice (some ⟨gf, 0, none⟩) 1 1, .slice none 0 0]) := by rw [hW6, hb3, show w4.heap.size + 1 = W5.heap.size by rw [hW5]; simp]; exact Blk.new W5 27 _
 have HGF : Hid (w.heap.size ≤ gf) := by rw [hgf]; exact HB4.out.size
 clear hW5 hW6 hgf hb3; have r0 := HR6.out.cell 0; have r1 := HR6.out.cell 1; have r2 := HR6.out.cell 2; have r3 := HR6.out.cell 3; have r4 := HR6.out.cell 4; have r5 := HR6.out.cell 5; have r6 := HR6.out.cell 6; have rl := HR6.out.lt; simp at r0 r1 r2 r3 r4 r5 r6
 refine HavG.wp_region_tab (R := RelB) (sampT gf d W6.heap.size) [11,12,13,14,15,16,17,18,19,20,21,22,23] [13,14] (by kernel_rfl) (by kernel_rfl) (by rfl) (fun i v w w' => sampT_keep) ?_ ?_
 ·intro i hi oo a' w' ho hag hg hd
  have hcv : ∀ b o, b < _ → w'.cell? ⟨b, o, none⟩ = _ := fun b o hb => Below.cell hg (p := ⟨b, o, none⟩) hb
  match i, hi, ho, hd with
  | 0, _, ho, hd =>
   (simp only [List.getElem?_toArray, List.getElem?_cons_zero, Option.some.injEq] at ho; subst ho)
   have s3 : a'.tmps[3]?.getD undef = .pointer (some ⟨b3, 0, none⟩) := by rw [← Array.getD_eq_getD_getElem?]; exact hag.slot 3 (by kernel_rfl)
   have r0' := (hcv b3 0 rl).trans r0; have r1' := (hcv b3 1 rl).trans r1; have r2' := (hcv b3 2 rl).trans r2; have r3' := (hcv b3 3 rl).trans r3; have r4' := (hcv b3 4 rl).trans r4; have r5' := (hcv b3 5 rl).trans r5; have r6' := (hcv b3 6 rl).trans r6; refine HavG.tab_val rfl ⟨_, w', ?_, RelB.refl _, rfl⟩
   go_simp
   try rfl
  | 1, _, ho, hd =>
   (simp only [List.getElem?_toArray, List.getElem?_cons_succ, List.getElem?_cons_zero, Option.some.injEq] at ho; subst ho)
   have s0 : a'.tmps[0]?.getD undef = .int .i64 d := by rw [← Array.getD_eq_getD_getElem?]; exact hag.slot 0 (by kernel_rfl)
   refine HavG.tab_val rfl ⟨_, w', ?_, RelB.refl _, rfl⟩
   go_simp
   try rfl
  | 2, _, ho, hd =>
   (simp only [List.getElem?_toArray, List.getElem?_cons_succ, List.getElem?_cons_zero, Option.some.injEq] at ho; subst ho)
   refine HavG.tab_call (f := 31) (args := #[.int .i64 1, .int .i64 1]) rfl ?_ ?_
   ·go_simp
    try exact ⟨rfl, rfl⟩
   ·refine (lspan_any 1 1 w').mono ?_; rintro e w2 ⟨rfl, hb⟩; exact ⟨_, rfl, hb, rfl⟩
  | 3, _, ho, hd =>
   (simp only [List.getElem?_toArray, List.getElem?_cons_succ, List.getElem?_cons_zero, Option.some.injEq] at ho; subst ho)
   have d2 : a'.tmps[13]?.getD undef = .agg #[.int .i64 1, .int .i64 1] := by rw [← Array.getD_eq_getD_getElem?]; exact hd 2 13 (by kernel_rfl) rfl
   refine HavG.tab_val rfl ⟨.agg #[.int .i64 0, .int .i64 1, .int .i64 1, .int .i64 10], w', ?_, RelB.refl _, rfl⟩
   go_simp
   try rfl
  | 4, _, ho, hd =>
   (simp only [List.getElem?_toArray, List.getElem?_cons_succ, List.getElem?_cons_zero, Option.some.injEq] at ho; subst ho)
   refine HavG.tab_call (f := 31) (args := #[.int .i64 2, .int .i64 2]) rfl ?_ ?_
   ·go_simp
    try exact ⟨rfl, rfl⟩
   ·refine (lspan_any 2 2 w').mono ?_; rintro e w2 ⟨rfl, hb⟩; exact ⟨_, rfl, hb, rfl⟩
  | 5, _, ho, hd =>
   (simp only [List.getElem?_toArray, List.getElem?_cons_succ, List.getElem?_cons_zero, Option.some.injEq] at ho; subst ho)
   have d4 : a'.tmps[15]?.getD undef = .agg #[.int .i64 2, .int .i64 2] := by rw [← Array.getD_eq_getD_getElem?]; exact hd 4 15 (by kernel_rfl) rfl
   refine HavG.tab_val rfl ⟨.agg #[.int .i64 1, .int .i64 2, .int .i64 2, .int .i64 6], w', ?_, RelB.refl _, rfl⟩
   go_simp
   try rfl
  | 6, _, ho, hd =>
   (simp only [List.getElem?_toArray, List.getElem?_cons_succ, List.getElem?_cons_zero, Option.some.injEq] at ho; subst ho)
   refine HavG.tab_call (f := 31) (args := #[.int .i64 1, .int .i64 2]) rfl ?_ ?_
   ·go_simp
    try exact ⟨rfl, rfl⟩
   ·refine (lspan_any 1 2 w').mono ?_; rintro e w2 ⟨rfl, hb⟩; exact ⟨_, rfl, hb, rfl⟩
  | 7, _, ho, hd =>
   (simp only [List.getElem?_toArray, List.getElem?_cons_succ, List.getElem?_cons_zero, Option.some.injEq] at ho; subst ho)
   have d6 : a'.tmps[17]?.getD undef = .agg #[.int .i64 1, .int .i64 2] := by rw [← Array.getD_eq_getD_getElem?]; exact hd 6 17 (by kernel_rfl) rfl
   refine HavG.tab_val rfl ⟨.agg #[.int .i64 2, .int .i64 1, .int .i64 2, .int .i64 20], w', ?_, RelB.refl _, rfl⟩
   go_simp
   try rfl
  | 8, _, ho, hd =>
   (simp only [List.getElem?_toArray, List.getElem?_cons_succ, List.getElem?_cons_zero, Option.some.injEq] at ho; subst ho)
   have d3 : a'.tmps[14]?.getD undef = .agg #[.int .i64 0, .int .i64 1, .int .i64 1, .int .i64 10] := by rw [← Array.getD_eq_getD_getElem?]; exact hd 3 14 (by kernel_rfl) rfl
   have d5 : a'.tmps[16]?.getD undef = .agg #[.int .i64 1, .int .i64 2, .int .i64 2, .int .i64 6] := by rw [← Array.getD_eq_getD_getElem?]; exact hd 5 16 (by kernel_rfl) rfl
   have d7 : a'.tmps[18]?.getD undef = .agg #[.int .i64 2, .int .i64 1, .int .i64 2, .int .i64 20] := by rw [← Array.getD_eq_getD_getElem?]; exact hd 7 18 (by kernel_rfl) rfl
   refine HavG.tab_val rfl ⟨.slice (some ⟨w'.heap.size, 0, none⟩) 3 3, w'.alloc (.cells #[.int .i64 0, .int .i64 1, .int .i64 1, .int .i64 10, .int .i64 1, .int .i64 2, .int .i64 2, .int .i64 6, .int .i64 2, .int .i64 1, .int .i64 2, .int .i64 20] 65), ?_, (Below.refl _ _).alloc (Nat.le_refl _) _, w'.heap.size, rfl, hg.size, Blk.new w' 65 _⟩
   go_simp
   try rfl
  | 9, _, ho, hd =>
   (simp only [List.getElem?_toArray, List.getElem?_cons_succ, List.getElem?_cons_zero, Option.some.injEq] at ho; subst ho)
   refine HavG.tab_val rfl ⟨.agg #[.int .i64 0, .int .i64 6, .int .i64 5, .int .i64 1, .int .i64 3], w', ?_, RelB.refl _, rfl⟩
   go_simp
   try rfl
  | 10, _, ho, hd =>
   (simp only [List.getElem?_toArray, List.getElem?_cons_succ, List.getElem?_cons_zero, Option.some.injEq] at ho; subst ho)
   refine HavG.tab_val rfl ⟨.agg #[.int .i64 1, .int .i64 4, .int .i64 6, .int .i64 3, .int .i64 2], w', ?_, RelB.refl _, rfl⟩
   go_simp
   try rfl
  | 11, _, ho, hd =>
   (simp only [List.getElem?_toArray, List.getElem?_cons_succ, List.getElem?_cons_zero, Option.some.injEq] at ho; subst ho)
   refine HavG.tab_val rfl ⟨.agg #[.int .i64 0, .int .i64 5, .int .i64 3, .int .i64 5, .int .i64 1], w', ?_, RelB.refl _, rfl⟩
   go_simp
   try rfl
  | 12, _, ho, hd =>
   (simp only [List.getElem?_toArray, List.getElem?_cons_succ, List.getElem?_cons_zero, Option.some.injEq] at ho; subst ho)
   have d9 : a'.tmps[20]?.getD undef = .agg #[.int .i64 0, .int .i64 6, .int .i64 5, .int .i64 1, .int .i64 3] := by rw [← Array.getD_eq_getD_getElem?]; exact hd 9 20 (by kernel_rfl) rfl
   have d10 : a'.tmps[21]?.getD undef = .agg #[.int .i64 1, .int .i64 4, .int .i64 6, .int .i64 3, .int .i64 2] := by rw [← Array.getD_eq_getD_getElem?]; exact hd 10 21 (by kernel_rfl) rfl
   have d11 : a'.tmps[22]?.getD undef = .agg #[.int .i64 0, .int .i64 5, .int .i64 3, .int .i64 5, .int .i64 1] := by rw [← Array.getD_eq_getD_getElem?]; exact hd 11 22 (by kernel_rfl) rfl
   refine HavG.tab_val rfl ⟨.slice (some ⟨w'.heap.size, 0, none⟩) 3 3, w'.alloc (.cells #[.int .i64 0, .int .i64 6, .int .i64 5, .int .i64 1, .int .i64 3, .int .i64 1, .int .i64 4, .int .i64 6, .int .i64 3, .int .i64 2, .int .i64 0, .int .i64 5, .int .i64 3, .int .i64 5, .int .i64 1] 68), ?_, (Below.refl _ _).alloc (Nat.le_refl _) _, w'.heap.size, rfl, hg.size, Blk.new w' 68 _⟩
   go_simp
   try rfl
  | j + 13, hj, _, _ => exact absurd hj (by simp)
 intro f w7 hgz hF; simp only [List.filterMap, HavG.puts, List.foldl_cons, List.foldl_nil, Act.put, List.setIfInBounds_toArray, List.set_cons_succ, List.set_cons_zero]; obtain ⟨gw, egw, hgw, hbw⟩ := hF 8 19 rfl; obtain ⟨gt, egt, hgt, hbt⟩ := hF 12 23 rfl; have f0 := hF 0 11 rfl; have f1 := hF 1 12 rfl; have f2 := hF 2 13 rfl; have f3 := hF 3 14 rfl; have f4 := hF 4 15 rfl; have f5 := hF 5 16 rfl; have f6 := hF 6 17 rfl; have f7 := hF 7 18 rfl; have f9 := hF 9 20 rfl; have f10 := hF 10 21 rfl; have f11 := hF 11 22 rfl; simp only [sampT] at f0 f1 f2 f3 f4 f5 f6 f7 f9 f10 f11; rw [egw, egt, f0, f1, f2, f3, f4, f5, f6, f7, f9, f10, f11]; have hb7 : Below W6.heap.size W6 w7 := hgz; have HB7 : Hid (Below w.heap.size w w7) := HB6.out.trans (hb7.mono HB6.out.size); have HX7 := Lib.hid (HX6.out.below hb7 HX6.out.lt); have HF7 := Lib.hid (HF6.out.below hb7 HF6.out.lt); have HW7 : Hid (Blk w7 gw 65 #[.int .i64 0, .int .i64 1, .int .i64 1, .int .i64 10, .int .i64 1, .int .i64 2, .int .i64 2, .int .i64 6, .int .i64 2, .int .i64 1, .int .i64 2, .int .i64 20]) := hbw; have HT7 : Hid (Blk w7 gt 68 #[.int .i64 0, .int .i64 6, .int .i64 5, .int .i64 1, .int .i64 3, .int .i64 1, .int .i64 4, .int .i64 6, .int .i64 3, .int .i64 2, .int .i64 0, .int .i64 5, .int .i64 3, .int .i64 5, .int .i64 1]) := hbt
 have HNE : Hid (gf ≠ b2 ∧ gw ≠ b2 ∧ gt ≠ b2) := by
  have h1 := HX6.out.lt
  refine ⟨fun e => ?_, by omega, by omega⟩
  have h2 := HF6.out; have h3 := HX6.out; rw [e] at h2; have h4 := h2.symm.trans h3; simp at h4
 have HGB : Hid (w.heap.size ≤ gf ∧ w.heap.size ≤ gw ∧ w.heap.size ≤ gt) := ⟨HGF.out, Nat.le_trans HB6.out.size hgw, Nat.le_trans HB6.out.size hgt⟩; clear hgz hb7 hgw hbw hgt hbt hF egw egt f0 f1 f2 f3 f4 f5 f6 f7 f9 f10 f11 r0 r1 r2 r3 r4 r5 r6 rl; have z0 := HX7.out.frozen 0; have z1 := HX7.out.frozen 1; have z2 := HX7.out.frozen 2; have z3 := HX7.out.frozen 3; have z4 := HX7.out.frozen 4; have z5 := HX7.out.frozen 5; have z6 := HX7.out.frozen 6; have z7 := HX7.out.frozen 7; have z8 := HX7.out.frozen 8; have z9 := HX7.out.frozen 9; have c0 := HX7.out.cell 0; have c1 := HX7.out.cell 1; have c2 := HX7.out.cell 2; have c3 := HX7.out.cell 3; have c4 := HX7.out.cell 4; have c5 := HX7.out.cell 5; have c6 := HX7.out.cell 6; have c7 := HX7.out.cell 7; have c8 := HX7.out.cell 8; have c9 := HX7.out.cell 9; have xl := HX7.out.lt; simp at c0 c1 c2 c3 c4 c5 c6 c7 c8 c9; go_wp2; obtain ⟨W9, hW9⟩ : ∃ W9, W9 = set10 w7 b2 (.int .i64 10) (.int .i64 11) (.int .i64 1) (.int .i64 2) (.int .i64 5) (.slice (some ⟨gf, 0, none⟩) 1 1) (.slice none 0 0) (.int .i64 d) (.slice (some ⟨gw, 0, none⟩) 3 3) (.slice (some ⟨gt, 0, none⟩) 3 3) := ⟨_, rfl⟩; have HK9 := Lib.hid (set10_blk (a := .int .i64 10) (b := .int .i64 11) (c := .int .i64 1) (d := .int .i64 2) (e := .int .i64 5) (f := .slice (some ⟨gf, 0, none⟩) 1 1) (h := .slice none 0 0) (i := .int .i64 d) (j := .slice (some ⟨gw, 0, none⟩) 3 3) (k := .slice (some ⟨gt, 0, none⟩) 3 3) HX7.out)
 have hb9 : Below w.heap.size w W9 := by rw [hW9]; exact set10_below HB7.out HN.out _ _ _ _ _ _ _ _ _ _
 have ht9 : Turn (fun x => x = b2) w7 W9 := by rw [hW9]; exact set10_turn _ _ _ _ _ _ _ _ _ _ _ _
 rw [← hW9] at HK9; unfold set10 at hW9; rw [← hW9]; have k0 := HK9.out.cell 0; have k1 := HK9.out.cell 1; have k2 := HK9.out.cell 2; have k3 := HK9.out.cell 3; have k4 := HK9.out.cell 4; have k5 := HK9.out.cell 5; have k6 := HK9.out.cell 6; have k7 := HK9.out.cell 7; have k8 := HK9.out.cell 8; have k9 := HK9.out.cell 9; simp at k0 k1 k2 k3 k4 k5 k6 k7 k8 k9; have HF9 := HF7.out.turn ht9 HNE.out.1; have HW9 := HW7.out.turn ht9 HNE.out.2.1; have HT9 := HT7.out.turn ht9 HNE.out.2.2; refine bodyPost_ret (v := .agg #[.int .i64 10, .int .i64 11, .int .i64 1, .int .i64 2, .int .i64 5, .slice (some ⟨gf, 0, none⟩) 1 1, .slice none 0 0, .int .i64 d, .slice (some ⟨gw, 0, none⟩) 3 3, .slice (some ⟨gt, 0, none⟩) 3 3]) (by simp [results, Tryz.results29, go_sem, k0, k1, k2, k3, k4, k5, k6, k7, k8, k9]) rfl ⟨gf, gw, gt, rfl, ?_, hb9, HGB.out.1, HGB.out.2.1, HGB.out.2.2⟩
 exact ⟨⟨rfl, rfl, RdG.of_blk (f := frI) (sz := 4) (t := 59) (fun _ => rfl) HF9 HF9.lt, RdG.nil _ _ _ _ _, by omega, by simp⟩, rfl, rfl, RdG.of_blk (f := wgI) (sz := 4) (t := 65) (fun _ => rfl) HW9 HW9.lt, RdG.of_blk (f := ltI) (sz := 5) (t := 68) (fun _ => rfl) HT9 HT9.lt, by omega, by omega⟩
theorem sample_any (d : Int) (w : World) : Calls Tryz.prog 29 #[.int .i64 d] w (SampC [] d w) :=
 (sampleD_any d w).mono fun _ _ ⟨gf, gw, gt, e, h, hb, _⟩ => ⟨gf, gw, gt, none, e, h, hb⟩
theorem max5_run (a b c d e : Int) (w : World) : (Builtin.max_ #[3, 3, 3, 3, 3] 3 #[.int .i64 a, .int .i64 b, .int .i64 c, .int .i64 d, .int .i64 e]).run Tryz.prog w = .ok (.int .i64 (max (max (max (max a b) c) d) e)) w := by
 simp [Builtin.max_, Builtin.max2]
 repeat' split
 all_goals omega
theorem lbrings_any (l : ILot) (day : Int) (hl : lotB l = true) (w : World) : Calls Tryz.prog 36 #[.agg #[.int .i64 l.from_, .int .i64 l.bales, .int .i64 l.price, .int .i64 l.until_, .int .i64 l.less], .int .i64 day] w fun e w' => e = .returned (.int .i64 (bringsP l day)) ∧ Below w.heap.size w w' := by
 have h := lotB_iff.1 hl; clear hl; obtain ⟨l0, l1, l2, l3, l4⟩ := l; simp only at h ⊢; have m1 : 0 ≤ l2 * l1 ∧ l2 * l1 ≤ 50 * 20 := ⟨Int.mul_nonneg (by omega) (by omega), Int.mul_le_mul (by omega) (by omega) (by omega) (by omega)⟩
 have m2 : 0 ≤ l4 * l1 ∧ l4 * l1 ≤ 50 * 20 := ⟨Int.mul_nonneg (by omega) (by omega), Int.mul_le_mul (by omega) (by omega) (by omega) (by omega)⟩
 have w1 : IntKind.i64.wrap (l2 * l1) = l2 * l1 := IntWalk.i64_in _ (by omega)
 have w2 : IntKind.i64.wrap (l4 * l1) = l4 * l1 := IntWalk.i64_in _ (by omega)
 by_cases hc : day ≤ l3
 ·have HV : Hid (bringsP ⟨l0, l1, l2, l3, l4⟩ day = l2 * l1) := by show _ = _; rw [Int.mul_comm]; exact if_pos hc
  have hc' : ¬ (l3 < day) := by omega
  clear m1 m2 h; rw [HV.out]
  go_enter Tryz.func36, Tryz.ntmps36
  go_wp2; go_ret
  exact ⟨rfl, (Below.refl _ _).alloc (Nat.le_refl _) _⟩
 ·have HV : Hid (bringsP ⟨l0, l1, l2, l3, l4⟩ day = l4 * l1) := by show _ = _; rw [Int.mul_comm]; exact if_neg hc
  have hc' : l3 < day := by omega
  clear m1 m2 h; rw [HV.out]
  go_enter Tryz.func36, Tryz.ntmps36
  go_wp2; go_ret
  exact ⟨rfl, (Below.refl _ _).alloc (Nat.le_refl _) _⟩
section
variable {fa la wa ta : Option Addr} {fl fc ll lc wn wc tn tc : Nat} {c : ICart}
variable {w : World}
theorem long_any {A : Option Addr} {n cp : Nat} (hn : n ≤ 9223372036854775807) (w : World) (hP : CtIn w w.heap.size fa fl la ll wa wn ta tn c) : Calls Tryz.prog 32 #[(.agg #[.int .i64 c.riv.depth.lo, .int .i64 c.riv.depth.hi, .int .i64 c.riv.fall.lo, .int .i64 c.riv.fall.hi, .int .i64 c.riv.days, .slice fa fl fc, .slice la ll lc, .int .i64 c.draws, .slice wa wn wc, .slice ta tn tc]), .slice A n cp] w fun e w' => (∃ b, e = .returned (.bool b) ∧ (b = false → fl ≤ 40 ∧ ll ≤ 40 ∧ wn ≤ 40 ∧ tn ≤ 40 ∧ n ≤ 40)) ∧ Below w.heap.size w w' := by
 have m1 := hP.riv.mfl; have m2 := hP.riv.mll; have m3 := hP.mwn; have m4 := hP.mtn; clear hP
 obtain ⟨m, hm, hle⟩ : ∃ m : Int, (∀ w, (Builtin.max_ #[3, 3, 3, 3, 3] 3 #[.int .i64 (fl : Int), .int .i64 (ll : Int), .int .i64 (wn : Int), .int .i64 (tn : Int), .int .i64 (n : Int)]).run Tryz.prog w = .ok (.int .i64 m) w) ∧ Hid (decide (40 < m) = false → fl ≤ 40 ∧ ll ≤ 40 ∧ wn ≤ 40 ∧ tn ≤ 40 ∧ n ≤ 40) := by
  refine ⟨_, fun w => max5_run _ _ _ _ _ _, show _ → _ from fun h => by simp only [decide_eq_false_iff_not] at h; omega⟩
 obtain ⟨W, hW⟩ : ∃ W, W = w.alloc (.cells #[.int .i64 c.riv.depth.lo, .int .i64 c.riv.depth.hi, .int .i64 c.riv.fall.lo, .int .i64 c.riv.fall.hi, .int .i64 c.riv.days, .slice fa fl fc, .slice la ll lc, .int .i64 c.draws, .slice wa wn wc, .slice ta tn tc] 31) := ⟨_, rfl⟩; obtain ⟨b1, hb1⟩ : ∃ b, b = w.heap.size := ⟨_, rfl⟩; have HK : Hid (Blk W b1 31 #[.int .i64 c.riv.depth.lo, .int .i64 c.riv.depth.hi, .int .i64 c.riv.fall.lo, .int .i64 c.riv.fall.hi, .int .i64 c.riv.days, .slice fa fl fc, .slice la ll lc, .int .i64 c.draws, .slice wa wn wc, .slice ta tn tc]) := by rw [hW, hb1]; exact Blk.new w 31 _
 have HB0 : Hid (Below w.heap.size w W) := by rw [hW]; exact (Below.refl _ _).alloc (Nat.le_refl _) _
 have hx := HK.out; obtain ⟨q0, q1, q2, q3, q4, q5, q6, q7, q8, q9, ql⟩ := cx31 hx; clear hx
 go_enter Tryz.func32, Tryz.ntmps32
 go_upto_region 1 with (fail); rw [← hW, ← hb1]; clear hW hb1; go_wp2; go_ret
 exact ⟨⟨_, rfl, hle.out⟩, HB0.out⟩
theorem clashE_none {r : IRiv} (h : okR r = true) : clashE r = 4 ↔ truthsA r.nat ≠ [] := by
 unfold clashE; rw [if_neg (by rw [h]; simp)]
 by_cases e : truthsA r.nat = []
 ·rw [if_pos e]; exact ⟨fun h => by omega, fun h => absurd e h⟩
 ·rw [if_neg e]; exact ⟨fun _ => e, fun _ => rfl⟩
theorem fine_any (w : World) (hP : CtIn w w.heap.size fa fl la ll wa wn ta tn c) : Calls Tryz.prog 39 #[(.agg #[.int .i64 c.riv.depth.lo, .int .i64 c.riv.depth.hi, .int .i64 c.riv.fall.lo, .int .i64 c.riv.fall.hi, .int .i64 c.riv.days, .slice fa fl fc, .slice la ll lc, .int .i64 c.draws, .slice wa wn wc, .slice ta tn tc])] w fun e w' => (∃ b, e = .returned (.bool b) ∧ (b = true → openE c true = 0)) ∧ Below w.heap.size w w' := by
 have HP := Lib.hid hP; clear hP; obtain ⟨W, hW⟩ : ∃ W, W = w.alloc (.cells #[.int .i64 c.riv.depth.lo, .int .i64 c.riv.depth.hi, .int .i64 c.riv.fall.lo, .int .i64 c.riv.fall.hi, .int .i64 c.riv.days, .slice fa fl fc, .slice la ll lc, .int .i64 c.draws, .slice wa wn wc, .slice ta tn tc] 31) := ⟨_, rfl⟩; obtain ⟨b1, hb1⟩ : ∃ b, b = w.heap.size := ⟨_, rfl⟩; have HK : Hid (Blk W b1 31 #[.int .i64 c.riv.depth.lo, .int .i64 c.riv.depth.hi, .int .i64 c.riv.fall.lo, .int .i64 c.riv.fall.hi, .int .i64 c.riv.days, .slice fa fl fc, .slice la ll lc, .int .i64 c.draws, .slice wa wn wc, .slice ta tn tc]) := by rw [hW, hb1]; exact Blk.new w 31 _
 have HB0 : Hid (Below w.heap.size w W) := by rw [hW]; exact (Below.refl _ _).alloc (Nat.le_refl _) _
 go_enter Tryz.func39, Tryz.ntmps39
 go_upto_region 1 with (fail); rw [← hW, ← hb1]; clear hW hb1; have hx := HK.out; obtain ⟨q0, q1, q2, q3, q4, q5, q6, q7, q8, q9, ql⟩ := cx31 hx; clear hx; go_wp2_with fail; refine (long_any (fa := fa) (fl := fl) (fc := fc) (la := la) (ll := ll) (lc := lc) (wa := wa) (wn := wn) (wc := wc) (ta := ta) (tn := tn) (tc := tc) (A := none) (n := 0) (cp := 0) (by omega) W (HP.out.grow HB0.out)).mono ?_
 rintro e w1 ⟨⟨b, rfl, -⟩, hb⟩; have HB1 : Hid (Below w.heap.size w w1) := HB0.out.trans (hb.mono HB0.out.size); have HK1 := Lib.hid (HK.out.below hb HK.out.lt); clear hb; clear q0 q1 q2 q3 q4 q5 q6 q7 q8 q9 ql; have hx := HK1.out; obtain ⟨q0, q1, q2, q3, q4, q5, q6, q7, q8, q9, ql⟩ := cx31 hx; clear hx; cases b
 case true =>
  go_wp2; go_ret
  exact ⟨⟨_, rfl, by simp⟩, HB1.out⟩
 go_wp2_with fail; refine (rcart_any (fa := fa) (fl := fl) (fc := fc) (la := la) (ll := ll) (lc := lc) (wa := wa) (wn := wn) (wc := wc) (ta := ta) (tn := tn) (tc := tc) w1 (HP.out.grow HB1.out)).mono ?_
 obtain ⟨ok, hok⟩ : ∃ ok, okC c = ok := ⟨_, rfl⟩; have HOK := Lib.hid hok; rw [hok]; rintro e w2 ⟨rfl, hb⟩; have HB2 : Hid (Below w.heap.size w w2) := HB1.out.trans (hb.mono HB1.out.size); have HK2 := Lib.hid (HK1.out.below hb HK1.out.lt); clear hb hok; clear q0 q1 q2 q3 q4 q5 q6 q7 q8 q9 ql; have hx := HK2.out; obtain ⟨q0, q1, q2, q3, q4, q5, q6, q7, q8, q9, ql⟩ := cx31 hx; clear hx; cases ok
 case false =>
  go_wp2; go_ret
  exact ⟨⟨_, rfl, by simp⟩, HB2.out⟩
 go_wp2_with fail; refine (PClash_any (fa := fa) (fl := fl) (fc := fc) (la := la) (ll := ll) (lc := lc) (r := c.riv) (w := w2) (HP.out.grow HB2.out).riv).mono ?_
 obtain ⟨ce, hce⟩ : ∃ ce, clashE c.riv = ce := ⟨_, rfl⟩; have HCE := Lib.hid hce; rw [hce]; rintro e w3 ⟨rfl, hb⟩; have HB3 : Hid (Below w.heap.size w w3) := HB2.out.trans (hb.mono HB2.out.size)
 have HOE : Hid (ce = 4 → openE c true = 0) := fun h => by
  have h1 := (okC_parts HOK.out).1; have h2 := (clashE_none h1).1 (HCE.out.trans h); unfold openE hasT; rw [HOK.out]
  simp [h2]
 clear hb hce; clear q0 q1 q2 q3 q4 q5 q6 q7 q8 q9 ql
 by_cases h4 : ce = 4
 ·have HOE2 := Lib.hid (HOE.out h4); subst h4; go_wp2; go_ret
  exact ⟨⟨true, rfl, fun _ => HOE2.out⟩, HB3.out⟩
 ·have hq : ((ce : Int) == 4) = false := by simp; omega
  clear h4; go_wp2; go_ret
  exact ⟨⟨false, by simp, by simp⟩, HB3.out⟩
def madeL (c : ICart) (by_ : List Nat) : List Int := (List.range c.lt.length).map fun i => (((if by_.length = 0 then 0 else by_[i % by_.length]?.getD 0) % (c.wg.length + 1) : Nat) : Int) - 1
theorem madeL_len (c : ICart) (by_ : List Nat) : (madeL c by_).length = c.lt.length := by simp [madeL]
def byF (n : Nat) : List Value := [.int .u8 n]
theorem rd_by {w : World} {B : Nat} {A : Option Addr} {l : List Nat} (h : RdG byF 1 w B A l) (k : Nat) (c : Nat) (hc : l[k]? = some c) : ∃ b off, A = some ⟨b, off, none⟩ ∧ b < B ∧ w.cell? ⟨b, off + k, none⟩ = some (.int .u8 c) := by
 obtain ⟨b, off, e, hb, hx⟩ := h k c hc; have h0 := hx 0 _ rfl; rw [Nat.mul_one, Nat.add_zero] at h0; exact ⟨b, off, e, hb, h0⟩
theorem made_any {ba : Option Addr} {bn bc : Nat} {by_ : List Nat} (hok : okC c = true) (hbn : by_.length = bn) (hbm : bn ≤ 9223372036854775807) (h255 : ∀ x ∈ by_, x ≤ 255) (w : World) (hP : CtIn w w.heap.size fa fl la ll wa wn ta tn c) (hR : RdG byF 1 w w.heap.size ba by_) :
  Calls Tryz.prog 37 #[(.agg #[.int .i64 c.riv.depth.lo, .int .i64 c.riv.depth.hi, .int .i64 c.riv.fall.lo, .int .i64 c.riv.fall.hi, .int .i64 c.riv.days, .slice fa fl fc, .slice la ll lc, .int .i64 c.draws, .slice wa wn wc, .slice ta tn tc]), .slice ba bn bc] w fun e w' => ∃ A cp, e = .returned (.slice A tn cp) ∧ PlIn w' w'.heap.size A tn (madeL c by_) ∧ Below w.heap.size w w' := by
 have HP := Lib.hid hP; have HR := Lib.hid hR; have HBN := Lib.hid hbn; have H255 := Lib.hid h255; have ht5 : tn ≤ 5 := by have := (okC_parts hok).2.2.2.1; rw [hP.etn] at this; exact this
 have hw3 : wn ≤ 3 := by have := (okC_parts hok).2.2.1; rw [hP.ewn] at this; exact this
 have HML : Hid (∀ i, i < tn → (madeL c by_)[i]? = some ((((if bn = 0 then 0 else by_[i % bn]?.getD 0) % (wn + 1) : Nat) : Int) - 1)) := fun i hi => by
  unfold madeL; rw [List.getElem?_map, List.getElem?_range (by rw [hP.etn]; exact hi), hP.ewn, hbn]
  rfl
 have HLEN : Hid ((madeL c by_).length = tn) := by show _ = _; rw [madeL_len, hP.etn]
 obtain ⟨M, hM⟩ : ∃ M, madeL c by_ = M := ⟨_, rfl⟩; rw [hM] at HML HLEN ⊢; clear hP hok hR h255 hM hbn; obtain ⟨W, hW⟩ : ∃ W, W = w.alloc (.cells #[.int .i64 c.riv.depth.lo, .int .i64 c.riv.depth.hi, .int .i64 c.riv.fall.lo, .int .i64 c.riv.fall.hi, .int .i64 c.riv.days, .slice fa fl fc, .slice la ll lc, .int .i64 c.draws, .slice wa wn wc, .slice ta tn tc] 31) := ⟨_, rfl⟩; obtain ⟨b1, hb1⟩ : ∃ b, b = w.heap.size := ⟨_, rfl⟩; have HK : Hid (Blk W b1 31 #[.int .i64 c.riv.depth.lo, .int .i64 c.riv.depth.hi, .int .i64 c.riv.fall.lo, .int .i64 c.riv.fall.hi, .int .i64 c.riv.days, .slice fa fl fc, .slice la ll lc, .int .i64 c.draws, .slice wa wn wc, .slice ta tn tc]) := by rw [hW, hb1]; exact Blk.new w 31 _
 have HB0 : Hid (Below w.heap.size w W) := by rw [hW]; exact (Below.refl _ _).alloc (Nat.le_refl _) _
 have HN : Hid (W.heap.size = w.heap.size + 1) := by show _ = _; rw [hW]; simp
 go_enter Tryz.func37, Tryz.ntmps37
 go_upto_region 1 with (fail); rw [← hW, ← hb1]; clear hW hb1; have hx := HK.out; obtain ⟨q0, q1, q2, q3, q4, q5, q6, q7, q8, q9, ql⟩ := cx31 hx; clear hx; go_wp2; clear q0 q1 q2 q3 q4 q5 q6 q7 q8 q9 ql
 go_loopw [4, 10] (fun s0 i wr => ∃ (k : Nat) (s : Value), k ≤ tn ∧ i = .int .i64 k ∧ s0 = s ∧ Hid (wr.ownsRow W.heap.size 3 1 s k ((M.take k).flatMap inI)) ∧ Hid (Below w.heap.size w wr) ∧ Hid (Below W.heap.size W wr)) (fun _ i _ => tn - (intOf i).toNat)
 case atStart => exact ⟨0, _, Nat.zero_le _, rfl, rfl, own_nil _ _ _ _, HB0, Below.refl _ _⟩
 case round =>
  obtain ⟨k, s, hk, rfl, hs0, HO, HBR, HBX⟩ := hrel; obtain rfl := hs0.symm; clear hs0
  by_cases hlt : k < tn
  ·obtain ⟨x, hx⟩ : ∃ x : Nat, (if bn = 0 then 0 else by_[k % bn]?.getD 0) = x := ⟨_, rfl⟩
   have HMX := Lib.hid (HML.out k hlt); rw [hx] at HMX; obtain ⟨v, hv⟩ : ∃ v : Int, ((x % (wn + 1) : Nat) : Int) - 1 = v := ⟨_, rfl⟩; rw [hv] at HMX
   have hx255 : x ≤ 255 := by
    rw [← hx]
    by_cases e : bn = 0
    ·rw [if_pos e]; omega
    ·rw [if_neg e]
     cases h : by_[k % bn]? with
     | none => simp
     | some y => exact H255.out y (List.mem_of_getElem? h)
   have htm : ((x : Int).tmod ((wn : Int) + 1)) = ((x % (wn + 1) : Nat) : Int) := by
    rw [Int.tmod_eq_emod_of_nonneg (by omega)]
    rfl
   have hvr : ((x % (wn + 1) : Nat) : Int) < (wn : Int) + 1 := by have := Nat.mod_lt x (show 0 < wn + 1 by omega); omega
   have hw1 : IntKind.i64.wrap ((wn : Int) + 1) = (wn : Int) + 1 := IntWalk.i64_in _ (by omega)
   have hw2 : wrap64 ((x : Int) % ((wn : Int) + 1) - 1) = v := by rw [show ((x : Int) % ((wn : Int) + 1)) = ((x % (wn + 1) : Nat) : Int) from rfl, IntWalk.wrap64_in _ (by omega), hv]
   have hwz : ((wn : Int) + 1 == 0) = false := by simp; omega
   have HKR := Lib.hid (HK.out.below HBX.out HK.out.lt); have hq := HKR.out; obtain ⟨W6, hW6⟩ : ∃ W6, W6 = wr.alloc (.cells #[.int .i64 v] 3) := ⟨_, rfl⟩; obtain ⟨gy, hgy⟩ : ∃ b, b = wr.heap.size := ⟨_, rfl⟩; have hby : Blk W6 gy 3 #[.int .i64 v] := by rw [hW6, hgy]; exact Blk.new wr 3 _
   have HO6 : W6.ownsRow W.heap.size 3 1 s k ((M.take k).flatMap inI) := by rw [hW6]; exact own_below HO.out ((Below.refl _ _).alloc (Nat.le_refl _) _)
   have HB6 : Hid (Below w.heap.size w W6) := by rw [hW6]; exact HBR.out.alloc HBR.out.size _
   have HX6 : Hid (Below W.heap.size W W6) := by rw [hW6]; exact HBX.out.alloc HBX.out.size _
   obtain ⟨i0, hi, hz0, hz1, hz2⟩ := info_parts Tryz.infoE3; obtain ⟨g2, cp2, w7, hrun, hown, ht7, hgg⟩ := append_at (P := Tryz.prog) W.heap.size 32 32 3 i0 _ 1 8 Tryz.underlying32 hi hz0 hz1 hz2 rfl (by decide) s k _ HO6 ⟨gy, 0, none⟩ 1 [.int .i64 v] rfl (news_block hby) (by simp [Value.oneCell']) (by omega) (by omega) HX6.out.size
   have HRUN := Lib.hid hrun; rw [hW6, hgy] at HRUN
   have HOS : Hid (∀ b, s.ownBlock = some b → W.heap.size ≤ b) := fun b hb => (HO.out.lt b hb).1
   have HX7 : Hid (Below W.heap.size W w7) := HX6.out.trans (ht7.below HX6.out.size HOS.out); have HB7 : Hid (Below w.heap.size w w7) := HB0.out.trans (HX7.out.mono HB0.out.size)
   have HO7 : Hid (w7.ownsRow W.heap.size 3 1 (.slice (some ⟨g2, 0, none⟩) (k + 1) cp2) (k + 1) ((M.take (k + 1)).flatMap inI)) := by
    show World.ownsRow _ _ _ _ _ _ _; rw [List.take_add_one, HMX.out, List.flatMap_append]; exact hown
   clear hby HO6 hi hz0 hz1 hz2 hrun hown ht7 hgg hW6 hgy htm
   by_cases hb0 : bn = 0
   ·rw [if_pos hb0] at hx; subst hx; subst hb0; obtain rfl : v = -1 := by rw [← hv]; simp
    clear hv hw2; obtain ⟨q0, q1, q2, q3, q4, q5, q6, q7, q8, q9, ql⟩ := cx31 hq; clear hq
    go_wp2_with (at_builtin; refine wpList_append_run rfl _ _ 32 rfl rfl rfl HRUN.out ?_)
    go_wp2; go_roundw
    case rel => exact ⟨k + 1, _, by omega, by go_num, rfl, HO7, HB7, HX7⟩
    case measure => simp [intOf]; omega
   ·rw [if_neg hb0] at hx; have hkb : k % bn < bn := Nat.mod_lt _ (by omega)
    obtain ⟨y, hy⟩ : ∃ y, by_[k % bn]? = some y := ⟨by_[k % bn]'(by have := HBN.out; omega), by simp⟩
    rw [hy] at hx; have hyx : y = x := hx; subst hyx; obtain ⟨bb, ob, hba, hbl, B0⟩ := rd_by (HR.out.grow HBR.out) (k % bn) y hy; subst hba; have hkt : ((k : Int) % (bn : Int)) = ((k % bn : Nat) : Int) := rfl; have hkb' : ((k % bn : Nat) : Int) < bn := by omega
    have hbz : ((bn : Int) == 0) = false := by simp; exact hb0
    have hbp : (0 : Int) < bn := by omega
    obtain ⟨kk, hkk⟩ : ∃ kk, k % bn = kk := ⟨_, rfl⟩; rw [hkk] at B0 hkt hkb'; obtain ⟨q0, q1, q2, q3, q4, q5, q6, q7, q8, q9, ql⟩ := cx31 hq; clear hq hx hy hkb hkk hv
    go_wp2_with (at_builtin; refine wpList_append_run rfl _ _ 32 rfl rfl rfl HRUN.out ?_)
    go_wp2; go_roundw
    case rel => exact ⟨k + 1, _, by omega, by go_num, rfl, HO7, HB7, HX7⟩
    case measure => simp [intOf]; omega
  ·obtain rfl : tn = k := by omega
   have HTA : Hid (M.take tn = M) := List.take_of_length_le (by rw [HLEN.out]; exact Nat.le_refl _)
   rw [HTA.out] at HO; obtain ⟨A, cp, hs⟩ := own_slice HO.out; subst hs
   have HR2 : Hid (RdG inI 1 wr wr.heap.size A M) := RdG.of_own (fun _ => rfl) (by omega) HO.out (Nat.le_refl _) rfl
   go_wp2; go_ret
   exact ⟨A, cp, rfl, ⟨HLEN.out, HR2.out, by omega⟩, HBR.out⟩
end
def sq8 : ICart := sampC [] 8
def sq12 : ICart := sampC [] 12
theorem sq_arr : Value.tuple #[spanV (arrivesV sq8 2), .int .i64 (arrivesE sq8 2)] = .tuple #[.agg #[.int .i64 3, .int .i64 4], .int .i64 0] := by kernel_rfl
theorem sq_time : Value.tuple #[.int .i64 (inTimeV sq8 2 : Nat), .int .i64 (inTimeE sq8 2 : Nat)] = .tuple #[.int .i64 1, .int .i64 0] := by kernel_rfl
theorem sq_check : Value.tuple #[.int .i64 ((checkW sq8 [0, -1, 0]).1 : Nat), .int .i64 ((checkW sq8 [0, -1, 0]).2 : Nat), .int .i64 (checkE sq8 [0, -1, 0] : Nat)] = .tuple #[.int .i64 2, .int .i64 2, .int .i64 0] := by kernel_rfl
theorem sq_worth : Value.tuple #[spanV (worthV sq8 [0, 1, -1]), .int .i64 (worthE sq8 [0, 1, -1] : Nat)] = .tuple #[.agg #[.int .i64 54, .int .i64 54], .int .i64 0] := by kernel_rfl
theorem sq_ok : stayE sq8 = 0 := by kernel_rfl
theorem sq_most : onP sq8.tm sq8.wg ofMost sq8.lt (roomP sq8.wg) = (11, 0) := by kernel_rfl
theorem sq_mplan : planL sq8.tm sq8.wg ofMost sq8.lt (roomP sq8.wg) = [0, -1, 1] := by kernel_rfl
theorem sq_best : onP sq8.tm sq8.wg ofBest sq8.lt (roomP sq8.wg) = (54, 0) := by kernel_rfl
theorem sq_bplan : planL sq8.tm sq8.wg ofBest sq8.lt (roomP sq8.wg) = [0, 1, -1] := by kernel_rfl
theorem sq_stay : Value.tuple #[.int .i64 (stayV sq12 : Nat), .int .i64 (stayE sq12 : Nat)] = .tuple #[.int .i64 7, .int .i64 0] := by kernel_rfl
theorem alive_any (w : World) : Calls Tryz.prog 13 #[] w fun e w' => e = .returned (.bool true) ∧ Below w.heap.size w w' := by
 have HB0 : Hid (Below w.heap.size w w) := Below.refl _ _
 go_enter Tryz.func13, Tryz.ntmps13
 go_wp2_with fail; refine (sample_any 8 _).mono ?_
 rintro e a1 ⟨gf1, gw1, gt1, A1, rfl, hr, hb⟩; have HR1 : Hid (CtIn a1 a1.heap.size (some ⟨gf1, 0, none⟩) 1 A1 0 (some ⟨gw1, 0, none⟩) 3 (some ⟨gt1, 0, none⟩) 3 sq8) := hr; have HBa1 : Hid (Below w.heap.size w a1) := HB0.out.trans (hb.mono HB0.out.size); clear hr hb; go_wp2_with fail; refine (PArrives_any (fa := some ⟨gf1, 0, none⟩) (fl := 1) (fc := 1) (la := A1) (ll := 0) (lc := 0) (wa := some ⟨gw1, 0, none⟩) (wn := 3) (wc := 3) (ta := some ⟨gt1, 0, none⟩) (tn := 3) (tc := 3) (c := sq8) (w := a1) 2 (by exact HR1.out)).mono ?_
 rw [sq_arr]; rintro e v1 ⟨rfl, hb⟩; have HB1 : Hid (Below w.heap.size w v1) := HBa1.out.trans (hb.mono HBa1.out.size); clear hb; obtain ⟨Vs1, hVs1⟩ : ∃ V, V = v1.alloc (.cells #[.int .i64 3, .int .i64 4] 23) := ⟨_, rfl⟩; obtain ⟨qs1, hqs1⟩ : ∃ q, q = v1.heap.size := ⟨_, rfl⟩; have hws1 : Below v1.heap.size v1 Vs1 := by rw [hVs1]; exact (Below.refl _ _).alloc (Nat.le_refl _) _
 have HBVs1 : Hid (Below w.heap.size w Vs1) := HB1.out.trans (hws1.mono HB1.out.size); have HXs1 : Hid (Blk Vs1 qs1 23 #[.int .i64 3, .int .i64 4]) := by rw [hVs1, hqs1]; exact Blk.new v1 23 _
 go_wp2_with fail; rw [← hqs1, ← hVs1]
 clear hVs1 hqs1 hws1; refine (sample_any 8 _).mono ?_; rintro e a2 ⟨gf2, gw2, gt2, A2, rfl, hr, hb⟩; have HR2 : Hid (CtIn a2 a2.heap.size (some ⟨gf2, 0, none⟩) 1 A2 0 (some ⟨gw2, 0, none⟩) 3 (some ⟨gt2, 0, none⟩) 3 sq8) := hr; have HBa2 : Hid (Below w.heap.size w a2) := HBVs1.out.trans (hb.mono HBVs1.out.size); have HXs1a := Lib.hid (HXs1.out.below hb HXs1.out.lt); clear hr hb; go_wp2_with fail; refine (PInTime_any (fa := some ⟨gf2, 0, none⟩) (fl := 1) (fc := 1) (la := A2) (ll := 0) (lc := 0) (wa := some ⟨gw2, 0, none⟩) (wn := 3) (wc := 3) (ta := some ⟨gt2, 0, none⟩) (tn := 3) (tc := 3) (c := sq8) (w := a2) 2 (by exact HR2.out)).mono ?_
 rw [sq_time]; rintro e v2 ⟨rfl, hb⟩; have HB2 : Hid (Below w.heap.size w v2) := HBa2.out.trans (hb.mono HBa2.out.size); have HXs1av := Lib.hid (HXs1a.out.below hb HXs1a.out.lt); clear hb; go_wp2_with fail; refine (sample_any 8 _).mono ?_; rintro e a3 ⟨gf3, gw3, gt3, A3, rfl, hr, hb⟩; have HR3 : Hid (CtIn a3 a3.heap.size (some ⟨gf3, 0, none⟩) 1 A3 0 (some ⟨gw3, 0, none⟩) 3 (some ⟨gt3, 0, none⟩) 3 sq8) := hr; have HBa3 : Hid (Below w.heap.size w a3) := HB2.out.trans (hb.mono HB2.out.size); have HXs1ava := Lib.hid (HXs1av.out.below hb HXs1av.out.lt); clear hr hb; obtain ⟨Vr3, hVr3⟩ : ∃ V, V = a3.alloc (.cells #[.int .i64 0, .int .i64 (-1), .int .i64 0] 3) := ⟨_, rfl⟩; obtain ⟨qr3, hqr3⟩ : ∃ q, q = a3.heap.size := ⟨_, rfl⟩; have hwr3 : Below a3.heap.size a3 Vr3 := by rw [hVr3]; exact (Below.refl _ _).alloc (Nat.le_refl _) _
 have HBVr3 : Hid (Below w.heap.size w Vr3) := HBa3.out.trans (hwr3.mono HBa3.out.size); have HXs1avaV := Lib.hid (HXs1ava.out.below hwr3 HXs1ava.out.lt); have HXr3 : Hid (Blk Vr3 qr3 3 #[.int .i64 0, .int .i64 (-1), .int .i64 0]) := by rw [hVr3, hqr3]; exact Blk.new a3 3 _
 have HRr3 := Lib.hid (HR3.out.grow hwr3)
 have HPr3 : Hid (PlIn Vr3 Vr3.heap.size (some ⟨qr3, 0, none⟩) 3 [0, -1, 0]) := ⟨rfl, RdG.of_blk (f := inI) (sz := 1) (t := 3) (fun _ => rfl) HXr3.out HXr3.out.lt, by omega⟩
 go_wp2_with fail; rw [← hqr3, ← hVr3]
 clear hVr3 hqr3 hwr3; refine (PCheck_any (fa := some ⟨gf3, 0, none⟩) (fl := 1) (fc := 1) (la := A3) (ll := 0) (lc := 0) (wa := some ⟨gw3, 0, none⟩) (wn := 3) (wc := 3) (ta := some ⟨gt3, 0, none⟩) (tn := 3) (tc := 3) (c := sq8) (w := Vr3) (pc := 3) (by exact HRr3.out) (by exact HPr3.out)).mono ?_
 rw [sq_check]; rintro e v3 ⟨rfl, hb⟩; have HB3 : Hid (Below w.heap.size w v3) := HBVr3.out.trans (hb.mono HBVr3.out.size); have HXs1avaVv := Lib.hid (HXs1avaV.out.below hb HXs1avaV.out.lt); clear hb; go_wp2_with fail; refine (sample_any 8 _).mono ?_; rintro e a4 ⟨gf4, gw4, gt4, A4, rfl, hr, hb⟩; have HR4 : Hid (CtIn a4 a4.heap.size (some ⟨gf4, 0, none⟩) 1 A4 0 (some ⟨gw4, 0, none⟩) 3 (some ⟨gt4, 0, none⟩) 3 sq8) := hr; have HBa4 : Hid (Below w.heap.size w a4) := HB3.out.trans (hb.mono HB3.out.size); have HXs1avaVva := Lib.hid (HXs1avaVv.out.below hb HXs1avaVv.out.lt); clear hr hb; obtain ⟨Vr4, hVr4⟩ : ∃ V, V = a4.alloc (.cells #[.int .i64 0, .int .i64 1, .int .i64 (-1)] 3) := ⟨_, rfl⟩; obtain ⟨qr4, hqr4⟩ : ∃ q, q = a4.heap.size := ⟨_, rfl⟩; have hwr4 : Below a4.heap.size a4 Vr4 := by rw [hVr4]; exact (Below.refl _ _).alloc (Nat.le_refl _) _
 have HBVr4 : Hid (Below w.heap.size w Vr4) := HBa4.out.trans (hwr4.mono HBa4.out.size); have HXs1avaVvaV := Lib.hid (HXs1avaVva.out.below hwr4 HXs1avaVva.out.lt); have HXr4 : Hid (Blk Vr4 qr4 3 #[.int .i64 0, .int .i64 1, .int .i64 (-1)]) := by rw [hVr4, hqr4]; exact Blk.new a4 3 _
 have HRr4 := Lib.hid (HR4.out.grow hwr4)
 have HPr4 : Hid (PlIn Vr4 Vr4.heap.size (some ⟨qr4, 0, none⟩) 3 [0, 1, -1]) := ⟨rfl, RdG.of_blk (f := inI) (sz := 1) (t := 3) (fun _ => rfl) HXr4.out HXr4.out.lt, by omega⟩
 go_wp2_with fail; rw [← hqr4, ← hVr4]
 clear hVr4 hqr4 hwr4; refine (PWorth_any (fa := some ⟨gf4, 0, none⟩) (fl := 1) (fc := 1) (la := A4) (ll := 0) (lc := 0) (wa := some ⟨gw4, 0, none⟩) (wn := 3) (wc := 3) (ta := some ⟨gt4, 0, none⟩) (tn := 3) (tc := 3) (c := sq8) (w := Vr4) (pc := 3) (by exact HRr4.out) (by exact HPr4.out)).mono ?_
 rw [sq_worth]; rintro e v4 ⟨rfl, hb⟩; have HB4 : Hid (Below w.heap.size w v4) := HBVr4.out.trans (hb.mono HBVr4.out.size); have HXs1avaVvaVv := Lib.hid (HXs1avaVvaV.out.below hb HXs1avaVvaV.out.lt); clear hb; obtain ⟨Vs4, hVs4⟩ : ∃ V, V = v4.alloc (.cells #[.int .i64 54, .int .i64 54] 23) := ⟨_, rfl⟩; obtain ⟨qs4, hqs4⟩ : ∃ q, q = v4.heap.size := ⟨_, rfl⟩; have hws4 : Below v4.heap.size v4 Vs4 := by rw [hVs4]; exact (Below.refl _ _).alloc (Nat.le_refl _) _
 have HBVs4 : Hid (Below w.heap.size w Vs4) := HB4.out.trans (hws4.mono HB4.out.size); have HXs1avaVvaVvV := Lib.hid (HXs1avaVvaVv.out.below hws4 HXs1avaVvaVv.out.lt); have HXs4 : Hid (Blk Vs4 qs4 23 #[.int .i64 54, .int .i64 54]) := by rw [hVs4, hqs4]; exact Blk.new v4 23 _
 go_wp2_with fail; rw [← hqs4, ← hVs4]
 clear hVs4 hqs4 hws4; refine (sample_any 8 _).mono ?_; rintro e a5 ⟨gf5, gw5, gt5, A5, rfl, hr, hb⟩; have HR5 : Hid (CtIn a5 a5.heap.size (some ⟨gf5, 0, none⟩) 1 A5 0 (some ⟨gw5, 0, none⟩) 3 (some ⟨gt5, 0, none⟩) 3 sq8) := hr; have HBa5 : Hid (Below w.heap.size w a5) := HBVs4.out.trans (hb.mono HBVs4.out.size); have HXs1avaVvaVvVa := Lib.hid (HXs1avaVvaVvV.out.below hb HXs1avaVvaVvV.out.lt); have HXs4a := Lib.hid (HXs4.out.below hb HXs4.out.lt); clear hr hb; go_wp2_with fail; refine (PMost_any (fa := some ⟨gf5, 0, none⟩) (fl := 1) (fc := 1) (la := A5) (ll := 0) (lc := 0) (wa := some ⟨gw5, 0, none⟩) (wn := 3) (wc := 3) (ta := some ⟨gt5, 0, none⟩) (tn := 3) (tc := 3) (c := sq8) (w := a5) (by exact HR5.out)).mono ?_
 rintro e v5 ⟨hb, (⟨h1, -⟩ | ⟨-, g5, rfl, -, hbp⟩)⟩
 ·exact absurd sq_ok h1
 rw [sq_most]; rw [sq_mplan] at hbp; have HB5 : Hid (Below w.heap.size w v5) := HBa5.out.trans (hb.mono HBa5.out.size); have HXs1avaVvaVvVav := Lib.hid (HXs1avaVvaVvVa.out.below hb HXs1avaVvaVvVa.out.lt); have HXs4av := Lib.hid (HXs4a.out.below hb HXs4a.out.lt); have HG5 : Hid (Blk v5 g5 3 #[.int .i64 0, .int .i64 (-1), .int .i64 1]) := hbp; clear hb hbp; go_wp2_with fail; refine (sample_any 8 _).mono ?_; rintro e a6 ⟨gf6, gw6, gt6, A6, rfl, hr, hb⟩; have HR6 : Hid (CtIn a6 a6.heap.size (some ⟨gf6, 0, none⟩) 1 A6 0 (some ⟨gw6, 0, none⟩) 3 (some ⟨gt6, 0, none⟩) 3 sq8) := hr; have HBa6 : Hid (Below w.heap.size w a6) := HB5.out.trans (hb.mono HB5.out.size); have HXs1avaVvaVvVava := Lib.hid (HXs1avaVvaVvVav.out.below hb HXs1avaVvaVvVav.out.lt); have HXs4ava := Lib.hid (HXs4av.out.below hb HXs4av.out.lt); have HG5a := Lib.hid (HG5.out.below hb HG5.out.lt); clear hr hb; go_wp2_with fail; refine (PBest_any (fa := some ⟨gf6, 0, none⟩) (fl := 1) (fc := 1) (la := A6) (ll := 0) (lc := 0) (wa := some ⟨gw6, 0, none⟩) (wn := 3) (wc := 3) (ta := some ⟨gt6, 0, none⟩) (tn := 3) (tc := 3) (c := sq8) (w := a6) (by exact HR6.out)).mono ?_
 rintro e v6 ⟨hb, (⟨h1, -⟩ | ⟨-, g6, rfl, -, hbp⟩)⟩
 ·exact absurd sq_ok h1
 rw [sq_best]; rw [sq_bplan] at hbp; have HB6 : Hid (Below w.heap.size w v6) := HBa6.out.trans (hb.mono HBa6.out.size); have HXs1avaVvaVvVavav := Lib.hid (HXs1avaVvaVvVava.out.below hb HXs1avaVvaVvVava.out.lt); have HXs4avav := Lib.hid (HXs4ava.out.below hb HXs4ava.out.lt); have HG5av := Lib.hid (HG5a.out.below hb HG5a.out.lt); have HG6 : Hid (Blk v6 g6 3 #[.int .i64 0, .int .i64 1, .int .i64 (-1)]) := hbp; clear hb hbp; go_wp2_with fail; refine (sample_any 12 _).mono ?_; rintro e a7 ⟨gf7, gw7, gt7, A7, rfl, hr, hb⟩; have HR7 : Hid (CtIn a7 a7.heap.size (some ⟨gf7, 0, none⟩) 1 A7 0 (some ⟨gw7, 0, none⟩) 3 (some ⟨gt7, 0, none⟩) 3 sq12) := hr; have HBa7 : Hid (Below w.heap.size w a7) := HB6.out.trans (hb.mono HB6.out.size); have HXs1avaVvaVvVavava := Lib.hid (HXs1avaVvaVvVavav.out.below hb HXs1avaVvaVvVavav.out.lt); have HXs4avava := Lib.hid (HXs4avav.out.below hb HXs4avav.out.lt); have HG5ava := Lib.hid (HG5av.out.below hb HG5av.out.lt); have HG6a := Lib.hid (HG6.out.below hb HG6.out.lt); clear hr hb; go_wp2_with fail; refine (PStay_any (fa := some ⟨gf7, 0, none⟩) (fl := 1) (fc := 1) (la := A7) (ll := 0) (lc := 0) (wa := some ⟨gw7, 0, none⟩) (wn := 3) (wc := 3) (ta := some ⟨gt7, 0, none⟩) (tn := 3) (tc := 3) (c := sq12) (w := a7)  (by exact HR7.out)).mono ?_
 rw [sq_stay]; rintro e v7 ⟨rfl, hb⟩; have HB7 : Hid (Below w.heap.size w v7) := HBa7.out.trans (hb.mono HBa7.out.size); have HXs1avaVvaVvVavavav := Lib.hid (HXs1avaVvaVvVavava.out.below hb HXs1avaVvaVvVavava.out.lt); have HXs4avavav := Lib.hid (HXs4avava.out.below hb HXs4avava.out.lt); have HG5avav := Lib.hid (HG5ava.out.below hb HG5ava.out.lt); have HG6av := Lib.hid (HG6a.out.below hb HG6a.out.lt); clear hb
 skip
 have x0 := HXs1avaVvaVvVavavav.out.cell 0; have x1 := HXs1avaVvaVvVavavav.out.cell 1; have xl := HXs1avaVvaVvVavavav.out.lt; simp at x0 x1; have y0 := HXs4avavav.out.cell 0; have y1 := HXs4avavav.out.cell 1; have yl := HXs4avavav.out.lt; simp at y0 y1; go_upto_region 8 with (fail)
 refine wp_region_havoc [(0,false),(1,false),(2,false),(3,false),(4,false),(5,false),(6,false),(7,false),(8,false),(9,false),(10,false),(11,false),(12,false),(13,false),(14,false),(15,false),(16,false),(17,false),(18,false),(19,false),(20,false),(21,false),(22,false),(23,false),(24,false),(25,false),(26,false),(27,false),(28,false),(29,false),(30,false),(31,false),(32,false),(33,false),(34,false),(35,false),(36,false),(37,false),(38,false),(39,false),(40,false),(41,false),(42,true),(43,false),(44,false),(45,false),(46,false),(47,false),(48,false),(49,false),(50,false),(51,false),(52,false),(53,false),(54,false),(55,true),(56,false),(57,false),(58,false),(59,false),(60,false),(61,false),(62,false),(63,false),(64,false),(65,false),(66,false),(67,false),(68,false),(69,false),(70,false)] [] (fun _ _ => False) (by kernel_rfl) (by kernel_rfl) (fun _ _ _ _ h => h.elim) ?_
 (apply hav_same (by simp only [List.getElem?_toArray]; rfl) (by kernel_rfl); (focus (intro wv hgv _; have hcv := cvB hgv; (try go_simp); try rfl; done)); simp only [Act.put, List.setIfInBounds_toArray, List.set_cons_succ, List.set_cons_zero])
 (apply hav_call (by simp only [List.getElem?_toArray]; rfl) (by kernel_rfl); (focus (intro wv; go_simp; try exact ⟨rfl, rfl⟩; done)); (focus (intro wv hgv _; exact lspan_any 3 4 wv; done)); simp only [Act.put, List.setIfInBounds_toArray, List.set_cons_succ, List.set_cons_zero])
 iterate 27 (apply hav_same (by simp only [List.getElem?_toArray]; rfl) (by kernel_rfl); (focus (intro wv hgv _; have hcv := cvB hgv; (try go_simp); try rfl; done)); simp only [Act.put, List.setIfInBounds_toArray, List.set_cons_succ, List.set_cons_zero])
 (apply hav_call (by simp only [List.getElem?_toArray]; rfl) (by kernel_rfl); (focus (intro wv; go_simp; try exact ⟨rfl, rfl⟩; done)); (focus (intro wv hgv _; exact lspan_any 54 54 wv; done)); simp only [Act.put, List.setIfInBounds_toArray, List.set_cons_succ, List.set_cons_zero])
 iterate 12 (apply hav_same (by simp only [List.getElem?_toArray]; rfl) (by kernel_rfl); (focus (intro wv hgv _; have hcv := cvB hgv; (try go_simp); try rfl; done)); simp only [Act.put, List.setIfInBounds_toArray, List.set_cons_succ, List.set_cons_zero])
 refine hav_new (fun g => .slice (some ⟨g, 0, none⟩) 3 3) (.cells #[.int .i64 0, .int .i64 (-1), .int .i64 1] 3) (by simp only [List.getElem?_toArray]; rfl) (by kernel_rfl) (fun wv hg hF => by (try go_simp); try rfl) ?_
 intro va; simp only [Act.put, List.setIfInBounds_toArray, List.set_cons_succ, List.set_cons_zero]
 (apply hav_call (by simp only [List.getElem?_toArray]; rfl) (by kernel_rfl); (focus (intro wv; go_simp; try exact ⟨rfl, rfl⟩; done)); (focus (intro wv hgv hF; obtain ⟨_, q, e, _, hq⟩ := hF; subst e; have hq' : Blk wv q 3 #[.int .i64 0, .int .i64 (-1), .int .i64 1] := hq; refine (ints_any (A1 := some ⟨g5, 0, none⟩) (n1 := 3) (c1 := 3) (l1 := [0, -1, 1]) (A2 := some ⟨q, 0, none⟩) (n2 := 3) (c2 := 3) (l2 := [0, -1, 1]) rfl rfl (by omega) wv (RdG.of_blk (f := inI) (sz := 1) (t := 3) (fun _ => rfl) (HG5avav.out.below hgv HG5avav.out.lt) (HG5avav.out.below hgv HG5avav.out.lt).lt) (RdG.of_blk (f := inI) (sz := 1) (t := 3) (fun _ => rfl) hq' hq'.lt)).mono ?_; rw [show decide (([0, -1, 1] : List Int) = [0, -1, 1]) = true from rfl]; rintro e w' ⟨rfl, hb⟩; exact ⟨rfl, hb⟩; done)); simp only [Act.put, List.setIfInBounds_toArray, List.set_cons_succ, List.set_cons_zero])
 iterate 11 (apply hav_same (by simp only [List.getElem?_toArray]; rfl) (by kernel_rfl); (focus (intro wv hgv _; have hcv := cvB hgv; (try go_simp); try rfl; done)); simp only [Act.put, List.setIfInBounds_toArray, List.set_cons_succ, List.set_cons_zero])
 refine hav_new (fun g => .slice (some ⟨g, 0, none⟩) 3 3) (.cells #[.int .i64 0, .int .i64 1, .int .i64 (-1)] 3) (by simp only [List.getElem?_toArray]; rfl) (by kernel_rfl) (fun wv hg hF => by (try go_simp); try rfl) ?_
 intro vb; simp only [Act.put, List.setIfInBounds_toArray, List.set_cons_succ, List.set_cons_zero]
 (apply hav_call (by simp only [List.getElem?_toArray]; rfl) (by kernel_rfl); (focus (intro wv; go_simp; try exact ⟨rfl, rfl⟩; done)); (focus (intro wv hgv hF; obtain ⟨_, q, e, _, hq⟩ := hF; subst e; have hq' : Blk wv q 3 #[.int .i64 0, .int .i64 1, .int .i64 (-1)] := hq; refine (ints_any (A1 := some ⟨g6, 0, none⟩) (n1 := 3) (c1 := 3) (l1 := [0, 1, -1]) (A2 := some ⟨q, 0, none⟩) (n2 := 3) (c2 := 3) (l2 := [0, 1, -1]) rfl rfl (by omega) wv (RdG.of_blk (f := inI) (sz := 1) (t := 3) (fun _ => rfl) (HG6av.out.below hgv HG6av.out.lt) (HG6av.out.below hgv HG6av.out.lt).lt) (RdG.of_blk (f := inI) (sz := 1) (t := 3) (fun _ => rfl) hq' hq'.lt)).mono ?_; rw [show decide (([0, 1, -1] : List Int) = [0, 1, -1]) = true from rfl]; rintro e w' ⟨rfl, hb⟩; exact ⟨rfl, hb⟩; done)); simp only [Act.put, List.setIfInBounds_toArray, List.set_cons_succ, List.set_cons_zero])
 iterate 14 (apply hav_same (by simp only [List.getElem?_toArray]; rfl) (by kernel_rfl); (focus (intro wv hgv _; have hcv := cvB hgv; (try go_simp); try rfl; done)); simp only [Act.put, List.setIfInBounds_toArray, List.set_cons_succ, List.set_cons_zero])
 refine hav_end (fun wz hgwz _ => ?_); simp only [List.filterMap]; have hcwz : ∀ b o, b < _ → wz.cell? ⟨b, o, none⟩ = _ := fun b o hb => Below.cell hgwz (p := ⟨b, o, none⟩) hb; have hfwz : ∀ b o, b < _ → wz.frozen? ⟨b, o, none⟩ = _ := fun b o hb => Below.frozen hgwz (p := ⟨b, o, none⟩) hb; have hzwz := Below.size hgwz; (try simp at hzwz)
 have HBz : Hid (Below w.heap.size w wz) := HB7.out.trans (hgwz.mono HB7.out.size); clear hgwz hcwz hfwz; go_wp2; go_ret
 exact ⟨rfl, HBz.out⟩
end Go.Proofs.YtgmfhngcehkibaaGreat

