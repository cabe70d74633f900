/- The laws' small functions. Condition: what the statements say. -/
import Derived.Test.YtgmfhngcehkibaaGreatPkQ21
import Derived.ProofKit
import Derived.LaidMore
import Derived.OpenShut
import Derived.Stop.Joined
import Derived.Deep.Slices
import Derived.Carry
import Derived.Test.YtgmfhngcehkibaaGreatRows
import Derived.Below
set_option maxRecDepth 100000
set_option maxHeartbeats 6400000
namespace Go.Proofs.YtgmfhngcehkibaaGreat
section
open Go.RowKit Go.Hav Go.Shelf Go.Sq
attribute [local go_sem] Oper.semAt_some
theorem RdG.of_blk {α : Type} {f : α -> List Value} {sz : Nat} (hsz : ∀ x, (f x).length = sz) {w : World} {B g : Nat} {t : TypeId} {l : List α} (h : Blk w g t (l.flatMap f).toArray) (hB : g < B) : RdG f sz w B (some ⟨g, 0, none⟩) l := by
 intro k x hx
 refine ⟨g, 0, rfl, hB, fun i u hu => ?_⟩
 have hi : i < sz := by rw [<- hsz x]; exact (List.getElem?_eq_some_iff.1 hu).1
 rw [Nat.zero_add, h.cell, List.getElem?_toArray, flat_get f sz hsz l k i hi, hx]; exact hu
theorem lspan_any (lo hi : Int) (w : World) : Calls Tryz.prog 31 #[.int .i64 lo, .int .i64 hi] w fun e w' => e = .returned (.agg #[.int .i64 lo, .int .i64 hi]) ∧ Below w.heap.size w w' := by
 go_enter Tryz.func31, Tryz.ntmps31
 go_wp2; refine bodyPost_ret (v := .agg #[.int .i64 lo, .int .i64 hi]) (by simp [results, Tryz.results31, go_sem]) rfl ⟨rfl, (by repeat (first | exact Below.refl _ _ | assumption | refine Below.drew ?_ | refine below_drewN ?_ _ | refine Below.alloc ?_ (by (try simp) <;> omega) _ | refine Below.setCell ?_ (by (try simp) <;> omega) _ | refine Below.trans ?_ (Below.mono (by assumption) (by (try simp) <;> omega))))⟩
def set10 (w : World) (g : Nat) (a b c d e f h i j k : Value) : World := (((((((((w.setCell ⟨g, 0, none⟩ a).setCell ⟨g, 1, none⟩ b).setCell ⟨g, 2, none⟩ c).setCell ⟨g, 3, none⟩ d).setCell ⟨g, 4, none⟩ e).setCell ⟨g, 5, none⟩ f).setCell ⟨g, 6, none⟩ h).setCell ⟨g, 7, none⟩ i).setCell ⟨g, 8, none⟩ j).setCell ⟨g, 9, none⟩ k
theorem set10_blk {w : World} {g : Nat} {a b c d e f h i j k a' b' c' d' e' f' h' i' j' k' : Value} (hb : Blk w g 31 #[a', b', c', d', e', f', h', i', j', k']) : Blk (set10 w g a b c d e f h i j k) g 31 #[a, b, c, d, e, f, h, i, j, k] := by
 have h0 : Blk _ g 31 #[a, b', c', d', e', f', h', i', j', k'] := hb.set_ 0 a; have h1 : Blk _ g 31 #[a, b, c', d', e', f', h', i', j', k'] := h0.set_ 1 b; have h2 : Blk _ g 31 #[a, b, c, d', e', f', h', i', j', k'] := h1.set_ 2 c; have h3 : Blk _ g 31 #[a, b, c, d, e', f', h', i', j', k'] := h2.set_ 3 d; have h4 : Blk _ g 31 #[a, b, c, d, e, f', h', i', j', k'] := h3.set_ 4 e; have h5 : Blk _ g 31 #[a, b, c, d, e, f, h', i', j', k'] := h4.set_ 5 f; have h6 : Blk _ g 31 #[a, b, c, d, e, f, h, i', j', k'] := h5.set_ 6 h; have h7 : Blk _ g 31 #[a, b, c, d, e, f, h, i, j', k'] := h6.set_ 7 i; have h8 : Blk _ g 31 #[a, b, c, d, e, f, h, i, j, k'] := h7.set_ 8 j; have h9 : Blk _ g 31 #[a, b, c, d, e, f, h, i, j, k] := h8.set_ 9 k; exact h9
theorem set10_below {w w' : World} {B g : Nat} (hb : Below B w w') (hg : B <= g) (a b c d e f h i j k : Value) : Below B w (set10 w' g a b c d e f h i j k) := by
 unfold set10; exact setCell_below (setCell_below (setCell_below (setCell_below (setCell_below (setCell_below (setCell_below (setCell_below (setCell_below (setCell_below hb hg _ _) hg _ _) hg _ _) hg _ _) hg _ _) hg _ _) hg _ _) hg _ _) hg _ _) hg _ _
theorem set10_turn (w : World) (g : Nat) (a b c d e f h i j k : Value) : Turn (fun x => x = g) w (set10 w g a b c d e f h i j k) := by
 unfold set10
 have h : ∀ (X : World) (o : Nat) (v : Value), Turn (fun x => x = g) X (X.setCell ⟨g, o, none⟩ v) := fun X o v => Turn.set _ _ (fun _ => rfl)
 exact (((((((((h _ _ _).trans (h _ _ _)).trans (h _ _ _)).trans (h _ _ _)).trans (h _ _ _)).trans (h _ _ _)).trans (h _ _ _)).trans (h _ _ _)).trans (h _ _ _)).trans (h _ _ _)
def sampR (l : List ILk) : IRiv := ⟨⟨10, 11⟩, ⟨1, 2⟩, 5, [⟨⟨2, 3⟩, ⟨4, 5⟩⟩], l⟩
def sampC (l : List ILk) (d : Int) : ICart := ⟨sampR l, d, [⟨0, ⟨1, 1⟩, 10⟩, ⟨1, ⟨2, 2⟩, 6⟩, ⟨2, ⟨1, 2⟩, 20⟩], [⟨0, 6, 5, 1, 3⟩, ⟨1, 4, 6, 3, 2⟩, ⟨0, 5, 3, 5, 1⟩]⟩
def SampC (l : List ILk) (d : Int) (w : World) (e : Ending) (w' : World) : Prop := ∃ gf gw gt A, e = .returned (.agg #[.int .i64 10, .int .i64 11, .int .i64 1, .int .i64 2, .int .i64 5, .slice (some ⟨gf, 0, none⟩) 1 1, .slice A l.length l.length, .int .i64 d, .slice (some ⟨gw, 0, none⟩) 3 3, .slice (some ⟨gt, 0, none⟩) 3 3]) ∧
 CtIn w' w'.heap.size (some ⟨gf, 0, none⟩) 1 A l.length (some ⟨gw, 0, none⟩) 3 (some ⟨gt, 0, none⟩) 3 (sampC l d) ∧ Below w.heap.size w w'
def SampD (d : Int) (w : World) (e : Ending) (w' : World) : Prop := ∃ gf gw gt, e = .returned (.agg #[.int .i64 10, .int .i64 11, .int .i64 1, .int .i64 2, .int .i64 5, .slice (some ⟨gf, 0, none⟩) 1 1, .slice none 0 0, .int .i64 d, .slice (some ⟨gw, 0, none⟩) 3 3, .slice (some ⟨gt, 0, none⟩) 3 3]) ∧
 CtIn w' w'.heap.size (some ⟨gf, 0, none⟩) 1 none 0 (some ⟨gw, 0, none⟩) 3 (some ⟨gt, 0, none⟩) 3 (sampC [] d) ∧ Below w.heap.size w w' ∧ w.heap.size <= gf ∧ w.heap.size <= gw ∧ w.heap.size <= gt
def sampT (gf : Nat) (d : Int) (B : Nat) (i : Nat) (v : Value) (w : World) : Prop :=
 match i with
 | 0 => v = .agg #[.int .i64 10, .int .i64 11, .int .i64 1, .int .i64 2, .int .i64 5, .slice (some ⟨gf, 0, none⟩) 1 1, .slice none 0 0]
 | 1 => v = .int .i64 d
 | 2 => v = .agg #[.int .i64 1, .int .i64 1]
 | 3 => v = .agg #[.int .i64 0, .int .i64 1, .int .i64 1, .int .i64 10]
 | 4 => v = .agg #[.int .i64 2, .int .i64 2]
 | 5 => v = .agg #[.int .i64 1, .int .i64 2, .int .i64 2, .int .i64 6]
 | 6 => v = .agg #[.int .i64 1, .int .i64 2]
 | 7 => v = .agg #[.int .i64 2, .int .i64 1, .int .i64 2, .int .i64 20]
 | 8 => ∃ g, v = .slice (some ⟨g, 0, none⟩) 3 3 ∧ B <= g ∧ Blk w g 65 #[.int .i64 0, .int .i64 1, .int .i64 1, .int .i64 10, .int .i64 1, .int .i64 2, .int .i64 2, .int .i64 6, .int .i64 2, .int .i64 1, .int .i64 2, .int .i64 20]
 | 9 => v = .agg #[.int .i64 0, .int .i64 6, .int .i64 5, .int .i64 1, .int .i64 3]
 | 10 => v = .agg #[.int .i64 1, .int .i64 4, .int .i64 6, .int .i64 3, .int .i64 2]
 | 11 => v = .agg #[.int .i64 0, .int .i64 5, .int .i64 3, .int .i64 5, .int .i64 1]
 | 12 => ∃ g, v = .slice (some ⟨g, 0, none⟩) 3 3 ∧ B <= g ∧ Blk w g 68 #[.int .i64 0, .int .i64 6, .int .i64 5, .int .i64 1, .int .i64 3, .int .i64 1, .int .i64 4, .int .i64 6, .int .i64 3, .int .i64 2, .int .i64 0, .int .i64 5, .int .i64 3, .int .i64 5, .int .i64 1]
 | _ => True
theorem sampT_keep {gf B : Nat} {d : Int} {i : Nat} {v : Value} {w w' : World} (h : sampT gf d B i v w) (hg : Below w.heap.size w w') : sampT gf d B i v w' := by
 match i, h with
 | 0, h => exact h
 | 1, h => exact h
 | 2, h => exact h
 | 3, h => exact h
 | 4, h => exact h
 | 5, h => exact h
 | 6, h => exact h
 | 7, h => exact h
 | 8, h => obtain ⟨g, e, h1, h2⟩ := h; exact ⟨g, e, h1, h2.below hg h2.lt⟩
 | 9, h => exact h
 | 10, h => exact h
 | 11, h => exact h
 | 12, h => obtain ⟨g, e, h1, h2⟩ := h; exact ⟨g, e, h1, h2.below hg h2.lt⟩
 | j + 13, _ => exact trivial
theorem sampleD_any (d : Int) (w : World) : Calls Tryz.prog 29 #[.int .i64 d] w (SampD d w) := by
 obtain ⟨W, hW⟩ : ∃ W, W = w.alloc (.cells #[.int .i64 0, .int .i64 0, .int .i64 0, .int .i64 0, .int .i64 0, .slice none 0 0, .slice none 0 0, .int .i64 0, .slice none 0 0, .slice none 0 0] 31) := ⟨_, rfl⟩; obtain ⟨b2, hb2⟩ : ∃ b, b = w.heap.size := ⟨_, rfl⟩; have HB0 : Hid (Below w.heap.size w W) := by rw [hW]; exact (Below.refl _ _).alloc (Nat.le_refl _) _
 have HX : Hid (Blk W b2 31 #[.int .i64 0, .int .i64 0, .int .i64 0, .int .i64 0, .int .i64 0, .slice none 0 0, .slice none 0 0, .int .i64 0, .slice none 0 0, .slice none 0 0]) := by rw [hW, hb2]; exact Blk.new w 31 _
 have HN : Hid (w.heap.size <= b2) := by show _ <= _; omega
 go_enter Tryz.func29, Tryz.ntmps29
 go_upto_region 1 with (fail); rw [<- hW, <- hb2]; clear hW hb2; go_wp2_with fail; refine (lspan_any _ _ _).mono ?_; rintro e w1 ⟨rfl, hb⟩; have HB1 : Hid (Below w.heap.size w w1) := HB0.out.trans (hb.mono HB0.out.size); have HX1 := hd9 (HX.out.below hb HX.out.lt); clear hb; go_wp2_with fail; refine (lspan_any _ _ _).mono ?_; rintro e w2 ⟨rfl, hb⟩; have HB2 : Hid (Below w.heap.size w w2) := HB1.out.trans (hb.mono HB1.out.size); have HX2 := hd9 (HX1.out.below hb HX1.out.lt); clear hb; go_wp2_with fail; refine (lspan_any _ _ _).mono ?_; rintro e w3 ⟨rfl, hb⟩; have HB3 : Hid (Below w.heap.size w w3) := HB2.out.trans (hb.mono HB2.out.size); have HX3 := hd9 (HX2.out.below hb HX2.out.lt); clear hb; go_wp2_with fail; refine (lspan_any _ _ _).mono ?_; rintro e w4 ⟨rfl, hb⟩; have HB4 : Hid (Below w.heap.size w w4) := HB3.out.trans (hb.mono HB3.out.size); have HX4 := hd9 (HX3.out.below hb HX3.out.lt); clear hb; go_upto_region 2 with (fail); obtain ⟨W5, hW5⟩ : ∃ W5, W5 = w4.alloc (.cells #[.int .i64 2, .int .i64 3, .int .i64 4, .int .i64 5] 59) := ⟨_, rfl⟩; obtain ⟨gf, hgf⟩ : ∃ g, g = w4.heap.size := ⟨_, rfl⟩; obtain ⟨W6, hW6⟩ : ∃ W6, W6 = W5.alloc (.cells #[.int .i64 10, .int .i64 11, .int .i64 1, .int .i64 2, .int .i64 5, .slice (some ⟨gf, 0, none⟩) 1 1, .slice none 0 0] 27) := ⟨_, rfl⟩; obtain ⟨b3, hb3⟩ : ∃ b, b = w4.heap.size + 1 := ⟨_, rfl⟩; rw [<- hW5, <- hb3, <- hgf, <- hW6]; have HB5 : Hid (Below w.heap.size w W5) := by rw [hW5]; exact HB4.out.alloc HB4.out.size _
 have HB6 : Hid (Below w.heap.size w W6) := by rw [hW6]; exact HB5.out.alloc HB5.out.size _
 have HX5 := hd9 (HX4.out.alloc (.cells #[.int .i64 2, .int .i64 3, .int .i64 4, .int .i64 5] 59)); rw [<- hW5] at HX5; have HX6 := hd9 (HX5.out.alloc (.cells #[.int .i64 10, .int .i64 11, .int .i64 1, .int .i64 2, .int .i64 5, .slice (some ⟨gf, 0, none⟩) 1 1, .slice none 0 0] 27)); rw [<- hW6] at HX6; have HF6 : Hid (Blk W6 gf 59 #[.int .i64 2, .int .i64 3, .int .i64 4, .int .i64 5]) := by rw [hW6, hW5, hgf]; exact (Blk.new w4 59 _).alloc _
 have HR6 : Hid (Blk W6 b3 27 #[.int .i64 10, .int .i64 11, .int .i64 1, .int .i64 2, .int .i64 5, .slice (some ⟨gf, 0, none⟩) 1 1, .slice none 0 0]) := by rw [hW6, hb3, show w4.heap.size + 1 = W5.heap.size by rw [hW5]; simp]; exact Blk.new W5 27 _
 have HGF : Hid (w.heap.size <= gf) := by rw [hgf]; exact HB4.out.size
 clear hW5 hW6 hgf hb3; have r0 := HR6.out.cell 0; have r1 := HR6.out.cell 1; have r2 := HR6.out.cell 2; have r3 := HR6.out.cell 3; have r4 := HR6.out.cell 4; have r5 := HR6.out.cell 5; have r6 := HR6.out.cell 6; have rl := HR6.out.lt; simp at r0 r1 r2 r3 r4 r5 r6
 refine HavG.wp_region_tab (R := RelB) (sampT gf d W6.heap.size) [11,12,13,14,15,16,17,18,19,20,21,22,23] [13,14] (by kernel_rfl) (by kernel_rfl) (by rfl) (fun i v w w' => sampT_keep) ?_ ?_
 ·intro i hi oo a' w' ho hag hg hd
  have hcv : ∀ b o, b < _ -> w'.cell? ⟨b, o, none⟩ = _ := fun b o hb => Below.cell hg (p := ⟨b, o, none⟩) hb
  match i, hi, ho, hd with
  | 0, _, ho, hd =>
   (simp only [qD9, qF9, sI9] at ho; subst ho)
   have s3 : a'.tmps[3]?.getD undef = .pointer (some ⟨b3, 0, none⟩) := by rw [<- gD9]; exact hag.slot 3 (by kernel_rfl)
   have r0' := (hcv b3 0 rl).trans r0; have r1' := (hcv b3 1 rl).trans r1; have r2' := (hcv b3 2 rl).trans r2; have r3' := (hcv b3 3 rl).trans r3; have r4' := (hcv b3 4 rl).trans r4; have r5' := (hcv b3 5 rl).trans r5; have r6' := (hcv b3 6 rl).trans r6; refine HavG.tab_val rfl ⟨_, w', ?_, RelB.refl _, rfl⟩
   go_simp
   try rfl
  | 1, _, ho, hd =>
   (simp only [qD9, qE9, qF9, sI9] at ho; subst ho)
   have s0 : a'.tmps[0]?.getD undef = .int .i64 d := by rw [<- gD9]; exact hag.slot 0 (by kernel_rfl)
   refine HavG.tab_val rfl ⟨_, w', ?_, RelB.refl _, rfl⟩
   go_simp
   try rfl
  | 2, _, ho, hd =>
   (simp only [qD9, qE9, qF9, sI9] at ho; subst ho)
   refine HavG.tab_call (f := 31) (args := #[.int .i64 1, .int .i64 1]) rfl ?_ ?_
   ·go_simp
    try exact ⟨rfl, rfl⟩
   ·refine (lspan_any 1 1 w').mono ?_; rintro e w2 ⟨rfl, hb⟩; exact ⟨_, rfl, hb, rfl⟩
  | 3, _, ho, hd =>
   (simp only [qD9, qE9, qF9, sI9] at ho; subst ho)
   have d2 : a'.tmps[13]?.getD undef = .agg #[.int .i64 1, .int .i64 1] := by rw [<- gD9]; exact hd 2 13 (by kernel_rfl) rfl
   refine HavG.tab_val rfl ⟨.agg #[.int .i64 0, .int .i64 1, .int .i64 1, .int .i64 10], w', ?_, RelB.refl _, rfl⟩
   go_simp
   try rfl
  | 4, _, ho, hd =>
   (simp only [qD9, qE9, qF9, sI9] at ho; subst ho)
   refine HavG.tab_call (f := 31) (args := #[.int .i64 2, .int .i64 2]) rfl ?_ ?_
   ·go_simp
    try exact ⟨rfl, rfl⟩
   ·refine (lspan_any 2 2 w').mono ?_; rintro e w2 ⟨rfl, hb⟩; exact ⟨_, rfl, hb, rfl⟩
  | 5, _, ho, hd =>
   (simp only [qD9, qE9, qF9, sI9] at ho; subst ho)
   have d4 : a'.tmps[15]?.getD undef = .agg #[.int .i64 2, .int .i64 2] := by rw [<- gD9]; exact hd 4 15 (by kernel_rfl) rfl
   refine HavG.tab_val rfl ⟨.agg #[.int .i64 1, .int .i64 2, .int .i64 2, .int .i64 6], w', ?_, RelB.refl _, rfl⟩
   go_simp
   try rfl
  | 6, _, ho, hd =>
   (simp only [qD9, qE9, qF9, sI9] at ho; subst ho)
   refine HavG.tab_call (f := 31) (args := #[.int .i64 1, .int .i64 2]) rfl ?_ ?_
   ·go_simp
    try exact ⟨rfl, rfl⟩
   ·refine (lspan_any 1 2 w').mono ?_; rintro e w2 ⟨rfl, hb⟩; exact ⟨_, rfl, hb, rfl⟩
  | 7, _, ho, hd =>
   (simp only [qD9, qE9, qF9, sI9] at ho; subst ho)
   have d6 : a'.tmps[17]?.getD undef = .agg #[.int .i64 1, .int .i64 2] := by rw [<- gD9]; exact hd 6 17 (by kernel_rfl) rfl
   refine HavG.tab_val rfl ⟨.agg #[.int .i64 2, .int .i64 1, .int .i64 2, .int .i64 20], w', ?_, RelB.refl _, rfl⟩
   go_simp
   try rfl
  | 8, _, ho, hd =>
   (simp only [qD9, qE9, qF9, sI9] at ho; subst ho)
   have d3 : a'.tmps[14]?.getD undef = .agg #[.int .i64 0, .int .i64 1, .int .i64 1, .int .i64 10] := by rw [<- gD9]; exact hd 3 14 (by kernel_rfl) rfl
   have d5 : a'.tmps[16]?.getD undef = .agg #[.int .i64 1, .int .i64 2, .int .i64 2, .int .i64 6] := by rw [<- gD9]; exact hd 5 16 (by kernel_rfl) rfl
   have d7 : a'.tmps[18]?.getD undef = .agg #[.int .i64 2, .int .i64 1, .int .i64 2, .int .i64 20] := by rw [<- gD9]; exact hd 7 18 (by kernel_rfl) rfl
   refine HavG.tab_val rfl ⟨.slice (some ⟨w'.heap.size, 0, none⟩) 3 3, w'.alloc (.cells #[.int .i64 0, .int .i64 1, .int .i64 1, .int .i64 10, .int .i64 1, .int .i64 2, .int .i64 2, .int .i64 6, .int .i64 2, .int .i64 1, .int .i64 2, .int .i64 20] 65), ?_, (Below.refl _ _).alloc (Nat.le_refl _) _, w'.heap.size, rfl, hg.size, Blk.new w' 65 _⟩
   go_simp
   try rfl
  | 9, _, ho, hd =>
   (simp only [qD9, qE9, qF9, sI9] at ho; subst ho)
   refine HavG.tab_val rfl ⟨.agg #[.int .i64 0, .int .i64 6, .int .i64 5, .int .i64 1, .int .i64 3], w', ?_, RelB.refl _, rfl⟩
   go_simp
   try rfl
  | 10, _, ho, hd =>
   (simp only [qD9, qE9, qF9, sI9] at ho; subst ho)
   refine HavG.tab_val rfl ⟨.agg #[.int .i64 1, .int .i64 4, .int .i64 6, .int .i64 3, .int .i64 2], w', ?_, RelB.refl _, rfl⟩
   go_simp
   try rfl
  | 11, _, ho, hd =>
   (simp only [qD9, qE9, qF9, sI9] at ho; subst ho)
   refine HavG.tab_val rfl ⟨.agg #[.int .i64 0, .int .i64 5, .int .i64 3, .int .i64 5, .int .i64 1], w', ?_, RelB.refl _, rfl⟩
   go_simp
   try rfl
  | 12, _, ho, hd =>
   (simp only [qD9, qE9, qF9, sI9] at ho; subst ho)
   have d9 : a'.tmps[20]?.getD undef = .agg #[.int .i64 0, .int .i64 6, .int .i64 5, .int .i64 1, .int .i64 3] := by rw [<- gD9]; exact hd 9 20 (by kernel_rfl) rfl
   have d10 : a'.tmps[21]?.getD undef = .agg #[.int .i64 1, .int .i64 4, .int .i64 6, .int .i64 3, .int .i64 2] := by rw [<- gD9]; exact hd 10 21 (by kernel_rfl) rfl
   have d11 : a'.tmps[22]?.getD undef = .agg #[.int .i64 0, .int .i64 5, .int .i64 3, .int .i64 5, .int .i64 1] := by rw [<- gD9]; exact hd 11 22 (by kernel_rfl) rfl
   refine HavG.tab_val rfl ⟨.slice (some ⟨w'.heap.size, 0, none⟩) 3 3, w'.alloc (.cells #[.int .i64 0, .int .i64 6, .int .i64 5, .int .i64 1, .int .i64 3, .int .i64 1, .int .i64 4, .int .i64 6, .int .i64 3, .int .i64 2, .int .i64 0, .int .i64 5, .int .i64 3, .int .i64 5, .int .i64 1] 68), ?_, (Below.refl _ _).alloc (Nat.le_refl _) _, w'.heap.size, rfl, hg.size, Blk.new w' 68 _⟩
   go_simp
   try rfl
  | j + 13, hj, _, _ => exact absurd hj (by simp)
 intro f w7 hgz hF; simp only [List.filterMap, HavG.puts, List.foldl_cons, List.foldl_nil, Act.put, List.setIfInBounds_toArray, List.set_cons_succ, List.set_cons_zero]; obtain ⟨gw, egw, hgw, hbw⟩ := hF 8 19 rfl; obtain ⟨gt, egt, hgt, hbt⟩ := hF 12 23 rfl; have f0 := hF 0 11 rfl; have f1 := hF 1 12 rfl; have f2 := hF 2 13 rfl; have f3 := hF 3 14 rfl; have f4 := hF 4 15 rfl; have f5 := hF 5 16 rfl; have f6 := hF 6 17 rfl; have f7 := hF 7 18 rfl; have f9 := hF 9 20 rfl; have f10 := hF 10 21 rfl; have f11 := hF 11 22 rfl; simp only [sampT] at f0 f1 f2 f3 f4 f5 f6 f7 f9 f10 f11; rw [egw, egt, f0, f1, f2, f3, f4, f5, f6, f7, f9, f10, f11]; have hb7 : Below W6.heap.size W6 w7 := hgz; have HB7 : Hid (Below w.heap.size w w7) := HB6.out.trans (hb7.mono HB6.out.size); have HX7 := hd9 (HX6.out.below hb7 HX6.out.lt); have HF7 := hd9 (HF6.out.below hb7 HF6.out.lt); have HW7 : Hid (Blk w7 gw 65 #[.int .i64 0, .int .i64 1, .int .i64 1, .int .i64 10, .int .i64 1, .int .i64 2, .int .i64 2, .int .i64 6, .int .i64 2, .int .i64 1, .int .i64 2, .int .i64 20]) := hbw; have HT7 : Hid (Blk w7 gt 68 #[.int .i64 0, .int .i64 6, .int .i64 5, .int .i64 1, .int .i64 3, .int .i64 1, .int .i64 4, .int .i64 6, .int .i64 3, .int .i64 2, .int .i64 0, .int .i64 5, .int .i64 3, .int .i64 5, .int .i64 1]) := hbt
 have HNE : Hid (gf ≠ b2 ∧ gw ≠ b2 ∧ gt ≠ b2) := by
  have h1 := HX6.out.lt
  refine ⟨fun e => ?_, by omega, by omega⟩
  have h2 := HF6.out; have h3 := HX6.out; rw [e] at h2; have h4 := h2.symm.trans h3; simp at h4
 have HGB : Hid (w.heap.size <= gf ∧ w.heap.size <= gw ∧ w.heap.size <= gt) := ⟨HGF.out, Nat.le_trans HB6.out.size hgw, Nat.le_trans HB6.out.size hgt⟩; clear hgz hb7 hgw hbw hgt hbt hF egw egt f0 f1 f2 f3 f4 f5 f6 f7 f9 f10 f11 r0 r1 r2 r3 r4 r5 r6 rl; have z0 := HX7.out.frozen 0; have z1 := HX7.out.frozen 1; have z2 := HX7.out.frozen 2; have z3 := HX7.out.frozen 3; have z4 := HX7.out.frozen 4; have z5 := HX7.out.frozen 5; have z6 := HX7.out.frozen 6; have z7 := HX7.out.frozen 7; have z8 := HX7.out.frozen 8; have z9 := HX7.out.frozen 9; have c0 := HX7.out.cell 0; have c1 := HX7.out.cell 1; have c2 := HX7.out.cell 2; have c3 := HX7.out.cell 3; have c4 := HX7.out.cell 4; have c5 := HX7.out.cell 5; have c6 := HX7.out.cell 6; have c7 := HX7.out.cell 7; have c8 := HX7.out.cell 8; have c9 := HX7.out.cell 9; have xl := HX7.out.lt; simp at c0 c1 c2 c3 c4 c5 c6 c7 c8 c9; go_wp2; obtain ⟨W9, hW9⟩ : ∃ W9, W9 = set10 w7 b2 (.int .i64 10) (.int .i64 11) (.int .i64 1) (.int .i64 2) (.int .i64 5) (.slice (some ⟨gf, 0, none⟩) 1 1) (.slice none 0 0) (.int .i64 d) (.slice (some ⟨gw, 0, none⟩) 3 3) (.slice (some ⟨gt, 0, none⟩) 3 3) := ⟨_, rfl⟩; have HK9 := hd9 (set10_blk (a := .int .i64 10) (b := .int .i64 11) (c := .int .i64 1) (d := .int .i64 2) (e := .int .i64 5) (f := .slice (some ⟨gf, 0, none⟩) 1 1) (h := .slice none 0 0) (i := .int .i64 d) (j := .slice (some ⟨gw, 0, none⟩) 3 3) (k := .slice (some ⟨gt, 0, none⟩) 3 3) HX7.out)
 have hb9 : Below w.heap.size w W9 := by rw [hW9]; exact set10_below HB7.out HN.out _ _ _ _ _ _ _ _ _ _
 have ht9 : Turn (fun x => x = b2) w7 W9 := by rw [hW9]; exact set10_turn _ _ _ _ _ _ _ _ _ _ _ _
 rw [<- hW9] at HK9; unfold set10 at hW9; rw [<- hW9]; have k0 := HK9.out.cell 0; have k1 := HK9.out.cell 1; have k2 := HK9.out.cell 2; have k3 := HK9.out.cell 3; have k4 := HK9.out.cell 4; have k5 := HK9.out.cell 5; have k6 := HK9.out.cell 6; have k7 := HK9.out.cell 7; have k8 := HK9.out.cell 8; have k9 := HK9.out.cell 9; simp at k0 k1 k2 k3 k4 k5 k6 k7 k8 k9; have HF9 := HF7.out.turn ht9 HNE.out.1; have HW9 := HW7.out.turn ht9 HNE.out.2.1; have HT9 := HT7.out.turn ht9 HNE.out.2.2; refine bodyPost_ret (v := .agg #[.int .i64 10, .int .i64 11, .int .i64 1, .int .i64 2, .int .i64 5, .slice (some ⟨gf, 0, none⟩) 1 1, .slice none 0 0, .int .i64 d, .slice (some ⟨gw, 0, none⟩) 3 3, .slice (some ⟨gt, 0, none⟩) 3 3]) (by simp [results, Tryz.results29, go_sem, k0, k1, k2, k3, k4, k5, k6, k7, k8, k9]) rfl ⟨gf, gw, gt, rfl, ?_, hb9, HGB.out.1, HGB.out.2.1, HGB.out.2.2⟩
 exact ⟨⟨rfl, rfl, RdG.of_blk (f := frI) (sz := 4) (t := 59) (fun _ => rfl) HF9 HF9.lt, RdG.nil _ _ _ _ _, by omega, by simp⟩, rfl, rfl, RdG.of_blk (f := wgI) (sz := 4) (t := 65) (fun _ => rfl) HW9 HW9.lt, RdG.of_blk (f := ltI) (sz := 5) (t := 68) (fun _ => rfl) HT9 HT9.lt, by omega, by omega⟩
theorem sample_any (d : Int) (w : World) : Calls Tryz.prog 29 #[.int .i64 d] w (SampC [] d w) :=
 (sampleD_any d w).mono fun _ _ ⟨gf, gw, gt, e, h, hb, _⟩ => ⟨gf, gw, gt, none, e, h, hb⟩
theorem max5_run (a b c d e : Int) (w : World) : (Builtin.max_ #[3, 3, 3, 3, 3] 3 #[.int .i64 a, .int .i64 b, .int .i64 c, .int .i64 d, .int .i64 e]).run Tryz.prog w = .ok (.int .i64 (max (max (max (max a b) c) d) e)) w := by
 simp [Builtin.max_, Builtin.max2]
 repeat' split
 all_goals omega
section
variable {fa la wa ta : Option Addr} {fl fc ll lc wn wc tn tc : Nat} {c : ICart}
variable {w : World}
theorem long_any {A : Option Addr} {n cp : Nat} (hn : n <= 9223372036854775807) (w : World) (hP : CtIn w w.heap.size fa fl la ll wa wn ta tn c) : Calls Tryz.prog 32 #[(.agg (CX9 c fa fl fc la ll lc wa wn wc ta tn tc)), .slice A n cp] w fun e w' => (∃ b, e = .returned (.bool b) ∧ (b = false -> fl <= 40 ∧ ll <= 40 ∧ wn <= 40 ∧ tn <= 40 ∧ n <= 40)) ∧ Below w.heap.size w w' := by
 have m1 := hP.riv.mfl; have m2 := hP.riv.mll; have m3 := hP.mwn; have m4 := hP.mtn; clear hP
 obtain ⟨m, hm, hle⟩ : ∃ m : Int, (∀ w, (Builtin.max_ #[3, 3, 3, 3, 3] 3 #[.int .i64 (fl : Int), .int .i64 (ll : Int), .int .i64 (wn : Int), .int .i64 (tn : Int), .int .i64 (n : Int)]).run Tryz.prog w = .ok (.int .i64 m) w) ∧ Hid (decide (40 < m) = false -> fl <= 40 ∧ ll <= 40 ∧ wn <= 40 ∧ tn <= 40 ∧ n <= 40) := by
  refine ⟨_, fun w => max5_run _ _ _ _ _ _, show _ -> _ from fun h => by simp only [decide_eq_false_iff_not] at h; omega⟩
 obtain ⟨W, hW⟩ : ∃ W, W = w.alloc (.cells (CX9 c fa fl fc la ll lc wa wn wc ta tn tc) 31) := ⟨_, rfl⟩; obtain ⟨b1, hb1⟩ : ∃ b, b = w.heap.size := ⟨_, rfl⟩; have HK : Hid (Blk W b1 31 (CX9 c fa fl fc la ll lc wa wn wc ta tn tc)) := by rw [hW, hb1]; exact Blk.new w 31 _
 have HB0 : Hid (Below w.heap.size w W) := by rw [hW]; exact (Below.refl _ _).alloc (Nat.le_refl _) _
 have hx := HK.out; obtain ⟨q0, q1, q2, q3, q4, q5, q6, q7, q8, q9, ql⟩ := cx31 hx; clear hx
 go_enter Tryz.func32, Tryz.ntmps32
 go_upto_region 1 with (fail); rw [<- hW, <- hb1]; clear hW hb1; go_wp2; go_ret
 exact ⟨⟨_, rfl, hle.out⟩, HB0.out⟩
theorem clashE_none {r : IRiv} (h : okR r = true) : clashE r = 4 ↔ truthsA r.nat ≠ [] := by
 unfold clashE; rw [if_neg (by rw [h]; simp)]
 by_cases e : truthsA r.nat = []
 ·rw [if_pos e]; exact ⟨fun h => by omega, fun h => absurd e h⟩
 ·rw [if_neg e]; exact ⟨fun _ => e, fun _ => rfl⟩
theorem fine_any (w : World) (hP : CtIn w w.heap.size fa fl la ll wa wn ta tn c) : Calls Tryz.prog 39 #[(.agg (CX9 c fa fl fc la ll lc wa wn wc ta tn tc))] w fun e w' => (∃ b, e = .returned (.bool b) ∧ (b = true -> openE c true = 0)) ∧ Below w.heap.size w w' := by
 have HP := hd9 hP; clear hP; obtain ⟨W, hW⟩ : ∃ W, W = w.alloc (.cells (CX9 c fa fl fc la ll lc wa wn wc ta tn tc) 31) := ⟨_, rfl⟩; obtain ⟨b1, hb1⟩ : ∃ b, b = w.heap.size := ⟨_, rfl⟩; have HK : Hid (Blk W b1 31 (CX9 c fa fl fc la ll lc wa wn wc ta tn tc)) := by rw [hW, hb1]; exact Blk.new w 31 _
 have HB0 : Hid (Below w.heap.size w W) := by rw [hW]; exact (Below.refl _ _).alloc (Nat.le_refl _) _
 go_enter Tryz.func39, Tryz.ntmps39
 go_upto_region 1 with (fail); rw [<- hW, <- hb1]; clear hW hb1; have hx := HK.out; obtain ⟨q0, q1, q2, q3, q4, q5, q6, q7, q8, q9, ql⟩ := cx31 hx; clear hx; go_wp2_with fail; refine (long_any (fa := fa) (fl := fl) (fc := fc) (la := la) (ll := ll) (lc := lc) (wa := wa) (wn := wn) (wc := wc) (ta := ta) (tn := tn) (tc := tc) (A := none) (n := 0) (cp := 0) (by omega) W (HP.out.grow HB0.out)).mono ?_
 rintro e w1 ⟨⟨b, rfl, -⟩, hb⟩; have HB1 : Hid (Below w.heap.size w w1) := HB0.out.trans (hb.mono HB0.out.size); have HK1 := hd9 (HK.out.below hb HK.out.lt); clear hb; clear q0 q1 q2 q3 q4 q5 q6 q7 q8 q9 ql; have hx := HK1.out; obtain ⟨q0, q1, q2, q3, q4, q5, q6, q7, q8, q9, ql⟩ := cx31 hx; clear hx; cases b
 case true =>
  go_wp2; go_ret
  exact ⟨⟨_, rfl, by simp⟩, HB1.out⟩
 go_wp2_with fail; refine (rcart_any (fa := fa) (fl := fl) (fc := fc) (la := la) (ll := ll) (lc := lc) (wa := wa) (wn := wn) (wc := wc) (ta := ta) (tn := tn) (tc := tc) w1 (HP.out.grow HB1.out)).mono ?_
 obtain ⟨ok, hok⟩ : ∃ ok, okC c = ok := ⟨_, rfl⟩; have HOK := hd9 hok; rw [hok]; rintro e w2 ⟨rfl, hb⟩; have HB2 : Hid (Below w.heap.size w w2) := HB1.out.trans (hb.mono HB1.out.size); have HK2 := hd9 (HK1.out.below hb HK1.out.lt); clear hb hok; clear q0 q1 q2 q3 q4 q5 q6 q7 q8 q9 ql; have hx := HK2.out; obtain ⟨q0, q1, q2, q3, q4, q5, q6, q7, q8, q9, ql⟩ := cx31 hx; clear hx; cases ok
 case false =>
  go_wp2; go_ret
  exact ⟨⟨_, rfl, by simp⟩, HB2.out⟩
 go_wp2_with fail; refine (PClash_any (fa := fa) (fl := fl) (fc := fc) (la := la) (ll := ll) (lc := lc) (r := c.riv) (w := w2) (HP.out.grow HB2.out).riv).mono ?_
 obtain ⟨ce, hce⟩ : ∃ ce, clashE c.riv = ce := ⟨_, rfl⟩; have HCE := hd9 hce; rw [hce]; rintro e w3 ⟨rfl, hb⟩; have HB3 : Hid (Below w.heap.size w w3) := HB2.out.trans (hb.mono HB2.out.size)
 have HOE : Hid (ce = 4 -> openE c true = 0) := fun h => by
  have h1 := (okC_parts HOK.out).1; have h2 := (clashE_none h1).1 (HCE.out.trans h); unfold openE hasT; rw [HOK.out]
  simp [h2]
 clear hb hce; clear q0 q1 q2 q3 q4 q5 q6 q7 q8 q9 ql
 by_cases h4 : ce = 4
 ·have HOE2 := hd9 (HOE.out h4); subst h4; go_wp2; go_ret
  exact ⟨⟨true, rfl, fun _ => HOE2.out⟩, HB3.out⟩
 ·have hq : ((ce : Int) == 4) = false := by simp; omega
  clear h4; go_wp2; go_ret
  exact ⟨⟨false, by simp, by simp⟩, HB3.out⟩
end
end
section
open Go.RowKit Go.Hav Go.ChangeShapes Go.WideShapes Go.Deep
theorem list_of {α : Type} (P : Nat -> α -> Prop) : ∀ n : Nat, (∀ i, i < n -> ∃ x, P i x) -> ∃ l : List α, l.length = n ∧ ∀ i x, l[i]? = some x -> P i x := by
 intro n
 induction n with
 | zero => intro _; exact ⟨[], rfl, fun i x h => by simp at h⟩
 | succ n ih =>
  intro h
  obtain ⟨l, hl, hp⟩ := ih (fun i hi => h i (by omega))
  obtain ⟨x, hx⟩ := h n (by omega)
  refine ⟨l ++ [x], by simp [hl], fun i y hy => ?_⟩
  rcases Nat.lt_or_ge i n with hi | hi
  ·rw [List.getElem?_append_left (by omega)] at hy
   exact hp i y hy
  ·rw [List.getElem?_append_right (by omega)] at hy
   by_cases e : i = n
   ·subst e; rw [hl, Nat.sub_self] at hy; obtain rfl : x = y := by simpa using hy
    exact hx
   ·rw [hl, List.getElem?_eq_none (by simp; omega)] at hy
    cases hy
section
variable {H : Type} {enc : TypeId × Value -> H} {W : World} {base : Nat} {spare : Nat -> Bool} {held : Bool}
theorem open_rows {t e : TypeId} {fuel sz : Nat} {c : Value} {x : DataW H × List MemPlace} (ht : Tryz.prog.underlying t = some (.slice e)) (hc : Tryz.prog.cellsOf e = sz) (h0 : 0 < sz) (h : DataW.trod enc Tryz.prog W base spare held fuel t [c] = some x) :
  ∃ (A : Option Addr) (len cap : Nat), c = .slice A len cap ∧ len <= maxLen ∧ ∀ i, i < len -> ∃ (b off n : Nat) (cs : List Value) (y : DataW H × List MemPlace), A = some ⟨b, off, none⟩ ∧ cs.length = sz ∧ (∀ j v, cs[j]? = some v -> W.cell? ⟨b, off + (i * sz + j), none⟩ = some v) ∧ DataW.trod enc Tryz.prog W base spare held n e cs = some y := by
 rcases open_slice ht h with ⟨e1, _⟩ | ⟨a, len, cap, m, n, D, Pl, e1, _, hl, hm, hmm, _, hi⟩
 ·obtain rfl : c = .slice none 0 0 := by simpa using e1
  exact ⟨none, 0, 0, rfl, Nat.zero_le _, fun i hi => by omega⟩
 ·obtain rfl : c = .slice (some a) len cap := by simpa using e1
  refine ⟨some a, len, cap, rfl, Nat.le_trans hl hm, fun i hlt => ?_⟩
  obtain ⟨cs, hcs, ht⟩ := hi i (by rw [hmm]; split <;> omega)
  rw [hc] at hcs; obtain ⟨_, hlen, hat⟩ := World.cells?_some hcs
  -- the address has no spot
  obtain ⟨cs0, hcs0, _⟩ := hi 0 (by rw [hmm]; split <;> omega)
  rw [hc, Nat.zero_mul] at hcs0; obtain ⟨_, hlen0, hat0⟩ := World.cells?_some hcs0; have h00 := hat0 0 h0; rw [List.getElem?_eq_getElem (by omega)] at h00
  have hs : a.spot = none := by
   have := World.cell?_spot h00
   simpa [Addr.add] using this
  obtain ⟨b, off, spot⟩ := a; simp only at hs; subst hs
  refine ⟨b, off, n, cs, _, rfl, hlen, fun j v hv => ?_, ht⟩
  have hj : j < sz := by rw [<- hlen]; exact (List.getElem?_eq_some_iff.1 hv).1
  have h1 := hat j hj; rw [hv] at h1; rw [<- h1]
  congr 1
  unfold Addr.add
  split <;> split <;> simp_all <;> omega
theorem one_int {n : Nat} {cs : List Value} {y : DataW H × List MemPlace} (h : DataW.trod enc Tryz.prog W base spare held n 3 cs = some y) : ∃ a, cs = [.int .i64 a] := by
 obtain ⟨a, e, _⟩ := DataW.trod_int Tryz.underlying3 h; exact ⟨a, e⟩
theorem two_ints {n : Nat} {cs : List Value} {y : DataW H × List MemPlace} (h : DataW.trod enc Tryz.prog W base spare held n 23 cs = some y) : ∃ a b, cs = [.int .i64 a, .int .i64 b] := by
 have c3 : Tryz.prog.cellsOf 3 = 1 := by kernel_rfl
 have c23 : Tryz.prog.cellsOf 23 = 2 := by kernel_rfl
 obtain ⟨xs, m, _, _, hlen, hx, hf⟩ := DataW.trod_struct Tryz.underlying23 h; rw [c23] at hlen
 match cs, hlen with
 | [u, v], _ =>
  match xs, hx with
  | [x0, x1], _ =>
   obtain ⟨a, ha⟩ := one_int (hf 0 _ rfl); obtain ⟨b, hb⟩ := one_int (hf 1 _ rfl)
   simp [c3] at ha hb
   exact ⟨a, b, by rw [ha, hb]⟩
theorem fr_cells {n : Nat} {cs : List Value} {y : DataW H × List MemPlace} (h : DataW.trod enc Tryz.prog W base spare held n 59 cs = some y) : ∃ c : IFr, cs = frI c := by
 have c23 : Tryz.prog.cellsOf 23 = 2 := by kernel_rfl
 have c59 : Tryz.prog.cellsOf 59 = 4 := by kernel_rfl
 obtain ⟨xs, m, _, _, hlen, hx, hf⟩ := DataW.trod_struct Tryz.underlying59 h; rw [c59] at hlen
 match cs, hlen with
 | [u0, u1, u2, u3], _ =>
  match xs, hx with
  | [x0, x1], _ =>
   obtain ⟨c, d, hcd⟩ := two_ints (hf 0 _ rfl); obtain ⟨a, b, hab⟩ := two_ints (hf 1 _ rfl)
   simp [c23] at hab hcd
   exact ⟨⟨⟨c, d⟩, ⟨a, b⟩⟩, by simp [frI, hab, hcd]⟩
theorem lk_cells {n : Nat} {cs : List Value} {y : DataW H × List MemPlace} (h : DataW.trod enc Tryz.prog W base spare held n 61 cs = some y) : ∃ c : ILk, cs = lkI c := by
 have c3 : Tryz.prog.cellsOf 3 = 1 := by kernel_rfl
 have c23 : Tryz.prog.cellsOf 23 = 2 := by kernel_rfl
 have c61 : Tryz.prog.cellsOf 61 = 3 := by kernel_rfl
 obtain ⟨xs, m, _, _, hlen, hx, hf⟩ := DataW.trod_struct Tryz.underlying61 h; rw [c61] at hlen
 match cs, hlen with
 | [u0, u1, u2], _ =>
  match xs, hx with
  | [x0, x1], _ =>
   obtain ⟨a, ha⟩ := one_int (hf 0 _ rfl); obtain ⟨c, d, hcd⟩ := two_ints (hf 1 _ rfl)
   simp [c3, c23] at ha hcd
   exact ⟨⟨a, ⟨c, d⟩⟩, by simp [lkI, ha, hcd]⟩
theorem rows_list {α : Type} {f : α -> List Value} {A : Option Addr} {len sz : Nat} {e : TypeId} (he : ∀ (n : Nat) (cs : List Value) (y : DataW H × List MemPlace), DataW.trod enc Tryz.prog W base spare held n e cs = some y -> ∃ x, cs = f x) (hf0 : ∀ x, 0 < (f x).length)
  (h : ∀ i, i < len -> ∃ (b off n : Nat) (cs : List Value) (y : DataW H × List MemPlace), A = some ⟨b, off, none⟩ ∧ cs.length = sz ∧ (∀ j v, cs[j]? = some v -> W.cell? ⟨b, off + (i * sz + j), none⟩ = some v) ∧ DataW.trod enc Tryz.prog W base spare held n e cs = some y) :
  ∃ l : List α, l.length = len ∧ RdG f sz W W.heap.size A l := by
 obtain ⟨l, hl, hp⟩ := list_of (fun i x => ∃ b off, A = some ⟨b, off, none⟩ ∧ b < W.heap.size ∧ ∀ j u, (f x)[j]? = some u -> W.cell? ⟨b, off + (i * sz + j), none⟩ = some u) len (fun i hi => by
  obtain ⟨b, off, n, cs, y, e1, _, hc, ht⟩ := h i hi; obtain ⟨x, rfl⟩ := he n cs y ht; refine ⟨x, b, off, e1, ?_, hc⟩; have h0 := hc 0 _ (List.getElem?_eq_getElem (hf0 x)); rcases Nat.lt_or_ge b W.heap.size with hlt | hge
  ·exact hlt
  ·unfold World.cell? at h0
   simp [Array.getElem?_eq_none hge] at h0)
 exact ⟨l, hl, fun k x hx => hp k x hx⟩
theorem wg_cells {n : Nat} {cs : List Value} {y : DataW H × List MemPlace} (h : DataW.trod enc Tryz.prog W base spare held n 65 cs = some y) : ∃ c : IWag, cs = wgI c := by
 have c3 : Tryz.prog.cellsOf 3 = 1 := by kernel_rfl
 have c23 : Tryz.prog.cellsOf 23 = 2 := by kernel_rfl
 have c65 : Tryz.prog.cellsOf 65 = 4 := by kernel_rfl
 obtain ⟨xs, m, _, _, hlen, hx, hf⟩ := DataW.trod_struct Tryz.underlying65 h; rw [c65] at hlen
 match cs, hlen with
 | [u0, u1, u2, u3], _ =>
  match xs, hx with
  | [x0, x1, x2], _ =>
   obtain ⟨a, ha⟩ := one_int (hf 0 _ rfl); obtain ⟨b, d, hb⟩ := two_ints (hf 1 _ rfl); obtain ⟨e, he⟩ := one_int (hf 2 _ rfl)
   simp [c3, c23] at ha hb he
   exact ⟨⟨a, ⟨b, d⟩, e⟩, by simp [wgI, ha, hb, he]⟩
theorem lt_cells {n : Nat} {cs : List Value} {y : DataW H × List MemPlace} (h : DataW.trod enc Tryz.prog W base spare held n 68 cs = some y) : ∃ c : ILot, cs = ltI c := by
 have c3 : Tryz.prog.cellsOf 3 = 1 := by kernel_rfl
 have c68 : Tryz.prog.cellsOf 68 = 5 := by kernel_rfl
 obtain ⟨xs, m, _, _, hlen, hx, hf⟩ := DataW.trod_struct Tryz.underlying68 h; rw [c68] at hlen
 match cs, hlen with
 | [u0, u1, u2, u3, u4], _ =>
  match xs, hx with
  | [x0, x1, x2, x3, x4], _ =>
   obtain ⟨a0, h0⟩ := one_int (hf 0 _ rfl); obtain ⟨a1, h1⟩ := one_int (hf 1 _ rfl); obtain ⟨a2, h2⟩ := one_int (hf 2 _ rfl); obtain ⟨a3, h3⟩ := one_int (hf 3 _ rfl); obtain ⟨a4, h4⟩ := one_int (hf 4 _ rfl)
   simp [c3] at h0 h1 h2 h3 h4
   exact ⟨⟨a0, a1, a2, a3, a4⟩, by simp [ltI, h0, h1, h2, h3, h4]⟩
theorem riv_cells {n : Nat} {u0 u1 u2 u3 u4 u5 u6 : Value} {y : DataW H × List MemPlace} (h : DataW.trod enc Tryz.prog W base spare held n 27 [u0, u1, u2, u3, u4, u5, u6] = some y) :
  ∃ (fa la : Option Addr) (fl fc ll lc : Nat) (q : IRiv), [u0, u1, u2, u3, u4, u5, u6] = [.int .i64 q.depth.lo, .int .i64 q.depth.hi, .int .i64 q.fall.lo, .int .i64 q.fall.hi, .int .i64 q.days, .slice fa fl fc, .slice la ll lc] ∧ RvIn W W.heap.size fa fl la ll q := by
 have c3 : Tryz.prog.cellsOf 3 = 1 := by kernel_rfl
 have c23 : Tryz.prog.cellsOf 23 = 2 := by kernel_rfl
 have c24 : Tryz.prog.cellsOf 24 = 1 := by kernel_rfl
 have c25 : Tryz.prog.cellsOf 25 = 1 := by kernel_rfl
 obtain ⟨xs, m, _, _, _, hx, hg⟩ := DataW.trod_struct Tryz.underlying27 h
 match xs, hx with
 | [x0, x1, x2, x3, x4], _ =>
  have g0 := hg 0 _ rfl; have g1 := hg 1 _ rfl; have g2 := hg 2 _ rfl; have g3 := hg 3 _ rfl; have g4 := hg 4 _ rfl
  simp [c3, c23, c24, c25] at g0 g1 g2 g3 g4
  obtain ⟨d0, d1, e0⟩ := two_ints g0; obtain ⟨f0, f1, e1⟩ := two_ints g1; obtain ⟨days, e2⟩ := one_int g2; obtain ⟨rfl, rfl⟩ : u0 = .int .i64 d0 ∧ u1 = .int .i64 d1 := by simpa using e0
  obtain ⟨rfl, rfl⟩ : u2 = .int .i64 f0 ∧ u3 = .int .i64 f1 := by simpa using e1
  obtain rfl : u4 = .int .i64 days := by simpa using e2
  obtain ⟨fa, fl, fc, rfl, m0, h0⟩ := open_rows (sz := 4) Tryz.underlying24 (by kernel_rfl) (by decide) g3
  obtain ⟨la, ll, lc, rfl, m4, h4⟩ := open_rows (sz := 3) Tryz.underlying25 (by kernel_rfl) (by decide) g4
  obtain ⟨frs, k0, r0⟩ := rows_list (f := frI) (fun n cs y h => fr_cells h) (fun x => by simp [frI]) h0
  obtain ⟨lks, k4, r4⟩ := rows_list (f := lkI) (fun n cs y h => lk_cells h) (fun x => by simp [lkI]) h4
  unfold maxLen at m0 m4; exact ⟨fa, la, fl, fc, ll, lc, ⟨⟨d0, d1⟩, ⟨f0, f1⟩, days, frs, lks⟩, rfl, k0, k4, r0, r4, by omega, by omega⟩
theorem open_cart {r : Reach} {b0 : Nat} {v : Value} {d : DataW H} {p : List MemPlace} (hv : Value.okWide Tryz.prog W r b0 31 v) (h : DataW.Trod enc Tryz.prog W base spare held 31 v d p) :
  ∃ (fa la wa ta : Option Addr) (fl fc ll lc wn wc tn tc : Nat) (c : ICart), v = (.agg (CX9 c fa fl fc la ll lc wa wn wc ta tn tc)) ∧ CtIn W W.heap.size fa fl la ll wa wn ta tn c := by
 have c3 : Tryz.prog.cellsOf 3 = 1 := by kernel_rfl
 have c27 : Tryz.prog.cellsOf 27 = 7 := by kernel_rfl
 have c28 : Tryz.prog.cellsOf 28 = 1 := by kernel_rfl
 have c29 : Tryz.prog.cellsOf 29 = 1 := by kernel_rfl
 have c31 : Tryz.prog.cellsOf 31 = 10 := by kernel_rfl
 obtain ⟨cs, rfl, hsz⟩ := okWide_struct Tryz.underlying31 hv; rw [c31] at hsz; obtain ⟨l⟩ := cs
 match l, hsz with
 | [u0, u1, u2, u3, u4, u5, u6, u7, u8, u9], _ =>
  obtain ⟨fuel, hf⟩ := h; obtain ⟨xs, m, _, _, _, hx, hg⟩ := DataW.trod_struct Tryz.underlying31 hf
  match xs, hx with
  | [x0, x1, x2, x3], _ =>
   have g0 := hg 0 _ rfl; have g1 := hg 1 _ rfl; have g2 := hg 2 _ rfl; have g3 := hg 3 _ rfl
   simp [Value.cells, c3, c27, c28, c29] at g0 g1 g2 g3
   obtain ⟨fa, la, fl, fc, ll, lc, q, e0, hR⟩ := riv_cells g0; obtain ⟨dr, e1⟩ := one_int g1; obtain rfl : u7 = .int .i64 dr := by simpa using e1
   obtain ⟨wa, wn, wc, rfl, m2, h2⟩ := open_rows (sz := 4) Tryz.underlying28 (by kernel_rfl) (by decide) g2
   obtain ⟨ta, tn, tc, rfl, m3, h3⟩ := open_rows (sz := 5) Tryz.underlying29 (by kernel_rfl) (by decide) g3
   obtain ⟨wgs, k2, r2⟩ := rows_list (f := wgI) (fun n cs y h => wg_cells h) (fun x => by simp [wgI]) h2
   obtain ⟨lts, k3, r3⟩ := rows_list (f := ltI) (fun n cs y h => lt_cells h) (fun x => by simp [ltI]) h3
   obtain ⟨rfl, rfl, rfl, rfl, rfl, rfl, rfl⟩ : u0 = .int .i64 q.depth.lo ∧ u1 = .int .i64 q.depth.hi ∧ u2 = .int .i64 q.fall.lo ∧ u3 = .int .i64 q.fall.hi ∧ u4 = .int .i64 q.days ∧ u5 = .slice fa fl fc ∧ u6 = .slice la ll lc := by simpa using e0
   unfold maxLen at m2 m3; exact ⟨fa, la, wa, ta, fl, fc, ll, lc, wn, wc, tn, tc, ⟨q, dr, wgs, lts⟩, rfl, hR, k2, k3, r2, r3, by omega, by omega⟩
theorem open_wagon {r : Reach} {b0 : Nat} {v : Value} {d : DataW H} {p : List MemPlace} (hv : Value.okWide Tryz.prog W r b0 65 v) (h : DataW.Trod enc Tryz.prog W base spare held 65 v d p) :
  ∃ c : IWag, v = .agg #[.int .i64 c.leaves, .int .i64 c.takes.lo, .int .i64 c.takes.hi, .int .i64 c.room] := by
 have c65 : Tryz.prog.cellsOf 65 = 4 := by kernel_rfl
 obtain ⟨cs, rfl, hsz⟩ := okWide_struct Tryz.underlying65 hv; rw [c65] at hsz; obtain ⟨l⟩ := cs
 match l, hsz with
 | [u0, u1, u2, u3], _ =>
  obtain ⟨fuel, hf⟩ := h; obtain ⟨c, hc⟩ := wg_cells (cs := [u0, u1, u2, u3]) (by simpa [Value.cells] using hf)
  simp [wgI] at hc
  obtain ⟨rfl, rfl, rfl, rfl⟩ := hc; exact ⟨c, rfl⟩
theorem open_lot {r : Reach} {b0 : Nat} {v : Value} {d : DataW H} {p : List MemPlace} (hv : Value.okWide Tryz.prog W r b0 68 v) (h : DataW.Trod enc Tryz.prog W base spare held 68 v d p) :
  ∃ c : ILot, v = .agg #[.int .i64 c.from_, .int .i64 c.bales, .int .i64 c.price, .int .i64 c.until_, .int .i64 c.less] := by
 have c68 : Tryz.prog.cellsOf 68 = 5 := by kernel_rfl
 obtain ⟨cs, rfl, hsz⟩ := okWide_struct Tryz.underlying68 hv; rw [c68] at hsz; obtain ⟨l⟩ := cs
 match l, hsz with
 | [u0, u1, u2, u3, u4], _ =>
  obtain ⟨fuel, hf⟩ := h; obtain ⟨c, hc⟩ := lt_cells (cs := [u0, u1, u2, u3, u4]) (by simpa [Value.cells] using hf)
  simp [ltI] at hc
  obtain ⟨rfl, rfl, rfl, rfl, rfl⟩ := hc; exact ⟨c, rfl⟩
theorem open_look {r : Reach} {b0 : Nat} {v : Value} {d : DataW H} {p : List MemPlace} (hv : Value.okWide Tryz.prog W r b0 61 v) (h : DataW.Trod enc Tryz.prog W base spare held 61 v d p) :
  ∃ c : ILk, v = .agg #[.int .i64 c.day, .int .i64 c.dep.lo, .int .i64 c.dep.hi] := by
 have c61 : Tryz.prog.cellsOf 61 = 3 := by kernel_rfl
 obtain ⟨cs, rfl, hsz⟩ := okWide_struct Tryz.underlying61 hv; rw [c61] at hsz; obtain ⟨l⟩ := cs
 match l, hsz with
 | [u0, u1, u2], _ =>
  obtain ⟨fuel, hf⟩ := h; obtain ⟨c, hc⟩ := lk_cells (cs := [u0, u1, u2]) (by simpa [Value.cells] using hf)
  simp [lkI] at hc
  obtain ⟨rfl, rfl, rfl⟩ := hc; exact ⟨c, rfl⟩
end
theorem u8_wf {a : Int} (h : (Lit.int .u8 a).wf = true) : 0 <= a ∧ a <= 255 := by
 simp [Lit.wf, IntKind.min, IntKind.max, IntKind.signed, IntKind.bits] at h
 omega
theorem rowOwn : ownKnob Tryz.prog.godebug = none := by kernel_rfl
theorem rowLaidOut : laidOutB Tryz.prog = true := by kernel_rfl
end
section
open Go.RowKit Go.Hav Go.Shelf Go.Sq
attribute [local go_sem] Oper.semAt_some
def sq8 : ICart := sampC [] 8
def sq12 : ICart := sampC [] 12
theorem sq_arr : Value.tuple #[spanV (arrivesV sq8 2), .int .i64 (arrivesE sq8 2)] = .tuple #[.agg #[.int .i64 3, .int .i64 4], .int .i64 0] := by kernel_rfl
theorem sq_time : Value.tuple #[.int .i64 (inTimeV sq8 2 : Nat), .int .i64 (inTimeE sq8 2 : Nat)] = .tuple #[.int .i64 1, .int .i64 0] := by kernel_rfl
theorem sq_check : Value.tuple #[.int .i64 ((checkW sq8 [0, -1, 0]).1 : Nat), .int .i64 ((checkW sq8 [0, -1, 0]).2 : Nat), .int .i64 (checkE sq8 [0, -1, 0] : Nat)] = .tuple #[.int .i64 2, .int .i64 2, .int .i64 0] := by kernel_rfl
theorem sq_worth : Value.tuple #[spanV (worthV sq8 [0, 1, -1]), .int .i64 (worthE sq8 [0, 1, -1] : Nat)] = .tuple #[.agg #[.int .i64 54, .int .i64 54], .int .i64 0] := by kernel_rfl
theorem sq_ok : stayE sq8 = 0 := by kernel_rfl
theorem sq_most : onP sq8.tm sq8.wg ofMost sq8.lt (roomP sq8.wg) = (11, 0) := by kernel_rfl
theorem sq_mplan : planL sq8.tm sq8.wg ofMost sq8.lt (roomP sq8.wg) = [0, -1, 1] := by kernel_rfl
theorem sq_best : onP sq8.tm sq8.wg ofBest sq8.lt (roomP sq8.wg) = (54, 0) := by kernel_rfl
theorem sq_bplan : planL sq8.tm sq8.wg ofBest sq8.lt (roomP sq8.wg) = [0, 1, -1] := by kernel_rfl
theorem sq_stay : Value.tuple #[.int .i64 (stayV sq12 : Nat), .int .i64 (stayE sq12 : Nat)] = .tuple #[.int .i64 7, .int .i64 0] := by kernel_rfl
theorem alive_any (w : World) : Calls Tryz.prog 13 #[] w fun e w' => e = .returned (.bool true) ∧ Below w.heap.size w w' := by
 have HB0 : Hid (Below w.heap.size w w) := Below.refl _ _
 go_enter Tryz.func13, Tryz.ntmps13
 go_wp2_with fail; refine (sample_any 8 _).mono ?_
 rintro e a1 ⟨gf1, gw1, gt1, A1, rfl, hr, hb⟩; have HR1 : Hid (CtIn a1 a1.heap.size (some ⟨gf1, 0, none⟩) 1 A1 0 (some ⟨gw1, 0, none⟩) 3 (some ⟨gt1, 0, none⟩) 3 sq8) := hr; have HBa1 : Hid (Below w.heap.size w a1) := HB0.out.trans (hb.mono HB0.out.size); clear hr hb; go_wp2_with fail; refine (PArrives_any (fa := some ⟨gf1, 0, none⟩) (fl := 1) (fc := 1) (la := A1) (ll := 0) (lc := 0) (wa := some ⟨gw1, 0, none⟩) (wn := 3) (wc := 3) (ta := some ⟨gt1, 0, none⟩) (tn := 3) (tc := 3) (c := sq8) (w := a1) 2 (by exact HR1.out)).mono ?_
 rw [sq_arr]; rintro e v1 ⟨rfl, hb⟩; have HB1 : Hid (Below w.heap.size w v1) := HBa1.out.trans (hb.mono HBa1.out.size); clear hb; obtain ⟨Vs1, hVs1⟩ : ∃ V, V = v1.alloc (.cells #[.int .i64 3, .int .i64 4] 23) := ⟨_, rfl⟩; obtain ⟨qs1, hqs1⟩ : ∃ q, q = v1.heap.size := ⟨_, rfl⟩; have hws1 : Below v1.heap.size v1 Vs1 := by rw [hVs1]; exact (Below.refl _ _).alloc (Nat.le_refl _) _
 have HBVs1 : Hid (Below w.heap.size w Vs1) := HB1.out.trans (hws1.mono HB1.out.size); have HXs1 : Hid (Blk Vs1 qs1 23 #[.int .i64 3, .int .i64 4]) := by rw [hVs1, hqs1]; exact Blk.new v1 23 _
 go_wp2_with fail; rw [<- hqs1, <- hVs1]
 clear hVs1 hqs1 hws1; refine (sample_any 8 _).mono ?_; rintro e a2 ⟨gf2, gw2, gt2, A2, rfl, hr, hb⟩; have HR2 : Hid (CtIn a2 a2.heap.size (some ⟨gf2, 0, none⟩) 1 A2 0 (some ⟨gw2, 0, none⟩) 3 (some ⟨gt2, 0, none⟩) 3 sq8) := hr; have HBa2 : Hid (Below w.heap.size w a2) := HBVs1.out.trans (hb.mono HBVs1.out.size); have HXs1a := hd9 (HXs1.out.below hb HXs1.out.lt); clear hr hb; go_wp2_with fail; refine (PInTime_any (fa := some ⟨gf2, 0, none⟩) (fl := 1) (fc := 1) (la := A2) (ll := 0) (lc := 0) (wa := some ⟨gw2, 0, none⟩) (wn := 3) (wc := 3) (ta := some ⟨gt2, 0, none⟩) (tn := 3) (tc := 3) (c := sq8) (w := a2) 2 (by exact HR2.out)).mono ?_
 rw [sq_time]; rintro e v2 ⟨rfl, hb⟩; have HB2 : Hid (Below w.heap.size w v2) := HBa2.out.trans (hb.mono HBa2.out.size); have HXs1av := hd9 (HXs1a.out.below hb HXs1a.out.lt); clear hb; go_wp2_with fail; refine (sample_any 8 _).mono ?_; rintro e a3 ⟨gf3, gw3, gt3, A3, rfl, hr, hb⟩; have HR3 : Hid (CtIn a3 a3.heap.size (some ⟨gf3, 0, none⟩) 1 A3 0 (some ⟨gw3, 0, none⟩) 3 (some ⟨gt3, 0, none⟩) 3 sq8) := hr; have HBa3 : Hid (Below w.heap.size w a3) := HB2.out.trans (hb.mono HB2.out.size); have HXs1ava := hd9 (HXs1av.out.below hb HXs1av.out.lt); clear hr hb; obtain ⟨Vr3, hVr3⟩ : ∃ V, V = a3.alloc (.cells #[.int .i64 0, .int .i64 (-1), .int .i64 0] 3) := ⟨_, rfl⟩; obtain ⟨qr3, hqr3⟩ : ∃ q, q = a3.heap.size := ⟨_, rfl⟩; have hwr3 : Below a3.heap.size a3 Vr3 := by rw [hVr3]; exact (Below.refl _ _).alloc (Nat.le_refl _) _
 have HBVr3 : Hid (Below w.heap.size w Vr3) := HBa3.out.trans (hwr3.mono HBa3.out.size); have HXs1avaV := hd9 (HXs1ava.out.below hwr3 HXs1ava.out.lt); have HXr3 : Hid (Blk Vr3 qr3 3 #[.int .i64 0, .int .i64 (-1), .int .i64 0]) := by rw [hVr3, hqr3]; exact Blk.new a3 3 _
 have HRr3 := hd9 (HR3.out.grow hwr3)
 have HPr3 : Hid (PlIn Vr3 Vr3.heap.size (some ⟨qr3, 0, none⟩) 3 [0, -1, 0]) := ⟨rfl, RdG.of_blk (f := inI) (sz := 1) (t := 3) (fun _ => rfl) HXr3.out HXr3.out.lt, by omega⟩
 go_wp2_with fail; rw [<- hqr3, <- hVr3]
 clear hVr3 hqr3 hwr3; refine (PCheck_any (fa := some ⟨gf3, 0, none⟩) (fl := 1) (fc := 1) (la := A3) (ll := 0) (lc := 0) (wa := some ⟨gw3, 0, none⟩) (wn := 3) (wc := 3) (ta := some ⟨gt3, 0, none⟩) (tn := 3) (tc := 3) (c := sq8) (w := Vr3) (pc := 3) (by exact HRr3.out) (by exact HPr3.out)).mono ?_
 rw [sq_check]; rintro e v3 ⟨rfl, hb⟩; have HB3 : Hid (Below w.heap.size w v3) := HBVr3.out.trans (hb.mono HBVr3.out.size); have HXs1avaVv := hd9 (HXs1avaV.out.below hb HXs1avaV.out.lt); clear hb; go_wp2_with fail; refine (sample_any 8 _).mono ?_; rintro e a4 ⟨gf4, gw4, gt4, A4, rfl, hr, hb⟩; have HR4 : Hid (CtIn a4 a4.heap.size (some ⟨gf4, 0, none⟩) 1 A4 0 (some ⟨gw4, 0, none⟩) 3 (some ⟨gt4, 0, none⟩) 3 sq8) := hr; have HBa4 : Hid (Below w.heap.size w a4) := HB3.out.trans (hb.mono HB3.out.size); have HXs1avaVva := hd9 (HXs1avaVv.out.below hb HXs1avaVv.out.lt); clear hr hb; obtain ⟨Vr4, hVr4⟩ : ∃ V, V = a4.alloc (.cells #[.int .i64 0, .int .i64 1, .int .i64 (-1)] 3) := ⟨_, rfl⟩; obtain ⟨qr4, hqr4⟩ : ∃ q, q = a4.heap.size := ⟨_, rfl⟩; have hwr4 : Below a4.heap.size a4 Vr4 := by rw [hVr4]; exact (Below.refl _ _).alloc (Nat.le_refl _) _
 have HBVr4 : Hid (Below w.heap.size w Vr4) := HBa4.out.trans (hwr4.mono HBa4.out.size); have HXs1avaVvaV := hd9 (HXs1avaVva.out.below hwr4 HXs1avaVva.out.lt); have HXr4 : Hid (Blk Vr4 qr4 3 #[.int .i64 0, .int .i64 1, .int .i64 (-1)]) := by rw [hVr4, hqr4]; exact Blk.new a4 3 _
 have HRr4 := hd9 (HR4.out.grow hwr4)
 have HPr4 : Hid (PlIn Vr4 Vr4.heap.size (some ⟨qr4, 0, none⟩) 3 [0, 1, -1]) := ⟨rfl, RdG.of_blk (f := inI) (sz := 1) (t := 3) (fun _ => rfl) HXr4.out HXr4.out.lt, by omega⟩
 go_wp2_with fail; rw [<- hqr4, <- hVr4]
 clear hVr4 hqr4 hwr4; refine (PWorth_any (fa := some ⟨gf4, 0, none⟩) (fl := 1) (fc := 1) (la := A4) (ll := 0) (lc := 0) (wa := some ⟨gw4, 0, none⟩) (wn := 3) (wc := 3) (ta := some ⟨gt4, 0, none⟩) (tn := 3) (tc := 3) (c := sq8) (w := Vr4) (pc := 3) (by exact HRr4.out) (by exact HPr4.out)).mono ?_
 rw [sq_worth]; rintro e v4 ⟨rfl, hb⟩; have HB4 : Hid (Below w.heap.size w v4) := HBVr4.out.trans (hb.mono HBVr4.out.size); have HXs1avaVvaVv := hd9 (HXs1avaVvaV.out.below hb HXs1avaVvaV.out.lt); clear hb; obtain ⟨Vs4, hVs4⟩ : ∃ V, V = v4.alloc (.cells #[.int .i64 54, .int .i64 54] 23) := ⟨_, rfl⟩; obtain ⟨qs4, hqs4⟩ : ∃ q, q = v4.heap.size := ⟨_, rfl⟩; have hws4 : Below v4.heap.size v4 Vs4 := by rw [hVs4]; exact (Below.refl _ _).alloc (Nat.le_refl _) _
 have HBVs4 : Hid (Below w.heap.size w Vs4) := HB4.out.trans (hws4.mono HB4.out.size); have HXs1avaVvaVvV := hd9 (HXs1avaVvaVv.out.below hws4 HXs1avaVvaVv.out.lt); have HXs4 : Hid (Blk Vs4 qs4 23 #[.int .i64 54, .int .i64 54]) := by rw [hVs4, hqs4]; exact Blk.new v4 23 _
 go_wp2_with fail; rw [<- hqs4, <- hVs4]
 clear hVs4 hqs4 hws4; refine (sample_any 8 _).mono ?_; rintro e a5 ⟨gf5, gw5, gt5, A5, rfl, hr, hb⟩; have HR5 : Hid (CtIn a5 a5.heap.size (some ⟨gf5, 0, none⟩) 1 A5 0 (some ⟨gw5, 0, none⟩) 3 (some ⟨gt5, 0, none⟩) 3 sq8) := hr; have HBa5 : Hid (Below w.heap.size w a5) := HBVs4.out.trans (hb.mono HBVs4.out.size); have HXs1avaVvaVvVa := hd9 (HXs1avaVvaVvV.out.below hb HXs1avaVvaVvV.out.lt); have HXs4a := hd9 (HXs4.out.below hb HXs4.out.lt); clear hr hb; go_wp2_with fail; refine (PMost_any (fa := some ⟨gf5, 0, none⟩) (fl := 1) (fc := 1) (la := A5) (ll := 0) (lc := 0) (wa := some ⟨gw5, 0, none⟩) (wn := 3) (wc := 3) (ta := some ⟨gt5, 0, none⟩) (tn := 3) (tc := 3) (c := sq8) (w := a5) (by exact HR5.out)).mono ?_
 rintro e v5 ⟨hb, (⟨h1, -⟩ | ⟨-, g5, rfl, -, hbp⟩)⟩
 ·exact absurd sq_ok h1
 rw [sq_most]; rw [sq_mplan] at hbp; have HB5 : Hid (Below w.heap.size w v5) := HBa5.out.trans (hb.mono HBa5.out.size); have HXs1avaVvaVvVav := hd9 (HXs1avaVvaVvVa.out.below hb HXs1avaVvaVvVa.out.lt); have HXs4av := hd9 (HXs4a.out.below hb HXs4a.out.lt); have HG5 : Hid (Blk v5 g5 3 #[.int .i64 0, .int .i64 (-1), .int .i64 1]) := hbp; clear hb hbp; go_wp2_with fail; refine (sample_any 8 _).mono ?_; rintro e a6 ⟨gf6, gw6, gt6, A6, rfl, hr, hb⟩; have HR6 : Hid (CtIn a6 a6.heap.size (some ⟨gf6, 0, none⟩) 1 A6 0 (some ⟨gw6, 0, none⟩) 3 (some ⟨gt6, 0, none⟩) 3 sq8) := hr; have HBa6 : Hid (Below w.heap.size w a6) := HB5.out.trans (hb.mono HB5.out.size); have HXs1avaVvaVvVava := hd9 (HXs1avaVvaVvVav.out.below hb HXs1avaVvaVvVav.out.lt); have HXs4ava := hd9 (HXs4av.out.below hb HXs4av.out.lt); have HG5a := hd9 (HG5.out.below hb HG5.out.lt); clear hr hb; go_wp2_with fail; refine (PBest_any (fa := some ⟨gf6, 0, none⟩) (fl := 1) (fc := 1) (la := A6) (ll := 0) (lc := 0) (wa := some ⟨gw6, 0, none⟩) (wn := 3) (wc := 3) (ta := some ⟨gt6, 0, none⟩) (tn := 3) (tc := 3) (c := sq8) (w := a6) (by exact HR6.out)).mono ?_
 rintro e v6 ⟨hb, (⟨h1, -⟩ | ⟨-, g6, rfl, -, hbp⟩)⟩
 ·exact absurd sq_ok h1
 rw [sq_best]; rw [sq_bplan] at hbp; have HB6 : Hid (Below w.heap.size w v6) := HBa6.out.trans (hb.mono HBa6.out.size); have HXs1avaVvaVvVavav := hd9 (HXs1avaVvaVvVava.out.below hb HXs1avaVvaVvVava.out.lt); have HXs4avav := hd9 (HXs4ava.out.below hb HXs4ava.out.lt); have HG5av := hd9 (HG5a.out.below hb HG5a.out.lt); have HG6 : Hid (Blk v6 g6 3 #[.int .i64 0, .int .i64 1, .int .i64 (-1)]) := hbp; clear hb hbp; go_wp2_with fail; refine (sample_any 12 _).mono ?_; rintro e a7 ⟨gf7, gw7, gt7, A7, rfl, hr, hb⟩; have HR7 : Hid (CtIn a7 a7.heap.size (some ⟨gf7, 0, none⟩) 1 A7 0 (some ⟨gw7, 0, none⟩) 3 (some ⟨gt7, 0, none⟩) 3 sq12) := hr; have HBa7 : Hid (Below w.heap.size w a7) := HB6.out.trans (hb.mono HB6.out.size); have HXs1avaVvaVvVavava := hd9 (HXs1avaVvaVvVavav.out.below hb HXs1avaVvaVvVavav.out.lt); have HXs4avava := hd9 (HXs4avav.out.below hb HXs4avav.out.lt); have HG5ava := hd9 (HG5av.out.below hb HG5av.out.lt); have HG6a := hd9 (HG6.out.below hb HG6.out.lt); clear hr hb; go_wp2_with fail; refine (PStay_any (fa := some ⟨gf7, 0, none⟩) (fl := 1) (fc := 1) (la := A7) (ll := 0) (lc := 0) (wa := some ⟨gw7, 0, none⟩) (wn := 3) (wc := 3) (ta := some ⟨gt7, 0, none⟩) (tn := 3) (tc := 3) (c := sq12) (w := a7)  (by exact HR7.out)).mono ?_
 rw [sq_stay]; rintro e v7 ⟨rfl, hb⟩; have HB7 : Hid (Below w.heap.size w v7) := HBa7.out.trans (hb.mono HBa7.out.size); have HXs1avaVvaVvVavavav := hd9 (HXs1avaVvaVvVavava.out.below hb HXs1avaVvaVvVavava.out.lt); have HXs4avavav := hd9 (HXs4avava.out.below hb HXs4avava.out.lt); have HG5avav := hd9 (HG5ava.out.below hb HG5ava.out.lt); have HG6av := hd9 (HG6a.out.below hb HG6a.out.lt); clear hb
 skip
 have x0 := HXs1avaVvaVvVavavav.out.cell 0; have x1 := HXs1avaVvaVvVavavav.out.cell 1; have xl := HXs1avaVvaVvVavavav.out.lt; simp at x0 x1; have y0 := HXs4avavav.out.cell 0; have y1 := HXs4avavav.out.cell 1; have yl := HXs4avavav.out.lt; simp at y0 y1; go_upto_region 8 with (fail)
 refine wp_region_havoc [(0,false),(1,false),(2,false),(3,false),(4,false),(5,false),(6,false),(7,false),(8,false),(9,false),(10,false),(11,false),(12,false),(13,false),(14,false),(15,false),(16,false),(17,false),(18,false),(19,false),(20,false),(21,false),(22,false),(23,false),(24,false),(25,false),(26,false),(27,false),(28,false),(29,false),(30,false),(31,false),(32,false),(33,false),(34,false),(35,false),(36,false),(37,false),(38,false),(39,false),(40,false),(41,false),(42,true),(43,false),(44,false),(45,false),(46,false),(47,false),(48,false),(49,false),(50,false),(51,false),(52,false),(53,false),(54,false),(55,true),(56,false),(57,false),(58,false),(59,false),(60,false),(61,false),(62,false),(63,false),(64,false),(65,false),(66,false),(67,false),(68,false),(69,false),(70,false)] [] (fun _ _ => False) (by kernel_rfl) (by kernel_rfl) (fun _ _ _ _ h => h.elim) ?_
 (apply hav_same (by simp only [List.getElem?_toArray]; rfl) (by kernel_rfl); (focus (intro wv hgv _; have hcv := cvB hgv; (try go_simp); try rfl; done)); simp only [Act.put, qA9, qB9, qC9])
 (apply hav_call (by simp only [List.getElem?_toArray]; rfl) (by kernel_rfl); (focus (intro wv; go_simp; try exact ⟨rfl, rfl⟩; done)); (focus (intro wv hgv _; exact lspan_any 3 4 wv; done)); simp only [Act.put, qA9, qB9, qC9])
 iterate 27 (apply hav_same (by simp only [List.getElem?_toArray]; rfl) (by kernel_rfl); (focus (intro wv hgv _; have hcv := cvB hgv; (try go_simp); try rfl; done)); simp only [Act.put, qA9, qB9, qC9])
 (apply hav_call (by simp only [List.getElem?_toArray]; rfl) (by kernel_rfl); (focus (intro wv; go_simp; try exact ⟨rfl, rfl⟩; done)); (focus (intro wv hgv _; exact lspan_any 54 54 wv; done)); simp only [Act.put, qA9, qB9, qC9])
 iterate 12 (apply hav_same (by simp only [List.getElem?_toArray]; rfl) (by kernel_rfl); (focus (intro wv hgv _; have hcv := cvB hgv; (try go_simp); try rfl; done)); simp only [Act.put, qA9, qB9, qC9])
 refine hav_new (fun g => .slice (some ⟨g, 0, none⟩) 3 3) (.cells #[.int .i64 0, .int .i64 (-1), .int .i64 1] 3) (by simp only [List.getElem?_toArray]; rfl) (by kernel_rfl) (fun wv hg hF => by (try go_simp); try rfl) ?_
 intro va; simp only [Act.put, qA9, qB9, qC9]
 (apply hav_call (by simp only [List.getElem?_toArray]; rfl) (by kernel_rfl); (focus (intro wv; go_simp; try exact ⟨rfl, rfl⟩; done)); (focus (intro wv hgv hF; obtain ⟨_, q, e, _, hq⟩ := hF; subst e; have hq' : Blk wv q 3 #[.int .i64 0, .int .i64 (-1), .int .i64 1] := hq; refine (ints_any (A1 := some ⟨g5, 0, none⟩) (n1 := 3) (c1 := 3) (l1 := [0, -1, 1]) (A2 := some ⟨q, 0, none⟩) (n2 := 3) (c2 := 3) (l2 := [0, -1, 1]) rfl rfl (by omega) wv (RdG.of_blk (f := inI) (sz := 1) (t := 3) (fun _ => rfl) (HG5avav.out.below hgv HG5avav.out.lt) (HG5avav.out.below hgv HG5avav.out.lt).lt) (RdG.of_blk (f := inI) (sz := 1) (t := 3) (fun _ => rfl) hq' hq'.lt)).mono ?_; rw [show decide (([0, -1, 1] : List Int) = [0, -1, 1]) = true from rfl]; rintro e w' ⟨rfl, hb⟩; exact ⟨rfl, hb⟩; done)); simp only [Act.put, qA9, qB9, qC9])
 iterate 11 (apply hav_same (by simp only [List.getElem?_toArray]; rfl) (by kernel_rfl); (focus (intro wv hgv _; have hcv := cvB hgv; (try go_simp); try rfl; done)); simp only [Act.put, qA9, qB9, qC9])
 refine hav_new (fun g => .slice (some ⟨g, 0, none⟩) 3 3) (.cells #[.int .i64 0, .int .i64 1, .int .i64 (-1)] 3) (by simp only [List.getElem?_toArray]; rfl) (by kernel_rfl) (fun wv hg hF => by (try go_simp); try rfl) ?_
 intro vb; simp only [Act.put, qA9, qB9, qC9]
 (apply hav_call (by simp only [List.getElem?_toArray]; rfl) (by kernel_rfl); (focus (intro wv; go_simp; try exact ⟨rfl, rfl⟩; done)); (focus (intro wv hgv hF; obtain ⟨_, q, e, _, hq⟩ := hF; subst e; have hq' : Blk wv q 3 #[.int .i64 0, .int .i64 1, .int .i64 (-1)] := hq; refine (ints_any (A1 := some ⟨g6, 0, none⟩) (n1 := 3) (c1 := 3) (l1 := [0, 1, -1]) (A2 := some ⟨q, 0, none⟩) (n2 := 3) (c2 := 3) (l2 := [0, 1, -1]) rfl rfl (by omega) wv (RdG.of_blk (f := inI) (sz := 1) (t := 3) (fun _ => rfl) (HG6av.out.below hgv HG6av.out.lt) (HG6av.out.below hgv HG6av.out.lt).lt) (RdG.of_blk (f := inI) (sz := 1) (t := 3) (fun _ => rfl) hq' hq'.lt)).mono ?_; rw [show decide (([0, 1, -1] : List Int) = [0, 1, -1]) = true from rfl]; rintro e w' ⟨rfl, hb⟩; exact ⟨rfl, hb⟩; done)); simp only [Act.put, qA9, qB9, qC9])
 iterate 14 (apply hav_same (by simp only [List.getElem?_toArray]; rfl) (by kernel_rfl); (focus (intro wv hgv _; have hcv := cvB hgv; (try go_simp); try rfl; done)); simp only [Act.put, qA9, qB9, qC9])
 refine hav_end (fun wz hgwz _ => ?_); simp only [List.filterMap]; have hcwz : ∀ b o, b < _ -> wz.cell? ⟨b, o, none⟩ = _ := fun b o hb => Below.cell hgwz (p := ⟨b, o, none⟩) hb; have hfwz : ∀ b o, b < _ -> wz.frozen? ⟨b, o, none⟩ = _ := fun b o hb => Below.frozen hgwz (p := ⟨b, o, none⟩) hb; have hzwz := Below.size hgwz; (try simp at hzwz)
 have HBz : Hid (Below w.heap.size w wz) := HB7.out.trans (hgwz.mono HB7.out.size); clear hgwz hcwz hfwz; go_wp2; go_ret
 exact ⟨rfl, HBz.out⟩
end
section
theorem bears_two (r : Riv) (n d : Nat) : (bearsP r n d == 2) = decide (n <= (depthP r d).1) := by
 unfold bearsP
 by_cases h : n <= (depthP r d).1
 ·simp [h]
 ·by_cases h2 : n <= (depthP r d).2
  ·simp [h, h2]
  ·simp [h, h2]
theorem setN_congr {f g : Nat -> Bool} : ∀ n, (∀ i, i < n -> f i = g i) -> setN f n = setN g n
 | 0, _ => rfl
 | n + 1, h => by rw [setN, setN, setN_congr n (fun i hi => h i (by omega)), h n (by omega)]
def loB (r : Riv) (m d : Nat) : Bool := decide (m <= (depthP r d).1)
theorem surely_lo (r : Riv) (m : Nat) : surelyP r m = setN (loB r m) (r.days + 1) := setN_congr _ fun d _ => bears_two r m d
theorem surely_bit {r : Riv} {n d : Nat} : (surelyP r n).testBit d = (decide (d < r.days + 1) && (bearsP r n d == 2)) := by unfold surelyP; rw [tb_setN]
theorem perhaps_bit {r : Riv} {n d : Nat} : (perhapsP r n).testBit d = (decide (d < r.days + 1) && (bearsP r n d != 0)) := by unfold perhapsP; rw [tb_setN]
def allS (S first : Nat) : Nat -> Bool
 | 0 => true
 | n + 1 => allS S first n && S.testBit (first + n)
def someS (S first : Nat) : Nat -> Bool
 | 0 => false
 | n + 1 => someS S first n || S.testBit (first + n)
theorem allS_is {days S first : Nat} (h : ∀ d, S.testBit d = true -> d <= days) : ∀ n, allT days S first n = allS S first n
 | 0 => rfl
 | n + 1 => by
  rw [allT, allS, allS_is h n]
  cases e : S.testBit (first + n)
  ·simp
  ·rw [decide_eq_true (h _ e)]; rfl
theorem someS_is {days S first : Nat} (h : ∀ d, S.testBit d = true -> d <= days) : ∀ n, someT days S first n = someS S first n
 | 0 => rfl
 | n + 1 => by
  rw [someT, someS, someS_is h n]
  cases e : S.testBit (first + n)
  ·simp
  ·rw [decide_eq_true (h _ e)]; rfl
theorem allS_mono {S Q first : Nat} (h : ∀ d, S.testBit d = true -> Q.testBit d = true) : ∀ n, allS S first n = true -> allS Q first n = true
 | 0, _ => rfl
 | n + 1, hn => by
  rw [allS, Bool.and_eq_true] at hn ⊢; exact ⟨allS_mono h n hn.1, h _ hn.2⟩
theorem all_some {S Q first : Nat} (h : ∀ d, S.testBit d = true -> Q.testBit d = true) {n : Nat} (hn : 0 < n) (ha : allS S first n = true) : someS Q first n = true := by
 obtain ⟨m, rfl⟩ : ∃ m, n = m + 1 := ⟨n - 1, by omega⟩
 rw [allS, Bool.and_eq_true] at ha; rw [someS, h _ ha.2, Bool.or_true]
theorem sure_perhaps {r : Riv} {n d : Nat} (h : (surelyP r n).testBit d = true) : (perhapsP r n).testBit d = true := by
 rw [surely_bit, Bool.and_eq_true] at h; rw [perhaps_bit, Bool.and_eq_true]; refine ⟨h.1, ?_⟩; have := h.2; simp at this ⊢
 omega
theorem timelyW_is (r : Riv) (n : Nat) (w : IWag) : timelyW r n w = if allS (surelyP r n) (w.leaves + w.takes.lo).toNat (w.takes.hi - w.takes.lo + 1).toNat = true then 2 else if someS (perhapsP r n) (w.leaves + w.takes.lo).toNat (w.takes.hi - w.takes.lo + 1).toNat = true then 1 else 0 := by
 unfold timelyW; simp only
 rw [allS_is (fun d h => by rw [surely_bit, Bool.and_eq_true] at h; have := h.1; simp at this; omega), someS_is (fun d h => by rw [perhaps_bit, Bool.and_eq_true] at h; have := h.1; simp at this; omega)]
theorem timely_bits {r : Riv} {n : Nat} {w : IWag} (hw : wagB w = true) :
  (timelyW r n w = 2 ↔ allS (surelyP r n) (w.leaves + w.takes.lo).toNat (w.takes.hi - w.takes.lo + 1).toNat = true) ∧
  (timelyW r n w = 0 ↔ someS (perhapsP r n) (w.leaves + w.takes.lo).toNat (w.takes.hi - w.takes.lo + 1).toNat = false) ∧ timelyW r n w <= 2 := by
 have hb := wagB_iff.1 hw; rw [timelyW_is]
 cases ha : allS (surelyP r n) (w.leaves + w.takes.lo).toNat (w.takes.hi - w.takes.lo + 1).toNat
 ·cases hs : someS (perhapsP r n) (w.leaves + w.takes.lo).toNat (w.takes.hi - w.takes.lo + 1).toNat <;> simp
 ·have := all_some (Q := perhapsP r n) (fun d h => sure_perhaps h) (by omega) ha
  rw [this]
  simp
end
section
open Go.RowKit Go.Hav Go.Shelf Go.Sq
attribute [local go_sem] Oper.semAt_some
theorem ints_rd {w : World} {q : Nat} {l : List Int} (h : Blk w q 3 (intsA l)) : RdG inI 1 w w.heap.size (some ⟨q, 0, none⟩) l := by
 refine RdG.of_blk (f := inI) (sz := 1) (t := 3) (fun _ => rfl) ?_ h.lt
 have e : (l.flatMap inI).toArray = intsA l := by
  unfold intsA
  congr 1
  exact flat_one (fun x => Value.int .i64 x) l
 rw [e]; exact h
end
section
theorem okR_mk {r : IRiv} (h1 : spB r.depth 0 60 4 = true) (h2 : spB r.fall 0 5 2 = true) (h3 : inB r.days 1 10 = true) (h4 : r.fr.length <= 3) (h5 : r.lk.length <= 5) (h6 : ∀ f ∈ r.fr, frB r.days f = true) (h7 : ∀ l ∈ r.lk, lkB r.days l = true) : okR r = true := by
 unfold okR headB; simp only [Bool.and_eq_true, decide_eq_true_eq, List.all_eq_true]; exact ⟨⟨⟨⟨⟨⟨h1, h2⟩, h3⟩, h4⟩, h5⟩, h6⟩, h7⟩
theorem okR_pts {r : IRiv} (h : okR r = true) : (spB r.depth 0 60 4 = true ∧ spB r.fall 0 5 2 = true ∧ inB r.days 1 10 = true ∧ r.fr.length <= 3 ∧ r.lk.length <= 5) ∧ r.fr.all (frB r.days) = true ∧ r.lk.all (lkB r.days) = true := by
 unfold okR headB at h; simp only [Bool.and_eq_true, decide_eq_true_eq] at h; exact ⟨⟨h.1.1.1.1.1.1, h.1.1.1.1.1.2, h.1.1.1.1.2, h.1.1.1.2, h.1.1.2⟩, h.1.2, h.2⟩
end
end Go.Proofs.YtgmfhngcehkibaaGreat
