/- Rows of one's own, and rows of numbers. Carts that come in; what valid and open leave: an error as a panic, or whether the river has a truth, or the yard. A cart that comes in: what its value is, and that it reads as a cart. Rows that a block of their own keeps. CartNames: the document's values and examples. CartNames: the step from the walk to the row, the row. Condition: what the statements say. -/
import Derived.Test.YtgmfhngcehkibaaGreatPkB22
import Derived.Orders
import Derived.Below
import Derived.Test.YtgmfhngcehkibaaGreatProg
import Derived.WalkKit
import Derived.WalkSpells
import Derived.WalkLawsBesides
import Derived.Lib.Hide
import Derived.OneCell
import Derived.Laws.AppendOwn
import Derived.Laws.OwnMore
import Derived.Laws.Bits64b
import Derived.Deep.LoopGhost
import Derived.Deep.QuietTactic
import Derived.BigQuiet
import Derived.RegionTactic
import Derived.BigRegion
import Derived.Deep.DeepCutAuto
import Derived.RangeFuncNested
import Derived.RangeFuncBound
import Derived.RangeFuncCalls
import Derived.RangeFuncLeaves
import Derived.RangeFuncWrites
import Derived.Shelf.Abstract
import Derived.OwnWalkIn
import Derived.TacticsInMore
import Derived.LoopNIn
import Derived.LoopIn
import Derived.OrdersIn
import Derived.TacticsIn
import Derived.ControlIn
import Derived.Scope
import Derived.Laws.BitsAllLaws
import Derived.WalkSmall
import Derived.Laws.EntriesVeiled
import Derived.Maps.Own
import Derived.Maps.OwnSet
import Derived.Maps.Range
import Derived.Maps.AppendAt
import Derived.OwnWalk
import Derived.DeepKeys4
import Derived.Outline
import Derived.Deep.CutBlock
import Derived.BigGuard
import Derived.Tactics
import Derived.Tactics2
import Derived.Defers
import Derived.Recover
import Derived.Laws.Pointers
import Derived.Laws.MakeOwn
import Derived.Laws.CopyOwn
import Derived.Deep.AppendLies
import Derived.Laws.CopyRow
import Derived.ProofKit
import Derived.LaidMore
import Derived.OpenShut
import Derived.Stop.Joined
import Derived.Deep.Slices
import Derived.Carry
import Derived.Test.YtgmfhngcehkibaaGreatRows
import Derived.ChangeOld
set_option maxRecDepth 100000
set_option maxHeartbeats 6400000
namespace Go.Proofs.YtgmfhngcehkibaaGreat
open Go.RowKit Go.Hav
def Rows {α : Type} (e : α → Value) (t : TypeId) (w : World) (xs : List Value) (Ls : List (List α)) : Prop :=
 xs.length = Ls.length ∧ ∀ (j : Nat) (L : List α), Ls[j]? = some L → ∃ A c, L.length ≤ c ∧ xs[j]? = some (Value.slice A L.length c) ∧ RowN e t w A L
end Go.Proofs.YtgmfhngcehkibaaGreat
namespace Go.Proofs.YtgmfhngcehkibaaGreat
open Go.RowKit Go.Hav Go.Shelf Go.Sq
attribute [local go_sem] Oper.semAt_some
theorem RvIn.below {w w' : World} {B : Nat} {fa la : Option Addr} {fl ll : Nat} {r : IRiv} (h : RvIn w B fa fl la ll r) (hb : Below B w w') : RvIn w' B fa fl la ll r :=
 { h with hfr := h.hfr.below hb, hlk := h.hlk.below hb }
section
variable {fa la wa ta : Option Addr} {fl fc ll lc wn wc tn tc : Nat} {c : ICart}
variable {w w' : World} {B : Nat}
theorem CtIn.below (h : CtIn w B fa fl la ll wa wn ta tn c) (hb : Below B w w') : CtIn w' B fa fl la ll wa wn ta tn c := { h with riv := h.riv.below hb, hwg := h.hwg.below hb, hlt := h.hlt.below hb }
end
end Go.Proofs.YtgmfhngcehkibaaGreat
namespace Go.Proofs.YtgmfhngcehkibaaGreat
open Go.RowKit Go.Hav Go.ChangeShapes Go.WideShapes Go.Deep
theorem rowOwn : ownKnob Tryz.prog.godebug = none := by kernel_rfl
end Go.Proofs.YtgmfhngcehkibaaGreat
namespace Go.Proofs.YtgmfhngcehkibaaGreat
open Go.RowKit Go.Hav Go.Shelf Go.Sq
theorem RdG.keep {α : Type} {f : α → List Value} {sz : Nat} {w w' : World} {B : Nat} {A : Option Addr} {l : List α} (h : RdG f sz w B A l) (hk : ∀ b, b < B → (∃ off, A = some ⟨b, off, none⟩) → w'.heap[b]? = w.heap[b]?) : RdG f sz w' B A l := fun k x hx => by
 obtain ⟨b, off, e, hb, hc⟩ := h k x hx
 exact ⟨b, off, e, hb, fun i u hu => (World.cell?_of_block (a := ⟨b, _, none⟩) (hk b hb ⟨off, e⟩)).trans (hc i u hu)⟩
end Go.Proofs.YtgmfhngcehkibaaGreat
namespace Go.Proofs.YtgmfhngcehkibaaGreat
open Go.RowKit Go.Hav Go.Shelf Go.Sq
attribute [local go_sem] Oper.semAt_some
def lk3 : List ILk := [⟨2, ⟨6, 9⟩⟩, ⟨3, ⟨8, 8⟩⟩, ⟨4, ⟨7, 9⟩⟩]
def sqC : ICart := sampC lk3 8
theorem clash_any (w : World) : Calls Tryz.prog 30 #[] w (SampC lk3 8 w) := by
 obtain ⟨W, hW⟩ : ∃ W, W = w.alloc (.cells #[.int .i64 0, .int .i64 0, .int .i64 0, .int .i64 0, .int .i64 0, .slice none 0 0, .slice none 0 0, .int .i64 0, .slice none 0 0, .slice none 0 0] 31) := ⟨_, rfl⟩; obtain ⟨b2, hb2⟩ : ∃ b, b = w.heap.size := ⟨_, rfl⟩; have HB0 : Hid (Below w.heap.size w W) := by rw [hW]; exact (Below.refl _ _).alloc (Nat.le_refl _) _
 have HX : Hid (Blk W b2 31 #[.int .i64 0, .int .i64 0, .int .i64 0, .int .i64 0, .int .i64 0, .slice none 0 0, .slice none 0 0, .int .i64 0, .slice none 0 0, .slice none 0 0]) := by rw [hW, hb2]; exact Blk.new w 31 _
 have HN : Hid (w.heap.size ≤ b2) := by show _ ≤ _; omega
 go_enter Tryz.func30, Tryz.ntmps30
 go_upto_region 1 with (fail); rw [← hW, ← hb2]; clear hW hb2; go_wp2_with fail; refine (sampleD_any 8 W).mono ?_; rintro e w1 ⟨gf, gw, gt, rfl, hr, hb, hgf, hgw, hgt⟩; have HB1 : Hid (Below w.heap.size w w1) := HB0.out.trans (hb.mono HB0.out.size); have HX1 := Lib.hid (HX.out.below hb HX.out.lt); have HR := Lib.hid hr; clear hb hr; obtain ⟨W2, hW2⟩ : ∃ W2, W2 = w1.alloc (.cells #[.int .i64 10, .int .i64 11, .int .i64 1, .int .i64 2, .int .i64 5, .slice (some ⟨gf, 0, none⟩) 1 1, .slice none 0 0, .int .i64 8, .slice (some ⟨gw, 0, none⟩) 3 3, .slice (some ⟨gt, 0, none⟩) 3 3] 31) := ⟨_, rfl⟩; obtain ⟨b1, hb1⟩ : ∃ b, b = w1.heap.size := ⟨_, rfl⟩; go_upto_region 2 with (fail); rw [← hb1, ← hW2]; have HB2 : Hid (Below w.heap.size w W2) := by rw [hW2]; exact HB1.out.alloc HB1.out.size _
 have HX2 : Hid (Blk W2 b2 31 #[.int .i64 0, .int .i64 0, .int .i64 0, .int .i64 0, .int .i64 0, .slice none 0 0, .slice none 0 0, .int .i64 0, .slice none 0 0, .slice none 0 0]) := by rw [hW2]; exact HX1.out.alloc _
 have HC2 : Hid (Blk W2 b1 31 #[.int .i64 10, .int .i64 11, .int .i64 1, .int .i64 2, .int .i64 5, .slice (some ⟨gf, 0, none⟩) 1 1, .slice none 0 0, .int .i64 8, .slice (some ⟨gw, 0, none⟩) 3 3, .slice (some ⟨gt, 0, none⟩) 3 3]) := by rw [hW2, hb1]; exact Blk.new w1 31 _
 have HR2 : Hid (CtIn W2 W2.heap.size (some ⟨gf, 0, none⟩) 1 none 0 (some ⟨gw, 0, none⟩) 3 (some ⟨gt, 0, none⟩) 3 (sampC [] 8)) := by rw [hW2]; exact HR.out.grow ((Below.refl _ _).alloc (Nat.le_refl _) _)
 have HNE : Hid (b2 ≠ b1 ∧ w.heap.size ≤ b1) := by have := HX1.out.lt; have := HB1.out.size; exact ⟨by omega, by omega⟩
 have HGE : Hid (gf ≠ b1 ∧ gw ≠ b1 ∧ gt ≠ b1 ∧ gf ≠ b2 ∧ gw ≠ b2 ∧ gt ≠ b2) := by
  have h1 := HX.out.lt; obtain ⟨x1, o1, e1, l1, -⟩ := HR.out.riv.hfr 0 _ rfl; obtain ⟨x2, o2, e2, l2, -⟩ := HR.out.hwg 0 _ rfl; obtain ⟨x3, o3, e3, l3, -⟩ := HR.out.hlt 0 _ rfl; cases e1
  cases e2
  cases e3
  exact ⟨by omega, by omega, by omega, by omega, by omega, by omega⟩
 clear hW2 hb1 hgf hgw hgt; go_wp2_with fail; refine (lspan_any _ _ _).mono ?_; rintro e w3 ⟨rfl, hb3⟩; go_wp2_with fail; refine (lspan_any _ _ _).mono ?_; rintro e w4 ⟨rfl, hb4⟩; go_wp2_with fail; refine (lspan_any _ _ _).mono ?_; rintro e w5 ⟨rfl, hb5⟩; have hb : Below W2.heap.size W2 w5 := (hb3.trans (hb4.mono hb3.size)).trans (hb5.mono (Nat.le_trans hb3.size hb4.size)); obtain ⟨W6, hW6⟩ : ∃ W6, W6 = w5.alloc (.cells #[.int .i64 2, .int .i64 6, .int .i64 9, .int .i64 3, .int .i64 8, .int .i64 8, .int .i64 4, .int .i64 7, .int .i64 9] 61) := ⟨_, rfl⟩; obtain ⟨gl, hgl⟩ : ∃ g, g = w5.heap.size := ⟨_, rfl⟩; have hB6 : Below W2.heap.size W2 W6 := by rw [hW6]; exact hb.alloc hb.size _
 have HB6 : Hid (Below w.heap.size w W6) := HB2.out.trans (hB6.mono HB2.out.size); have HX6 := Lib.hid (HX2.out.below hB6 HX2.out.lt); have HC6 := Lib.hid (HC2.out.below hB6 HC2.out.lt); have HR6 : Hid (CtIn W6 W2.heap.size (some ⟨gf, 0, none⟩) 1 none 0 (some ⟨gw, 0, none⟩) 3 (some ⟨gt, 0, none⟩) 3 (sampC [] 8)) := HR2.out.below hB6; have HL6 : Hid (Blk W6 gl 61 #[.int .i64 2, .int .i64 6, .int .i64 9, .int .i64 3, .int .i64 8, .int .i64 8, .int .i64 4, .int .i64 7, .int .i64 9]) := by rw [hW6, hgl]; exact Blk.new w5 61 _
 have HGL : Hid (W2.heap.size ≤ gl ∧ gl ≠ b1 ∧ gl ≠ b2) := by have h1 := HX2.out.lt; have h2 := HC2.out.lt; have h3 := hb.size; rw [hgl]; exact ⟨by omega, by omega, by omega⟩
 clear hb3 hb4 hb5 hb hB6; have z6 := HC6.out.cell 6; have f6 := HC6.out.frozen 6; have zl := HC6.out.lt; simp at z6; have z6' : (w5.alloc (.cells #[.int .i64 2, .int .i64 6, .int .i64 9, .int .i64 3, .int .i64 8, .int .i64 8, .int .i64 4, .int .i64 7, .int .i64 9] 61)).cell? ⟨b1, 6, none⟩ = some (.slice none 0 0) := by rw [← hW6]; exact z6
 have f6' : (w5.alloc (.cells #[.int .i64 2, .int .i64 6, .int .i64 9, .int .i64 3, .int .i64 8, .int .i64 8, .int .i64 4, .int .i64 7, .int .i64 9] 61)).frozen? ⟨b1, 6, none⟩ = false := by rw [← hW6]; exact f6
 go_upto_region 3 with (fail); rw [← hgl, ← hW6]; clear hW6 hgl z6 z6' f6' f6 zl; obtain ⟨W7, hW7⟩ : ∃ W7, W7 = W6.setCell ⟨b1, 6, none⟩ (.slice (some ⟨gl, 0, none⟩) 3 3) := ⟨_, rfl⟩; rw [← hW7]; have HC7 : Hid (Blk W7 b1 31 #[.int .i64 10, .int .i64 11, .int .i64 1, .int .i64 2, .int .i64 5, .slice (some ⟨gf, 0, none⟩) 1 1, .slice (some ⟨gl, 0, none⟩) 3 3, .int .i64 8, .slice (some ⟨gw, 0, none⟩) 3 3, .slice (some ⟨gt, 0, none⟩) 3 3]) := by rw [hW7]; exact HC6.out.set_ 6 _
 have ht7 : Turn (fun x => x = b1) W6 W7 := by rw [hW7]; exact Turn.set _ _ (fun _ => rfl)
 have HB7 : Hid (Below w.heap.size w W7) := HB6.out.trans (ht7.below HB6.out.size (fun x e => by have e' : x = b1 := e; have := HNE.out; omega))
 have HX7 := Lib.hid (HX6.out.turn ht7 HNE.out.1); have HL7 := Lib.hid (HL6.out.turn ht7 HGL.out.2.1)
 have HT7 : Hid (Turn (fun x => x = b1) W6 W7) := ht7
 clear hW7 ht7; obtain ⟨z0, z1, z2, z3, z4, z5, z6, z7, z8, z9, zl⟩ := cx31 HC7.out; obtain ⟨x0, x1, x2, x3, x4, x5, x6, x7, x8, x9, xl⟩ := cx31 HX7.out; have f0 := HX7.out.frozen 0; have f1 := HX7.out.frozen 1; have f2 := HX7.out.frozen 2; have f3 := HX7.out.frozen 3; have f4 := HX7.out.frozen 4; have f5 := HX7.out.frozen 5; have f6 := HX7.out.frozen 6; have f7 := HX7.out.frozen 7; have f8 := HX7.out.frozen 8; have f9 := HX7.out.frozen 9
 have hne1 : b1 ≠ b2 := fun e => HNE.out.1 e.symm
 go_wp2; obtain ⟨W9, hW9⟩ : ∃ W9, W9 = set10 W7 b2 (.int .i64 10) (.int .i64 11) (.int .i64 1) (.int .i64 2) (.int .i64 5) (.slice (some ⟨gf, 0, none⟩) 1 1) (.slice (some ⟨gl, 0, none⟩) 3 3) (.int .i64 8) (.slice (some ⟨gw, 0, none⟩) 3 3) (.slice (some ⟨gt, 0, none⟩) 3 3) := ⟨_, rfl⟩
 have HK9 := Lib.hid (set10_blk (a := .int .i64 10) (b := .int .i64 11) (c := .int .i64 1) (d := .int .i64 2) (e := .int .i64 5) (f := .slice (some ⟨gf, 0, none⟩) 1 1) (h := .slice (some ⟨gl, 0, none⟩) 3 3) (i := .int .i64 8) (j := .slice (some ⟨gw, 0, none⟩) 3 3) (k := .slice (some ⟨gt, 0, none⟩) 3 3) HX7.out); have hb9 : Below w.heap.size w W9 := by rw [hW9]; exact set10_below HB7.out HN.out _ _ _ _ _ _ _ _ _ _
 have ht9 : Turn (fun x => x = b2) W7 W9 := by rw [hW9]; exact set10_turn _ _ _ _ _ _ _ _ _ _ _ _
 rw [← hW9] at HK9; unfold set10 at hW9; rw [← hW9]; obtain ⟨k0, k1, k2, k3, k4, k5, k6, k7, k8, k9, -⟩ := cx31 HK9.out; have HL9 := HL7.out.turn ht9 HGL.out.2.2
 have ht : Turn (fun x => x = b1 ∨ x = b2) W6 W9 := (HT7.out.mono (fun _ h => .inl h)).trans (ht9.mono (fun _ h => .inr h))
 refine bodyPost_ret (v := .agg #[.int .i64 10, .int .i64 11, .int .i64 1, .int .i64 2, .int .i64 5, .slice (some ⟨gf, 0, none⟩) 1 1, .slice (some ⟨gl, 0, none⟩) 3 3, .int .i64 8, .slice (some ⟨gw, 0, none⟩) 3 3, .slice (some ⟨gt, 0, none⟩) 3 3]) (by simp [results, Tryz.results30, go_sem, k0, k1, k2, k3, k4, k5, k6, k7, k8, k9]) rfl ⟨gf, gw, gt, some ⟨gl, 0, none⟩, rfl, ?_, hb9⟩
 obtain ⟨g1, g2, g3, g4, g5, g6⟩ := HGE.out; have hs : W2.heap.size ≤ W6.heap.size := by have h1 := HL6.out.lt; have := HGL.out; omega
 exact ⟨⟨rfl, rfl, (RdG.keep HR6.out.riv.hfr (fun b hb ⟨off, he⟩ => ht.block b (by omega) (by cases he; omega))).more (Nat.le_trans hs ht.size), RdG.of_blk (f := lkI) (sz := 3) (t := 61) (fun _ => rfl) HL9 HL9.lt, by omega, by simp [lk3]⟩, rfl, rfl,
  (RdG.keep HR6.out.hwg (fun b hb ⟨off, he⟩ => ht.block b (by omega) (by cases he; omega))).more (Nat.le_trans hs ht.size), (RdG.keep HR6.out.hlt (fun b hb ⟨off, he⟩ => ht.block b (by omega) (by cases he; omega))).more (Nat.le_trans hs ht.size), by omega, by omega⟩
theorem nm1 : Value.tuple #[spanV (arrivesV sq8 0), .int .i64 (arrivesE sq8 0)] = .tuple #[.agg #[.int .i64 1, .int .i64 1], .int .i64 0] := by kernel_rfl
theorem nm2 : Value.tuple #[spanV (arrivesV sqC 1), .int .i64 (arrivesE sqC 1)] = .tuple #[.agg #[.int .i64 3, .int .i64 3], .int .i64 0] := by kernel_rfl
theorem nm3 : Value.tuple #[.int .i64 (inTimeV sq8 0 : Nat), .int .i64 (inTimeE sq8 0 : Nat)] = .tuple #[.int .i64 2, .int .i64 0] := by kernel_rfl
theorem nm4 : Value.tuple #[.int .i64 (inTimeV sq8 1 : Nat), .int .i64 (inTimeE sq8 1 : Nat)] = .tuple #[.int .i64 2, .int .i64 0] := by kernel_rfl
theorem nm5 : Value.tuple #[.int .i64 (inTimeV sq12 0 : Nat), .int .i64 (inTimeE sq12 0 : Nat)] = .tuple #[.int .i64 0, .int .i64 0] := by kernel_rfl
theorem nm6 : Value.tuple #[.int .i64 ((checkW sq8 [0, -1, 1]).1 : Nat), .int .i64 ((checkW sq8 [0, -1, 1]).2 : Nat), .int .i64 (checkE sq8 [0, -1, 1] : Nat)] = .tuple #[.int .i64 0, .int .i64 0, .int .i64 4] := by kernel_rfl
theorem nm7 : Value.tuple #[.int .i64 ((checkW sq8 [0, 0, 1]).1 : Nat), .int .i64 ((checkW sq8 [0, 0, 1]).2 : Nat), .int .i64 (checkE sq8 [0, 0, 1] : Nat)] = .tuple #[.int .i64 1, .int .i64 1, .int .i64 0] := by kernel_rfl
theorem nm8 : Value.tuple #[.int .i64 ((checkW sq8 [2, -1, -1]).1 : Nat), .int .i64 ((checkW sq8 [2, -1, -1]).2 : Nat), .int .i64 (checkE sq8 [2, -1, -1] : Nat)] = .tuple #[.int .i64 0, .int .i64 3, .int .i64 0] := by kernel_rfl
theorem nm9 : Value.tuple #[spanV (worthV sq8 [0, -1, 1]), .int .i64 (worthE sq8 [0, -1, 1] : Nat)] = .tuple #[.agg #[.int .i64 45, .int .i64 45], .int .i64 0] := by kernel_rfl
theorem nm10 : Value.tuple #[spanV (worthV sq8 [2, -1, -1]), .int .i64 (worthE sq8 [2, -1, -1] : Nat)] = .tuple #[.agg #[.int .i64 0, .int .i64 0], .int .i64 11] := by kernel_rfl
theorem nm12 : Value.tuple #[.int .i64 (stayV sq8 : Nat), .int .i64 (stayE sq8 : Nat)] = .tuple #[.int .i64 0, .int .i64 0] := by kernel_rfl
theorem nm13 : Value.tuple #[.int .i64 (stayV sqC : Nat), .int .i64 (stayE sqC : Nat)] = .tuple #[.int .i64 0, .int .i64 10] := by kernel_rfl
theorem nm_ok12 : stayE sq12 = 0 := by kernel_rfl
theorem nm11 : onP sq12.tm sq12.wg ofMost sq12.lt (roomP sq12.wg) = (0, -1) := by kernel_rfl
theorem nm11p : planL sq12.tm sq12.wg ofMost sq12.lt (roomP sq12.wg) = [-1, -1, -1] := by kernel_rfl
theorem cartNames_any (w : World) : Calls Tryz.prog 5 #[] w fun e w' => e = .returned (.bool true) ∧ Below w.heap.size w w' := by
 have HB0 : Hid (Below w.heap.size w w) := Below.refl _ _
 go_enter Tryz.func5, Tryz.ntmps5
 go_wp2_with fail; refine (sample_any 8 _).mono ?_
 rintro e a1 ⟨gf1, gw1, gt1, A1, rfl, hr, hb⟩; have HR1 : Hid (CtIn a1 a1.heap.size (some ⟨gf1, 0, none⟩) 1 A1 0 (some ⟨gw1, 0, none⟩) 3 (some ⟨gt1, 0, none⟩) 3 sq8) := hr; have HBa1 : Hid (Below w.heap.size w a1) := HB0.out.trans (hb.mono HB0.out.size); clear hr hb; go_wp2_with fail; refine (PArrives_any (fa := some ⟨gf1, 0, none⟩) (fl := 1) (fc := 1) (la := A1) (ll := 0) (lc := 0) (wa := some ⟨gw1, 0, none⟩) (wn := 3) (wc := 3) (ta := some ⟨gt1, 0, none⟩) (tn := 3) (tc := 3) (c := sq8) (w := a1) 0 (by exact HR1.out)).mono ?_
 rw [nm1]; rintro e v1 ⟨rfl, hb⟩; have HB1 : Hid (Below w.heap.size w v1) := HBa1.out.trans (hb.mono HBa1.out.size); clear hb; obtain ⟨Vs1, hVs1⟩ : ∃ V, V = v1.alloc (.cells #[.int .i64 1, .int .i64 1] 23) := ⟨_, rfl⟩; obtain ⟨qs1, hqs1⟩ : ∃ q, q = v1.heap.size := ⟨_, rfl⟩; have hws1 : Below v1.heap.size v1 Vs1 := by rw [hVs1]; exact (Below.refl _ _).alloc (Nat.le_refl _) _
 have HBVs1 : Hid (Below w.heap.size w Vs1) := HB1.out.trans (hws1.mono HB1.out.size); have HXs1 : Hid (Blk Vs1 qs1 23 #[.int .i64 1, .int .i64 1]) := by rw [hVs1, hqs1]; exact Blk.new v1 23 _
 go_wp2_with fail; rw [← hqs1, ← hVs1]
 clear hVs1 hqs1 hws1; refine (clash_any _).mono ?_; rintro e a2 ⟨gf2, gw2, gt2, A2, rfl, hr, hb⟩; have HR2 : Hid (CtIn a2 a2.heap.size (some ⟨gf2, 0, none⟩) 1 A2 3 (some ⟨gw2, 0, none⟩) 3 (some ⟨gt2, 0, none⟩) 3 sqC) := hr; have HBa2 : Hid (Below w.heap.size w a2) := HBVs1.out.trans (hb.mono HBVs1.out.size); have HXs1a := Lib.hid (HXs1.out.below hb HXs1.out.lt); clear hr hb; go_wp2_with fail; refine (PArrives_any (fa := some ⟨gf2, 0, none⟩) (fl := 1) (fc := 1) (la := A2) (ll := 3) (lc := 3) (wa := some ⟨gw2, 0, none⟩) (wn := 3) (wc := 3) (ta := some ⟨gt2, 0, none⟩) (tn := 3) (tc := 3) (c := sqC) (w := a2) 1 (by exact HR2.out)).mono ?_
 rw [nm2]; rintro e v2 ⟨rfl, hb⟩; have HB2 : Hid (Below w.heap.size w v2) := HBa2.out.trans (hb.mono HBa2.out.size); have HXs1av := Lib.hid (HXs1a.out.below hb HXs1a.out.lt); clear hb; obtain ⟨Vs2, hVs2⟩ : ∃ V, V = v2.alloc (.cells #[.int .i64 3, .int .i64 3] 23) := ⟨_, rfl⟩; obtain ⟨qs2, hqs2⟩ : ∃ q, q = v2.heap.size := ⟨_, rfl⟩; have hws2 : Below v2.heap.size v2 Vs2 := by rw [hVs2]; exact (Below.refl _ _).alloc (Nat.le_refl _) _
 have HBVs2 : Hid (Below w.heap.size w Vs2) := HB2.out.trans (hws2.mono HB2.out.size); have HXs1avV := Lib.hid (HXs1av.out.below hws2 HXs1av.out.lt); have HXs2 : Hid (Blk Vs2 qs2 23 #[.int .i64 3, .int .i64 3]) := by rw [hVs2, hqs2]; exact Blk.new v2 23 _
 go_wp2_with fail; rw [← hqs2, ← hVs2]
 clear hVs2 hqs2 hws2; refine (sample_any 8 _).mono ?_; rintro e a3 ⟨gf3, gw3, gt3, A3, rfl, hr, hb⟩; have HR3 : Hid (CtIn a3 a3.heap.size (some ⟨gf3, 0, none⟩) 1 A3 0 (some ⟨gw3, 0, none⟩) 3 (some ⟨gt3, 0, none⟩) 3 sq8) := hr; have HBa3 : Hid (Below w.heap.size w a3) := HBVs2.out.trans (hb.mono HBVs2.out.size); have HXs1avVa := Lib.hid (HXs1avV.out.below hb HXs1avV.out.lt); have HXs2a := Lib.hid (HXs2.out.below hb HXs2.out.lt); clear hr hb; go_wp2_with fail; refine (PInTime_any (fa := some ⟨gf3, 0, none⟩) (fl := 1) (fc := 1) (la := A3) (ll := 0) (lc := 0) (wa := some ⟨gw3, 0, none⟩) (wn := 3) (wc := 3) (ta := some ⟨gt3, 0, none⟩) (tn := 3) (tc := 3) (c := sq8) (w := a3) 0 (by exact HR3.out)).mono ?_
 rw [nm3]; rintro e v3 ⟨rfl, hb⟩; have HB3 : Hid (Below w.heap.size w v3) := HBa3.out.trans (hb.mono HBa3.out.size); have HXs1avVav := Lib.hid (HXs1avVa.out.below hb HXs1avVa.out.lt); have HXs2av := Lib.hid (HXs2a.out.below hb HXs2a.out.lt); clear hb; go_wp2_with fail; refine (sample_any 8 _).mono ?_; rintro e a4 ⟨gf4, gw4, gt4, A4, rfl, hr, hb⟩; have HR4 : Hid (CtIn a4 a4.heap.size (some ⟨gf4, 0, none⟩) 1 A4 0 (some ⟨gw4, 0, none⟩) 3 (some ⟨gt4, 0, none⟩) 3 sq8) := hr; have HBa4 : Hid (Below w.heap.size w a4) := HB3.out.trans (hb.mono HB3.out.size); have HXs1avVava := Lib.hid (HXs1avVav.out.below hb HXs1avVav.out.lt); have HXs2ava := Lib.hid (HXs2av.out.below hb HXs2av.out.lt); clear hr hb; go_wp2_with fail; refine (PInTime_any (fa := some ⟨gf4, 0, none⟩) (fl := 1) (fc := 1) (la := A4) (ll := 0) (lc := 0) (wa := some ⟨gw4, 0, none⟩) (wn := 3) (wc := 3) (ta := some ⟨gt4, 0, none⟩) (tn := 3) (tc := 3) (c := sq8) (w := a4) 1 (by exact HR4.out)).mono ?_
 rw [nm4]; rintro e v4 ⟨rfl, hb⟩; have HB4 : Hid (Below w.heap.size w v4) := HBa4.out.trans (hb.mono HBa4.out.size); have HXs1avVavav := Lib.hid (HXs1avVava.out.below hb HXs1avVava.out.lt); have HXs2avav := Lib.hid (HXs2ava.out.below hb HXs2ava.out.lt); clear hb; go_wp2_with fail; refine (sample_any 12 _).mono ?_; rintro e a5 ⟨gf5, gw5, gt5, A5, rfl, hr, hb⟩; have HR5 : Hid (CtIn a5 a5.heap.size (some ⟨gf5, 0, none⟩) 1 A5 0 (some ⟨gw5, 0, none⟩) 3 (some ⟨gt5, 0, none⟩) 3 sq12) := hr; have HBa5 : Hid (Below w.heap.size w a5) := HB4.out.trans (hb.mono HB4.out.size); have HXs1avVavava := Lib.hid (HXs1avVavav.out.below hb HXs1avVavav.out.lt); have HXs2avava := Lib.hid (HXs2avav.out.below hb HXs2avav.out.lt); clear hr hb; go_wp2_with fail; refine (PInTime_any (fa := some ⟨gf5, 0, none⟩) (fl := 1) (fc := 1) (la := A5) (ll := 0) (lc := 0) (wa := some ⟨gw5, 0, none⟩) (wn := 3) (wc := 3) (ta := some ⟨gt5, 0, none⟩) (tn := 3) (tc := 3) (c := sq12) (w := a5) 0 (by exact HR5.out)).mono ?_
 rw [nm5]; rintro e v5 ⟨rfl, hb⟩; have HB5 : Hid (Below w.heap.size w v5) := HBa5.out.trans (hb.mono HBa5.out.size); have HXs1avVavavav := Lib.hid (HXs1avVavava.out.below hb HXs1avVavava.out.lt); have HXs2avavav := Lib.hid (HXs2avava.out.below hb HXs2avava.out.lt); clear hb; go_wp2_with fail; refine (sample_any 8 _).mono ?_; rintro e a6 ⟨gf6, gw6, gt6, A6, rfl, hr, hb⟩; have HR6 : Hid (CtIn a6 a6.heap.size (some ⟨gf6, 0, none⟩) 1 A6 0 (some ⟨gw6, 0, none⟩) 3 (some ⟨gt6, 0, none⟩) 3 sq8) := hr; have HBa6 : Hid (Below w.heap.size w a6) := HB5.out.trans (hb.mono HB5.out.size); have HXs1avVavavava := Lib.hid (HXs1avVavavav.out.below hb HXs1avVavavav.out.lt); have HXs2avavava := Lib.hid (HXs2avavav.out.below hb HXs2avavav.out.lt); clear hr hb; obtain ⟨Vr6, hVr6⟩ : ∃ V, V = a6.alloc (.cells #[.int .i64 0, .int .i64 (-1), .int .i64 1] 3) := ⟨_, rfl⟩; obtain ⟨qr6, hqr6⟩ : ∃ q, q = a6.heap.size := ⟨_, rfl⟩; have hwr6 : Below a6.heap.size a6 Vr6 := by rw [hVr6]; exact (Below.refl _ _).alloc (Nat.le_refl _) _
 have HBVr6 : Hid (Below w.heap.size w Vr6) := HBa6.out.trans (hwr6.mono HBa6.out.size); have HXs1avVavavavaV := Lib.hid (HXs1avVavavava.out.below hwr6 HXs1avVavavava.out.lt); have HXs2avavavaV := Lib.hid (HXs2avavava.out.below hwr6 HXs2avavava.out.lt); have HXr6 : Hid (Blk Vr6 qr6 3 #[.int .i64 0, .int .i64 (-1), .int .i64 1]) := by rw [hVr6, hqr6]; exact Blk.new a6 3 _
 have HRr6 := Lib.hid (HR6.out.grow hwr6)
 have HPr6 : Hid (PlIn Vr6 Vr6.heap.size (some ⟨qr6, 0, none⟩) 3 [0, -1, 1]) := ⟨rfl, RdG.of_blk (f := inI) (sz := 1) (t := 3) (fun _ => rfl) HXr6.out HXr6.out.lt, by omega⟩
 go_wp2_with fail; rw [← hqr6, ← hVr6]
 clear hVr6 hqr6 hwr6; refine (PCheck_any (fa := some ⟨gf6, 0, none⟩) (fl := 1) (fc := 1) (la := A6) (ll := 0) (lc := 0) (wa := some ⟨gw6, 0, none⟩) (wn := 3) (wc := 3) (ta := some ⟨gt6, 0, none⟩) (tn := 3) (tc := 3) (c := sq8) (w := Vr6) (pc := 3) (by exact HRr6.out) (by exact HPr6.out)).mono ?_
 rw [nm6]; rintro e v6 ⟨rfl, hb⟩; have HB6 : Hid (Below w.heap.size w v6) := HBVr6.out.trans (hb.mono HBVr6.out.size); have HXs1avVavavavaVv := Lib.hid (HXs1avVavavavaV.out.below hb HXs1avVavavavaV.out.lt); have HXs2avavavaVv := Lib.hid (HXs2avavavaV.out.below hb HXs2avavavaV.out.lt); clear hb; go_wp2_with fail; refine (sample_any 8 _).mono ?_; rintro e a7 ⟨gf7, gw7, gt7, A7, rfl, hr, hb⟩; have HR7 : Hid (CtIn a7 a7.heap.size (some ⟨gf7, 0, none⟩) 1 A7 0 (some ⟨gw7, 0, none⟩) 3 (some ⟨gt7, 0, none⟩) 3 sq8) := hr; have HBa7 : Hid (Below w.heap.size w a7) := HB6.out.trans (hb.mono HB6.out.size); have HXs1avVavavavaVva := Lib.hid (HXs1avVavavavaVv.out.below hb HXs1avVavavavaVv.out.lt); have HXs2avavavaVva := Lib.hid (HXs2avavavaVv.out.below hb HXs2avavavaVv.out.lt); clear hr hb; obtain ⟨Vr7, hVr7⟩ : ∃ V, V = a7.alloc (.cells #[.int .i64 0, .int .i64 0, .int .i64 1] 3) := ⟨_, rfl⟩; obtain ⟨qr7, hqr7⟩ : ∃ q, q = a7.heap.size := ⟨_, rfl⟩; have hwr7 : Below a7.heap.size a7 Vr7 := by rw [hVr7]; exact (Below.refl _ _).alloc (Nat.le_refl _) _
 have HBVr7 : Hid (Below w.heap.size w Vr7) := HBa7.out.trans (hwr7.mono HBa7.out.size); have HXs1avVavavavaVvaV := Lib.hid (HXs1avVavavavaVva.out.below hwr7 HXs1avVavavavaVva.out.lt); have HXs2avavavaVvaV := Lib.hid (HXs2avavavaVva.out.below hwr7 HXs2avavavaVva.out.lt); have HXr7 : Hid (Blk Vr7 qr7 3 #[.int .i64 0, .int .i64 0, .int .i64 1]) := by rw [hVr7, hqr7]; exact Blk.new a7 3 _
 have HRr7 := Lib.hid (HR7.out.grow hwr7)
 have HPr7 : Hid (PlIn Vr7 Vr7.heap.size (some ⟨qr7, 0, none⟩) 3 [0, 0, 1]) := ⟨rfl, RdG.of_blk (f := inI) (sz := 1) (t := 3) (fun _ => rfl) HXr7.out HXr7.out.lt, by omega⟩
 go_wp2_with fail; rw [← hqr7, ← hVr7]
 clear hVr7 hqr7 hwr7; refine (PCheck_any (fa := some ⟨gf7, 0, none⟩) (fl := 1) (fc := 1) (la := A7) (ll := 0) (lc := 0) (wa := some ⟨gw7, 0, none⟩) (wn := 3) (wc := 3) (ta := some ⟨gt7, 0, none⟩) (tn := 3) (tc := 3) (c := sq8) (w := Vr7) (pc := 3) (by exact HRr7.out) (by exact HPr7.out)).mono ?_
 rw [nm7]; rintro e v7 ⟨rfl, hb⟩; have HB7 : Hid (Below w.heap.size w v7) := HBVr7.out.trans (hb.mono HBVr7.out.size); have HXs1avVavavavaVvaVv := Lib.hid (HXs1avVavavavaVvaV.out.below hb HXs1avVavavavaVvaV.out.lt); have HXs2avavavaVvaVv := Lib.hid (HXs2avavavaVvaV.out.below hb HXs2avavavaVvaV.out.lt); clear hb; go_wp2_with fail; refine (sample_any 8 _).mono ?_; rintro e a8 ⟨gf8, gw8, gt8, A8, rfl, hr, hb⟩; have HR8 : Hid (CtIn a8 a8.heap.size (some ⟨gf8, 0, none⟩) 1 A8 0 (some ⟨gw8, 0, none⟩) 3 (some ⟨gt8, 0, none⟩) 3 sq8) := hr; have HBa8 : Hid (Below w.heap.size w a8) := HB7.out.trans (hb.mono HB7.out.size); have HXs1avVavavavaVvaVva := Lib.hid (HXs1avVavavavaVvaVv.out.below hb HXs1avVavavavaVvaVv.out.lt); have HXs2avavavaVvaVva := Lib.hid (HXs2avavavaVvaVv.out.below hb HXs2avavavaVvaVv.out.lt); clear hr hb; obtain ⟨Vr8, hVr8⟩ : ∃ V, V = a8.alloc (.cells #[.int .i64 2, .int .i64 (-1), .int .i64 (-1)] 3) := ⟨_, rfl⟩; obtain ⟨qr8, hqr8⟩ : ∃ q, q = a8.heap.size := ⟨_, rfl⟩; have hwr8 : Below a8.heap.size a8 Vr8 := by rw [hVr8]; exact (Below.refl _ _).alloc (Nat.le_refl _) _
 have HBVr8 : Hid (Below w.heap.size w Vr8) := HBa8.out.trans (hwr8.mono HBa8.out.size); have HXs1avVavavavaVvaVvaV := Lib.hid (HXs1avVavavavaVvaVva.out.below hwr8 HXs1avVavavavaVvaVva.out.lt); have HXs2avavavaVvaVvaV := Lib.hid (HXs2avavavaVvaVva.out.below hwr8 HXs2avavavaVvaVva.out.lt); have HXr8 : Hid (Blk Vr8 qr8 3 #[.int .i64 2, .int .i64 (-1), .int .i64 (-1)]) := by rw [hVr8, hqr8]; exact Blk.new a8 3 _
 have HRr8 := Lib.hid (HR8.out.grow hwr8)
 have HPr8 : Hid (PlIn Vr8 Vr8.heap.size (some ⟨qr8, 0, none⟩) 3 [2, -1, -1]) := ⟨rfl, RdG.of_blk (f := inI) (sz := 1) (t := 3) (fun _ => rfl) HXr8.out HXr8.out.lt, by omega⟩
 go_wp2_with fail; rw [← hqr8, ← hVr8]
 clear hVr8 hqr8 hwr8; refine (PCheck_any (fa := some ⟨gf8, 0, none⟩) (fl := 1) (fc := 1) (la := A8) (ll := 0) (lc := 0) (wa := some ⟨gw8, 0, none⟩) (wn := 3) (wc := 3) (ta := some ⟨gt8, 0, none⟩) (tn := 3) (tc := 3) (c := sq8) (w := Vr8) (pc := 3) (by exact HRr8.out) (by exact HPr8.out)).mono ?_
 rw [nm8]; rintro e v8 ⟨rfl, hb⟩; have HB8 : Hid (Below w.heap.size w v8) := HBVr8.out.trans (hb.mono HBVr8.out.size); have HXs1avVavavavaVvaVvaVv := Lib.hid (HXs1avVavavavaVvaVvaV.out.below hb HXs1avVavavavaVvaVvaV.out.lt); have HXs2avavavaVvaVvaVv := Lib.hid (HXs2avavavaVvaVvaV.out.below hb HXs2avavavaVvaVvaV.out.lt); clear hb; have x0 := HXs1avVavavavaVvaVvaVv.out.cell 0; have x1 := HXs1avVavavavaVvaVvaVv.out.cell 1; have xl := HXs1avVavavavaVvaVvaVv.out.lt; simp at x0 x1; have y0 := HXs2avavavaVvaVvaVv.out.cell 0; have y1 := HXs2avavavaVvaVvaVv.out.cell 1; have yl := HXs2avavavaVvaVvaVv.out.lt; simp at y0 y1; go_upto_region 9 with (fail)
 refine wp_region_havoc [(0,false),(1,false),(2,false),(3,false),(4,false),(5,false),(6,false),(7,false),(8,false),(9,false),(10,false),(11,false),(12,false),(13,false),(14,false),(15,false),(16,false),(17,false),(18,false),(19,false),(20,false),(21,false),(22,false),(23,false),(24,false),(25,false),(26,false),(27,false),(28,false),(29,false),(30,false),(31,false),(32,false),(33,false),(34,false),(35,false),(36,false),(37,false),(38,false),(39,false),(40,false),(41,false),(42,false),(43,false),(44,false),(45,false),(46,false),(47,false),(48,false),(49,false),(50,false),(51,false),(52,false),(53,false),(54,false),(55,false),(56,false),(57,false),(58,false),(59,false),(60,false),(61,false),(62,false),(63,false),(64,false),(65,false),(66,false),(67,false)] [] (fun _ _ => False) (by kernel_rfl) (by kernel_rfl) (fun _ _ _ _ h => h.elim) ?_
 (apply hav_same (by simp only [List.getElem?_toArray]; rfl) (by kernel_rfl); (focus (intro wv hgv _; have hcv := cvB hgv; (try go_simp); try rfl; done)); simp only [Act.put, List.setIfInBounds_toArray, List.set_cons_succ, List.set_cons_zero])
 (apply hav_call (by simp only [List.getElem?_toArray]; rfl) (by kernel_rfl); (focus (intro wv; go_simp; try exact ⟨rfl, rfl⟩; done)); (focus (intro wv hgv _; exact lspan_any 1 1 wv; done)); simp only [Act.put, List.setIfInBounds_toArray, List.set_cons_succ, List.set_cons_zero])
 iterate 7 (apply hav_same (by simp only [List.getElem?_toArray]; rfl) (by kernel_rfl); (focus (intro wv hgv _; have hcv := cvB hgv; (try go_simp); try rfl; done)); simp only [Act.put, List.setIfInBounds_toArray, List.set_cons_succ, List.set_cons_zero])
 (apply hav_call (by simp only [List.getElem?_toArray]; rfl) (by kernel_rfl); (focus (intro wv; go_simp; try exact ⟨rfl, rfl⟩; done)); (focus (intro wv hgv _; exact lspan_any 3 3 wv; done)); simp only [Act.put, List.setIfInBounds_toArray, List.set_cons_succ, List.set_cons_zero])
 iterate 58 (apply hav_same (by simp only [List.getElem?_toArray]; rfl) (by kernel_rfl); (focus (intro wv hgv _; have hcv := cvB hgv; (try go_simp); try rfl; done)); simp only [Act.put, List.setIfInBounds_toArray, List.set_cons_succ, List.set_cons_zero])
 refine hav_end (fun wz hgz _ => ?_)
 simp only [List.filterMap]; have hbz : Below v8.heap.size v8 wz := hgz; have HBz : Hid (Below w.heap.size w wz) := HB8.out.trans (hbz.mono HB8.out.size); clear hgz hbz x0 x1 xl y0 y1 yl; go_wp2_with fail; refine (sample_any 8 _).mono ?_; rintro e a9 ⟨gf9, gw9, gt9, A9, rfl, hr, hb⟩; have HR9 : Hid (CtIn a9 a9.heap.size (some ⟨gf9, 0, none⟩) 1 A9 0 (some ⟨gw9, 0, none⟩) 3 (some ⟨gt9, 0, none⟩) 3 sq8) := hr; have HBa9 : Hid (Below w.heap.size w a9) := HBz.out.trans (hb.mono HBz.out.size); clear hr hb; obtain ⟨Vr9, hVr9⟩ : ∃ V, V = a9.alloc (.cells #[.int .i64 0, .int .i64 (-1), .int .i64 1] 3) := ⟨_, rfl⟩; obtain ⟨qr9, hqr9⟩ : ∃ q, q = a9.heap.size := ⟨_, rfl⟩; have hwr9 : Below a9.heap.size a9 Vr9 := by rw [hVr9]; exact (Below.refl _ _).alloc (Nat.le_refl _) _
 have HBVr9 : Hid (Below w.heap.size w Vr9) := HBa9.out.trans (hwr9.mono HBa9.out.size); have HXr9 : Hid (Blk Vr9 qr9 3 #[.int .i64 0, .int .i64 (-1), .int .i64 1]) := by rw [hVr9, hqr9]; exact Blk.new a9 3 _
 have HRr9 := Lib.hid (HR9.out.grow hwr9)
 have HPr9 : Hid (PlIn Vr9 Vr9.heap.size (some ⟨qr9, 0, none⟩) 3 [0, -1, 1]) := ⟨rfl, RdG.of_blk (f := inI) (sz := 1) (t := 3) (fun _ => rfl) HXr9.out HXr9.out.lt, by omega⟩
 go_wp2_with fail; rw [← hqr9, ← hVr9]
 clear hVr9 hqr9 hwr9; refine (PWorth_any (fa := some ⟨gf9, 0, none⟩) (fl := 1) (fc := 1) (la := A9) (ll := 0) (lc := 0) (wa := some ⟨gw9, 0, none⟩) (wn := 3) (wc := 3) (ta := some ⟨gt9, 0, none⟩) (tn := 3) (tc := 3) (c := sq8) (w := Vr9) (pc := 3) (by exact HRr9.out) (by exact HPr9.out)).mono ?_
 rw [nm9]; rintro e v9 ⟨rfl, hb⟩; have HB9 : Hid (Below w.heap.size w v9) := HBVr9.out.trans (hb.mono HBVr9.out.size); clear hb; obtain ⟨Vs9, hVs9⟩ : ∃ V, V = v9.alloc (.cells #[.int .i64 45, .int .i64 45] 23) := ⟨_, rfl⟩; obtain ⟨qs9, hqs9⟩ : ∃ q, q = v9.heap.size := ⟨_, rfl⟩; have hws9 : Below v9.heap.size v9 Vs9 := by rw [hVs9]; exact (Below.refl _ _).alloc (Nat.le_refl _) _
 have HBVs9 : Hid (Below w.heap.size w Vs9) := HB9.out.trans (hws9.mono HB9.out.size); have HXs9 : Hid (Blk Vs9 qs9 23 #[.int .i64 45, .int .i64 45]) := by rw [hVs9, hqs9]; exact Blk.new v9 23 _
 go_wp2_with fail; rw [← hqs9, ← hVs9]
 clear hVs9 hqs9 hws9; refine (sample_any 8 _).mono ?_; rintro e a10 ⟨gf10, gw10, gt10, A10, rfl, hr, hb⟩; have HR10 : Hid (CtIn a10 a10.heap.size (some ⟨gf10, 0, none⟩) 1 A10 0 (some ⟨gw10, 0, none⟩) 3 (some ⟨gt10, 0, none⟩) 3 sq8) := hr; have HBa10 : Hid (Below w.heap.size w a10) := HBVs9.out.trans (hb.mono HBVs9.out.size); have HXs9a := Lib.hid (HXs9.out.below hb HXs9.out.lt); clear hr hb; obtain ⟨Vr10, hVr10⟩ : ∃ V, V = a10.alloc (.cells #[.int .i64 2, .int .i64 (-1), .int .i64 (-1)] 3) := ⟨_, rfl⟩; obtain ⟨qr10, hqr10⟩ : ∃ q, q = a10.heap.size := ⟨_, rfl⟩; have hwr10 : Below a10.heap.size a10 Vr10 := by rw [hVr10]; exact (Below.refl _ _).alloc (Nat.le_refl _) _
 have HBVr10 : Hid (Below w.heap.size w Vr10) := HBa10.out.trans (hwr10.mono HBa10.out.size); have HXs9aV := Lib.hid (HXs9a.out.below hwr10 HXs9a.out.lt); have HXr10 : Hid (Blk Vr10 qr10 3 #[.int .i64 2, .int .i64 (-1), .int .i64 (-1)]) := by rw [hVr10, hqr10]; exact Blk.new a10 3 _
 have HRr10 := Lib.hid (HR10.out.grow hwr10)
 have HPr10 : Hid (PlIn Vr10 Vr10.heap.size (some ⟨qr10, 0, none⟩) 3 [2, -1, -1]) := ⟨rfl, RdG.of_blk (f := inI) (sz := 1) (t := 3) (fun _ => rfl) HXr10.out HXr10.out.lt, by omega⟩
 go_wp2_with fail; rw [← hqr10, ← hVr10]
 clear hVr10 hqr10 hwr10; refine (PWorth_any (fa := some ⟨gf10, 0, none⟩) (fl := 1) (fc := 1) (la := A10) (ll := 0) (lc := 0) (wa := some ⟨gw10, 0, none⟩) (wn := 3) (wc := 3) (ta := some ⟨gt10, 0, none⟩) (tn := 3) (tc := 3) (c := sq8) (w := Vr10) (pc := 3) (by exact HRr10.out) (by exact HPr10.out)).mono ?_
 rw [nm10]; rintro e v10 ⟨rfl, hb⟩; have HB10 : Hid (Below w.heap.size w v10) := HBVr10.out.trans (hb.mono HBVr10.out.size); have HXs9aVv := Lib.hid (HXs9aV.out.below hb HXs9aV.out.lt); clear hb; obtain ⟨Vs10, hVs10⟩ : ∃ V, V = v10.alloc (.cells #[.int .i64 0, .int .i64 0] 23) := ⟨_, rfl⟩; obtain ⟨qs10, hqs10⟩ : ∃ q, q = v10.heap.size := ⟨_, rfl⟩; have hws10 : Below v10.heap.size v10 Vs10 := by rw [hVs10]; exact (Below.refl _ _).alloc (Nat.le_refl _) _
 have HBVs10 : Hid (Below w.heap.size w Vs10) := HB10.out.trans (hws10.mono HB10.out.size); have HXs9aVvV := Lib.hid (HXs9aVv.out.below hws10 HXs9aVv.out.lt); have HXs10 : Hid (Blk Vs10 qs10 23 #[.int .i64 0, .int .i64 0]) := by rw [hVs10, hqs10]; exact Blk.new v10 23 _
 go_wp2_with fail; rw [← hqs10, ← hVs10]
 clear hVs10 hqs10 hws10; refine (sample_any 12 _).mono ?_; rintro e a11 ⟨gf11, gw11, gt11, A11, rfl, hr, hb⟩; have HR11 : Hid (CtIn a11 a11.heap.size (some ⟨gf11, 0, none⟩) 1 A11 0 (some ⟨gw11, 0, none⟩) 3 (some ⟨gt11, 0, none⟩) 3 sq12) := hr; have HBa11 : Hid (Below w.heap.size w a11) := HBVs10.out.trans (hb.mono HBVs10.out.size); have HXs9aVvVa := Lib.hid (HXs9aVvV.out.below hb HXs9aVvV.out.lt); have HXs10a := Lib.hid (HXs10.out.below hb HXs10.out.lt); clear hr hb; go_wp2_with fail; refine (PMost_any (fa := some ⟨gf11, 0, none⟩) (fl := 1) (fc := 1) (la := A11) (ll := 0) (lc := 0) (wa := some ⟨gw11, 0, none⟩) (wn := 3) (wc := 3) (ta := some ⟨gt11, 0, none⟩) (tn := 3) (tc := 3) (c := sq12) (w := a11) (by exact HR11.out)).mono ?_
 rintro e v11 ⟨hb, (⟨h1, -⟩ | ⟨-, g11, rfl, -, hbp⟩)⟩
 ·exact absurd nm_ok12 h1
 rw [nm11]; rw [nm11p] at hbp; have HB11 : Hid (Below w.heap.size w v11) := HBa11.out.trans (hb.mono HBa11.out.size); have HXs9aVvVav := Lib.hid (HXs9aVvVa.out.below hb HXs9aVvVa.out.lt); have HXs10av := Lib.hid (HXs10a.out.below hb HXs10a.out.lt); have HG11 : Hid (Blk v11 g11 3 #[.int .i64 (-1), .int .i64 (-1), .int .i64 (-1)]) := hbp; clear hb hbp; go_wp2_with fail; refine (sample_any 8 _).mono ?_; rintro e a12 ⟨gf12, gw12, gt12, A12, rfl, hr, hb⟩; have HR12 : Hid (CtIn a12 a12.heap.size (some ⟨gf12, 0, none⟩) 1 A12 0 (some ⟨gw12, 0, none⟩) 3 (some ⟨gt12, 0, none⟩) 3 sq8) := hr; have HBa12 : Hid (Below w.heap.size w a12) := HB11.out.trans (hb.mono HB11.out.size); have HXs9aVvVava := Lib.hid (HXs9aVvVav.out.below hb HXs9aVvVav.out.lt); have HXs10ava := Lib.hid (HXs10av.out.below hb HXs10av.out.lt); have HG11a := Lib.hid (HG11.out.below hb HG11.out.lt); clear hr hb; go_wp2_with fail; refine (PStay_any (fa := some ⟨gf12, 0, none⟩) (fl := 1) (fc := 1) (la := A12) (ll := 0) (lc := 0) (wa := some ⟨gw12, 0, none⟩) (wn := 3) (wc := 3) (ta := some ⟨gt12, 0, none⟩) (tn := 3) (tc := 3) (c := sq8) (w := a12)  (by exact HR12.out)).mono ?_
 rw [nm12]; rintro e v12 ⟨rfl, hb⟩; have HB12 : Hid (Below w.heap.size w v12) := HBa12.out.trans (hb.mono HBa12.out.size); have HXs9aVvVavav := Lib.hid (HXs9aVvVava.out.below hb HXs9aVvVava.out.lt); have HXs10avav := Lib.hid (HXs10ava.out.below hb HXs10ava.out.lt); have HG11av := Lib.hid (HG11a.out.below hb HG11a.out.lt); clear hb; go_wp2_with fail; refine (clash_any _).mono ?_; rintro e a13 ⟨gf13, gw13, gt13, A13, rfl, hr, hb⟩; have HR13 : Hid (CtIn a13 a13.heap.size (some ⟨gf13, 0, none⟩) 1 A13 3 (some ⟨gw13, 0, none⟩) 3 (some ⟨gt13, 0, none⟩) 3 sqC) := hr; have HBa13 : Hid (Below w.heap.size w a13) := HB12.out.trans (hb.mono HB12.out.size); have HXs9aVvVavava := Lib.hid (HXs9aVvVavav.out.below hb HXs9aVvVavav.out.lt); have HXs10avava := Lib.hid (HXs10avav.out.below hb HXs10avav.out.lt); have HG11ava := Lib.hid (HG11av.out.below hb HG11av.out.lt); clear hr hb; go_wp2_with fail; refine (PStay_any (fa := some ⟨gf13, 0, none⟩) (fl := 1) (fc := 1) (la := A13) (ll := 3) (lc := 3) (wa := some ⟨gw13, 0, none⟩) (wn := 3) (wc := 3) (ta := some ⟨gt13, 0, none⟩) (tn := 3) (tc := 3) (c := sqC) (w := a13)  (by exact HR13.out)).mono ?_
 rw [nm13]; rintro e v13 ⟨rfl, hb⟩; have HB13 : Hid (Below w.heap.size w v13) := HBa13.out.trans (hb.mono HBa13.out.size); have HXs9aVvVavavav := Lib.hid (HXs9aVvVavava.out.below hb HXs9aVvVavava.out.lt); have HXs10avavav := Lib.hid (HXs10avava.out.below hb HXs10avava.out.lt); have HG11avav := Lib.hid (HG11ava.out.below hb HG11ava.out.lt); clear hb; have x0 := HXs9aVvVavavav.out.cell 0; have x1 := HXs9aVvVavavav.out.cell 1; have xl := HXs9aVvVavavav.out.lt; simp at x0 x1; go_upto_region 16 with (fail)
 refine wp_region_havoc [(0,false),(1,false),(2,false),(3,false),(4,false),(5,false),(6,false),(7,false),(8,false),(9,false),(10,false),(11,false),(12,false),(13,false),(14,false),(15,false),(16,false),(17,false),(18,false),(19,false),(20,false),(21,false),(22,true),(23,false),(24,false),(25,false),(26,false),(27,false),(28,false),(29,false),(30,false),(31,false),(32,false),(33,false),(34,false),(35,false),(36,false),(37,false),(38,false),(39,false),(40,false),(41,false)] [] (fun _ _ => False) (by kernel_rfl) (by kernel_rfl) (fun _ _ _ _ h => h.elim) ?_
 (apply hav_same (by exact ho rfl) (by kernel_rfl); (focus (intro wv hgv _; have hcv := cvB hgv; (try go_simp); try rfl; done)); simp only [Act.put, List.setIfInBounds_toArray, List.set_cons_succ, List.set_cons_zero])
 (apply hav_call (by exact ho rfl) (by kernel_rfl); (focus (intro wv; go_simp; try exact ⟨rfl, rfl⟩; done)); (focus (intro wv hgv _; exact alive_any wv; done)); simp only [Act.put, List.setIfInBounds_toArray, List.set_cons_succ, List.set_cons_zero])
 iterate 3 (apply hav_same (by exact ho rfl) (by kernel_rfl); (focus (intro wv hgv _; have hcv := cvB hgv; (try go_simp); try rfl; done)); simp only [Act.put, List.setIfInBounds_toArray, List.set_cons_succ, List.set_cons_zero])
 (apply hav_call (by exact ho rfl) (by kernel_rfl); (focus (intro wv; go_simp; try exact ⟨rfl, rfl⟩; done)); (focus (intro wv hgv _; exact lspan_any 45 45 wv; done)); simp only [Act.put, List.setIfInBounds_toArray, List.set_cons_succ, List.set_cons_zero])
 iterate 16 (apply hav_same (by exact ho rfl) (by kernel_rfl); (focus (intro wv hgv _; have hcv := cvB hgv; (try go_simp); try rfl; done)); simp only [Act.put, List.setIfInBounds_toArray, List.set_cons_succ, List.set_cons_zero])
 refine hav_new (fun g => .slice (some ⟨g, 0, none⟩) 3 3) (.cells #[.int .i64 (-1), .int .i64 (-1), .int .i64 (-1)] 3) (by exact ho rfl) (by kernel_rfl) (fun wv hg hF => by (try go_simp); try rfl) ?_
 intro va; simp only [Act.put, List.setIfInBounds_toArray, List.set_cons_succ, List.set_cons_zero]
 (apply hav_call (by exact ho rfl) (by kernel_rfl); (focus (intro wv; go_simp; try exact ⟨rfl, rfl⟩; done)); (focus (intro wv hgv hF; obtain ⟨_, q, e, _, hq⟩ := hF; subst e; have hq' : Blk wv q 3 #[.int .i64 (-1), .int .i64 (-1), .int .i64 (-1)] := hq; refine (ints_any (A1 := some ⟨g11, 0, none⟩) (n1 := 3) (c1 := 3) (l1 := [-1, -1, -1]) (A2 := some ⟨q, 0, none⟩) (n2 := 3) (c2 := 3) (l2 := [-1, -1, -1]) rfl rfl (by omega) wv (RdG.of_blk (f := inI) (sz := 1) (t := 3) (fun _ => rfl) (HG11avav.out.below hgv HG11avav.out.lt) (HG11avav.out.below hgv HG11avav.out.lt).lt) (RdG.of_blk (f := inI) (sz := 1) (t := 3) (fun _ => rfl) hq' hq'.lt)).mono ?_; rw [show decide (([-1, -1, -1] : List Int) = [-1, -1, -1]) = true from rfl]; rintro e w' ⟨rfl, hb⟩; exact ⟨rfl, hb⟩; done)); simp only [Act.put, List.setIfInBounds_toArray, List.set_cons_succ, List.set_cons_zero])
 iterate 18 (apply hav_same (by exact ho rfl) (by kernel_rfl); (focus (intro wv hgv _; have hcv := cvB hgv; (try go_simp); try rfl; done)); simp only [Act.put, List.setIfInBounds_toArray, List.set_cons_succ, List.set_cons_zero])
 refine hav_end (fun wy hgz _ => ?_)
 simp only [List.filterMap]; have HBy : Hid (Below w.heap.size w wy) := HB13.out.trans (Below.mono hgz HB13.out.size); clear hgz x0 x1 xl; go_wp2; go_ret
 exact ⟨rfl, HBy.out⟩
end Go.Proofs.YtgmfhngcehkibaaGreat
namespace Go.Proofs.YtgmfhngcehkibaaGreat
open Go.ChangeShapes Go.WideShapes Go.ChangeAt Go.RowKit
theorem cartNames_lifted (os : Os) (started : os.Started) (H : Type) (enc : TypeId × Value → H) :
  ReturnsInHanded {} Tryz.checked os 5 .any (Rows.cartNamesSpec.pre6 enc Tryz.prog Tryz.f5 Rows.cartNamesRow.domain false) (Rows.cartNamesSpec.post enc Tryz.prog Tryz.f5 false true false false) := by
 refine returnsInHanded_of_change (C := Tryz.checked) rowOwn started (by kernel_rfl) Tryz.func5
  (ChangeSpec.witness6 (enc := enc) (C := Tryz.checked) false ⟨#[], #[], []⟩ 8 (by kernel_rfl) (by kernel_rfl) (by kernel_rfl) (by kernel_rfl)) ?_
 intro W base args ds gs before hval0 hW _ _; have hval : ∀ (j : Nat) t v, Tryz.f5.params[j]? = some t → args[j]? = some v → Value.okWide Tryz.prog W .any base t v := hval0; have hW' := hW; obtain ⟨p, q, hA0, hV, rfl, hfz, hnd⟩ := hW
 have hA : DataW.TrodAll enc Tryz.prog W 0 (fun _ => true) true Tryz.f5.params.toList args.toList ds p := hA0
 rw [Tryz.params5] at hA hval; obtain ⟨hargs, rfl, rfl⟩ := trodAll_nil hA; obtain rfl : args = #[] := by cases args; simp_all
 obtain ⟨rfl, rfl⟩ := trodVars_none hV; clear hA0 hval0; simp only [List.append_nil] at hW'
 refine (cartNames_any W).mono fun e W' ⟨he, bel⟩ => ?_
 subst he
 exact ⟨_, rfl, _, _, _, [], _, [], hW', trodAll_mk1 (shut_bool Tryz.underlying4 _), trodAll_mk0, rfl, bel.frame _, fun h => by cases h⟩
theorem cartNames_holds : Rows.CartNamesSaid :=
 OpenClaim.holds_of_wide 5 Tryz.f5 rfl rfl rfl rfl rfl rfl rfl ⟨rfl, rfl, rfl, rfl, rfl⟩ rfl rfl rfl rfl rfl (by kernel_rfl) Tryz.func5 (by kernel_rfl)
  (of_decide_eq_true (by kernel_rfl)) (by unfold Func.isWrapper; first | (rw [if_pos (by decide +kernel)]; kernel_rfl) | (rw [if_neg (by decide +kernel)]; exact ⟨rfl, rfl⟩))
  (fun os started H enc _ => cartNames_lifted os started H enc)
#print axioms cartNames_holds
end Go.Proofs.YtgmfhngcehkibaaGreat
