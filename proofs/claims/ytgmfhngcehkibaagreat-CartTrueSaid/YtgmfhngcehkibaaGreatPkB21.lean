/- The search from behind: what is left is worth what it is worth; the plan that it chooses, lot for lot. Stay: which lots by themselves are on no wagon. Most and Best. Condition: what the statements say. -/
import Derived.Test.YtgmfhngcehkibaaGreatPkB20
set_option maxRecDepth 100000
set_option maxHeartbeats 6400000
namespace Go.Proofs.YtgmfhngcehkibaaGreat
open Go.RowKit Go.Hav Go.Shelf Go.Sq
attribute [local go_sem] Oper.semAt_some
section
variable {fa la wa ta : Option Addr} {fl fc ll lc wn wc tn tc : Nat} {c : ICart}
variable {w w' : World} {B d k b1 b2 b3 b4 fo : Nat} {of_ : ILot → IWag → Int}
theorem onC_any (hO : IsOf fo of_) (hbd : ∀ l ∈ c.lt, ∀ g ∈ c.wg, 0 ≤ of_ l g ∧ of_ l g ≤ 1000) : ∀ (m : Nat) (t : Left4) (w : World), t.Ok → t.lot + m = tn → MoIn w B d k b1 b2 b3 b4 fo of_ fa fl fc la ll lc wa wn wc ta tn tc c →
  Calls Tryz.prog 102 #[leftV t, .pointer (some ⟨b1, 0, none⟩), .pointer (some ⟨b2, 0, none⟩), .pointer (some ⟨b3, 0, none⟩), .pointer (some ⟨b4, 0, none⟩)] w fun e w' => e = .returned (wayV (onF of_ c t)) ∧ (GM k (onF of_ c)).G w w' := by
 intro m
 induction m with
 | zero => exact fun t w ht hm hM => on_step 0 (Lib.hid (fun m' h => by omega)) hO hbd t ht hm hM
 | succ m ih => exact fun t w ht hm hM => on_step (m + 1) (Lib.hid (fun m' h => by obtain rfl : m = m' := (by omega); exact ih)) hO hbd t ht hm hM
theorem GM.toBelow {F : Left4 → Int × Int} {X Y : World} {S : Nat} (h : (GM k F).G X Y) (hX : S ≤ X.heap.size) (hk : S ≤ k) : Below S X Y :=
 ⟨h.1.os, h.1.tape, h.1.output, h.1.size, fun b hb => h.1.block b (by omega) (fun e => by cases e; omega)⟩
end
section
variable {of_ : ILot → IWag → Int} {c : ICart}
def Left4.room (t : Left4) (w : Int) (b : Nat) : Left4 := if 0 ≤ w then { t.on w.toNat b with lot := t.lot } else t
theorem room_lot (t : Left4) (w : Int) (b : Nat) : (t.room w b).lot = t.lot := by unfold Left4.room; split <;> rfl
theorem drop_lot {t : Left4} {l : ILot} (hl : c.lt[t.lot]? = some l) : c.lt.drop t.lot = l :: c.lt.drop (t.lot + 1) := by
 obtain ⟨h1, h2⟩ := List.getElem?_eq_some_iff.1 hl; rw [List.drop_eq_getElem_cons h1, h2]
theorem onF_wagon {t : Left4} {l : ILot} (hl : c.lt[t.lot]? = some l) : (onF of_ c t).2 = -1 ∨ ∃ (i : Nat) (g : IWag), i < c.wg.length ∧ c.wg[i]? = some g ∧ brokenW (c.tm g) l g (rmOf t i) = 0 ∧ (onF of_ c t).2 = i := by
 have h := (onP_is c.tm c.wg of_ l (c.lt.drop (t.lot + 1)) (rmOf t)).is; rw [← onP_best, ← drop_lot hl] at h; rcases h with ⟨h, -⟩ | ⟨i, g, h1, h2, h3, h4, -⟩
 ·exact .inl h
 ·exact .inr ⟨i, g, h1, h2, h3, h4⟩
theorem plan_drop {t : Left4} {l : ILot} (hl : c.lt[t.lot]? = some l) :
  planL c.tm c.wg of_ (c.lt.drop t.lot) (rmOf t) = (onF of_ c t).2 :: planL c.tm c.wg of_ (c.lt.drop (t.lot + 1)) (nextR (rmOf t) l (onF of_ c t).2) := by
 rw [drop_lot hl, planL_cons, ← drop_lot hl]
 rfl
theorem nextR_room {t : Left4} {l : ILot} {b : Nat} (hl : c.lt[t.lot]? = some l) (hb : l.bales = b) (hw3 : c.wg.length ≤ 3) : nextR (rmOf t) l (onF of_ c t).2 = rmOf (t.room (onF of_ c t).2 b).next := by
 rcases onF_wagon (of_ := of_) hl with h | ⟨i, g, hi, hg, hbr, h⟩
 ·rw [h]; rfl
 ·rw [h]; unfold nextR Left4.room; rw [if_pos (by omega), if_pos (by omega), Int.toNat_natCast, hb]
  have hle := (brokenW_zero.1 hbr).2.1; rw [hb] at hle; exact (rmOf_on (by omega) hle).symm
theorem room_ok {t : Left4} (h : t.Ok) (hl : t.lot < 5) (w : Int) (b : Nat) : (t.room w b).Ok := by
 unfold Left4.room
 split
 ·have := Left4.on_ok (i := w.toNat) (b := b) h hl; exact ⟨h.1, this.2⟩
 ·exact h
theorem room_cell {t : Left4} {i b : Nat} (hi : i < 3) (hb : (b : Int) ≤ rmOf t i) : (leftC t).setIfInBounds (1 + i) (.int .i64 (rmOf t i - b)) = leftC (t.room i b) := by
 unfold Left4.room; rw [if_pos (by omega), Int.toNat_natCast]
 match i, hi, hb with
 | 0, _, hb =>
  have hb : (b : Int) ≤ t.a := hb; have e : (t.a : Int) - b = ((t.a - b : Nat) : Int) := by omega
  show (#[_, .int .i64 ((t.a : Int) - b), _, _] : Array Value) = _; rw [e]; rfl
 | 1, _, hb =>
  have hb : (b : Int) ≤ t.b := hb; have e : (t.b : Int) - b = ((t.b - b : Nat) : Int) := by omega
  show (#[_, _, .int .i64 ((t.b : Int) - b), _] : Array Value) = _; rw [e]; rfl
 | 2, _, hb =>
  have hb : (b : Int) ≤ t.c := hb; have e : (t.c : Int) - b = ((t.c - b : Nat) : Int) := by omega
  show (#[_, _, _, .int .i64 ((t.c : Int) - b)] : Array Value) = _; rw [e]; rfl
def left0 (c : ICart) : Left4 := ⟨0, (roomP c.wg 0).toNat, (roomP c.wg 1).toNat, (roomP c.wg 2).toNat⟩
theorem room_bd (hw : ∀ g ∈ c.wg, wagB g = true) (i : Nat) : 0 ≤ roomP c.wg i ∧ roomP c.wg i ≤ 30 := by
 unfold roomP
 split
 ·rename_i g hg
  have := wagB_iff.1 (hw g (List.mem_of_getElem? hg))
  omega
 ·omega
theorem left0_rm (hw : ∀ g ∈ c.wg, wagB g = true) (hw3 : c.wg.length ≤ 3) : rmOf (left0 c) = roomP c.wg := by
 have h0 := (room_bd hw 0).1; have h1 := (room_bd hw 1).1; have h2 := (room_bd hw 2).1
 funext i
 unfold rmOf left0; simp only
 by_cases a : i = 0
 ·subst a; rw [if_pos rfl]; omega
 ·by_cases b : i = 1
  ·subst b; rw [if_neg (by omega), if_pos rfl]; omega
  ·by_cases d : i = 2
   ·subst d; rw [if_neg (by omega), if_neg (by omega), if_pos rfl]; omega
   ·rw [if_neg a, if_neg b, if_neg d]; unfold roomP; rw [List.getElem?_eq_none (by omega)]
theorem left0_ok (hw : ∀ g ∈ c.wg, wagB g = true) : (left0 c).Ok := by
 have h0 := room_bd hw 0; have h1 := room_bd hw 1; have h2 := room_bd hw 2; refine ⟨by show 0 ≤ 5; omega, ?_, ?_, ?_⟩
 ·show (roomP c.wg 0).toNat ≤ 30; omega
 ·show (roomP c.wg 1).toNat ≤ 30; omega
 ·show (roomP c.wg 2).toNat ≤ 30; omega
end
def intsA (l : List Int) : Array Value := (l.map (Value.int .i64)).toArray
theorem made_ints (n : Nat) : madeCells #[.int .i64 0] n = intsA (List.replicate n 0) := by
 apply Array.ext'
 rw [toList_madeCells_one]
 simp [intsA]
theorem make_ints (n : Nat) (hn : n ≤ 1000) (w : World) : (Instr.makeSlice 32 (.int .i64 (n : Int)) (.int .i64 (n : Int))).run Tryz.prog w = .ok (.slice (some ⟨w.heap.size, 0, none⟩) n n) (w.alloc (.cells (intsA (List.replicate n 0)) 3)) := by
 obtain ⟨i, hi, hz0, hz1, hz2⟩ := info_parts Tryz.infoE3; have hr := run_make (P := Tryz.prog) w 32 3 i (.int .i64 0) Tryz.underlying32 hi hz0 .i64 .i64 n n (by omega) (by omega) (by rw [hz2]; omega) (by omega)
 simp only [Int.toNat_natCast, hz1, Nat.mul_one] at hr; rw [hr, show Value.cells (.int .i64 0) = #[.int .i64 0] from rfl, made_ints]
theorem copy_ints {W : World} {B g n b cp : Nat} {M old : List Int} (hl : M.length = n) (ho : old.length = n) (hb : Blk W g 3 (intsA old)) (hr : W.ownsRow B 3 1 (.slice (some ⟨b, 0, none⟩) n cp) n (M.map (Value.int .i64))) :
  ∃ w1, (Builtin.copy_ #[32, 32] 3 #[.slice (some ⟨g, 0, none⟩) n n, .slice (some ⟨b, 0, none⟩) n cp]).run Tryz.prog W = .ok (.int .i64 n) w1 ∧ Blk w1 g 3 (intsA M) ∧ Below g W w1 := by
 have h := run_copy_row (P := Tryz.prog) W 32 32 3 3 g 0 n n ⟨b, 0, none⟩ n cp (intsA old) 3 (M.map (Value.int .i64)) Tryz.underlying32 (by kernel_rfl) hb (by simp [hl])
  (hr.cells (g := b) rfl) (by simp [intsA, hl, ho]) (by
   intro v hv; obtain ⟨x, _, rfl⟩ := List.mem_map.1 hv
   rfl)
 have e : ((intsA old).toList.take 0 ++ (M.map (Value.int .i64)) ++ (intsA old).toList.drop (0 + (M.map (Value.int .i64)).length)).toArray = intsA M := by
  simp [intsA, hl, ho]
 rw [e] at h; exact ⟨_, by rw [h, List.length_map, hl]; rfl, setRow_heap W g (intsA old) (intsA M) 3 (0, 0) hb, below_setRow (Below.refl _ _) (Nat.le_refl _) _⟩
theorem planL_len {tm : IWag → Nat} {ws : List IWag} {of_ : ILot → IWag → Int} : ∀ {ls : List ILot} {R : Rm}, (planL tm ws of_ ls R).length = ls.length
 | [], _ => rfl
 | l :: ls, R => by rw [planL_cons, List.length_cons, planL_len, List.length_cons]
theorem plan_step {P : List Int} {j : Nat} {x : Int} {r : List Int} (h : P = P.take j ++ x :: r) (hj : j < P.length) : P.take (j + 1) = P.take j ++ [x] ∧ P = P.take (j + 1) ++ r := by
 have hx : P[j]? = some x := by
  have hlen : (P.take j).length = j := by rw [List.length_take]; omega
  have e : P[j]? = (P.take j ++ x :: r)[j]? := congrArg (fun L => L[j]?) h
  rw [e, List.getElem?_append_right (by omega), hlen, Nat.sub_self]
  rfl
 have h1 : P.take (j + 1) = P.take j ++ [x] := by rw [List.take_add_one, hx]; rfl
 refine ⟨h1, ?_⟩; rw [h1, List.append_assoc]; exact h
theorem make_cap (n : Nat) (hn : n ≤ 1000) (w : World) : (Instr.makeSlice 32 (.int .i64 0) (.int .i64 (n : Int))).run Tryz.prog w = .ok (.slice (some ⟨w.heap.size, 0, none⟩) 0 n) (w.alloc (.cells (intsA (List.replicate n 0)) 3)) := by
 obtain ⟨i, hi, hz0, hz1, hz2⟩ := info_parts Tryz.infoE3; have hr := run_make (P := Tryz.prog) w 32 3 i (.int .i64 0) Tryz.underlying32 hi hz0 .i64 .i64 (0 : Nat) n (by omega) (by omega) (by rw [hz2]; omega) (by omega)
 simp only [Int.toNat_natCast, hz1, Nat.mul_one] at hr; rw [show Value.cells (.int .i64 0) = #[.int .i64 0] from rfl, made_ints] at hr
 exact hr
section
variable {fa la wa ta : Option Addr} {fl fc ll lc wn wc tn tc : Nat} {c : ICart}
variable {w w' : World} {B d k b1 b2 b3 b4 fo : Nat} {of_ : ILot → IWag → Int}
theorem most_any (hO : IsOf fo of_) (hbd : ∀ l ∈ c.lt, ∀ g ∈ c.wg, 0 ≤ of_ l g ∧ of_ l g ≤ 1000) (w : World) (hY : YdIn w B d fa fl fc la ll lc wa wn wc ta tn tc c) :
  Calls Tryz.prog 72 #[.pointer (some ⟨d, 0, none⟩), .func (.func fo) #[] #[]] w fun e w' => ∃ g, e = .returned (.tuple #[.int .i64 (onP c.tm c.wg of_ c.lt (roomP c.wg)).1, .slice (some ⟨g, 0, none⟩) tn tn]) ∧ Blk w' g 3 ((planL c.tm c.wg of_ c.lt (roomP c.wg)).map (Value.int .i64)).toArray ∧ w.heap.size ≤ g ∧ Below w.heap.size w w' := by
 have ht5 : tn ≤ 5 := by have := hY.etn; have := (okC_parts hY.ok).2.2.2.1; omega
 have hw3 : wn ≤ 3 := by have := hY.ewn; have := (okC_parts hY.ok).2.2.1; omega
 have hmm := @run_makeMap Tryz.prog; have HO := Lib.hid hO; have HBD := Lib.hid hbd; have HY := Lib.hid hY; clear hO hbd hY
 go_enter Tryz.func72, Tryz.ntmps72
 go_upto_region 4 with (fail)
 obtain ⟨W, hW⟩ : ∃ W, W = (((((w.alloc (Obj.cells #[Value.pointer (some ⟨d, 0, none⟩)] 85)).alloc (Obj.cells #[Value.func (Fn.func fo) #[] #[]] 100)).alloc (Obj.map #[] 0)).alloc (Obj.cells #[Value.map (some (w.heap.size + 1 + 1))] 132)).alloc
  (Obj.cells #[Value.func (Fn.func 102) #[] #[Value.pointer (some ⟨w.heap.size, 0, none⟩), Value.pointer (some ⟨w.heap.size + 1 + 1 + 1, 0, none⟩), Value.pointer (some ⟨w.heap.size + 1 + 1 + 1 + 1, 0, none⟩), Value.pointer (some ⟨w.heap.size + 1, 0, none⟩)]] 133)) := ⟨_, rfl⟩
 rw [← hW]; obtain ⟨b3, hb3⟩ : ∃ b, b = w.heap.size + 1 + 1 + 1 + 1 := ⟨_, rfl⟩; obtain ⟨b2, hb2⟩ : ∃ b, b = w.heap.size + 1 + 1 + 1 := ⟨_, rfl⟩; obtain ⟨k, hk⟩ : ∃ b, b = w.heap.size + 1 + 1 := ⟨_, rfl⟩; obtain ⟨b4, hb4⟩ : ∃ b, b = w.heap.size + 1 := ⟨_, rfl⟩; obtain ⟨b1, hb1⟩ : ∃ b, b = w.heap.size := ⟨_, rfl⟩; rw [← hb3, ← hb2, ← hk, ← hb4, ← hb1] at hW ⊢; have hz1 : (w.alloc (Obj.cells #[Value.pointer (some ⟨d, 0, none⟩)] 85)).heap.size = b4 := by rw [hb4]; simp
 have hz2 : ((w.alloc (Obj.cells #[Value.pointer (some ⟨d, 0, none⟩)] 85)).alloc (Obj.cells #[Value.func (Fn.func fo) #[] #[]] 100)).heap.size = k := by rw [hk]; simp
 have hz3 : (((w.alloc (Obj.cells #[Value.pointer (some ⟨d, 0, none⟩)] 85)).alloc (Obj.cells #[Value.func (Fn.func fo) #[] #[]] 100)).alloc (Obj.map #[] 0)).heap.size = b2 := by rw [hb2]; simp
 have hz4 : ((((w.alloc (Obj.cells #[Value.pointer (some ⟨d, 0, none⟩)] 85)).alloc (Obj.cells #[Value.func (Fn.func fo) #[] #[]] 100)).alloc (Obj.map #[] 0)).alloc (Obj.cells #[Value.map (some k)] 132)).heap.size = b3 := by rw [hb3]; simp
 have HB0 : Hid (Below w.heap.size w W) := by rw [hW]; exact (((((Below.refl _ _).alloc (Nat.le_refl _) _).alloc (by simp) _).alloc (by simp; omega) _).alloc (by simp; omega) _).alloc (by simp; omega) _
 have HM : Hid (MoIn W B d k b1 b2 b3 b4 fo of_ fa fl fc la ll lc wa wn wc ta tn tc c) := by
  refine ⟨HY.out.grow HB0.out, ?_, ?_, ?_, ?_, ?_, by have := HY.out.hB; omega⟩
  ·rw [hW, hb1]; exact ((((Blk.new w 85 _).alloc _).alloc _).alloc _).alloc _
  ·rw [hW, ← hz3]; exact (Blk.new _ 132 _).alloc _
  ·rw [hW, ← hz4]; exact Blk.new _ 133 _
  ·rw [hW, ← hz1]; exact (((Blk.new _ 100 _).alloc _).alloc _).alloc _
  ·have h := MapC.made ((w.alloc (Obj.cells #[Value.pointer (some ⟨d, 0, none⟩)] 85)).alloc (Obj.cells #[Value.func (Fn.func fo) #[] #[]] 100)) (onF of_ c); rw [hz2] at h; refine h.keep ?_; rw [hW]; exact (((Below.refl _ _).alloc (Nat.le_refl _) _).alloc (by simp) _).block k (by rw [← hz2]; simp)
 have HKB : Hid (w.heap.size ≤ k) := by show _ ≤ _; omega
 clear hz1 hz2 hz3 hz4 hW hb1 hb2 hb3 hb4 hk hmm; have HGS : Hid ((∀ g ∈ c.wg, wagB g = true) ∧ c.wg.length ≤ 3) := ⟨(okC_parts HM.out.yd.ok).2.2.2.2.1, (okC_parts HM.out.yd.ok).2.2.1⟩; have hrm := left0_rm (c := c) HGS.out.1 HGS.out.2; obtain ⟨t0, ht0⟩ : ∃ t, t = left0 c := ⟨_, rfl⟩; have HT0 : Hid (t0.Ok ∧ t0.lot = 0) := by rw [ht0]; exact ⟨left0_ok HGS.out.1, rfl⟩
 rw [← ht0] at hrm; have HRM := Lib.hid hrm
 have HON : Hid (∀ (t : Left4) (X : World), t.Ok → t.lot ≤ tn → (MoIn X B d k b1 b2 b3 b4 fo of_ fa fl fc la ll lc wa wn wc ta tn tc c) → Calls Tryz.prog 102 #[leftV t, .pointer (some ⟨b1, 0, none⟩), .pointer (some ⟨b2, 0, none⟩), .pointer (some ⟨b3, 0, none⟩), .pointer (some ⟨b4, 0, none⟩)] X fun e w' => e = .returned (wayV (onF of_ c t)) ∧ (GM k (onF of_ c)).G X w') := fun t X h1 h2 h3 => onC_any HO.out HBD.out (tn - t.lot) t X h1 (by omega) h3
 clear ht0; have z1 := HM.out.c1.cell 0; have zl := HM.out.c1.lt; simp at z1; go_wp2_with fail; refine (rooms_any HM.out.yd).mono ?_; rw [← hrm, roomsC_rm]; rintro e w1 ⟨rfl, hb⟩; clear hrm z1 zl; have HM1 := Lib.hid (HM.out.keep (GM.below hb)); have HB1 : Hid (Below w.heap.size w w1) := HB0.out.trans (hb.mono HB0.out.size); clear hb; go_upto_region 5 with (fail); obtain ⟨W2, hW2⟩ : ∃ W2, W2 = w1.alloc (.cells #[.int .i64 0, .int .i64 t0.a, .int .i64 t0.b, .int .i64 t0.c] 135) := ⟨_, rfl⟩; obtain ⟨p8, hp8⟩ : ∃ b, b = w1.heap.size := ⟨_, rfl⟩; rw [← hW2, ← hp8]; have HX8 : Hid (Blk W2 p8 135 (leftC t0)) := by rw [hW2, hp8]; unfold leftC; rw [HT0.out.2]; exact Blk.new w1 135 _
 have HM2 : Hid (MoIn W2 B d k b1 b2 b3 b4 fo of_ fa fl fc la ll lc wa wn wc ta tn tc c) := by rw [hW2]; exact HM1.out.keep (GM.alloc ((GM k (onF of_ c)).refl _) _)
 have HB2 : Hid (Below w.heap.size w W2) := by rw [hW2]; exact HB1.out.alloc HB1.out.size _
 have HP8 : Hid (p8 ≠ d ∧ p8 ≠ k ∧ p8 ≠ b1 ∧ p8 ≠ b2 ∧ p8 ≠ b3 ∧ p8 ≠ b4 ∧ w.heap.size ≤ p8 ∧ B ≤ p8) := by
  have h1 := HM1.out.yd.blk.lt; have h2 := HM1.out.map.lt; have h3 := HM1.out.c1.lt; have h4 := HM1.out.c2.lt; have h5 := HM1.out.c3.lt; have h6 := HM1.out.c4.lt; have h7 := HM1.out.yd.hB; have h8 := HB1.out.size; rw [hp8]; exact ⟨by omega, by omega, by omega, by omega, by omega, by omega, by omega, by omega⟩
 clear hW2 hp8; have z3 := HM2.out.c3.cell 0; have zl := HM2.out.c3.lt; have x0 := HX8.out.cell 0; have x1 := HX8.out.cell 1; have x2 := HX8.out.cell 2; have x3 := HX8.out.cell 3; have xl := HX8.out.lt
 simp [leftC] at x0 x1 x2 x3 z3
 have hfl := field137; have hfb := field137b; have hq := HON.out t0 W2 HT0.out.1 (by have := HT0.out.2; omega) HM2.out
 unfold leftV leftC at hq; have HQ := Lib.hid hq; clear hq; go_wp2_with fail; refine HQ.out.mono ?_; rintro e w3 ⟨rfl, hg⟩; have HM3 := Lib.hid (HM2.out.keep hg); have HX3 := Lib.hid (HX8.out.turn (GM.turn hg) HP8.out.2.1); have HB3 : Hid (Below w.heap.size w w3) := HB2.out.trans (GM.toBelow hg HB2.out.size HKB.out)
 have HOF : Hid ((onF of_ c t0).1 = (onP c.tm c.wg of_ c.lt (roomP c.wg)).1) := by
  show _ = _; unfold onF; rw [HT0.out.2, HRM.out]
  rfl
 unfold wayV wayC; rw [HOF.out]; obtain ⟨wor, hwor⟩ : ∃ wor, wor = (onP c.tm c.wg of_ c.lt (roomP c.wg)).1 := ⟨_, rfl⟩; rw [← hwor]; have HWOR := Lib.hid hwor; clear hg HQ z3 zl x0 x1 x2 x3 xl hwor; obtain ⟨P, hP⟩ : ∃ P, P = planL c.tm c.wg of_ c.lt (roomP c.wg) := ⟨_, rfl⟩; have HPL : Hid (P = planL c.tm c.wg of_ (c.lt.drop t0.lot) (rmOf t0)) := by show _ = _; rw [hP, HT0.out.2, HRM.out]; rfl
 have HPP := Lib.hid hP; clear hP; have hmk := make_cap tn (by omega) w3
 have z1 := HM3.out.c1.cell 0; have zl := HM3.out.c1.lt; have y9 : w3.cell? ⟨d, 9, none⟩ = some (.slice ta tn tc) := HM3.out.yd.blk.cell 9; have yl := HM3.out.yd.blk.lt; simp at z1; go_wp2; clear z1 zl y9 yl hmk; obtain ⟨W4, hW4⟩ : ∃ W4, W4 = w3.alloc (.cells (intsA (List.replicate tn 0)) 3) := ⟨_, rfl⟩; obtain ⟨g9, hg9⟩ : ∃ g, g = w3.heap.size := ⟨_, rfl⟩; have HM4 : Hid (MoIn W4 B d k b1 b2 b3 b4 fo of_ fa fl fc la ll lc wa wn wc ta tn tc c) := by rw [hW4]; exact HM3.out.keep (GM.alloc ((GM k (onF of_ c)).refl _) _)
 have HB4 : Hid (Below w.heap.size w W4) := by rw [hW4]; exact HB3.out.alloc HB3.out.size _
 have HX4 : Hid (Blk W4 p8 135 (leftC t0)) := by rw [hW4]; exact HX3.out.alloc _
 have HO4 : Hid (W4.ownsRow g9 3 1 (.slice (some ⟨g9, 0, none⟩) 0 tn) 0 ((P.take 0).map (Value.int .i64))) := by
  have hb : Blk W4 g9 3 (intsA (List.replicate tn 0)) := by rw [hW4, hg9]; exact Blk.new w3 3 _
  exact ⟨rfl, .inr ⟨g9, tn, _, rfl, Nat.le_refl _, hb, Nat.zero_le _, by unfold maxLen; omega, by simp [intsA], by simp⟩⟩
 have HG9 : Hid (p8 < g9 ∧ d < g9 ∧ k < g9 ∧ b1 < g9 ∧ b2 < g9 ∧ b3 < g9 ∧ b4 < g9 ∧ w.heap.size ≤ g9 ∧ B ≤ g9) := by
  rw [hg9]; exact ⟨HX3.out.lt, HM3.out.yd.blk.lt, HM3.out.map.lt, HM3.out.c1.lt, HM3.out.c2.lt, HM3.out.c3.lt, HM3.out.c4.lt, HB3.out.size, HM3.out.yd.hB⟩
 rw [← hW4, ← hg9]; clear hW4 hg9
 go_loopw [10, 11] (fun s0 v0 wr => ∃ (t : Left4) (g cp : Nat) (v : Value), t.lot ≤ tn ∧ s0 = .slice (some ⟨g, 0, none⟩) t.lot cp ∧ v0 = v ∧ Hid t.Ok ∧ Hid (wr.ownsRow g9 3 1 (.slice (some ⟨g, 0, none⟩) t.lot cp) t.lot ((P.take t.lot).map (Value.int .i64))) ∧ Hid (P = P.take t.lot ++ planL c.tm c.wg of_ (c.lt.drop t.lot) (rmOf t)) ∧ Hid (MoIn wr B d k b1 b2 b3 b4 fo of_ fa fl fc la ll lc wa wn wc ta tn tc c) ∧ Hid (Blk wr p8 135 (leftC t)) ∧ Hid (Below w.heap.size w wr)) (fun s0 _ _ => tn - (match s0 with | .slice _ n _ => n | _ => 0))
 case atStart =>
  have h0 := HT0.out.2; refine ⟨t0, g9, tn, _, by omega, by rw [h0], rfl, HT0.out.1, ?_, ?_, HM4, HX4, HB4⟩
  ·rw [h0]; exact HO4
  ·show _ = _; rw [h0, List.take_zero, List.nil_append]; have h := HPL.out; rw [h0] at h; exact h
 case round =>
  obtain ⟨t, g, cp, v, hlt, rfl, hv, HT, HOR, HPR, HMR, HXR, HBR⟩ := hrel; obtain rfl := hv.symm; clear hv; have z1 := HMR.out.c1.cell 0; have zl := HMR.out.c1.lt; have y9 : wr.cell? ⟨d, 9, none⟩ = some (.slice ta tn tc) := HMR.out.yd.blk.cell 9; have yl := HMR.out.yd.blk.lt; have x0 : wr.cell? ⟨p8, 0, none⟩ = some (.int .i64 t.lot) := HXR.out.cell 0; have xl := HXR.out.lt; simp at z1; go_upto_region 7 with (fail)
  refine wp_region_havoc [(0,false),(1,false),(2,false),(3,false),(4,false),(5,false),(6,false),(7,false),(8,false)] [] (fun _ _ => False) (by kernel_rfl) (by kernel_rfl) (fun _ _ _ _ h => h.elim) ?_
  (apply hav_same (by exact ho rfl) (by kernel_rfl); (focus (intro wv hgv _; have hcv := cvB hgv; (try go_simp); try rfl; done)); simp only [Act.put, List.setIfInBounds_toArray, List.set_cons_succ, List.set_cons_zero])
  iterate 8 (apply hav_same (by exact ho rfl) (by kernel_rfl); (focus (intro wv hgv _; have hcv := cvB hgv; (try go_simp); try rfl; done)); simp only [Act.put, List.setIfInBounds_toArray, List.set_cons_succ, List.set_cons_zero])
  refine hav_end (fun w5 hgz _ => ?_)
  simp only [List.filterMap]; have hb5 : Below wr.heap.size wr w5 := hgz; have HM5 := Lib.hid (HMR.out.keep (GM.below hb5)); have HX5 := Lib.hid (HXR.out.below hb5 HXR.out.lt); have HO5 : Hid (w5.ownsRow g9 3 1 (.slice (some ⟨g, 0, none⟩) t.lot cp) t.lot ((P.take t.lot).map (Value.int .i64))) := own_below HOR.out hb5; have HB5 : Hid (Below w.heap.size w w5) := HBR.out.trans (hb5.mono HBR.out.size); clear hgz hb5 z1 zl y9 yl x0 xl
  by_cases hl : t.lot < tn
  ·obtain ⟨l, hll⟩ : ∃ l, c.lt[t.lot]? = some l := ⟨c.lt[t.lot]'(by have := HM5.out.yd.etn; omega), by simp⟩
   have HL := Lib.hid hll; have HLB := Lib.hid (lotB_iff.1 ((okC_parts HM5.out.yd.ok).2.2.2.2.2 l (List.mem_of_getElem? hll))); obtain ⟨b, hb⟩ : ∃ b : Nat, l.bales = b := ⟨l.bales.toNat, by have := HLB.out; omega⟩
   have HBL := Lib.hid hb; obtain ⟨⟨m1, m2⟩, hm⟩ : ∃ f, f = onF of_ c t := ⟨_, rfl⟩; have HF : Hid (onF of_ c t = (m1, m2)) := hm.symm
   have HWG : Hid (m2 = -1 ∨ ∃ (i : Nat), i < 3 ∧ (b : Int) ≤ rmOf t i ∧ m2 = i) := by
    rcases onF_wagon (of_ := of_) hll with h | ⟨i, g, h1, h2, h3, h4⟩
    ·rw [← hm] at h; exact .inl h
    ·rw [← hm] at h4; have hle := (brokenW_zero.1 h3).2.1; rw [hb] at hle; exact .inr ⟨i, by have := HGS.out.2; omega, hle, h4⟩
   have HNR : Hid (nextR (rmOf t) l m2 = rmOf (t.room m2 b).next) := by
    have h := nextR_room (of_ := of_) hll hb HGS.out.2; rw [← hm] at h; exact h
   have HPD : Hid (planL c.tm c.wg of_ (c.lt.drop t.lot) (rmOf t) = m2 :: planL c.tm c.wg of_ (c.lt.drop (t.lot + 1)) (rmOf (t.room m2 b).next)) := by
    have h := plan_drop (of_ := of_) hll; rw [← hm] at h; simp only at h; rw [HNR.out] at h; exact h
   have hps := plan_step (P := P) (j := t.lot) (x := m2) (r := planL c.tm c.wg of_ (c.lt.drop (t.lot + 1)) (rmOf (t.room m2 b).next)) (by rw [← HPD.out]; exact HPR.out) (by rw [HPP.out, planL_len, HM5.out.yd.etn]; exact hl)
   have HPS := Lib.hid hps; have hq := HON.out t w5 HT.out (by omega) HM5.out
   rw [HF.out] at hq; unfold leftV leftC wayV wayC at hq; have HQ := Lib.hid hq; clear hq hps hll hm hb; have z3 := HM5.out.c3.cell 0; have zl := HM5.out.c3.lt; have x0 := HX5.out.cell 0; have x1 := HX5.out.cell 1; have x2 := HX5.out.cell 2; have x3 := HX5.out.cell 3; have xl := HX5.out.lt
   simp [leftC] at x0 x1 x2 x3 z3
   have hf2 := field137b; go_wp2_with fail; refine HQ.out.mono ?_; rintro e w6 ⟨rfl, hg⟩; have HM6 := Lib.hid (HM5.out.keep hg); have HX6 := Lib.hid (HX5.out.turn (GM.turn hg) HP8.out.2.1); have HB6 : Hid (Below w.heap.size w w6) := HB5.out.trans (GM.toBelow hg HB5.out.size HKB.out); have hgg : g9 ≤ g := (own_blk HO5.out).choose_spec.2.1
   have HO6 : Hid (w6.ownsRow g9 3 1 (.slice (some ⟨g, 0, none⟩) t.lot cp) t.lot ((P.take t.lot).map (Value.int .i64))) := own_turn HO5.out (GM.turn hg) (fun x hx e => by cases hx; have e' : g = k := e; have := HG9.out; omega)
   clear hg z3 zl x0 x1 x2 x3 xl HQ; obtain ⟨W7, hW7⟩ : ∃ W7, W7 = w6.alloc (.cells #[.int .i64 m2] 3) := ⟨_, rfl⟩; obtain ⟨gy, hgy⟩ : ∃ b, b = w6.heap.size := ⟨_, rfl⟩; have hby : Blk W7 gy 3 #[.int .i64 m2] := by rw [hW7, hgy]; exact Blk.new w6 3 _
   have HM7 : Hid (MoIn W7 B d k b1 b2 b3 b4 fo of_ fa fl fc la ll lc wa wn wc ta tn tc c) := by rw [hW7]; exact HM6.out.keep (GM.alloc ((GM k (onF of_ c)).refl _) _)
   have HX7 : Hid (Blk W7 p8 135 (leftC t)) := by rw [hW7]; exact HX6.out.alloc _
   have HB7 : Hid (Below w.heap.size w W7) := by rw [hW7]; exact HB6.out.alloc HB6.out.size _
   have ho7 : W7.ownsRow g9 3 1 (.slice (some ⟨g, 0, none⟩) t.lot cp) t.lot ((P.take t.lot).map (Value.int .i64)) := by rw [hW7]; exact own_below HO6.out ((Below.refl _ _).alloc (Nat.le_refl _) _)
   have hs7 : g9 ≤ W7.heap.size := Nat.le_trans hgg (Nat.le_of_lt (own_blk ho7).choose_spec.1.lt); obtain ⟨i0, hi, hz0, hz1, hz2⟩ := info_parts Tryz.infoE3; obtain ⟨g2, cp2, w8, hrun, hown, ht8, hgg2⟩ := append_at (P := Tryz.prog) g9 32 32 3 i0 _ 1 8 Tryz.underlying32 hi hz0 hz1 hz2 rfl (by decide) _ t.lot _ ho7 ⟨gy, 0, none⟩ 1 [.int .i64 m2] rfl (news_block hby) (by simp [Value.oneCell']) (by omega) (by omega) hs7
   have HRUN := Lib.hid hrun; rw [hW7, hgy] at HRUN
   have hS : ∀ b, (Value.slice (some ⟨g, 0, none⟩) t.lot cp).ownBlock = some b → b = g := fun b e => by cases e; rfl
   have HM8 : Hid (MoIn w8 B d k b1 b2 b3 b4 fo of_ fa fl fc la ll lc wa wn wc ta tn tc c) := HM7.out.own ht8 (fun b e => by have := hS _ e; have := HG9.out; omega)
   have HX8 : Hid (Blk w8 p8 135 (leftC t)) := HX7.out.turn ht8 (fun e => by have := hS _ e; have := HG9.out; omega)
   have HB8 : Hid (Below w.heap.size w w8) := HB7.out.trans (ht8.below HB7.out.size (fun b e => by have := hS _ e; have := HG9.out; omega))
   have HO8 : Hid (w8.ownsRow g9 3 1 (.slice (some ⟨g2, 0, none⟩) (t.lot + 1) cp2) (t.lot + 1) ((P.take (t.lot + 1)).map (Value.int .i64))) := by
    show World.ownsRow _ _ _ _ _ _ _; rw [HPS.out.1, List.map_append]; exact hown
   have hg2 : g9 ≤ g2 := (own_blk HO8.out).choose_spec.2.1; clear hby ho7 hs7 hi hz0 hz1 hz2 hrun hown ht8 hgg2 hS hW7 hgy; rcases HWG.out with hm2 | ⟨i, hi3, hle, hm2⟩
   ·subst hm2; have x0 := HX8.out.cell 0; have f0 := HX8.out.frozen 0; have xl := HX8.out.lt
    simp [leftC] at x0
    have hwt : IntKind.i64.wrap ((t.lot : Int) + 1) = (t.lot : Int) + 1 := IntWalk.i64_in _ (by omega)
    go_upto_region 12 with (at_builtin; refine wpList_append_run rfl _ _ 32 rfl rfl rfl HRUN.out ?_); go_wp2; obtain ⟨W9, hW9⟩ : ∃ W9, W9 = w8.setCell ⟨p8, 0, none⟩ (.int .i64 ((t.lot : Int) + 1)) := ⟨_, rfl⟩; rw [← hW9]
    have ht9 : Turn (fun x => x = p8) w8 W9 := by rw [hW9]; exact Turn.set _ _ (fun _ => rfl)
    have HK9 : Hid (Blk W9 p8 135 (leftC (t.room (-1) b).next)) := by
     have h := HX8.out.set_ 0 (.int .i64 ((t.lot : Int) + 1)); rw [← hW9] at h; exact h
    have HM9 : Hid (MoIn W9 B d k b1 b2 b3 b4 fo of_ fa fl fc la ll lc wa wn wc ta tn tc c) := HM8.out.own ht9 (fun x e => by have e' : x = p8 := e; have := HP8.out; omega)
    have HB9 : Hid (Below w.heap.size w W9) := HB8.out.trans (ht9.below HB8.out.size (fun x e => by have e' : x = p8 := e; have := HP8.out; omega))
    have HO9 : Hid (W9.ownsRow g9 3 1 (.slice (some ⟨g2, 0, none⟩) (t.lot + 1) cp2) (t.lot + 1) ((P.take (t.lot + 1)).map (Value.int .i64))) := own_turn HO8.out ht9 (fun x hx e => by cases hx; have e' : g2 = p8 := e; have := HG9.out; omega)
    have HOK9 : Hid ((t.room (-1) b).next.Ok) := Left4.next_ok (room_ok HT.out (by omega) _ _) (by rw [room_lot]; omega)
    clear ht9 hW9 x0 f0 xl hwt; go_roundw
    case rel => exact ⟨(t.room (-1) b).next, g2, cp2, _, by show t.lot + 1 ≤ tn; omega, rfl, rfl, HOK9, HO9, HPS.out.2, HM9, HK9, HB9⟩
    case measure => show tn - (t.lot + 1) < tn - t.lot; omega
   ·subst hm2; have hge : (0 : Int) ≤ i := by omega
    obtain ⟨bl, ol, hta, hbl, L0, L1, L2, L3, L4⟩ := rd_lt HM8.out.yd.hlt t.lot l HL.out; subst hta; rw [HBL.out] at L1; have hblw : bl < w8.heap.size := by have := HM8.out.yd.hB; omega
    have z1 := HM8.out.c1.cell 0; have zl := HM8.out.c1.lt; have y9 : w8.cell? ⟨d, 9, none⟩ = some (.slice (some ⟨bl, ol, none⟩) tn tc) := HM8.out.yd.blk.cell 9; have yl := HM8.out.yd.blk.lt; have x0 : w8.cell? ⟨p8, 0, none⟩ = some (.int .i64 t.lot) := HX8.out.cell 0
    have hv0 : (leftC t)[1 + i]? = some (.int .i64 (rmOf t i)) := by
     match i, (show i < 3 by omega) with
     | 0, _ => rfl
     | 1, _ => rfl
     | 2, _ => rfl
    have xn : w8.cell? ⟨p8, 1 + i, none⟩ = some (.int .i64 (rmOf t i)) := (HX8.out.cell (1 + i)).trans hv0; have fn := HX8.out.frozen (1 + i); have xl := HX8.out.lt; have hi3' : (i : Int) < 3 := by omega
    have hlt5 : (t.lot : Int) < tn := by omega
    have hrb := rmOf_bd HT.out i; have hb20 := HLB.out; rw [HBL.out] at hb20; have hws : IntKind.i64.wrap (rmOf t i - (b : Int)) = rmOf t i - (b : Int) := IntWalk.i64_in _ (by omega)
    simp at z1; clear hb20 L0 L2 L3 L4; go_upto_region 11 with (at_builtin; refine wpList_append_run rfl _ _ 32 rfl rfl rfl HRUN.out ?_)
    refine wp_region_havoc [(0,false),(1,false),(2,false),(3,false),(4,false),(5,false),(6,false),(7,false),(8,false),(9,false),(10,false),(11,false),(12,false),(13,false),(14,false),(15,false),(16,false),(17,false),(18,false)] [19] (fun _ _ => False) (by kernel_rfl) (by kernel_rfl) (fun _ _ _ _ h => h.elim) ?_
    (apply hav_same (by exact ho rfl) (by kernel_rfl); (focus (intro wv hgv _; have hcv := cvB hgv; (try go_simp); try rfl; done)); simp only [Act.put, List.setIfInBounds_toArray, List.set_cons_succ, List.set_cons_zero])
    iterate 18 (apply hav_same (by exact ho rfl) (by kernel_rfl); (focus (intro wv hgv _; have hcv := cvB hgv; (try go_simp); try rfl; done)); simp only [Act.put, List.setIfInBounds_toArray, List.set_cons_succ, List.set_cons_zero])
    refine hav_end (fun w9 hgz _ => ?_)
    simp only [List.filterMap]; have hb9 : Below w8.heap.size w8 w9 := hgz; have HM9 := Lib.hid (HM8.out.keep (GM.below hb9)); have HX9 := Lib.hid (HX8.out.below hb9 HX8.out.lt); have HB9 : Hid (Below w.heap.size w w9) := HB8.out.trans (hb9.mono HB8.out.size); have HO9 : Hid (w9.ownsRow g9 3 1 (.slice (some ⟨g2, 0, none⟩) (t.lot + 1) cp2) (t.lot + 1) ((P.take (t.lot + 1)).map (Value.int .i64))) := own_below HO8.out hb9; clear hgz hb9 L1 hblw hbl z1 zl y9 yl x0 xn fn xl; have un : w9.cell? ⟨p8, 1 + i, none⟩ = some (.int .i64 (rmOf t i)) := (HX9.out.cell (1 + i)).trans hv0; have fn := HX9.out.frozen (1 + i); have ul := HX9.out.lt; go_upto_region 12 with (fail); obtain ⟨W9, hW9⟩ : ∃ W9, W9 = w9.setCell ⟨p8, 1 + i, none⟩ (.int .i64 (rmOf t i - (b : Int))) := ⟨_, rfl⟩; rw [← hW9]
    have HXa : Hid (Blk W9 p8 135 (leftC (t.room i b))) := by
     have h := HX9.out.set_ (1 + i) (.int .i64 (rmOf t i - (b : Int))); rw [← hW9, room_cell hi3 hle] at h; exact h
    have ht9 : Turn (fun x => x = p8) w9 W9 := by rw [hW9]; exact Turn.set _ _ (fun _ => rfl)
    have HMa : Hid (MoIn W9 B d k b1 b2 b3 b4 fo of_ fa fl fc la ll lc wa wn wc (some ⟨bl, ol, none⟩) tn tc c) := HM9.out.own ht9 (fun x e => by have e' : x = p8 := e; have := HP8.out; omega)
    have HBa : Hid (Below w.heap.size w W9) := HB9.out.trans (ht9.below HB9.out.size (fun x e => by have e' : x = p8 := e; have := HP8.out; omega))
    have HOa : Hid (W9.ownsRow g9 3 1 (.slice (some ⟨g2, 0, none⟩) (t.lot + 1) cp2) (t.lot + 1) ((P.take (t.lot + 1)).map (Value.int .i64))) := own_turn HO9.out ht9 (fun x hx e => by cases hx; have e' : g2 = p8 := e; have := HG9.out; omega)
    clear ht9 hW9 un fn ul hv0 hws; have x0 : W9.cell? ⟨p8, 0, none⟩ = some (.int .i64 t.lot) := by have h := HXa.out.cell 0; rw [show (leftC (t.room i b))[0]? = some (.int .i64 ((t.room i b).lot : Int)) from rfl, room_lot] at h; exact h
    have f0 := HXa.out.frozen 0; have xl := HXa.out.lt; have hwt : IntKind.i64.wrap ((t.lot : Int) + 1) = (t.lot : Int) + 1 := IntWalk.i64_in _ (by omega)
    go_wp2; obtain ⟨Wb, hWb⟩ : ∃ Wb, Wb = W9.setCell ⟨p8, 0, none⟩ (.int .i64 ((t.lot : Int) + 1)) := ⟨_, rfl⟩
    rw [← hWb]
    have htb : Turn (fun x => x = p8) W9 Wb := by rw [hWb]; exact Turn.set _ _ (fun _ => rfl)
    have HKb : Hid (Blk Wb p8 135 (leftC (t.room i b).next)) := by
     have h := HXa.out.set_ 0 (.int .i64 ((t.lot : Int) + 1)); rw [← hWb] at h; show Blk _ _ _ _; rw [show leftC (t.room i b).next = (leftC (t.room i b)).setIfInBounds 0 (.int .i64 ((t.lot : Int) + 1)) by unfold Left4.next leftC; simp only [room_lot]; rfl]
     exact h
    have HMb : Hid (MoIn Wb B d k b1 b2 b3 b4 fo of_ fa fl fc la ll lc wa wn wc (some ⟨bl, ol, none⟩) tn tc c) := HMa.out.own htb (fun x e => by have e' : x = p8 := e; have := HP8.out; omega)
    have HBb : Hid (Below w.heap.size w Wb) := HBa.out.trans (htb.below HBa.out.size (fun x e => by have e' : x = p8 := e; have := HP8.out; omega))
    have HOb : Hid (Wb.ownsRow g9 3 1 (.slice (some ⟨g2, 0, none⟩) (t.lot + 1) cp2) (t.lot + 1) ((P.take (t.lot + 1)).map (Value.int .i64))) := own_turn HOa.out htb (fun x hx e => by cases hx; have e' : g2 = p8 := e; have := HG9.out; omega)
    have HOKb : Hid ((t.room i b).next.Ok) := Left4.next_ok (room_ok HT.out (by omega) _ _) (by rw [room_lot]; omega)
    have HLT : Hid ((t.room i b).next.lot = t.lot + 1) := by show (t.room i b).lot + 1 = _; rw [room_lot]
    clear htb hWb x0 f0 xl hwt; go_roundw
    case rel => exact ⟨(t.room i b).next, g2, cp2, _, by rw [HLT.out]; omega, by rw [HLT.out], rfl, HOKb, by rw [HLT.out]; exact HOb, by show _ = _; rw [HLT.out]; exact HPS.out.2, HMb, HKb, HBb⟩
    case measure => show tn - (t.lot + 1) < tn - t.lot; omega
  ·have he : t.lot = tn := by omega
   rw [he] at HO5 ⊢
   have HPT : Hid (P.take tn = P ∧ P.length = tn) := by
    have h : P.length = tn := by rw [HPP.out, planL_len, HM5.out.yd.etn]
    exact ⟨List.take_of_length_le (by omega), h⟩
   rw [HPT.out.1] at HO5; have hmk := make_ints tn (by omega) w5
   obtain ⟨W6, hW6⟩ : ∃ W6, W6 = w5.alloc (.cells (intsA (List.replicate tn 0)) 3) := ⟨_, rfl⟩; obtain ⟨g6, hg6⟩ : ∃ g, g = w5.heap.size := ⟨_, rfl⟩; have hO6 : W6.ownsRow g9 3 1 (.slice (some ⟨g, 0, none⟩) tn cp) tn (P.map (Value.int .i64)) := by rw [hW6]; exact own_below HO5.out ((Below.refl _ _).alloc (Nat.le_refl _) _)
   have hb6 : Blk W6 g6 3 (intsA (List.replicate tn 0)) := by rw [hW6, hg6]; exact Blk.new w5 3 _
   obtain ⟨w7, hcp, hb7, hbe⟩ := copy_ints (M := P) HPT.out.2 (by simp) hb6 hO6
   have HB7 : Hid (Below w.heap.size w w7) := by
    have h : Below w.heap.size w W6 := by rw [hW6]; exact HB5.out.alloc HB5.out.size _
    exact h.trans (hbe.mono (by rw [hg6]; exact HB5.out.size))
   have HB7' : Hid (Blk w7 g6 3 (intsA P)) := hb7; have HG6 : Hid (w.heap.size ≤ g6) := by rw [hg6]; exact HB5.out.size
   rw [hW6, hg6] at hcp; clear hO6 hb6 hb7 hbe hW6; have hne : ¬ ((tn : Int) < tn) := by omega
   clear hl hlt he; go_wp2; rw [← hg6]; go_ret2
   exact ⟨g6, by rw [← HWOR.out]; rfl, by rw [← HPP.out]; exact HB7'.out, HG6.out, HB7.out⟩
end
def fitsAny (c : ICart) (l : ILot) : Nat → Bool
 | 0 => false
 | n + 1 => fitsAny c l n || fitsW c.tm c.wg l n (roomP c.wg)
def staysB (c : ICart) (i : Nat) : Bool := match c.lt[i]? with | some l => !fitsAny c l c.wg.length | none => false
def stayP (c : ICart) : Nat := setN (staysB c) c.lt.length
def stayE (c : ICart) : Nat := openE c true
def stayV (c : ICart) : Nat := if stayE c = 0 then stayP c else 0
section
variable {fa la wa ta : Option Addr} {fl fc ll lc wn wc tn tc : Nat} {c : ICart}
variable {w w' : World}
theorem PStay_any (hP : CtIn w w.heap.size fa fl la ll wa wn ta tn c) : Calls Tryz.prog 26 #[(.agg #[.int .i64 c.riv.depth.lo, .int .i64 c.riv.depth.hi, .int .i64 c.riv.fall.lo, .int .i64 c.riv.fall.hi, .int .i64 c.riv.days, .slice fa fl fc, .slice la ll lc, .int .i64 c.draws, .slice wa wn wc, .slice ta tn tc])] w fun e w' => e = .returned (.tuple #[.int .i64 (stayV c : Nat), .int .i64 (stayE c : Nat)]) ∧ Below w.heap.size w w' := by
 obtain ⟨EE, hEE⟩ : ∃ EE : Nat, EE = stayE c := ⟨_, rfl⟩; have HEE := Lib.hid hEE; obtain ⟨SS, hSS⟩ : ∃ SS : Nat, SS = stayV c := ⟨_, rfl⟩
 have HV0 : Hid (EE ≠ 0 → SS = 0) := fun h => by rw [hSS]; unfold stayV; rw [if_neg (by rw [← hEE]; exact h)]
 have HV1 : Hid (EE = 0 → SS = stayP c) := fun h => by show SS = _; rw [hSS]; unfold stayV; rw [if_pos (by rw [← hEE]; exact h)]
 rw [← hEE, ← hSS]; have HP := Lib.hid hP; have EG := Lib.hid (enters_of Tryz.func79 (by kernel_rfl) rfl)
 have EG80 := Lib.hid (enters_of Tryz.func80 (by kernel_rfl) rfl)
 clear hP hEE hSS; refine (callsIn_wide (n := 6)).1 (callsIn_of_wp_marks Tryz.func26 rfl trivial ?_ rfl); simp only [Tryz.ntmps26, List.size_toArray, List.length_cons, List.length_nil, Nat.reduceAdd, Nat.reduceSub, Array.replicate_succ, Array.replicate_zero, List.push_toArray, List.append_toArray, List.nil_append, List.cons_append]; refine wpIn_wide.2 ?_; have hmf := hmf0; go_upto_region 2 with (fail); obtain ⟨W, hW⟩ : ∃ W, W = (w.alloc (.cells #[.int .i64 c.riv.depth.lo, .int .i64 c.riv.depth.hi, .int .i64 c.riv.fall.lo, .int .i64 c.riv.fall.hi, .int .i64 c.riv.days, .slice fa fl fc, .slice la ll lc, .int .i64 c.draws, .slice wa wn wc, .slice ta tn tc] 31)).alloc (.cells #[.int .i64 0] 35) := ⟨_, rfl⟩; obtain ⟨B2, hB2⟩ : ∃ B2, B2 = w.heap.size := ⟨_, rfl⟩; obtain ⟨B5, hB5⟩ : ∃ B5, B5 = w.heap.size + 1 := ⟨_, rfl⟩; have HB0 : Hid (Below w.heap.size w W) := by rw [hW]; exact ((Below.refl _ _).alloc (Nat.le_refl _) _).alloc (by simp) _
 have HXB : Hid (Blk W B2 31 #[.int .i64 c.riv.depth.lo, .int .i64 c.riv.depth.hi, .int .i64 c.riv.fall.lo, .int .i64 c.riv.fall.hi, .int .i64 c.riv.days, .slice fa fl fc, .slice la ll lc, .int .i64 c.draws, .slice wa wn wc, .slice ta tn tc]) := by rw [hW, hB2]; exact (Blk.new w 31 _).alloc _
 have HX5 : Hid (Blk W B5 35 #[.int .i64 0]) := by rw [hW, hB5]; exact Blk.new_ (by simp) 35 _
 have HE : Hid (w.heap.size ≤ B5 ∧ w.heap.size ≤ W.heap.size ∧ B5 < W.heap.size ∧ B2 < W.heap.size) := ⟨by omega, HB0.out.size, HX5.out.lt, HXB.out.lt⟩
 rw [← hW, ← hB5, ← hB2]; clear hW hB2 hB5; obtain ⟨q0, q1, q2, q3, q4, q5, q6, q7, q8, q9, ql⟩ := cx31 HXB.out; go_wp2_with fail
 refine (copen_any (fc := fc) (lc := lc) (wc := wc) (tc := tc) (b := true) 80 #[] EG80.out (by exact fun _ => isQ80 W) (by exact HP.out.grow HB0.out)).mono ?_
 clear q0 q1 q2 q3 q4 q5 q6 q7 q8 q9 ql; rintro e w1 ⟨hb, (⟨h1, rfl⟩ | ⟨h1, d, rfl, hd, hk⟩)⟩
 ·have hE1 : EE = openE c true := HEE.out; rw [← hE1]; rw [← hE1] at h1; have HBP : Hid (Below W.heap.size W w1) := hb; have HS0 := Lib.hid (HV0.out h1); clear hb hE1; go_wp2; obtain ⟨e1, e2, _⟩ := HE.out
  refine api_panicC (ds := []) (B := W.heap.size) isAnsC79 EG.out (Marks.nil _ _) (HX5.out.below HBP.out HX5.out.lt) (fun w2 hk2 hfar hbel => ?_)
  have g0 := hk2.cell 0; simp at g0; refine ⟨.tuple #[.int .i64 (0 : Nat), .int .i64 EE], by simp [results, Tryz.results26, go_sem, g0], by rw [HS0.out], ?_⟩
  exact HB0.out.trans ((HBP.out.mono e2).trans ((hbel w.heap.size e2 e1).mono (Nat.le_refl _)))
 ·obtain ⟨hv, hi, ht⟩ := openE_zero h1; have hE0 : EE = 0 := HEE.out.trans h1; have HSS := Lib.hid (HV1.out hE0); subst hE0; have HB1 : Hid (Below W.heap.size W w1) := hb; have HYD := Lib.hid (YdIn.of_open (w2 := w1) (HP.out.grow HB0.out) hb (Nat.le_refl _) hd hk hv); have hw3 : wn ≤ 3 := by have := HP.out.ewn; have := (okC_parts hv).2.2.1; omega
  have ht5 : tn ≤ 5 := by have := HP.out.etn; have := (okC_parts hv).2.2.2.1; omega
  have HEN : Hid (c.wg.length = wn ∧ c.lt.length = tn) := ⟨HP.out.ewn, HP.out.etn⟩; clear hb hd hk h1 hv hi ht; go_wp2_with fail; refine (rooms_any (fa := fa) (fl := fl) (fc := fc) (la := la) (ll := ll) (lc := lc) (wa := wa) (wc := wc) (ta := ta) (tn := tn) (tc := tc) HYD.out).mono ?_; rintro e w2 ⟨rfl, hb⟩; have HB2 : Hid (Below W.heap.size W w2) := HB1.out.trans (hb.mono HB1.out.size); have HYD2 := Lib.hid (HYD.out.grow hb); obtain ⟨W3, hW3⟩ : ∃ W3, W3 = w2.alloc (.cells (roomsC (roomP c.wg)) 106) := ⟨_, rfl⟩; obtain ⟨b6, hb6⟩ : ∃ b, b = w2.heap.size := ⟨_, rfl⟩; have hB3 : Below w2.heap.size w2 W3 := by rw [hW3]; exact (Below.refl _ _).alloc (Nat.le_refl _) _
  have HB3 : Hid (Below W.heap.size W W3) := HB2.out.trans (hB3.mono HB2.out.size); have HX6 : Hid (Blk W3 b6 106 (roomsC (roomP c.wg))) := by rw [hW3, hb6]; exact Blk.new w2 106 _
  have HYD3 := Lib.hid (HYD2.out.grow hB3); have HXB3 := Lib.hid (HXB.out.below HB3.out HXB.out.lt); dsimp only [roomsC] at hW3 ⊢; clear hb hB3; go_upto_region 4 with (fail); rw [← hb6, ← hW3]; clear hW3 hb6; obtain ⟨q0, q1, q2, q3, q4, q5, q6, q7, q8, q9, ql⟩ := cx31 HXB3.out; go_wp2; clear q0 q1 q2 q3 q4 q5 q6 q7 q8 q9 ql; obtain ⟨f, hf⟩ : ∃ f, f = staysB c := ⟨_, rfl⟩; have HFS : Hid (stayP c = setN f tn) := by show _ = _; unfold stayP; rw [hf, HEN.out.2]
  have HFV : Hid (∀ i l, c.lt[i]? = some l → f i = !fitsAny c l wn) := fun i l h => by rw [hf]; unfold staysB; rw [h, HEN.out.1]
  clear hf
  go_loopw [5, 19] (fun a i wr => ∃ n : Nat, n ≤ tn ∧ i = .int .i64 n ∧ a = .int .i64 (setN f n : Nat) ∧ Hid (Below W3.heap.size W3 wr)) (fun _ i _ => tn - (intOf i).toNat)
  case atStart => exact ⟨0, by omega, rfl, rfl, Below.refl _ _⟩
  case round =>
   obtain ⟨n, hn, rfl, rfl, HBR⟩ := hrel
   by_cases hlt : n < tn
   ·obtain ⟨l, hl⟩ : ∃ x, c.lt[n]? = some x := ⟨c.lt[n]'(by have := HEN.out; omega), by simp⟩
    have HYR := Lib.hid (HYD3.out.grow HBR.out); have HFN := Lib.hid (HFV.out n l hl); obtain ⟨bl, ol, rfl, hbl, L0, L1, L2, L3, L4⟩ := rd_lt HYR.out.hlt n l hl; have hblw : bl < wr.heap.size := by have := HYR.out.hB; omega
    obtain ⟨l0, l1, l2, l3, l4⟩ := l; simp only at L0 L1 L2 L3 L4 HFN; obtain ⟨W4, hW4⟩ : ∃ W4, W4 = wr.alloc (.cells #[.int .i64 l0, .int .i64 l1, .int .i64 l2, .int .i64 l3, .int .i64 l4] 68) := ⟨_, rfl⟩; obtain ⟨b8, hb8⟩ : ∃ b, b = wr.heap.size := ⟨_, rfl⟩; have HX8 : Hid (Blk W4 b8 68 #[.int .i64 l0, .int .i64 l1, .int .i64 l2, .int .i64 l3, .int .i64 l4]) := by rw [hW4, hb8]; exact Blk.new wr 68 _
    have HB4 : Hid (Below W3.heap.size W3 W4) := by rw [hW4]; exact HBR.out.alloc HBR.out.size _
    have HYR4 := Lib.hid (HYD3.out.grow HB4.out); have HX64 := Lib.hid (HX6.out.below HB4.out HX6.out.lt); have HXB4 := Lib.hid (HXB3.out.below HB4.out HXB3.out.lt); clear hl hbl; go_upto_region 7 with (fail); rw [← hW4, ← hb8]; clear hW4 hb8 L0 L1 L2 L3 L4 hblw; obtain ⟨q0, q1, q2, q3, q4, q5, q6, q7, q8, q9, ql⟩ := cx31 HXB4.out; go_wp2; clear q0 q1 q2 q3 q4 q5 q6 q7 q8 q9 ql
    go_loopw [9, 27] (fun a i wr => ∃ m : Nat, m ≤ wn ∧ i = .int .i64 m ∧ a = .bool (fitsAny c ⟨l0, l1, l2, l3, l4⟩ m) ∧ Hid (Below W4.heap.size W4 wr)) (fun _ i _ => wn - (intOf i).toNat)
    case atStart => exact ⟨0, by omega, rfl, rfl, Below.refl _ _⟩
    case round =>
     obtain ⟨m, hm, rfl, rfl, HBM⟩ := hrel; have HBMW : Hid (Below W3.heap.size W3 wr) := HB4.out.trans (HBM.out.mono HB4.out.size)
     by_cases hmt : m < wn
     ·obtain ⟨wg, hw⟩ : ∃ x, c.wg[m]? = some x := ⟨c.wg[m]'(by have := HEN.out; omega), by simp⟩
      have HYM := Lib.hid (HYR4.out.grow HBM.out); have HM8 := Lib.hid (HX8.out.below HBM.out HX8.out.lt); have HM6 := Lib.hid (HX64.out.below HBM.out HX64.out.lt); have x0 := HM8.out.cell 0; have x1 := HM8.out.cell 1; have x2 := HM8.out.cell 2; have x3 := HM8.out.cell 3; have x4 := HM8.out.cell 4; have xl := HM8.out.lt; simp at x0 x1 x2 x3 x4
      have hv0 : (roomsC (roomP c.wg))[m]? = some (.int .i64 (roomP c.wg m)) := by
       unfold roomsC
       match m, (show m < 3 by omega) with
       | 0, _ => rfl
       | 1, _ => rfl
       | 2, _ => rfl
      have cj : wr.cell? ⟨b6, m, none⟩ = some (.int .i64 (roomP c.wg m)) := (HM6.out.cell m).trans hv0; have l6 := HM6.out.lt; have hm3i : (m : Int) < 3 := by omega
      obtain ⟨br, hbr⟩ : ∃ br, br = brokenW (c.tm wg) ⟨l0, l1, l2, l3, l4⟩ wg (roomP c.wg m) := ⟨_, rfl⟩; have HFA : Hid (fitsAny c ⟨l0, l1, l2, l3, l4⟩ (m + 1) = (fitsAny c ⟨l0, l1, l2, l3, l4⟩ m || (br == 0))) := by show _ = _; rw [fitsAny, fitsW_some _ _ hw, hbr]
      have HBRV := Lib.hid hbr; have HW := Lib.hid hw; obtain ⟨A, hA⟩ : ∃ A, A = fitsAny c ⟨l0, l1, l2, l3, l4⟩ m := ⟨_, rfl⟩; rw [← hA] at HFA ⊢; clear hv0 hbr hw hA; cases A
      ·go_upto_region 11 with (fail)
       refine wp_region_havoc [(0,false),(1,false),(2,false),(3,false),(4,false),(5,false),(6,false),(7,false),(8,false),(9,false),(10,false),(11,false),(12,false),(13,false)] [] (fun _ _ => False) (by kernel_rfl) (by kernel_rfl) (fun _ _ _ _ h => h.elim) ?_
       (apply hav_same (by exact ho rfl) (by kernel_rfl); (focus (intro wv hgv _; have hcv := cvB hgv; (try go_simp); try rfl; done)); simp only [Act.put, List.setIfInBounds_toArray, List.set_cons_succ, List.set_cons_zero])
       iterate 9 (apply hav_same (by exact ho rfl) (by kernel_rfl); (focus (intro wv hgv _; have hcv := cvB hgv; (try go_simp); try rfl; done)); simp only [Act.put, List.setIfInBounds_toArray, List.set_cons_succ, List.set_cons_zero])
       (apply hav_call (by exact ho rfl) (by kernel_rfl); (focus (intro wv; go_simp; try exact ⟨rfl, rfl⟩; done)); (focus (intro wv hgv _; refine (broken_any (fa := fa) (fl := fl) (fc := fc) (la := la) (ll := ll) (lc := lc) (wa := wa) (wn := wn) (wc := wc) (tn := tn) (tc := tc) ⟨l0, l1, l2, l3, l4⟩ m (roomP c.wg m) wg HW.out (HYM.out.grow hgv)).mono ?_; rintro e w' ⟨rfl, hb⟩; exact ⟨rfl, hb⟩; done)); simp only [Act.put, List.setIfInBounds_toArray, List.set_cons_succ, List.set_cons_zero])
       rw [← HBRV.out]; iterate 3 (apply hav_same (by exact ho rfl) (by kernel_rfl); (focus (intro wv hgv _; have hcv := cvB hgv; (try go_simp); try rfl; done)); simp only [Act.put, List.setIfInBounds_toArray, List.set_cons_succ, List.set_cons_zero])
       refine hav_end (fun wz hgz _ => ?_)
       simp only [List.filterMap]; have HBZ : Hid (Below W4.heap.size W4 wz) := HBM.out.trans (Below.mono hgz HBM.out.size); clear hgz x0 x1 x2 x3 x4 xl cj l6; have HFB : Hid ((((br : Int) == 0) : Bool) = fitsAny c ⟨l0, l1, l2, l3, l4⟩ (m + 1)) := by show _ = _; rw [HFA.out, Bool.false_or]; exact Bool.eq_iff_iff.2 (by simp)
       go_wp2; go_roundw
       case rel => exact ⟨m + 1, by omega, by go_num, by rw [← HFB.out], HBZ⟩
       case measure => simp [intOf]; omega
      ·go_upto_region 11 with (fail)
       refine wp_region_havoc [(0,false),(1,false),(2,false),(3,false),(4,false),(5,false),(6,false),(7,false),(8,false),(9,false),(10,false),(11,false),(12,false),(13,false)] [] (fun _ _ => False) (by kernel_rfl) (by kernel_rfl) (fun _ _ _ _ h => h.elim) ?_
       iterate 2 (apply hav_same (by exact ho rfl) (by kernel_rfl); (focus (intro wv hgv _; have hcv := cvB hgv; (try go_simp); try rfl; done)); simp only [Act.put, List.setIfInBounds_toArray, List.set_cons_succ, List.set_cons_zero])
       iterate 10 (refine hav_skip (by exact ho rfl) (by kernel_rfl) ?_; simp only [Act.put, List.setIfInBounds_toArray, List.set_cons_succ, List.set_cons_zero])
       iterate 2 (apply hav_same (by exact ho rfl) (by kernel_rfl); (focus (intro wv hgv _; have hcv := cvB hgv; (try go_simp); try rfl; done)); simp only [Act.put, List.setIfInBounds_toArray, List.set_cons_succ, List.set_cons_zero])
       refine hav_end (fun wz hgz _ => ?_)
       simp only [List.filterMap]; have HBZ : Hid (Below W4.heap.size W4 wz) := HBM.out.trans (Below.mono hgz HBM.out.size); clear hgz x0 x1 x2 x3 x4 xl cj l6; go_wp2; go_roundw
       case rel => exact ⟨m + 1, by omega, by go_num, by rw [HFA.out]; rfl, HBZ⟩
       case measure => simp [intOf]; omega
     ·obtain rfl : wn = m := by omega
      obtain ⟨A, hA⟩ : ∃ A, A = fitsAny c ⟨l0, l1, l2, l3, l4⟩ wn := ⟨_, rfl⟩; rw [← hA] at HFN ⊢; clear hA; have hA := setN_lt f n; have h2k : 2 ^ n ≤ 1024 := Nat.pow_le_pow_right (n := 2) (by omega) (show n ≤ 10 by omega)
      have h2p : 1 ≤ 2 ^ n := Nat.two_pow_pos n; have hw2 : IntKind.i64.wrap (2 ^ n) = 2 ^ n := IntWalk.i64_in _ (by have := pow_cast n; omega)
      cases A
      ·have ha : bits BinOp.or IntKind.i64 ((setN f n : Nat) : Int) (2 ^ n) = ((setN f (n + 1) : Nat) : Int) := by
        have h2 := or_i64 (setN f n) (2 ^ n) (by omega) (by omega)
        rw [pow_cast, setN_or (by rw [HFN.out]; rfl)] at h2
        exact h2
       clear hA; go_wp2; go_roundw
       case rel => exact ⟨n + 1, by omega, by go_num, rfl, HBMW⟩
       case measure => simp [intOf]; omega
      ·have ha : setN f n = setN f (n + 1) := (setN_no (by rw [HFN.out]; rfl)).symm
       clear hA; go_wp2; go_roundw
       case rel => exact ⟨n + 1, by omega, by go_num, by rw [← ha], HBMW⟩
       case measure => simp [intOf]; omega
   ·obtain rfl : tn = n := by omega
    rw [← HFS.out, ← HSS.out]; have HBZ : Hid (Below W.heap.size W wr) := HB3.out.trans (HBR.out.mono HB3.out.size); have HV5 := Lib.hid (HX5.out.below HBZ.out HX5.out.lt); have c50 := HV5.out.cell 0; have f50 := HV5.out.frozen 0; have l5' := HV5.out.lt; simp at c50; obtain ⟨e1, e2, _⟩ := HE.out; go_wp2; obtain ⟨W9, hW9⟩ : ∃ W9, W9 = wr.setCell ⟨B5, 0, none⟩ (.int .i64 0) := ⟨_, rfl⟩; rw [← hW9]; have HT5 : Blk W9 B5 35 #[.int .i64 0] := by rw [hW9]; exact HV5.out.set_ 0 _
    have hB9 : Below w.heap.size w W9 := by rw [hW9]; exact (HB0.out.trans (HBZ.out.mono e2)).setCell (p := ⟨B5, 0, none⟩) e1 _
    refine api_retC (ds := []) (B := W.heap.size) isAnsC79 EG.out (Marks.nil _ _) (fun w4 hk hbel => ?_)
    have g0 := (hk _ _ _ HT5).cell 0; simp at g0; refine ⟨.tuple #[.int .i64 SS, .int .i64 0], by simp [results, Tryz.results26, go_sem, g0], rfl, ?_⟩
    exact hB9.trans (hbel w.heap.size e2)
end
def PlanR (of_ : ILot → IWag → Int) (c : ICart) (tn : Nat) (w : World) (e : Ending) (w' : World) : Prop :=
 Below w.heap.size w w' ∧ ((stayE c ≠ 0 ∧ e = .returned (.tuple #[.int .i64 0, .slice none 0 0, .int .i64 (stayE c : Nat)])) ∨
  (stayE c = 0 ∧ ∃ g, e = .returned (.tuple #[.int .i64 (onP c.tm c.wg of_ c.lt (roomP c.wg)).1, .slice (some ⟨g, 0, none⟩) tn tn, .int .i64 0]) ∧ w.heap.size ≤ g ∧ Blk w' g 3 (intsA (planL c.tm c.wg of_ c.lt (roomP c.wg)))))
theorem most_bd {c : ICart} (hok : okC c = true) : ∀ l ∈ c.lt, ∀ g ∈ c.wg, 0 ≤ ofMost l g ∧ ofMost l g ≤ 1000 := fun l hl g _ => by
 have := lotB_iff.1 ((okC_parts hok).2.2.2.2.2 l hl); unfold ofMost
 omega
theorem brings_bd {l : ILot} (h : lotB l = true) (day : Int) : 0 ≤ bringsP l day ∧ bringsP l day ≤ 1000 := by
 obtain ⟨h0, h1, h2, h3, h4, h5, h6, h7, h8, h9⟩ := lotB_iff.1 h; unfold bringsP
 split
 ·exact ⟨Int.mul_nonneg (by omega) h4, Int.le_trans (Int.mul_le_mul (show l.bales ≤ 20 by omega) (show l.price ≤ 50 by omega) h4 (by omega)) (by omega)⟩
 ·exact ⟨Int.mul_nonneg (by omega) h8, Int.le_trans (Int.mul_le_mul (show l.bales ≤ 20 by omega) (show l.less ≤ 50 by omega) h8 (by omega)) (by omega)⟩
theorem best_bd {c : ICart} (hok : okC c = true) : ∀ l ∈ c.lt, ∀ g ∈ c.wg, 0 ≤ ofBest l g ∧ ofBest l g ≤ 1000 := fun l hl _ _ => brings_bd ((okC_parts hok).2.2.2.2.2 l hl) _
section
variable {fa la wa ta : Option Addr} {fl fc ll lc wn wc tn tc : Nat} {c : ICart}
variable {w w' : World}
theorem PMost_any (hP : CtIn w w.heap.size fa fl la ll wa wn ta tn c) : Calls Tryz.prog 22 #[(.agg #[.int .i64 c.riv.depth.lo, .int .i64 c.riv.depth.hi, .int .i64 c.riv.fall.lo, .int .i64 c.riv.fall.hi, .int .i64 c.riv.days, .slice fa fl fc, .slice la ll lc, .int .i64 c.draws, .slice wa wn wc, .slice ta tn tc])] w (PlanR ofMost c tn w) := by
 obtain ⟨EE, hEE⟩ : ∃ EE : Nat, EE = stayE c := ⟨_, rfl⟩; have HEE := Lib.hid hEE; have HP := Lib.hid hP; have EG := Lib.hid (enters_of Tryz.func70 (by kernel_rfl) rfl)
 have EG80 := Lib.hid (enters_of Tryz.func71 (by kernel_rfl) rfl)
 clear hP hEE; refine (callsIn_wide (n := 6)).1 (callsIn_of_wp_marks Tryz.func22 rfl trivial ?_ rfl); simp only [Tryz.ntmps22, List.size_toArray, List.length_cons, List.length_nil, Nat.reduceAdd, Nat.reduceSub, Array.replicate_succ, Array.replicate_zero, List.push_toArray, List.append_toArray, List.nil_append, List.cons_append]; refine wpIn_wide.2 ?_; have hmf := hmf0; go_upto_region 2 with (fail); obtain ⟨W, hW⟩ : ∃ W, W = (w.alloc (.cells #[.int .i64 c.riv.depth.lo, .int .i64 c.riv.depth.hi, .int .i64 c.riv.fall.lo, .int .i64 c.riv.fall.hi, .int .i64 c.riv.days, .slice fa fl fc, .slice la ll lc, .int .i64 c.draws, .slice wa wn wc, .slice ta tn tc] 31)).alloc (.cells #[.int .i64 0] 35) := ⟨_, rfl⟩; obtain ⟨B2, hB2⟩ : ∃ B2, B2 = w.heap.size := ⟨_, rfl⟩; obtain ⟨B5, hB5⟩ : ∃ B5, B5 = w.heap.size + 1 := ⟨_, rfl⟩; have HB0 : Hid (Below w.heap.size w W) := by rw [hW]; exact ((Below.refl _ _).alloc (Nat.le_refl _) _).alloc (by simp) _
 have HXB : Hid (Blk W B2 31 #[.int .i64 c.riv.depth.lo, .int .i64 c.riv.depth.hi, .int .i64 c.riv.fall.lo, .int .i64 c.riv.fall.hi, .int .i64 c.riv.days, .slice fa fl fc, .slice la ll lc, .int .i64 c.draws, .slice wa wn wc, .slice ta tn tc]) := by rw [hW, hB2]; exact (Blk.new w 31 _).alloc _
 have HX5 : Hid (Blk W B5 35 #[.int .i64 0]) := by rw [hW, hB5]; exact Blk.new_ (by simp) 35 _
 have HE : Hid (w.heap.size ≤ B5 ∧ w.heap.size ≤ W.heap.size ∧ B5 < W.heap.size ∧ B2 < W.heap.size) := ⟨by omega, HB0.out.size, HX5.out.lt, HXB.out.lt⟩
 rw [← hW, ← hB5, ← hB2]; clear hW hB2 hB5; obtain ⟨q0, q1, q2, q3, q4, q5, q6, q7, q8, q9, ql⟩ := cx31 HXB.out; go_wp2_with fail
 refine (copen_any (fc := fc) (lc := lc) (wc := wc) (tc := tc) (b := true) 71 #[] EG80.out (by exact fun _ => isQ71 W) (by exact HP.out.grow HB0.out)).mono ?_
 clear q0 q1 q2 q3 q4 q5 q6 q7 q8 q9 ql; rintro e w1 ⟨hb, (⟨h1, rfl⟩ | ⟨h1, d, rfl, hd, hk⟩)⟩
 ·have hE1 : EE = openE c true := HEE.out; rw [← hE1]; rw [← hE1] at h1; have HBP : Hid (Below W.heap.size W w1) := hb; have H1 := Lib.hid h1; clear hb hE1 h1; go_wp2; obtain ⟨e1, e2, _⟩ := HE.out
  refine api_panicC (ds := []) (B := W.heap.size) isAnsC70 EG.out (Marks.nil _ _) (HX5.out.below HBP.out HX5.out.lt) (fun w2 hk2 hfar hbel => ?_)
  have g0 := hk2.cell 0; simp at g0; refine ⟨.tuple #[.int .i64 0, .slice none 0 0, .int .i64 EE], by simp [results, Tryz.results22, go_sem, g0], ?_⟩
  exact ⟨HB0.out.trans ((HBP.out.mono e2).trans ((hbel w.heap.size e2 e1).mono (Nat.le_refl _))), .inl ⟨by rw [← HEE.out]; exact H1.out, by rw [← HEE.out]⟩⟩
 ·obtain ⟨hv, hi, ht⟩ := openE_zero h1; have HB1 : Hid (Below W.heap.size W w1) := hb; have HYD := Lib.hid (YdIn.of_open (w2 := w1) (HP.out.grow HB0.out) hb (Nat.le_refl _) hd hk hv); have HV := Lib.hid hv; have H1 := Lib.hid h1; clear hb hd hk h1 hv hi ht; go_wp2_with fail; refine (most_any (fa := fa) (fl := fl) (fc := fc) (la := la) (ll := ll) (lc := lc) (wa := wa) (wn := wn) (wc := wc) (ta := ta) (tn := tn) (tc := tc) (fo := 73) (of_ := ofMost) isOf73 (most_bd HV.out) w1 HYD.out).mono ?_; rintro e w2 ⟨g, rfl, hbp, hg, hb⟩; have HB2 : Hid (Below W.heap.size W w2) := HB1.out.trans (hb.mono HB1.out.size); have HBP : Hid (Blk w2 g 3 (intsA (planL c.tm c.wg ofMost c.lt (roomP c.wg)))) := hbp; have HG : Hid (W.heap.size ≤ g) := Nat.le_trans HB1.out.size hg; have HV5 := Lib.hid (HX5.out.below HB2.out HX5.out.lt); have c50 := HV5.out.cell 0; have f50 := HV5.out.frozen 0; have l5' := HV5.out.lt; simp at c50; obtain ⟨wor, hwor⟩ : ∃ wor, wor = (onP c.tm c.wg ofMost c.lt (roomP c.wg)).1 := ⟨_, rfl⟩; rw [← hwor]; have HWOR := Lib.hid hwor; clear hb hbp hg hwor; obtain ⟨e1, e2, e3, _⟩ := HE.out; go_wp2; obtain ⟨W9, hW9⟩ : ∃ W9, W9 = w2.setCell ⟨B5, 0, none⟩ (.int .i64 0) := ⟨_, rfl⟩; rw [← hW9]; have HT5 : Blk W9 B5 35 #[.int .i64 0] := by rw [hW9]; exact HV5.out.set_ 0 _
  have HP9 : Blk W9 g 3 (intsA (planL c.tm c.wg ofMost c.lt (roomP c.wg))) := by rw [hW9]; exact HBP.out.far (p := ⟨B5, 0, none⟩) (by have := HG.out; show g ≠ B5; omega) _
  have hB9 : Below w.heap.size w W9 := by rw [hW9]; exact (HB0.out.trans (HB2.out.mono e2)).setCell (p := ⟨B5, 0, none⟩) e1 _
  refine api_retC (ds := []) (B := W.heap.size) isAnsC70 EG.out (Marks.nil _ _) (fun w4 hk hbel => ?_)
  have g0 := (hk _ _ _ HT5).cell 0; simp at g0; refine ⟨.tuple #[.int .i64 wor, .slice (some ⟨g, 0, none⟩) tn tn, .int .i64 0], by simp [results, Tryz.results22, go_sem, g0], ?_⟩
  exact ⟨hB9.trans (hbel w.heap.size e2), .inr ⟨H1.out, g, by rw [← HWOR.out], Nat.le_trans e2 HG.out, hk _ _ _ HP9⟩⟩
theorem PBest_any (hP : CtIn w w.heap.size fa fl la ll wa wn ta tn c) : Calls Tryz.prog 24 #[(.agg #[.int .i64 c.riv.depth.lo, .int .i64 c.riv.depth.hi, .int .i64 c.riv.fall.lo, .int .i64 c.riv.fall.hi, .int .i64 c.riv.days, .slice fa fl fc, .slice la ll lc, .int .i64 c.draws, .slice wa wn wc, .slice ta tn tc])] w (PlanR ofBest c tn w) := by
 obtain ⟨EE, hEE⟩ : ∃ EE : Nat, EE = stayE c := ⟨_, rfl⟩; have HEE := Lib.hid hEE; have HP := Lib.hid hP; have EG := Lib.hid (enters_of Tryz.func76 (by kernel_rfl) rfl)
 have EG80 := Lib.hid (enters_of Tryz.func77 (by kernel_rfl) rfl)
 clear hP hEE; refine (callsIn_wide (n := 6)).1 (callsIn_of_wp_marks Tryz.func24 rfl trivial ?_ rfl); simp only [Tryz.ntmps24, List.size_toArray, List.length_cons, List.length_nil, Nat.reduceAdd, Nat.reduceSub, Array.replicate_succ, Array.replicate_zero, List.push_toArray, List.append_toArray, List.nil_append, List.cons_append]; refine wpIn_wide.2 ?_; have hmf := hmf0; go_upto_region 2 with (fail); obtain ⟨W, hW⟩ : ∃ W, W = (w.alloc (.cells #[.int .i64 c.riv.depth.lo, .int .i64 c.riv.depth.hi, .int .i64 c.riv.fall.lo, .int .i64 c.riv.fall.hi, .int .i64 c.riv.days, .slice fa fl fc, .slice la ll lc, .int .i64 c.draws, .slice wa wn wc, .slice ta tn tc] 31)).alloc (.cells #[.int .i64 0] 35) := ⟨_, rfl⟩; obtain ⟨B2, hB2⟩ : ∃ B2, B2 = w.heap.size := ⟨_, rfl⟩; obtain ⟨B5, hB5⟩ : ∃ B5, B5 = w.heap.size + 1 := ⟨_, rfl⟩; have HB0 : Hid (Below w.heap.size w W) := by rw [hW]; exact ((Below.refl _ _).alloc (Nat.le_refl _) _).alloc (by simp) _
 have HXB : Hid (Blk W B2 31 #[.int .i64 c.riv.depth.lo, .int .i64 c.riv.depth.hi, .int .i64 c.riv.fall.lo, .int .i64 c.riv.fall.hi, .int .i64 c.riv.days, .slice fa fl fc, .slice la ll lc, .int .i64 c.draws, .slice wa wn wc, .slice ta tn tc]) := by rw [hW, hB2]; exact (Blk.new w 31 _).alloc _
 have HX5 : Hid (Blk W B5 35 #[.int .i64 0]) := by rw [hW, hB5]; exact Blk.new_ (by simp) 35 _
 have HE : Hid (w.heap.size ≤ B5 ∧ w.heap.size ≤ W.heap.size ∧ B5 < W.heap.size ∧ B2 < W.heap.size) := ⟨by omega, HB0.out.size, HX5.out.lt, HXB.out.lt⟩
 rw [← hW, ← hB5, ← hB2]; clear hW hB2 hB5; obtain ⟨q0, q1, q2, q3, q4, q5, q6, q7, q8, q9, ql⟩ := cx31 HXB.out; go_wp2_with fail
 refine (copen_any (fc := fc) (lc := lc) (wc := wc) (tc := tc) (b := true) 77 #[] EG80.out (by exact fun _ => isQ77 W) (by exact HP.out.grow HB0.out)).mono ?_
 clear q0 q1 q2 q3 q4 q5 q6 q7 q8 q9 ql; rintro e w1 ⟨hb, (⟨h1, rfl⟩ | ⟨h1, d, rfl, hd, hk⟩)⟩
 ·have hE1 : EE = openE c true := HEE.out; rw [← hE1]; rw [← hE1] at h1; have HBP : Hid (Below W.heap.size W w1) := hb; have H1 := Lib.hid h1; clear hb hE1 h1; go_wp2; obtain ⟨e1, e2, _⟩ := HE.out
  refine api_panicC (ds := []) (B := W.heap.size) isAnsC76 EG.out (Marks.nil _ _) (HX5.out.below HBP.out HX5.out.lt) (fun w2 hk2 hfar hbel => ?_)
  have g0 := hk2.cell 0; simp at g0; refine ⟨.tuple #[.int .i64 0, .slice none 0 0, .int .i64 EE], by simp [results, Tryz.results24, go_sem, g0], ?_⟩
  exact ⟨HB0.out.trans ((HBP.out.mono e2).trans ((hbel w.heap.size e2 e1).mono (Nat.le_refl _))), .inl ⟨by rw [← HEE.out]; exact H1.out, by rw [← HEE.out]⟩⟩
 ·obtain ⟨hv, hi, ht⟩ := openE_zero h1; have HB1 : Hid (Below W.heap.size W w1) := hb; have HYD := Lib.hid (YdIn.of_open (w2 := w1) (HP.out.grow HB0.out) hb (Nat.le_refl _) hd hk hv); have HV := Lib.hid hv; have H1 := Lib.hid h1; clear hb hd hk h1 hv hi ht; go_wp2_with fail; refine (most_any (fa := fa) (fl := fl) (fc := fc) (la := la) (ll := ll) (lc := lc) (wa := wa) (wn := wn) (wc := wc) (ta := ta) (tn := tn) (tc := tc) (fo := 78) (of_ := ofBest) isOf78 (best_bd HV.out) w1 HYD.out).mono ?_; rintro e w2 ⟨g, rfl, hbp, hg, hb⟩; have HB2 : Hid (Below W.heap.size W w2) := HB1.out.trans (hb.mono HB1.out.size); have HBP : Hid (Blk w2 g 3 (intsA (planL c.tm c.wg ofBest c.lt (roomP c.wg)))) := hbp; have HG : Hid (W.heap.size ≤ g) := Nat.le_trans HB1.out.size hg; have HV5 := Lib.hid (HX5.out.below HB2.out HX5.out.lt); have c50 := HV5.out.cell 0; have f50 := HV5.out.frozen 0; have l5' := HV5.out.lt; simp at c50; obtain ⟨wor, hwor⟩ : ∃ wor, wor = (onP c.tm c.wg ofBest c.lt (roomP c.wg)).1 := ⟨_, rfl⟩; rw [← hwor]; have HWOR := Lib.hid hwor; clear hb hbp hg hwor; obtain ⟨e1, e2, e3, _⟩ := HE.out; go_wp2; obtain ⟨W9, hW9⟩ : ∃ W9, W9 = w2.setCell ⟨B5, 0, none⟩ (.int .i64 0) := ⟨_, rfl⟩; rw [← hW9]; have HT5 : Blk W9 B5 35 #[.int .i64 0] := by rw [hW9]; exact HV5.out.set_ 0 _
  have HP9 : Blk W9 g 3 (intsA (planL c.tm c.wg ofBest c.lt (roomP c.wg))) := by rw [hW9]; exact HBP.out.far (p := ⟨B5, 0, none⟩) (by have := HG.out; show g ≠ B5; omega) _
  have hB9 : Below w.heap.size w W9 := by rw [hW9]; exact (HB0.out.trans (HB2.out.mono e2)).setCell (p := ⟨B5, 0, none⟩) e1 _
  refine api_retC (ds := []) (B := W.heap.size) isAnsC76 EG.out (Marks.nil _ _) (fun w4 hk hbel => ?_)
  have g0 := (hk _ _ _ HT5).cell 0; simp at g0; refine ⟨.tuple #[.int .i64 wor, .slice (some ⟨g, 0, none⟩) tn tn, .int .i64 0], by simp [results, Tryz.results24, go_sem, g0], ?_⟩
  exact ⟨hB9.trans (hbel w.heap.size e2), .inr ⟨H1.out, g, by rw [← HWOR.out], Nat.le_trans e2 HG.out, hk _ _ _ HP9⟩⟩
end
end Go.Proofs.YtgmfhngcehkibaaGreat
