/- The best of some ways. What is left, as a key; what the best of it is worth; what the search keeps. What a lot is worth on a wagon, to the search; what the search reads and keeps. The reference of the carts: Sends, Plan, Ints, Arrives, InTime, Check, Worth. Condition: what the statements say. -/
import Derived.Test.YtgmfhngcehkibaaGreatPkB18
set_option maxRecDepth 100000
set_option maxHeartbeats 6400000
namespace Go.Proofs.YtgmfhngcehkibaaGreat
open Go.RowKit Go.Hav
attribute [local go_sem] Oper.semAt_some
theorem better_any (x y : Int × Int) (w : World) : Calls Tryz.prog 104 #[wayV x, wayV y] w fun e w' => e = .returned (.bool (decide (x.1 > y.1))) ∧ Below w.heap.size w w' := by
 obtain ⟨x1, x2⟩ := x; obtain ⟨y1, y2⟩ := y; obtain ⟨W, hW⟩ : ∃ W, W = (w.alloc (.cells #[.int .i64 x1, .int .i64 x2] 137)).alloc (.cells #[.int .i64 y1, .int .i64 y2] 137) := ⟨_, rfl⟩; have HB : Hid (Below w.heap.size w W) := by rw [hW]; exact ((Below.refl _ _).alloc (Nat.le_refl _) _).alloc (by simp) _
 unfold wayV wayC
 go_enter Tryz.func104, Tryz.ntmps104
 go_wp2; go_ret
 rw [← hW]; exact ⟨ret_bool (by simp), HB.out⟩
def wayL (x : Int × Int) : List Value := [.int .i64 x.1, .int .i64 x.2]
theorem rd_way {w : World} {B : Nat} {A : Option Addr} {l : List (Int × Int)} (h : RdG wayL 2 w B A l) (k : Nat) (c : Int × Int) (hc : l[k]? = some c) : ∃ b off, A = some ⟨b, off, none⟩ ∧ b < B ∧ w.cell? ⟨b, off + k * 2, none⟩ = some (.int .i64 c.1) ∧ w.cell? ⟨b, off + k * 2 + 1, none⟩ = some (.int .i64 c.2) := by
 obtain ⟨b, off, e, hb, hx⟩ := h k c hc; exact ⟨b, off, e, hb, hx 0 _ rfl, by rw [Nat.add_assoc]; exact hx 1 _ rfl⟩
def bestK : List (Int × Int) → Int × Int
 | [] => (0, 0)
 | x :: l => bestL x l
theorem bestK_take {l : List (Int × Int)} {j : Nat} {y : Int × Int} (hy : l[j]? = some y) (hj : 0 < j) : bestK (l.take (j + 1)) = if (bestK (l.take j)).1 < y.1 then y else bestK (l.take j) := by
 rw [List.take_add_one, hy]
 cases hl : l.take j with
 | nil =>
  have := congrArg List.length hl; rw [List.length_take] at this; have h2 := (List.getElem?_eq_some_iff.1 hy).1; simp only [List.length_nil] at this
  omega
 | cons x m =>
  simp only [List.cons_append, bestK, Option.toList_some]; rw [bestL_append]; simp only [bestL]
  rfl
theorem bestK_one {l : List (Int × Int)} {y : Int × Int} (hy : l[0]? = some y) : bestK (l.take 1) = y := by
 cases l with
 | nil => simp at hy
 | cons x m => simp at hy; subst hy; rfl
theorem best_any {B : Nat} {A : Option Addr} {n cp : Nat} {l : List (Int × Int)} (hl : l.length = n) (hn : n ≤ 1000) (w : World) (hr : RdG wayL 2 w B A l) (hB : B ≤ w.heap.size) :
  Calls Tryz.prog 103 #[.slice A n cp, .agg #[.func (.func 104) #[] #[]]] w fun e w' => e = .returned (wayV (bestK l)) ∧ Below w.heap.size w w' := by
 obtain ⟨W, hW⟩ : ∃ W, W = (w.alloc (.cells #[.func (.func 104) #[] #[]] 143)).alloc (.cells (wayC (bestK (l.take 0))) 137) := ⟨_, rfl⟩; obtain ⟨b3, hb3⟩ : ∃ b, b = w.heap.size := ⟨_, rfl⟩; obtain ⟨b4, hb4⟩ : ∃ b, b = w.heap.size + 1 := ⟨_, rfl⟩; have HB : Hid (Below w.heap.size w W) := by rw [hW]; exact ((Below.refl _ _).alloc (Nat.le_refl _) _).alloc (by simp) _
 have HX3 : Hid (Blk W b3 143 #[.func (.func 104) #[] #[]]) := by rw [hW, hb3]; exact (Blk.new w 143 _).alloc _
 have HX4 : Hid (Blk W b4 137 (wayC (bestK (l.take 0)))) := by rw [hW, hb4]; exact Blk.new_ (by simp) 137 _
 have HN : Hid (b3 = w.heap.size ∧ b4 = w.heap.size + 1) := ⟨hb3, hb4⟩; have HL := Lib.hid hl; have HR := Lib.hid hr; rw [show wayC (bestK (l.take 0)) = #[.int .i64 0, .int .i64 0] from rfl] at hW
 clear hl hr
 go_enter Tryz.func103, Tryz.ntmps103
 go_upto_region 1 with (fail); rw [← hb4, ← hb3, ← hW]; clear hW hb3 hb4; go_wp2
 go_loopw [9] (fun i wr => ∃ j : Nat, j ≤ n ∧ i = .int .i64 j ∧ Hid (Below w.heap.size w wr) ∧ Hid (W.heap.size ≤ wr.heap.size) ∧ Hid (Blk wr b3 143 #[.func (.func 104) #[] #[]]) ∧ Hid (Blk wr b4 137 (wayC (bestK (l.take j))))) (fun i _ => n - (intOf i).toNat)
 case atStart => exact ⟨0, Nat.zero_le _, rfl, HB, Nat.le_refl _, HX3, HX4⟩
 case round =>
  obtain ⟨j, hj, rfl, HBR, HSZ, HR3, HR4⟩ := hrel
  by_cases hlt : j < n
  ·obtain ⟨y, hy⟩ : ∃ x, l[j]? = some x := ⟨l[j]'(by have := HL.out; omega), by simp⟩
   obtain ⟨bk, off, rfl, hbl, H0, H1⟩ := rd_way (HR.out.below (HBR.out.mono hB)) j y hy; have hbw : bk < wr.heap.size := by have := HBR.out.size; omega
   have HY := Lib.hid hy; obtain ⟨y1, y2⟩ := y; obtain ⟨⟨c1, c2⟩, hc⟩ : ∃ c, c = bestK (l.take j) := ⟨_, rfl⟩; have HC : Hid (bestK (l.take j) = (c1, c2)) := hc.symm; obtain ⟨W5, hW5⟩ : ∃ W5, W5 = wr.alloc (.cells #[.int .i64 y1, .int .i64 y2] 137) := ⟨_, rfl⟩; obtain ⟨b6, hb6⟩ : ∃ b, b = wr.heap.size := ⟨_, rfl⟩; have HX6 : Hid (Blk W5 b6 137 #[.int .i64 y1, .int .i64 y2]) := by rw [hW5, hb6]; exact Blk.new wr 137 _
   have HZ3 : Hid (Blk W5 b3 143 #[.func (.func 104) #[] #[]]) := by rw [hW5]; exact HR3.out.alloc _
   have HZ4 : Hid (Blk W5 b4 137 #[.int .i64 c1, .int .i64 c2]) := by rw [hW5]; have h := HR4.out; rw [HC.out] at h; exact h.alloc _
   have HBZ : Hid (Below w.heap.size w W5) := by rw [hW5]; exact HBR.out.alloc HBR.out.size _
   have HSZ5 : Hid (W.heap.size ≤ W5.heap.size ∧ wr.heap.size ≤ b6) := ⟨by rw [hW5]; have := HSZ.out; simp; omega, by omega⟩
   clear hbl hc hy; go_upto_region 4 with (fail); rw [← hW5, ← hb6]; clear hW5 hb6 H0 H1 hbw; have x0 := HX6.out.cell 0; have x1 := HX6.out.cell 1; have xl := HX6.out.lt; have u0 := HZ3.out.cell 0; have ul := HZ3.out.lt; have v0 := HZ4.out.cell 0; have v1 := HZ4.out.cell 1; have g0 := HZ4.out.frozen 0; have g1 := HZ4.out.frozen 1; have vl := HZ4.out.lt; simp at x0 x1 u0 v0 v1; have hn4 : w.heap.size ≤ b4 := by have := HN.out; omega
   have hn3 : b3 ≠ b4 := by have := HN.out; omega
   have HSET : Hid (∀ (X : World), Below W5.heap.size W5 X → Below w.heap.size w ((X.setCell ⟨b4, 0, none⟩ (.int .i64 y1)).setCell ⟨b4, 1, none⟩ (.int .i64 y2)) ∧ W.heap.size ≤ ((X.setCell ⟨b4, 0, none⟩ (.int .i64 y1)).setCell ⟨b4, 1, none⟩ (.int .i64 y2)).heap.size ∧ Blk ((X.setCell ⟨b4, 0, none⟩ (.int .i64 y1)).setCell ⟨b4, 1, none⟩ (.int .i64 y2)) b3 143 #[.func (.func 104) #[] #[]] ∧ Blk ((X.setCell ⟨b4, 0, none⟩ (.int .i64 y1)).setCell ⟨b4, 1, none⟩ (.int .i64 y2)) b4 137 #[.int .i64 y1, .int .i64 y2]) := fun X hX => by
    refine ⟨((HBZ.out.trans (hX.mono HBZ.out.size)).setCell (p := ⟨b4, 0, none⟩) hn4 _).setCell (p := ⟨b4, 1, none⟩) hn4 _, ?_, ?_, ?_⟩
    ·simp; exact Nat.le_trans HSZ5.out.1 hX.size
    ·exact ((HZ3.out.below hX ul).far (p := ⟨b4, 0, none⟩) hn3 _).far (p := ⟨b4, 1, none⟩) hn3 _
    ·have h := ((HZ4.out.below hX vl).set_ 0 (.int .i64 y1)).set_ 1 (.int .i64 y2)
     simpa using h
   by_cases hj0 : j = 0
   ·subst hj0; have HT : Hid (bestK (l.take (0 + 1)) = (y1, y2)) := bestK_one HY.out; go_wp2; obtain ⟨s1, s2, s3, s4⟩ := HSET.out W5 (Below.refl _ _); go_roundw
    case rel => exact ⟨1, by omega, by go_num, s1, s2, s3, by show Blk _ _ _ _; rw [show bestK (l.take 1) = (y1, y2) from HT.out]; exact s4⟩
    case measure => simp [intOf]; omega
   ·have HT : Hid (bestK (l.take (j + 1)) = if c1 < y1 then (y1, y2) else (c1, c2)) := by show _ = _; rw [bestK_take HY.out (by omega), HC.out]
    have hjz : ((j : Int) == 0) = false := by simp; omega
    go_wp2_with fail; refine (better_any (y1, y2) (c1, c2) W5).mono ?_
    rintro e w7 ⟨rfl, hb⟩; have HB7 : Hid (Below W5.heap.size W5 w7) := hb; clear hb; have HQ6 := Lib.hid (HX6.out.below HB7.out HX6.out.lt); have HQ4 := Lib.hid (HZ4.out.below HB7.out HZ4.out.lt); have HQ3 := Lib.hid (HZ3.out.below HB7.out HZ3.out.lt); clear x0 x1 xl u0 ul v0 v1 g0 g1 vl
    by_cases hlt2 : c1 < y1
    ·have hd : decide (y1 > c1) = true := decide_eq_true hlt2; rw [if_pos hlt2] at HT; have x0 := HQ6.out.cell 0; have x1 := HQ6.out.cell 1; have xl := HQ6.out.lt; have v0 := HQ4.out.cell 0; have v1 := HQ4.out.cell 1; have g0 := HQ4.out.frozen 0; have g1 := HQ4.out.frozen 1; have vl := HQ4.out.lt; simp at x0 x1 v0 v1; simp only; rw [hd]; clear hlt2 hd; go_wp2; obtain ⟨s1, s2, s3, s4⟩ := HSET.out w7 HB7.out; go_roundw
     case rel => exact ⟨j + 1, by omega, by go_num, s1, s2, s3, by show Blk _ _ _ _; rw [HT.out]; exact s4⟩
     case measure => simp [intOf]; omega
    ·have hd : decide (y1 > c1) = false := decide_eq_false hlt2; rw [if_neg hlt2] at HT; simp only; rw [hd]; clear hlt2 hd; go_wp2; go_roundw
     case rel => exact ⟨j + 1, by omega, by go_num, HBZ.out.trans (HB7.out.mono HBZ.out.size), Nat.le_trans HSZ5.out.1 HB7.out.size, HQ3, by show Blk _ _ _ _; rw [HT.out]; exact HQ4.out⟩
     case measure => simp [intOf]; omega
  ·obtain rfl : n = j := by omega
   have he : l.take n = l := List.take_of_length_le (by rw [HL.out]; exact Nat.le_refl _)
   rw [he] at HR4; obtain ⟨⟨c1, c2⟩, hc⟩ : ∃ c, c = bestK l := ⟨_, rfl⟩; have HCE := Lib.hid hc; rw [← hc] at HR4; have v0 : wr.cell? ⟨b4, 0, none⟩ = some (.int .i64 c1) := HR4.out.cell 0; have v1 : wr.cell? ⟨b4, 1, none⟩ = some (.int .i64 c2) := HR4.out.cell 1; have g0 := HR4.out.frozen 0; have g1 := HR4.out.frozen 1; have vl := HR4.out.lt; clear hc he; go_wp2; obtain ⟨W9, hW9⟩ : ∃ W9, W9 = (wr.setCell ⟨b4, 0, none⟩ (.int .i64 c1)).setCell ⟨b4, 1, none⟩ (.int .i64 c2) := ⟨_, rfl⟩; rw [← hW9]; have hk : Blk W9 b4 137 #[.int .i64 c1, .int .i64 c2] := by rw [hW9]; have h := (HR4.out.set_ 0 (.int .i64 c1)).set_ 1 (.int .i64 c2); simpa [wayC] using h
   have hn : w.heap.size ≤ b4 := by have := HN.out; omega
   have hb9 : Below w.heap.size w W9 := by rw [hW9]; exact (HBR.out.setCell (p := ⟨b4, 0, none⟩) hn _).setCell (p := ⟨b4, 1, none⟩) hn _
   have k0 := hk.cell 0; have k1 := hk.cell 1; simp at k0 k1; exact bodyPost_ret (by simp [results, Tryz.results103, go_sem, k0, k1]; rfl) rfl ⟨by rw [← HCE.out]; rfl, hb9⟩
end Go.Proofs.YtgmfhngcehkibaaGreat
namespace Go.Proofs.YtgmfhngcehkibaaGreat
open Go.RowKit Go.Hav Go.Shelf Go.Sq
def rmOf (t : Left4) : Rm := fun i => if i = 0 then t.a else if i = 1 then t.b else if i = 2 then t.c else 0
def Left4.on (t : Left4) (i b : Nat) : Left4 := ⟨t.lot + 1, if i = 0 then t.a - b else t.a, if i = 1 then t.b - b else t.b, if i = 2 then t.c - b else t.c⟩
def Left4.next (t : Left4) : Left4 := { t with lot := t.lot + 1 }
theorem rmOf_on {t : Left4} {i b : Nat} (hi : i < 3) (hb : (b : Int) ≤ rmOf t i) : rmOf (t.on i b) = takeR (rmOf t) i b := by
 funext j
 unfold takeR
 match i, hi, hb with
 | 0, _, hb =>
  have hb : (b : Int) ≤ t.a := hb
  by_cases h : j = 0
  ·subst h; simp [rmOf, Left4.on]; omega
  ·simp [rmOf, Left4.on, h]
 | 1, _, hb =>
  have hb : (b : Int) ≤ t.b := hb
  by_cases h : j = 1
  ·subst h; simp [rmOf, Left4.on]; omega
  ·by_cases h0 : j = 0 <;> simp [rmOf, Left4.on, h, h0]
 | 2, _, hb =>
  have hb : (b : Int) ≤ t.c := hb
  by_cases h : j = 2
  ·subst h; simp [rmOf, Left4.on]; omega
  ·by_cases h0 : j = 0
   ·simp [rmOf, Left4.on, h0]
   ·by_cases h1 : j = 1 <;> simp [rmOf, Left4.on, h, h0, h1]
theorem Left4.on_ok {t : Left4} {i b : Nat} (h : t.Ok) (hl : t.lot < 5) : (t.on i b).Ok := by
 obtain ⟨h0, h1, h2, h3⟩ := h; unfold Left4.on Left4.Ok; simp only; refine ⟨by omega, ?_, ?_, ?_⟩ <;> split <;> omega
theorem Left4.next_ok {t : Left4} (h : t.Ok) (hl : t.lot < 5) : t.next.Ok := by
 obtain ⟨h0, h1, h2, h3⟩ := h; exact ⟨by show t.lot + 1 ≤ 5; omega, h1, h2, h3⟩
theorem rmOf_bd {t : Left4} (h : t.Ok) (i : Nat) : 0 ≤ rmOf t i ∧ rmOf t i ≤ 30 := by
 obtain ⟨h0, h1, h2, h3⟩ := h; unfold rmOf
 split
 ·omega
 ·split
  ·omega
  ·split <;> omega
theorem roomsC_rm (t : Left4) : roomsC (rmOf t) = #[.int .i64 t.a, .int .i64 t.b, .int .i64 t.c] := rfl
section
variable (of_ : ILot → IWag → Int) (c : ICart)
def onF (t : Left4) : Int × Int := onP c.tm c.wg of_ (c.lt.drop t.lot) (rmOf t)
def waysN (t : Left4) (l : ILot) (n : Nat) : List (Int × Int) := ((onF of_ c t.next).1, -1) :: waysL c.tm c.wg of_ l (onP c.tm c.wg of_ (c.lt.drop (t.lot + 1))) (rmOf t) n
variable {of_ : ILot → IWag → Int} {c : ICart}
theorem onF_end {t : Left4} (h : t.lot = c.lt.length) : onF of_ c t = (0, 0) := by
 unfold onF; rw [List.drop_of_length_le (by omega)]
 rfl
theorem onF_best {t : Left4} {l : ILot} (hl : c.lt[t.lot]? = some l) : onF of_ c t = bestK (waysN of_ c t l c.wg.length) := by
 unfold onF
 have hd : c.lt.drop t.lot = l :: c.lt.drop (t.lot + 1) := by
  obtain ⟨h1, h2⟩ := List.getElem?_eq_some_iff.1 hl; rw [List.drop_eq_getElem_cons h1, h2]
 rw [hd]
 rfl
theorem waysN_no {t : Left4} {l : ILot} {n : Nat} {w : IWag} (hw : c.wg[n]? = some w) (h : brokenW (c.tm w) l w (rmOf t n) ≠ 0) : waysN of_ c t l (n + 1) = waysN of_ c t l n := by
 unfold waysN; rw [waysL, hw]; simp only; rw [if_neg h, List.append_nil]
theorem waysN_on {t : Left4} {l : ILot} {n : Nat} {w : IWag} {b : Nat} (hn : n < 3) (hb : l.bales = b) (hw : c.wg[n]? = some w) (h : brokenW (c.tm w) l w (rmOf t n) = 0) :
  waysN of_ c t l (n + 1) = waysN of_ c t l n ++ [(of_ l w + (onF of_ c (t.on n b)).1, (n : Int))] := by
 have hle : (b : Int) ≤ rmOf t n := by
  unfold brokenW at h
  split at h
  ·cases h
  ·split at h
   ·cases h
   ·omega
 unfold waysN; rw [waysL, hw]; simp only; rw [if_pos h, List.cons_append]; unfold onF; rw [rmOf_on hn hle, hb]
 rfl
theorem bestL_mem : ∀ (l : List (Int × Int)) (x : Int × Int), bestL x l = x ∨ bestL x l ∈ l
 | [], x => .inl rfl
 | y :: l, x => by
  unfold bestL
  split
  ·rcases bestL_mem l y with h | h
   ·exact .inr (by rw [h]; simp)
   ·exact .inr (List.mem_cons_of_mem _ h)
  ·rcases bestL_mem l x with h | h
   ·exact .inl h
   ·exact .inr (List.mem_cons_of_mem _ h)
theorem onP_bd {M : Int} (hM : 0 ≤ M) : ∀ (ls : List ILot) (R : Rm), (∀ l ∈ ls, ∀ w ∈ c.wg, 0 ≤ of_ l w ∧ of_ l w ≤ M) → 0 ≤ (onP c.tm c.wg of_ ls R).1 ∧ (onP c.tm c.wg of_ ls R).1 ≤ M * ls.length
 | [], R, _ => by simp [onP]
 | l :: ls, R, h => by
  have ih := fun R => onP_bd hM ls R (fun l hl => h l (List.mem_cons_of_mem _ hl))
  have hw : ∀ n, ∀ x ∈ waysL c.tm c.wg of_ l (onP c.tm c.wg of_ ls) R n, 0 ≤ x.1 ∧ x.1 ≤ M * (ls.length + 1) := by
   intro n
   induction n with
   | zero => intro x hx; simp [waysL] at hx
   | succ n ihn =>
    intro x hx; rw [waysL, List.mem_append] at hx; rcases hx with hx | hx
    ·exact ihn x hx
    ·split at hx
     ·rename_i w hw
      split at hx
      ·obtain rfl := List.mem_singleton.1 hx; have h1 := h l (by simp) w (List.mem_of_getElem? hw)
       have h2 := ih (takeR R n l.bales); have h3 : M * ((ls.length : Int) + 1) = M * ls.length + M := by rw [Int.mul_add, Int.mul_one]
       simp only
       omega
      ·cases hx
     ·cases hx
  have h0 := ih R; have h3 : M * ((ls.length : Int) + 1) = M * ls.length + M := by rw [Int.mul_add, Int.mul_one]
  have hl : (((l :: ls).length : Nat) : Int) = (ls.length : Int) + 1 := by simp
  rw [hl]; show 0 ≤ (bestL _ _).1 ∧ (bestL _ _).1 ≤ _; rcases bestL_mem (waysL c.tm c.wg of_ l (onP c.tm c.wg of_ ls) R c.wg.length) ((onP c.tm c.wg of_ ls R).1, -1) with e | e
  ·rw [e]; simp only; omega
  ·exact hw _ _ e
end
end Go.Proofs.YtgmfhngcehkibaaGreat
namespace Go.Proofs.YtgmfhngcehkibaaGreat
open Go.RowKit Go.Hav Go.Shelf Go.Sq
attribute [local go_sem] Oper.semAt_some
def lotV (l : ILot) : Value := .agg #[.int .i64 l.from_, .int .i64 l.bales, .int .i64 l.price, .int .i64 l.until_, .int .i64 l.less]
def wagV (g : IWag) : Value := .agg #[.int .i64 g.leaves, .int .i64 g.takes.lo, .int .i64 g.takes.hi, .int .i64 g.room]
def IsOf (fo : Nat) (of_ : ILot → IWag → Int) : Prop := (∀ args w, (callFunc fo args).run Tryz.prog w = .ok (.enter fo args) w) ∧ ∀ (l : ILot) (g : IWag) (w : World), lotB l = true → wagB g = true → Calls Tryz.prog fo #[lotV l, wagV g] w fun e w' => e = .returned (.int .i64 (of_ l g)) ∧ Below w.heap.size w w'
def ofMost (l : ILot) (_ : IWag) : Int := l.bales
def ofBest (l : ILot) (g : IWag) : Int := bringsP l (comesP g).2
theorem isOf73 : IsOf 73 ofMost := by
 refine ⟨enters_of Tryz.func73 (by kernel_rfl) rfl, fun l g w _ _ => ?_⟩
 obtain ⟨l0, l1, l2, l3, l4⟩ := l; obtain ⟨g0, ⟨g1, g2⟩, g3⟩ := g; obtain ⟨W, hW⟩ : ∃ W, W = (w.alloc (.cells #[.int .i64 l0, .int .i64 l1, .int .i64 l2, .int .i64 l3, .int .i64 l4] 68)).alloc (.cells #[.int .i64 g0, .int .i64 g1, .int .i64 g2, .int .i64 g3] 65) := ⟨_, rfl⟩; have HB : Hid (Below w.heap.size w W) := by rw [hW]; exact ((Below.refl _ _).alloc (Nat.le_refl _) _).alloc (by simp) _
 unfold lotV wagV
 go_enter Tryz.func73, Tryz.ntmps73
 go_wp2; go_ret
 rw [← hW]; exact ⟨rfl, HB.out⟩
theorem isOf78 : IsOf 78 ofBest := by
 refine ⟨enters_of Tryz.func78 (by kernel_rfl) rfl, fun l g w hl hg => ?_⟩
 have hgB := wagB_iff.1 hg; have HLB := Lib.hid hl; obtain ⟨l0, l1, l2, l3, l4⟩ := l; obtain ⟨g0, ⟨g1, g2⟩, g3⟩ := g; simp only at hgB; obtain ⟨W, hW⟩ : ∃ W, W = (w.alloc (.cells #[.int .i64 l0, .int .i64 l1, .int .i64 l2, .int .i64 l3, .int .i64 l4] 68)).alloc (.cells #[.int .i64 g0, .int .i64 g1, .int .i64 g2, .int .i64 g3] 65) := ⟨_, rfl⟩; obtain ⟨b2, hb2⟩ : ∃ b, b = w.heap.size := ⟨_, rfl⟩; obtain ⟨b3, hb3⟩ : ∃ b, b = w.heap.size + 1 := ⟨_, rfl⟩; have HB : Hid (Below w.heap.size w W) := by rw [hW]; exact ((Below.refl _ _).alloc (Nat.le_refl _) _).alloc (by simp) _
 have HX2 : Hid (Blk W b2 68 #[.int .i64 l0, .int .i64 l1, .int .i64 l2, .int .i64 l3, .int .i64 l4]) := by rw [hW, hb2]; exact (Blk.new w 68 _).alloc _
 have HX3 : Hid (Blk W b3 65 #[.int .i64 g0, .int .i64 g1, .int .i64 g2, .int .i64 g3]) := by rw [hW, hb3]; exact Blk.new_ (by simp) 65 _
 have x0 := HX2.out.cell 0; have x1 := HX2.out.cell 1; have x2 := HX2.out.cell 2; have x3 := HX2.out.cell 3; have x4 := HX2.out.cell 4; have xl := HX2.out.lt; have y0 := HX3.out.cell 0; have y1 := HX3.out.cell 1; have y2 := HX3.out.cell 2; have y3 := HX3.out.cell 3; have yl := HX3.out.lt; simp at x0 x1 x2 x3 x4 y0 y1 y2 y3; unfold lotV wagV
 go_enter Tryz.func78, Tryz.ntmps78
 go_upto_region 1 with (fail); rw [← hb3, ← hb2, ← hW]; clear hW hb3 hb2
 refine wp_region_havoc [(0,false),(1,false),(2,false),(3,false),(4,false),(5,false)] [] (fun _ _ => False) (by kernel_rfl) (by kernel_rfl) (fun _ _ _ _ h => h.elim) ?_
 iterate 2 (apply hav_same (by exact ho rfl) (by kernel_rfl); (focus (intro wv hgv _; have hcv := cvB hgv; (try go_simp); try rfl; done)); simp only [Act.put, List.setIfInBounds_toArray, List.set_cons_succ, List.set_cons_zero])
 (apply hav_call (by exact ho rfl) (by kernel_rfl); (focus (intro wv; go_simp; try exact ⟨rfl, rfl⟩; done)); (focus (intro wv hgv _; refine (comes_any g0 g1 g2 g3 (by omega) (by omega) (by omega) wv).mono ?_; rintro e w' ⟨rfl, hb⟩; exact ⟨rfl, hb⟩; done)); simp only [Act.put, List.setIfInBounds_toArray, List.set_cons_succ, List.set_cons_zero])
 (apply hav_same (by exact ho rfl) (by kernel_rfl); (focus (intro wv hgv _; have hcv := cvB hgv; (try go_simp); try rfl; done)); simp only [Act.put, List.setIfInBounds_toArray, List.set_cons_succ, List.set_cons_zero])
 (apply hav_call (by exact ho rfl) (by kernel_rfl); (focus (intro wv; go_simp; try exact ⟨rfl, rfl⟩; done)); (focus (intro wv hgv _; refine (brings_any ⟨l0, l1, l2, l3, l4⟩ (g0 + g2) HLB.out wv).mono ?_; rintro e w' ⟨rfl, hb⟩; exact ⟨rfl, hb⟩; done)); simp only [Act.put, List.setIfInBounds_toArray, List.set_cons_succ, List.set_cons_zero])
 (apply hav_same (by exact ho rfl) (by kernel_rfl); (focus (intro wv hgv _; have hcv := cvB hgv; (try go_simp); try rfl; done)); simp only [Act.put, List.setIfInBounds_toArray, List.set_cons_succ, List.set_cons_zero])
 refine hav_end (fun wz hgz _ => ?_)
 simp only [List.filterMap]; have HZ : Hid (Below w.heap.size w wz) := HB.out.trans (Below.mono hgz HB.out.size); clear hgz; go_wp2; go_ret
 exact ⟨rfl, HZ.out⟩
def GM (k : Nat) (F : Left4 → Int × Int) : HavG.Rel where
 G w w' := w.grownBy w' (some k) ∧ (MapC w k F → MapC w' k F)
 refl w := ⟨World.grownBy.refl w _, id⟩
 trans h k := ⟨h.1.trans k.1, fun hm => k.2 (h.2 hm)⟩
 drew _ := ⟨⟨rfl, rfl, rfl, Nat.le_refl _, fun _ _ _ => rfl⟩, fun hm => hm.keep rfl⟩
theorem grown_below {w w' : World} (h : Below w.heap.size w w') (row : Option Nat) : w.grownBy w' row := ⟨h.os, h.tape, h.output, h.size, fun k hk _ => h.block k hk⟩
theorem GM.below {k : Nat} {F : Left4 → Int × Int} {w w' : World} (h : Below w.heap.size w w') : (GM k F).G w w' := ⟨grown_below h _, fun hm => hm.keep (h.block k hm.lt)⟩
theorem GM.turn {k : Nat} {F : Left4 → Int × Int} {w w' : World} (h : (GM k F).G w w') : Turn (fun x => x = k) w w' := Turn.of_grown h.1 (fun r e _ => by cases e; rfl)
structure MoIn (w : World) (B d k b1 b2 b3 b4 fo : Nat) (of_ : ILot → IWag → Int) (fa : Option Addr) (fl fc : Nat) (la : Option Addr) (ll lc : Nat) (wa : Option Addr) (wn wc : Nat) (ta : Option Addr) (tn tc : Nat) (c : ICart) : Prop where
 yd : YdIn w B d fa fl fc la ll lc wa wn wc ta tn tc c
 c1 : Blk w b1 85 #[.pointer (some ⟨d, 0, none⟩)]
 c2 : Blk w b2 132 #[.map (some k)]
 c3 : Blk w b3 133 #[.func (.func 102) #[] #[.pointer (some ⟨b1, 0, none⟩), .pointer (some ⟨b2, 0, none⟩), .pointer (some ⟨b3, 0, none⟩), .pointer (some ⟨b4, 0, none⟩)]]
 c4 : Blk w b4 100 #[.func (.func fo) #[] #[]]
 map : MapC w k (onF of_ c)
 hk : B ≤ k
section
variable {fa la wa ta : Option Addr} {fl fc ll lc wn wc tn tc : Nat} {c : ICart}
variable {w w' : World} {B d k b1 b2 b3 b4 fo : Nat} {of_ : ILot → IWag → Int}
theorem MapC.ne {F : Left4 → Int × Int} (h : MapC w k F) {g : Nat} {t : TypeId} {cs : Array Value} (hg : Blk w g t cs) : g ≠ k := by
 rintro rfl; obtain ⟨es, c, h⟩ := h.isMap; rw [show w.heap[g]? = _ from hg] at h
 cases h
theorem MoIn.keep (h : MoIn w B d k b1 b2 b3 b4 fo of_ fa fl fc la ll lc wa wn wc ta tn tc c) (hg : (GM k (onF of_ c)).G w w') : MoIn w' B d k b1 b2 b3 b4 fo of_ fa fl fc la ll lc wa wn wc ta tn tc c :=
 ⟨h.yd.turn (GM.turn hg) (fun b e => by have e' : b = k := e; rw [e']; exact h.hk) (h.map.ne h.yd.blk), h.c1.turn (GM.turn hg) (h.map.ne h.c1), h.c2.turn (GM.turn hg) (h.map.ne h.c2), h.c3.turn (GM.turn hg) (h.map.ne h.c3), h.c4.turn (GM.turn hg) (h.map.ne h.c4), hg.2 h.map, h.hk⟩
end
theorem ints_any {A1 A2 : Option Addr} {n1 n2 c1 c2 : Nat} {l1 l2 : List Int} (e1 : l1.length = n1) (e2 : l2.length = n2) (m1 : n1 ≤ 9223372036854775806) (w : World) (h1 : RdG inI 1 w w.heap.size A1 l1) (h2 : RdG inI 1 w w.heap.size A2 l2) :
  Calls Tryz.prog 28 #[.slice A1 n1 c1, .slice A2 n2 c2] w fun e w' => e = .returned (.bool (decide (l1 = l2))) ∧ Below w.heap.size w w' := by
 have H1 := Lib.hid h1; have H2 := Lib.hid h2; have E1 := Lib.hid e1; have E2 := Lib.hid e2; clear h1 h2
 by_cases hn : n1 = n2
 case neg =>
  have HD : Hid (decide (l1 = l2) = false) := by show _ = _; rw [decide_eq_false]; intro h; exact hn (by rw [← e1, ← e2, h])
  rw [HD.out]
  have hq : ((n1 : Int) != n2) = true := by simp; exact fun h => hn (by omega)
  have hq' : ((n1 : Int) == n2) = false := by simp; exact fun h => hn (by omega)
  clear hn e1 e2
  go_enter Tryz.func28, Tryz.ntmps28
  go_wp2; go_ret
  exact ⟨rfl, Below.refl _ _⟩
 subst hn; obtain ⟨D, hD⟩ : ∃ D, decide (l1 = l2) = D := ⟨_, rfl⟩; rw [hD]; have HD := Lib.hid hD; clear hD e1 e2
 go_enter Tryz.func28, Tryz.ntmps28
 go_wp2
 go_loopw [5] (fun j wr => ∃ n : Nat, n ≤ n1 ∧ j = .int .i64 n ∧ Hid (l1.take n = l2.take n) ∧ Hid (Below w.heap.size w wr)) (fun j _ => n1 - (intOf j).toNat)
 case atStart => exact ⟨0, by omega, rfl, by show _ = _; simp, Below.refl _ _⟩
 case round =>
  obtain ⟨n, hn, rfl, HQ, HBR⟩ := hrel
  by_cases hlt : n < n1
  ·obtain ⟨x, hx⟩ : ∃ x, l1[n]? = some x := ⟨l1[n]'(by have := E1.out; omega), by simp⟩
   obtain ⟨y, hy⟩ : ∃ y, l2[n]? = some y := ⟨l2[n]'(by have := E2.out; omega), by simp⟩
   obtain ⟨bx, ox, hA1, hbx, X0⟩ := rd_in (H1.out.grow HBR.out) n x hx; obtain ⟨by_, oy, hA2, hby, Y0⟩ := rd_in (H2.out.grow HBR.out) n y hy; subst hA1 hA2; have HX := Lib.hid hx; have HY := Lib.hid hy; have hlt' : (n : Int) < n1 := by omega
   clear hx hy; go_upto_region 6 with (fail)
   refine wp_region_havoc [(0,false),(1,false),(2,false),(3,false),(4,false),(5,false),(6,false),(7,false),(8,false)] [] (fun _ _ => False) (by kernel_rfl) (by kernel_rfl) (fun _ _ _ _ h => h.elim) ?_
   (apply hav_same (by exact ho rfl) (by kernel_rfl); (focus (intro wv hgv _; have hcv := cvB hgv; (try go_simp); try rfl; done)); simp only [Act.put, List.setIfInBounds_toArray, List.set_cons_succ, List.set_cons_zero])
   iterate 8 (apply hav_same (by exact ho rfl) (by kernel_rfl); (focus (intro wv hgv _; have hcv := cvB hgv; (try go_simp); try rfl; done)); simp only [Act.put, List.setIfInBounds_toArray, List.set_cons_succ, List.set_cons_zero])
   refine hav_end (fun w5 hgz _ => ?_)
   simp only [List.filterMap]; have hb5 : Below wr.heap.size wr w5 := hgz; have HB5 : Hid (Below w.heap.size w w5) := HBR.out.trans (hb5.mono HBR.out.size); clear hgz hb5 X0 Y0 hbx hby
   by_cases h : x = y
   ·have HQ1 : Hid (l1.take (n + 1) = l2.take (n + 1)) := by show _ = _; rw [List.take_add_one, List.take_add_one, HQ.out, HX.out, HY.out, h]
    subst h; go_wp2; go_roundw
    case rel => exact ⟨n + 1, by omega, by go_num, HQ1, HB5⟩
    case measure => simp [intOf]; omega
   ·have HDF : Hid (D = false) := by
     show _ = _; rw [← HD.out, decide_eq_false]; intro e; have hh := HX.out; rw [e, HY.out] at hh; exact h (Option.some.inj hh).symm
    have hq : (x != y) = true := by simp; exact h
    have hq' : (x == y) = false := by simp; exact h
    clear h; go_wp2; go_ret
    exact ⟨by rw [HDF.out]; rfl, HB5.out⟩
  ·obtain rfl : n = n1 := by omega
   have HDT : Hid (D = true) := by
    show _ = _; have h := HQ.out; rw [List.take_of_length_le (by rw [E1.out]; exact Nat.le_refl _), List.take_of_length_le (by rw [E2.out]; exact Nat.le_refl _)] at h
    rw [← HD.out, decide_eq_true h]
   go_wp2; go_ret
   exact ⟨by rw [HDT.out]; rfl, HBR.out⟩
end Go.Proofs.YtgmfhngcehkibaaGreat
