/- The walk of slices.IndexFunc over numbers, with any function and what it keeps. Condition: what the statements say. -/
import Derived.Test.YtgmfhngcehkibaaGreatPkB11
import Derived.Laws.EntriesVeiled
set_option maxRecDepth 100000
set_option maxHeartbeats 6400000
namespace Go.Proofs.YtgmfhngcehkibaaGreat
open Go.RowKit Go.Hav Go.Shelf Go.Sq
attribute [local go_sem] Oper.semAt_some
def uF (n : Nat) : List Value := [.int .u64 n]
def firstI (ans : Nat → Bool) (n : Nat) : Int := ((List.range n).find? ans).elim (-1) fun j => (j : Int)
theorem firstI_at {ans : Nat → Bool} {n j : Nat} (hj : j < n) (h : ans j = true) (hb : ∀ i, i < j → ans i = false) : firstI ans n = j := by
 have e : (List.range n).find? ans = some j := by
  rw [List.find?_eq_some_iff_getElem]
  refine ⟨h, j, by simpa using hj, by simp, fun i hi => by simpa using hb i hi⟩
 unfold firstI; rw [e]; rfl
theorem firstI_no {ans : Nat → Bool} {n : Nat} (hb : ∀ i, i < n → ans i = false) : firstI ans n = -1 := by
 have e : (List.range n).find? ans = none := by
  rw [List.find?_eq_none]; intro x hx; rw [hb x (List.mem_range.1 hx)]; simp
 unfold firstI; rw [e]; rfl
section
variable {f n c : Nat} {cap : Array Value} {A : Option Addr} {xs : List Nat} {w : World} {S : Nat → Prop}
theorem index_any (ef : ∀ args w, (callFunc f args).run Tryz.prog w = .ok (.enter f args) w) (hn : xs.length = n) (hn2 : n ≤ 1000) (St : Nat → World → Prop) (ans : Nat → Bool)
  (hrd : ∀ j a, St j a → RdG uF 1 a a.heap.size A xs)
  (hcall : ∀ j x a, xs[j]? = some x → St j a → Calls Tryz.prog f (#[.int .u64 x] ++ cap) a fun e w' => e = .returned (.bool (ans j)) ∧ St (j + 1) w' ∧ Turn S a w') (h0 : St 0 w) :
  Calls Tryz.prog 119 #[.slice A n c, .func (.func f) #[] cap] w fun e w' => e = .returned (.int .i64 (firstI ans n)) ∧ Turn S w w' ∧ ∃ j, St j w' := by
 have HRD := Lib.hid hrd; have HCL := Lib.hid hcall; have HNX := Lib.hid hn; have HS0 := Lib.hid h0; clear hrd hcall hn h0
 go_enter Tryz.func119, Tryz.ntmps119
 go_wp2
 go_loopw [8] (fun i wr => ∃ j : Nat, j ≤ n ∧ i = .int .i64 j ∧ Hid (∀ i, i < j → ans i = false) ∧ Hid (St j wr) ∧ Hid (Turn S w wr)) (fun i _ => n - (intOf i).toNat)
 case atStart => exact ⟨0, Nat.zero_le _, rfl, fun i hi => by omega, HS0, Turn.refl _ _⟩
 case round =>
  obtain ⟨j, hj, rfl, HBJ, HSJ, HTJ⟩ := hrel
  by_cases hlt : j < n
  ·obtain ⟨x, hx⟩ : ∃ x, xs[j]? = some x := ⟨_, List.getElem?_eq_getElem (by rw [HNX.out]; exact hlt)⟩
   obtain ⟨g, off, hA, hgl, hc⟩ := HRD.out j wr HSJ.out j x hx; have hc0 := hc 0 _ rfl; simp only [Nat.mul_one, Nat.add_zero] at hc0; subst hA; have HXX := Lib.hid hx; clear hc hx; go_wp2_with fail; refine (HCL.out j x wr HXX.out HSJ.out).mono ?_; rintro e w' ⟨rfl, hs, ht⟩; have HS2 := Lib.hid hs; have HT2 : Hid (Turn S w w') := HTJ.out.trans ht; clear hs ht hc0
   cases ha : ans j
   ·have HB2 : Hid (∀ i, i < j + 1 → ans i = false) := fun i hi => by
     by_cases e : i = j
     ·rw [e]; exact ha
     ·exact HBJ.out i (by omega)
    clear ha; go_wp2; go_roundw
    case rel => exact ⟨j + 1, by omega, by go_num, HB2, HS2, HT2⟩
    case measure => simp [intOf]; omega
   ·have HF : Hid (firstI ans n = j) := firstI_at hlt ha HBJ.out; clear ha; go_wp2; go_ret
    exact ⟨by rw [HF.out]; rfl, HT2.out, _, HS2.out⟩
  ·obtain rfl : n = j := by omega
   have HF : Hid (firstI ans n = -1) := firstI_no HBJ.out; go_wp2; go_ret
   exact ⟨by rw [HF.out]; rfl, HTJ.out, _, HSJ.out⟩
end
end Go.Proofs.YtgmfhngcehkibaaGreat
namespace Go.Proofs.YtgmfhngcehkibaaGreat
open Go.RowKit Go.Hav Go.Shelf Go.Sq
attribute [local go_sem] Oper.semAt_some
theorem ones64_any (x : Nat) (hx : x < 32) (w : World) : Calls Tryz.prog 138 #[.int .u64 x] w fun e w' => e = .returned (.int .i64 (sizeP x)) ∧ w' = w := by
 go_enter Tryz.func138, Tryz.ntmps138
 go_wp2; go_ret
 refine ⟨?_, rfl⟩; clear w; have h : x = 0 ∨ x = 1 ∨ x = 2 ∨ x = 3 ∨ x = 4 ∨ x = 5 ∨ x = 6 ∨ x = 7 ∨ x = 8 ∨ x = 9 ∨ x = 10 ∨ x = 11 ∨ x = 12 ∨ x = 13 ∨ x = 14 ∨ x = 15 ∨ x = 16 ∨ x = 17 ∨ x = 18 ∨ x = 19 ∨ x = 20 ∨ x = 21 ∨ x = 22 ∨ x = 23 ∨ x = 24 ∨ x = 25 ∨ x = 26 ∨ x = 27 ∨ x = 28 ∨ x = 29 ∨ x = 30 ∨ x = 31 := by omega
 rcases h with rfl | rfl | rfl | rfl | rfl | rfl | rfl | rfl | rfl | rfl | rfl | rfl | rfl | rfl | rfl | rfl | rfl | rfl | rfl | rfl | rfl | rfl | rfl | rfl | rfl | rfl | rfl | rfl | rfl | rfl | rfl | rfl <;> (show _ = _; kernel_rfl)
theorem ones_any (x : Nat) (hx : x < 32) (w : World) : Calls Tryz.prog 118 #[.int .u64 x] w fun e w' => e = .returned (.int .i64 (sizeP x)) ∧ w' = w := by
 have HX := Lib.hid hx; clear hx
 go_enter Tryz.func118, Tryz.ntmps118
 go_wp2_with fail; refine (ones64_any x HX.out w).mono ?_
 rintro e w' ⟨rfl, rfl⟩; go_wp2; go_ret
 exact ⟨rfl, rfl⟩
theorem less_any (x y : Nat) (hx : x < 32) (hy : y < 32) (w : World) : Calls Tryz.prog 117 #[.int .u64 x, .int .u64 y] w fun e w' => e = .returned (.int .i64 ((sizeP x : Int) - sizeP y)) ∧ w' = w := by
 have HX := Lib.hid hx; have HY := Lib.hid hy
 have bd : ∀ s : Nat, sizeP s ≤ 5 := fun s => by
  unfold sizeP sizeN sizeN sizeN sizeN sizeN sizeN
  repeat' split
  all_goals omega
 have b1 := bd x; have b2 := bd y; obtain ⟨a, ha⟩ : ∃ a, sizeP x = a := ⟨_, rfl⟩; obtain ⟨b, hb⟩ : ∃ b, sizeP y = b := ⟨_, rfl⟩; have HA := Lib.hid ha; have HB := Lib.hid hb; rw [ha] at b1; rw [hb] at b2; rw [ha, hb]; have hw : IntKind.i64.wrap ((a : Int) - b) = (a : Int) - b := IntWalk.i64_in _ (by omega)
 clear bd ha hb hx hy
 go_enter Tryz.func117, Tryz.ntmps117
 go_wp2_with fail; refine (ones_any x HX.out w).mono ?_
 rw [HA.out]; rintro e w' ⟨rfl, rfl⟩; go_wp2_with fail; refine (ones_any y HY.out w').mono ?_; rw [HB.out]; rintro e w'' ⟨rfl, rfl⟩; go_wp2; go_ret
 exact ⟨rfl, rfl⟩
end Go.Proofs.YtgmfhngcehkibaaGreat
namespace Go.Proofs.YtgmfhngcehkibaaGreat
open Go.RowKit Go.Hav Go.Shelf Go.Sq
attribute [local go_sem] Oper.semAt_some
section
variable {B d k : Nat} {fa la : Option Addr} {fl fc ll lc : Nat} {r : Riv}
theorem is88 (hv : r.Good) (x b4 : Nat) (hx : x < 1000) (w : World) (hD : GauIn w B d k fa fl fc la ll lc r) (hK : KeptOK w k r) (hb : Blk w b4 115 #[(.pointer (some ⟨d, 0, none⟩))]) :
  Calls Tryz.prog 120 #[.int .u64 x, .pointer (some ⟨b4, 0, none⟩)] w fun e w' => e = .returned (.bool (!canB r x)) ∧ KeptOK w' k r ∧ w.grownBy w' (some k) := by
 have HV := Lib.hid hv; have HD := Lib.hid hD; have HK := Lib.hid hK; have c0 := hb.cell 0; have l0 := hb.lt; simp at c0; clear hv hD hK hb
 go_enter Tryz.func120, Tryz.ntmps120
 go_wp2_with fail; refine (can_any HV.out x hx w HD.out HK.out).mono ?_
 obtain ⟨y, hy⟩ : ∃ y, canB r x = y := ⟨_, rfl⟩; have HY := Lib.hid hy; rw [hy]; rintro e w' ⟨rfl, h1, h2⟩; have H1 := Lib.hid h1; have H2 := Lib.hid h2; clear c0 l0 hy h1 h2; go_wp2; go_ret
 exact ⟨by rw [HY.out]; rfl, H1.out, H2.out⟩
end
end Go.Proofs.YtgmfhngcehkibaaGreat
namespace Go.Proofs.YtgmfhngcehkibaaGreat
open Go.RowKit Go.Hav Go.Shelf Go.Sq
attribute [local go_sem] Oper.semAt_some
def uA (M : List Nat) : Array Value := (M.map fun m : Nat => Value.int .u64 m).toArray
theorem uA_get (M : List Nat) (k : Nat) : (uA M)[k]? = (M[k]?).map fun m : Nat => Value.int .u64 m := by simp [uA]
theorem uA_set (M : List Nat) (k m : Nat) : (uA M).setIfInBounds k (.int .u64 m) = uA (M.set k m) := by
 unfold uA; rw [List.setIfInBounds_toArray, List.map_set]
theorem uA_at {M : List Nat} {k : Nat} (h : k < M.length) : (uA M)[k]? = some (.int .u64 (atN M k)) := by
 rw [uA_get]; unfold atN; rw [List.getElem?_eq_getElem h]; rfl
theorem swapN_len (l : List Nat) (i j : Nat) : (swapN l i j).length = l.length := by simp [swapN]
theorem atN_lt {M : List Nat} (h : ∀ x ∈ M, x < 32) (k : Nat) : atN M k < 32 := by
 unfold atN
 cases e : M[k]? with
 | none => simp
 | some x => exact h x (List.mem_of_getElem? e)
theorem swapN_lt {M : List Nat} (h : ∀ x ∈ M, x < 32) (i j : Nat) : ∀ x ∈ swapN M i j, x < 32 := fun x hx => by
 unfold swapN at hx; rcases List.mem_or_eq_of_mem_set hx with h1 | h1
 ·rcases List.mem_or_eq_of_mem_set h1 with h2 | h2
  ·exact h x h2
  ·rw [h2]; exact atN_lt h _
 ·rw [h1]; exact atN_lt h _
theorem sinkF_a (a : Nat) (l : List Nat) : sinkF a a l = l := by
 cases a with
 | zero => rfl
 | succ a => rw [sinkF, if_neg (by omega)]
theorem ins113_any (go n a b : Nat) (L : List Nat) (hL : L.length = n) (hn : n ≤ 40) (hab : a + 1 ≤ b) (hbn : b ≤ n) (h32 : ∀ x ∈ L, x < 32) (w : World) (hO : Blk w go 164 (uA L)) :
  Calls Tryz.prog 146 #[.slice (some ⟨go, 0, none⟩) n n, .int .i64 a, .int .i64 b, .func (.func 117) #[] #[]] w fun e w' =>
   e = .returned (.tuple #[]) ∧ Blk w' go 164 (uA (insF a (b - (a + 1)) (a + 1) L)) ∧ Below go w w' := by
 have HB0 := Lib.hid hO; have HLL := Lib.hid hL; have H32 := Lib.hid h32; have HEG := Lib.hid (enters_of Tryz.func117 (by kernel_rfl) rfl)
 obtain ⟨T, hT⟩ : ∃ T, insF a (b - (a + 1)) (a + 1) L = T := ⟨_, rfl⟩; have HT := Lib.hid hT; rw [hT]; have hw0 : IntKind.i64.wrap ((a : Int) + 1) = (a : Int) + 1 := IntWalk.i64_in _ (by omega)
 clear hO hL h32 hT
 go_enter Tryz.func146, Tryz.ntmps146
 go_wp2
 go_loopw [8] (fun v wr => ∃ (i : Nat) (M : List Nat), v = .int .i64 i ∧ a + 1 ≤ i ∧ i ≤ b ∧ Hid (insF a (b - i) i M = T) ∧ Hid (M.length = n ∧ ∀ x ∈ M, x < 32) ∧ Hid (Blk wr go 164 (uA M)) ∧ Hid (Below go w wr)) (fun v _ => b - (intOf v).toNat)
 case atStart => exact ⟨a + 1, L, by go_num, Nat.le_refl _, hab, HT, ⟨HLL.out, H32.out⟩, HB0, Below.refl _ _⟩
 case round =>
  obtain ⟨i, M, rfl, hi1, hin, HS, HM, HK, HB⟩ := hrel
  by_cases hlt : i < b
  ·have HS1 : Hid (insF a (b - (i + 1)) (i + 1) (sinkF a i M) = T) := by
    have h := HS.out; rw [show b - i = (b - (i + 1)) + 1 by omega, insF] at h
    exact h
   go_wp2
   go_loopw [9] (fun v wq => ∃ (j : Nat) (N : List Nat), v = .int .i64 j ∧ a ≤ j ∧ j ≤ i ∧ Hid (sinkF a j N = sinkF a i M) ∧ Hid (N.length = n ∧ ∀ x ∈ N, x < 32) ∧ Hid (Blk wq go 164 (uA N)) ∧ Hid (Below go w wq)) (fun v _ => (intOf v).toNat)
   case atStart => exact ⟨i, M, rfl, by omega, Nat.le_refl _, rfl, HM, HK, HB⟩
   case round =>
    obtain ⟨j, N, rfl, hja, hji, HSN, HN, HKN, HBN⟩ := hrel; have hlq := HKN.out.lt
    by_cases hz : j = a
    ·subst hz
     have HS2 : Hid (insF j (b - (i + 1)) (i + 1) N = T) := by
      have h := HSN.out; rw [sinkF_a] at h; rw [h]; exact HS1.out
     have hd : decide ((j : Int) < (j : Int)) = false := by simp
     go_wp2
     refine wp_region_havoc [(0,false),(1,false),(2,false),(3,false),(4,false),(5,false),(6,false),(7,false),(8,false),(9,false),(10,false),(11,false),(12,false),(13,false),(14,false),(15,false),(16,false)] [] (fun _ _ => False) (by kernel_rfl) (by kernel_rfl) (fun _ _ _ _ h => h.elim) ?_
     iterate 4 (apply hav_same (by exact ho rfl) (by kernel_rfl); (focus (intro wv hgv _; have hcv := cvB hgv; (try go_simp); try rfl; done)); simp only [Act.put, List.setIfInBounds_toArray, List.set_cons_succ, List.set_cons_zero])
     iterate 12 (refine hav_skip (by exact ho rfl) (by kernel_rfl) ?_; simp only [Act.put, List.setIfInBounds_toArray, List.set_cons_succ, List.set_cons_zero])
     (apply hav_same (by exact ho rfl) (by kernel_rfl); (focus (intro wv hgv _; have hcv := cvB hgv; (try go_simp); try rfl; done)); simp only [Act.put, List.setIfInBounds_toArray, List.set_cons_succ, List.set_cons_zero])
     refine hav_end (fun w1 hgw1 _ => ?_); simp only [List.filterMap]; have hcw1 : ∀ b o, b < _ → w1.cell? ⟨b, o, none⟩ = _ := fun b o hb => Below.cell hgw1 (p := ⟨b, o, none⟩) hb; have hfw1 : ∀ b o, b < _ → w1.frozen? ⟨b, o, none⟩ = _ := fun b o hb => Below.frozen hgw1 (p := ⟨b, o, none⟩) hb; have hzw1 := Below.size hgw1; (try simp at hzw1)
     have HK1 : Hid (Blk w1 go 164 (uA N)) := HKN.out.below hgw1 hlq; have HB1 : Hid (Below go w w1) := HBN.out.trans (hgw1.mono (by omega))
     clear hgw1 hcw1 hfw1; go_wp2; go_roundw
     case rel => exact ⟨i + 1, N, by go_num, by omega, by omega, HS2, HN, HK1, HB1⟩
     case measure => simp [intOf]; omega
    ·obtain ⟨q, rfl⟩ : ∃ q, j = q + 1 := ⟨j - 1, by omega⟩
     have hqa : a ≤ q := by omega
     have hqn : q + 1 < n := by omega
     obtain ⟨x, hx⟩ : ∃ x, atN N (q + 1) = x := ⟨_, rfl⟩; obtain ⟨y, hy⟩ : ∃ y, atN N q = y := ⟨_, rfl⟩; have HX := Lib.hid hx; have HY := Lib.hid hy; have hx32 : x < 32 := by rw [← hx]; exact atN_lt HN.out.2 _
     have hy32 : y < 32 := by rw [← hy]; exact atN_lt HN.out.2 _
     have HCX : Hid ((uA N)[q + 1]? = some (.int .u64 x)) := by show _ = _; rw [uA_at (by rw [HN.out.1]; exact hqn), hx]
     have HCY : Hid ((uA N)[q]? = some (.int .u64 y)) := by show _ = _; rw [uA_at (by rw [HN.out.1]; omega), hy]
     have hc1 : wr.cell? ⟨go, q + 1, none⟩ = some (.int .u64 x) := (HKN.out.cell (q + 1)).trans HCX.out; have hc0 : wr.cell? ⟨go, q, none⟩ = some (.int .u64 y) := (HKN.out.cell q).trans HCY.out; have q0 : (0 : Int) ≤ (q : Int) + 1 := by omega
     have q1 : (q : Int) + 1 < (n : Int) := by omega
     have q2 : (q : Int) < (n : Int) := by omega
     have q3 : ((q : Int) + 1).toNat = q + 1 := by omega
     have q4 : (a : Int) < (q : Int) + 1 := by omega
     have q5 : IntKind.i64.wrap (q : Int) = (q : Int) := IntWalk.i64_in _ (by omega)
     clear hx hy; rw [show ((q + 1 : Nat) : Int) = (q : Int) + 1 by omega]
     go_wp2
     refine wp_region_havoc [(0,false),(1,false),(2,false),(3,false),(4,false),(5,false),(6,false),(7,false),(8,false),(9,false),(10,false),(11,false),(12,false),(13,false),(14,false),(15,false),(16,false)] [] (fun _ _ => False) (by kernel_rfl) (by kernel_rfl) (fun _ _ _ _ h => h.elim) ?_
     iterate 14 (apply hav_same (by exact ho rfl) (by kernel_rfl); (focus (intro wv hgv _; have hcv := cvB hgv; (try go_simp); try rfl; done)); simp only [Act.put, List.setIfInBounds_toArray, List.set_cons_succ, List.set_cons_zero])
     (apply hav_call (by exact ho rfl) (by kernel_rfl); (focus (intro wv; go_simp; try exact ⟨rfl, rfl⟩; done)); (focus (intro wv hgv _; exact (less_any x y hx32 hy32 wv).mono fun e w' h => ⟨h.1, by rw [h.2]; exact Below.refl _ _⟩; done)); simp only [Act.put, List.setIfInBounds_toArray, List.set_cons_succ, List.set_cons_zero])
     by_cases hxx : (sizeP x : Int) - sizeP y < 0
     ·have hdx : decide ((sizeP x : Int) - sizeP y < 0) = true := by simp [hxx]
      iterate 2 (apply hav_same (by exact ho rfl) (by kernel_rfl); (focus (intro wv hgv _; have hcv := cvB hgv; (try go_simp); try rfl; done)); simp only [Act.put, List.setIfInBounds_toArray, List.set_cons_succ, List.set_cons_zero])
      refine hav_end (fun w1 hgw1 _ => ?_); simp only [List.filterMap]; have hcw1 : ∀ b o, b < _ → w1.cell? ⟨b, o, none⟩ = _ := fun b o hb => Below.cell hgw1 (p := ⟨b, o, none⟩) hb; have hfw1 : ∀ b o, b < _ → w1.frozen? ⟨b, o, none⟩ = _ := fun b o hb => Below.frozen hgw1 (p := ⟨b, o, none⟩) hb; have hzw1 := Below.size hgw1; (try simp at hzw1)
      have HK1 : Hid (Blk w1 go 164 (uA N)) := HKN.out.below hgw1 hlq; have HB1 : Hid (Below go w w1) := HBN.out.trans (hgw1.mono (by omega))
      have HSW : Hid (sinkF a q (swapN N (q + 1) q) = sinkF a i M) := by
       have h := HSN.out; rw [sinkF, if_pos ⟨by omega, by unfold lessN; rw [HX.out, HY.out]; exact decide_eq_true (by omega)⟩] at h
       exact h
      have HSE : Hid (swapN N (q + 1) q = (N.set (q + 1) y).set q x) := by show _ = _; unfold swapN; rw [HX.out, HY.out]
      have d1 : w1.cell? ⟨go, q + 1, none⟩ = some (.int .u64 x) := (HK1.out.cell (q + 1)).trans HCX.out; have d0 : w1.cell? ⟨go, q, none⟩ = some (.int .u64 y) := (HK1.out.cell q).trans HCY.out; have f1 : w1.frozen? ⟨go, q + 1, none⟩ = false := HK1.out.frozen _; have f0 : w1.frozen? ⟨go, q, none⟩ = false := HK1.out.frozen _; have hl1 : go < w1.heap.size := HK1.out.lt; clear hgw1 hcw1 hfw1 hc1 hc0 hdx; go_wp2
      go_region
      go_wp2; go_roundw
      case rel =>
       refine ⟨q, swapN N (q + 1) q, by go_num, hqa, by omega, HSW, ⟨by rw [swapN_len]; exact HN.out.1, swapN_lt HN.out.2 _ _⟩, ?_, ((HB1.out.setCell (p := ⟨go, q + 1, none⟩) (Nat.le_refl _) _).setCell (p := ⟨go, q, none⟩) (Nat.le_refl _) _).drew⟩
       have h := (HK1.out.set_ (q + 1) (.int .u64 y)).set_ q (.int .u64 x); rw [uA_set, uA_set, ← HSE.out] at h; exact h.drew
      case measure => simp [intOf]
     ·have hdx : decide ((sizeP x : Int) - sizeP y < 0) = false := by simp; omega
      have HS2 : Hid (insF a (b - (i + 1)) (i + 1) N = T) := by
       have h := HSN.out
       rw [sinkF, if_neg (fun h2 => by
        have h3 := h2.2; unfold lessN at h3; rw [HX.out, HY.out] at h3; have := of_decide_eq_true h3
        omega)] at h
       rw [h]; exact HS1.out
      iterate 2 (apply hav_same (by exact ho rfl) (by kernel_rfl); (focus (intro wv hgv _; have hcv := cvB hgv; (try go_simp); try rfl; done)); simp only [Act.put, List.setIfInBounds_toArray, List.set_cons_succ, List.set_cons_zero])
      refine hav_end (fun w1 hgw1 _ => ?_); simp only [List.filterMap]; have hcw1 : ∀ b o, b < _ → w1.cell? ⟨b, o, none⟩ = _ := fun b o hb => Below.cell hgw1 (p := ⟨b, o, none⟩) hb; have hfw1 : ∀ b o, b < _ → w1.frozen? ⟨b, o, none⟩ = _ := fun b o hb => Below.frozen hgw1 (p := ⟨b, o, none⟩) hb; have hzw1 := Below.size hgw1; (try simp at hzw1)
      have HK1 : Hid (Blk w1 go 164 (uA N)) := HKN.out.below hgw1 hlq; have HB1 : Hid (Below go w w1) := HBN.out.trans (hgw1.mono (by omega))
      clear hgw1 hcw1 hfw1 hc1 hc0; go_wp2; go_roundw
      case rel => exact ⟨i + 1, N, by go_num, by omega, by omega, HS2, HN, HK1, HB1⟩
      case measure => simp [intOf]; omega
  ·obtain rfl : b = i := by omega
   have HF : Hid (M = T) := by have h := HS.out; rwa [Nat.sub_self, insF] at h
   go_wp2; refine bodyPost_end (v := .tuple #[]) (by simp [results, Tryz.results146]) rfl ?_
   exact ⟨rfl, by rw [← HF.out]; exact HK.out, HB.out⟩
end Go.Proofs.YtgmfhngcehkibaaGreat
namespace Go.Proofs.YtgmfhngcehkibaaGreat
open Go.RowKit Go.Hav Go.Shelf Go.Sq
attribute [local go_sem] Oper.semAt_some
theorem swap116_any (go n a b k : Nat) (L : List Nat) (hL : L.length = n) (hn : n ≤ 40) (hab : a + k ≤ b) (hbn : b + k ≤ n) (h32 : ∀ x ∈ L, x < 32) (fv : Value) (w : World) (hO : Blk w go 164 (uA L)) :
  Calls Tryz.prog 153 #[.slice (some ⟨go, 0, none⟩) n n, .int .i64 a, .int .i64 b, .int .i64 k, fv] w fun e w' =>
   e = .returned (.tuple #[]) ∧ Blk w' go 164 (uA (swapR a b k 0 L)) ∧ Below go w w' := by
 have HB0 := Lib.hid hO; have HLL := Lib.hid hL; have H32 := Lib.hid h32; obtain ⟨T, hT⟩ : ∃ T, swapR a b k 0 L = T := ⟨_, rfl⟩; have HT := Lib.hid hT; rw [hT]; clear hO hL h32 hT
 go_enter Tryz.func153, Tryz.ntmps153
 go_wp2
 go_loopw [10] (fun v wr => ∃ (i : Nat) (M : List Nat), v = .int .i64 i ∧ i ≤ k ∧ Hid (swapR a b (k - i) i M = T) ∧ Hid (M.length = n ∧ ∀ x ∈ M, x < 32) ∧ Hid (Blk wr go 164 (uA M)) ∧ Hid (Below go w wr)) (fun v _ => k - (intOf v).toNat)
 case atStart => exact ⟨0, L, rfl, Nat.zero_le _, HT, ⟨HLL.out, H32.out⟩, HB0, Below.refl _ _⟩
 case round =>
  obtain ⟨i, M, rfl, hik, HS, HM, HK, HB⟩ := hrel
  by_cases hlt : i < k
  ·have HS1 : Hid (swapR a b (k - (i + 1)) (i + 1) (swapN M (a + i) (b + i)) = T) := by
    have h := HS.out; rw [show k - i = (k - (i + 1)) + 1 by omega, swapR] at h
    exact h
   obtain ⟨p, hp⟩ : ∃ p, p = a + i := ⟨_, rfl⟩; obtain ⟨q, hq⟩ : ∃ q, q = b + i := ⟨_, rfl⟩; rw [← hp, ← hq] at HS1; have hpq : p < q := by omega
   have hqn : q < n := by omega
   have w1 : IntKind.i64.wrap ((a : Int) + (i : Int)) = (p : Int) := by rw [hp]; exact (IntWalk.i64_in _ (by omega)).trans (by omega)
   have w2 : IntKind.i64.wrap ((b : Int) + (i : Int)) = (q : Int) := by rw [hq]; exact (IntWalk.i64_in _ (by omega)).trans (by omega)
   obtain ⟨x, hx⟩ : ∃ x, atN M p = x := ⟨_, rfl⟩; obtain ⟨y, hy⟩ : ∃ y, atN M q = y := ⟨_, rfl⟩; have HSE : Hid (swapN M p q = (M.set p y).set q x) := by show _ = _; unfold swapN; rw [hx, hy]
   have d0 : wr.cell? ⟨go, p, none⟩ = some (.int .u64 x) := by rw [HK.out.cell, uA_at (by rw [HM.out.1]; omega), hx]
   have d1 : wr.cell? ⟨go, q, none⟩ = some (.int .u64 y) := by rw [HK.out.cell, uA_at (by rw [HM.out.1]; omega), hy]
   have f0 : wr.frozen? ⟨go, p, none⟩ = false := HK.out.frozen _; have f1 : wr.frozen? ⟨go, q, none⟩ = false := HK.out.frozen _; have hl1 : go < wr.heap.size := HK.out.lt; have hpn : p < n := by omega
   clear hp hq hx hy; go_wp2
   go_region
   go_wp2; go_roundw
   case rel =>
    refine ⟨i + 1, swapN M p q, by go_num, by omega, HS1, ⟨by rw [swapN_len]; exact HM.out.1, swapN_lt HM.out.2 _ _⟩, ?_, ((HB.out.setCell (p := ⟨go, p, none⟩) (Nat.le_refl _) _).setCell (p := ⟨go, q, none⟩) (Nat.le_refl _) _).drew⟩
    have h := (HK.out.set_ p (.int .u64 y)).set_ q (.int .u64 x); rw [uA_set, uA_set, ← HSE.out] at h; exact h.drew
   case measure => simp [intOf]; omega
  ·obtain rfl : k = i := by omega
   have HF : Hid (M = T) := by have h := HS.out; rwa [Nat.sub_self, swapR] at h
   go_wp2; refine bodyPost_end (v := .tuple #[]) (by simp [results, Tryz.results153]) rfl ?_
   exact ⟨rfl, by rw [← HF.out]; exact HK.out, HB.out⟩
end Go.Proofs.YtgmfhngcehkibaaGreat
namespace Go.Proofs.YtgmfhngcehkibaaGreat
open Go.RowKit Go.Hav Go.Shelf Go.Sq
attribute [local go_sem] Oper.semAt_some
def OkL (n : Nat) (L : List Nat) : Prop := L.length = n ∧ ∀ x ∈ L, x < 32
theorem OkL.swap {n : Nat} {L : List Nat} (h : OkL n L) (i j : Nat) : OkL n (swapN L i j) := ⟨by rw [swapN_len]; exact h.1, swapN_lt h.2 _ _⟩
theorem OkL.swapR {n a b : Nat} : ∀ (k i : Nat) {L : List Nat}, OkL n L → OkL n (swapR a b k i L)
 | 0, _, _, h => h
 | k + 1, i, _, h => OkL.swapR k (i + 1) (h.swap _ _)
theorem OkL.rot {n m : Nat} : ∀ (f i j : Nat) {L : List Nat}, OkL n L → OkL n (rotF m f i j L)
 | 0, _, _, _, h => h
 | f + 1, i, j, _, h => by
  rw [rotF]
  split
  ·exact OkL.swapR _ _ h
  ·split
   ·exact OkL.rot f _ _ (OkL.swapR _ _ h)
   ·exact OkL.rot f _ _ (OkL.swapR _ _ h)
theorem rot115_any (go n a m b : Nat) (L : List Nat) (hL : OkL n L) (hn : n ≤ 40) (ham : a < m) (hmb : m < b) (hbn : b ≤ n) (fv : Value) (w : World) (hO : Blk w go 164 (uA L)) :
  Calls Tryz.prog 152 #[.slice (some ⟨go, 0, none⟩) n n, .int .i64 a, .int .i64 m, .int .i64 b, fv] w fun e w' =>
   e = .returned (.tuple #[]) ∧ Blk w' go 164 (uA (rotF m 40 (m - a) (b - m) L)) ∧ Below go w w' := by
 have HB0 := Lib.hid hO; have HLL := Lib.hid hL; obtain ⟨T, hT⟩ : ∃ T, rotF m 40 (m - a) (b - m) L = T := ⟨_, rfl⟩; rw [hT]; obtain ⟨i0, hi0⟩ : ∃ i0, i0 = m - a := ⟨_, rfl⟩; obtain ⟨j0, hj0⟩ : ∃ j0, j0 = b - m := ⟨_, rfl⟩; rw [← hi0, ← hj0] at hT; have HT := Lib.hid hT; have wi : IntKind.i64.wrap ((m : Int) - (a : Int)) = (i0 : Int) := (IntWalk.i64_in _ (by omega)).trans (by omega)
 have wj : IntKind.i64.wrap ((b : Int) - (m : Int)) = (j0 : Int) := (IntWalk.i64_in _ (by omega)).trans (by omega)
 have g1 : 0 < i0 := by omega
 have g2 : 0 < j0 := by omega
 have g3 : i0 ≤ m := by omega
 have g4 : m + j0 ≤ n := by omega
 clear hO hL hT hi0 hj0
 go_enter Tryz.func152, Tryz.ntmps152
 go_wp2; clear wi wj
 go_loopw [10, 11] (fun u v wr => ∃ (f i j : Nat) (M : List Nat), (u = .int .i64 i ∧ v = .int .i64 j) ∧ 0 < i ∧ 0 < j ∧ i ≤ m ∧ m + j ≤ n ∧ i + j ≤ f ∧ Hid (rotF m f i j M = T) ∧ Hid (OkL n M) ∧ Hid (Blk wr go 164 (uA M)) ∧ Hid (Below go w wr)) (fun u v _ => (intOf u).toNat + (intOf v).toNat)
 case atStart => exact ⟨40, i0, j0, L, ⟨rfl, rfl⟩, g1, g2, g3, g4, by omega, HT, HLL, HB0, Below.refl _ _⟩
 case round =>
  obtain ⟨f, i, j, M, ⟨rfl, rfl⟩, k1, k2, k3, k4, k5, HS, HM, HK, HB⟩ := hrel; obtain ⟨f, rfl⟩ : ∃ g, f = g + 1 := ⟨f - 1, by omega⟩
  obtain ⟨p, hp⟩ : ∃ p, p = m - i := ⟨_, rfl⟩; have w1 : IntKind.i64.wrap ((m : Int) - (i : Int)) = (p : Int) := (IntWalk.i64_in _ (by omega)).trans (by omega)
  by_cases e : i = j
  ·subst e; have HF : Hid (swapR p m i 0 M = T) := by have h := HS.out; rw [rotF, if_pos rfl, ← hp] at h; exact h
   have hpm : p + i ≤ m := by omega
   have hz : ((i : Int) != (i : Int)) = false := by simp
   clear hp; go_wp2_with fail; refine (swap116_any go n p m i M HM.out.1 hn hpm k4 HM.out.2 fv wr HK.out).mono ?_; rw [HF.out]; rintro e w' ⟨rfl, h1, h2⟩; have H1 := Lib.hid h1; have H2 := Lib.hid h2; clear h1 h2; go_wp2; refine bodyPost_end (v := .tuple #[]) (by simp [results, Tryz.results152]) rfl ?_
   exact ⟨rfl, H1.out, HB.out.trans H2.out⟩
  ·have hz : ((i : Int) != (j : Int)) = true := by simp; omega
   by_cases hlt : j < i
   ·have HF : Hid (rotF m f (i - j) j (swapR p m j 0 M) = T) := by have h := HS.out; rw [rotF, if_neg e, if_pos hlt, ← hp] at h; exact h
    obtain ⟨i2, hi2⟩ : ∃ i2, i2 = i - j := ⟨_, rfl⟩; rw [← hi2] at HF; have w2 : IntKind.i64.wrap ((i : Int) - (j : Int)) = (i2 : Int) := (IntWalk.i64_in _ (by omega)).trans (by omega)
    have hpm : p + j ≤ m := by omega
    have q1 : 0 < i2 := by omega
    have q2 : i2 ≤ m := by omega
    have q3 : i2 + j ≤ f := by omega
    have q4 : i2 < i := by omega
    clear hp hi2; go_wp2_with fail; refine (swap116_any go n p m j M HM.out.1 hn hpm k4 HM.out.2 fv wr HK.out).mono ?_; have HM2 := Lib.hid (OkL.swapR (a := p) (b := m) j 0 HM.out); obtain ⟨M2, hM2⟩ : ∃ M2, M2 = swapR p m j 0 M := ⟨_, rfl⟩; rw [← hM2] at HF HM2; rw [← hM2]; rintro e w' ⟨rfl, h1, h2⟩; have H1 := Lib.hid h1; have H2 := Lib.hid (HB.out.trans h2); clear h1 h2 hM2; go_wp2; go_roundw
    case rel => exact ⟨f, i2, j, M2, ⟨rfl, rfl⟩, q1, k2, q2, k4, q3, HF, HM2, H1, H2⟩
    case measure => simp [intOf]; omega
   ·have HF : Hid (rotF m f i (j - i) (swapR p (m + j - i) i 0 M) = T) := by have h := HS.out; rw [rotF, if_neg e, if_neg hlt, ← hp] at h; exact h
    obtain ⟨s, hs⟩ : ∃ s, s = m + j := ⟨_, rfl⟩; obtain ⟨q, hq⟩ : ∃ q, q = m + j - i := ⟨_, rfl⟩; obtain ⟨j2, hj2⟩ : ∃ j2, j2 = j - i := ⟨_, rfl⟩; rw [← hq, ← hj2] at HF; have w2 : IntKind.i64.wrap ((m : Int) + (j : Int)) = (s : Int) := (IntWalk.i64_in _ (by omega)).trans (by omega)
    have w3 : IntKind.i64.wrap ((s : Int) - (i : Int)) = (q : Int) := (IntWalk.i64_in _ (by omega)).trans (by omega)
    have w4 : IntKind.i64.wrap ((j : Int) - (i : Int)) = (j2 : Int) := (IntWalk.i64_in _ (by omega)).trans (by omega)
    have hpm : p + i ≤ q := by omega
    have q0 : q + i ≤ n := by omega
    have q1 : 0 < j2 := by omega
    have q2 : m + j2 ≤ n := by omega
    have q3 : i + j2 ≤ f := by omega
    have q4 : j2 < j := by omega
    clear hp hs hq hj2; go_wp2_with fail; refine (swap116_any go n p q i M HM.out.1 hn hpm q0 HM.out.2 fv wr HK.out).mono ?_; have HM2 := Lib.hid (OkL.swapR (a := p) (b := q) i 0 HM.out); obtain ⟨M2, hM2⟩ : ∃ M2, M2 = swapR p q i 0 M := ⟨_, rfl⟩; rw [← hM2] at HF HM2; rw [← hM2]; rintro e w' ⟨rfl, h1, h2⟩; have H1 := Lib.hid h1; have H2 := Lib.hid (HB.out.trans h2); clear h1 h2 hM2; go_wp2; go_roundw
    case rel => exact ⟨f, i, j2, M2, ⟨rfl, rfl⟩, k1, q1, k3, q2, q3, HF, HM2, H1, H2⟩
    case measure => simp [intOf]; omega
end Go.Proofs.YtgmfhngcehkibaaGreat
namespace Go.Proofs.YtgmfhngcehkibaaGreat
open Go.RowKit Go.Hav Go.Shelf Go.Sq
attribute [local go_sem] Oper.semAt_some
theorem OkL.sink {n a : Nat} : ∀ (j : Nat) {L : List Nat}, OkL n L → OkL n (sinkF a j L)
 | 0, _, h => h
 | j + 1, _, h => by
  rw [sinkF]
  split
  ·exact OkL.sink j (h.swap _ _)
  ·exact h
theorem OkL.ins {n a : Nat} : ∀ (k i : Nat) {L : List Nat}, OkL n L → OkL n (insF a k i L)
 | 0, _, _, h => h
 | k + 1, i, _, h => OkL.ins k (i + 1) (h.sink i)
theorem OkL.up {n : Nat} : ∀ (k i : Nat) {L : List Nat}, OkL n L → OkL n (upF k i L)
 | 0, _, _, h => h
 | k + 1, i, _, h => OkL.up k (i + 1) (h.swap _ _)
theorem OkL.down {n : Nat} : ∀ (k i : Nat) {L : List Nat}, OkL n L → OkL n (downF k i L)
 | 0, _, _, h => h
 | k + 1, i, _, h => OkL.down k (i - 1) (h.swap _ _)
theorem half64 (s h : Nat) (hs : s < 1000) (hh : h = s / 2) : wrap64 (IntKind.u64.wrap (s : Int) / 2) = (h : Int) := by
 have h1 : IntKind.u64.wrap (s : Int) = s := by rw [IntKind.wrap_u64]; omega
 rw [h1, hh]; exact (IntWalk.wrap64_in _ (by omega)).trans (by omega)
theorem symOne (go n a m b : Nat) (L : List Nat) (hL : OkL n L) (hn : n ≤ 40) (ham : m = a + 1) (hmb : m < b) (hbn : b ≤ n) (w : World) (hO : Blk w go 164 (uA L)) :
  Calls Tryz.prog 147 #[.slice (some ⟨go, 0, none⟩) n n, .int .i64 a, .int .i64 m, .int .i64 b, .func (.func 117) #[] #[]] w fun e w' =>
   e = .returned (.tuple #[]) ∧ Blk w' go 164 (uA (upF (halfF (fun h => lessN (atN L h) (atN L a)) 40 m b - 1 - a) a L)) ∧ Below go w w' := by
 have HB0 := Lib.hid hO; have HLL := Lib.hid hL; have HEG := Lib.hid (enters_of Tryz.func117 (by kernel_rfl) rfl)
 obtain ⟨p, hp⟩ : ∃ p, p = fun h => lessN (atN L h) (atN L a) := ⟨_, rfl⟩
 rw [← hp]; obtain ⟨R, hR⟩ : ∃ R, halfF p 40 m b = R := ⟨_, rfl⟩; obtain ⟨T, hT⟩ : ∃ T, upF (R - 1 - a) a L = T := ⟨_, rfl⟩; rw [hR, hT]; have HP := Lib.hid hp; have HR := Lib.hid hR; have HT := Lib.hid hT; have hw0 : IntKind.i64.wrap ((m : Int) - (a : Int)) = 1 := (IntWalk.i64_in _ (by omega)).trans (by omega)
 clear hO hL hp hR hT
 go_enter Tryz.func147, Tryz.ntmps147
 go_wp2
 go_loopw [10, 11] (fun u v wr => ∃ (f i j : Nat), (u = .int .i64 i ∧ v = .int .i64 j) ∧ m ≤ i ∧ i ≤ j ∧ j ≤ b ∧ j - i ≤ f ∧ Hid (halfF p f i j = R) ∧ Hid (Blk wr go 164 (uA L)) ∧ Hid (Below go w wr)) (fun u v _ => (intOf v).toNat - (intOf u).toNat)
 case atStart => exact ⟨40, m, b, ⟨rfl, rfl⟩, Nat.le_refl _, by omega, Nat.le_refl _, by omega, HR, HB0, Below.refl _ _⟩
 case round =>
  obtain ⟨f, i, j, ⟨rfl, rfl⟩, k1, k2, k3, k4, HS, HK, HB⟩ := hrel
  by_cases hlt : i < j
  ·obtain ⟨s, hs⟩ : ∃ s, s = i + j := ⟨_, rfl⟩; have w1 : IntKind.i64.wrap ((i : Int) + (j : Int)) = (s : Int) := (IntWalk.i64_in _ (by omega)).trans (by omega)
   obtain ⟨h, hh⟩ : ∃ h, h = (i + j) / 2 := ⟨_, rfl⟩; have W2 := Lib.hid (half64 s h (by omega) (by rw [hs]; exact hh))
   have q1 : (h : Int) < (n : Int) := by omega
   have q2 : (a : Int) < (n : Int) := by omega
   have q3 : i ≤ h := by omega
   have q4 : h < j := by omega
   obtain ⟨f, rfl⟩ : ∃ g, f = g + 1 := ⟨f - 1, by omega⟩
   have HST : Hid (p h = true → halfF p f (h + 1) j = R) := fun e => by
    have h1 := HS.out; rw [halfF, if_pos hlt, ← hh, if_pos e] at h1; exact h1
   have HSF : Hid (¬ p h = true → halfF p f i h = R) := fun e => by
    have h1 := HS.out; rw [halfF, if_pos hlt, ← hh, if_neg e] at h1; exact h1
   have hf1 : j - (h + 1) ≤ f := by omega
   have hf2 : h - i ≤ f := by omega
   obtain ⟨x, hx⟩ : ∃ x, atN L h = x := ⟨_, rfl⟩; obtain ⟨y, hy⟩ : ∃ y, atN L a = y := ⟨_, rfl⟩; have hx32 : x < 32 := by rw [← hx]; exact atN_lt HLL.out.2 _
   have hy32 : y < 32 := by rw [← hy]; exact atN_lt HLL.out.2 _
   have HPH : Hid (p h = decide (sizeP x < sizeP y)) := by show _ = _; rw [HP.out]; simp only [lessN, hx, hy]
   have hc1 : wr.cell? ⟨go, h, none⟩ = some (.int .u64 x) := by rw [HK.out.cell, uA_at (by rw [HLL.out.1]; omega), hx]
   have hc0 : wr.cell? ⟨go, a, none⟩ = some (.int .u64 y) := by rw [HK.out.cell, uA_at (by rw [HLL.out.1]; omega), hy]
   have hlq := HK.out.lt; have w3 : IntKind.i64.wrap ((h : Int) + 1) = (h : Int) + 1 := IntWalk.i64_in _ (by omega)
   clear hs hh hx hy; go_wp2; rw [W2.out]
   refine wp_region_havoc [(0,false),(1,false),(2,false),(3,false),(4,false),(5,false),(6,false),(7,false),(8,false),(9,false),(10,false)] [] (fun _ _ => False) (by kernel_rfl) (by kernel_rfl) (fun _ _ _ _ h => h.elim) ?_
   iterate 4 (apply hav_same (by exact ho rfl) (by kernel_rfl); (focus (intro wv hgv _; have hcv := cvB hgv; (try go_simp); try rfl; done)); simp only [Act.put, List.setIfInBounds_toArray, List.set_cons_succ, List.set_cons_zero])
   iterate 5 (apply hav_same (by exact ho rfl) (by kernel_rfl); (focus (intro wv hgv _; have hcv := cvB hgv; (try go_simp); try rfl; done)); simp only [Act.put, List.setIfInBounds_toArray, List.set_cons_succ, List.set_cons_zero])
   (apply hav_call (by exact ho rfl) (by kernel_rfl); (focus (intro wv; go_simp; try exact ⟨rfl, rfl⟩; done)); (focus (intro wv hgv _; exact (less_any x y hx32 hy32 wv).mono fun e w' h => ⟨h.1, by rw [h.2]; exact Below.refl _ _⟩; done)); simp only [Act.put, List.setIfInBounds_toArray, List.set_cons_succ, List.set_cons_zero])
   by_cases hxx : (sizeP x : Int) - sizeP y < 0
   ·have hdx : decide ((sizeP x : Int) - sizeP y < 0) = true := by simp [hxx]
    (apply hav_same (by exact ho rfl) (by kernel_rfl); (focus (intro wv hgv _; have hcv := cvB hgv; (try go_simp); try rfl; done)); simp only [Act.put, List.setIfInBounds_toArray, List.set_cons_succ, List.set_cons_zero])
    refine hav_end (fun w1 hgw1 _ => ?_); simp only [List.filterMap]; have hcw1 : ∀ b o, b < _ → w1.cell? ⟨b, o, none⟩ = _ := fun b o hb => Below.cell hgw1 (p := ⟨b, o, none⟩) hb; have hfw1 : ∀ b o, b < _ → w1.frozen? ⟨b, o, none⟩ = _ := fun b o hb => Below.frozen hgw1 (p := ⟨b, o, none⟩) hb; have hzw1 := Below.size hgw1; (try simp at hzw1)
    have HK1 : Hid (Blk w1 go 164 (uA L)) := HK.out.below hgw1 hlq; have HB1 : Hid (Below go w w1) := HB.out.trans (hgw1.mono (by omega))
    have HSN := Lib.hid (HST.out (by rw [HPH.out]; exact decide_eq_true (by omega)))
    clear hgw1 hcw1 hfw1 hc1 hc0 hdx; go_wp2; go_roundw
    case rel => exact ⟨f, h + 1, j, ⟨by go_num, rfl⟩, by omega, by omega, k3, hf1, HSN, HK1, HB1⟩
    case measure => simp [intOf]; omega
   ·have hdx : decide ((sizeP x : Int) - sizeP y < 0) = false := by simp; omega
    (apply hav_same (by exact ho rfl) (by kernel_rfl); (focus (intro wv hgv _; have hcv := cvB hgv; (try go_simp); try rfl; done)); simp only [Act.put, List.setIfInBounds_toArray, List.set_cons_succ, List.set_cons_zero])
    refine hav_end (fun w1 hgw1 _ => ?_); simp only [List.filterMap]; have hcw1 : ∀ b o, b < _ → w1.cell? ⟨b, o, none⟩ = _ := fun b o hb => Below.cell hgw1 (p := ⟨b, o, none⟩) hb; have hfw1 : ∀ b o, b < _ → w1.frozen? ⟨b, o, none⟩ = _ := fun b o hb => Below.frozen hgw1 (p := ⟨b, o, none⟩) hb; have hzw1 := Below.size hgw1; (try simp at hzw1)
    have HK1 : Hid (Blk w1 go 164 (uA L)) := HK.out.below hgw1 hlq; have HB1 : Hid (Below go w w1) := HB.out.trans (hgw1.mono (by omega))
    have HSN := Lib.hid (HSF.out (by rw [HPH.out]; simp; omega))
    clear hgw1 hcw1 hfw1 hc1 hc0; go_wp2; go_roundw
    case rel => exact ⟨f, i, h, ⟨rfl, rfl⟩, k1, by omega, by omega, hf2, HSN, HK1, HB1⟩
    case measure => simp [intOf]; omega
  ·obtain rfl : i = j := by omega
   have hRi : R = i := by
    have h1 := HS.out
    cases f with
    | zero => exact h1.symm
    | succ f => rw [halfF, if_neg (by omega)] at h1; exact h1.symm
   subst hRi; have wR : IntKind.i64.wrap ((R : Int) - 1) = ((R - 1 : Nat) : Int) := (IntWalk.i64_in _ (by omega)).trans (by omega)
   obtain ⟨E, hE⟩ : ∃ E, E = R - 1 := ⟨_, rfl⟩; rw [← hE] at wR; have hEn : E + 1 ≤ n ∧ a ≤ E := by omega
   have HT1 : Hid (upF (E - a) a L = T) := by rw [hE]; exact HT
   clear hE HS HR HT; go_wp2
   go_loopw [13] (fun v wq => ∃ (q : Nat) (M : List Nat), v = .int .i64 q ∧ a ≤ q ∧ q ≤ E ∧ Hid (upF (E - q) q M = T) ∧ Hid (OkL n M) ∧ Hid (Blk wq go 164 (uA M)) ∧ Hid (Below go w wq)) (fun v _ => E - (intOf v).toNat)
   case atStart => exact ⟨a, L, rfl, Nat.le_refl _, hEn.2, HT1, HLL, HK, HB⟩
   case round =>
    obtain ⟨q, M, rfl, e1, e2, HU, HM, HKM, HBM⟩ := hrel
    by_cases hlt : q < E
    ·have HU1 : Hid (upF (E - (q + 1)) (q + 1) (swapN M q (q + 1)) = T) := by
      have h1 := HU.out; rw [show E - q = (E - (q + 1)) + 1 by omega, upF] at h1
      exact h1
     obtain ⟨x, hx⟩ : ∃ x, atN M q = x := ⟨_, rfl⟩; obtain ⟨y, hy⟩ : ∃ y, atN M (q + 1) = y := ⟨_, rfl⟩; have HSE : Hid (swapN M q (q + 1) = (M.set q y).set (q + 1) x) := by show _ = _; unfold swapN; rw [hx, hy]
     have d0 : wr.cell? ⟨go, q, none⟩ = some (.int .u64 x) := by rw [HKM.out.cell, uA_at (by rw [HM.out.1]; omega), hx]
     have d1 : wr.cell? ⟨go, q + 1, none⟩ = some (.int .u64 y) := by rw [HKM.out.cell, uA_at (by rw [HM.out.1]; omega), hy]
     have f0 : wr.frozen? ⟨go, q, none⟩ = false := HKM.out.frozen _; have f1 : wr.frozen? ⟨go, q + 1, none⟩ = false := HKM.out.frozen _; have hl1 : go < wr.heap.size := HKM.out.lt; have w3 : IntKind.i64.wrap ((q : Int) + 1) = (q : Int) + 1 := IntWalk.i64_in _ (by omega)
     have q0 : (0 : Int) ≤ (q : Int) + 1 := by omega
     have q1 : (q : Int) + 1 < (n : Int) := by omega
     have q2 : (q : Int) < (n : Int) := by omega
     have q3 : ((q : Int) + 1).toNat = q + 1 := by omega
     clear hx hy; go_wp2
     go_region
     go_wp2; go_roundw
     case rel =>
      refine ⟨q + 1, swapN M q (q + 1), by go_num, by omega, by omega, HU1, HM.out.swap _ _, ?_, ((HBM.out.setCell (p := ⟨go, q, none⟩) (Nat.le_refl _) _).setCell (p := ⟨go, q + 1, none⟩) (Nat.le_refl _) _).drew⟩
      have h := (HKM.out.set_ q (.int .u64 y)).set_ (q + 1) (.int .u64 x); rw [uA_set, uA_set, ← HSE.out] at h; exact h.drew
     case measure => simp [intOf]; omega
    ·obtain rfl : q = E := by omega
     have HF : Hid (M = T) := by have h := HU.out; rwa [Nat.sub_self, upF] at h
     go_wp2; exact bodyPost_ret (results_none rfl _ _ _) rfl ⟨rfl, by rw [← HF.out]; exact HKM.out, HBM.out⟩
theorem symTwo (go n a m b : Nat) (L : List Nat) (hL : OkL n L) (hn : n ≤ 40) (ham : a + 1 < m) (hmb : b = m + 1) (hbn : b ≤ n) (w : World) (hO : Blk w go 164 (uA L)) :
  Calls Tryz.prog 147 #[.slice (some ⟨go, 0, none⟩) n n, .int .i64 a, .int .i64 m, .int .i64 b, .func (.func 117) #[] #[]] w fun e w' =>
   e = .returned (.tuple #[]) ∧ Blk w' go 164 (uA (downF (m - halfF (fun h => !lessN (atN L m) (atN L h)) 40 a m) m L)) ∧ Below go w w' := by
 have HB0 := Lib.hid hO; have HLL := Lib.hid hL; have HEG := Lib.hid (enters_of Tryz.func117 (by kernel_rfl) rfl)
 obtain ⟨p, hp⟩ : ∃ p, p = fun h => !lessN (atN L m) (atN L h) := ⟨_, rfl⟩
 rw [← hp]; obtain ⟨R, hR⟩ : ∃ R, halfF p 40 a m = R := ⟨_, rfl⟩; obtain ⟨T, hT⟩ : ∃ T, downF (m - R) m L = T := ⟨_, rfl⟩; rw [hR, hT]; have HP := Lib.hid hp; have HR := Lib.hid hR; have HT := Lib.hid hT; have hw0 : IntKind.i64.wrap ((b : Int) - (m : Int)) = 1 := (IntWalk.i64_in _ (by omega)).trans (by omega)
 obtain ⟨D, hD⟩ : ∃ D, D = m - a := ⟨_, rfl⟩; have hw1 : IntKind.i64.wrap ((m : Int) - (a : Int)) = (D : Int) := (IntWalk.i64_in _ (by omega)).trans (by omega)
 have hw2 : ((D : Int) == 1) = false := by simp; omega
 clear hD; clear hO hL hp hR hT
 go_enter Tryz.func147, Tryz.ntmps147
 go_wp2
 go_loopw [14, 15] (fun u v wr => ∃ (f i j : Nat), (u = .int .i64 i ∧ v = .int .i64 j) ∧ a ≤ i ∧ i ≤ j ∧ j ≤ m ∧ j - i ≤ f ∧ Hid (halfF p f i j = R) ∧ Hid (Blk wr go 164 (uA L)) ∧ Hid (Below go w wr)) (fun u v _ => (intOf v).toNat - (intOf u).toNat)
 case atStart => exact ⟨40, a, m, ⟨rfl, rfl⟩, Nat.le_refl _, by omega, Nat.le_refl _, by omega, HR, HB0, Below.refl _ _⟩
 case round =>
  obtain ⟨f, i, j, ⟨rfl, rfl⟩, k1, k2, k3, k4, HS, HK, HB⟩ := hrel
  by_cases hlt : i < j
  ·obtain ⟨s, hs⟩ : ∃ s, s = i + j := ⟨_, rfl⟩; have w1 : IntKind.i64.wrap ((i : Int) + (j : Int)) = (s : Int) := (IntWalk.i64_in _ (by omega)).trans (by omega)
   obtain ⟨h, hh⟩ : ∃ h, h = (i + j) / 2 := ⟨_, rfl⟩; have W2 := Lib.hid (half64 s h (by omega) (by rw [hs]; exact hh))
   have q1 : (h : Int) < (n : Int) := by omega
   have q2 : (m : Int) < (n : Int) := by omega
   have q3 : i ≤ h := by omega
   have q4 : h < j := by omega
   obtain ⟨f, rfl⟩ : ∃ g, f = g + 1 := ⟨f - 1, by omega⟩
   have HST : Hid (p h = true → halfF p f (h + 1) j = R) := fun e => by
    have h1 := HS.out; rw [halfF, if_pos hlt, ← hh, if_pos e] at h1; exact h1
   have HSF : Hid (¬ p h = true → halfF p f i h = R) := fun e => by
    have h1 := HS.out; rw [halfF, if_pos hlt, ← hh, if_neg e] at h1; exact h1
   have hf1 : j - (h + 1) ≤ f := by omega
   have hf2 : h - i ≤ f := by omega
   obtain ⟨x, hx⟩ : ∃ x, atN L m = x := ⟨_, rfl⟩; obtain ⟨y, hy⟩ : ∃ y, atN L h = y := ⟨_, rfl⟩; have hx32 : x < 32 := by rw [← hx]; exact atN_lt HLL.out.2 _
   have hy32 : y < 32 := by rw [← hy]; exact atN_lt HLL.out.2 _
   have HPH : Hid (p h = !decide (sizeP x < sizeP y)) := by show _ = _; rw [HP.out]; simp only [lessN, hx, hy]
   have hc1 : wr.cell? ⟨go, m, none⟩ = some (.int .u64 x) := by rw [HK.out.cell, uA_at (by rw [HLL.out.1]; omega), hx]
   have hc0 : wr.cell? ⟨go, h, none⟩ = some (.int .u64 y) := by rw [HK.out.cell, uA_at (by rw [HLL.out.1]; omega), hy]
   have hlq := HK.out.lt; have w3 : IntKind.i64.wrap ((h : Int) + 1) = (h : Int) + 1 := IntWalk.i64_in _ (by omega)
   clear hs hh hx hy; go_wp2; rw [W2.out]
   refine wp_region_havoc [(0,false),(1,false),(2,false),(3,false),(4,false),(5,false),(6,false),(7,false),(8,false),(9,false),(10,false),(11,false)] [] (fun _ _ => False) (by kernel_rfl) (by kernel_rfl) (fun _ _ _ _ h => h.elim) ?_
   iterate 4 (apply hav_same (by exact ho rfl) (by kernel_rfl); (focus (intro wv hgv _; have hcv := cvB hgv; (try go_simp); try rfl; done)); simp only [Act.put, List.setIfInBounds_toArray, List.set_cons_succ, List.set_cons_zero])
   iterate 5 (apply hav_same (by exact ho rfl) (by kernel_rfl); (focus (intro wv hgv _; have hcv := cvB hgv; (try go_simp); try rfl; done)); simp only [Act.put, List.setIfInBounds_toArray, List.set_cons_succ, List.set_cons_zero])
   (apply hav_call (by exact ho rfl) (by kernel_rfl); (focus (intro wv; go_simp; try exact ⟨rfl, rfl⟩; done)); (focus (intro wv hgv _; exact (less_any x y hx32 hy32 wv).mono fun e w' h => ⟨h.1, by rw [h.2]; exact Below.refl _ _⟩; done)); simp only [Act.put, List.setIfInBounds_toArray, List.set_cons_succ, List.set_cons_zero])
   by_cases hxx : (sizeP x : Int) - sizeP y < 0
   ·have hdx : decide ((sizeP x : Int) - sizeP y < 0) = true := by simp [hxx]
    iterate 2 (apply hav_same (by exact ho rfl) (by kernel_rfl); (focus (intro wv hgv _; have hcv := cvB hgv; (try go_simp); try rfl; done)); simp only [Act.put, List.setIfInBounds_toArray, List.set_cons_succ, List.set_cons_zero])
    refine hav_end (fun w1 hgw1 _ => ?_); simp only [List.filterMap]; have hcw1 : ∀ b o, b < _ → w1.cell? ⟨b, o, none⟩ = _ := fun b o hb => Below.cell hgw1 (p := ⟨b, o, none⟩) hb; have hfw1 : ∀ b o, b < _ → w1.frozen? ⟨b, o, none⟩ = _ := fun b o hb => Below.frozen hgw1 (p := ⟨b, o, none⟩) hb; have hzw1 := Below.size hgw1; (try simp at hzw1)
    have HK1 : Hid (Blk w1 go 164 (uA L)) := HK.out.below hgw1 hlq; have HB1 : Hid (Below go w w1) := HB.out.trans (hgw1.mono (by omega))
    have HSN := Lib.hid (HSF.out (by rw [HPH.out]; simp; omega))
    clear hgw1 hcw1 hfw1 hc1 hc0 hdx; go_wp2; go_roundw
    case rel => exact ⟨f, i, h, ⟨rfl, rfl⟩, k1, by omega, by omega, hf2, HSN, HK1, HB1⟩
    case measure => simp [intOf]; omega
   ·have hdx : decide ((sizeP x : Int) - sizeP y < 0) = false := by simp; omega
    iterate 2 (apply hav_same (by exact ho rfl) (by kernel_rfl); (focus (intro wv hgv _; have hcv := cvB hgv; (try go_simp); try rfl; done)); simp only [Act.put, List.setIfInBounds_toArray, List.set_cons_succ, List.set_cons_zero])
    refine hav_end (fun w1 hgw1 _ => ?_); simp only [List.filterMap]; have hcw1 : ∀ b o, b < _ → w1.cell? ⟨b, o, none⟩ = _ := fun b o hb => Below.cell hgw1 (p := ⟨b, o, none⟩) hb; have hfw1 : ∀ b o, b < _ → w1.frozen? ⟨b, o, none⟩ = _ := fun b o hb => Below.frozen hgw1 (p := ⟨b, o, none⟩) hb; have hzw1 := Below.size hgw1; (try simp at hzw1)
    have HK1 : Hid (Blk w1 go 164 (uA L)) := HK.out.below hgw1 hlq; have HB1 : Hid (Below go w w1) := HB.out.trans (hgw1.mono (by omega))
    have HSN := Lib.hid (HST.out (by rw [HPH.out]; simp; omega))
    clear hgw1 hcw1 hfw1 hc1 hc0; go_wp2; go_roundw
    case rel => exact ⟨f, h + 1, j, ⟨by go_num, rfl⟩, by omega, by omega, k3, hf1, HSN, HK1, HB1⟩
    case measure => simp [intOf]; omega
  ·obtain rfl : i = j := by omega
   have hRi : R = i := by
    have h1 := HS.out
    cases f with
    | zero => exact h1.symm
    | succ f => rw [halfF, if_neg (by omega)] at h1; exact h1.symm
   subst hRi; have HT1 : Hid (downF (m - R) m L = T) := HT; have hRm : R ≤ m := k3; clear HS HR HT; go_wp2
   go_loopw [17] (fun v wq => ∃ (q : Nat) (M : List Nat), v = .int .i64 q ∧ R ≤ q ∧ q ≤ m ∧ Hid (downF (q - R) q M = T) ∧ Hid (OkL n M) ∧ Hid (Blk wq go 164 (uA M)) ∧ Hid (Below go w wq)) (fun v _ => (intOf v).toNat)
   case atStart => exact ⟨m, L, rfl, hRm, Nat.le_refl _, HT1, HLL, HK, HB⟩
   case round =>
    obtain ⟨q, M, rfl, e1, e2, HU, HM, HKM, HBM⟩ := hrel
    by_cases hlt : R < q
    ·obtain ⟨t, ht⟩ : ∃ t, t = q - 1 := ⟨_, rfl⟩
     have HU1 : Hid (downF (t - R) t (swapN M q t) = T) := by
      have h1 := HU.out; rw [show q - R = (t - R) + 1 by omega, downF, ← ht] at h1
      exact h1
     obtain ⟨x, hx⟩ : ∃ x, atN M q = x := ⟨_, rfl⟩; obtain ⟨y, hy⟩ : ∃ y, atN M t = y := ⟨_, rfl⟩; have HSE : Hid (swapN M q t = (M.set q y).set t x) := by show _ = _; unfold swapN; rw [hx, hy]
     have d0 : wr.cell? ⟨go, q, none⟩ = some (.int .u64 x) := by rw [HKM.out.cell, uA_at (by rw [HM.out.1]; omega), hx]
     have d1 : wr.cell? ⟨go, t, none⟩ = some (.int .u64 y) := by rw [HKM.out.cell, uA_at (by rw [HM.out.1]; omega), hy]
     have f0 : wr.frozen? ⟨go, q, none⟩ = false := HKM.out.frozen _; have f1 : wr.frozen? ⟨go, t, none⟩ = false := HKM.out.frozen _; have hl1 : go < wr.heap.size := HKM.out.lt; have w3 : IntKind.i64.wrap ((q : Int) - 1) = (t : Int) := (IntWalk.i64_in _ (by omega)).trans (by omega)
     have q1 : (q : Int) < (n : Int) := by omega
     have q2 : (t : Int) < (n : Int) := by omega
     have q3 : R ≤ t := by omega
     have q4 : t < q := by omega
     have q5 : t ≤ m := by omega
     clear hx hy ht; go_wp2
     go_region
     go_wp2; go_roundw
     case rel =>
      refine ⟨t, swapN M q t, rfl, q3, q5, HU1, HM.out.swap _ _, ?_, ((HBM.out.setCell (p := ⟨go, q, none⟩) (Nat.le_refl _) _).setCell (p := ⟨go, t, none⟩) (Nat.le_refl _) _).drew⟩; have h := (HKM.out.set_ q (.int .u64 y)).set_ t (.int .u64 x); rw [uA_set, uA_set, ← HSE.out] at h; exact h.drew
     case measure => simp [intOf]; omega
    ·obtain rfl : q = R := by omega
     have HF : Hid (M = T) := by have h := HU.out; rwa [Nat.sub_self, downF] at h
     go_wp2; exact bodyPost_ret (results_none rfl _ _ _) rfl ⟨rfl, by rw [← HF.out]; exact HKM.out, HBM.out⟩
end Go.Proofs.YtgmfhngcehkibaaGreat
namespace Go.Proofs.YtgmfhngcehkibaaGreat
open Go.RowKit Go.Hav Go.Shelf Go.Sq
attribute [local go_sem] Oper.semAt_some
noncomputable def symK (k : Nat) : Code := dropSeq k (Tryz.f147.body.getD .skip)
def SymPost (go : Nat) (T : List Nat) (w : World) (e : Ending) (w' : World) : Prop := e = .returned (.tuple #[]) ∧ Blk w' go 164 (uA T) ∧ Below go w w'
structure SymNext (go n x y z : Nat) (p : Prop) (M T : List Nat) : Prop where
 yes : p → ∀ wv, Blk wv go 164 (uA M) → Calls Tryz.prog 147 #[.slice (some ⟨go, 0, none⟩) n n, .int .i64 x, .int .i64 y, .int .i64 z, .func (.func 117) #[] #[]] wv (SymPost go T wv)
 no : ¬ p → M = T
theorem sym11_any {go n b mid e : Nat} {M T : List Nat} {w0 w : World} (hK : Blk w go 164 (uA M)) (hB : Below go w0 w)
  (HX : Hid (SymNext go n mid e b (mid < e ∧ e < b) M T)) (c1 c2 c5 c6 c7 c8 c9 c10 c11 c12 c13 c14 c15 c16 c17 c19 c20 c21 c22 c23 c25 c26 c27 c28 c29 c30 c31 c32 c33 c34 c35 c36 c37 c38 c39 c40 c41 c42 c43 c44 c45 c46 c47 c48 c49 c50 c51 c52 c53 c54 c55 c56 c57 c58 c59 c60 c61 c62 c63 c64 c65 c66 c67 c68 c69 c70 c71 c72 c73 c74 c75 c76 c77 c78 c79 c80 c81 c82 c83 c84 c85 c86 c87 c88 c89 c90 c91 c92 c93 c94 c95 c96 c97 c98 c99 c100 c101 c102 c103 c104 c105 c106 c107 c108 c109 c110 c111 c112 c113 c114 c115 c116 c117 c118 c119 c120 c121 c122 c123 c124 c125 c126 c127 c128 c129 c130 c131 c132 c133 c134 c135 c136 c137 c138 c139 c140 c141 c142 c143 c144 c145 c146 c147 c148 c149 c150 c151 c152 c153 c154 c155 c156 c157 c158 c159 c160 c161 c162 c163 c164 c165 c166 c167 c168 c169 c170 c171 c172 c173 c174 c175 c176 c177 c178 c179 c180 c181 c182 c183 c184 c185 c186 c187 c188 c189 c190 c191 c192 c193 c194 c195 c196 c197 c198 c199 c200 c201 c202 c203 c204 c205 c206 c207 c208 c209 c210 c211 c212 c213 c214 c215 c216 c217 c218 c219 : Value) :
  Code.wp Tryz.prog (symK 11) (bodyPost Tryz.prog Tryz.f147 (SymPost go T w0)) ⟨((.slice (some ⟨go, 0, none⟩) n n)::c1::c2::(.int .i64 b)::(.func (.func 117) #[] #[])::c5::c6::c7::c8::c9::c10::c11::c12::c13::c14::c15::c16::c17::(.int .i64 mid)::c19::c20::c21::c22::c23::(.int .i64 e)::c25::c26::c27::c28::c29::c30::c31::c32::c33::c34::c35::c36::c37::c38::c39::c40::c41::c42::c43::c44::c45::c46::c47::c48::c49::c50::c51::c52::c53::c54::c55::c56::c57::c58::c59::c60::c61::c62::c63::c64::c65::c66::c67::c68::c69::c70::c71::c72::c73::c74::c75::c76::c77::c78::c79::c80::c81::c82::c83::c84::c85::c86::c87::c88::c89::c90::c91::c92::c93::c94::c95::c96::c97::c98::c99::c100::c101::c102::c103::c104::c105::c106::c107::c108::c109::c110::c111::c112::c113::c114::c115::c116::c117::c118::c119::c120::c121::c122::c123::c124::c125::c126::c127::c128::c129::c130::c131::c132::c133::c134::c135::c136::c137::c138::c139::c140::c141::c142::c143::c144::c145::c146::c147::c148::c149::c150::c151::c152::c153::c154::c155::c156::c157::c158::c159::c160::c161::c162::c163::c164::c165::c166::c167::c168::c169::c170::c171::c172::c173::c174::c175::c176::c177::c178::c179::c180::c181::c182::c183::c184::c185::c186::c187::c188::c189::c190::c191::c192::c193::c194::c195::c196::c197::c198::c199::c200::c201::c202::c203::c204::c205::c206::c207::c208::c209::c210::c211::c212::c213::c214::c215::c216::c217::c218::c219::[]).toArray, []⟩ w := by
 conv => arg 2; whnf
 have HK := Lib.hid hK; have HB := Lib.hid hB; clear hK hB
 by_cases h1 : mid < e
 ·by_cases h2 : e < b
  ·go_wp2_with fail; refine (HX.out.yes ⟨h1, h2⟩ w HK.out).mono ?_
   rintro en w' ⟨rfl, h3, h4⟩; have H3 := Lib.hid h3; have H4 := Lib.hid h4; clear h3 h4; go_wp2; refine bodyPost_end (v := .tuple #[]) (by simp [results, Tryz.results147]) rfl ?_
   exact ⟨rfl, H3.out, HB.out.trans H4.out⟩
  ·have HF := Lib.hid (HX.out.no (fun h => h2 h.2))
   go_wp2; refine bodyPost_end (v := .tuple #[]) (by simp [results, Tryz.results147]) rfl ?_
   exact ⟨rfl, by rw [← HF.out]; exact HK.out, HB.out⟩
 ·have HF := Lib.hid (HX.out.no (fun h => h1 h.1))
  go_wp2; refine bodyPost_end (v := .tuple #[]) (by simp [results, Tryz.results147]) rfl ?_
  exact ⟨rfl, by rw [← HF.out]; exact HK.out, HB.out⟩
theorem sym10_any {go n a b s mid e : Nat} {M M2 T : List Nat} {w0 w : World} (hK : Blk w go 164 (uA M)) (hB : Below go w0 w)
  (HY : Hid (SymNext go n a s mid (a < s ∧ s < mid) M M2)) (HX : Hid (SymNext go n mid e b (mid < e ∧ e < b) M2 T)) (c2 c5 c6 c7 c8 c9 c10 c11 c12 c13 c14 c15 c16 c17 c19 c21 c22 c23 c25 c26 c27 c28 c29 c30 c31 c32 c33 c34 c35 c36 c37 c38 c39 c40 c41 c42 c43 c44 c45 c46 c47 c48 c49 c50 c51 c52 c53 c54 c55 c56 c57 c58 c59 c60 c61 c62 c63 c64 c65 c66 c67 c68 c69 c70 c71 c72 c73 c74 c75 c76 c77 c78 c79 c80 c81 c82 c83 c84 c85 c86 c87 c88 c89 c90 c91 c92 c93 c94 c95 c96 c97 c98 c99 c100 c101 c102 c103 c104 c105 c106 c107 c108 c109 c110 c111 c112 c113 c114 c115 c116 c117 c118 c119 c120 c121 c122 c123 c124 c125 c126 c127 c128 c129 c130 c131 c132 c133 c134 c135 c136 c137 c138 c139 c140 c141 c142 c143 c144 c145 c146 c147 c148 c149 c150 c151 c152 c153 c154 c155 c156 c157 c158 c159 c160 c161 c162 c163 c164 c165 c166 c167 c168 c169 c170 c171 c172 c173 c174 c175 c176 c177 c178 c179 c180 c181 c182 c183 c184 c185 c186 c187 c188 c189 c190 c191 c192 c193 c194 c195 c196 c197 c198 c199 c200 c201 c202 c203 c204 c205 c206 c207 c208 c209 c210 c211 c212 c213 c214 c215 c216 c217 c218 c219 : Value) :
  Code.wp Tryz.prog (symK 10) (bodyPost Tryz.prog Tryz.f147 (SymPost go T w0)) ⟨((.slice (some ⟨go, 0, none⟩) n n)::(.int .i64 a)::c2::(.int .i64 b)::(.func (.func 117) #[] #[])::c5::c6::c7::c8::c9::c10::c11::c12::c13::c14::c15::c16::c17::(.int .i64 mid)::c19::(.int .i64 s)::c21::c22::c23::(.int .i64 e)::c25::c26::c27::c28::c29::c30::c31::c32::c33::c34::c35::c36::c37::c38::c39::c40::c41::c42::c43::c44::c45::c46::c47::c48::c49::c50::c51::c52::c53::c54::c55::c56::c57::c58::c59::c60::c61::c62::c63::c64::c65::c66::c67::c68::c69::c70::c71::c72::c73::c74::c75::c76::c77::c78::c79::c80::c81::c82::c83::c84::c85::c86::c87::c88::c89::c90::c91::c92::c93::c94::c95::c96::c97::c98::c99::c100::c101::c102::c103::c104::c105::c106::c107::c108::c109::c110::c111::c112::c113::c114::c115::c116::c117::c118::c119::c120::c121::c122::c123::c124::c125::c126::c127::c128::c129::c130::c131::c132::c133::c134::c135::c136::c137::c138::c139::c140::c141::c142::c143::c144::c145::c146::c147::c148::c149::c150::c151::c152::c153::c154::c155::c156::c157::c158::c159::c160::c161::c162::c163::c164::c165::c166::c167::c168::c169::c170::c171::c172::c173::c174::c175::c176::c177::c178::c179::c180::c181::c182::c183::c184::c185::c186::c187::c188::c189::c190::c191::c192::c193::c194::c195::c196::c197::c198::c199::c200::c201::c202::c203::c204::c205::c206::c207::c208::c209::c210::c211::c212::c213::c214::c215::c216::c217::c218::c219::[]).toArray, []⟩ w := by
 conv => arg 2; whnf
 conv => arg 2; arg 2; change symK 11
 have HK := Lib.hid hK; have HB := Lib.hid hB; clear hK hB
 by_cases h1 : a < s
 ·by_cases h2 : s < mid
  ·go_wp2_with fail; refine (HY.out.yes ⟨h1, h2⟩ w HK.out).mono ?_
   rintro en w' ⟨rfl, h3, h4⟩; have H3 := Lib.hid h3; have H4 := Lib.hid h4; clear h3 h4; go_wp2; exact sym11_any H3.out (HB.out.trans H4.out) HX _ _ _ _ _ _ _ _ _ _ _ _ _ _ _ _ _ _ _ _ _ _ _ _ _ _ _ _ _ _ _ _ _ _ _ _ _ _ _ _ _ _ _ _ _ _ _ _ _ _ _ _ _ _ _ _ _ _ _ _ _ _ _ _ _ _ _ _ _ _ _ _ _ _ _ _ _ _ _ _ _ _ _ _ _ _ _ _ _ _ _ _ _ _ _ _ _ _ _ _ _ _ _ _ _ _ _ _ _ _ _ _ _ _ _ _ _ _ _ _ _ _ _ _ _ _ _ _ _ _ _ _ _ _ _ _ _ _ _ _ _ _ _ _ _ _ _ _ _ _ _ _ _ _ _ _ _ _ _ _ _ _ _ _ _ _ _ _ _ _ _ _ _ _ _ _ _ _ _ _ _ _ _ _ _ _ _ _ _ _ _ _ _ _ _ _ _ _ _ _ _ _ _ _ _ _ _ _ _ _ _ _ _ _ _
  ·have HF := Lib.hid (HY.out.no (fun h => h2 h.2))
   go_wp2; exact sym11_any (by rw [← HF.out]; exact HK.out) HB.out HX _ _ _ _ _ _ _ _ _ _ _ _ _ _ _ _ _ _ _ _ _ _ _ _ _ _ _ _ _ _ _ _ _ _ _ _ _ _ _ _ _ _ _ _ _ _ _ _ _ _ _ _ _ _ _ _ _ _ _ _ _ _ _ _ _ _ _ _ _ _ _ _ _ _ _ _ _ _ _ _ _ _ _ _ _ _ _ _ _ _ _ _ _ _ _ _ _ _ _ _ _ _ _ _ _ _ _ _ _ _ _ _ _ _ _ _ _ _ _ _ _ _ _ _ _ _ _ _ _ _ _ _ _ _ _ _ _ _ _ _ _ _ _ _ _ _ _ _ _ _ _ _ _ _ _ _ _ _ _ _ _ _ _ _ _ _ _ _ _ _ _ _ _ _ _ _ _ _ _ _ _ _ _ _ _ _ _ _ _ _ _ _ _ _ _ _ _ _ _ _ _ _ _ _ _ _ _ _ _ _ _ _ _ _ _
 ·have HF := Lib.hid (HY.out.no (fun h => h1 h.1))
  go_wp2; exact sym11_any (by rw [← HF.out]; exact HK.out) HB.out HX _ _ _ _ _ _ _ _ _ _ _ _ _ _ _ _ _ _ _ _ _ _ _ _ _ _ _ _ _ _ _ _ _ _ _ _ _ _ _ _ _ _ _ _ _ _ _ _ _ _ _ _ _ _ _ _ _ _ _ _ _ _ _ _ _ _ _ _ _ _ _ _ _ _ _ _ _ _ _ _ _ _ _ _ _ _ _ _ _ _ _ _ _ _ _ _ _ _ _ _ _ _ _ _ _ _ _ _ _ _ _ _ _ _ _ _ _ _ _ _ _ _ _ _ _ _ _ _ _ _ _ _ _ _ _ _ _ _ _ _ _ _ _ _ _ _ _ _ _ _ _ _ _ _ _ _ _ _ _ _ _ _ _ _ _ _ _ _ _ _ _ _ _ _ _ _ _ _ _ _ _ _ _ _ _ _ _ _ _ _ _ _ _ _ _ _ _ _ _ _ _ _ _ _ _ _ _ _ _ _ _ _ _ _ _
theorem sym9_any {go n a m b s mid e : Nat} {L M M2 T : List Nat} {w0 w : World} (hL : OkL n L) (hn : n ≤ 40) (hen : e ≤ n) (hK : Blk w go 164 (uA L)) (hB : Below go w0 w)
  (HZ : Hid ((s < m ∧ m < e → rotF m 40 (m - s) (e - m) L = M) ∧ (¬ (s < m ∧ m < e) → L = M)))
  (HY : Hid (SymNext go n a s mid (a < s ∧ s < mid) M M2)) (HX : Hid (SymNext go n mid e b (mid < e ∧ e < b) M2 T)) (c5 c6 c7 c8 c9 c10 c11 c12 c13 c14 c15 c16 c17 c19 c21 c22 c23 c25 c26 c27 c28 c29 c30 c31 c32 c33 c34 c35 c36 c37 c38 c39 c40 c41 c42 c43 c44 c45 c46 c47 c48 c49 c50 c51 c52 c53 c54 c55 c56 c57 c58 c59 c60 c61 c62 c63 c64 c65 c66 c67 c68 c69 c70 c71 c72 c73 c74 c75 c76 c77 c78 c79 c80 c81 c82 c83 c84 c85 c86 c87 c88 c89 c90 c91 c92 c93 c94 c95 c96 c97 c98 c99 c100 c101 c102 c103 c104 c105 c106 c107 c108 c109 c110 c111 c112 c113 c114 c115 c116 c117 c118 c119 c120 c121 c122 c123 c124 c125 c126 c127 c128 c129 c130 c131 c132 c133 c134 c135 c136 c137 c138 c139 c140 c141 c142 c143 c144 c145 c146 c147 c148 c149 c150 c151 c152 c153 c154 c155 c156 c157 c158 c159 c160 c161 c162 c163 c164 c165 c166 c167 c168 c169 c170 c171 c172 c173 c174 c175 c176 c177 c178 c179 c180 c181 c182 c183 c184 c185 c186 c187 c188 c189 c190 c191 c192 c193 c194 c195 c196 c197 c198 c199 c200 c201 c202 c203 c204 c205 c206 c207 c208 c209 c210 c211 c212 c213 c214 c215 c216 c217 c218 c219 : Value) :
  Code.wp Tryz.prog (symK 9) (bodyPost Tryz.prog Tryz.f147 (SymPost go T w0)) ⟨((.slice (some ⟨go, 0, none⟩) n n)::(.int .i64 a)::(.int .i64 m)::(.int .i64 b)::(.func (.func 117) #[] #[])::c5::c6::c7::c8::c9::c10::c11::c12::c13::c14::c15::c16::c17::(.int .i64 mid)::c19::(.int .i64 s)::c21::c22::c23::(.int .i64 e)::c25::c26::c27::c28::c29::c30::c31::c32::c33::c34::c35::c36::c37::c38::c39::c40::c41::c42::c43::c44::c45::c46::c47::c48::c49::c50::c51::c52::c53::c54::c55::c56::c57::c58::c59::c60::c61::c62::c63::c64::c65::c66::c67::c68::c69::c70::c71::c72::c73::c74::c75::c76::c77::c78::c79::c80::c81::c82::c83::c84::c85::c86::c87::c88::c89::c90::c91::c92::c93::c94::c95::c96::c97::c98::c99::c100::c101::c102::c103::c104::c105::c106::c107::c108::c109::c110::c111::c112::c113::c114::c115::c116::c117::c118::c119::c120::c121::c122::c123::c124::c125::c126::c127::c128::c129::c130::c131::c132::c133::c134::c135::c136::c137::c138::c139::c140::c141::c142::c143::c144::c145::c146::c147::c148::c149::c150::c151::c152::c153::c154::c155::c156::c157::c158::c159::c160::c161::c162::c163::c164::c165::c166::c167::c168::c169::c170::c171::c172::c173::c174::c175::c176::c177::c178::c179::c180::c181::c182::c183::c184::c185::c186::c187::c188::c189::c190::c191::c192::c193::c194::c195::c196::c197::c198::c199::c200::c201::c202::c203::c204::c205::c206::c207::c208::c209::c210::c211::c212::c213::c214::c215::c216::c217::c218::c219::[]).toArray, []⟩ w := by
 conv => arg 2; whnf
 conv => arg 2; arg 2; change symK 10
 have HK := Lib.hid hK; have HB := Lib.hid hB; clear hK hB
 by_cases h1 : s < m
 ·by_cases h2 : m < e
  ·have HF := Lib.hid (HZ.out.1 ⟨h1, h2⟩); go_wp2_with fail; refine (rot115_any go n s m e L hL hn h1 h2 hen _ w HK.out).mono ?_; rw [HF.out]; rintro en w' ⟨rfl, h3, h4⟩; have H3 := Lib.hid h3; have H4 := Lib.hid h4; clear h3 h4; go_wp2; exact sym10_any H3.out (HB.out.trans H4.out) HY HX _ _ _ _ _ _ _ _ _ _ _ _ _ _ _ _ _ _ _ _ _ _ _ _ _ _ _ _ _ _ _ _ _ _ _ _ _ _ _ _ _ _ _ _ _ _ _ _ _ _ _ _ _ _ _ _ _ _ _ _ _ _ _ _ _ _ _ _ _ _ _ _ _ _ _ _ _ _ _ _ _ _ _ _ _ _ _ _ _ _ _ _ _ _ _ _ _ _ _ _ _ _ _ _ _ _ _ _ _ _ _ _ _ _ _ _ _ _ _ _ _ _ _ _ _ _ _ _ _ _ _ _ _ _ _ _ _ _ _ _ _ _ _ _ _ _ _ _ _ _ _ _ _ _ _ _ _ _ _ _ _ _ _ _ _ _ _ _ _ _ _ _ _ _ _ _ _ _ _ _ _ _ _ _ _ _ _ _ _ _ _ _ _ _ _ _ _ _ _ _ _ _ _ _ _ _ _ _ _ _ _ _ _
  ·have HF := Lib.hid (HZ.out.2 (fun h => h2 h.2))
   go_wp2; exact sym10_any (by rw [← HF.out]; exact HK.out) HB.out HY HX _ _ _ _ _ _ _ _ _ _ _ _ _ _ _ _ _ _ _ _ _ _ _ _ _ _ _ _ _ _ _ _ _ _ _ _ _ _ _ _ _ _ _ _ _ _ _ _ _ _ _ _ _ _ _ _ _ _ _ _ _ _ _ _ _ _ _ _ _ _ _ _ _ _ _ _ _ _ _ _ _ _ _ _ _ _ _ _ _ _ _ _ _ _ _ _ _ _ _ _ _ _ _ _ _ _ _ _ _ _ _ _ _ _ _ _ _ _ _ _ _ _ _ _ _ _ _ _ _ _ _ _ _ _ _ _ _ _ _ _ _ _ _ _ _ _ _ _ _ _ _ _ _ _ _ _ _ _ _ _ _ _ _ _ _ _ _ _ _ _ _ _ _ _ _ _ _ _ _ _ _ _ _ _ _ _ _ _ _ _ _ _ _ _ _ _ _ _ _ _ _ _ _ _ _ _ _ _ _ _ _ _ _
 ·have HF := Lib.hid (HZ.out.2 (fun h => h1 h.1))
  go_wp2; exact sym10_any (by rw [← HF.out]; exact HK.out) HB.out HY HX _ _ _ _ _ _ _ _ _ _ _ _ _ _ _ _ _ _ _ _ _ _ _ _ _ _ _ _ _ _ _ _ _ _ _ _ _ _ _ _ _ _ _ _ _ _ _ _ _ _ _ _ _ _ _ _ _ _ _ _ _ _ _ _ _ _ _ _ _ _ _ _ _ _ _ _ _ _ _ _ _ _ _ _ _ _ _ _ _ _ _ _ _ _ _ _ _ _ _ _ _ _ _ _ _ _ _ _ _ _ _ _ _ _ _ _ _ _ _ _ _ _ _ _ _ _ _ _ _ _ _ _ _ _ _ _ _ _ _ _ _ _ _ _ _ _ _ _ _ _ _ _ _ _ _ _ _ _ _ _ _ _ _ _ _ _ _ _ _ _ _ _ _ _ _ _ _ _ _ _ _ _ _ _ _ _ _ _ _ _ _ _ _ _ _ _ _ _ _ _ _ _ _ _ _ _ _ _ _ _ _ _ _
theorem sym6_any {go n a m b mid N St Rr S0 E : Nat} {L M M2 T : List Nat} {w0 w : World} (hL : OkL n L) (hn : n ≤ 40) (hbn : b ≤ n) (h1 : St ≤ Rr) (h2 : Rr ≤ N) (h3 : N ≤ b + St) (h4 : Rr ≤ b) (hS : halfF (fun c => !lessN (atN L (N - 1 - c)) (atN L c)) 40 St Rr = S0) (hE : E = N - S0) (hK : Blk w go 164 (uA L)) (hB : Below go w0 w)
  (HZ : Hid ((S0 < m ∧ m < E → rotF m 40 (m - S0) (E - m) L = M) ∧ (¬ (S0 < m ∧ m < E) → L = M)))
  (HY : Hid (SymNext go n a S0 mid (a < S0 ∧ S0 < mid) M M2)) (HX : Hid (SymNext go n mid E b (mid < E ∧ E < b) M2 T)) (hN : 1 ≤ N) (c5 c6 c7 c8 c9 c10 c11 c12 c13 c14 c15 c16 c17 c22 c23 c24 c25 c26 c27 c28 c29 c30 c31 c32 c33 c34 c35 c36 c37 c38 c39 c40 c41 c42 c43 c44 c45 c46 c47 c48 c49 c50 c51 c52 c53 c54 c55 c56 c57 c58 c59 c60 c61 c62 c63 c64 c65 c66 c67 c68 c69 c70 c71 c72 c73 c74 c75 c76 c77 c78 c79 c80 c81 c82 c83 c84 c85 c86 c87 c88 c89 c90 c91 c92 c93 c94 c95 c96 c97 c98 c99 c100 c101 c102 c103 c104 c105 c106 c107 c108 c109 c110 c111 c112 c113 c114 c115 c116 c117 c118 c119 c120 c121 c122 c123 c124 c125 c126 c127 c128 c129 c130 c131 c132 c133 c134 c135 c136 c137 c138 c139 c140 c141 c142 c143 c144 c145 c146 c147 c148 c149 c150 c151 c152 c153 c154 c155 c156 c157 c158 c159 c160 c161 c162 c163 c164 c165 c166 c167 c168 c169 c170 c171 c172 c173 c174 c175 c176 c177 c178 c179 c180 c181 c182 c183 c184 c185 c186 c187 c188 c189 c190 c191 c192 c193 c194 c195 c196 c197 c198 c199 c200 c201 c202 c203 c204 c205 c206 c207 c208 c209 c210 c211 c212 c213 c214 c215 c216 c217 c218 c219 : Value) :
  Code.wp Tryz.prog (symK 6) (bodyPost Tryz.prog Tryz.f147 (SymPost go T w0)) ⟨((.slice (some ⟨go, 0, none⟩) n n)::(.int .i64 a)::(.int .i64 m)::(.int .i64 b)::(.func (.func 117) #[] #[])::c5::c6::c7::c8::c9::c10::c11::c12::c13::c14::c15::c16::c17::(.int .i64 mid)::(.int .i64 N)::(.int .i64 St)::(.int .i64 Rr)::c22::c23::c24::c25::c26::c27::c28::c29::c30::c31::c32::c33::c34::c35::c36::c37::c38::c39::c40::c41::c42::c43::c44::c45::c46::c47::c48::c49::c50::c51::c52::c53::c54::c55::c56::c57::c58::c59::c60::c61::c62::c63::c64::c65::c66::c67::c68::c69::c70::c71::c72::c73::c74::c75::c76::c77::c78::c79::c80::c81::c82::c83::c84::c85::c86::c87::c88::c89::c90::c91::c92::c93::c94::c95::c96::c97::c98::c99::c100::c101::c102::c103::c104::c105::c106::c107::c108::c109::c110::c111::c112::c113::c114::c115::c116::c117::c118::c119::c120::c121::c122::c123::c124::c125::c126::c127::c128::c129::c130::c131::c132::c133::c134::c135::c136::c137::c138::c139::c140::c141::c142::c143::c144::c145::c146::c147::c148::c149::c150::c151::c152::c153::c154::c155::c156::c157::c158::c159::c160::c161::c162::c163::c164::c165::c166::c167::c168::c169::c170::c171::c172::c173::c174::c175::c176::c177::c178::c179::c180::c181::c182::c183::c184::c185::c186::c187::c188::c189::c190::c191::c192::c193::c194::c195::c196::c197::c198::c199::c200::c201::c202::c203::c204::c205::c206::c207::c208::c209::c210::c211::c212::c213::c214::c215::c216::c217::c218::c219::[]).toArray, []⟩ w := by
 conv => arg 2; whnf
 conv => arg 2; arg 2; arg 2; arg 2; change symK 9
 have HK0 := Lib.hid hK; have HB0 := Lib.hid hB; have HLL := Lib.hid hL
 obtain ⟨p, hp⟩ : ∃ p, p = fun c => !lessN (atN L (N - 1 - c)) (atN L c) := ⟨_, rfl⟩
 rw [← hp] at hS; have HP := Lib.hid hp; have HR := Lib.hid hS; have HE := Lib.hid hE; obtain ⟨P, hP⟩ : ∃ P, P = N - 1 := ⟨_, rfl⟩; have hw0 : IntKind.i64.wrap ((N : Int) - 1) = (P : Int) := (IntWalk.i64_in _ (by omega)).trans (by omega)
 have HPN := Lib.hid hP; clear hK hB hL hp hS hE hP; go_wp2; clear hw0
 go_loopw [20, 21] (fun u v wr => ∃ (f i j : Nat), (u = .int .i64 i ∧ v = .int .i64 j) ∧ St ≤ i ∧ i ≤ j ∧ j ≤ Rr ∧ j - i ≤ f ∧ Hid (halfF p f i j = S0) ∧ Hid (Blk wr go 164 (uA L)) ∧ Hid (Below go w0 wr)) (fun u v _ => (intOf v).toNat - (intOf u).toNat)
 case atStart => exact ⟨40, St, Rr, ⟨rfl, rfl⟩, Nat.le_refl _, h1, Nat.le_refl _, by omega, HR, HK0, HB0⟩
 case round =>
  obtain ⟨f, i, j, ⟨rfl, rfl⟩, k1, k2, k3, k4, HS, HK, HB⟩ := hrel
  by_cases hlt : i < j
  ·obtain ⟨s, hs⟩ : ∃ s, s = i + j := ⟨_, rfl⟩; have w1 : IntKind.i64.wrap ((i : Int) + (j : Int)) = (s : Int) := (IntWalk.i64_in _ (by omega)).trans (by omega)
   obtain ⟨h, hh⟩ : ∃ h, h = (i + j) / 2 := ⟨_, rfl⟩; have W2 := Lib.hid (half64 s h (by omega) (by rw [hs]; exact hh))
   obtain ⟨g, hg⟩ : ∃ g, g = P - h := ⟨_, rfl⟩; have hPN := HPN.out; have w4 : IntKind.i64.wrap ((P : Int) - (h : Int)) = (g : Int) := (IntWalk.i64_in _ (by omega)).trans (by omega)
   have q1 : (h : Int) < (n : Int) := by omega
   have q2 : (g : Int) < (n : Int) := by omega
   have q3 : i ≤ h := by omega
   have q4 : h < j := by omega
   obtain ⟨f, rfl⟩ : ∃ g, f = g + 1 := ⟨f - 1, by omega⟩
   have HST : Hid (p h = true → halfF p f (h + 1) j = S0) := fun e => by
    have h1 := HS.out; rw [halfF, if_pos hlt, ← hh, if_pos e] at h1; exact h1
   have HSF : Hid (¬ p h = true → halfF p f i h = S0) := fun e => by
    have h1 := HS.out; rw [halfF, if_pos hlt, ← hh, if_neg e] at h1; exact h1
   have hf1 : j - (h + 1) ≤ f := by omega
   have hf2 : h - i ≤ f := by omega
   obtain ⟨x, hx⟩ : ∃ x, atN L g = x := ⟨_, rfl⟩; obtain ⟨y, hy⟩ : ∃ y, atN L h = y := ⟨_, rfl⟩; have hx32 : x < 32 := by rw [← hx]; exact atN_lt HLL.out.2 _
   have hy32 : y < 32 := by rw [← hy]; exact atN_lt HLL.out.2 _
   have HPH : Hid (p h = !decide (sizeP x < sizeP y)) := by show _ = _; rw [HP.out]; simp only [lessN]; rw [← hPN, ← hg, hx, hy]
   have hc1 : wr.cell? ⟨go, g, none⟩ = some (.int .u64 x) := by rw [HK.out.cell, uA_at (by rw [HLL.out.1]; omega), hx]
   have hc0 : wr.cell? ⟨go, h, none⟩ = some (.int .u64 y) := by rw [HK.out.cell, uA_at (by rw [HLL.out.1]; omega), hy]
   have hlq := HK.out.lt; have w3 : IntKind.i64.wrap ((h : Int) + 1) = (h : Int) + 1 := IntWalk.i64_in _ (by omega)
   clear hs hh hx hy hg hPN; go_wp2; rw [W2.out]
   refine wp_region_havoc [(0,false),(1,false),(2,false),(3,false),(4,false),(5,false),(6,false),(7,false),(8,false),(9,false),(10,false),(11,false),(12,false),(13,false)] [] (fun _ _ => False) (by kernel_rfl) (by kernel_rfl) (fun _ _ _ _ h => h.elim) ?_
   (apply hav_same (by exact ho rfl) (by kernel_rfl); (focus (intro wv hgv _; have hcv := cvB hgv; (try go_simp); try rfl; done)); simp only [Act.put, List.setIfInBounds_toArray, List.set_cons_succ, List.set_cons_zero])
   iterate 10 (apply hav_same (by exact ho rfl) (by kernel_rfl); (focus (intro wv hgv _; have hcv := cvB hgv; (try go_simp); try rfl; done)); simp only [Act.put, List.setIfInBounds_toArray, List.set_cons_succ, List.set_cons_zero])
   (apply hav_call (by exact ho rfl) (by kernel_rfl); (focus (intro wv; go_simp; try exact ⟨rfl, rfl⟩; done)); (focus (intro wv hgv _; exact (less_any x y hx32 hy32 wv).mono fun e w' h => ⟨h.1, by rw [h.2]; exact Below.refl _ _⟩; done)); simp only [Act.put, List.setIfInBounds_toArray, List.set_cons_succ, List.set_cons_zero])
   by_cases hxx : (sizeP x : Int) - sizeP y < 0
   ·have hdx : decide ((sizeP x : Int) - sizeP y < 0) = true := by simp [hxx]
    iterate 2 (apply hav_same (by exact ho rfl) (by kernel_rfl); (focus (intro wv hgv _; have hcv := cvB hgv; (try go_simp); try rfl; done)); simp only [Act.put, List.setIfInBounds_toArray, List.set_cons_succ, List.set_cons_zero])
    refine hav_end (fun w1 hgw1 _ => ?_); simp only [List.filterMap]; have hcw1 : ∀ b o, b < _ → w1.cell? ⟨b, o, none⟩ = _ := fun b o hb => Below.cell hgw1 (p := ⟨b, o, none⟩) hb; have hfw1 : ∀ b o, b < _ → w1.frozen? ⟨b, o, none⟩ = _ := fun b o hb => Below.frozen hgw1 (p := ⟨b, o, none⟩) hb; have hzw1 := Below.size hgw1; (try simp at hzw1)
    have HK1 : Hid (Blk w1 go 164 (uA L)) := HK.out.below hgw1 hlq; have HB1 : Hid (Below go w0 w1) := HB.out.trans (hgw1.mono (by omega))
    have HSN := Lib.hid (HSF.out (by rw [HPH.out]; simp; omega))
    clear hgw1 hcw1 hfw1 hc1 hc0 hdx; go_wp2; go_roundw
    case rel => exact ⟨f, i, h, ⟨rfl, rfl⟩, k1, by omega, by omega, hf2, HSN, HK1, HB1⟩
    case measure => simp [intOf]; omega
   ·have hdx : decide ((sizeP x : Int) - sizeP y < 0) = false := by simp; omega
    iterate 2 (apply hav_same (by exact ho rfl) (by kernel_rfl); (focus (intro wv hgv _; have hcv := cvB hgv; (try go_simp); try rfl; done)); simp only [Act.put, List.setIfInBounds_toArray, List.set_cons_succ, List.set_cons_zero])
    refine hav_end (fun w1 hgw1 _ => ?_); simp only [List.filterMap]; have hcw1 : ∀ b o, b < _ → w1.cell? ⟨b, o, none⟩ = _ := fun b o hb => Below.cell hgw1 (p := ⟨b, o, none⟩) hb; have hfw1 : ∀ b o, b < _ → w1.frozen? ⟨b, o, none⟩ = _ := fun b o hb => Below.frozen hgw1 (p := ⟨b, o, none⟩) hb; have hzw1 := Below.size hgw1; (try simp at hzw1)
    have HK1 : Hid (Blk w1 go 164 (uA L)) := HK.out.below hgw1 hlq; have HB1 : Hid (Below go w0 w1) := HB.out.trans (hgw1.mono (by omega))
    have HSN := Lib.hid (HST.out (by rw [HPH.out]; simp; omega))
    clear hgw1 hcw1 hfw1 hc1 hc0; go_wp2; go_roundw
    case rel => exact ⟨f, h + 1, j, ⟨by go_num, rfl⟩, by omega, by omega, k3, hf1, HSN, HK1, HB1⟩
    case measure => simp [intOf]; omega
  ·obtain rfl : i = j := by omega
   have hRi : S0 = i := by
    have h1 := HS.out
    cases f with
    | zero => exact h1.symm
    | succ f => rw [halfF, if_neg (by omega)] at h1; exact h1.symm
   subst hRi; have hEE := HE.out; have wE : IntKind.i64.wrap ((N : Int) - (S0 : Int)) = (E : Int) := (IntWalk.i64_in _ (by omega)).trans (by omega)
   have hEn : E ≤ n := by omega
   clear HS HR hEE; go_wp2; exact sym9_any HLL.out hn hEn HK.out HB.out HZ HY HX _ _ _ _ _ _ _ _ _ _ _ _ _ _ _ _ _ _ _ _ _ _ _ _ _ _ _ _ _ _ _ _ _ _ _ _ _ _ _ _ _ _ _ _ _ _ _ _ _ _ _ _ _ _ _ _ _ _ _ _ _ _ _ _ _ _ _ _ _ _ _ _ _ _ _ _ _ _ _ _ _ _ _ _ _ _ _ _ _ _ _ _ _ _ _ _ _ _ _ _ _ _ _ _ _ _ _ _ _ _ _ _ _ _ _ _ _ _ _ _ _ _ _ _ _ _ _ _ _ _ _ _ _ _ _ _ _ _ _ _ _ _ _ _ _ _ _ _ _ _ _ _ _ _ _ _ _ _ _ _ _ _ _ _ _ _ _ _ _ _ _ _ _ _ _ _ _ _ _ _ _ _ _ _ _ _ _ _ _ _ _ _ _ _ _ _ _ _ _ _ _ _ _ _ _ _ _ _ _ _ _ _
theorem symF_more {f a m b : Nat} {L : List Nat} (h1 : m - a ≠ 1) (h2 : b - m ≠ 1) {St Rr S0 E : Nat} (hSt : St = if (a + b) / 2 < m then (a + b) / 2 + m - b else a) (hR : Rr = if (a + b) / 2 < m then (a + b) / 2 else m)
  (hS : halfF (fun c => !lessN (atN L ((a + b) / 2 + m - 1 - c)) (atN L c)) 40 St Rr = S0) (hE : E = (a + b) / 2 + m - S0) {M M2 T : List Nat}
  (hM : M = if S0 < m ∧ m < E then rotF m 40 (m - S0) (E - m) L else L) (hM2 : M2 = if a < S0 ∧ S0 < (a + b) / 2 then symF f a S0 ((a + b) / 2) M else M)
  (hT : T = if (a + b) / 2 < E ∧ E < b then symF f ((a + b) / 2) E b M2 else M2) : symF (f + 1) a m b L = T := by
 rw [symF, if_neg h1, if_neg h2]; simp only; rw [← hSt, ← hR, hS, ← hE, ← hM, ← hM2, ← hT]
end Go.Proofs.YtgmfhngcehkibaaGreat
namespace Go.Proofs.YtgmfhngcehkibaaGreat
open Go.RowKit Go.Hav Go.Shelf Go.Sq
attribute [local go_sem] Oper.semAt_some
theorem OkL.sym {n : Nat} : ∀ (f a m b : Nat) {L : List Nat}, OkL n L → OkL n (symF f a m b L)
 | 0, _, _, _, _, h => h
 | f + 1, a, m, b, L, h => by
  have hr : ∀ s e, OkL n (if s < m ∧ m < e then rotF m 40 (m - s) (e - m) L else L) := fun s e => by
   split
   ·exact OkL.rot _ _ _ h
   ·exact h
  have h2 : ∀ (s : Nat) (M : List Nat), OkL n M → OkL n (if a < s ∧ s < (a + b) / 2 then symF f a s ((a + b) / 2) M else M) := fun s M hM => by
   split
   ·exact OkL.sym f _ _ _ hM
   ·exact hM
  rw [symF]
  split
  ·exact OkL.up _ _ h
  ·split
   ·exact OkL.down _ _ h
   ·simp only
    generalize halfF _ 40 _ _ = s
    generalize (a + b) / 2 + m - s = e
    have h3 := h2 s _ (hr s e)
    split
    ·exact OkL.sym f _ _ _ h3
    ·exact h3
theorem sym114_any (go n : Nat) (hn : n ≤ 40) : ∀ (f a m b : Nat) (L : List Nat) (w : World), OkL n L → a < m → m < b → b ≤ n → b - a ≤ 2 ^ f → Blk w go 164 (uA L) →
  Calls Tryz.prog 147 #[.slice (some ⟨go, 0, none⟩) n n, .int .i64 a, .int .i64 m, .int .i64 b, .func (.func 117) #[] #[]] w (SymPost go (symF f a m b L) w) := by
 intro f
 induction f with
 | zero => intro a m b L w _ h1 h2 _ h3; simp at h3; omega
 | succ f ih =>
  intro a m b L w hL ham hmb hbn hf hO; rw [Nat.pow_succ] at hf
  by_cases c1 : m - a = 1
  ·have e : symF (f + 1) a m b L = upF (halfF (fun h => lessN (atN L h) (atN L a)) 40 m b - 1 - a) a L := by rw [symF, if_pos c1]
   rw [e]; exact symOne go n a m b L hL hn (by omega) hmb hbn w hO
  by_cases c2 : b - m = 1
  ·have e : symF (f + 1) a m b L = downF (m - halfF (fun h => !lessN (atN L m) (atN L h)) 40 a m) m L := by rw [symF, if_neg c1, if_pos c2]
   rw [e]; exact symTwo go n a m b L hL hn (by omega) (by omega) hbn w hO
  obtain ⟨mid, hmid⟩ : ∃ mid, mid = (a + b) / 2 := ⟨_, rfl⟩; obtain ⟨St, hSt⟩ : ∃ St, St = if mid < m then mid + m - b else a := ⟨_, rfl⟩
  obtain ⟨Rr, hRr⟩ : ∃ Rr, Rr = if mid < m then mid else m := ⟨_, rfl⟩
  obtain ⟨S0, hS⟩ : ∃ S0, halfF (fun c => !lessN (atN L (mid + m - 1 - c)) (atN L c)) 40 St Rr = S0 := ⟨_, rfl⟩
  obtain ⟨E, hE⟩ : ∃ E, E = mid + m - S0 := ⟨_, rfl⟩; obtain ⟨M, hM⟩ : ∃ M, M = if S0 < m ∧ m < E then rotF m 40 (m - S0) (E - m) L else L := ⟨_, rfl⟩
  obtain ⟨M2, hM2⟩ : ∃ M2, M2 = if a < S0 ∧ S0 < mid then symF f a S0 mid M else M := ⟨_, rfl⟩
  obtain ⟨T, hT⟩ : ∃ T, T = if mid < E ∧ E < b then symF f mid E b M2 else M2 := ⟨_, rfl⟩
  have eT : symF (f + 1) a m b L = T := by
   subst hmid; exact symF_more c1 c2 hSt hRr hS hE hM hM2 hT
  rw [eT]
  have hOM : OkL n M := by
   rw [hM]
   split
   ·exact OkL.rot _ _ _ hL
   ·exact hL
  have hOM2 : OkL n M2 := by
   rw [hM2]
   split
   ·exact OkL.sym _ _ _ _ hOM
   ·exact hOM
  have HZ : Hid ((S0 < m ∧ m < E → rotF m 40 (m - S0) (E - m) L = M) ∧ (¬ (S0 < m ∧ m < E) → L = M)) := ⟨fun h => by rw [hM, if_pos h], fun h => by rw [hM, if_neg h]⟩
  have HY : Hid (SymNext go n a S0 mid (a < S0 ∧ S0 < mid) M M2) := ⟨fun h wv hk => by rw [hM2, if_pos h]; exact ih a S0 mid M wv hOM h.1 h.2 (by omega) (by omega) hk, fun h => by rw [hM2, if_neg h]⟩
  have HX : Hid (SymNext go n mid E b (mid < E ∧ E < b) M2 T) := ⟨fun h wv hk => by rw [hT, if_pos h]; exact ih mid E b M2 wv hOM2 h.1 h.2 hbn (by omega) hk, fun h => by rw [hT, if_neg h]⟩
  obtain ⟨N, hN⟩ : ∃ N, N = mid + m := ⟨_, rfl⟩; rw [← hN] at hS hE
  have g1 : St ≤ Rr ∧ Rr ≤ N ∧ N ≤ b + St ∧ Rr ≤ b := by
   rw [hSt, hRr]
   split <;> omega
  have HEQ : Hid (∀ c5 c6 c7 c8 c9 c10 c11 c12 c13 c14 c15 c16 c17 c22 c23 c24 c25 c26 c27 c28 c29 c30 c31 c32 c33 c34 c35 c36 c37 c38 c39 c40 c41 c42 c43 c44 c45 c46 c47 c48 c49 c50 c51 c52 c53 c54 c55 c56 c57 c58 c59 c60 c61 c62 c63 c64 c65 c66 c67 c68 c69 c70 c71 c72 c73 c74 c75 c76 c77 c78 c79 c80 c81 c82 c83 c84 c85 c86 c87 c88 c89 c90 c91 c92 c93 c94 c95 c96 c97 c98 c99 c100 c101 c102 c103 c104 c105 c106 c107 c108 c109 c110 c111 c112 c113 c114 c115 c116 c117 c118 c119 c120 c121 c122 c123 c124 c125 c126 c127 c128 c129 c130 c131 c132 c133 c134 c135 c136 c137 c138 c139 c140 c141 c142 c143 c144 c145 c146 c147 c148 c149 c150 c151 c152 c153 c154 c155 c156 c157 c158 c159 c160 c161 c162 c163 c164 c165 c166 c167 c168 c169 c170 c171 c172 c173 c174 c175 c176 c177 c178 c179 c180 c181 c182 c183 c184 c185 c186 c187 c188 c189 c190 c191 c192 c193 c194 c195 c196 c197 c198 c199 c200 c201 c202 c203 c204 c205 c206 c207 c208 c209 c210 c211 c212 c213 c214 c215 c216 c217 c218 c219, Code.wp Tryz.prog (symK 6) (bodyPost Tryz.prog Tryz.f147 (SymPost go T w)) ⟨((.slice (some ⟨go, 0, none⟩) n n)::(.int .i64 a)::(.int .i64 m)::(.int .i64 b)::(.func (.func 117) #[] #[])::c5::c6::c7::c8::c9::c10::c11::c12::c13::c14::c15::c16::c17::(.int .i64 mid)::(.int .i64 N)::(.int .i64 St)::(.int .i64 Rr)::c22::c23::c24::c25::c26::c27::c28::c29::c30::c31::c32::c33::c34::c35::c36::c37::c38::c39::c40::c41::c42::c43::c44::c45::c46::c47::c48::c49::c50::c51::c52::c53::c54::c55::c56::c57::c58::c59::c60::c61::c62::c63::c64::c65::c66::c67::c68::c69::c70::c71::c72::c73::c74::c75::c76::c77::c78::c79::c80::c81::c82::c83::c84::c85::c86::c87::c88::c89::c90::c91::c92::c93::c94::c95::c96::c97::c98::c99::c100::c101::c102::c103::c104::c105::c106::c107::c108::c109::c110::c111::c112::c113::c114::c115::c116::c117::c118::c119::c120::c121::c122::c123::c124::c125::c126::c127::c128::c129::c130::c131::c132::c133::c134::c135::c136::c137::c138::c139::c140::c141::c142::c143::c144::c145::c146::c147::c148::c149::c150::c151::c152::c153::c154::c155::c156::c157::c158::c159::c160::c161::c162::c163::c164::c165::c166::c167::c168::c169::c170::c171::c172::c173::c174::c175::c176::c177::c178::c179::c180::c181::c182::c183::c184::c185::c186::c187::c188::c189::c190::c191::c192::c193::c194::c195::c196::c197::c198::c199::c200::c201::c202::c203::c204::c205::c206::c207::c208::c209::c210::c211::c212::c213::c214::c215::c216::c217::c218::c219::[]).toArray, []⟩ w) :=
   fun c5 c6 c7 c8 c9 c10 c11 c12 c13 c14 c15 c16 c17 c22 c23 c24 c25 c26 c27 c28 c29 c30 c31 c32 c33 c34 c35 c36 c37 c38 c39 c40 c41 c42 c43 c44 c45 c46 c47 c48 c49 c50 c51 c52 c53 c54 c55 c56 c57 c58 c59 c60 c61 c62 c63 c64 c65 c66 c67 c68 c69 c70 c71 c72 c73 c74 c75 c76 c77 c78 c79 c80 c81 c82 c83 c84 c85 c86 c87 c88 c89 c90 c91 c92 c93 c94 c95 c96 c97 c98 c99 c100 c101 c102 c103 c104 c105 c106 c107 c108 c109 c110 c111 c112 c113 c114 c115 c116 c117 c118 c119 c120 c121 c122 c123 c124 c125 c126 c127 c128 c129 c130 c131 c132 c133 c134 c135 c136 c137 c138 c139 c140 c141 c142 c143 c144 c145 c146 c147 c148 c149 c150 c151 c152 c153 c154 c155 c156 c157 c158 c159 c160 c161 c162 c163 c164 c165 c166 c167 c168 c169 c170 c171 c172 c173 c174 c175 c176 c177 c178 c179 c180 c181 c182 c183 c184 c185 c186 c187 c188 c189 c190 c191 c192 c193 c194 c195 c196 c197 c198 c199 c200 c201 c202 c203 c204 c205 c206 c207 c208 c209 c210 c211 c212 c213 c214 c215 c216 c217 c218 c219 => sym6_any hL hn hbn g1.1 g1.2.1 g1.2.2.1 g1.2.2.2 hS hE hO (Below.refl _ _) HZ HY HX (by omega) c5 c6 c7 c8 c9 c10 c11 c12 c13 c14 c15 c16 c17 c22 c23 c24 c25 c26 c27 c28 c29 c30 c31 c32 c33 c34 c35 c36 c37 c38 c39 c40 c41 c42 c43 c44 c45 c46 c47 c48 c49 c50 c51 c52 c53 c54 c55 c56 c57 c58 c59 c60 c61 c62 c63 c64 c65 c66 c67 c68 c69 c70 c71 c72 c73 c74 c75 c76 c77 c78 c79 c80 c81 c82 c83 c84 c85 c86 c87 c88 c89 c90 c91 c92 c93 c94 c95 c96 c97 c98 c99 c100 c101 c102 c103 c104 c105 c106 c107 c108 c109 c110 c111 c112 c113 c114 c115 c116 c117 c118 c119 c120 c121 c122 c123 c124 c125 c126 c127 c128 c129 c130 c131 c132 c133 c134 c135 c136 c137 c138 c139 c140 c141 c142 c143 c144 c145 c146 c147 c148 c149 c150 c151 c152 c153 c154 c155 c156 c157 c158 c159 c160 c161 c162 c163 c164 c165 c166 c167 c168 c169 c170 c171 c172 c173 c174 c175 c176 c177 c178 c179 c180 c181 c182 c183 c184 c185 c186 c187 c188 c189 c190 c191 c192 c193 c194 c195 c196 c197 c198 c199 c200 c201 c202 c203 c204 c205 c206 c207 c208 c209 c210 c211 c212 c213 c214 c215 c216 c217 c218 c219
  obtain ⟨s1, hs1⟩ : ∃ s1, s1 = a + b := ⟨_, rfl⟩; have W2 := Lib.hid (half64 s1 mid (by omega) (by rw [hs1]; exact hmid))
  obtain ⟨D1, hD1⟩ : ∃ D1, D1 = m - a := ⟨_, rfl⟩; obtain ⟨D2, hD2⟩ : ∃ D2, D2 = b - m := ⟨_, rfl⟩; have w1 : IntKind.i64.wrap ((m : Int) - (a : Int)) = (D1 : Int) := (IntWalk.i64_in _ (by omega)).trans (by omega)
  have w2 : IntKind.i64.wrap ((b : Int) - (m : Int)) = (D2 : Int) := (IntWalk.i64_in _ (by omega)).trans (by omega)
  have w3 : IntKind.i64.wrap ((a : Int) + (b : Int)) = (s1 : Int) := (IntWalk.i64_in _ (by omega)).trans (by omega)
  have w4 : IntKind.i64.wrap ((mid : Int) + (m : Int)) = (N : Int) := (IntWalk.i64_in _ (by omega)).trans (by omega)
  have t1 : ((D1 : Int) == 1) = false := by simp; omega
  have t2 : ((D2 : Int) == 1) = false := by simp; omega
  have HSt := Lib.hid hSt; have HRr := Lib.hid hRr; have HNN := Lib.hid hN
  have HGE : Hid (mid < m → b ≤ N ∧ N ≤ 80) := fun h => by omega
  have hb40 : b ≤ 40 := by omega
  have hm40 : m ≤ b := by omega
  clear hS hE hM hM2 hT eT hOM hOM2 HZ HY HX hSt hRr hN g1 hs1 hD1 hD2 ih hL hO c1 c2 hmid
  go_enter Tryz.func147, Tryz.ntmps147
  conv => arg 2; whnf
  conv => arg 2; arg 2; arg 2; arg 2; arg 2; arg 2; arg 2; change symK 6
  go_upto_region 25 with (fail); rw [W2.out]
  by_cases hmm : mid < m
  ·have hS1 := HSt.out; have hR1 := HRr.out; rw [if_pos hmm] at hS1 hR1; have hNN := HGE.out hmm; have hNe := HNN.out; have w5 : IntKind.i64.wrap ((N : Int) - (b : Int)) = (St : Int) := (IntWalk.i64_in _ (by omega)).trans (by omega)
   subst hR1; clear hS1 hNN hNe; go_wp2; exact HEQ.out _ _ _ _ _ _ _ _ _ _ _ _ _ _ _ _ _ _ _ _ _ _ _ _ _ _ _ _ _ _ _ _ _ _ _ _ _ _ _ _ _ _ _ _ _ _ _ _ _ _ _ _ _ _ _ _ _ _ _ _ _ _ _ _ _ _ _ _ _ _ _ _ _ _ _ _ _ _ _ _ _ _ _ _ _ _ _ _ _ _ _ _ _ _ _ _ _ _ _ _ _ _ _ _ _ _ _ _ _ _ _ _ _ _ _ _ _ _ _ _ _ _ _ _ _ _ _ _ _ _ _ _ _ _ _ _ _ _ _ _ _ _ _ _ _ _ _ _ _ _ _ _ _ _ _ _ _ _ _ _ _ _ _ _ _ _ _ _ _ _ _ _ _ _ _ _ _ _ _ _ _ _ _ _ _ _ _ _ _ _ _ _ _ _ _ _ _ _ _ _ _ _ _ _ _ _ _ _ _ _ _
  ·have hS1 := HSt.out; have hR1 := HRr.out; rw [if_neg hmm] at hS1 hR1; subst hS1 hR1; go_wp2; exact HEQ.out _ _ _ _ _ _ _ _ _ _ _ _ _ _ _ _ _ _ _ _ _ _ _ _ _ _ _ _ _ _ _ _ _ _ _ _ _ _ _ _ _ _ _ _ _ _ _ _ _ _ _ _ _ _ _ _ _ _ _ _ _ _ _ _ _ _ _ _ _ _ _ _ _ _ _ _ _ _ _ _ _ _ _ _ _ _ _ _ _ _ _ _ _ _ _ _ _ _ _ _ _ _ _ _ _ _ _ _ _ _ _ _ _ _ _ _ _ _ _ _ _ _ _ _ _ _ _ _ _ _ _ _ _ _ _ _ _ _ _ _ _ _ _ _ _ _ _ _ _ _ _ _ _ _ _ _ _ _ _ _ _ _ _ _ _ _ _ _ _ _ _ _ _ _ _ _ _ _ _ _ _ _ _ _ _ _ _ _ _ _ _ _ _ _ _ _ _ _ _ _ _ _ _ _ _ _ _ _ _ _ _
theorem stable_small (go n : Nat) (L : List Nat) (hL : OkL n L) (h1 : 1 ≤ n) (h2 : n < 20) (w : World) (hO : Blk w go 164 (uA L)) :
  Calls Tryz.prog 136 #[.slice (some ⟨go, 0, none⟩) n n, .int .i64 n, .func (.func 117) #[] #[]] w (SymPost go (stableF n L) w) := by
 have e : stableF n L = insF 0 (n - 1) 1 L := by rw [stableF, if_pos h2]
 rw [e]
 have HI : Hid (Calls Tryz.prog 146 #[.slice (some ⟨go, 0, none⟩) n n, .int .i64 0, .int .i64 n, .func (.func 117) #[] #[]] w (SymPost go (insF 0 (n - 1) 1 L) w)) := by
  have h := ins113_any go n 0 n L hL.1 (by omega) (by omega) (Nat.le_refl _) hL.2 w hO
  rw [Nat.zero_add] at h; exact h
 clear hO hL e
 go_enter Tryz.func136, Tryz.ntmps136
 go_wp2; refine wp_loop_rounds 1 ?_
 rw [rounds_succ]; go_wp2_with fail; refine HI.out.mono ?_; rintro en w1 ⟨rfl, h3, h4⟩; have H3 := Lib.hid h3; have H4 := Lib.hid h4; clear h3 h4 HI; go_wp2; refine wp_loop_rounds 1 ?_; rw [rounds_succ]; go_wp2; refine bodyPost_end (v := .tuple #[]) (by simp [results, Tryz.results136]) rfl ?_
 exact ⟨rfl, H3.out, H4.out⟩
theorem stable_big (go n : Nat) (L : List Nat) (hL : OkL n L) (h1 : 20 < n) (h2 : n < 40) (w : World) (hO : Blk w go 164 (uA L)) :
  Calls Tryz.prog 136 #[.slice (some ⟨go, 0, none⟩) n n, .int .i64 n, .func (.func 117) #[] #[]] w (SymPost go (stableF n L) w) := by
 obtain ⟨L1, hL1⟩ : ∃ L1, L1 = insF 0 19 1 L := ⟨_, rfl⟩; obtain ⟨L2, hL2⟩ : ∃ L2, L2 = insF 20 (n - 21) 21 L1 := ⟨_, rfl⟩
 have e : stableF n L = symF 10 0 20 n L2 := by
  rw [stableF, if_neg (by omega)]
  simp only; rw [if_pos h1, ← hL1, ← hL2]
 rw [e]; have ho1 : OkL n L1 := by rw [hL1]; exact OkL.ins _ _ hL
 have ho2 : OkL n L2 := by rw [hL2]; exact OkL.ins _ _ ho1
 have HI : Hid (Calls Tryz.prog 146 #[.slice (some ⟨go, 0, none⟩) n n, .int .i64 0, .int .i64 20, .func (.func 117) #[] #[]] w (SymPost go L1 w)) := by
  have h := ins113_any go n 0 20 L hL.1 (by omega) (by omega) (by omega) hL.2 w hO
  rw [hL1]; exact h
 have HJ : Hid (∀ wv, Blk wv go 164 (uA L1) → Calls Tryz.prog 146 #[.slice (some ⟨go, 0, none⟩) n n, .int .i64 20, .int .i64 n, .func (.func 117) #[] #[]] wv (SymPost go L2 wv)) := fun wv hv => by
  have h := ins113_any go n 20 n L1 ho1.1 (by omega) (by omega) (Nat.le_refl _) ho1.2 wv hv
  rw [hL2]; exact h
 have HK : Hid (∀ wv, Blk wv go 164 (uA L2) → Calls Tryz.prog 147 #[.slice (some ⟨go, 0, none⟩) n n, .int .i64 0, .int .i64 20, .int .i64 n, .func (.func 117) #[] #[]] wv (SymPost go (symF 10 0 20 n L2) wv)) := fun wv hv =>
  sym114_any go n (by omega) 10 0 20 n L2 wv ho2 (by omega) h1 (Nat.le_refl _) (by omega) hv
 obtain ⟨T, hT⟩ : ∃ T, T = symF 10 0 20 n L2 := ⟨_, rfl⟩; rw [← hT] at HK; rw [← hT]; clear hO hL e hL1 hL2 ho1 ho2 hT
 go_enter Tryz.func136, Tryz.ntmps136
 go_wp2; refine wp_loop_rounds 2 ?_
 rw [rounds_succ]; go_wp2_with fail; refine HI.out.mono ?_; rintro en w1 ⟨rfl, h3, h4⟩; have H3 := Lib.hid h3; have H4 := Lib.hid h4; clear h3 h4 HI; go_wp2; rw [rounds_succ]; go_wp2_with fail; refine (HJ.out w1 H3.out).mono ?_; rintro en w2 ⟨rfl, h3, h4⟩; have H5 := Lib.hid h3; have H6 : Hid (Below go w w2) := H4.out.trans h4; clear h3 h4 HJ; go_wp2; refine wp_loop_rounds 2 ?_; rw [rounds_succ]; go_wp2; refine wp_loop_rounds 1 ?_; rw [rounds_succ]; go_wp2_with fail; refine (HK.out w2 H5.out).mono ?_; rintro en w3 ⟨rfl, h3, h4⟩; have H7 := Lib.hid h3; have H8 : Hid (Below go w w3) := H6.out.trans h4; clear h3 h4 HK; go_wp2; rw [rounds_succ]; go_wp2; refine bodyPost_end (v := .tuple #[]) (by simp [results, Tryz.results136]) rfl ?_
 exact ⟨rfl, H7.out, H8.out⟩
theorem sort84_any (go n : Nat) (L : List Nat) (hL : OkL n L) (h1 : 1 ≤ n) (h2 : n < 40) (h20 : n ≠ 20) (w : World) (hO : Blk w go 164 (uA L)) :
  Calls Tryz.prog 116 #[.slice (some ⟨go, 0, none⟩) n n, .func (.func 117) #[] #[]] w (SymPost go (stableF n L) w) := by
 have HI : Hid (Calls Tryz.prog 136 #[.slice (some ⟨go, 0, none⟩) n n, .int .i64 n, .func (.func 117) #[] #[]] w (SymPost go (stableF n L) w)) := by
  by_cases h : n < 20
  ·exact stable_small go n L hL h1 h w hO
  ·exact stable_big go n L hL (by omega) h2 w hO
 obtain ⟨T, hT⟩ : ∃ T, T = stableF n L := ⟨_, rfl⟩; rw [← hT] at HI; rw [← hT]; clear hO hL hT
 go_enter Tryz.func116, Tryz.ntmps116
 go_wp2_with fail; refine HI.out.mono ?_
 rintro en w1 ⟨rfl, h3, h4⟩; have H3 := Lib.hid h3; have H4 := Lib.hid h4; clear h3 h4 HI; go_wp2; refine bodyPost_end (v := .tuple #[]) (by simp [results, Tryz.results116]) rfl ?_
 exact ⟨rfl, H3.out, H4.out⟩
end Go.Proofs.YtgmfhngcehkibaaGreat
