/- The iterator of the numbers with which there are few mistakes. No condition. The walks of the classer's wrong and told. Conditions: the map holds what is right; the line is valid, it can be. -/
import Derived.Test.YtbfjebglaimcmaaClsAD
import Derived.Scope
import Derived.Test.YtbfjebglaimcmaaClsFG
namespace Go.Proofs.Ytbfjebglaimcmaa
open Go.RowKit Go.Hav Go.Sq
attribute [local go_sem] Oper.semAt_some
/-- The numbers below k with which there are at most m mistakes. -/
def upL (f : Nat → Int) (m : Int) (k : Nat) : List Nat := (List.range k).filter fun i => decide (f i ≤ m)
theorem upL_succ (f : Nat → Int) (m : Int) (k : Nat) : upL f m (k + 1) = if f k ≤ m then upL f m k ++ [k] else upL f m k := by
  unfold upL
  rw [List.range_succ, List.filter_append]
  split <;> rename_i h <;> simp [h]
theorem upL_at {f : Nat → Int} {m : Int} {k : Nat} (hk : k < 31) (h : f k ≤ m) : (upL f m 31)[(upL f m k).length]? = some k := by
  have e : List.range 31 = List.range k ++ List.range' k (31 - k) := by
    rw [List.range_eq_range', List.range_eq_range', show 31 = k + (31 - k) by omega, ← List.range'_append_1]
    simp
  have e2 : List.range' k (31 - k) = k :: List.range' (k + 1) (30 - k) := by rw [show 31 - k = (30 - k) + 1 by omega, List.range'_succ]
  unfold upL
  rw [e, List.filter_append, List.getElem?_append_right (Nat.le_refl _), Nat.sub_self, e2, List.filter_cons, if_pos (by simpa using h)]
  rfl
/-- How the iterator hands a number over. -/
def encN (n : Nat) : Array Value := #[.int .i64 n]
theorem index162 (f : Nat → Int) {k : Nat} (hk : k < 31) (w : World) : (Instr.index 162 (costV f) (.int .i64 k)).run Try.prog w = .ok (.int .i64 (f k)) w := by
  unfold costV
  have h := costA_get f hk
  simp [Instr.index, asIntOf, hk, part, h]
theorem upTo_any (f : Nat → Int) (m : Int) (w : World) :
    Calls Try.prog 127 #[costV f, .int .i64 m] w fun e w' => e = .returned (.func (.func 142) #[] #[.pointer (some ⟨w.heap.size, 0, none⟩), .pointer (some ⟨w.heap.size + 1, 0, none⟩)]) ∧ w' = (w.alloc (.cells (costA f) 162)).alloc (.cells #[.int .i64 m] 3) := by
  have hmf : ∀ (fn : Fn) (first cap : Array Value) (w : World), (Instr.makeFunc fn first cap).run Try.prog w = .ok (.func fn first cap) w := fun _ _ _ _ => rfl
  unfold costV
  go_enter Try.func127, Try.ntmps127
  go_wp2
  go_ret
  exact ⟨rfl, rfl⟩
set_option maxRecDepth 100000 in
set_option maxHeartbeats 1600000 in
theorem upTo_seq (Ty : TypeId → Prop) (Kx : World → World → Prop) (f : Nat → Int) (m : Int) (bf bm : Nat) :
    SeqL Try.prog 142 #[.pointer (some ⟨bf, 0, none⟩), .pointer (some ⟨bm, 0, none⟩)] ((upL f m 31).map encN) Ty Kx (fun S W => Blk W bf 162 (costA f) ∧ Blk W bm 3 #[.int .i64 m] ∧ ¬ S bm) := by
  rintro S L J Jx W ⟨hbf, hbm, nm⟩ _ _ hJ hJx hY h0
  have HY := Lib.hid hY
  have HBF := Lib.hid hbf
  have HBM := Lib.hid hbm
  have HJ0 : Hid (J (upL f m 0).length W) := h0
  have hidx := fun k hk => index162 f (k := k) hk
  clear hY h0 hbf hbm hJ hJx
  refine (callsIn_wide (n := 0)).1 (callsIn_of_wp Try.func142 rfl trivial ?_ rfl)
  simp only [Try.ntmps142, List.size_toArray, List.length_cons, List.length_nil, Nat.reduceAdd, Nat.reduceSub, Array.replicate_succ, Array.replicate_zero, List.push_toArray, List.append_toArray, List.nil_append, List.cons_append]
  refine wpIn_wide.2 (wp_scope_straight (wp_seq (wp_label ?_)))
  go_upto_region 1 with (first | refine wpList_loadW 162 _ rfl rfl rfl (cost_load HBF.out) ?_)
  refine (wpIn_wide (n := 0)).1 ?_
  gi_loopw [7] (fun v wr => ∃ k : Nat, k ≤ 31 ∧ v = .int .i64 k ∧ Hid (J (upL f m k).length wr) ∧ Hid (Blk wr bm 3 #[.int .i64 m])) (fun v _ => 31 - (intOf v).toNat)
  case atStart => exact ⟨0, by omega, rfl, HJ0, HBM⟩
  case round =>
    obtain ⟨k, hk, rfl, HJr, HMr⟩ := hrel
    have m0 := HMr.out.cell 0
    have ml := HMr.out.lt
    simp at m0
    by_cases hlt : k < 31
    · have hki : (k : Int) < 31 := by omega
      have hix := hidx k hlt
      by_cases hm : f k ≤ m
      · have hd : decide (m < f k) = false := by simp; omega
        have HE := Lib.hid (upL_succ f m k)
        have HAT := Lib.hid (upL_at hlt hm)
        rw [if_pos hm] at HE
        obtain ⟨fn, tmps, assign, body, hy, hR⟩ := HY.out (upL f m k).length (encN k) wr HJr.out (by rw [List.getElem?_map, HAT.out]; rfl)
        unfold encN at hy
        clear hidx
        gi_wp2
        refine ⟨rfl, hR.mono ?_⟩
        rintro e W3 ⟨ht, (⟨rfl, hJ3⟩ | ⟨rfl, hJx3⟩)⟩
        · have HM3 := Lib.hid (HMr.out.turn ht nm)
          have HJ3 : Hid (J (upL f m (k + 1)).length W3) := by show J _ _; rw [HE.out, List.length_append]; exact hJ3
          clear ht hJ3 hR hy
          gi_wp2
          go_roundw
          case rel => exact ⟨k + 1, by omega, by go_num, HJ3, HM3⟩
          case measure => simp [intOf]; omega
        · gi_wp2
          simp only [Exit.noGoto]
          go_end0
          exact ⟨⟨_, rfl⟩, .inr hJx3⟩
      · have hd : decide (m < f k) = true := by simp; omega
        have HE := Lib.hid (upL_succ f m k)
        rw [if_neg hm] at HE
        clear hidx
        gi_wp2
        go_roundw
        case rel => exact ⟨k + 1, by omega, by go_num, by rw [HE.out]; exact HJr, HMr⟩
        case measure => simp [intOf]; omega
    · obtain rfl : k = 31 := by omega
      gi_wp2
      simp only [Exit.noGoto]
      go_end0
      exact ⟨⟨_, rfl⟩, .inl (by rw [List.length_map]; exact HJr.out)⟩
end Go.Proofs.Ytbfjebglaimcmaa
namespace Go.Proofs.Ytbfjebglaimcmaa
open Go.RowKit Go.Hav Go.Sq
attribute [local go_sem] Oper.semAt_some
def joinN (s : Nat × Nat) (k : Nat) : Nat × Nat := (min s.1 k, max s.2 k)
theorem fold_span (F : Nat → Nat) (m : Nat) : ∀ k, (upL (cI F) m k).foldl joinN (30, 0) = spanC (fun i => decide (F i ≤ m)) k
  | 0 => rfl
  | k + 1 => by
    rw [upL_succ, spanC]
    by_cases h : F k ≤ m
    · rw [if_pos (show cI F k ≤ m by unfold cI; omega), if_pos (by simpa using h), List.foldl_append, fold_span F m k]
      rfl
    · rw [if_neg (show ¬ cI F k ≤ m by unfold cI; omega), if_neg (by simpa using h), fold_span F m k]
/-- A span of whole numbers as cells. -/
def spN (s : Nat × Nat) : Array Value := #[.int .i64 s.1, .int .i64 s.2]
theorem foldN_step (L : List Nat) (s : Nat × Nat) {n k : Nat} (h : L[n]? = some k) : (L.take (n + 1)).foldl joinN s = joinN ((L.take n).foldl joinN s) k := by
  rw [List.take_add_one, h]
  simp
theorem upL_small {f : Nat → Int} {m : Int} {k x : Nat} (h : x ∈ upL f m k) : x < k := by
  unfold upL at h
  have := (List.mem_filter.1 h).1
  simpa using this
theorem GK.news {r : Nat} {F : KeyC → Nat → Int} {w Y Z : World} {T : Nat → Prop} (h : (GK r F).G w Y) (t : Turn T Y Z) (hT : ∀ b, T b → w.heap.size ≤ b) (hr : r < w.heap.size) : (GK r F).G w Z :=
  ⟨h.1.join t (fun z e hz => by have := hT z e; omega), fun hm => (h.2 hm).keep (t.block r (Nat.lt_of_lt_of_le hr h.1.size) (fun e => by have := hT r e; omega))⟩
section
variable {B d r bc : Nat} {ba : Option Addr} {c : Cls}
set_option maxRecDepth 100000 in
set_option maxHeartbeats 1600000 in
theorem toldC_any (w : World) (hT : TabIn w B d r ba bc c) (s : Nat × Nat) : Calls Try.prog 94 #[.pointer (some ⟨d, 0, none⟩), .agg (spN s)] w fun e w' => e = .returned (.int .i64 (toldC c.may s : Nat)) ∧ Below w.heap.size w w' := by
  obtain ⟨lo, hi⟩ := s
  have HT := Lib.hid hT
  obtain ⟨W, hW⟩ : ∃ W, W = w.alloc (.cells #[.int .i64 lo, .int .i64 hi] 29) := ⟨_, rfl⟩
  have HX : Hid (Blk W w.heap.size 29 #[.int .i64 lo, .int .i64 hi]) := by rw [hW]; exact Blk.new w 29 _
  have HB : Hid (Below w.heap.size w W) := by rw [hW]; exact (Below.refl _ _).alloc (Nat.le_refl _) _
  have HTW := Lib.hid (hT.below HB.out)
  have t1 := HTW.out.blk.cell 1
  have tl := HTW.out.blk.lt
  have x0 := HX.out.cell 0
  have x1 := HX.out.cell 1
  have xl := HX.out.lt
  simp [tabC] at t1
  simp at x0 x1
  clear hT
  unfold spN
  go_enter Try.func94, Try.ntmps94
  go_upto_region 1 with (fail)
  rw [← hW]
  clear hW
  refine wp_region_havoc [(0,false),(1,false),(2,false),(3,false),(4,false),(5,false),(6,false),(7,false)] [8] (fun _ _ => False) (by kernel_rfl) (by kernel_rfl) (fun _ _ _ _ h => h.elim) ?_
  (apply hav_same (by simp only [List.getElem?_toArray, List.getElem?_cons_zero]; rfl) (by kernel_rfl); (focus (intro wv hgv _; have hcv : ∀ b o, b < _ → wv.cell? ⟨b, o, none⟩ = _ := fun b o hb => Below.cell hgv (p := ⟨b, o, none⟩) hb; (try go_simp); try rfl; done)); simp only [Act.put, List.setIfInBounds_toArray, List.set_cons_succ, List.set_cons_zero])
  iterate 7 (apply hav_same (by simp only [List.getElem?_toArray, List.getElem?_cons_succ, List.getElem?_cons_zero]; rfl) (by kernel_rfl); (focus (intro wv hgv _; have hcv : ∀ b o, b < _ → wv.cell? ⟨b, o, none⟩ = _ := fun b o hb => Below.cell hgv (p := ⟨b, o, none⟩) hb; (try go_simp); try rfl; done)); simp only [Act.put, List.setIfInBounds_toArray, List.set_cons_succ, List.set_cons_zero])
  refine hav_end (fun w1 hgw1 _ => ?_); simp only [List.filterMap]; have hcw1 : ∀ b o, b < _ → w1.cell? ⟨b, o, none⟩ = _ := fun b o hb => Below.cell hgw1 (p := ⟨b, o, none⟩) hb; have hfw1 : ∀ b o, b < _ → w1.frozen? ⟨b, o, none⟩ = _ := fun b o hb => Below.frozen hgw1 (p := ⟨b, o, none⟩) hb; have hzw1 := Below.size hgw1; (try simp at hzw1)
  have HX1 := Lib.hid (HX.out.below hgw1 HX.out.lt)
  have HT1 := Lib.hid (HTW.out.below hgw1)
  have HB1 : Hid (Below w.heap.size w w1) := HB.out.trans (hgw1.mono HB.out.size)
  clear hgw1 hcw1 hfw1 t1 tl x0 x1 xl
  by_cases h1 : hi ≤ c.may
  · have hd : decide ((hi : Int) ≤ c.may) = true := by simp; omega
    have HE : Hid (toldC c.may (lo, hi) = 2) := by show _ = _; unfold toldC; rw [if_pos h1]
    go_wp2
    go_ret
    exact ⟨by rw [HE.out]; rfl, HB1.out⟩
  · have hd : decide ((hi : Int) ≤ c.may) = false := by simp; omega
    have t1 := HT1.out.blk.cell 1
    have tl := HT1.out.blk.lt
    have x0 := HX1.out.cell 0
    have x1 := HX1.out.cell 1
    have xl := HX1.out.lt
    simp [tabC] at t1
    simp at x0 x1
    go_upto_region 3 with (fail)
    refine wp_region_havoc [(0,false),(1,false),(2,false),(3,false),(4,false),(5,false),(6,false),(7,false)] [8] (fun _ _ => False) (by kernel_rfl) (by kernel_rfl) (fun _ _ _ _ h => h.elim) ?_
    (apply hav_same (by simp only [List.getElem?_toArray, List.getElem?_cons_zero]; rfl) (by kernel_rfl); (focus (intro wv hgv _; have hcv : ∀ b o, b < _ → wv.cell? ⟨b, o, none⟩ = _ := fun b o hb => Below.cell hgv (p := ⟨b, o, none⟩) hb; (try go_simp); try rfl; done)); simp only [Act.put, List.setIfInBounds_toArray, List.set_cons_succ, List.set_cons_zero])
    iterate 7 (apply hav_same (by simp only [List.getElem?_toArray, List.getElem?_cons_succ, List.getElem?_cons_zero]; rfl) (by kernel_rfl); (focus (intro wv hgv _; have hcv : ∀ b o, b < _ → wv.cell? ⟨b, o, none⟩ = _ := fun b o hb => Below.cell hgv (p := ⟨b, o, none⟩) hb; (try go_simp); try rfl; done)); simp only [Act.put, List.setIfInBounds_toArray, List.set_cons_succ, List.set_cons_zero])
    refine hav_end (fun w2 hgw2 _ => ?_); simp only [List.filterMap]; have hcw2 : ∀ b o, b < _ → w2.cell? ⟨b, o, none⟩ = _ := fun b o hb => Below.cell hgw2 (p := ⟨b, o, none⟩) hb; have hfw2 : ∀ b o, b < _ → w2.frozen? ⟨b, o, none⟩ = _ := fun b o hb => Below.frozen hgw2 (p := ⟨b, o, none⟩) hb; have hzw2 := Below.size hgw2; (try simp at hzw2)
    have HB2 : Hid (Below w.heap.size w w2) := HB1.out.trans (hgw2.mono HB1.out.size)
    clear hgw2 hcw2 hfw2 t1 tl x0 x1 xl
    by_cases h2 : lo ≤ c.may
    · have hd2 : decide ((lo : Int) ≤ c.may) = true := by simp; omega
      have HE : Hid (toldC c.may (lo, hi) = 1) := by show _ = _; unfold toldC; rw [if_neg h1, if_pos h2]
      go_wp2
      go_ret
      exact ⟨by rw [HE.out]; rfl, HB2.out⟩
    · have hd2 : decide ((lo : Int) ≤ c.may) = false := by simp; omega
      have HE : Hid (toldC c.may (lo, hi) = 0) := by show _ = _; unfold toldC; rw [if_neg h1, if_neg h2]
      go_wp2
      go_ret
      exact ⟨by rw [HE.out]; rfl, HB2.out⟩
set_option maxRecDepth 100000 in
set_option maxHeartbeats 6400000 in
theorem wrongC_any (w : World) (hT : TabIn w B d r ba bc c) {n : Nat} {b : Bl} (hb : c.bl[n]? = some b) (hcan : mistakenC c (fun _ => true) ≤ c.mis) :
    Calls Try.prog 95 #[.pointer (some ⟨d, 0, none⟩), .int .i64 n] w fun e w' => e = .returned (.agg (spN (wrongC c n b))) ∧ (GK r (kF c)).G w w' := by
  have HT := Lib.hid hT
  have HBL := Lib.hid hb
  have HCAN : Hid (decide (mistakenC c (fun _ => true) ≤ c.mis) = true) := decide_eq_true hcan
  have hrl := hT.map.lt
  obtain ⟨s, hs⟩ : ∃ s, full c.bl.length = s := ⟨_, rfl⟩
  have HS := Lib.hid hs
  obtain ⟨W, hW⟩ : ∃ W, W = w.alloc (.cells #[.int .i64 0, .int .i64 0] 29) := ⟨_, rfl⟩
  have HX : Hid (Blk W w.heap.size 29 #[.int .i64 0, .int .i64 0]) := by rw [hW]; exact Blk.new w 29 _
  have HB : Hid (Below w.heap.size w W) := by rw [hW]; exact (Below.refl _ _).alloc (Nat.le_refl _) _
  have HTW := Lib.hid (hT.below HB.out)
  clear hT hb hcan hs
  refine (callsIn_wide (n := 6)).1 (callsIn_of_wp_marks Try.func95 rfl trivial ?_ rfl)
  simp only [Try.ntmps95, List.size_toArray, List.length_cons, List.length_nil, Nat.reduceAdd, Nat.reduceSub, Array.replicate_succ, Array.replicate_zero, List.push_toArray, List.append_toArray, List.nil_append, List.cons_append]
  refine wpIn_wide.2 ?_
  go_upto_region 1 with (fail)
  rw [← hW]
  clear hW
  go_wp2_with fail
  have hq := everyC_any W HTW.out
  rw [HS.out] at hq
  refine hq.mono ?_
  rintro e w1 ⟨rfl, rfl⟩
  clear hq
  go_wp2_with fail
  have hq := can_any w1 HTW.out
  rw [HS.out, HCAN.out] at hq
  refine hq.mono ?_
  rintro e w2 ⟨rfl, hg2⟩
  clear hq
  go_wp2_with fail
  refine (askC_any true 10 _).mono ?_
  rintro e w3 ⟨h3, rfl⟩
  obtain rfl : e = .returned (.tuple #[]) := h3
  have HG2 := Lib.hid hg2
  have HT2 := Lib.hid (HTW.out.keep hg2)
  clear hg2
  go_upto_region 3 with (fail)
  obtain ⟨W2, hW2⟩ : ∃ x, x = w3.alloc (.cells #[.int .i64 30, .int .i64 0] 29) := ⟨_, rfl⟩
  have HX5 : Hid (Blk W2 w3.heap.size 29 (spN (30, 0))) := by rw [hW2]; exact Blk.new w3 29 _
  have HB2 : Hid (Below w3.heap.size w3 W2) := by show Below _ _ _; rw [hW2]; exact (Below.refl _ _).alloc (Nat.le_refl _) _
  rw [← hW2]
  clear hW2
  have HT3 := Lib.hid (HT2.out.below HB2.out)
  have HG3 : Hid ((GK r (kF c)).G w1 W2) := (GK r (kF c)).trans HG2.out (GK.below HB2.out)
  refine HavG.wp_region_stg (fun wv => (GK r (kF c)).G W2 wv) [(0,false),(1,false),(2,false),(5,false),(6,false),(7,false),(8,false),(9,false),(3,true),(4,true),(10,true)] [] (fun _ _ => False) (by kernel_rfl) (by kernel_rfl) (fun _ _ _ _ h => h.elim) ((GK r (kF c)).drew _) ?_
  (apply HavG.stg_same (by simp only [List.getElem?_toArray, List.getElem?_cons_zero]; rfl) (by kernel_rfl); (focus (intro wv hI; skip; (try go_simp); try rfl; done)); simp only [Act.put, List.setIfInBounds_toArray, List.set_cons_succ, List.set_cons_zero])
  iterate 7 (apply HavG.stg_same (by simp only [List.getElem?_toArray, List.getElem?_cons_succ, List.getElem?_cons_zero]; rfl) (by kernel_rfl); (focus (intro wv hI; have hx := (HT3.out.keep hI).blk; have x3 := hx.cell 3; have xl := hx.lt; (simp [tabC] at x3); clear hx hI; (try go_simp); try rfl; done)); simp only [Act.put, List.setIfInBounds_toArray, List.set_cons_succ, List.set_cons_zero])
  (apply HavG.stg_call (by simp only [List.getElem?_toArray, List.getElem?_cons_succ, List.getElem?_cons_zero]; rfl) (by kernel_rfl); (focus (go_simp; try exact ⟨rfl, rfl⟩; done)))
  have hq := everyC_any W2.drew (HT3.out.keep ((GK r (kF c)).drew _))
  rw [HS.out] at hq
  refine hq.mono ?_
  rintro e w4 ⟨rfl, rfl⟩
  refine .inl ⟨_, rfl, (GK r (kF c)).drew _, ?_⟩
  simp only [Act.put, List.setIfInBounds_toArray, List.set_cons_succ, List.set_cons_zero]
  clear hq
  (apply HavG.stg_call (by simp only [List.getElem?_toArray, List.getElem?_cons_succ, List.getElem?_cons_zero]; rfl) (by kernel_rfl); (focus (go_simp; try exact ⟨rfl, rfl⟩; done)))
  have hq := through_any W2.drew (HT3.out.keep ((GK r (kF c)).drew _)) HBL.out
  rw [HS.out] at hq
  refine hq.mono ?_
  rintro e w4 ⟨rfl, hg4⟩
  have HG4 : Hid ((GK r (kF c)).G W2 w4) := (GK r (kF c)).trans ((GK r (kF c)).drew _) hg4
  refine .inl ⟨_, rfl, HG4.out, ?_⟩
  simp only [Act.put, List.setIfInBounds_toArray, List.set_cons_succ, List.set_cons_zero]
  clear hq hg4
  (apply HavG.stg_call (by simp only [List.getElem?_toArray, List.getElem?_cons_succ, List.getElem?_cons_zero]; rfl) (by kernel_rfl); (focus (go_simp; try exact ⟨rfl, rfl⟩; done)))
  refine (upTo_any _ _ w4).mono ?_
  rintro e w5 ⟨rfl, hw5⟩
  have HB5 : Hid (Below w4.heap.size w4 w5) := by show Below _ _ _; rw [hw5]; exact ((Below.refl _ _).alloc (Nat.le_refl _) _).alloc (by simp) _
  have HF5 : Hid (Blk w5 w4.heap.size 162 (costA (cI (throughC c (fun _ => true) n b)))) := by rw [hw5]; exact (Blk.new w4 162 _).alloc _
  have HM5 : Hid (Blk w5 (w4.heap.size + 1) 3 #[.int .i64 c.mis]) := by rw [hw5]; exact Blk.new_ (by simp) 3 _
  refine .inl ⟨_, rfl, (GK r (kF c)).trans HG4.out (GK.below HB5.out), ?_⟩
  simp only [Act.put, List.setIfInBounds_toArray, List.set_cons_succ, List.set_cons_zero]
  simp only [HavG.wpStg, List.filterMap]
  clear hw5
  obtain ⟨F, hF⟩ : ∃ F, throughC c (fun _ => true) n b = F := ⟨_, rfl⟩
  have HFE : Hid (wrongC c n b = (upL (cI F) c.mis 31).foldl joinN (30, 0)) := by show _ = _; rw [fold_span, ← hF]; rfl
  rw [hF] at HF5 ⊢
  have HGW : Hid ((GK r (kF c)).G w w5) := (GK r (kF c)).trans (GK.below HB.out) ((GK r (kF c)).trans HG3.out ((GK r (kF c)).trans HG4.out (GK.below HB5.out)))
  have HSEQ := Lib.hid (upTo_seq (fun _ => False) (fun _ _ => False) (cI F) c.mis w4.heap.size (w4.heap.size + 1))
  have HEG := Lib.hid (show ∀ args w, (callFunc 142 args).run Try.prog w = .ok (.enter 142 args) w from enters_of Try.func142 (by kernel_rfl) rfl)
  have hs1 := HB.out.size
  have hs2 := HG2.out.1.size
  have hs3 := HX5.out.lt
  have hs4 := HG4.out.1.size
  have hs5 := HB5.out.size
  have hxl := HX.out.lt
  have hmin := minC_run
  have hmax := maxC_run
  obtain ⟨g5, hg5⟩ : ∃ x, w3.heap.size = x := ⟨_, rfl⟩
  rw [hg5] at HX5 hs3 hs2 ⊢
  have HX55 : Hid (Blk w5 g5 29 (spN (30, 0))) := (HX5.out.turn HG4.out.1 (by omega)).below HB5.out (by omega)
  have HX45 : Hid (Blk w5 w.heap.size 29 #[.int .i64 0, .int .i64 0]) := ((((HX.out.turn HG2.out.1 (by omega)).below HB2.out (by omega)).turn HG4.out.1 (by omega)).below HB5.out (by omega))
  obtain ⟨L, hL⟩ : ∃ L, upL (cI F) c.mis 31 = L := ⟨_, rfl⟩
  have HLX : Hid (∀ x ∈ L, x < 31) := fun x hx => by rw [← hL] at hx; exact upL_small hx
  rw [hL] at HSEQ HFE
  clear hF hL hg5
  go_wp2_with fail
  refine wpIn_wide.1 (wpIn_rangeL_slots (n := 6) rfl HEG.out HSEQ.out keepsRec_none (fun x hx => by obtain ⟨y, _, rfl⟩ := List.mem_map.1 hx; rfl) (fun x => x = g5) (fun x e => by omega)
    (fun rec => ⟨(HF5.out.alloc _).alloc _, (HM5.out.alloc _).alloc _, fun e => by rcases e with e | e <;> (have e' : _ = _ := e; have := HM5.out.lt; omega)⟩)
    (fun n Xw => Turn (fun x => x = g5) w5 Xw ∧ Blk Xw g5 29 (spN ((L.take n).foldl joinN (30, 0)))) (fun _ _ => False)
    (fun n => (OwnT.turn _ (Nat.le_refl _) (fun _ _ _ h => h.elim)).and (OwnT.blk _ id (fun _ _ h => h.elim))) (fun cd => OwnT.pure _ _ _ False)
    ⟨Turn.refl _ _, HX55.out⟩
    (fun n (_ : Unit) T => (T.setIfInBounds 24 (.int .i64 ((L[n]?.getD 0 : Nat) : Int))).setIfInBounds 6 (.int .i64 ((L[n]?.getD 0 : Nat) : Int))) (fun n _ Xw => True) (fun _ _ => (OwnT.pure _ _ _ _))
    ?assign ?body ?done ?stop)
  case assign =>
    rintro l n xx Xw K hI hx hK
    rw [List.getElem?_map] at hx
    obtain ⟨y, hy⟩ : ∃ y, L[n]? = some y := by
      cases h : L[n]? with
      | none => rw [h] at hx; cases hx
      | some y => exact ⟨y, rfl⟩
    rw [hy] at hx hK
    obtain rfl : encN y = xx := Option.some.inj hx
    simp only [Option.getD_some] at hK
    simp only [List.setIfInBounds_toArray, List.set_cons_succ, List.set_cons_zero] at hK
    dsimp only [encN]
    have HK := Lib.hid hK
    have HI := Lib.hid hI
    clear hK hx hI
    gi_wp2
    have h := HK.out () _ (Turn.refl _ Xw) HI.out trivial
    simpa using h
  case body =>
    rintro l n xx Bx Xw hl hr ⟨hT, h5⟩ _ hx
    rw [List.getElem?_map] at hx
    obtain ⟨y, hy⟩ : ∃ y, L[n]? = some y := by
      cases h : L[n]? with
      | none => rw [h] at hx; cases hx
      | some y => exact ⟨y, rfl⟩
    have HTX := Lib.hid hT
    have HX := Lib.hid h5
    have HST := Lib.hid (foldN_step L (30, 0) hy)
    obtain ⟨sp, hsp⟩ : ∃ x, (L.take n).foldl joinN (30, 0) = x := ⟨_, rfl⟩
    obtain ⟨lo, hi⟩ := sp
    rw [hsp] at HX HST
    rw [hy]
    simp only [Option.getD_some]
    simp only [List.setIfInBounds_toArray, List.set_cons_succ, List.set_cons_zero]
    have c0 := HX.out.cell 0
    have c1 := HX.out.cell 1
    have f0 := HX.out.frozen 0
    have f1 := HX.out.frozen 1
    have l5 := HX.out.lt
    simp [spN] at c0 c1
    clear hT h5 hx hr hy hsp
    gi_wp2
    have hset := (Turn.set (S := fun x => x = g5) (X := Xw) ⟨g5, 0, none⟩ (.int .i64 (min (lo : Int) y)) (fun _ => rfl)).trans (Turn.set (S := fun x => x = g5) ⟨g5, 1, none⟩ (.int .i64 (max (hi : Int) y)) (fun _ => rfl))
    refine ⟨hset, HTX.out.trans hset, ?_⟩
    rw [HST.out]
    have hz := (HX.out.set_ 0 (.int .i64 (min (lo : Int) y))).set_ 1 (.int .i64 (max (hi : Int) y))
    simp only [spN, joinN] at hz ⊢
    rw [show ((min lo y : Nat) : Int) = min (lo : Int) y by omega, show ((max hi y : Nat) : Int) = max (hi : Int) y by omega]
    simpa using hz
  case done =>
    rintro D Xw hDe ⟨hT, h5⟩ hDD
    have HTX := Lib.hid hT
    have HDD := Lib.hid hDD
    have HDE := Lib.hid hDe
    rw [List.length_map, List.take_of_length_le (Nat.le_refl _), ← HFE.out] at h5
    have H5 := Lib.hid h5
    have H4 := Lib.hid (HX45.out.turn hT (by omega))
    obtain ⟨lo, hi⟩ := wrongC c n b
    have c0 := H5.out.cell 0
    have c1 := H5.out.cell 1
    have l5 := H5.out.lt
    simp [spN] at c0 c1
    have d0 := H4.out.cell 0
    have d1 := H4.out.cell 1
    have f0 := H4.out.frozen 0
    have f1 := H4.out.frozen 1
    have l4 := H4.out.lt
    simp at d0 d1
    clear hT h5 hDD hDe
    go_wp2
    obtain ⟨p, hp⟩ : ∃ p : Int, ((wrongC c n b).1 : Int) = p := ⟨_, rfl⟩
    obtain ⟨q, hq⟩ : ∃ q : Int, ((wrongC c n b).2 : Int) = q := ⟨_, rfl⟩
    have HSP : Hid (spN (wrongC c n b) = #[.int .i64 p, .int .i64 q]) := by show _ = _; rw [← hp, ← hq]; rfl
    rw [hp, hq, HSP.out]
    have hset := (Turn.set (S := fun x => x = w.heap.size) (X := Xw) ⟨w.heap.size, 0, none⟩ (.int .i64 p) (fun _ => rfl)).trans (Turn.set (S := fun x => x = w.heap.size) ⟨w.heap.size, 1, none⟩ (.int .i64 q) (fun _ => rfl))
    have hk := (H4.out.set_ 0 (.int .i64 p)).set_ 1 (.int .i64 q)
    simp at hk
    obtain ⟨Y, hY⟩ : ∃ Y, Y = (Xw.setCell ⟨w.heap.size, 0, none⟩ (.int .i64 p)).setCell ⟨w.heap.size, 1, none⟩ (.int .i64 q) := ⟨_, rfl⟩
    rw [← hY] at hk hset ⊢
    have hDn : D ≠ w.heap.size := by have := HDE.out; omega
    have hD2 : Y.heap[D]? = some (.deferred (some [])) := (hset.block D (Array.getElem?_eq_some_iff.1 HDD.out).1 hDn).trans HDD.out
    have e0 : (Y.putObj D (.deferred none)).cell? ⟨w.heap.size, 0, none⟩ = some (.int .i64 p) := (World.cell?_of_block (a := ⟨w.heap.size, 0, none⟩) (World.putObj_heap_other (fun e => hDn e.symm))).trans (hk.cell 0)
    have e1 : (Y.putObj D (.deferred none)).cell? ⟨w.heap.size, 1, none⟩ = some (.int .i64 q) := (World.cell?_of_block (a := ⟨w.heap.size, 1, none⟩) (World.putObj_heap_other (fun e => hDn e.symm))).trans (hk.cell 1)
    refine ⟨by simp, .inl ⟨_, _, rfl, run_takeDeferred hD2, ?_⟩⟩
    refine ⟨.agg #[.int .i64 p, .int .i64 q], by simp [results, Try.results95, go_sem, e0, e1], rfl, ?_⟩
    refine GK.news (T := fun x => x = g5 ∨ x = w.heap.size ∨ x = D) HGW.out (((HTX.out.mono fun _ e => .inl e).trans (hset.mono fun _ e => .inr (.inl e))).trans (Turn.put _ (.inr (.inr rfl)))) (fun z e => ?_) hrl
    have e' : z = g5 ∨ z = w.heap.size ∨ z = D := e
    have := HDE.out
    omega
  case stop => exact fun D c W _ h _ => h.elim
end
end Go.Proofs.Ytbfjebglaimcmaa
