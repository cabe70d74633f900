/- The walks of the reference's Pressed, before, best; conditions: the press is valid and has a truth, it has few fleeces. -/
import Derived.Test.YtbfjebglaimcmaaRefM
namespace Go.Proofs.Ytbfjebglaimcmaa
open Go.RowKit Go.Hav
section
variable {A lA bA : Option Addr} {n c na ca nb cb : Nat} {l a b : List Nat}
set_option maxRecDepth 100000 in
set_option maxHeartbeats 1600000 in
theorem pressed_any (hn : n ≤ 100) (hl : l.length = n) (hb : ∀ s ∈ l, s < 1024) (w : World) (hR : RowN nV 3 w A l) :
    Calls Try.prog 42 #[.slice A n c] w fun e w' => e = .returned (.int .i64 (pops l)) ∧ w' = w := by
  have HR := Lib.hid hR
  have HL := Lib.hid hl
  have HB := Lib.hid hb
  obtain ⟨T, HT⟩ : ∃ T, Hid (pops l = T) := ⟨_, rfl⟩
  rw [HT.out]
  clear hR hl hb
  go_enter Try.func42, Try.ntmps42
  go_wp2
  go_loopw [3, 4] (fun x i wr => ∃ (k : Nat) (t : Int), k ≤ n ∧ i = .int .i64 k ∧ x = .int .i64 t ∧ Hid (pops (l.take k) = t) ∧ 0 ≤ t ∧ t ≤ 10 * k ∧ wr = w) (fun _ i _ => n - (intOf i).toNat)
  case atStart => exact ⟨0, 0, Nat.zero_le _, rfl, rfl, rfl, by omega, by omega, rfl⟩
  case round =>
    obtain ⟨k, t, hk, rfl, rfl, HP, h0, h1, rfl⟩ := hrel
    by_cases hlt : k < n
    · obtain ⟨x, hx⟩ : ∃ x, l[k]? = some x := ⟨_, List.getElem?_eq_getElem (by rw [HL.out]; exact hlt)⟩
      have hx10 := HB.out x (List.mem_of_getElem? hx)
      have HN : Hid (pops (l.take (k + 1)) = t + pop x 10) := by show _ = _; rw [pops_take hx, HP.out]
      obtain ⟨b1, b2⟩ := pop_bd x 10
      obtain ⟨gb, off, rfl, hbl, H0⟩ := rd_row HR.out k x hx
      clear hx
      obtain ⟨P, hP⟩ : ∃ P, pop x 10 = P := ⟨_, rfl⟩
      rw [hP] at HN b1 b2
      have HPP := Lib.hid hP
      clear hP
      go_wp2_with fail
      refine (size_any x hx10 wr).mono ?_
      rw [HPP.out]
      rintro e w5 ⟨rfl, rfl⟩
      go_wp2
      go_roundw
      case rel => exact ⟨k + 1, t + P, by omega, by go_num, rfl, HN, by omega, by omega, trivial⟩
      case measure => simp [intOf]; omega
    · obtain rfl : n = k := by omega
      have HE : Hid (t = T) := by show _ = _; rw [← HP.out, ← HT.out, List.take_of_length_le (by rw [HL.out]; exact Nat.le_refl _)]
      go_wp2
      go_ret
      exact ⟨ret_int HE.out, rfl⟩
theorem befB_drop {a b : List Nat} {k x : Nat} (ha : a[k]? = some x) (hb : b[k]? = some x) : befB (a.drop k) (b.drop k) = befB (a.drop (k + 1)) (b.drop (k + 1)) := by
  obtain ⟨h1, h2⟩ := List.getElem?_eq_some_iff.1 ha
  obtain ⟨h3, h4⟩ := List.getElem?_eq_some_iff.1 hb
  rw [List.drop_eq_getElem_cons h1, List.drop_eq_getElem_cons h3, befB, h2, h4, if_pos rfl]
theorem befB_at {a b : List Nat} {k x y : Nat} (ha : a[k]? = some x) (hb : b[k]? = some y) (hne : x ≠ y) : befB (a.drop k) (b.drop k) = decide (x < y) := by
  obtain ⟨h1, h2⟩ := List.getElem?_eq_some_iff.1 ha
  obtain ⟨h3, h4⟩ := List.getElem?_eq_some_iff.1 hb
  rw [List.drop_eq_getElem_cons h1, List.drop_eq_getElem_cons h3, befB, h2, h4, if_neg hne]
theorem befB_end {a b : List Nat} {k : Nat} (h1 : k ≤ a.length) (h2 : k ≤ b.length) (h : a.length ≤ k ∨ b.length ≤ k) : befB (a.drop k) (b.drop k) = decide (a.length < b.length) := by
  rcases Nat.lt_or_ge k a.length with h3 | h3
  · have hbk : b.length ≤ k := by omega
    rw [List.drop_eq_getElem_cons h3, List.drop_eq_nil_of_le hbk, befB]
    symm; simp; omega
  · rw [List.drop_eq_nil_of_le h3, befB]
    by_cases h4 : b.length ≤ k
    · rw [List.drop_eq_nil_of_le h4]
      simp; omega
    · have hl : a.length < b.length := by omega
      have hk : k < b.length := by omega
      simp [hl, hk]
set_option maxRecDepth 100000 in
set_option maxHeartbeats 1600000 in
theorem before_any (ha : a.length = na) (hb : b.length = nb) (h1 : na ≤ 100) (w : World) (hA : RowN nV 3 w lA a) (hB : RowN nV 3 w bA b) :
    Calls Try.prog 122 #[.slice lA na ca, .slice bA nb cb] w fun e w' => e = .returned (.bool (befB a b)) ∧ Below w.heap.size w w' := by
  have HA := Lib.hid hA
  have HB := Lib.hid hB
  have HLA := Lib.hid ha
  have HLB := Lib.hid hb
  obtain ⟨T, HT⟩ : ∃ T, Hid (befB a b = T) := ⟨_, rfl⟩
  rw [HT.out]
  clear hA hB ha hb
  go_enter Try.func122, Try.ntmps122
  go_wp2
  go_loopw [5] (fun i wr => ∃ k : Nat, k ≤ na ∧ k ≤ nb ∧ i = .int .i64 k ∧ Hid (befB (a.drop k) (b.drop k) = T) ∧ Below w.heap.size w wr) (fun i _ => na - (intOf i).toNat)
  case atStart => exact ⟨0, Nat.zero_le _, Nat.zero_le _, rfl, HT.out, Below.refl _ _⟩
  case round =>
    obtain ⟨k, hk1, hk2, rfl, HD, hb⟩ := hrel
    have HBW := Lib.hid hb
    clear hb
    by_cases hlt : k < na ∧ k < nb
    · obtain ⟨hl1, hl2⟩ := hlt
      obtain ⟨x, hx⟩ : ∃ x, a[k]? = some x := ⟨_, List.getElem?_eq_getElem (by rw [HLA.out]; exact hl1)⟩
      obtain ⟨y, hy⟩ : ∃ y, b[k]? = some y := ⟨_, List.getElem?_eq_getElem (by rw [HLB.out]; exact hl2)⟩
      obtain ⟨gb, off, rfl, hgb, H0⟩ := rd_row (HA.out.below HBW.out) k x hx
      obtain ⟨gc, off2, rfl, hgc, H1⟩ := rd_row (HB.out.below HBW.out) k y hy
      have k0 : (0 : Int) ≤ (k : Int) := by omega
      go_upto_region 4 with fail
      by_cases hne : x = y
      · subst hne
        have HN : Hid (befB (a.drop (k + 1)) (b.drop (k + 1)) = T) := by show _ = _; rw [← befB_drop hx hy, HD.out]
        have he : ((x : Int) != (x : Int)) = false := by simp
        clear hx hy
        refine wp_region_havoc [(0,false),(1,false),(2,false),(3,false),(4,false),(5,false),(6,false),(7,false),(8,false)] [] (fun _ _ => False) (by kernel_rfl) (by kernel_rfl) (fun _ _ _ _ h => h.elim) ?_
        (apply hav_same (by simp only [List.getElem?_toArray, List.getElem?_cons_zero]; rfl) (by kernel_rfl); (focus (intro wv hgv _; have hcv : ∀ b o, b < _ → wv.cell? ⟨b, o, none⟩ = _ := fun b o hb => Below.cell hgv (p := ⟨b, o, none⟩) hb; (try go_simp); try rfl; done)); simp only [Act.put, List.setIfInBounds_toArray, List.set_cons_succ, List.set_cons_zero])
        iterate 8 (apply hav_same (by simp only [List.getElem?_toArray, List.getElem?_cons_succ, List.getElem?_cons_zero]; rfl) (by kernel_rfl); (focus (intro wv hgv _; have hcv : ∀ b o, b < _ → wv.cell? ⟨b, o, none⟩ = _ := fun b o hb => Below.cell hgv (p := ⟨b, o, none⟩) hb; (try go_simp); try rfl; done)); simp only [Act.put, List.setIfInBounds_toArray, List.set_cons_succ, List.set_cons_zero])
        refine hav_end (fun w1 hgw1 _ => ?_); simp only [List.filterMap]; have hcw1 : ∀ b o, b < _ → w1.cell? ⟨b, o, none⟩ = _ := fun b o hb => Below.cell hgw1 (p := ⟨b, o, none⟩) hb; have hfw1 : ∀ b o, b < _ → w1.frozen? ⟨b, o, none⟩ = _ := fun b o hb => Below.frozen hgw1 (p := ⟨b, o, none⟩) hb; have hzw1 := Below.size hgw1; (try simp at hzw1)
        have HB1 : Hid (Below w.heap.size w w1) := HBW.out.trans (hgw1.mono HBW.out.size)
        clear hgw1 hcw1 hfw1 H0 H1
        go_wp2
        go_roundw
        case rel => exact ⟨k + 1, by omega, by omega, by go_num, HN, HB1.out⟩
        case measure => simp [intOf]; omega
      · have HN : Hid (decide (x < y) = T) := by show _ = _; rw [← befB_at hx hy hne, HD.out]
        have he : ((x : Int) != (y : Int)) = true := by simp; omega
        have he2 : (x != y) = true := by simp; exact hne
        clear hx hy hne
        refine wp_region_havoc [(0,false),(1,false),(2,false),(3,false),(4,false),(5,false),(6,false),(7,false),(8,false)] [] (fun _ _ => False) (by kernel_rfl) (by kernel_rfl) (fun _ _ _ _ h => h.elim) ?_
        (apply hav_same (by simp only [List.getElem?_toArray, List.getElem?_cons_zero]; rfl) (by kernel_rfl); (focus (intro wv hgv _; have hcv : ∀ b o, b < _ → wv.cell? ⟨b, o, none⟩ = _ := fun b o hb => Below.cell hgv (p := ⟨b, o, none⟩) hb; (try go_simp); try rfl; done)); simp only [Act.put, List.setIfInBounds_toArray, List.set_cons_succ, List.set_cons_zero])
        iterate 8 (apply hav_same (by simp only [List.getElem?_toArray, List.getElem?_cons_succ, List.getElem?_cons_zero]; rfl) (by kernel_rfl); (focus (intro wv hgv _; have hcv : ∀ b o, b < _ → wv.cell? ⟨b, o, none⟩ = _ := fun b o hb => Below.cell hgv (p := ⟨b, o, none⟩) hb; (try go_simp); try rfl; done)); simp only [Act.put, List.setIfInBounds_toArray, List.set_cons_succ, List.set_cons_zero])
        refine hav_end (fun w1 hgw1 _ => ?_); simp only [List.filterMap]; have hcw1 : ∀ b o, b < _ → w1.cell? ⟨b, o, none⟩ = _ := fun b o hb => Below.cell hgw1 (p := ⟨b, o, none⟩) hb; have hfw1 : ∀ b o, b < _ → w1.frozen? ⟨b, o, none⟩ = _ := fun b o hb => Below.frozen hgw1 (p := ⟨b, o, none⟩) hb; have hzw1 := Below.size hgw1; (try simp at hzw1)
        have HB1 : Hid (Below w.heap.size w w1) := HBW.out.trans (hgw1.mono HBW.out.size)
        have H0 := (hcw1 gb (off + k) hgb).trans H0
        have H1 := (hcw1 gc (off2 + k) hgc).trans H1
        have hgb : gb < w1.heap.size := Nat.lt_of_lt_of_le hgb hgw1.size
        have hgc : gc < w1.heap.size := Nat.lt_of_lt_of_le hgc hgw1.size
        clear hgw1 hcw1 hfw1
        go_upto_region 5 with fail
        refine wp_region_havoc [(0,false),(1,false),(2,false),(3,false),(4,false),(5,false),(6,false),(7,false),(8,false),(9,false)] [] (fun _ _ => False) (by kernel_rfl) (by kernel_rfl) (fun _ _ _ _ h => h.elim) ?_
        (apply hav_same (by simp only [List.getElem?_toArray, List.getElem?_cons_zero]; rfl) (by kernel_rfl); (focus (intro wv hgv _; have hcv : ∀ b o, b < _ → wv.cell? ⟨b, o, none⟩ = _ := fun b o hb => Below.cell hgv (p := ⟨b, o, none⟩) hb; (try go_simp); try rfl; done)); simp only [Act.put, List.setIfInBounds_toArray, List.set_cons_succ, List.set_cons_zero])
        iterate 9 (apply hav_same (by simp only [List.getElem?_toArray, List.getElem?_cons_succ, List.getElem?_cons_zero]; rfl) (by kernel_rfl); (focus (intro wv hgv _; have hcv : ∀ b o, b < _ → wv.cell? ⟨b, o, none⟩ = _ := fun b o hb => Below.cell hgv (p := ⟨b, o, none⟩) hb; (try go_simp); try rfl; done)); simp only [Act.put, List.setIfInBounds_toArray, List.set_cons_succ, List.set_cons_zero])
        refine hav_end (fun w2 hgw2 _ => ?_); simp only [List.filterMap]; have hcw2 : ∀ b o, b < _ → w2.cell? ⟨b, o, none⟩ = _ := fun b o hb => Below.cell hgw2 (p := ⟨b, o, none⟩) hb; have hfw2 : ∀ b o, b < _ → w2.frozen? ⟨b, o, none⟩ = _ := fun b o hb => Below.frozen hgw2 (p := ⟨b, o, none⟩) hb; have hzw2 := Below.size hgw2; (try simp at hzw2)
        have HB2 : Hid (Below w.heap.size w w2) := HB1.out.trans (hgw2.mono HB1.out.size)
        clear hgw2 hcw2 hfw2 H0 H1
        go_wp2
        go_ret
        exact ⟨ret_bool HN.out, HB2.out⟩
    · have HE : Hid (decide (na < nb) = T) := by
        show _ = _
        rw [← HD.out, befB_end (by rw [HLA.out]; exact hk1) (by rw [HLB.out]; exact hk2) (by rw [HLA.out, HLB.out]; omega), HLA.out, HLB.out]
      by_cases hl1 : k < na
      · have hl2 : ¬ k < nb := fun h => hlt ⟨hl1, h⟩
        clear hlt
        go_wp2
        go_ret
        exact ⟨ret_bool HE.out, HBW.out⟩
      · clear hlt
        go_wp2
        go_ret
        exact ⟨ret_bool HE.out, HBW.out⟩
end
section
variable {p : PressD}
theorem sets_props : p.sets.Pairwise (· < ·) ∧ (∀ s ∈ p.sets, 0 < s ∧ s < 2 ^ p.n ∧ sub s (full p.n) = true) ∧ p.sets.length ≤ full p.n := by
  refine ⟨?_, fun s hs => ?_, ?_⟩
  · unfold PressD.sets
    refine List.Pairwise.filter _ ?_
    rw [List.pairwise_map]
    exact (List.pairwise_lt_range (n := full p.n)).imp (fun h => by omega)
  · unfold PressD.sets at hs
    obtain ⟨h1, _⟩ := List.mem_filter.1 hs
    obtain ⟨k, hk, rfl⟩ := List.mem_map.1 h1
    have hk2 := List.mem_range.1 hk
    have hlt : k + 1 < 2 ^ p.n := le_full.1 (by omega)
    refine ⟨by omega, hlt, sub_iff.2 fun i hi => ?_⟩
    rw [tb_full]
    rcases Nat.lt_or_ge i p.n with h | h
    · simp [h]
    · rw [Nat.testBit_lt_two_pow (Nat.lt_of_lt_of_le hlt (Nat.pow_le_pow_right (by omega) h))] at hi; cases hi
  · have := setsK_len p (full p.n)
    exact this
theorem best_is (hv : p.ok = true) : foldB (pressF p.sets p.bales.toNat 0 0 []) [] = planP p := by
  obtain ⟨h1, h2, -⟩ := sets_props (p := p)
  exact best_plan h1 (Nat.lt_of_lt_of_le (full_lt p.n) (Nat.pow_le_pow_right (by omega) (PressD.ok_head hv).1)) (fun s hs => (h2 s hs).2.2) (fun s hs => (h2 s hs).1)
/-- What is known of a pressing: few sets, small ones. -/
theorem press_bd (hv : p.ok = true) {b : Nat} (hb : b ≤ 5) {M : List Nat} (hM : M ∈ pressF p.sets b 0 0 []) : M.length ≤ 5 ∧ (∀ s ∈ M, s < 1024) ∧ 0 ≤ pops M ∧ pops M ≤ 10 := by
  obtain ⟨h1, h2, -⟩ := sets_props (p := p)
  rw [mem_pressF h1 (fun s hs => (h2 s hs).2.2) b 0 0 0 [] M (fun i s hs => ⟨fun _ => (h2 s (List.mem_of_getElem? hs)).1, fun _ => Nat.zero_le _⟩)] at hM
  obtain ⟨K, rfl, hK⟩ := hM
  refine ⟨Nat.le_trans hK.length hb, fun s hs => Nat.lt_of_lt_of_le (h2 s ((hK.parts).1 s hs).1).2.1 (PressD.n_pow hv), pops_nonneg _, Int.le_trans hK.pops_le (pop_bd _ 10).2⟩
end
section
variable {low top bales : Int} {fa wa : Option Addr} {fl fc wl wc : Nat} {p : PressD}
set_option maxRecDepth 100000 in
set_option maxHeartbeats 6400000 in
theorem rbest_any (hv : p.ok = true) (hw : p.wrong = 0) (h6 : p.n ≤ 6) (w : World) (hP : PressIn w w.heap.size fa fl low top bales wa wl p) :
    Calls Try.prog 76 #[pressV fa fl fc low top bales wa wl wc] w (RowR (planP p) w) := by
  have HP := Lib.hid hP
  have HV := Lib.hid hv
  have HWR := Lib.hid hw
  have H7 : Hid (p.n ≤ 7) := by show _ ≤ _; omega
  have hbl := PressD.ok_head hv
  rw [hP.ebales] at hbl
  obtain ⟨Bn, rfl⟩ : ∃ Bn : Nat, bales = Bn := ⟨bales.toNat, by omega⟩
  have hB5 : Bn ≤ 5 := by omega
  have HBI : Hid (foldB (pressF p.sets Bn 0 0 []) [] = planP p) := by
    show _ = _
    rw [← best_is hv, hP.ebales, Int.toNat_natCast]
  obtain ⟨q1, q2, q3⟩ := sets_props (p := p)
  obtain ⟨l, hl⟩ : ∃ l, p.sets = l := ⟨_, rfl⟩
  have HPB : Hid (∀ M ∈ pressF l Bn 0 0 [], M.length ≤ 5 ∧ (∀ s ∈ M, s < 1024) ∧ 0 ≤ pops M ∧ pops M ≤ 10) := by rw [← hl]; exact fun M hM => press_bd hv hB5 hM
  obtain ⟨m, hm⟩ : ∃ m, l.length = m := ⟨_, rfl⟩
  rw [hl] at q2 q3 HBI
  rw [hm] at q3
  have hm63 : m ≤ 63 := by
    unfold full at q3
    have h := Nat.pow_le_pow_right (n := 2) (by omega) h6
    omega
  have HLS : Hid (∀ s ∈ l, s < 1024) := fun s hs => Nat.lt_of_lt_of_le (q2 s hs).2.1 (PressD.n_pow hv)
  have HLE := Lib.hid hl
  have HLM := Lib.hid hm
  have h64 : 64 ^ Bn ≤ 1073741824 := by have := Nat.pow_le_pow_right (n := 64) (by omega) hB5; omega
  have H64 := Lib.hid h64
  clear hP hv hw h6 hbl q1 q2 q3 hl hm h64
  unfold pressV
  go_enter Try.func76, Try.ntmps76
  go_upto_region 1 with fail
  obtain ⟨W, hW⟩ : ∃ W, W = w.alloc (Obj.cells #[Value.slice fa fl fc, Value.int IntKind.i64 low, Value.int IntKind.i64 top, Value.int IntKind.i64 (Bn : Int), Value.slice wa wl wc] 25) := ⟨_, rfl⟩
  have HX : Hid (Blk W w.heap.size 25 #[Value.slice fa fl fc, Value.int IntKind.i64 low, Value.int IntKind.i64 top, Value.int IntKind.i64 (Bn : Int), Value.slice wa wl wc]) := by rw [hW]; exact Blk.new w 25 _
  have HBW : Hid (Below w.heap.size w W) := by rw [hW]; exact (Below.refl _ _).alloc (Nat.le_refl _) _
  rw [← hW]
  clear hW
  obtain ⟨x0, x1, x2, x3, x4, xl⟩ := blk5 HX.out
  refine wp_region_havoc [(0,false),(2,false),(3,false),(1,true)] [4,5] (fun _ _ => False) (by kernel_rfl) (by kernel_rfl) (fun _ _ _ _ h => h.elim) ?_
  (apply hav_same (by simp only [List.getElem?_toArray, List.getElem?_cons_zero]; rfl) (by kernel_rfl); (focus (intro wv hgv _; have hcv : ∀ b o, b < _ → wv.cell? ⟨b, o, none⟩ = _ := fun b o hb => Below.cell hgv (p := ⟨b, o, none⟩) hb; (try go_simp); try rfl; done)); simp only [Act.put, List.setIfInBounds_toArray, List.set_cons_succ, List.set_cons_zero])
  iterate 2 (apply hav_same (by simp only [List.getElem?_toArray, List.getElem?_cons_succ, List.getElem?_cons_zero]; rfl) (by kernel_rfl); (focus (intro wv hgv _; have hcv : ∀ b o, b < _ → wv.cell? ⟨b, o, none⟩ = _ := fun b o hb => Below.cell hgv (p := ⟨b, o, none⟩) hb; (try go_simp); try rfl; done)); simp only [Act.put, List.setIfInBounds_toArray, List.set_cons_succ, List.set_cons_zero])
  refine hav_call_ghost (fun y wq => ∃ A c, y = .slice A m c ∧ RowN nV 3 wq A l) (by simp only [List.getElem?_toArray, List.getElem?_cons_succ, List.getElem?_cons_zero]; rfl) (by kernel_rfl) (by intro wv; go_simp; try exact ⟨rfl, rfl⟩) (fun v wa wb ⟨A, c, e, h⟩ hg => ⟨A, c, e, h.below hg⟩) (fun wv hgv _ => ?_) (fun y => ?_)
  · refine (sure_any' (p := p) HV.out HWR.out H7.out wv (by exact (HP.out.grow HBW.out).grow hgv)).mono ?_
    rintro e w' ⟨A, c, rfl, hr, hb⟩
    rw [HLE.out, HLM.out] at *
    exact .inl ⟨_, rfl, hb, A, c, rfl, hr⟩
  simp only [Act.put, List.setIfInBounds_toArray, List.set_cons_succ, List.set_cons_zero]
  refine hav_end (fun w1 hg1 hF => ?_)
  simp only [List.filterMap]
  obtain ⟨-, sA, sc, rfl, hsr⟩ := hF
  have HSR := Lib.hid hsr
  have HB1 : Hid (Below w.heap.size w w1) := HBW.out.trans (hg1.mono HBW.out.size)
  clear hg1 hsr x0 x1 x2 x3 x4 xl
  have hcall := pressings_any (l := l) (m := m) (lA := sA) (lc := sc) w1.heap.size Bn [] none 0 0 0 0 0 (.slice none 0 0) [] [] w1 (Nat.le_refl _) HSR.out HLM.out hm63 HLS.out rfl (by omega) RowN.nil (own_nil _ _ _ _) Rows.nil rfl (by have := H64.out; omega) (Nat.zero_le _) (by omega)
  have e0 : ((0 : Nat) : Int) = 0 := rfl
  rw [e0] at hcall
  have HCALL := Lib.hid hcall
  clear hcall e0
  go_wp2_with fail
  refine HCALL.out.mono ?_
  rintro e w2 ⟨v', N, xs, rfl, hown, hrows, hxl, hkt⟩
  rw [List.nil_append] at hrows
  obtain ⟨Ls, hLs⟩ : ∃ Ls, pressF l Bn 0 0 [] = Ls := ⟨_, rfl⟩
  have hL0 : Ls[0]? = some [] := by
    rw [← hLs]
    cases Bn with
    | zero => rfl
    | succ b => rfl
  rw [hLs] at hrows HBI HPB
  have hown2 : w2.ownsRow w1.heap.size 38 1 v' xs.length (xs.flatMap fun v => [v]) := by rw [flat_one, hxl]; simpa using hown
  obtain ⟨A, cp, rfl, hrd, -⟩ := own_rd (f := fun v : Value => [v]) (fun _ => rfl) (by decide) hown2
  rw [hxl]
  have hN0 : 0 < N := by
    have h1 := hrows.1
    have h2 := (List.getElem?_eq_some_iff.1 hL0).1
    omega
  have HRD := Lib.hid hrd
  have HRW := Lib.hid hrows
  have HNL : Hid (N = Ls.length) := by show _ = _; rw [← hrows.1, hxl]
  have HB2 : Hid (Below w.heap.size w w2) := HB1.out.trans (hkt.1.mono HB1.out.size)
  have HL0 := Lib.hid hL0
  have HLEN : Hid (N ≤ 1073741824) := by
    have h1 := pressF_len (m := 63) (l := l) (by rw [HLM.out]; exact hm63) Bn 0 0 []
    rw [hLs] at h1
    have h2 : Ls.length ≤ 64 ^ Bn := h1
    have h3 := H64.out
    have h4 := HNL.out
    show _ ≤ _
    omega
  have hNb := HLEN.out
  clear hown hown2 hrd hrows hxl hkt hL0 hLs HCALL
  obtain ⟨A0, c0, hx0, hr0⟩ := HRW.out.2 0 [] HL0.out
  obtain ⟨gb, off, rfl, hgb, H0⟩ := HRD.out 0 _ hx0
  have H0 := H0 0 _ rfl
  rw [Nat.mul_one, Nat.add_zero] at H0
  have hNi : (0 : Int) < (N : Int) := by omega
  go_wp2
  go_loopw [4, 5] (fun o i wr => ∃ (k : Nat) (oA : Option Addr) (oc : Nat) (M : List Nat), k ≤ N ∧ i = .int .i64 k ∧ o = .slice oA M.length oc ∧ RowN nV 3 wr oA M ∧ foldB (Ls.take k) [] = M ∧ M.length ≤ 5 ∧ (∀ s ∈ M, s < 1024) ∧ 0 ≤ pops M ∧ pops M ≤ 10 ∧ Below w2.heap.size w2 wr) (fun _ i _ => N - (intOf i).toNat)
  case atStart => exact ⟨0, A0, c0, [], Nat.zero_le _, rfl, rfl, RowN.nil, rfl, by simp, by simp, by simp [pops], by simp [pops], Below.refl _ _⟩
  case round =>
    obtain ⟨k, oA, oc, M, hk, rfl, rfl, hrm, hfo, hm5, hmb, hp0, hp1, hb⟩ := hrel
    have HRM := Lib.hid hrm
    have HFO := Lib.hid hfo
    have HMB := Lib.hid hmb
    have HB := Lib.hid hb
    obtain ⟨nM, hnM⟩ : ∃ n, M.length = n := ⟨_, rfl⟩
    obtain ⟨PM, hPM⟩ : ∃ n, pops M = n := ⟨_, rfl⟩
    rw [hnM] at hm5 ⊢
    rw [hPM] at hp0 hp1
    have HNM := Lib.hid hnM
    have HPM := Lib.hid hPM
    clear hrm hfo hmb hb hnM hPM
    by_cases hlt : k < N
    · obtain ⟨L, hL⟩ : ∃ L, Ls[k]? = some L := ⟨_, List.getElem?_eq_getElem (by rw [← HNL.out]; exact hlt)⟩
      obtain ⟨LA, lc, hx, hrow⟩ := HRW.out.2 k L hL
      obtain ⟨l5, lb, lp0, lp1⟩ := HPB.out L (List.mem_of_getElem? hL)
      have HNX := Lib.hid (foldB_next Ls hL [])
      rw [HFO.out] at HNX
      obtain ⟨gx, ox, hgx, hgb2, H1⟩ := (HRD.out.below HB.out) k _ hx
      obtain ⟨nL, hnL⟩ : ∃ n, L.length = n := ⟨_, rfl⟩
      obtain ⟨PL, hPL⟩ : ∃ n, pops L = n := ⟨_, rfl⟩
      have H1 := H1 0 _ rfl
      rw [Nat.mul_one, Nat.add_zero, hnL] at H1
      injection hgx with hgx
      injection hgx with e1 e2
      subst e1 e2
      have hgw : gb < wr.heap.size := Nat.lt_of_lt_of_le hgb2 HB.out.size
      rw [hnL] at l5
      rw [hPL] at lp0 lp1
      have HNLL := Lib.hid hnL
      have HPL := Lib.hid hPL
      have HLB := Lib.hid lb
      have HROW := Lib.hid (hrow.below HB.out)
      have HBT := Lib.hid (better_iff L M)
      have HBN := Lib.hid (better_no L M)
      rw [HPL.out, HPM.out, HNLL.out, HNM.out] at HBT HBN
      have hMl : M.length ≤ 5 := by rw [HNM.out]; exact hm5
      have hM0 : 0 ≤ pops M ∧ pops M ≤ 10 := by rw [HPM.out]; exact ⟨hp0, hp1⟩
      have hLl : L.length ≤ 5 := by rw [HNLL.out]; exact l5
      have hL0 : 0 ≤ pops L ∧ pops L ≤ 10 := by rw [HPL.out]; exact ⟨lp0, lp1⟩
      have HMX : Hid (M.length ≤ 5 ∧ 0 ≤ pops M ∧ pops M ≤ 10) := ⟨hMl, hM0.1, hM0.2⟩
      have HLX : Hid (L.length ≤ 5 ∧ 0 ≤ pops L ∧ pops L ≤ 10) := ⟨hLl, hL0.1, hL0.2⟩
      clear hL hx hrow lb hnL hPL hMl hM0 hLl hL0 hgb2
      go_wp2_with fail
      refine (pressed_any (l := L) (by omega) HNLL.out HLB.out wr HROW.out).mono ?_
      rw [HPL.out]
      rintro e w5 ⟨rfl, rfl⟩
      go_wp2_with fail
      refine (pressed_any (l := M) (by omega) HNM.out HMB.out w5 HRM.out).mono ?_
      rw [HPM.out]
      rintro e w6 ⟨rfl, rfl⟩
      by_cases c1 : PM < PL
      · have HY : Hid (foldB (Ls.take (k + 1)) [] = L) := by show _ = _; rw [HNX.out, if_pos (HBT.out.2 (.inl c1))]
        have d1 : decide (PM < PL) = true := by simp [c1]
        clear c1
        go_wp2
        go_roundw
        case rel => exact ⟨k + 1, LA, lc, L, by omega, by go_num, by rw [HNLL.out], HROW.out, HY.out, HLX.out.1, HLB.out, HLX.out.2.1, HLX.out.2.2, HB.out⟩
        case measure => simp [intOf]; omega
      · have d1 : decide (PM < PL) = false := by simp; omega
        by_cases c2 : PL = PM
        · subst c2
          have d2 : (PL == PL) = true := by simp
          by_cases c3 : nL < nM
          · have HY : Hid (foldB (Ls.take (k + 1)) [] = L) := by show _ = _; rw [HNX.out, if_pos (HBT.out.2 (.inr ⟨rfl, .inl c3⟩))]
            have d3 : decide (nL < nM) = true := by simp [c3]
            clear c1 c3
            go_wp2
            go_roundw
            case rel => exact ⟨k + 1, LA, lc, L, by omega, by go_num, by rw [HNLL.out], HROW.out, HY.out, HLX.out.1, HLB.out, HLX.out.2.1, HLX.out.2.2, HB.out⟩
            case measure => simp [intOf]; omega
          · have d3 : decide (nL < nM) = false := by simp; omega
            by_cases c4 : nL = nM
            · subst c4
              have d4 : ((nL : Int) == (nL : Int)) = true := by simp
              have d5 : (nL == nL) = true := by simp
              clear c1 c3
              go_wp2_with fail
              refine (before_any (a := L) (b := M) HNLL.out HNM.out (by omega) w6 HROW.out HRM.out).mono ?_
              cases hbf : befB L M
              · have HY : Hid (foldB (Ls.take (k + 1)) [] = M) := by show _ = _; rw [HNX.out, if_neg (by rw [HBN.out.2 ⟨Int.le_refl _, fun _ => ⟨Nat.le_refl _, fun _ => hbf⟩⟩]; simp)]
                clear hbf
                rintro e w7 ⟨rfl, hb7⟩
                have HB7 : Hid (Below w2.heap.size w2 w7) := HB.out.trans (hb7.mono HB.out.size)
                have HR7 := Lib.hid (HRM.out.below hb7)
                clear hb7 H1
                go_wp2
                go_roundw
                case rel => exact ⟨k + 1, oA, oc, M, by omega, by go_num, by rw [HNM.out], HR7.out, HY.out, HMX.out.1, HMB.out, HMX.out.2.1, HMX.out.2.2, HB7.out⟩
                case measure => simp [intOf]; omega
              · have HY : Hid (foldB (Ls.take (k + 1)) [] = L) := by show _ = _; rw [HNX.out, if_pos (HBT.out.2 (.inr ⟨by trivial, .inr ⟨by trivial, hbf⟩⟩))]
                clear hbf
                rintro e w7 ⟨rfl, hb7⟩
                have HB7 : Hid (Below w2.heap.size w2 w7) := HB.out.trans (hb7.mono HB.out.size)
                have HR7 := Lib.hid (HROW.out.below hb7)
                have H2 : w7.cell? ⟨gb, off + k, none⟩ = some (.slice LA nL lc) := (hb7.cell (p := ⟨gb, off + k, none⟩) hgw).trans H1
                have hg7 : gb < w7.heap.size := Nat.lt_of_lt_of_le hgw hb7.size
                clear hb7 H1
                go_wp2
                go_roundw
                case rel => exact ⟨k + 1, LA, lc, L, by omega, by go_num, by rw [HNLL.out], HR7.out, HY.out, HLX.out.1, HLB.out, HLX.out.2.1, HLX.out.2.2, HB7.out⟩
                case measure => simp [intOf]; omega
            · have HY : Hid (foldB (Ls.take (k + 1)) [] = M) := by show _ = _; rw [HNX.out, if_neg (by rw [HBN.out.2 ⟨Int.le_refl _, fun _ => ⟨by omega, fun e => absurd e c4⟩⟩]; simp)]
              have d4 : ((nL : Int) == (nM : Int)) = false := by simp; omega
              have d5 : (nL == nM) = false := by simp; omega
              clear c1 c3 c4
              go_wp2
              go_roundw
              case rel => exact ⟨k + 1, oA, oc, M, by omega, by go_num, by rw [HNM.out], HRM.out, HY.out, HMX.out.1, HMB.out, HMX.out.2.1, HMX.out.2.2, HB.out⟩
              case measure => simp [intOf]; omega
        · have HY : Hid (foldB (Ls.take (k + 1)) [] = M) := by show _ = _; rw [HNX.out, if_neg (by rw [HBN.out.2 ⟨by omega, fun e => absurd e c2⟩]; simp)]
          have d2 : (PL == PM) = false := by simp; omega
          clear c1 c2
          go_wp2
          go_roundw
          case rel => exact ⟨k + 1, oA, oc, M, by omega, by go_num, by rw [HNM.out], HRM.out, HY.out, HMX.out.1, HMB.out, HMX.out.2.1, HMX.out.2.2, HB.out⟩
          case measure => simp [intOf]; omega
    · obtain rfl : N = k := by omega
      have HE : Hid (M = planP p) := by
        show _ = _
        rw [← HFO.out, List.take_of_length_le (by rw [HNL.out]; exact Nat.le_refl _), HBI.out]
      go_wp2
      go_ret
      exact ⟨oA, oc, by rw [← HE.out, HNM.out]; rfl, by rw [← HE.out]; exact HRM.out, HB2.out.trans (HB.out.mono HB2.out.size)⟩
end
end Go.Proofs.Ytbfjebglaimcmaa
