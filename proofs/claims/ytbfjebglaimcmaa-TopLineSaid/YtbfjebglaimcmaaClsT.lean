/- The walk of the classer's keeps: does each bale keep the line in some truth? Conditions: the line is valid, it is in memory. -/
import Derived.Test.YtbfjebglaimcmaaClsOL
namespace Go.Proofs.Ytbfjebglaimcmaa
open Go.RowKit Go.Hav Go.Sq
attribute [local go_sem] Oper.semAt_some
def overI (may : Nat) (f : Nat → Int) (i : Nat) : Int := if may < i then 65536 else f i
theorem overI_cI (may : Nat) (C : Nat → Nat) : overI may (cI C) = cI (overC may C) := by
  funext i
  unfold overI cI overC farC
  split <;> rfl
theorem keepsL_far {d may : Nat} (i : Nat) : ∀ (l : List Bl), (∀ b ∈ l, BlOk b) → keepsL d may l i ≤ farC
  | [], _ => Nat.zero_le _
  | [b], h => by
    obtain ⟨h1, h2, h3, h4⟩ := h b (by simp)
    show overC may (ownC b true) i ≤ farC
    unfold overC
    split
    · exact Nat.le_refl _
    · exact ownC_far b true i h4 h3 h2
  | b :: b2 :: l, _ => by
    show overC may (plusC (driftC d (keepsL d may (b2 :: l))) (ownC b true)) i ≤ farC
    unfold overC plusC
    split
    · exact Nat.le_refl _
    · exact Nat.min_le_left _ _
theorem keepsL_succ {d may k : Nat} {c : Cls} {b : Bl} (hk : 0 < k) (h : c.bl[k]? = some b) : keepsL d may (c.bl.take (k + 1)).reverse = overC may (plusC (driftC d (keepsL d may (c.bl.take k).reverse)) (ownC b true)) := by
  have hl := (List.getElem?_eq_some_iff.1 h).1
  rw [List.take_add_one, h]
  simp only [Option.toList_some, List.reverse_append, List.reverse_cons, List.reverse_nil, List.nil_append, List.singleton_append]
  cases hq : (c.bl.take k).reverse with
  | nil =>
    have := congrArg List.length hq
    simp only [List.length_reverse, List.length_take, List.length_nil] at this
    omega
  | cons a l => rfl
section
variable {w V : World} {B d r bc bt : Nat} {ba : Option Addr} {c : Cls}
set_option maxRecDepth 100000 in
set_option maxHeartbeats 6400000 in
theorem over_any (f : Nat → Int) (w : World) (hT : TabIn w B d r ba bc c) (ht : Blk w bt 117 #[.pointer (some ⟨d, 0, none⟩)]) : Calls Try.prog 134 #[costV f, .pointer (some ⟨bt, 0, none⟩)] w fun e w' => e = .returned (costV (overI c.may f)) ∧ Below w.heap.size w w' := by
  obtain ⟨W, hW⟩ : ∃ W, W = (w.alloc (.cells (costA f) 162)).alloc (.cells (costA fun _ => 0) 162) := ⟨_, rfl⟩
  have HX : Hid (Blk W w.heap.size 162 (costA f)) := by rw [hW]; exact (Blk.new w 162 _).alloc _
  have HY : Hid (Blk W (w.heap.size + 1) 162 (costA fun _ => 0)) := by rw [hW]; exact Blk.new_ (by simp) 162 _
  have HB : Hid (Below w.heap.size w W) := by rw [hW]; exact ((Below.refl _ _).alloc (Nat.le_refl _) _).alloc (by simp) _
  have HTW := Lib.hid (hT.below HB.out)
  have HBT := Lib.hid (ht.below HB.out ht.lt)
  obtain ⟨m, hm⟩ : ∃ m, c.may = m := ⟨_, rfl⟩
  have hm30 : m ≤ 30 := by rw [← hm]; exact hT.ok.may
  have d1 := HTW.out.blk.cell 1
  have dl := HTW.out.blk.lt
  have b0 := HBT.out.cell 0
  have bl := HBT.out.lt
  simp [tabC] at d1
  simp at b0
  rw [hm] at d1 ⊢
  have hz := Try.zero162
  unfold costV at hz ⊢
  clear hT ht hm
  go_enter Try.func134, Try.ntmps134
  go_upto_region 1 with (fail)
  rw [← hW]
  clear hW hz
  go_upto_region 2 with (fail)
  go_loopw [4] (fun i wr => ∃ k : Nat, m + 1 ≤ k ∧ k ≤ 31 ∧ i = .int .i64 k ∧ Blk wr w.heap.size 162 (costA fun j => if m < j ∧ j < k then 65536 else f j) ∧ Blk wr (w.heap.size + 1) 162 (costA fun _ => 0) ∧ Below w.heap.size w wr) (fun i _ => 31 - (intOf i).toNat)
  case atStart => exact ⟨m + 1, Nat.le_refl _, by omega, by go_num, by rw [costA_congr (g := f) (fun j _ => if_neg (by omega))]; exact HX.out, HY.out, HB.out⟩
  case round =>
    obtain ⟨k, hk1, hk, rfl, hx, hy, hb⟩ := hrel
    have HXR := Lib.hid hx
    have HYR := Lib.hid hy
    have HBR := Lib.hid hb
    have xl := hx.lt
    clear hx hy hb
    by_cases hlt : k < 31
    · have hki : (k : Int) < 31 := by omega
      have xk := HXR.out.cell k
      have fk := HXR.out.frozen k
      rw [costA_get _ hlt] at xk
      have hs := HXR.out.set_ k (.int .i64 65536)
      rw [costA_set _ hlt] at hs
      have HS := Lib.hid hs
      clear hs
      go_wp2_with fail
      go_roundw
      case rel =>
        refine ⟨k + 1, by omega, by omega, by go_num, ?_, HYR.out.far (by simp) _, HBR.out.setCell (by simp) _⟩
        rw [costA_congr (g := fun j => if j = k then 65536 else if m < j ∧ j < k then 65536 else f j) (fun j _ => by
          show (if m < j ∧ j < k + 1 then (65536 : Int) else f j) = if j = k then 65536 else if m < j ∧ j < k then 65536 else f j
          by_cases e : j = k
          · rw [if_pos e, if_pos (by omega)]
          · rw [if_neg e]
            by_cases e2 : m < j ∧ j < k
            · rw [if_pos e2, if_pos (by omega)]
            · rw [if_neg e2, if_neg (by omega)])]
        exact HS.out
      case measure => simp [intOf]; omega
    · obtain rfl : k = 31 := by omega
      have HXE : Hid (Blk wr w.heap.size 162 (costA (overI m f))) := by
        show Blk _ _ _ _
        rw [costA_congr (g := fun j => if m < j ∧ j < 31 then 65536 else f j) (fun j hj => by
          show (if m < j then (65536 : Int) else f j) = if m < j ∧ j < 31 then 65536 else f j
          by_cases e : m < j
          · rw [if_pos e, if_pos ⟨e, hj⟩]
          · rw [if_neg e, if_neg (fun h => e h.1)])]
        exact HXR.out
      have hR := setRow_blk HYR.out (costA (overI m f))
      have hld := res_load (cost_load hR)
      unfold costV at hld
      go_wp2_with (first | refine wpList_loadW 162 _ rfl rfl rfl (cost_load HXE.out) ?_ | refine wpList_storeW 162 _ _ rfl rfl rfl rfl (cost_store HYR.out _) ?_)
      refine bodyPost_ret (v := costV (overI m f)) ?_ rfl ⟨rfl, below_setRow HBR.out (by omega) _⟩
      simp [results, Try.results134, Act.put, hld, costV]
set_option maxRecDepth 100000 in
set_option maxHeartbeats 6400000 in
theorem keeps_any (w : World) (hT : TabIn w B d r ba bc c) : Calls Try.prog 96 #[.pointer (some ⟨d, 0, none⟩)] w fun e w' => e = .returned (.bool (keepsC c)) ∧ Below w.heap.size w w' := by
  obtain ⟨W, hW⟩ : ∃ W, W = w.alloc (.cells #[.pointer (some ⟨d, 0, none⟩)] 117) := ⟨_, rfl⟩
  have HX : Hid (Blk W w.heap.size 117 #[.pointer (some ⟨d, 0, none⟩)]) := by rw [hW]; exact Blk.new w 117 _
  have HB : Hid (Below w.heap.size w W) := by rw [hW]; exact (Below.refl _ _).alloc (Nat.le_refl _) _
  have HT := Lib.hid (hT.below HB.out)
  obtain ⟨s, hs⟩ : ∃ x, full c.bl.length = x := ⟨_, rfl⟩
  have HS := Lib.hid hs
  obtain ⟨len, hlen⟩ : ∃ x, c.bl.length = x := ⟨_, rfl⟩
  have HLEN := Lib.hid hlen
  have hl1 : 1 ≤ len := by rw [← hlen]; exact hT.ok.l1
  have hl6 : len ≤ 6 := by rw [← hlen]; exact hT.ok.l6
  obtain ⟨b0, hb0⟩ : ∃ b, c.bl[0]? = some b := ⟨c.bl[0]'(by omega), by simp⟩
  have HB0 := Lib.hid hb0
  have HBK0 : Hid (BlOk b0) := hT.ok.bl b0 (List.mem_of_getElem? hb0)
  have hmf : ∀ (fn : Fn) (first cap : Array Value) (w : World), (Instr.makeFunc fn first cap).run Try.prog w = .ok (.func fn first cap) w := fun _ _ _ _ => rfl
  have x0 := HX.out.cell 0
  have xl := HX.out.lt
  simp at x0
  have hz := Try.zero162
  unfold costV at hz
  clear hT hs hlen hb0
  go_enter Try.func96, Try.ntmps96
  go_upto_region 1 with (fail)
  rw [← hW]
  clear hW
  go_upto_region 2 with (fail)
  clear hmf
  refine wp_region_havoc [(0,false),(1,false),(2,false),(3,false),(4,false),(5,false),(6,false),(7,true)] [8] (fun _ _ => False) (by kernel_rfl) (by kernel_rfl) (fun _ _ _ _ h => h.elim) ?_
  (apply hav_same (by simp only [List.getElem?_toArray, List.getElem?_cons_zero]; rfl) (by kernel_rfl); (focus (intro wv hgv _; have hcv : ∀ b o, b < _ → wv.cell? ⟨b, o, none⟩ = _ := fun b o hb => Below.cell hgv (p := ⟨b, o, none⟩) hb; (try go_simp); try rfl; done)); simp only [Act.put, List.setIfInBounds_toArray, List.set_cons_succ, List.set_cons_zero])
  iterate 2 (apply hav_same (by simp only [List.getElem?_toArray, List.getElem?_cons_succ, List.getElem?_cons_zero]; rfl) (by kernel_rfl); (focus (intro wv hgv _; have hcv : ∀ b o, b < _ → wv.cell? ⟨b, o, none⟩ = _ := fun b o hb => Below.cell hgv (p := ⟨b, o, none⟩) hb; (try go_simp); try rfl; done)); simp only [Act.put, List.setIfInBounds_toArray, List.set_cons_succ, List.set_cons_zero])
  (apply hav_call (by simp only [List.getElem?_toArray, List.getElem?_cons_succ, List.getElem?_cons_zero]; rfl) (by kernel_rfl); (focus (intro wv; go_simp; try exact ⟨rfl, rfl⟩; done)); (focus (intro wv hgv _; have hq := everyC_any wv (HT.out.below hgv); rw [HS.out] at hq; exact hq.mono (fun e w' ⟨h1, h2⟩ => ⟨h1, by rw [h2]; exact Below.refl _ _⟩); done)); simp only [Act.put, List.setIfInBounds_toArray, List.set_cons_succ, List.set_cons_zero])
  (apply hav_call (by simp only [List.getElem?_toArray, List.getElem?_cons_succ, List.getElem?_cons_zero]; rfl) (by kernel_rfl); (focus (intro wv; go_simp; try exact ⟨rfl, rfl⟩; done)); (focus (intro wv hgv _; have hq := step_any wv (HT.out.below hgv) HB0.out; rw [HS.out] at hq; exact hq; done)); simp only [Act.put, List.setIfInBounds_toArray, List.set_cons_succ, List.set_cons_zero])
  (apply hav_call (by simp only [List.getElem?_toArray, List.getElem?_cons_succ, List.getElem?_cons_zero]; rfl) (by kernel_rfl); (focus (intro wv; go_simp; try exact ⟨rfl, rfl⟩; done)); (focus (intro wv hgv _; exact own_any c.drift b0 HBK0.out wv; done)); simp only [Act.put, List.setIfInBounds_toArray, List.set_cons_succ, List.set_cons_zero])
  (apply hav_call (by simp only [List.getElem?_toArray, List.getElem?_cons_succ, List.getElem?_cons_zero]; rfl) (by kernel_rfl); (focus (intro wv; go_simp; try exact ⟨rfl, rfl⟩; done)); (focus (intro wv hgv _; have hq := over_any (cI (ownC b0 true)) wv (HT.out.below hgv) (HX.out.below hgv HX.out.lt); rw [overI_cI] at hq; exact hq; done)); simp only [Act.put, List.setIfInBounds_toArray, List.set_cons_succ, List.set_cons_zero])
  (apply hav_new (fun g => .pointer (some ⟨g, 0, none⟩)) (.cells (costA fun _ => 0) 162) (by simp only [List.getElem?_toArray, List.getElem?_cons_succ, List.getElem?_cons_zero]; rfl) (by kernel_rfl); (focus (intro wv hgv _; have hcv : ∀ b o, b < _ → wv.cell? ⟨b, o, none⟩ = _ := fun b o hb => Below.cell hgv (p := ⟨b, o, none⟩) hb; (try go_simp); try rfl; done)); intro v; simp only [Act.put, List.setIfInBounds_toArray, List.set_cons_succ, List.set_cons_zero])
  refine hav_end (fun w1 hgw1 hF => ?_); simp only [List.filterMap]; have hcw1 : ∀ b o, b < _ → w1.cell? ⟨b, o, none⟩ = _ := fun b o hb => Below.cell hgw1 (p := ⟨b, o, none⟩) hb; have hfw1 : ∀ b o, b < _ → w1.frozen? ⟨b, o, none⟩ = _ := fun b o hb => Below.frozen hgw1 (p := ⟨b, o, none⟩) hb; have hzw1 := Below.size hgw1; (try simp at hzw1)
  obtain ⟨_, g, rfl, hg, hh⟩ := hF
  have hh' : Blk w1 g 162 (costA fun _ => 0) := hh
  have hst := cost_store hh' (cI (overC c.may (ownC b0 true)))
  refine wpList_storeW 162 4 13 rfl rfl rfl rfl hst ?_
  obtain ⟨W1, hW1⟩ : ∃ x, x = w1.setRow g (costA (cI (overC c.may (ownC b0 true)))) := ⟨_, rfl⟩
  have HC : Hid (Blk W1 g 162 (costA (cI (keepsL c.drift c.may (c.bl.take 1).reverse)))) := by
    rw [List.take_add_one, HB0.out, hW1]
    exact setRow_blk hh' _
  have HB1 : Hid (Below W.heap.size W W1) := by show Below _ _ _; rw [hW1]; exact below_setRow hgw1 hg _
  have HGN : Hid (W.heap.size ≤ g) := hg
  rw [← hW1]
  clear hst hW1 hh hh' hg hgw1 hcw1 hfw1 x0 xl hz
  go_upto_region 4 with (fail)
  go_loopw [5] (fun i wr => ∃ k : Nat, 1 ≤ k ∧ k ≤ len ∧ i = .int .i64 k ∧ Blk wr g 162 (costA (cI (keepsL c.drift c.may (c.bl.take k).reverse))) ∧ Below W.heap.size W wr) (fun i _ => len - (intOf i).toNat)
  case atStart => exact ⟨1, Nat.le_refl _, hl1, rfl, HC.out, HB1.out⟩
  case round =>
    obtain ⟨k, hk1, hk, rfl, hc, hb⟩ := hrel
    have HCR := Lib.hid hc
    have HBR := Lib.hid hb
    have HTR := Lib.hid (HT.out.below hb)
    have HXR := Lib.hid (HX.out.below hb HX.out.lt)
    clear hc hb
    have x0 := HXR.out.cell 0
    have xl := HXR.out.lt
    have d0 := HTR.out.blk.cell 0
    have dl := HTR.out.blk.lt
    simp [tabC] at d0
    rw [HLEN.out] at d0
    simp at x0
    by_cases hlt : k < len
    · have hki : (k : Int) < len := by omega
      obtain ⟨b, hbk⟩ : ∃ b, c.bl[k]? = some b := ⟨c.bl[k]'(by rw [HLEN.out]; exact hlt), by simp⟩
      have HBL := Lib.hid hbk
      have HBK : Hid (BlOk b) := HTR.out.ok.bl b (List.mem_of_getElem? hbk)
      have HKS := Lib.hid (keepsL_succ (d := c.drift) (may := c.may) (by omega) hbk)
      have HFAR : Hid (∀ i, i < 31 → keepsL c.drift c.may (c.bl.take k).reverse i ≤ farC) := fun i _ => keepsL_far i _ (fun q hq => HTR.out.ok.bl q (List.mem_of_mem_take (List.mem_reverse.1 hq)))
      obtain ⟨C, hC⟩ : ∃ C, keepsL c.drift c.may (c.bl.take k).reverse = C := ⟨_, rfl⟩
      rw [hC] at HCR HKS HFAR
      clear hbk hC
      go_upto_region 6 with (fail)
      refine wp_region_havoc [(0,false),(1,false),(2,false),(3,false),(4,false),(5,false),(6,false),(7,false),(8,false)] [9] (fun _ _ => False) (by kernel_rfl) (by kernel_rfl) (fun _ _ _ _ h => h.elim) ?_
      (apply hav_same (by simp only [List.getElem?_toArray, List.getElem?_cons_zero]; rfl) (by kernel_rfl); (focus (intro wv hgv _; have hcv : ∀ b o, b < _ → wv.cell? ⟨b, o, none⟩ = _ := fun b o hb => Below.cell hgv (p := ⟨b, o, none⟩) hb; (try go_simp); try rfl; done)); simp only [Act.put, List.setIfInBounds_toArray, List.set_cons_succ, List.set_cons_zero])
      iterate 3 (apply hav_same (by simp only [List.getElem?_toArray, List.getElem?_cons_succ, List.getElem?_cons_zero]; rfl) (by kernel_rfl); (focus (intro wv hgv _; have hcv : ∀ b o, b < _ → wv.cell? ⟨b, o, none⟩ = _ := fun b o hb => Below.cell hgv (p := ⟨b, o, none⟩) hb; (try go_simp); try rfl; done)); simp only [Act.put, List.setIfInBounds_toArray, List.set_cons_succ, List.set_cons_zero])
      (apply hav_call (by simp only [List.getElem?_toArray, List.getElem?_cons_succ, List.getElem?_cons_zero]; rfl) (by kernel_rfl); (focus (intro wv; go_simp; try exact ⟨rfl, rfl⟩; done)); (focus (intro wv hgv _; have hq := everyC_any wv (HTR.out.below hgv); rw [HS.out] at hq; exact hq.mono (fun e w' ⟨h1, h2⟩ => ⟨h1, by rw [h2]; exact Below.refl _ _⟩); done)); simp only [Act.put, List.setIfInBounds_toArray, List.set_cons_succ, List.set_cons_zero])
      (apply hav_call (by simp only [List.getElem?_toArray, List.getElem?_cons_succ, List.getElem?_cons_zero]; rfl) (by kernel_rfl); (focus (intro wv; go_simp; try exact ⟨rfl, rfl⟩; done)); (focus (intro wv hgv _; have hq := step_any wv (HTR.out.below hgv) HBL.out; rw [HS.out] at hq; exact hq; done)); simp only [Act.put, List.setIfInBounds_toArray, List.set_cons_succ, List.set_cons_zero])
      (apply hav_same (by simp only [List.getElem?_toArray, List.getElem?_cons_succ, List.getElem?_cons_zero]; rfl) (by kernel_rfl); (focus (intro wv hgv _; exact exec_loadW 162 _ rfl rfl (cost_load (HCR.out.below hgv HCR.out.lt)))); simp only [Act.put, List.setIfInBounds_toArray, List.set_cons_succ, List.set_cons_zero])
      (apply hav_call (by simp only [List.getElem?_toArray, List.getElem?_cons_succ, List.getElem?_cons_zero]; rfl) (by kernel_rfl); (focus (intro wv; go_simp; try exact ⟨rfl, rfl⟩; done)); (focus (intro wv hgv _; exact after_any c.drift HTR.out.ok.dr b HBK.out C HFAR.out wv; done)); simp only [Act.put, List.setIfInBounds_toArray, List.set_cons_succ, List.set_cons_zero])
      (apply hav_call (by simp only [List.getElem?_toArray, List.getElem?_cons_succ, List.getElem?_cons_zero]; rfl) (by kernel_rfl); (focus (intro wv; go_simp; try exact ⟨rfl, rfl⟩; done)); (focus (intro wv hgv _; have hq := over_any (cI (plusC (driftC c.drift C) (ownC b true))) wv (HTR.out.below hgv) (HXR.out.below hgv HXR.out.lt); rw [overI_cI] at hq; exact hq; done)); simp only [Act.put, List.setIfInBounds_toArray, List.set_cons_succ, List.set_cons_zero])
      refine hav_end (fun w2 hgw2 _ => ?_); simp only [List.filterMap]; have hcw2 : ∀ b o, b < _ → w2.cell? ⟨b, o, none⟩ = _ := fun b o hb => Below.cell hgw2 (p := ⟨b, o, none⟩) hb; have hfw2 : ∀ b o, b < _ → w2.frozen? ⟨b, o, none⟩ = _ := fun b o hb => Below.frozen hgw2 (p := ⟨b, o, none⟩) hb; have hzw2 := Below.size hgw2; (try simp at hzw2)
      have HC2 := HCR.out.below hgw2 HCR.out.lt
      have HB2 : Hid (Below W.heap.size W w2) := HBR.out.trans (hgw2.mono HBR.out.size)
      refine wpList_storeW 162 4 32 rfl rfl rfl rfl (cost_store HC2 _) ?_
      have HS2 := Lib.hid (setRow_blk HC2 (costA (cI (overC c.may (plusC (driftC c.drift C) (ownC b true))))))
      have HBS : Hid (Below W.heap.size W (w2.setRow g (costA (cI (overC c.may (plusC (driftC c.drift C) (ownC b true))))))) := below_setRow HB2.out HGN.out _
      clear hgw2 hcw2 hfw2 HC2 x0 xl d0 dl
      go_wp2_with fail
      go_roundw
      case rel => exact ⟨k + 1, by omega, by omega, by go_num, by rw [HKS.out]; exact HS2.out, HBS.out⟩
      case measure => simp [intOf]; omega
    · obtain rfl : k = len := by omega
      rw [List.take_of_length_le (by rw [HLEN.out]; exact Nat.le_refl _)] at HCR
      obtain ⟨C, hC⟩ : ∃ C, keepsL c.drift c.may c.bl.reverse = C := ⟨_, rfl⟩
      have HKC : Hid (keepsC c = decide (leastC C ≤ c.mis)) := by show _ = _; unfold keepsC; rw [hC]
      rw [hC] at HCR
      have HLE : Hid (leastI (cI C) 0 30 = (leastC C : Nat)) := by show _ = _; rw [leastI_cI]; rfl
      obtain ⟨q, hq⟩ : ∃ q, leastC C = q := ⟨_, rfl⟩
      rw [hq] at HKC HLE
      have d3 := HTR.out.blk.cell 3
      simp [tabC] at d3
      have hdd : decide ((q : Int) ≤ c.mis) = decide (q ≤ c.mis) := decide_eq_decide.2 (by omega)
      clear hC hq
      go_upto_region 7 with (fail)
      refine wp_region_havoc [(0,false),(1,false),(2,false),(3,false),(4,false),(5,false),(6,false),(7,false)] [8] (fun _ _ => False) (by kernel_rfl) (by kernel_rfl) (fun _ _ _ _ h => h.elim) ?_
      (apply hav_same (by simp only [List.getElem?_toArray, List.getElem?_cons_zero]; rfl) (by kernel_rfl); (focus (intro wv hgv _; exact exec_loadW 162 _ rfl rfl (cost_load (HCR.out.below hgv HCR.out.lt)))); simp only [Act.put, List.setIfInBounds_toArray, List.set_cons_succ, List.set_cons_zero])
      (apply hav_call (by simp only [List.getElem?_toArray, List.getElem?_cons_succ, List.getElem?_cons_zero]; rfl) (by kernel_rfl); (focus (intro wv; go_simp; try exact ⟨rfl, rfl⟩; done)); (focus (intro wv hgv _; have hq := least_any (cI C) wv; rw [HLE.out] at hq; exact hq; done)); simp only [Act.put, List.setIfInBounds_toArray, List.set_cons_succ, List.set_cons_zero])
      iterate 6 (apply hav_same (by simp only [List.getElem?_toArray, List.getElem?_cons_succ, List.getElem?_cons_zero]; rfl) (by kernel_rfl); (focus (intro wv hgv _; have hcv : ∀ b o, b < _ → wv.cell? ⟨b, o, none⟩ = _ := fun b o hb => Below.cell hgv (p := ⟨b, o, none⟩) hb; (try go_simp); try rfl; done)); simp only [Act.put, List.setIfInBounds_toArray, List.set_cons_succ, List.set_cons_zero])
      refine hav_end (fun w2 hgw2 _ => ?_); simp only [List.filterMap]; have hcw2 : ∀ b o, b < _ → w2.cell? ⟨b, o, none⟩ = _ := fun b o hb => Below.cell hgw2 (p := ⟨b, o, none⟩) hb; have hfw2 : ∀ b o, b < _ → w2.frozen? ⟨b, o, none⟩ = _ := fun b o hb => Below.frozen hgw2 (p := ⟨b, o, none⟩) hb; have hzw2 := Below.size hgw2; (try simp at hzw2)
      have HB2 : Hid (Below W.heap.size W w2) := HBR.out.trans (hgw2.mono HBR.out.size)
      clear hgw2 hcw2 hfw2 x0 xl d0 dl d3
      go_wp2
      go_ret
      exact ⟨by rw [HKC.out]; rfl, HB.out.trans (HB2.out.mono HB.out.size)⟩
end
end Go.Proofs.Ytbfjebglaimcmaa
