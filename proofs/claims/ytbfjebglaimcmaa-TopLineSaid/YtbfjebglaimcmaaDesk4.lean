/- The walks of both questions (sure, may), and of told; conditions: the shed is read, its press is valid, the set is one of fleeces. -/
import Derived.Test.YtbfjebglaimcmaaDesk2
namespace Go.Proofs.Ytbfjebglaimcmaa
open Go.RowKit Go.Hav
section
variable {B d : Nat} {low top bales : Int} {fa wa : Option Addr} {fl fc wl wc : Nat} {p : PressD}
set_option maxRecDepth 100000 in
set_option maxHeartbeats 6400000 in
theorem sure_any (hv : p.ok = true) (s : Nat) (hs : s < 2 ^ p.n) (w : World) (hD : ShedIn w B d fa fl fc low top bales wa wl wc p) :
    Calls Try.prog 66 #[.agg #[], (.pointer (some ⟨d, 0, none⟩)), .int .u64 s] w fun e w' => e = .returned (.bool (p.sure s)) ∧ Below w.heap.size w w' := by
  have HD := Lib.hid hD
  have HV := Lib.hid hv
  have HS := Lib.hid hs
  have HS1 : Hid (s < 1024) := by have := PressD.n_pow hv; show s < 1024; omega
  have p1 := hD.c1
  have p2 := hD.c2
  have hdw : d < w.heap.size := Nat.lt_of_lt_of_le hD.hd hD.hB
  have hd1 : d < w.heap.size + 1 := by omega
  have HLT : Hid (low = p.low ∧ top = p.top) := ⟨hD.rd.elow.symm, hD.rd.etop.symm⟩
  clear hv hD hs
  cases ha : p.alike s
  · have HF : Hid (p.sure s = false) := by show _ = _; simp [PressD.sure, ha]
    have HA := Lib.hid ha
    clear ha
    go_enter Try.func66, Try.ntmps66
    go_wp2
    refine wp_region_havoc [(0,false),(1,false),(2,false),(3,false),(4,false),(5,false),(6,false),(7,false),(8,false),(9,false),(10,false),(11,false),(12,false),(13,false),(14,false),(15,false),(16,false),(17,false),(18,false),(19,false)] [] (fun _ _ => False) (by kernel_rfl) (by kernel_rfl) (fun _ _ _ _ h => h.elim) ?_
    iterate 2 (apply hav_same (by simp only [List.getElem?_toArray, List.getElem?_cons_succ, List.getElem?_cons_zero]; rfl) (by kernel_rfl); (focus (intro wv hgv _; have hcv : ∀ b o, b < _ → wv.cell? ⟨b, o, none⟩ = _ := fun b o hb => Below.cell hgv (p := ⟨b, o, none⟩) hb; (try go_simp); try rfl; done)); simp only [Act.put, List.setIfInBounds_toArray, List.set_cons_succ, List.set_cons_zero])
    (apply hav_call (by simp only [List.getElem?_toArray, List.getElem?_cons_succ, List.getElem?_cons_zero]; rfl) (by kernel_rfl); (focus (intro wv; go_simp; try exact ⟨rfl, rfl⟩; done)); (focus (intro wv hgv _; have hq := alike_any HV.out s HS1.out wv (HD.out.grow (((Below.refl w.heap.size w).alloc (Nat.le_refl _) _).trans (Below.mono hgv (by simp)))); rw [HA.out] at hq; exact hq; done)); simp only [Act.put, List.setIfInBounds_toArray, List.set_cons_succ, List.set_cons_zero])
    (apply hav_same (by simp only [List.getElem?_toArray, List.getElem?_cons_succ, List.getElem?_cons_zero]; rfl) (by kernel_rfl); (focus (intro wv hgv _; have hcv : ∀ b o, b < _ → wv.cell? ⟨b, o, none⟩ = _ := fun b o hb => Below.cell hgv (p := ⟨b, o, none⟩) hb; (try go_simp); try rfl; done)); simp only [Act.put, List.setIfInBounds_toArray, List.set_cons_succ, List.set_cons_zero])
    iterate 14 (refine hav_skip (by simp only [List.getElem?_toArray, List.getElem?_cons_succ, List.getElem?_cons_zero]; rfl) (by kernel_rfl) ?_; simp only [Act.put, List.setIfInBounds_toArray, List.set_cons_succ, List.set_cons_zero])
    iterate 2 (apply hav_same (by simp only [List.getElem?_toArray, List.getElem?_cons_succ, List.getElem?_cons_zero]; rfl) (by kernel_rfl); (focus (intro wv hgv _; have hcv : ∀ b o, b < _ → wv.cell? ⟨b, o, none⟩ = _ := fun b o hb => Below.cell hgv (p := ⟨b, o, none⟩) hb; (try go_simp); try rfl; done)); simp only [Act.put, List.setIfInBounds_toArray, List.set_cons_succ, List.set_cons_zero])
    refine hav_end (fun w1 hgw1 _ => ?_); simp only [List.filterMap]; have hcw1 : ∀ b o, b < _ → w1.cell? ⟨b, o, none⟩ = _ := fun b o hb => Below.cell hgw1 (p := ⟨b, o, none⟩) hb; have hfw1 : ∀ b o, b < _ → w1.frozen? ⟨b, o, none⟩ = _ := fun b o hb => Below.frozen hgw1 (p := ⟨b, o, none⟩) hb; have hzw1 := Below.size hgw1; (try simp at hzw1)
    go_wp2
    go_ret
    exact ⟨ret_bool (by rw [HF.out]), ((Below.refl w.heap.size w).alloc (Nat.le_refl _) _).trans (hgw1.mono (by simp))⟩
  · obtain ⟨K, HK⟩ : ∃ K, Hid (p.weight s = K) := ⟨_, rfl⟩
    have HF : Hid (p.sure s = spanB K low top) := by show _ = _; simp [PressD.sure, ha, HK.out, HLT.out.1, HLT.out.2]
    have HA := Lib.hid ha
    clear ha
    go_enter Try.func66, Try.ntmps66
    go_wp2
    refine wp_region_havoc [(0,false),(1,false),(2,false),(3,false),(4,false),(5,false),(6,false),(7,false),(8,false),(9,false),(10,false),(11,false),(12,false),(13,false),(14,false),(15,false),(16,false),(17,false),(18,false),(19,false)] [] (fun _ _ => False) (by kernel_rfl) (by kernel_rfl) (fun _ _ _ _ h => h.elim) ?_
    iterate 2 (apply hav_same (by simp only [List.getElem?_toArray, List.getElem?_cons_succ, List.getElem?_cons_zero]; rfl) (by kernel_rfl); (focus (intro wv hgv _; have hcv : ∀ b o, b < _ → wv.cell? ⟨b, o, none⟩ = _ := fun b o hb => Below.cell hgv (p := ⟨b, o, none⟩) hb; (try go_simp); try rfl; done)); simp only [Act.put, List.setIfInBounds_toArray, List.set_cons_succ, List.set_cons_zero])
    (apply hav_call (by simp only [List.getElem?_toArray, List.getElem?_cons_succ, List.getElem?_cons_zero]; rfl) (by kernel_rfl); (focus (intro wv; go_simp; try exact ⟨rfl, rfl⟩; done)); (focus (intro wv hgv _; have hq := alike_any HV.out s HS1.out wv (HD.out.grow (((Below.refl w.heap.size w).alloc (Nat.le_refl _) _).trans (Below.mono hgv (by simp)))); rw [HA.out] at hq; exact hq; done)); simp only [Act.put, List.setIfInBounds_toArray, List.set_cons_succ, List.set_cons_zero])
    iterate 3 (apply hav_same (by simp only [List.getElem?_toArray, List.getElem?_cons_succ, List.getElem?_cons_zero]; rfl) (by kernel_rfl); (focus (intro wv hgv _; have hcv : ∀ b o, b < _ → wv.cell? ⟨b, o, none⟩ = _ := fun b o hb => Below.cell hgv (p := ⟨b, o, none⟩) hb; (try go_simp); try rfl; done)); simp only [Act.put, List.setIfInBounds_toArray, List.set_cons_succ, List.set_cons_zero])
    (apply hav_call (by simp only [List.getElem?_toArray, List.getElem?_cons_succ, List.getElem?_cons_zero]; rfl) (by kernel_rfl); (focus (intro wv; go_simp; try exact ⟨rfl, rfl⟩; done)); (focus (intro wv hgv _; have hq := weight_any HV.out s HS.out wv (HD.out.grow (((Below.refl w.heap.size w).alloc (Nat.le_refl _) _).trans (Below.mono hgv (by simp)))); rw [HK.out] at hq; exact hq; done)); simp only [Act.put, List.setIfInBounds_toArray, List.set_cons_succ, List.set_cons_zero])
    iterate 10 (apply hav_same (by simp only [List.getElem?_toArray, List.getElem?_cons_succ, List.getElem?_cons_zero]; rfl) (by kernel_rfl); (focus (intro wv hgv _; have hcv : ∀ b o, b < _ → wv.cell? ⟨b, o, none⟩ = _ := fun b o hb => Below.cell hgv (p := ⟨b, o, none⟩) hb; (try go_simp); try rfl; done)); simp only [Act.put, List.setIfInBounds_toArray, List.set_cons_succ, List.set_cons_zero])
    (apply hav_call (by simp only [List.getElem?_toArray, List.getElem?_cons_succ, List.getElem?_cons_zero]; rfl) (by kernel_rfl); (focus (intro wv; go_simp; try exact ⟨rfl, rfl⟩; done)); (focus (intro wv hgv _; exact isIn_any K low top _; done)); simp only [Act.put, List.setIfInBounds_toArray, List.set_cons_succ, List.set_cons_zero])
    iterate 2 (apply hav_same (by simp only [List.getElem?_toArray, List.getElem?_cons_succ, List.getElem?_cons_zero]; rfl) (by kernel_rfl); (focus (intro wv hgv _; have hcv : ∀ b o, b < _ → wv.cell? ⟨b, o, none⟩ = _ := fun b o hb => Below.cell hgv (p := ⟨b, o, none⟩) hb; (try go_simp); try rfl; done)); simp only [Act.put, List.setIfInBounds_toArray, List.set_cons_succ, List.set_cons_zero])
    refine hav_end (fun w1 hgw1 _ => ?_); simp only [List.filterMap]; have hcw1 : ∀ b o, b < _ → w1.cell? ⟨b, o, none⟩ = _ := fun b o hb => Below.cell hgw1 (p := ⟨b, o, none⟩) hb; have hfw1 : ∀ b o, b < _ → w1.frozen? ⟨b, o, none⟩ = _ := fun b o hb => Below.frozen hgw1 (p := ⟨b, o, none⟩) hb; have hzw1 := Below.size hgw1; (try simp at hzw1)
    go_wp2
    go_ret
    exact ⟨ret_bool (by rw [HF.out]), ((Below.refl w.heap.size w).alloc (Nat.le_refl _) _).trans (hgw1.mono (by simp))⟩
set_option maxRecDepth 100000 in
set_option maxHeartbeats 6400000 in
theorem may_any (hv : p.ok = true) (s : Nat) (hs : s < 2 ^ p.n) (w : World) (hD : ShedIn w B d fa fl fc low top bales wa wl wc p) :
    Calls Try.prog 162 #[.agg #[], (.pointer (some ⟨d, 0, none⟩)), .int .u64 s] w fun e w' => e = .returned (.bool (p.may s)) ∧ Below w.heap.size w w' := by
  have HD := Lib.hid hD
  have HV := Lib.hid hv
  have HS := Lib.hid hs
  have HS1 : Hid (s < 1024) := by have := PressD.n_pow hv; show s < 1024; omega
  have p1 := hD.c1
  have p2 := hD.c2
  have hdw : d < w.heap.size := Nat.lt_of_lt_of_le hD.hd hD.hB
  have hd0 : d < w.heap.size + 1 := by omega
  have HLT : Hid (low = p.low ∧ top = p.top) := ⟨hD.rd.elow.symm, hD.rd.etop.symm⟩
  obtain ⟨K, HK⟩ : ∃ K, Hid (p.weight s = K) := ⟨_, rfl⟩
  clear hv hD hs
  cases ha : p.alike s
  · have HF : Hid (p.may s = false) := by show _ = _; simp [PressD.may, ha]
    have HA := Lib.hid ha
    clear ha
    go_enter Try.func162, Try.ntmps162
    go_wp2_with fail
    refine (weight_any HV.out s HS.out _ (by exact HD.out.grow (by repeat (first | exact Below.refl _ _ | assumption | refine Below.drew ?_ | refine below_drewN ?_ _ | refine Below.alloc ?_ (by (try simp) <;> omega) _ | refine Below.setCell ?_ (by (try simp) <;> omega) _ | refine Below.trans ?_ (Below.mono (by assumption) (by (try simp) <;> omega)))))).mono ?_
    rw [HK.out]
    unfold spV
    rintro e w2 ⟨rfl, hbw2⟩; obtain ⟨hcw2, hfw2⟩ := bcell hbw2; have hzw2 := hbw2.size; (try simp at hzw2)
    go_wp2
    have hd1 : d < w2.heap.size + 1 := by omega
    have hd2 : d < w2.heap.size := by omega
    have HG2 : Hid (Below w.heap.size w w2) := ((Below.refl w.heap.size w).alloc (Nat.le_refl _) _).trans (hbw2.mono (by simp))
    clear hbw2
    refine wp_region_havoc [(0,false),(1,false),(2,false),(3,false),(4,false),(5,false),(6,false),(7,false),(8,false),(9,false),(10,false),(11,false),(12,false),(13,false),(14,false),(15,false),(16,false),(17,false),(18,false),(19,false),(20,false),(21,false),(22,false),(23,false),(24,false),(25,false)] [] (fun _ _ => False) (by kernel_rfl) (by kernel_rfl) (fun _ _ _ _ h => h.elim) ?_
    iterate 2 (apply hav_same (by simp only [List.getElem?_toArray, List.getElem?_cons_succ, List.getElem?_cons_zero]; rfl) (by kernel_rfl); (focus (intro wv hgv _; have hcv : ∀ b o, b < _ → wv.cell? ⟨b, o, none⟩ = _ := fun b o hb => Below.cell hgv (p := ⟨b, o, none⟩) hb; (try go_simp); try rfl; done)); simp only [Act.put, List.setIfInBounds_toArray, List.set_cons_succ, List.set_cons_zero])
    (apply hav_call (by simp only [List.getElem?_toArray, List.getElem?_cons_succ, List.getElem?_cons_zero]; rfl) (by kernel_rfl); (focus (intro wv; go_simp; try exact ⟨rfl, rfl⟩; done)); (focus (intro wv hgv _; have hq := alike_any HV.out s HS1.out wv (HD.out.grow (HG2.out.trans (((Below.refl w2.heap.size w2).alloc (Nat.le_refl _) _).trans (Below.mono hgv (by simp)) |>.mono (by omega)))); rw [HA.out] at hq; exact hq; done)); simp only [Act.put, List.setIfInBounds_toArray, List.set_cons_succ, List.set_cons_zero])
    (apply hav_same (by simp only [List.getElem?_toArray, List.getElem?_cons_succ, List.getElem?_cons_zero]; rfl) (by kernel_rfl); (focus (intro wv hgv _; have hcv : ∀ b o, b < _ → wv.cell? ⟨b, o, none⟩ = _ := fun b o hb => Below.cell hgv (p := ⟨b, o, none⟩) hb; (try go_simp); try rfl; done)); simp only [Act.put, List.setIfInBounds_toArray, List.set_cons_succ, List.set_cons_zero])
    iterate 9 (refine hav_skip (by simp only [List.getElem?_toArray, List.getElem?_cons_succ, List.getElem?_cons_zero]; rfl) (by kernel_rfl) ?_; simp only [Act.put, List.setIfInBounds_toArray, List.set_cons_succ, List.set_cons_zero])
    iterate 2 (apply hav_same (by simp only [List.getElem?_toArray, List.getElem?_cons_succ, List.getElem?_cons_zero]; rfl) (by kernel_rfl); (focus (intro wv hgv _; have hcv : ∀ b o, b < _ → wv.cell? ⟨b, o, none⟩ = _ := fun b o hb => Below.cell hgv (p := ⟨b, o, none⟩) hb; (try go_simp); try rfl; done)); simp only [Act.put, List.setIfInBounds_toArray, List.set_cons_succ, List.set_cons_zero])
    iterate 9 (refine hav_skip (by simp only [List.getElem?_toArray, List.getElem?_cons_succ, List.getElem?_cons_zero]; rfl) (by kernel_rfl) ?_; simp only [Act.put, List.setIfInBounds_toArray, List.set_cons_succ, List.set_cons_zero])
    iterate 2 (apply hav_same (by simp only [List.getElem?_toArray, List.getElem?_cons_succ, List.getElem?_cons_zero]; rfl) (by kernel_rfl); (focus (intro wv hgv _; have hcv : ∀ b o, b < _ → wv.cell? ⟨b, o, none⟩ = _ := fun b o hb => Below.cell hgv (p := ⟨b, o, none⟩) hb; (try go_simp); try rfl; done)); simp only [Act.put, List.setIfInBounds_toArray, List.set_cons_succ, List.set_cons_zero])
    refine hav_end (fun w1 hgw1 _ => ?_); simp only [List.filterMap]; have hcw1 : ∀ b o, b < _ → w1.cell? ⟨b, o, none⟩ = _ := fun b o hb => Below.cell hgw1 (p := ⟨b, o, none⟩) hb; have hfw1 : ∀ b o, b < _ → w1.frozen? ⟨b, o, none⟩ = _ := fun b o hb => Below.frozen hgw1 (p := ⟨b, o, none⟩) hb; have hzw1 := Below.size hgw1; (try simp at hzw1)
    go_wp2
    go_ret
    exact ⟨ret_bool (by rw [HF.out]), HG2.out.trans (((Below.refl w2.heap.size w2).alloc (Nat.le_refl _) _).trans (hgw1.mono (by simp)) |>.mono (by omega))⟩
  · have HA := Lib.hid ha
    cases hb : decide (low ≤ K.hi)
    · have HF : Hid (p.may s = false) := by show _ = _; simp [PressD.may, ha, HK.out, ← HLT.out.1, hb]
      clear ha
      go_enter Try.func162, Try.ntmps162
      go_wp2_with fail
      refine (weight_any HV.out s HS.out _ (by exact HD.out.grow (by repeat (first | exact Below.refl _ _ | assumption | refine Below.drew ?_ | refine below_drewN ?_ _ | refine Below.alloc ?_ (by (try simp) <;> omega) _ | refine Below.setCell ?_ (by (try simp) <;> omega) _ | refine Below.trans ?_ (Below.mono (by assumption) (by (try simp) <;> omega)))))).mono ?_
      rw [HK.out]
      unfold spV
      rintro e w2 ⟨rfl, hbw2⟩; obtain ⟨hcw2, hfw2⟩ := bcell hbw2; have hzw2 := hbw2.size; (try simp at hzw2)
      go_wp2
      have hd1 : d < w2.heap.size + 1 := by omega
      have hd2 : d < w2.heap.size := by omega
      have HG2 : Hid (Below w.heap.size w w2) := ((Below.refl w.heap.size w).alloc (Nat.le_refl _) _).trans (hbw2.mono (by simp))
      clear hbw2
      refine wp_region_havoc [(0,false),(1,false),(2,false),(3,false),(4,false),(5,false),(6,false),(7,false),(8,false),(9,false),(10,false),(11,false),(12,false),(13,false),(14,false),(15,false),(16,false),(17,false),(18,false),(19,false),(20,false),(21,false),(22,false),(23,false),(24,false),(25,false)] [] (fun _ _ => False) (by kernel_rfl) (by kernel_rfl) (fun _ _ _ _ h => h.elim) ?_
      iterate 2 (apply hav_same (by simp only [List.getElem?_toArray, List.getElem?_cons_succ, List.getElem?_cons_zero]; rfl) (by kernel_rfl); (focus (intro wv hgv _; have hcv : ∀ b o, b < _ → wv.cell? ⟨b, o, none⟩ = _ := fun b o hb => Below.cell hgv (p := ⟨b, o, none⟩) hb; (try go_simp); try rfl; done)); simp only [Act.put, List.setIfInBounds_toArray, List.set_cons_succ, List.set_cons_zero])
      (apply hav_call (by simp only [List.getElem?_toArray, List.getElem?_cons_succ, List.getElem?_cons_zero]; rfl) (by kernel_rfl); (focus (intro wv; go_simp; try exact ⟨rfl, rfl⟩; done)); (focus (intro wv hgv _; have hq := alike_any HV.out s HS1.out wv (HD.out.grow (HG2.out.trans (((Below.refl w2.heap.size w2).alloc (Nat.le_refl _) _).trans (Below.mono hgv (by simp)) |>.mono (by omega)))); rw [HA.out] at hq; exact hq; done)); simp only [Act.put, List.setIfInBounds_toArray, List.set_cons_succ, List.set_cons_zero])
      iterate 12 (apply hav_same (by simp only [List.getElem?_toArray, List.getElem?_cons_succ, List.getElem?_cons_zero]; rfl) (by kernel_rfl); (focus (intro wv hgv _; have hcv : ∀ b o, b < _ → wv.cell? ⟨b, o, none⟩ = _ := fun b o hb => Below.cell hgv (p := ⟨b, o, none⟩) hb; (try go_simp); try rfl; done)); simp only [Act.put, List.setIfInBounds_toArray, List.set_cons_succ, List.set_cons_zero])
      iterate 9 (refine hav_skip (by simp only [List.getElem?_toArray, List.getElem?_cons_succ, List.getElem?_cons_zero]; rfl) (by kernel_rfl) ?_; simp only [Act.put, List.setIfInBounds_toArray, List.set_cons_succ, List.set_cons_zero])
      iterate 2 (apply hav_same (by simp only [List.getElem?_toArray, List.getElem?_cons_succ, List.getElem?_cons_zero]; rfl) (by kernel_rfl); (focus (intro wv hgv _; have hcv : ∀ b o, b < _ → wv.cell? ⟨b, o, none⟩ = _ := fun b o hb => Below.cell hgv (p := ⟨b, o, none⟩) hb; (try go_simp); try rfl; done)); simp only [Act.put, List.setIfInBounds_toArray, List.set_cons_succ, List.set_cons_zero])
      refine hav_end (fun w1 hgw1 _ => ?_); simp only [List.filterMap]; have hcw1 : ∀ b o, b < _ → w1.cell? ⟨b, o, none⟩ = _ := fun b o hb => Below.cell hgw1 (p := ⟨b, o, none⟩) hb; have hfw1 : ∀ b o, b < _ → w1.frozen? ⟨b, o, none⟩ = _ := fun b o hb => Below.frozen hgw1 (p := ⟨b, o, none⟩) hb; have hzw1 := Below.size hgw1; (try simp at hzw1)
      go_wp2
      go_ret
      exact ⟨ret_bool (by rw [HF.out]), HG2.out.trans (((Below.refl w2.heap.size w2).alloc (Nat.le_refl _) _).trans (hgw1.mono (by simp)) |>.mono (by omega))⟩
    · have HF : Hid (p.may s = decide (K.lo ≤ top)) := by show _ = _; simp [PressD.may, ha, HK.out, ← HLT.out.1, ← HLT.out.2, hb]
      clear ha
      go_enter Try.func162, Try.ntmps162
      go_wp2_with fail
      refine (weight_any HV.out s HS.out _ (by exact HD.out.grow (by repeat (first | exact Below.refl _ _ | assumption | refine Below.drew ?_ | refine below_drewN ?_ _ | refine Below.alloc ?_ (by (try simp) <;> omega) _ | refine Below.setCell ?_ (by (try simp) <;> omega) _ | refine Below.trans ?_ (Below.mono (by assumption) (by (try simp) <;> omega)))))).mono ?_
      rw [HK.out]
      unfold spV
      rintro e w2 ⟨rfl, hbw2⟩; obtain ⟨hcw2, hfw2⟩ := bcell hbw2; have hzw2 := hbw2.size; (try simp at hzw2)
      go_wp2
      have hd1 : d < w2.heap.size + 1 := by omega
      have hd2 : d < w2.heap.size := by omega
      have HG2 : Hid (Below w.heap.size w w2) := ((Below.refl w.heap.size w).alloc (Nat.le_refl _) _).trans (hbw2.mono (by simp))
      clear hbw2
      refine wp_region_havoc [(0,false),(1,false),(2,false),(3,false),(4,false),(5,false),(6,false),(7,false),(8,false),(9,false),(10,false),(11,false),(12,false),(13,false),(14,false),(15,false),(16,false),(17,false),(18,false),(19,false),(20,false),(21,false),(22,false),(23,false),(24,false),(25,false)] [] (fun _ _ => False) (by kernel_rfl) (by kernel_rfl) (fun _ _ _ _ h => h.elim) ?_
      iterate 2 (apply hav_same (by simp only [List.getElem?_toArray, List.getElem?_cons_succ, List.getElem?_cons_zero]; rfl) (by kernel_rfl); (focus (intro wv hgv _; have hcv : ∀ b o, b < _ → wv.cell? ⟨b, o, none⟩ = _ := fun b o hb => Below.cell hgv (p := ⟨b, o, none⟩) hb; (try go_simp); try rfl; done)); simp only [Act.put, List.setIfInBounds_toArray, List.set_cons_succ, List.set_cons_zero])
      (apply hav_call (by simp only [List.getElem?_toArray, List.getElem?_cons_succ, List.getElem?_cons_zero]; rfl) (by kernel_rfl); (focus (intro wv; go_simp; try exact ⟨rfl, rfl⟩; done)); (focus (intro wv hgv _; have hq := alike_any HV.out s HS1.out wv (HD.out.grow (HG2.out.trans (((Below.refl w2.heap.size w2).alloc (Nat.le_refl _) _).trans (Below.mono hgv (by simp)) |>.mono (by omega)))); rw [HA.out] at hq; exact hq; done)); simp only [Act.put, List.setIfInBounds_toArray, List.set_cons_succ, List.set_cons_zero])
      iterate 23 (apply hav_same (by simp only [List.getElem?_toArray, List.getElem?_cons_succ, List.getElem?_cons_zero]; rfl) (by kernel_rfl); (focus (intro wv hgv _; have hcv : ∀ b o, b < _ → wv.cell? ⟨b, o, none⟩ = _ := fun b o hb => Below.cell hgv (p := ⟨b, o, none⟩) hb; (try go_simp); try rfl; done)); simp only [Act.put, List.setIfInBounds_toArray, List.set_cons_succ, List.set_cons_zero])
      refine hav_end (fun w1 hgw1 _ => ?_); simp only [List.filterMap]; have hcw1 : ∀ b o, b < _ → w1.cell? ⟨b, o, none⟩ = _ := fun b o hb => Below.cell hgw1 (p := ⟨b, o, none⟩) hb; have hfw1 : ∀ b o, b < _ → w1.frozen? ⟨b, o, none⟩ = _ := fun b o hb => Below.frozen hgw1 (p := ⟨b, o, none⟩) hb; have hzw1 := Below.size hgw1; (try simp at hzw1)
      go_wp2
      go_ret
      exact ⟨ret_bool (by rw [HF.out]), HG2.out.trans (((Below.refl w2.heap.size w2).alloc (Nat.le_refl _) _).trans (hgw1.mono (by simp)) |>.mono (by omega))⟩
set_option maxHeartbeats 400000 in
/-- The press has a truth: it is returned; it has none: ErrClash. -/
theorem told_any (hv : p.ok = true) (w : World) (hD : ShedIn w B d fa fl fc low top bales wa wl wc p) :
    Calls Try.prog 58 #[(.pointer (some ⟨d, 0, none⟩))] w fun e w' => e = (if p.wrong = 0 then .returned (.pointer (some ⟨d, 0, none⟩)) else .panicked [refE 10]) ∧ Below w.heap.size w w' := by
  have HD := Lib.hid hD
  have HV := Lib.hid hv
  clear hv hD
  by_cases hw : p.wrong = 0
  · have HW := Lib.hid hw
    rw [if_pos hw]
    clear hw
    go_enter Try.func58, Try.ntmps58
    go_wp2_with fail
    refine (wrong_any HV.out _ (by exact HD.out)).mono ?_
    rw [HW.out]
    rintro e w1 ⟨rfl, hbw1⟩; obtain ⟨hcw1, hfw1⟩ := bcell hbw1; have hzw1 := hbw1.size; (try simp at hzw1)
    go_wp2_with fail
    refine (ask_any true 10 _).mono ?_
    rintro e w' ⟨q1, rfl⟩
    obtain rfl : e = .returned (.tuple #[]) := q1
    go_wp2
    go_ret
    exact ⟨rfl, hbw1⟩
  · rw [if_neg hw]
    have hne : ((p.wrong : Int) == 0) = false := by simp; omega
    clear hw
    go_enter Try.func58, Try.ntmps58
    go_wp2_with fail
    refine (wrong_any HV.out _ (by exact HD.out)).mono ?_
    rintro e w1 ⟨rfl, hbw1⟩; obtain ⟨hcw1, hfw1⟩ := bcell hbw1; have hzw1 := hbw1.size; (try simp at hzw1)
    go_wp2_with fail
    refine (ask_any false 10 _).mono ?_
    rintro e w' ⟨q1, rfl⟩
    obtain rfl : e = .panicked [refE 10] := q1
    go_wp2
    exact ⟨rfl, rfl, hbw1⟩
end
end Go.Proofs.Ytbfjebglaimcmaa
