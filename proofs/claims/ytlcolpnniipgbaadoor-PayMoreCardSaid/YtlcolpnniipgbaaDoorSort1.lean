/- The walks of the order by rests: its comparison, the insertion sort over it. -/
import Derived.Test.YtlcolpnniipgbaaDoorApi3
import Derived.Test.YtlcolpnniipgbaaDoorSort0
import Derived.RegionTactic
import Derived.BigRegion
namespace Go.Proofs.YtlcolpnniipgbaaDoor
open Go.RowKit Go.Hav
theorem cmp89_any (x y : Int) (hx0 : 0 ≤ x) (hx1 : x ≤ 1000000) (hy0 : 0 ≤ y) (hy1 : y ≤ 1000000) (w : World) :
    Calls Tryd.prog 89 #[.int .i64 x, .int .i64 y] w fun e w' => e = .returned (.int .i64 (y - x)) ∧ Below w.heap.size w w' := by
  go_enter Tryd.func89, Tryd.ntmps89
  go_wp2
  go_ret
  exact ⟨rfl, Below.refl _ _⟩
/-- What the comparison reads: the rests R, and how they are compared. -/
structure OrdIn (w : World) (bo bl g : Nat) (R : List Int) : Prop where
  ho : w.cell? ⟨bo, 0, none⟩ = some (.func (.func 89) #[] #[])
  hl : w.cell? ⟨bl, 0, none⟩ = some (.slice (some ⟨g, 0, none⟩) R.length R.length)
  hg : Blk w g 3 (intsA R)
  lo : bo < w.heap.size
  ll : bl < w.heap.size
  hR : ∀ (k : Nat) x, R[k]? = some x → 0 ≤ x ∧ x ≤ 1000000
  hn : R.length ≤ 100
theorem OrdIn.below {w w' : World} {bo bl g : Nat} {R : List Int} (h : OrdIn w bo bl g R) (hb : Below w.heap.size w w') : OrdIn w' bo bl g R :=
  ⟨(hb.cell (p := ⟨bo, 0, none⟩) h.lo).trans h.ho, (hb.cell (p := ⟨bl, 0, none⟩) h.ll).trans h.hl, h.hg.below hb h.hg.lt, Nat.lt_of_lt_of_le h.lo hb.size, Nat.lt_of_lt_of_le h.ll hb.size, h.hR, h.hn⟩
set_option maxRecDepth 100000 in
set_option maxHeartbeats 800000 in
theorem cmp97_any (bo bl g a b : Nat) (R : List Int) (x y : Int) (ha : R[a]? = some x) (hb : R[b]? = some y) (w : World) (h : OrdIn w bo bl g R) :
    Calls Tryd.prog 97 #[.int .i64 a, .int .i64 b, .pointer (some ⟨bo, 0, none⟩), .pointer (some ⟨bl, 0, none⟩)] w fun e w' => e = .returned (.int .i64 (y - x)) ∧ Below w.heap.size w w' := by
  obtain ⟨ho, hl, hg, lo, ll, hR, hn⟩ := h
  have ha1 : a < R.length := (List.getElem?_eq_some_iff.1 ha).1
  have hb1 : b < R.length := (List.getElem?_eq_some_iff.1 hb).1
  obtain ⟨x0, x1⟩ := hR a x ha
  obtain ⟨y0, y1⟩ := hR b y hb
  have lg := hg.lt
  have ga : w.cell? ⟨g, a, none⟩ = some (.int .i64 x) := by rw [hg.cell, intsA_get, ha]; rfl
  have gb : w.cell? ⟨g, b, none⟩ = some (.int .i64 y) := by rw [hg.cell, intsA_get, hb]; rfl
  generalize R.length = n at *
  clear hg hR ha hb
  go_enter Tryd.func97, Tryd.ntmps97
  go_wp2
  refine wp_region_havoc [(0,false),(1,false),(2,false),(3,false),(4,false),(5,false),(6,false),(7,false),(8,false),(9,false),(10,false),(11,false)] [] (fun _ _ => False) (by kernel_rfl) (by kernel_rfl) (fun _ _ _ _ h => h.elim) ?_
  iterate 10 (apply hav_same (by simp only [List.getElem?_toArray, List.getElem?_cons_succ, List.getElem?_cons_zero]; rfl) (by kernel_rfl); (focus (intro wv hgv _; have hcv : ∀ b o, b < _ → wv.cell? ⟨b, o, none⟩ = _ := fun b o hb => Below.cell hgv (p := ⟨b, o, none⟩) hb; go_simp; try rfl; done)); simp only [Act.put, List.setIfInBounds_toArray, List.set_cons_succ, List.set_cons_zero])
  (apply hav_call (by simp only [List.getElem?_toArray, List.getElem?_cons_succ, List.getElem?_cons_zero]; rfl) (by kernel_rfl); (focus (intro wv; go_simp; try exact ⟨rfl, rfl⟩; done)); (focus (intro wv hgv _; exact cmp89_any x y x0 x1 y0 y1 _; done)); simp only [Act.put, List.setIfInBounds_toArray, List.set_cons_succ, List.set_cons_zero])
  (apply hav_same (by simp only [List.getElem?_toArray, List.getElem?_cons_succ, List.getElem?_cons_zero]; rfl) (by kernel_rfl); (focus (intro wv hgv _; have hcv : ∀ b o, b < _ → wv.cell? ⟨b, o, none⟩ = _ := fun b o hb => Below.cell hgv (p := ⟨b, o, none⟩) hb; go_simp; try rfl; done)); simp only [Act.put, List.setIfInBounds_toArray, List.set_cons_succ, List.set_cons_zero])
  refine hav_end (fun w1 hgw1 _ => ?_); simp only [List.filterMap]; have hcw1 : ∀ b o, b < _ → w1.cell? ⟨b, o, none⟩ = _ := fun b o hb => Below.cell hgw1 (p := ⟨b, o, none⟩) hb; have hfw1 : ∀ b o, b < _ → w1.frozen? ⟨b, o, none⟩ = _ := fun b o hb => Below.frozen hgw1 (p := ⟨b, o, none⟩) hb; have hzw1 := Below.size hgw1; (try simp at hzw1)
  go_wp2
  go_ret
  exact ⟨rfl, hgw1⟩
/-- A block that holds numbers. -/
def natsA (O : List Nat) : Array Value := intsA (O.map fun (k : Nat) => (k : Int))
theorem natsA_get (O : List Nat) (k : Nat) : (natsA O)[k]? = (O[k]?).map fun m => Value.int .i64 (m : Int) := by
  rw [natsA, intsA_get, List.getElem?_map]
  cases O[k]? <;> rfl
theorem natsA_set (O : List Nat) (k m : Nat) : (natsA O).setIfInBounds k (.int .i64 (m : Int)) = natsA (O.set k m) := by
  rw [natsA, intsA_set, natsA, List.map_set]
theorem OrdIn.keep {w w' : World} {bo bl g B : Nat} {R : List Int} (h : OrdIn w bo bl g R) (hb : Below B w w') (h0 : bo < B) (h1 : bl < B) (h2 : g < B) (hs : B ≤ w.heap.size) : OrdIn w' bo bl g R :=
  ⟨(hb.cell (p := ⟨bo, 0, none⟩) h0).trans h.ho, (hb.cell (p := ⟨bl, 0, none⟩) h1).trans h.hl, h.hg.below hb h2, by have := hb.size; omega, by have := hb.size; omega, h.hR, h.hn⟩
theorem setK_below {B b : Nat} {w w' : World} (h : Below B w w') (hb : B ≤ b) (k : Nat) (u : Value) : Below B w (w'.setCell ⟨b, k, none⟩ u) := h.setCell (p := ⟨b, k, none⟩) hb u
theorem rv_get {R : List Int} {m : Nat} (h : m < R.length) : R[m]? = some (rv R m) := by
  unfold rv
  rw [List.getElem?_eq_getElem h]; rfl
set_option maxRecDepth 100000 in
set_option maxHeartbeats 6400000 in
theorem ins99_any (bo bl g go : Nat) (R : List Int) (hn1 : 1 ≤ R.length) (w : World) (h : OrdIn w bo bl g R) (hO : Blk w go 3 (natsA (List.range R.length))) (h0 : bo < go) (h1 : bl < go) (h2 : g < go) :
    Calls Tryd.prog 99 #[.slice (some ⟨go, 0, none⟩) R.length R.length, .int .i64 0, .int .i64 (R.length : Int), .func (.func 97) #[] #[.pointer (some ⟨bo, 0, none⟩), .pointer (some ⟨bl, 0, none⟩)]] w fun e w' =>
      e = .returned (.tuple #[]) ∧ (∃ O, Sorted R R.length R.length O ∧ Blk w' go 3 (natsA O)) ∧ Below go w w' := by
  have HO0 := Lib.hid h
  have HB0 := Lib.hid hO
  have HEG := Lib.hid (enters_of Tryd.func97 (by kernel_rfl) rfl)
  have hn2 := h.hn
  have lgo := hO.lt
  obtain ⟨n, hn⟩ : ∃ n, n = R.length := ⟨_, rfl⟩
  have HN := Lib.hid hn
  rw [← hn]
  rw [← hn] at hn1 hn2 HB0
  clear h hO hn
  go_enter Tryd.func99, Tryd.ntmps99
  go_wp2
  go_loopw [8] (fun v wr => ∃ (i : Nat) (O : List Nat), v = .int .i64 i ∧ 1 ≤ i ∧ i ≤ n ∧ Hid (Sorted R n i O) ∧ Hid (Blk wr go 3 (natsA O)) ∧ Hid (Below go w wr)) (fun v _ => n - (intOf v).toNat)
  case atStart => exact ⟨1, _, rfl, Nat.le_refl _, hn1, Sorted.one R n hn1, HB0.out, Below.refl _ _⟩
  case round =>
    obtain ⟨i, O, rfl, hi1, hin, HS, HK, HB⟩ := hrel
    obtain ⟨wo, rfl⟩ : ∃ wo : World, wo = wr := ⟨_, rfl⟩
    by_cases hlt : i < n
    · go_wp2
      go_loopw [9] (fun v wq => ∃ (j : Nat) (M : List Nat), v = .int .i64 j ∧ Hid (Sinks R n i O j M) ∧ Hid (Blk wq go 3 (natsA M)) ∧ Hid (Below go w wq)) (fun v _ => (intOf v).toNat)
      case atStart => exact ⟨i, O, rfl, Sinks.start HS.out hlt, HK.out, HB.out⟩
      case round =>
        obtain ⟨j, M, rfl, HSI, HKM, HBM⟩ := hrel
        have hji := HSI.out.hj
        have hlq := HKM.out.lt
        cases j with
        | zero =>
          have HD : Hid (Sorted R n (i + 1) M) := Sinks.done HS.out HSI.out hlt (fun _ h => by omega)
          rw [show ((0 : Nat) : Int) = 0 from rfl]
          go_wp2
          refine wp_region_havoc [(0,false),(1,false),(2,false),(3,false),(4,false),(5,false),(6,false),(7,false),(8,false),(9,false),(10,false),(11,false),(12,false),(13,false),(14,false),(15,false),(16,false)] [] (fun _ _ => False) (by kernel_rfl) (by kernel_rfl) (fun _ _ _ _ h => h.elim) ?_
          iterate 4 (apply hav_same (by simp only [List.getElem?_toArray, List.getElem?_cons_succ, List.getElem?_cons_zero]; rfl) (by kernel_rfl); (focus (intro wv hgv _; have hcv : ∀ b o, b < _ → wv.cell? ⟨b, o, none⟩ = _ := fun b o hb => Below.cell hgv (p := ⟨b, o, none⟩) hb; go_simp; try rfl; done)); simp only [Act.put, List.setIfInBounds_toArray, List.set_cons_succ, List.set_cons_zero])
          iterate 12 (refine hav_skip (by simp only [List.getElem?_toArray, List.getElem?_cons_succ, List.getElem?_cons_zero]; rfl) (by kernel_rfl) ?_; simp only [Act.put, List.setIfInBounds_toArray, List.set_cons_succ, List.set_cons_zero])
          (apply hav_same (by simp only [List.getElem?_toArray, List.getElem?_cons_succ, List.getElem?_cons_zero]; rfl) (by kernel_rfl); (focus (intro wv hgv _; have hcv : ∀ b o, b < _ → wv.cell? ⟨b, o, none⟩ = _ := fun b o hb => Below.cell hgv (p := ⟨b, o, none⟩) hb; go_simp; try rfl; done)); simp only [Act.put, List.setIfInBounds_toArray, List.set_cons_succ, List.set_cons_zero])
          refine hav_end (fun w1 hgw1 _ => ?_); simp only [List.filterMap]; have hcw1 : ∀ b o, b < _ → w1.cell? ⟨b, o, none⟩ = _ := fun b o hb => Below.cell hgw1 (p := ⟨b, o, none⟩) hb; have hfw1 : ∀ b o, b < _ → w1.frozen? ⟨b, o, none⟩ = _ := fun b o hb => Below.frozen hgw1 (p := ⟨b, o, none⟩) hb; have hzw1 := Below.size hgw1; (try simp at hzw1)
          have HK1 : Hid (Blk w1 go 3 (natsA M)) := HKM.out.below hgw1 hlq
          have HB1 : Hid (Below go w w1) := HBM.out.trans (hgw1.mono (by omega))
          clear hgw1 hcw1 hfw1
          go_wp2
          go_roundw
          case rel => exact ⟨i + 1, M, by go_num, by omega, by omega, HD, HK1, HB1⟩
          case measure => simp [intOf]; omega
        | succ j =>
          obtain ⟨y, hy⟩ : ∃ y, M[j]? = some y := ⟨M[j]'(by have := HSI.out.len; omega), by simp⟩
          have HY := Lib.hid hy
          have hc1 : wr.cell? ⟨go, j + 1, none⟩ = some (.int .i64 (i : Int)) := by rw [HKM.out.cell, natsA_get, HSI.out.here]; rfl
          have hc0 : wr.cell? ⟨go, j, none⟩ = some (.int .i64 (y : Int)) := by rw [HKM.out.cell, natsA_get, hy]; rfl
          have hyi : y < i := by
            have h1 := HSI.out.lo j (by omega)
            obtain ⟨m, e, hm⟩ := HS.out.low j (by omega)
            rw [hy, e] at h1
            obtain rfl := Option.some.inj h1
            exact hm
          clear hy
          have HORD : Hid (∀ wv, Below go w wv → OrdIn wv bo bl g R) := fun wv hb => HO0.out.keep hb h0 h1 h2 (by omega)
          have HRI : Hid (R[i]? = some (rv R i)) := rv_get (by have := HN.out; omega)
          have HRY : Hid (R[y]? = some (rv R y)) := rv_get (by have := HN.out; omega)
          obtain ⟨xi, hxi0, hxi1, HXI⟩ : ∃ xi, 0 ≤ xi ∧ xi ≤ 1000000 ∧ Hid (rv R i = xi) := ⟨_, (HO0.out.hR i _ HRI.out).1, (HO0.out.hR i _ HRI.out).2, rfl⟩
          obtain ⟨xy, hxy0, hxy1, HXY⟩ : ∃ xy, 0 ≤ xy ∧ xy ≤ 1000000 ∧ Hid (rv R y = xy) := ⟨_, (HO0.out.hR y _ HRY.out).1, (HO0.out.hR y _ HRY.out).2, rfl⟩
          rw [HXI.out] at HRI
          rw [HXY.out] at HRY
          have q0 : (0 : Int) ≤ (j : Int) + 1 := by omega
          have q1 : (j : Int) + 1 < (n : Int) := by omega
          have q2 : (j : Int) < (n : Int) := by omega
          have q3 : ((j : Int) + 1).toNat = j + 1 := by omega
          have q4 : (0 : Int) < (j : Int) + 1 := by omega
          have q5 : IntKind.i64.wrap (j : Int) = (j : Int) := IntWalk.i64_in _ (by omega)
          rw [show ((j + 1 : Nat) : Int) = (j : Int) + 1 by omega]
          go_wp2
          refine wp_region_havoc [(0,false),(1,false),(2,false),(3,false),(4,false),(5,false),(6,false),(7,false),(8,false),(9,false),(10,false),(11,false),(12,false),(13,false),(14,false),(15,false),(16,false)] [] (fun _ _ => False) (by kernel_rfl) (by kernel_rfl) (fun _ _ _ _ h => h.elim) ?_
          iterate 14 (apply hav_same (by simp only [List.getElem?_toArray, List.getElem?_cons_succ, List.getElem?_cons_zero]; rfl) (by kernel_rfl); (focus (intro wv hgv _; have hcv : ∀ b o, b < _ → wv.cell? ⟨b, o, none⟩ = _ := fun b o hb => Below.cell hgv (p := ⟨b, o, none⟩) hb; go_simp; try rfl; done)); simp only [Act.put, List.setIfInBounds_toArray, List.set_cons_succ, List.set_cons_zero])
          (apply hav_call (by simp only [List.getElem?_toArray, List.getElem?_cons_succ, List.getElem?_cons_zero]; rfl) (by kernel_rfl); (focus (intro wv; go_simp; try exact ⟨rfl, rfl⟩; done)); (focus (intro wv hgv _; exact cmp97_any bo bl g i y R xi xy HRI.out HRY.out _ (by exact HORD.out wv (HBM.out.trans (hgv.mono (by omega)))); done)); simp only [Act.put, List.setIfInBounds_toArray, List.set_cons_succ, List.set_cons_zero])
          by_cases hxx : xy - xi < 0
          · have hdx : decide (xy - xi < 0) = true := by simp [hxx]
            iterate 2 (apply hav_same (by simp only [List.getElem?_toArray, List.getElem?_cons_succ, List.getElem?_cons_zero]; rfl) (by kernel_rfl); (focus (intro wv hgv _; have hcv : ∀ b o, b < _ → wv.cell? ⟨b, o, none⟩ = _ := fun b o hb => Below.cell hgv (p := ⟨b, o, none⟩) hb; go_simp; try rfl; done)); simp only [Act.put, List.setIfInBounds_toArray, List.set_cons_succ, List.set_cons_zero])
            refine hav_end (fun w1 hgw1 _ => ?_); simp only [List.filterMap]; have hcw1 : ∀ b o, b < _ → w1.cell? ⟨b, o, none⟩ = _ := fun b o hb => Below.cell hgw1 (p := ⟨b, o, none⟩) hb; have hfw1 : ∀ b o, b < _ → w1.frozen? ⟨b, o, none⟩ = _ := fun b o hb => Below.frozen hgw1 (p := ⟨b, o, none⟩) hb; have hzw1 := Below.size hgw1; (try simp at hzw1)
            have HK1 : Hid (Blk w1 go 3 (natsA M)) := HKM.out.below hgw1 hlq
            have HB1 : Hid (Below go w w1) := HBM.out.trans (hgw1.mono (by omega))
            have d1 : w1.cell? ⟨go, j + 1, none⟩ = some (.int .i64 (i : Int)) := by rw [HK1.out.cell, natsA_get, HSI.out.here]; rfl
            have d0 : w1.cell? ⟨go, j, none⟩ = some (.int .i64 (y : Int)) := by rw [HK1.out.cell, natsA_get, HY.out]; rfl
            have f1 : w1.frozen? ⟨go, j + 1, none⟩ = false := HK1.out.frozen _
            have f0 : w1.frozen? ⟨go, j, none⟩ = false := HK1.out.frozen _
            have hl1 : go < w1.heap.size := HK1.out.lt
            clear hgw1 hcw1 hfw1 hc1 hc0 hdx
            go_wp2
            go_region
            go_wp2
            go_roundw
            case rel =>
              refine ⟨j, (M.set (j + 1) y).set j i, by go_num, Sinks.step HSI.out hlt HY.out (by rw [HXI.out, HXY.out]; omega), ?_, ((HB1.out.setCell (p := ⟨go, j + 1, none⟩) (Nat.le_refl _) _).setCell (p := ⟨go, j, none⟩) (Nat.le_refl _) _).drew⟩
              have h := (HK1.out.set_ (j + 1) (.int .i64 (y : Int))).set_ j (.int .i64 (i : Int))
              rw [natsA_set, natsA_set] at h
              exact h.drew
            case measure => simp [intOf]
          · have hdx : decide (xy - xi < 0) = false := by simp; omega
            have HD : Hid (Sorted R n (i + 1) M) := Sinks.done HS.out HSI.out hlt (fun z _ h => by
              obtain rfl : y = z := Option.some.inj (HY.out.symm.trans h)
              rw [HXI.out, HXY.out]; omega)
            iterate 2 (apply hav_same (by simp only [List.getElem?_toArray, List.getElem?_cons_succ, List.getElem?_cons_zero]; rfl) (by kernel_rfl); (focus (intro wv hgv _; have hcv : ∀ b o, b < _ → wv.cell? ⟨b, o, none⟩ = _ := fun b o hb => Below.cell hgv (p := ⟨b, o, none⟩) hb; go_simp; try rfl; done)); simp only [Act.put, List.setIfInBounds_toArray, List.set_cons_succ, List.set_cons_zero])
            refine hav_end (fun w1 hgw1 _ => ?_); simp only [List.filterMap]; have hcw1 : ∀ b o, b < _ → w1.cell? ⟨b, o, none⟩ = _ := fun b o hb => Below.cell hgw1 (p := ⟨b, o, none⟩) hb; have hfw1 : ∀ b o, b < _ → w1.frozen? ⟨b, o, none⟩ = _ := fun b o hb => Below.frozen hgw1 (p := ⟨b, o, none⟩) hb; have hzw1 := Below.size hgw1; (try simp at hzw1)
            have HK1 : Hid (Blk w1 go 3 (natsA M)) := HKM.out.below hgw1 hlq
            have HB1 : Hid (Below go w w1) := HBM.out.trans (hgw1.mono (by omega))
            clear hgw1 hcw1 hfw1
            go_wp2
            go_roundw
            case rel => exact ⟨i + 1, M, by go_num, by omega, by omega, HD, HK1, HB1⟩
            case measure => simp [intOf]; omega
    · obtain rfl : n = i := by omega
      go_wp2
      go_end0
      exact ⟨rfl, ⟨O, HS.out, HK.out⟩, HB.out⟩
end Go.Proofs.YtlcolpnniipgbaaDoor
