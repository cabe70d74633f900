/- The walks of plan's inner function and of first; conditions: as of best. -/
import Derived.Test.YtbfjebglaimcmaaBest
namespace Go.Proofs.Ytbfjebglaimcmaa
open Go.RowKit Go.Hav
/-- Is a set the next one of the plan? -/
def nextB (L : List Nat) (b f h : Nat) (want : Int) (s : Nat) : Bool := decide (h < s) && sub s f && decide (pop s 10 + bestF L b (dif f s) s = want)
section
variable {d r : Nat} {sa : Option Addr} {n cp : Nat} {L : List Nat}
set_option maxRecDepth 100000 in
set_option maxHeartbeats 6400000 in
theorem next_any (b f h s : Nat) (want : Int) (br bs bw : Nat) (w : World) (h1 : f < 1024) (h2 : b < 5) (h4 : s < 1024) (hD : BestIn w r d sa n cp L) (hx : Blk w br 143 #[.int .u64 f, .int .i64 (b + 1), .int .u64 h]) (n0 : br ≠ r) (hs2 : Blk w bs 88 #[(.pointer (some ⟨d, 0, none⟩))]) (n1 : bs ≠ r) (hw2 : Blk w bw 3 #[.int .i64 want]) (n2 : bw ≠ r) :
    Calls Try.prog 117 #[.int .u64 s, .pointer (some ⟨br, 0, none⟩), .pointer (some ⟨bs, 0, none⟩), .pointer (some ⟨bw, 0, none⟩)] w fun e w' => e = .returned (.bool (nextB L b f h want s)) ∧ (GR r L).G w w' := by
  have HD := Lib.hid hD
  have hr0 := hD.map.lt
  have HX := Lib.hid hx
  have HS2 := Lib.hid hs2
  have HW2 := Lib.hid hw2
  have x0 : w.cell? ⟨br, 0, none⟩ = some (.int .u64 f) := hx.cell 0
  have x1 : w.cell? ⟨br, 1, none⟩ = some (.int .i64 (b + 1)) := hx.cell 1
  have x2 : w.cell? ⟨br, 2, none⟩ = some (.int .u64 h) := hx.cell 2
  have y0 : w.cell? ⟨bs, 0, none⟩ = some (.pointer (some ⟨d, 0, none⟩)) := hs2.cell 0
  have z0 : w.cell? ⟨bw, 0, none⟩ = some (.int .i64 want) := hw2.cell 0
  have l0 := hx.lt
  have l1 := hs2.lt
  have l2 := hw2.lt
  clear hD hx hs2 hw2
  by_cases hhs : h < s
  · have hgt : decide (h < s) = true := by simp [hhs]
    have hgt2 : decide ((h : Int) < (s : Int)) = true := by simp; omega
    have HNT : Hid (bits BinOp.andNot IntKind.u64 (s : Int) (f : Int) = ((dif s f : Nat) : Int)) := not_u64 s f (by omega) (by omega)
    cases hsub : sub s f
    · have HR : Hid (nextB L b f h want s = false) := by show _ = _; simp [nextB, hsub]
      have hz : ((dif s f : Nat) == 0) = false := hsub
      have hz2 : (((dif s f : Nat) : Int) == 0) = false := by
        simp only [beq_eq_false_iff_ne, ne_eq] at hz ⊢
        omega
      clear hsub
      go_enter Try.func117, Try.ntmps117
      go_wp2
      refine HavG.wp_region_havoc (R := GR r L) [(0,false),(1,false),(2,false),(3,false),(4,false),(5,false),(6,false),(7,false),(8,false),(9,false),(10,false),(11,false),(12,false),(13,false),(14,false),(15,false),(16,false),(17,false),(18,false),(19,false),(20,false),(21,false),(22,false),(23,false),(24,false),(25,false),(26,false),(27,false),(28,false),(29,false)] [] (fun _ _ => False) (by kernel_rfl) (by kernel_rfl) (fun _ _ _ _ h => h.elim) ?_
      iterate 8 (apply HavG.hav_same (by simp only [List.getElem?_toArray, List.getElem?_cons_succ, List.getElem?_cons_zero]; rfl) (by kernel_rfl); (focus (intro wv hgv _; have hcv : ∀ b o, b < _ → b ≠ r → wv.cell? ⟨b, o, none⟩ = _ := fun b o hb hn => World.cell?_of_block (a := ⟨b, o, none⟩) (hgv.1.block b hb (fun e => hn (Option.some.inj e))); (try go_simp); try rfl; done)); simp only [Act.put, List.setIfInBounds_toArray, List.set_cons_succ, List.set_cons_zero])
      (apply HavG.hav_same (by simp only [List.getElem?_toArray, List.getElem?_cons_succ, List.getElem?_cons_zero]; rfl) (by kernel_rfl); (focus (intro wv hgv _; have hcv : ∀ b o, b < _ → b ≠ r → wv.cell? ⟨b, o, none⟩ = _ := fun b o hb hn => World.cell?_of_block (a := ⟨b, o, none⟩) (hgv.1.block b hb (fun e => hn (Option.some.inj e))); have hnt := HNT.out; (try go_simp); try rfl; done)); simp only [Act.put, List.setIfInBounds_toArray, List.set_cons_succ, List.set_cons_zero])
      iterate 3 (apply HavG.hav_same (by simp only [List.getElem?_toArray, List.getElem?_cons_succ, List.getElem?_cons_zero]; rfl) (by kernel_rfl); (focus (intro wv hgv _; have hcv : ∀ b o, b < _ → b ≠ r → wv.cell? ⟨b, o, none⟩ = _ := fun b o hb hn => World.cell?_of_block (a := ⟨b, o, none⟩) (hgv.1.block b hb (fun e => hn (Option.some.inj e))); (try go_simp); try rfl; done)); simp only [Act.put, List.setIfInBounds_toArray, List.set_cons_succ, List.set_cons_zero])
      iterate 16 (refine HavG.hav_skip (by simp only [List.getElem?_toArray, List.getElem?_cons_succ, List.getElem?_cons_zero]; rfl) (by kernel_rfl) ?_; simp only [Act.put, List.setIfInBounds_toArray, List.set_cons_succ, List.set_cons_zero])
      iterate 2 (apply HavG.hav_same (by simp only [List.getElem?_toArray, List.getElem?_cons_succ, List.getElem?_cons_zero]; rfl) (by kernel_rfl); (focus (intro wv hgv _; have hcv : ∀ b o, b < _ → b ≠ r → wv.cell? ⟨b, o, none⟩ = _ := fun b o hb hn => World.cell?_of_block (a := ⟨b, o, none⟩) (hgv.1.block b hb (fun e => hn (Option.some.inj e))); (try go_simp); try rfl; done)); simp only [Act.put, List.setIfInBounds_toArray, List.set_cons_succ, List.set_cons_zero])
      refine HavG.hav_end (fun w3 hgw3 _ => ?_); simp only [List.filterMap]
      have HG3 := Lib.hid hgw3
      clear hgw3
      go_wp2
      go_ret
      exact ⟨ret_bool HR.out.symm, HG3.out⟩
    · obtain ⟨K, HK⟩ : ∃ K, Hid (bestF L b (dif f s) s = K) := ⟨_, rfl⟩
      obtain ⟨P, HP⟩ : ∃ P, Hid (pop s 10 = P) := ⟨_, rfl⟩
      have HR : Hid (nextB L b f h want s = decide (P + K = want)) := by show _ = _; simp [nextB, hsub, hhs, HK.out, HP.out]
      have hz : ((dif s f : Nat) == 0) = true := hsub
      have hz2 : (((dif s f : Nat) : Int) == 0) = true := by
        simp only [beq_iff_eq] at hz ⊢
        omega
      have HDF : Hid (bits BinOp.andNot IntKind.u64 (f : Int) (s : Int) = ((dif f s : Nat) : Int)) := not_u64 f s (by omega) (by omega)
      have HIB : Hid (IntKind.i64.wrap (b : Int) = b) := wrap_i64 (by omega) (by omega)
      have hdf : dif f s < 1024 := Nat.lt_of_le_of_lt (dif_le _ _) h1
      have hp := pop_bd s 10
      have hK0 : 0 ≤ K ∧ K ≤ 10 := by
        have e1 := bestF_nonneg (l := L) b (dif f s) s
        have e2 := bestF_le (l := L) b (dif f s) s
        have e3 := pop_bd (dif f s) 10
        have := HK.out
        omega
      obtain ⟨hK00, hK01⟩ := hK0
      rw [HP.out] at hp
      obtain ⟨hp0, hp1⟩ := hp
      have HWP : Hid (IntKind.i64.wrap (P + K) = P + K) := wrap_i64 (by omega) (by omega)
      have HEQ : Hid (((P + K) == want) = decide (P + K = want)) := by show _ = _; rw [Bool.eq_iff_iff]; simp
      clear hsub
      go_enter Try.func117, Try.ntmps117
      go_wp2
      refine HavG.wp_region_havoc (R := GR r L) [(0,false),(1,false),(2,false),(3,false),(4,false),(5,false),(6,false),(7,false),(8,false),(9,false),(10,false),(11,false),(12,false),(13,false),(14,false),(15,false),(16,false),(17,false),(18,false),(19,false),(20,false),(21,false),(22,false),(23,false),(24,false),(25,false),(26,false),(27,false),(28,false),(29,false)] [] (fun _ _ => False) (by kernel_rfl) (by kernel_rfl) (fun _ _ _ _ h => h.elim) ?_
      iterate 8 (apply HavG.hav_same (by simp only [List.getElem?_toArray, List.getElem?_cons_succ, List.getElem?_cons_zero]; rfl) (by kernel_rfl); (focus (intro wv hgv _; have hcv : ∀ b o, b < _ → b ≠ r → wv.cell? ⟨b, o, none⟩ = _ := fun b o hb hn => World.cell?_of_block (a := ⟨b, o, none⟩) (hgv.1.block b hb (fun e => hn (Option.some.inj e))); (try go_simp); try rfl; done)); simp only [Act.put, List.setIfInBounds_toArray, List.set_cons_succ, List.set_cons_zero])
      (apply HavG.hav_same (by simp only [List.getElem?_toArray, List.getElem?_cons_succ, List.getElem?_cons_zero]; rfl) (by kernel_rfl); (focus (intro wv hgv _; have hcv : ∀ b o, b < _ → b ≠ r → wv.cell? ⟨b, o, none⟩ = _ := fun b o hb hn => World.cell?_of_block (a := ⟨b, o, none⟩) (hgv.1.block b hb (fun e => hn (Option.some.inj e))); have hnt := HNT.out; (try go_simp); try rfl; done)); simp only [Act.put, List.setIfInBounds_toArray, List.set_cons_succ, List.set_cons_zero])
      iterate 4 (apply HavG.hav_same (by simp only [List.getElem?_toArray, List.getElem?_cons_succ, List.getElem?_cons_zero]; rfl) (by kernel_rfl); (focus (intro wv hgv _; have hcv : ∀ b o, b < _ → b ≠ r → wv.cell? ⟨b, o, none⟩ = _ := fun b o hb hn => World.cell?_of_block (a := ⟨b, o, none⟩) (hgv.1.block b hb (fun e => hn (Option.some.inj e))); (try go_simp); try rfl; done)); simp only [Act.put, List.setIfInBounds_toArray, List.set_cons_succ, List.set_cons_zero])
      (apply HavG.hav_call (by simp only [List.getElem?_toArray, List.getElem?_cons_succ, List.getElem?_cons_zero]; rfl) (by kernel_rfl); (focus (intro wv; go_simp; try exact ⟨rfl, rfl⟩; done)); (focus (intro wv hgv _; have hq := ones_any s h4 wv; rw [HP.out] at hq; exact hq.mono fun e w' h => ⟨h.1, by rw [← h.2]; exact (GR r L).refl _⟩; done)); simp only [Act.put, List.setIfInBounds_toArray, List.set_cons_succ, List.set_cons_zero])
      iterate 4 (apply HavG.hav_same (by simp only [List.getElem?_toArray, List.getElem?_cons_succ, List.getElem?_cons_zero]; rfl) (by kernel_rfl); (focus (intro wv hgv _; have hcv : ∀ b o, b < _ → b ≠ r → wv.cell? ⟨b, o, none⟩ = _ := fun b o hb hn => World.cell?_of_block (a := ⟨b, o, none⟩) (hgv.1.block b hb (fun e => hn (Option.some.inj e))); (try go_simp); try rfl; done)); simp only [Act.put, List.setIfInBounds_toArray, List.set_cons_succ, List.set_cons_zero])
      (apply HavG.hav_same (by simp only [List.getElem?_toArray, List.getElem?_cons_succ, List.getElem?_cons_zero]; rfl) (by kernel_rfl); (focus (intro wv hgv _; have hcv : ∀ b o, b < _ → b ≠ r → wv.cell? ⟨b, o, none⟩ = _ := fun b o hb hn => World.cell?_of_block (a := ⟨b, o, none⟩) (hgv.1.block b hb (fun e => hn (Option.some.inj e))); have hnt2 := HDF.out; (try go_simp); try rfl; done)); simp only [Act.put, List.setIfInBounds_toArray, List.set_cons_succ, List.set_cons_zero])
      iterate 2 (apply HavG.hav_same (by simp only [List.getElem?_toArray, List.getElem?_cons_succ, List.getElem?_cons_zero]; rfl) (by kernel_rfl); (focus (intro wv hgv _; have hcv : ∀ b o, b < _ → b ≠ r → wv.cell? ⟨b, o, none⟩ = _ := fun b o hb hn => World.cell?_of_block (a := ⟨b, o, none⟩) (hgv.1.block b hb (fun e => hn (Option.some.inj e))); (try go_simp); try rfl; done)); simp only [Act.put, List.setIfInBounds_toArray, List.set_cons_succ, List.set_cons_zero])
      (apply HavG.hav_same (by simp only [List.getElem?_toArray, List.getElem?_cons_succ, List.getElem?_cons_zero]; rfl) (by kernel_rfl); (focus (intro wv hgv _; have hcv : ∀ b o, b < _ → b ≠ r → wv.cell? ⟨b, o, none⟩ = _ := fun b o hb hn => World.cell?_of_block (a := ⟨b, o, none⟩) (hgv.1.block b hb (fun e => hn (Option.some.inj e))); have hib := HIB.out; (try go_simp); try rfl; done)); simp only [Act.put, List.setIfInBounds_toArray, List.set_cons_succ, List.set_cons_zero])
      iterate 2 (apply HavG.hav_same (by simp only [List.getElem?_toArray, List.getElem?_cons_succ, List.getElem?_cons_zero]; rfl) (by kernel_rfl); (focus (intro wv hgv _; have hcv : ∀ b o, b < _ → b ≠ r → wv.cell? ⟨b, o, none⟩ = _ := fun b o hb hn => World.cell?_of_block (a := ⟨b, o, none⟩) (hgv.1.block b hb (fun e => hn (Option.some.inj e))); (try go_simp); try rfl; done)); simp only [Act.put, List.setIfInBounds_toArray, List.set_cons_succ, List.set_cons_zero])
      (apply HavG.hav_call (by simp only [List.getElem?_toArray, List.getElem?_cons_succ, List.getElem?_cons_zero]; rfl) (by kernel_rfl); (focus (intro wv; go_simp; try exact ⟨rfl, rfl⟩; done)); (focus (intro wv hgv _; have hq := best_any b (dif f s) s wv hdf (by omega) h4 (HD.out.keep hgv); rw [HK.out] at hq; exact hq; done)); simp only [Act.put, List.setIfInBounds_toArray, List.set_cons_succ, List.set_cons_zero])
      (apply HavG.hav_same (by simp only [List.getElem?_toArray, List.getElem?_cons_succ, List.getElem?_cons_zero]; rfl) (by kernel_rfl); (focus (intro wv hgv _; have hcv : ∀ b o, b < _ → b ≠ r → wv.cell? ⟨b, o, none⟩ = _ := fun b o hb hn => World.cell?_of_block (a := ⟨b, o, none⟩) (hgv.1.block b hb (fun e => hn (Option.some.inj e))); have hwp := HWP.out; (try go_simp); try rfl; done)); simp only [Act.put, List.setIfInBounds_toArray, List.set_cons_succ, List.set_cons_zero])
      (apply HavG.hav_same (by simp only [List.getElem?_toArray, List.getElem?_cons_succ, List.getElem?_cons_zero]; rfl) (by kernel_rfl); (focus (intro wv hgv _; have hcv : ∀ b o, b < _ → b ≠ r → wv.cell? ⟨b, o, none⟩ = _ := fun b o hb hn => World.cell?_of_block (a := ⟨b, o, none⟩) (hgv.1.block b hb (fun e => hn (Option.some.inj e))); (try go_simp); try rfl; done)); simp only [Act.put, List.setIfInBounds_toArray, List.set_cons_succ, List.set_cons_zero])
      (apply HavG.hav_same (by simp only [List.getElem?_toArray, List.getElem?_cons_succ, List.getElem?_cons_zero]; rfl) (by kernel_rfl); (focus (intro wv hgv _; have hcv : ∀ b o, b < _ → b ≠ r → wv.cell? ⟨b, o, none⟩ = _ := fun b o hb hn => World.cell?_of_block (a := ⟨b, o, none⟩) (hgv.1.block b hb (fun e => hn (Option.some.inj e))); have heq := HEQ.out; (try go_simp); try rfl; done)); simp only [Act.put, List.setIfInBounds_toArray, List.set_cons_succ, List.set_cons_zero])
      iterate 2 (apply HavG.hav_same (by simp only [List.getElem?_toArray, List.getElem?_cons_succ, List.getElem?_cons_zero]; rfl) (by kernel_rfl); (focus (intro wv hgv _; have hcv : ∀ b o, b < _ → b ≠ r → wv.cell? ⟨b, o, none⟩ = _ := fun b o hb hn => World.cell?_of_block (a := ⟨b, o, none⟩) (hgv.1.block b hb (fun e => hn (Option.some.inj e))); (try go_simp); try rfl; done)); simp only [Act.put, List.setIfInBounds_toArray, List.set_cons_succ, List.set_cons_zero])
      refine HavG.hav_end (fun w3 hgw3 _ => ?_); simp only [List.filterMap]
      have HG3 := Lib.hid hgw3
      clear hgw3
      go_wp2
      go_ret
      exact ⟨ret_bool HR.out.symm, HG3.out⟩
  · have HR : Hid (nextB L b f h want s = false) := by show _ = _; simp [nextB, hhs]
    have hgt : decide (h < s) = false := by simp; omega
    have hgt2 : decide ((h : Int) < (s : Int)) = false := by simp; omega
    go_enter Try.func117, Try.ntmps117
    go_wp2
    refine HavG.wp_region_havoc (R := GR r L) [(0,false),(1,false),(2,false),(3,false),(4,false),(5,false),(6,false),(7,false),(8,false),(9,false),(10,false),(11,false),(12,false),(13,false),(14,false),(15,false),(16,false),(17,false),(18,false),(19,false),(20,false),(21,false),(22,false),(23,false),(24,false),(25,false),(26,false),(27,false),(28,false),(29,false)] [] (fun _ _ => False) (by kernel_rfl) (by kernel_rfl) (fun _ _ _ _ h => h.elim) ?_
    iterate 5 (apply HavG.hav_same (by simp only [List.getElem?_toArray, List.getElem?_cons_succ, List.getElem?_cons_zero]; rfl) (by kernel_rfl); (focus (intro wv hgv _; have hcv : ∀ b o, b < _ → b ≠ r → wv.cell? ⟨b, o, none⟩ = _ := fun b o hb hn => World.cell?_of_block (a := ⟨b, o, none⟩) (hgv.1.block b hb (fun e => hn (Option.some.inj e))); (try go_simp); try rfl; done)); simp only [Act.put, List.setIfInBounds_toArray, List.set_cons_succ, List.set_cons_zero])
    iterate 5 (refine HavG.hav_skip (by simp only [List.getElem?_toArray, List.getElem?_cons_succ, List.getElem?_cons_zero]; rfl) (by kernel_rfl) ?_; simp only [Act.put, List.setIfInBounds_toArray, List.set_cons_succ, List.set_cons_zero])
    iterate 2 (apply HavG.hav_same (by simp only [List.getElem?_toArray, List.getElem?_cons_succ, List.getElem?_cons_zero]; rfl) (by kernel_rfl); (focus (intro wv hgv _; have hcv : ∀ b o, b < _ → b ≠ r → wv.cell? ⟨b, o, none⟩ = _ := fun b o hb hn => World.cell?_of_block (a := ⟨b, o, none⟩) (hgv.1.block b hb (fun e => hn (Option.some.inj e))); (try go_simp); try rfl; done)); simp only [Act.put, List.setIfInBounds_toArray, List.set_cons_succ, List.set_cons_zero])
    iterate 16 (refine HavG.hav_skip (by simp only [List.getElem?_toArray, List.getElem?_cons_succ, List.getElem?_cons_zero]; rfl) (by kernel_rfl) ?_; simp only [Act.put, List.setIfInBounds_toArray, List.set_cons_succ, List.set_cons_zero])
    iterate 2 (apply HavG.hav_same (by simp only [List.getElem?_toArray, List.getElem?_cons_succ, List.getElem?_cons_zero]; rfl) (by kernel_rfl); (focus (intro wv hgv _; have hcv : ∀ b o, b < _ → b ≠ r → wv.cell? ⟨b, o, none⟩ = _ := fun b o hb hn => World.cell?_of_block (a := ⟨b, o, none⟩) (hgv.1.block b hb (fun e => hn (Option.some.inj e))); (try go_simp); try rfl; done)); simp only [Act.put, List.setIfInBounds_toArray, List.set_cons_succ, List.set_cons_zero])
    refine HavG.hav_end (fun w3 hgw3 _ => ?_); simp only [List.filterMap]
    have HG3 := Lib.hid hgw3
    clear hgw3
    go_wp2
    go_ret
    exact ⟨ret_bool HR.out.symm, HG3.out⟩
/-- What first returns: the first set that suits, or none. -/
def firstV (o : Option Nat) : Value := match o with
  | some s => .tuple #[.int .u64 s, .bool true]
  | none => .tuple #[.int .u64 0, .bool false]
theorem find_take {L : List Nat} {P : Nat → Bool} {k s : Nat} (hs : L[k]? = some s) (h : ∀ x ∈ L.take k, P x = false) (hp : P s = true) : L.find? P = some s := by
  rw [List.find?_eq_some_iff_append]
  obtain ⟨hk, hs'⟩ := List.getElem?_eq_some_iff.1 hs
  refine ⟨hp, L.take k, L.drop (k + 1), ?_, fun x hx => by rw [h x hx]; rfl⟩
  rw [← hs']
  simp
set_option maxRecDepth 100000 in
set_option maxHeartbeats 6400000 in
theorem first_any (g : Nat) (cap : Array Value) (P : Nat → Bool) (eg : ∀ args w, (callFunc g args).run Try.prog w = .ok (.enter g args) w) (w : World) (hD : BestIn w r d sa n cp L)
    (hP : ∀ s ∈ L, ∀ wq, (GR r L).G w wq → Calls Try.prog g (#[.int .u64 s] ++ cap) wq fun e w' => e = .returned (.bool (P s)) ∧ (GR r L).G wq w') :
    Calls Try.prog 116 #[.slice sa n cp, .agg #[.func (.func g) #[] cap]] w fun e w' => e = .returned (firstV (L.find? P)) ∧ (GR r L).G w w' := by
  have HD := Lib.hid hD
  have HPP := Lib.hid hP
  have hr0 := hD.map.lt
  have hn0 := hD.hn
  have HLN := Lib.hid hD.len
  have HRN : Hid (r < w.heap.size) := hr0
  clear hD hP
  go_enter Try.func116, Try.ntmps116
  go_wp2
  go_loopw [4, 10] (fun z i wr => ∃ k : Nat, k ≤ n ∧ i = .int .i64 k ∧ z = .int .u64 0 ∧ Hid (∀ x ∈ L.take k, P x = false) ∧ (GR r L).G (w.alloc (.cells #[.func (.func g) #[] cap] 148)) wr) (fun _ i _ => n - (intOf i).toNat)
  case atStart => exact ⟨0, Nat.zero_le _, rfl, rfl, by show ∀ x ∈ _, _ = _; simp, (GR r L).refl _⟩
  case round =>
    obtain ⟨k, hk, rfl, rfl, HA, hgr⟩ := hrel
    have HGR := Lib.hid hgr
    have HGW : Hid ((GR r L).G w wr) := (GR r L).trans (GR.below ((Below.refl w.heap.size w).alloc (Nat.le_refl _) _)) hgr
    have HDR := Lib.hid (HD.out.keep HGW.out)
    have HXR : Hid (Blk wr w.heap.size 148 #[.func (.func g) #[] cap]) := (hgr.1.block _ (by simp) (by intro e; have := Option.some.inj e; have := HRN.out; omega)).trans (Blk.new w 148 _)
    have x0 : wr.cell? ⟨w.heap.size, 0, none⟩ = some (.func (.func g) #[] cap) := HXR.out.cell 0
    clear hgr
    by_cases hlt : k < n
    · obtain ⟨s, hs⟩ : ∃ s, L[k]? = some s := ⟨L[k]'(by have := HLN.out; omega), by simp⟩
      have HS := Lib.hid hs
      have HM := Lib.hid (List.mem_of_getElem? hs)
      obtain ⟨gb, off, hsa, hbl, H0⟩ := rd_un HDR.out.rd k s hs
      subst hsa
      clear hs
      go_wp2_with fail
      refine (HPP.out s HM.out _ HGW.out).mono ?_
      cases hp : P s
      · have HA2 : Hid (∀ x ∈ L.take (k + 1), P x = false) := by
          show ∀ x ∈ _, _ = _
          rw [List.take_add_one, HS.out]
          intro x hx
          rcases List.mem_append.1 hx with hx | hx
          · exact HA.out x hx
          · simp only [Option.toList_some, List.mem_singleton] at hx
            rw [hx]; exact hp
        rintro e w3 ⟨rfl, hg3⟩
        have HG3 := Lib.hid ((GR r L).trans HGR.out hg3)
        clear hg3 hp
        go_wp2
        go_roundw
        case rel => exact ⟨k + 1, by omega, by go_num, rfl, HA2, HG3.out⟩
        case measure => simp [intOf]; omega
      · have HF : Hid (L.find? P = some s) := find_take HS.out HA.out hp
        rintro e w3 ⟨rfl, hg3⟩
        have HG3 := Lib.hid ((GR r L).trans HGW.out hg3)
        clear hg3 hp
        go_wp2
        go_ret2
        exact ⟨by rw [HF.out]; rfl, HG3.out⟩
    · obtain rfl : n = k := by omega
      have HF : Hid (L.find? P = none) := by
        show _ = _
        rw [List.find?_eq_none]
        intro x hx
        rw [HA.out x (by rw [List.take_of_length_le (by have := HLN.out; omega)]; exact hx)]
        simp
      go_wp2
      go_ret2
      exact ⟨by rw [HF.out]; rfl, HGW.out⟩
end
end Go.Proofs.Ytbfjebglaimcmaa
