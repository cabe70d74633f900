/- The walk of best: for every rest; conditions: the shed's sets are read, its map holds only what is the best. -/
import Derived.Test.YtbfjebglaimcmaaMemo
namespace Go.Proofs.Ytbfjebglaimcmaa
open Go.RowKit Go.Hav
theorem below_grown {w w' : World} (h : Below w.heap.size w w') (row : Option Nat) : w.grownBy w' row := ⟨h.os, h.tape, h.output, h.size, fun k hk _ => h.block k hk⟩
/-- Only the map at block r is written, and it holds still what is the best. -/
def GR (r : Nat) (L : List Nat) : HavG.Rel where
  G w w' := w.grownBy w' (some r) ∧ (MapOK w r L → MapOK w' r L)
  refl w := ⟨World.grownBy.refl w _, id⟩
  trans h k := ⟨h.1.trans k.1, fun hm => k.2 (h.2 hm)⟩
  drew _ := ⟨below_grown (Below.drew (Below.refl _ _)) _, fun hm => hm.keep rfl⟩
theorem GR.below {r : Nat} {L : List Nat} {w w' : World} (h : Below w.heap.size w w') : (GR r L).G w w' := ⟨below_grown h _, fun hm => hm.keep (h.block r hm.lt)⟩
/-- The shed, as best sees it: its sets, its map. -/
structure BestIn (w : World) (r d : Nat) (sa : Option Addr) (n cp : Nat) (L : List Nat) : Prop where
  len : L.length = n
  hn : n ≤ 1024
  hL : ∀ s ∈ L, s < 1024
  hd : d < w.heap.size
  hr : d ≠ r
  c5 : w.cell? ⟨d, 5, none⟩ = some (.slice sa n cp)
  c6 : w.cell? ⟨d, 6, none⟩ = some (.map (some r))
  rd : RdG unF 1 w w.heap.size sa L
  ne : ∀ off, sa ≠ some ⟨r, off, none⟩
  map : MapOK w r L
theorem BestIn.keep {w w' : World} {r d : Nat} {sa : Option Addr} {n cp : Nat} {L : List Nat} (h : BestIn w r d sa n cp L) (hg : (GR r L).G w w') : BestIn w' r d sa n cp L := by
  have e : ∀ o, w'.cell? ⟨d, o, none⟩ = w.cell? ⟨d, o, none⟩ := fun o => World.cell?_of_block (a := ⟨d, o, none⟩) (hg.1.block d h.hd (fun e => h.hr (Option.some.inj e)))
  have hrd : RdG unF 1 w' w.heap.size sa L := h.rd.keep fun b hb hx => hg.1.block b hb (fun e => by
    obtain ⟨off, ho⟩ := hx
    exact h.ne off (by rw [ho, Option.some.inj e]))
  exact ⟨h.len, h.hn, h.hL, Nat.lt_of_lt_of_le h.hd hg.1.size, h.hr, (e 5).trans h.c5, (e 6).trans h.c6, hrd.more hg.1.size, h.ne, hg.2 h.map⟩
theorem max_run (a b : Int) (w : World) : (Builtin.max_ #[3, 3] 3 #[.int .i64 a, .int .i64 b]).run Try.prog w = .ok (.int .i64 (max a b)) w := by
  rcases Int.lt_or_le a b with h | h
  · simp [Builtin.max_, Builtin.max2, h]; omega
  · simp [Builtin.max_, Builtin.max2]; omega
theorem MapOK.look_at {w : World} {r : Nat} {L : List Nat} (hM : MapOK w r L) (f b h : Nat) (h1 : f < 1024) (h2 : b ≤ 5) (h3 : h < 1024) :
    ∃ is : Bool, ∀ wv : World, wv.heap[r]? = w.heap[r]? → (Instr.lookup 130 (.map (some r)) (.agg #[.int .u64 f, .int .i64 b, .int .u64 h]) true).run Try.prog wv = .ok (.tuple #[.int .i64 (if is then bestF L b f h else 0), .bool is]) wv := by
  obtain ⟨D, ks, hown, _, _, _, hl⟩ := hM
  obtain ⟨kl, hk⟩ := key_mk f b h h1 h2 h3
  obtain ⟨e0, e1⟩ := hl f b h kl h1 h2 h3 hk
  refine ⟨decide ((f, b, h) ∈ ks), fun wv hv => ?_⟩
  have hown' : wv.ownsMap Try.prog 143 (plainElem Try.prog 3) r (Maps.size D) D := by
    obtain ⟨es, clock, hh, hF, hs, hD⟩ := hown
    exact ⟨es, clock, hv.trans hh, hF, hs, hD⟩
  obtain ⟨v, ps, hrun, hv⟩ := hown'.look_ok Try.keyed143 Try.underlying130 (Try.zero3 wv) (plainElem_int Try.underlying3 (by decide)) hk
  obtain ⟨c, rfl, hc, _⟩ := plainElem_int_inv Try.underlying3 hv
  simp only [Prod.mk.injEq, e1] at hc
  have hc1 := hc.1
  simp only [DataW.lit.injEq, Lit.int.injEq, true_and] at hc1
  rw [e0, ← hc1] at hrun
  refine hrun.trans ?_
  by_cases hm : (f, b, h) ∈ ks <;> simp [hm]
/-- What the best is by the first k sets. -/
def termF (L : List Nat) (b f h s : Nat) : Int := if decide (h < s) && sub s f then pop s 10 + bestF L b (dif f s) s else 0
def maxK (L : List Nat) (b f h k : Nat) : Int := ((L.take k).map (termF L b f h)).foldl max 0
theorem maxK_succ {L : List Nat} {k s : Nat} (b f h : Nat) (hs : L[k]? = some s) : maxK L b f h (k + 1) = max (maxK L b f h k) (termF L b f h s) := by
  unfold maxK
  rw [List.take_add_one, hs]
  simp
theorem maxK_all (L : List Nat) (b f h : Nat) : maxK L b f h L.length = bestF L (b + 1) f h := by
  unfold maxK
  rw [List.take_length]
  rfl
theorem termF_bd (L : List Nat) (b f h s : Nat) : 0 ≤ termF L b f h s ∧ termF L b f h s ≤ 20 := by
  unfold termF
  split
  · have h1 := pop_bd s 10
    have h2 := bestF_nonneg (l := L) b (dif f s) s
    have h3 := bestF_le (l := L) b (dif f s) s
    have h4 := pop_bd (dif f s) 10
    omega
  · omega
theorem maxK_bd {L : List Nat} (b f h : Nat) : ∀ {k}, k ≤ L.length → 0 ≤ maxK L b f h k ∧ maxK L b f h k ≤ 20 := by
  intro k
  induction k with
  | zero => intro _; simp [maxK]
  | succ k ih =>
    intro hk
    have h1 := ih (by omega)
    rw [maxK_succ b f h (s := L[k]'(by omega)) (by simp)]
    have h2 := termF_bd L b f h (L[k]'(by omega))
    omega
section
variable {d r : Nat} {sa : Option Addr} {n cp : Nat} {L : List Nat}
/-- What the greatest is so far; b: how many bales are left. -/
def MaxOK (L : List Nat) (b f h k : Nat) (M : Int) : Prop := (∀ b', b = b' + 1 → M = maxK L b' f h k) ∧ (b = 0 → M = 0)
set_option maxRecDepth 100000 in
set_option maxHeartbeats 6400000 in
theorem best_step (b : Nat) (IH : Hid (∀ b', b = b' + 1 → ∀ (f h : Nat) (w : World), f < 1024 → h < 1024 → BestIn w r d sa n cp L →
    Calls Try.prog 114 #[(.pointer (some ⟨d, 0, none⟩)), restV f b' h] w fun e w' => e = .returned (.int .i64 (bestF L b' f h)) ∧ (GR r L).G w w')) (f h : Nat) (w : World) (h1 : f < 1024) (h2 : b ≤ 5) (h3 : h < 1024) (hD : BestIn w r d sa n cp L) :
    Calls Try.prog 114 #[(.pointer (some ⟨d, 0, none⟩)), restV f b h] w fun e w' => e = .returned (.int .i64 (bestF L b f h)) ∧ (GR r L).G w w' := by
  have HD := Lib.hid hD
  have q5 := hD.c5
  have q6 := hD.c6
  have hdw := hD.hd
  have hdr := hD.hr
  have hr0 := hD.map.lt
  have hd1 : d < w.heap.size + 1 := by omega
  obtain ⟨is, hlk⟩ := hD.map.look_at f b h h1 h2 h3
  have HLK : Hid (∀ wv : World, wv.heap[r]? = w.heap[r]? → (Instr.lookup 130 (.map (some r)) (.agg #[.int .u64 f, .int .i64 b, .int .u64 h]) true).run Try.prog wv = .ok (.tuple #[.int .i64 (if is then bestF L b f h else 0), .bool is]) wv) := hlk
  clear hD hlk
  unfold restV
  cases is
  · skip
    go_enter Try.func114, Try.ntmps114
    go_wp2
    refine wp_region_havoc [(0,false),(1,false),(2,false),(3,false),(4,false),(5,false),(6,false),(7,false),(8,false),(9,false),(10,false)] [] (fun _ _ => False) (by kernel_rfl) (by kernel_rfl) (fun _ _ _ _ h => h.elim) ?_
    iterate 5 (apply hav_same (by simp only [List.getElem?_toArray, List.getElem?_cons_succ, List.getElem?_cons_zero]; rfl) (by kernel_rfl); (focus (intro wv hgv _; have hcv : ∀ b o, b < _ → wv.cell? ⟨b, o, none⟩ = _ := fun b o hb => Below.cell hgv (p := ⟨b, o, none⟩) hb; (try go_simp); try rfl; done)); simp only [Act.put, List.setIfInBounds_toArray, List.set_cons_succ, List.set_cons_zero])
    (apply hav_same (by simp only [List.getElem?_toArray, List.getElem?_cons_succ, List.getElem?_cons_zero]; rfl) (by kernel_rfl); (focus (intro wv hgv _; have hcv : ∀ b o, b < _ → wv.cell? ⟨b, o, none⟩ = _ := fun b o hb => Below.cell hgv (p := ⟨b, o, none⟩) hb; have hlk := HLK.out wv ((Below.block hgv r (by simp; omega)).trans (Below.heap_alloc w _ r hr0)); (try go_simp); try rfl; done)); simp only [Act.put, List.setIfInBounds_toArray, List.set_cons_succ, List.set_cons_zero])
    iterate 5 (apply hav_same (by simp only [List.getElem?_toArray, List.getElem?_cons_succ, List.getElem?_cons_zero]; rfl) (by kernel_rfl); (focus (intro wv hgv _; have hcv : ∀ b o, b < _ → wv.cell? ⟨b, o, none⟩ = _ := fun b o hb => Below.cell hgv (p := ⟨b, o, none⟩) hb; (try go_simp); try rfl; done)); simp only [Act.put, List.setIfInBounds_toArray, List.set_cons_succ, List.set_cons_zero])
    refine hav_end (fun w1 hgw1 _ => ?_); simp only [List.filterMap]; have hcw1 : ∀ b o, b < _ → w1.cell? ⟨b, o, none⟩ = _ := fun b o hb => Below.cell hgw1 (p := ⟨b, o, none⟩) hb; have hfw1 : ∀ b o, b < _ → w1.frozen? ⟨b, o, none⟩ = _ := fun b o hb => Below.frozen hgw1 (p := ⟨b, o, none⟩) hb; have hzw1 := Below.size hgw1; (try simp at hzw1)
    have HBX : Hid (Blk w1 w.heap.size 143 #[.int .u64 f, .int .i64 b, .int .u64 h]) := (Blk.new w 143 _).below hgw1 (by simp)
    have HB1 : Hid (Below w.heap.size w w1) := ((Below.refl w.heap.size w).alloc (Nat.le_refl _) _).trans (hgw1.mono (by simp))
    clear hgw1 hcw1 hfw1
    have HL0 := Lib.hid HD.out.len
    have hn0 := HD.out.hn
    have HG1 : Hid ((GR r L).G w w1) := GR.below HB1.out
    have q51 : w1.cell? ⟨d, 5, none⟩ = some (.slice sa n cp) := (HB1.out.cell (p := ⟨d, 5, none⟩) hdw).trans q5
    have hdw1 : d < w1.heap.size := by have := HB1.out.size; omega
    have HRN : Hid (r < w.heap.size) := hr0
    go_wp2
    go_loopw [7, 26] (fun m i wr => ∃ (k : Nat) (M : Int), k ≤ n ∧ i = .int .i64 k ∧ m = .int .i64 M ∧ 0 ≤ M ∧ M ≤ 20 ∧ Hid (MaxOK L b f h k M) ∧ (GR r L).G w1 wr) (fun _ i _ => n - (intOf i).toNat)
    case atStart => exact ⟨0, 0, Nat.zero_le _, rfl, rfl, by omega, by omega, ⟨fun b' _ => by simp [maxK], fun _ => rfl⟩, (GR r L).refl _⟩
    case round =>
      obtain ⟨k, M, hk, rfl, rfl, hM0, hM1, HMO, hgr⟩ := hrel
      have HGR := Lib.hid hgr
      have HGW : Hid ((GR r L).G w wr) := (GR r L).trans HG1.out hgr
      have HDR := Lib.hid (HD.out.keep HGW.out)
      have HXR : Hid (Blk wr w.heap.size 143 #[.int .u64 f, .int .i64 b, .int .u64 h]) := (hgr.1.block _ HBX.out.lt (by intro e; have := Option.some.inj e; have := HRN.out; omega)).trans HBX.out
      clear hgr
      by_cases hlt : k < n
      · obtain ⟨s, hs⟩ : ∃ s, L[k]? = some s := ⟨L[k]'(by have := HL0.out; omega), by simp⟩
        have hs10 := HD.out.hL s (List.mem_of_getElem? hs)
        have HS := Lib.hid hs
        obtain ⟨gb, off, hsa, hbl, H0⟩ := rd_un HDR.out.rd k s hs
        have x0 : wr.cell? ⟨w.heap.size, 0, none⟩ = some (.int .u64 f) := HXR.out.cell 0
        have x1 : wr.cell? ⟨w.heap.size, 1, none⟩ = some (.int .i64 b) := HXR.out.cell 1
        have x2 : wr.cell? ⟨w.heap.size, 2, none⟩ = some (.int .u64 h) := HXR.out.cell 2
        subst hsa
        clear hs
        cases b with
        | zero =>
          have HM : Hid (M = bestF L 0 f h) := by show _ = _; rw [HMO.out.2 rfl, bestF]
          have hq0 : ((0 : Nat) : Int) = 0 := rfl
          rw [hq0] at x1
          clear hq0
          go_wp2
          have HDT := HDR
          have t5 := HDT.out.c5
          have t6 := HDT.out.c6
          have tdw := HDT.out.hd
          have hxw := HXR.out.lt
          go_wp2
          refine wp_region_havoc [(0,false),(1,false),(2,false),(3,false),(4,false),(5,false)] [6] (fun _ _ => False) (by kernel_rfl) (by kernel_rfl) (fun _ _ _ _ h => h.elim) ?_
          iterate 6 (apply hav_same (by simp only [List.getElem?_toArray, List.getElem?_cons_succ, List.getElem?_cons_zero]; rfl) (by kernel_rfl); (focus (intro wv hgv _; have hcv : ∀ b o, b < _ → wv.cell? ⟨b, o, none⟩ = _ := fun b o hb => Below.cell hgv (p := ⟨b, o, none⟩) hb; (try go_simp); try rfl; done)); simp only [Act.put, List.setIfInBounds_toArray, List.set_cons_succ, List.set_cons_zero])
          refine hav_end (fun w3 hgw3 _ => ?_); simp only [List.filterMap]; have hcw3 : ∀ b o, b < _ → w3.cell? ⟨b, o, none⟩ = _ := fun b o hb => Below.cell hgw3 (p := ⟨b, o, none⟩) hb; have hfw3 : ∀ b o, b < _ → w3.frozen? ⟨b, o, none⟩ = _ := fun b o hb => Below.frozen hgw3 (p := ⟨b, o, none⟩) hb; have hzw3 := Below.size hgw3; (try simp at hzw3)
          obtain ⟨w4, hrun, hM4, hg4⟩ := (HDT.out.map.keep (hgw3.block r HDT.out.map.lt)).store f 0 h h1 h2 h3 (by have e1 := bestF_le (l := L) 0 f h; have e2 := pop_bd f 10; omega)
          rw [← HM.out, show ((0 : Nat) : Int) = 0 from rfl] at hrun
          have HG4 : Hid ((GR r L).G w w4) := (GR r L).trans HGW.out ((GR r L).trans (GR.below hgw3) ⟨hg4, fun _ => hM4⟩)
          clear hgw3 hcw3 hfw3 hM4 hg4
          go_wp2
          go_ret
          exact ⟨ret_int HM.out, HG4.out⟩
        | succ b =>
          have HT : Hid (maxK L b f h (k + 1) = max M (termF L b f h s)) := by show _ = _; rw [maxK_succ b f h HS.out, HMO.out.1 b rfl]
          have hb0 : ((b : Int) + 1 == 0) = false := by simp; omega
          have hbn : ((b + 1 : Nat) : Int) = (b : Int) + 1 := by omega
          rw [hbn] at x1
          have HBP := Lib.hid (termF_bd L b f h s)
          by_cases hhs : h < s
          · have hle : decide (s ≤ h) = false := by simp; omega
            have hle2 : decide ((s : Int) ≤ (h : Int)) = false := by simp; omega
            have HNT : Hid (bits BinOp.andNot IntKind.u64 (s : Int) (f : Int) = ((dif s f : Nat) : Int)) := not_u64 s f (by omega) (by omega)
            have hnt := HNT.out
            cases hsub : sub s f
            · have HT0 : Hid (termF L b f h s = 0) := by show _ = _; simp [termF, hsub]
              have hz : ((dif s f : Nat) != 0) = true := by
                have : ¬ (dif s f == 0) = true := by rw [show (dif s f == 0) = sub s f from rfl, hsub]; simp
                simpa using this
              have hz2 : (((dif s f : Nat) : Int) != 0) = true := by
                simp only [bne_iff_ne, ne_eq] at hz ⊢
                omega
              have HMK2 : Hid (MaxOK L (b + 1) f h (k + 1) M) := ⟨fun b' e => by
                obtain rfl : b = b' := by omega
                rw [HT.out, HT0.out]
                omega, fun e => by omega⟩
              clear hsub
              go_wp2
              go_roundw
              case rel => exact ⟨k + 1, M, by omega, by go_num, rfl, by omega, by omega, HMK2, HGR.out⟩
              case measure => simp [intOf]; omega
            · obtain ⟨K, HK⟩ : ∃ K, Hid (bestF L b (dif f s) s = K) := ⟨_, rfl⟩
              have HTT : Hid (termF L b f h s = pop s 10 + K) := by show _ = _; simp [termF, hhs, hsub, HK.out]
              have hz : ((dif s f : Nat) != 0) = false := by
                have : (dif s f == 0) = true := hsub
                simpa using this
              have hz2 : (((dif s f : Nat) : Int) != 0) = false := by
                simp only [bne_eq_false_iff_eq] at hz ⊢
                omega
              have HDF : Hid (bits BinOp.andNot IntKind.u64 (f : Int) (s : Int) = ((dif f s : Nat) : Int)) := not_u64 f s (by omega) (by omega)
              have HIB : Hid (IntKind.i64.wrap (b : Int) = b) := wrap_i64 (by omega) (by omega)
              have hdf : dif f s < 1024 := Nat.lt_of_le_of_lt (dif_le _ _) h1
              have hp := pop_bd s 10
              have hK0 : 0 ≤ K ∧ K ≤ 10 := by
                have e1 := bestF_nonneg (l := L) b (dif f s) s
                have e2 := bestF_le (l := L) b (dif f s) s
                have e3 := pop_bd (dif f s) 10
                have := HK.out
                omega
              obtain ⟨hK00, hK01⟩ := hK0
              obtain ⟨P, HP⟩ : ∃ P, Hid (pop s 10 = P) := ⟨_, rfl⟩
              rw [HP.out] at hp HTT
              obtain ⟨hp0, hp1⟩ := hp
              have HMX : Hid (maxK L b f h (k + 1) = max M (P + K)) := by show _ = _; rw [HT.out, HTT.out]
              have hxw := HXR.out.lt
              have hxr : w.heap.size ≠ r := by have := HRN.out; omega
              have HWP : Hid (IntKind.i64.wrap (P + K) = P + K) := wrap_i64 (by omega) (by omega)
              clear hsub
              go_wp2
              refine HavG.wp_region_havoc (R := GR r L) [(0,false),(1,false),(2,false),(3,false),(4,false),(5,false),(6,false),(7,false),(8,false),(9,false),(10,false),(11,false),(12,false),(13,false),(14,false),(15,false),(16,false)] [] (fun _ _ => False) (by kernel_rfl) (by kernel_rfl) (fun _ _ _ _ h => h.elim) ?_
              iterate 2 (apply HavG.hav_same (by simp only [List.getElem?_toArray, List.getElem?_cons_succ, List.getElem?_cons_zero]; rfl) (by kernel_rfl); (focus (intro wv hgv _; have hcv : ∀ b o, b < _ → b ≠ r → wv.cell? ⟨b, o, none⟩ = _ := fun b o hb hn => World.cell?_of_block (a := ⟨b, o, none⟩) (hgv.1.block b hb (fun e => hn (Option.some.inj e))); (try go_simp); try rfl; done)); simp only [Act.put, List.setIfInBounds_toArray, List.set_cons_succ, List.set_cons_zero])
              (apply HavG.hav_call (by simp only [List.getElem?_toArray, List.getElem?_cons_succ, List.getElem?_cons_zero]; rfl) (by kernel_rfl); (focus (intro wv; go_simp; try exact ⟨rfl, rfl⟩; done)); (focus (intro wv hgv _; have hq := ones_any s hs10 wv; rw [HP.out] at hq; exact hq.mono fun e w' h => ⟨h.1, by rw [← h.2]; exact (GR r L).refl _⟩; done)); simp only [Act.put, List.setIfInBounds_toArray, List.set_cons_succ, List.set_cons_zero])
              iterate 4 (apply HavG.hav_same (by simp only [List.getElem?_toArray, List.getElem?_cons_succ, List.getElem?_cons_zero]; rfl) (by kernel_rfl); (focus (intro wv hgv _; have hcv : ∀ b o, b < _ → b ≠ r → wv.cell? ⟨b, o, none⟩ = _ := fun b o hb hn => World.cell?_of_block (a := ⟨b, o, none⟩) (hgv.1.block b hb (fun e => hn (Option.some.inj e))); (try go_simp); try rfl; done)); simp only [Act.put, List.setIfInBounds_toArray, List.set_cons_succ, List.set_cons_zero])
              (apply HavG.hav_same (by simp only [List.getElem?_toArray, List.getElem?_cons_succ, List.getElem?_cons_zero]; rfl) (by kernel_rfl); (focus (intro wv hgv _; have hcv : ∀ b o, b < _ → b ≠ r → wv.cell? ⟨b, o, none⟩ = _ := fun b o hb hn => World.cell?_of_block (a := ⟨b, o, none⟩) (hgv.1.block b hb (fun e => hn (Option.some.inj e))); have hnt2 := HDF.out; (try go_simp); try rfl; done)); simp only [Act.put, List.setIfInBounds_toArray, List.set_cons_succ, List.set_cons_zero])
              iterate 2 (apply HavG.hav_same (by simp only [List.getElem?_toArray, List.getElem?_cons_succ, List.getElem?_cons_zero]; rfl) (by kernel_rfl); (focus (intro wv hgv _; have hcv : ∀ b o, b < _ → b ≠ r → wv.cell? ⟨b, o, none⟩ = _ := fun b o hb hn => World.cell?_of_block (a := ⟨b, o, none⟩) (hgv.1.block b hb (fun e => hn (Option.some.inj e))); (try go_simp); try rfl; done)); simp only [Act.put, List.setIfInBounds_toArray, List.set_cons_succ, List.set_cons_zero])
              (apply HavG.hav_same (by simp only [List.getElem?_toArray, List.getElem?_cons_succ, List.getElem?_cons_zero]; rfl) (by kernel_rfl); (focus (intro wv hgv _; have hcv : ∀ b o, b < _ → b ≠ r → wv.cell? ⟨b, o, none⟩ = _ := fun b o hb hn => World.cell?_of_block (a := ⟨b, o, none⟩) (hgv.1.block b hb (fun e => hn (Option.some.inj e))); have hib := HIB.out; (try go_simp); try rfl; done)); simp only [Act.put, List.setIfInBounds_toArray, List.set_cons_succ, List.set_cons_zero])
              iterate 2 (apply HavG.hav_same (by simp only [List.getElem?_toArray, List.getElem?_cons_succ, List.getElem?_cons_zero]; rfl) (by kernel_rfl); (focus (intro wv hgv _; have hcv : ∀ b o, b < _ → b ≠ r → wv.cell? ⟨b, o, none⟩ = _ := fun b o hb hn => World.cell?_of_block (a := ⟨b, o, none⟩) (hgv.1.block b hb (fun e => hn (Option.some.inj e))); (try go_simp); try rfl; done)); simp only [Act.put, List.setIfInBounds_toArray, List.set_cons_succ, List.set_cons_zero])
              (apply HavG.hav_call (by simp only [List.getElem?_toArray, List.getElem?_cons_succ, List.getElem?_cons_zero]; rfl) (by kernel_rfl); (focus (intro wv; go_simp; try exact ⟨rfl, rfl⟩; done)); (focus (intro wv hgv _; have hq := IH.out b rfl (dif f s) s wv hdf hs10 (HDR.out.keep hgv); rw [HK.out] at hq; exact hq; done)); simp only [Act.put, List.setIfInBounds_toArray, List.set_cons_succ, List.set_cons_zero])
              (apply HavG.hav_same (by simp only [List.getElem?_toArray, List.getElem?_cons_succ, List.getElem?_cons_zero]; rfl) (by kernel_rfl); (focus (intro wv hgv _; have hcv : ∀ b o, b < _ → b ≠ r → wv.cell? ⟨b, o, none⟩ = _ := fun b o hb hn => World.cell?_of_block (a := ⟨b, o, none⟩) (hgv.1.block b hb (fun e => hn (Option.some.inj e))); have hwp := HWP.out; (try go_simp); try rfl; done)); simp only [Act.put, List.setIfInBounds_toArray, List.set_cons_succ, List.set_cons_zero])
              (apply HavG.hav_same (by simp only [List.getElem?_toArray, List.getElem?_cons_succ, List.getElem?_cons_zero]; rfl) (by kernel_rfl); (focus (intro wv hgv _; have hcv : ∀ b o, b < _ → b ≠ r → wv.cell? ⟨b, o, none⟩ = _ := fun b o hb hn => World.cell?_of_block (a := ⟨b, o, none⟩) (hgv.1.block b hb (fun e => hn (Option.some.inj e))); have hmx := max_run M (P + K); (try go_simp); try rfl; done)); simp only [Act.put, List.setIfInBounds_toArray, List.set_cons_succ, List.set_cons_zero])
              (apply HavG.hav_same (by simp only [List.getElem?_toArray, List.getElem?_cons_succ, List.getElem?_cons_zero]; rfl) (by kernel_rfl); (focus (intro wv hgv _; have hcv : ∀ b o, b < _ → b ≠ r → wv.cell? ⟨b, o, none⟩ = _ := fun b o hb hn => World.cell?_of_block (a := ⟨b, o, none⟩) (hgv.1.block b hb (fun e => hn (Option.some.inj e))); (try go_simp); try rfl; done)); simp only [Act.put, List.setIfInBounds_toArray, List.set_cons_succ, List.set_cons_zero])
              refine HavG.hav_end (fun w3 hgw3 _ => ?_); simp only [List.filterMap]
              have HG3 : Hid ((GR r L).G w1 w3) := (GR r L).trans HGR.out hgw3
              have HMK2 : Hid (MaxOK L (b + 1) f h (k + 1) (max M (P + K))) := ⟨fun b' e => by
                obtain rfl : b = b' := by omega
                exact HMX.out.symm, fun e => by omega⟩
              clear hgw3
              go_wp2
              go_roundw
              case rel => exact ⟨k + 1, max M (P + K), by omega, by go_num, rfl, by omega, by omega, HMK2, HG3.out⟩
              case measure => simp [intOf]; omega
          · have hle : decide (s ≤ h) = true := by simp; omega
            have hle2 : decide ((s : Int) ≤ (h : Int)) = true := by simp; omega
            have HT0 : Hid (termF L b f h s = 0) := by show _ = _; simp [termF, hhs]
            have HMK2 : Hid (MaxOK L (b + 1) f h (k + 1) M) := ⟨fun b' e => by
              obtain rfl : b = b' := by omega
              rw [HT.out, HT0.out]
              omega, fun e => by omega⟩
            go_wp2
            go_roundw
            case rel => exact ⟨k + 1, M, by omega, by go_num, rfl, by omega, by omega, HMK2, HGR.out⟩
            case measure => simp [intOf]; omega
      · obtain rfl : n = k := by omega
        have HM : Hid (M = bestF L b f h) := by
          show _ = _
          cases b with
          | zero => rw [HMO.out.2 rfl, bestF]
          | succ b => rw [HMO.out.1 b rfl, ← HL0.out, maxK_all]
        have x0 : wr.cell? ⟨w.heap.size, 0, none⟩ = some (.int .u64 f) := HXR.out.cell 0
        have x1 : wr.cell? ⟨w.heap.size, 1, none⟩ = some (.int .i64 b) := HXR.out.cell 1
        have x2 : wr.cell? ⟨w.heap.size, 2, none⟩ = some (.int .u64 h) := HXR.out.cell 2
        have HDT := HDR
        have t5 := HDT.out.c5
        have t6 := HDT.out.c6
        have tdw := HDT.out.hd
        have hxw := HXR.out.lt
        go_wp2
        refine wp_region_havoc [(0,false),(1,false),(2,false),(3,false),(4,false),(5,false)] [6] (fun _ _ => False) (by kernel_rfl) (by kernel_rfl) (fun _ _ _ _ h => h.elim) ?_
        iterate 6 (apply hav_same (by simp only [List.getElem?_toArray, List.getElem?_cons_succ, List.getElem?_cons_zero]; rfl) (by kernel_rfl); (focus (intro wv hgv _; have hcv : ∀ b o, b < _ → wv.cell? ⟨b, o, none⟩ = _ := fun b o hb => Below.cell hgv (p := ⟨b, o, none⟩) hb; (try go_simp); try rfl; done)); simp only [Act.put, List.setIfInBounds_toArray, List.set_cons_succ, List.set_cons_zero])
        refine hav_end (fun w3 hgw3 _ => ?_); simp only [List.filterMap]; have hcw3 : ∀ b o, b < _ → w3.cell? ⟨b, o, none⟩ = _ := fun b o hb => Below.cell hgw3 (p := ⟨b, o, none⟩) hb; have hfw3 : ∀ b o, b < _ → w3.frozen? ⟨b, o, none⟩ = _ := fun b o hb => Below.frozen hgw3 (p := ⟨b, o, none⟩) hb; have hzw3 := Below.size hgw3; (try simp at hzw3)
        obtain ⟨w4, hrun, hM4, hg4⟩ := (HDT.out.map.keep (hgw3.block r HDT.out.map.lt)).store f b h h1 h2 h3 (by have e1 := bestF_le (l := L) b f h; have e2 := pop_bd f 10; omega)
        rw [← HM.out] at hrun
        have HG4 : Hid ((GR r L).G w w4) := (GR r L).trans HGW.out ((GR r L).trans (GR.below hgw3) ⟨hg4, fun _ => hM4⟩)
        clear hgw3 hcw3 hfw3 hM4 hg4
        go_wp2
        go_ret
        exact ⟨ret_int HM.out, HG4.out⟩
  · skip
    go_enter Try.func114, Try.ntmps114
    go_wp2
    refine wp_region_havoc [(0,false),(1,false),(2,false),(3,false),(4,false),(5,false),(6,false),(7,false),(8,false),(9,false),(10,false)] [] (fun _ _ => False) (by kernel_rfl) (by kernel_rfl) (fun _ _ _ _ h => h.elim) ?_
    iterate 5 (apply hav_same (by simp only [List.getElem?_toArray, List.getElem?_cons_succ, List.getElem?_cons_zero]; rfl) (by kernel_rfl); (focus (intro wv hgv _; have hcv : ∀ b o, b < _ → wv.cell? ⟨b, o, none⟩ = _ := fun b o hb => Below.cell hgv (p := ⟨b, o, none⟩) hb; (try go_simp); try rfl; done)); simp only [Act.put, List.setIfInBounds_toArray, List.set_cons_succ, List.set_cons_zero])
    (apply hav_same (by simp only [List.getElem?_toArray, List.getElem?_cons_succ, List.getElem?_cons_zero]; rfl) (by kernel_rfl); (focus (intro wv hgv _; have hcv : ∀ b o, b < _ → wv.cell? ⟨b, o, none⟩ = _ := fun b o hb => Below.cell hgv (p := ⟨b, o, none⟩) hb; have hlk := HLK.out wv ((Below.block hgv r (by simp; omega)).trans (Below.heap_alloc w _ r hr0)); (try go_simp); try rfl; done)); simp only [Act.put, List.setIfInBounds_toArray, List.set_cons_succ, List.set_cons_zero])
    iterate 5 (apply hav_same (by simp only [List.getElem?_toArray, List.getElem?_cons_succ, List.getElem?_cons_zero]; rfl) (by kernel_rfl); (focus (intro wv hgv _; have hcv : ∀ b o, b < _ → wv.cell? ⟨b, o, none⟩ = _ := fun b o hb => Below.cell hgv (p := ⟨b, o, none⟩) hb; (try go_simp); try rfl; done)); simp only [Act.put, List.setIfInBounds_toArray, List.set_cons_succ, List.set_cons_zero])
    refine hav_end (fun w1 hgw1 _ => ?_); simp only [List.filterMap]; have hcw1 : ∀ b o, b < _ → w1.cell? ⟨b, o, none⟩ = _ := fun b o hb => Below.cell hgw1 (p := ⟨b, o, none⟩) hb; have hfw1 : ∀ b o, b < _ → w1.frozen? ⟨b, o, none⟩ = _ := fun b o hb => Below.frozen hgw1 (p := ⟨b, o, none⟩) hb; have hzw1 := Below.size hgw1; (try simp at hzw1)
    have HBX : Hid (Blk w1 w.heap.size 143 #[.int .u64 f, .int .i64 b, .int .u64 h]) := (Blk.new w 143 _).below hgw1 (by simp)
    have HB1 : Hid (Below w.heap.size w w1) := ((Below.refl w.heap.size w).alloc (Nat.le_refl _) _).trans (hgw1.mono (by simp))
    clear hgw1 hcw1 hfw1
    go_wp2
    go_ret
    exact ⟨rfl, GR.below HB1.out⟩
theorem best_any (b : Nat) : ∀ (f h : Nat) (w : World), f < 1024 → b ≤ 5 → h < 1024 → BestIn w r d sa n cp L →
    Calls Try.prog 114 #[(.pointer (some ⟨d, 0, none⟩)), restV f b h] w fun e w' => e = .returned (.int .i64 (bestF L b f h)) ∧ (GR r L).G w w' := by
  induction b with
  | zero => intro f h w h1 h2 h3 hD; exact best_step 0 (fun b' e => by omega) f h w h1 h2 h3 hD
  | succ b ih =>
    intro f h w h1 h2 h3 hD
    exact best_step (b + 1) (fun b' e f h w a c hD => by
      obtain rfl : b = b' := by omega
      exact ih f h w a (by omega) c hD) f h w h1 h2 h3 hD
end
end Go.Proofs.Ytbfjebglaimcmaa
