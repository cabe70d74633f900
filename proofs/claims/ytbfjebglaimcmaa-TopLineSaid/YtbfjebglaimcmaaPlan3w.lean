/- The walk of plan: into which bales most fleeces are pressed; conditions: the shed's sets are read, its map holds only what is the best. What ready and plan do, one behind the other. -/
import Derived.Test.YtbfjebglaimcmaaReady
import Derived.Laws.EntriesVeiled
namespace Go.Proofs.Ytbfjebglaimcmaa
open Go.RowKit Go.Hav
section
variable {d r : Nat} {low top bales : Int} {fa ga wa sa : Option Addr} {fl fc wl wc n cp : Nat} {p : PressD} {L : List Nat}
theorem plan_app_len (l : List Nat) (f B : Nat) (hB : B ≤ 5) : (plan l f B).length ≤ 5 := by rw [plan_length]; exact Nat.le_trans (few_spec f B).1 hB
set_option maxRecDepth 100000 in
set_option maxHeartbeats 6400000 in
theorem plan_any (f b : Nat) (hfl : fl ≤ 10) (hfu : f = full fl) (hbb : bales = b) (hb5 : b ≤ 5) (w : World) (q0 : w.cell? ⟨d, 0, none⟩ = some (.slice ga fl fl)) (q3 : w.cell? ⟨d, 3, none⟩ = some (.int .i64 bales)) (hsa : ∀ g off, sa = some ⟨g, off, none⟩ → g < w.heap.size) (hD : BestIn w r d sa n cp L) :
    Calls Try.prog 74 #[(.pointer (some ⟨d, 0, none⟩))] w fun e w' => ∃ A c, e = .returned (.slice A (plan L f b).length c) ∧ RdG unF 1 w' w'.heap.size A (plan L f b) ∧ (∀ g, (Value.slice A (plan L f b).length c).ownBlock = some g → w.heap.size ≤ g) ∧ OnF w.heap.size r r w w' := by
  subst hbb
  have HD := Lib.hid hD
  have HSA := Lib.hid hsa
  clear hsa
  have hp0 : (1 : Int) ≤ 2 ^ fl := by have := Nat.two_pow_pos fl; have h2 := pow_cast fl; omega
  have hp1 : (2 : Int) ^ fl ≤ 1024 := by
    have h := Nat.pow_le_pow_right (n := 2) (by omega) hfl
    have h2 := pow_cast fl
    omega
  have HFU : Hid ((2 : Int) ^ fl - 1 = f) := by subst hfu; exact (full_int fl).symm
  have hf10 : f < 1024 := by have := HFU.out; omega
  have hdw := hD.hd
  have hdr := hD.hr
  have hrw := hD.map.lt
  have hd1 : d < w.heap.size + 1 := by omega
  have HW1 : Hid (IntKind.u64.wrap (2 ^ fl) = 2 ^ fl) := wrap_u64 (by omega) (by omega)
  clear hD hfu
  go_enter Try.func74, Try.ntmps74
  go_wp2_with fail
  rw [HFU.out]
  obtain ⟨W, hW⟩ : ∃ W, W = w.alloc (.cells #[(.pointer (some ⟨d, 0, none⟩))] 88) := ⟨_, rfl⟩
  have HBW : Hid (Below w.heap.size w W) := by rw [hW]; exact (Below.refl w.heap.size w).alloc (Nat.le_refl _) _
  have HXW : Hid (Blk W w.heap.size 88 #[(.pointer (some ⟨d, 0, none⟩))]) := by rw [hW]; exact Blk.new w 88 _
  have HDW : Hid (BestIn W r d sa n cp L) := HD.out.keep (GR.below HBW.out)
  rw [← hW]
  clear hW
  have t1 : W.cell? ⟨w.heap.size, 0, none⟩ = some (.pointer (some ⟨d, 0, none⟩)) := HXW.out.cell 0
  have d3 : W.cell? ⟨d, 3, none⟩ = some (.int .i64 (b : Int)) := (HBW.out.cell (p := ⟨d, 3, none⟩) hdw).trans q3
  have hxw := HXW.out.lt
  have hxr : w.heap.size ≠ r := by omega
  have hdW : d < W.heap.size := by omega
  obtain ⟨K, HK⟩ : ∃ K, Hid (bestF L b f 0 = K) := ⟨_, rfl⟩
  refine HavG.wp_region_havoc (R := GR r L) [(0,false),(1,false),(2,false),(3,false),(4,false),(5,false),(6,false),(7,false),(8,false),(9,false)] [] (fun _ _ => False) (by kernel_rfl) (by kernel_rfl) (fun _ _ _ _ h => h.elim) ?_
  (apply HavG.hav_same (by simp only [List.getElem?_toArray, List.getElem?_cons_zero]; rfl) (by kernel_rfl); (focus (intro wv hgv _; have hcv : ∀ b o, b < _ → b ≠ r → wv.cell? ⟨b, o, none⟩ = _ := fun b o hb hn => World.cell?_of_block (a := ⟨b, o, none⟩) (hgv.1.block b hb (fun e => hn (Option.some.inj e))); (try go_simp); try rfl; done)); simp only [Act.put, List.setIfInBounds_toArray, List.set_cons_succ, List.set_cons_zero])
  iterate 7 (apply HavG.hav_same (by simp only [List.getElem?_toArray, List.getElem?_cons_succ, List.getElem?_cons_zero]; rfl) (by kernel_rfl); (focus (intro wv hgv _; have hcv : ∀ b o, b < _ → b ≠ r → wv.cell? ⟨b, o, none⟩ = _ := fun b o hb hn => World.cell?_of_block (a := ⟨b, o, none⟩) (hgv.1.block b hb (fun e => hn (Option.some.inj e))); (try go_simp); try rfl; done)); simp only [Act.put, List.setIfInBounds_toArray, List.set_cons_succ, List.set_cons_zero])
  (apply HavG.hav_call (by simp only [List.getElem?_toArray, List.getElem?_cons_succ, List.getElem?_cons_zero]; rfl) (by kernel_rfl); (focus (intro wv; go_simp; try exact ⟨rfl, rfl⟩; done)); (focus (intro wv hgv _; have hq := best_any b f 0 wv hf10 hb5 (by omega) (HDW.out.keep hgv); rw [HK.out] at hq; exact hq; done)); simp only [Act.put, List.setIfInBounds_toArray, List.set_cons_succ, List.set_cons_zero])
  (apply HavG.hav_same (by simp only [List.getElem?_toArray, List.getElem?_cons_succ, List.getElem?_cons_zero]; rfl) (by kernel_rfl); (focus (intro wv hgv _; have hcv : ∀ b o, b < _ → b ≠ r → wv.cell? ⟨b, o, none⟩ = _ := fun b o hb hn => World.cell?_of_block (a := ⟨b, o, none⟩) (hgv.1.block b hb (fun e => hn (Option.some.inj e))); (try go_simp); try rfl; done)); simp only [Act.put, List.setIfInBounds_toArray, List.set_cons_succ, List.set_cons_zero])
  refine HavG.hav_end (fun w2 hgw2 _ => ?_); simp only [List.filterMap]
  have HG2 : Hid ((GR r L).G W w2) := hgw2
  clear hgw2
  obtain ⟨F, HF⟩ : ∃ F, Hid (few L f b = F) := ⟨_, rfl⟩
  have HFS : Hid (F ≤ b ∧ bestF L F f 0 = K ∧ ∀ c, c < F → bestF L c f 0 < K) := by have h := few_spec (l := L) f b; rw [HF.out, HK.out] at h; exact h
  have hF5 : F ≤ 5 := Nat.le_trans HFS.out.1 hb5
  go_wp2
  go_loopw [5] (fun v wr => ∃ c : Nat, c ≤ F ∧ v = .int .i64 c ∧ (GR r L).G W wr) (fun v _ => F - (intOf v).toNat)
  case atStart => exact ⟨0, Nat.zero_le _, rfl, HG2.out⟩
  case round =>
    obtain ⟨c, hc, rfl, hgr⟩ := hrel
    have HGR := Lib.hid hgr
    have HDR : Hid (BestIn wr r d sa n cp L) := HDW.out.keep hgr
    have HXR : Hid (Blk wr w.heap.size 88 #[(.pointer (some ⟨d, 0, none⟩))]) := (hgr.1.block _ hxw (by intro e; exact hxr (Option.some.inj e))).trans HXW.out
    have t1r : wr.cell? ⟨w.heap.size, 0, none⟩ = some (.pointer (some ⟨d, 0, none⟩)) := HXR.out.cell 0
    have hxwr := HXR.out.lt
    clear hgr
    go_wp2_with fail
    refine (best_any c f 0 wr hf10 (by omega) (by omega) HDR.out).mono ?_
    rintro e w3 ⟨rfl, hg3⟩
    have HG3 : Hid ((GR r L).G W w3) := (GR r L).trans HGR.out hg3
    clear hg3
    by_cases hlt : c < F
    · have hl : decide (bestF L c f 0 < K) = true := by simp; exact HFS.out.2.2 c hlt
      go_wp2
      go_roundw
      case rel => exact ⟨c + 1, by omega, by go_num, HG3.out⟩
      case measure => simp [intOf]; omega
    · obtain rfl : c = F := by omega
      have hl : decide (bestF L c f 0 < K) = false := by simp; have := HFS.out.2.1; omega
      have HX3 : Hid (Blk w3 w.heap.size 88 #[(.pointer (some ⟨d, 0, none⟩))]) := (HG3.out.1.block _ hxw (by intro e; exact hxr (Option.some.inj e))).trans HXW.out
      have hx3 := HX3.out.lt
      have HD3 : Hid (BestIn w3 r d sa n cp L) := HDW.out.keep HG3.out
      have hmf : ∀ (fn : Fn) (first cap : Array Value) (w : World), (Instr.makeFunc fn first cap).run Try.prog w = .ok (.func fn first cap) w := fun _ _ _ _ => rfl
      go_wp2_with fail
      have hs3 : W.heap.size ≤ w3.heap.size := HG3.out.1.size
      obtain ⟨W4, hW4⟩ : ∃ W4, W4 = (((w3.alloc (.cells #[] 93)).alloc (.cells #[.slice (some ⟨w3.heap.size, 0, none⟩) 0 0] 107)).alloc
        (.cells #[.func (.func 115) #[] #[.pointer (some ⟨w.heap.size, 0, none⟩), .pointer (some ⟨w3.heap.size + 1, 0, none⟩), .pointer (some ⟨w3.heap.size + 1 + 1, 0, none⟩)]] 144)) := ⟨_, rfl⟩
      have HB4 : Hid (Below w3.heap.size w3 W4) := by rw [hW4]; exact (((Below.refl _ _).alloc (Nat.le_refl _) _).alloc (by simp) _).alloc (by simp; omega) _
      have HI4 : Hid (OnIn W4 w3.heap.size r d sa n cp L w.heap.size (w3.heap.size + 1) (w3.heap.size + 1 + 1) []) := by
        have e1 : Blk W4 (w3.heap.size + 1 + 1) 144 #[.func (.func 115) #[] #[.pointer (some ⟨w.heap.size, 0, none⟩), .pointer (some ⟨w3.heap.size + 1, 0, none⟩), .pointer (some ⟨w3.heap.size + 1 + 1, 0, none⟩)]] := by rw [hW4]; exact Blk.new_ (by simp) 144 _
        have e2 : Blk W4 (w3.heap.size + 1) 107 #[.slice (some ⟨w3.heap.size, 0, none⟩) 0 0] := by rw [hW4]; exact (Blk.new_ (by simp) 107 _).alloc _
        have e3 : W4.ownsRow w3.heap.size 93 1 (.slice (some ⟨w3.heap.size, 0, none⟩) 0 0) 0 [] := by
          rw [hW4]
          exact own_below (ownsRow_empty rfl 93 1) (((Below.refl _ _).alloc (by simp) _).alloc (by simp) _)
        exact ⟨HB4.out.size, HD3.out.keep (GR.below HB4.out), HD3.out.rd.below HB4.out, HD3.out.hd, HD3.out.map.lt, HX3.out.below HB4.out hx3, e1, ⟨_, e2, e3, (by show some w3.heap.size ≠ some (w3.heap.size + 1); simp), (by show some w3.heap.size ≠ some (w3.heap.size + 1 + 1); simp; omega)⟩, hx3, hxr, by omega, by have := HD3.out.map.lt; omega, by omega, by have := HD3.out.map.lt; omega, by have := HD3.out.hd; omega,
          fun off e => by have := HSA.out _ _ e; omega⟩
      rw [← hW4]
      clear hW4
      refine (on_any c f 0 K [] W4 hf10 hF5 HFS.out.2.1.symm (by simp; omega) HI4.out).mono ?_
      rintro e w5 ⟨rfl, hI5, hF5'⟩
      have HPL : Hid (planF L c f 0 K = plan L f b) := by show _ = _; rw [plan, HF.out, HK.out]
      rw [List.nil_append, HPL.out] at hI5
      obtain ⟨v, hv, hown, _⟩ := hI5.l
      obtain ⟨A, cp5, rfl, hrd, _⟩ := own_rd unF_len (by decide) hown
      have HR := Lib.hid hrd
      have HOW := Lib.hid hown
      have v0 := hv.cell 0
      have v1 := hv.lt
      have HOF : Hid (OnF w.heap.size r r w w5) := (OnF.below HBW.out (Nat.le_refl _)).trans ((OnF.grown HG3.out.1 (by omega) (fun k e => .inr (Option.some.inj e).symm)).trans ((OnF.below HB4.out (by omega)).trans
        ⟨hF5'.os, hF5'.tape, hF5'.output, hF5'.size, fun k a1 a2 _ => hF5'.block k (by omega) a2 (by omega)⟩))
      clear hI5 hF5' hv hown hrd
      simp at v0
      go_wp2
      go_ret
      exact ⟨A, cp5, rfl, HR.out, fun g hg => by have := (HOW.out.lt g hg).1; omega, HOF.out⟩
end
end Go.Proofs.Ytbfjebglaimcmaa
namespace Go.Proofs.Ytbfjebglaimcmaa
open Go.RowKit Go.Hav
/-- The shed that plan is handed. -/
def PlanIn (w : World) (r d : Nat) (ga : Option Addr) (fl : Nat) (bales : Int) (L : List Nat) : Prop :=
  ∃ sa n cp, w.cell? ⟨d, 0, none⟩ = some (.slice ga fl fl) ∧ w.cell? ⟨d, 3, none⟩ = some (.int .i64 bales) ∧ (∀ g off, sa = some ⟨g, off, none⟩ → g < w.heap.size) ∧ BestIn w r d sa n cp L
/-- The press has a plan: it is valid, nothing clashes. -/
def planE (p : PressD) : Int := if p.ok = false then 1 else if p.wrong = 0 then 0 else 10
def planP (p : PressD) : List Nat := plan p.sets (full p.n) p.bales.toNat
theorem OnF.toBelow {B r l : Nat} {a b : World} {n : Nat} (h : OnF B r l a b) (hB : n ≤ B) (hr : n ≤ r) (hl : n ≤ l) : Below n a b := ⟨h.os, h.tape, h.output, h.size, fun k hk => h.block k (by omega) (by omega) (by omega)⟩
section
variable {d r : Nat} {low top bales : Int} {fa ga wa : Option Addr} {fl fc wl wc : Nat} {p : PressD}
theorem sets_lt {p : PressD} (hv : p.ok = true) : p.sets.length ≤ 1024 ∧ ∀ s ∈ p.sets, s < 1024 ∧ 1 ≤ s := by
  have hn := (PressD.ok_head hv).1
  have h2 : full p.n < 1024 := by
    unfold full
    have h := Nat.pow_le_pow_right (n := 2) (by omega) hn
    have := Nat.two_pow_pos p.n
    omega
  refine ⟨Nat.le_trans (List.length_filter_le _ _) (by simp; omega), fun s hs => ?_⟩
  have h := (List.mem_filter.1 hs).1
  simp only [List.mem_map, List.mem_range] at h
  obtain ⟨a, ha, rfl⟩ := h
  omega
theorem ready2_any (hv : p.ok = true) (hwl : wl ≤ 9223372036854775807) (w : World) (hD : ShedS w r d ga fl low top bales wa wl wc (.slice none 0 0) p) (hm : w.heap[r]? = some (.map #[] 0)) :
    Calls Try.prog 73 #[(.pointer (some ⟨d, 0, none⟩))] w fun e w' => e = .returned (.pointer (some ⟨d, 0, none⟩)) ∧ PlanIn w' r d ga fl bales p.sets ∧ OnF w.heap.size d d w w' := by
  refine (ready_any hv hwl w hD).mono ?_
  rintro e w' ⟨h1, h2, v, h3, h4⟩
  have hd := hD.hd
  have hdw := hD.blk.lt
  obtain ⟨sa, cp, rfl, hrd, _⟩ := own_rd unF_len (by decide) h4
  obtain ⟨s1, s2⟩ := sets_lt hv
  have hlow : ∀ g off, sa = some ⟨g, off, none⟩ → w.heap.size ≤ g ∧ g < w'.heap.size := fun g off e => h4.lt g (by subst e; rfl)
  refine ⟨h1, ⟨sa, _, cp, h3.cell 0, h3.cell 3, fun g off e => (hlow g off e).2, rfl, by simpa using s1, fun s hs => (s2 s hs).1, h3.lt, by omega, h3.cell 5, h3.cell 6, hrd, fun off e => ?_, ?_⟩, h2⟩
  · have := (hlow _ _ e).1
    omega
  · exact MapOK.empty ((h2.block r (by omega) (by omega) (by omega)).trans hm) _
theorem plan2_any (hv : p.ok = true) (hn : p.n = fl) (hb : p.bales = bales) (w : World) (hP : PlanIn w r d ga fl bales p.sets) :
    Calls Try.prog 74 #[(.pointer (some ⟨d, 0, none⟩))] w fun e w' => ∃ A c, e = .returned (.slice A (planP p).length c) ∧ RdG unF 1 w' w'.heap.size A (planP p) ∧ (∀ g, (Value.slice A (planP p).length c).ownBlock = some g → w.heap.size ≤ g) ∧ OnF w.heap.size r r w w' := by
  obtain ⟨sa, n, cp, q0, q3, hsa, hB⟩ := hP
  obtain ⟨h1, _, _, h4, _⟩ := PressD.ok_head hv
  refine (plan_any (full p.n) p.bales.toNat (by omega) (by rw [hn]) (by omega) (by omega) w q0 q3 hsa hB)
theorem planP_bd (hv : p.ok = true) : (planP p).length ≤ 5 ∧ (∀ s ∈ planP p, s ∈ p.sets ∧ 1 ≤ s ∧ s < 1024) ∧ 0 ≤ pops (planP p) ∧ pops (planP p) ≤ 10 := by
  obtain ⟨h1, _, _, h4, _⟩ := PressD.ok_head hv
  have hf := plan_fam (l := p.sets) (full p.n) p.bales.toNat
  have hl : (planP p).length ≤ 5 := plan_app_len _ _ _ (by omega)
  refine ⟨hl, fun s hs => ?_, pops_nonneg _, ?_⟩
  · have := (hf.1.parts.1 s hs).1
    exact ⟨this, ((sets_lt hv).2 s this).2, ((sets_lt hv).2 s this).1⟩
  · have h5 : pops (planP p) = _ := hf.2
    rw [h5]
    exact Int.le_trans (bestF_le _ _ _) (pop_bd _ _).2
end
end Go.Proofs.Ytbfjebglaimcmaa
