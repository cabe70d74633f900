/- What ready and plan do, one behind the other. -/
import Derived.Test.YtbfjebglaimcmaaPlan3w
namespace Go.Proofs.Ytbfjebglaimcmaa
open Go.RowKit Go.Hav
/-- The shed that plan is handed. -/
def PlanIn (w : World) (r d : Nat) (ga : Option Addr) (fl : Nat) (bales : Int) (L : List Nat) : Prop :=
  ∃ sa n cp, w.cell? ⟨d, 0, none⟩ = some (.slice ga fl fl) ∧ w.cell? ⟨d, 3, none⟩ = some (.int .i64 bales) ∧ (∀ g off, sa = some ⟨g, off, none⟩ → g < w.heap.size) ∧ BestIn w r d sa n cp L
/-- The press has a plan: it is valid, nothing clashes. -/
def planE (p : PressD) : Int := if p.ok = false then 1 else if p.wrong = 0 then 0 else 10
def planP (p : PressD) : List Nat := plan p.sets (full p.n) p.bales.toNat
theorem OnF.toBelow {B r l : Nat} {a b : World} {n : Nat} (h : OnF B r l a b) (hB : n ≤ B) (hr : n ≤ r) (hl : n ≤ l) : Below n a b := ⟨h.os, h.tape, h.output, h.size, fun k hk => h.block k (by omega) (by omega) (by omega)⟩
section
variable {d r : Nat} {low top bales : Int} {fa ga wa : Option Addr} {fl fc wl wc : Nat} {p : PressD}
theorem sets_lt {p : PressD} (hv : p.ok = true) : p.sets.length ≤ 1024 ∧ ∀ s ∈ p.sets, s < 1024 ∧ 1 ≤ s := by
  have hn := (PressD.ok_head hv).1
  have h2 : full p.n < 1024 := by
    unfold full
    have h := Nat.pow_le_pow_right (n := 2) (by omega) hn
    have := Nat.two_pow_pos p.n
    omega
  refine ⟨Nat.le_trans (List.length_filter_le _ _) (by simp; omega), fun s hs => ?_⟩
  have h := (List.mem_filter.1 hs).1
  simp only [List.mem_map, List.mem_range] at h
  obtain ⟨a, ha, rfl⟩ := h
  omega
theorem ready2_any (hv : p.ok = true) (hwl : wl ≤ 9223372036854775807) (w : World) (hD : ShedS w r d ga fl low top bales wa wl wc (.slice none 0 0) p) (hm : w.heap[r]? = some (.map #[] 0)) :
    Calls Try.prog 73 #[(.pointer (some ⟨d, 0, none⟩))] w fun e w' => e = .returned (.pointer (some ⟨d, 0, none⟩)) ∧ PlanIn w' r d ga fl bales p.sets ∧ OnF w.heap.size d d w w' := by
  refine (ready_any hv hwl w hD).mono ?_
  rintro e w' ⟨h1, h2, v, h3, h4⟩
  have hd := hD.hd
  have hdw := hD.blk.lt
  obtain ⟨sa, cp, rfl, hrd, _⟩ := own_rd unF_len (by decide) h4
  obtain ⟨s1, s2⟩ := sets_lt hv
  have hlow : ∀ g off, sa = some ⟨g, off, none⟩ → w.heap.size ≤ g ∧ g < w'.heap.size := fun g off e => h4.lt g (by subst e; rfl)
  refine ⟨h1, ⟨sa, _, cp, h3.cell 0, h3.cell 3, fun g off e => (hlow g off e).2, rfl, by simpa using s1, fun s hs => (s2 s hs).1, h3.lt, by omega, h3.cell 5, h3.cell 6, hrd, fun off e => ?_, ?_⟩, h2⟩
  · have := (hlow _ _ e).1
    omega
  · exact MapOK.empty ((h2.block r (by omega) (by omega) (by omega)).trans hm) _
theorem plan2_any (hv : p.ok = true) (hn : p.n = fl) (hb : p.bales = bales) (w : World) (hP : PlanIn w r d ga fl bales p.sets) :
    Calls Try.prog 74 #[(.pointer (some ⟨d, 0, none⟩))] w fun e w' => ∃ A c, e = .returned (.slice A (planP p).length c) ∧ RdG unF 1 w' w'.heap.size A (planP p) ∧ (∀ g, (Value.slice A (planP p).length c).ownBlock = some g → w.heap.size ≤ g) ∧ OnF w.heap.size r r w w' := by
  obtain ⟨sa, n, cp, q0, q3, hsa, hB⟩ := hP
  obtain ⟨h1, _, _, h4, _⟩ := PressD.ok_head hv
  refine (plan_any (full p.n) p.bales.toNat (by omega) (by rw [hn]) (by omega) (by omega) w q0 q3 hsa hB)
theorem planP_bd (hv : p.ok = true) : (planP p).length ≤ 5 ∧ (∀ s ∈ planP p, s ∈ p.sets ∧ 1 ≤ s ∧ s < 1024) ∧ 0 ≤ pops (planP p) ∧ pops (planP p) ≤ 10 := by
  obtain ⟨h1, _, _, h4, _⟩ := PressD.ok_head hv
  have hf := plan_fam (l := p.sets) (full p.n) p.bales.toNat
  have hl : (planP p).length ≤ 5 := plan_app_len _ _ _ (by omega)
  refine ⟨hl, fun s hs => ?_, pops_nonneg _, ?_⟩
  · have := (hf.1.parts.1 s hs).1
    exact ⟨this, ((sets_lt hv).2 s this).2, ((sets_lt hv).2 s this).1⟩
  · have h5 : pops (planP p) = _ := hf.2
    rw [h5]
    exact Int.le_trans (bestF_le _ _ _) (pop_bd _ _).2
end
end Go.Proofs.Ytbfjebglaimcmaa
