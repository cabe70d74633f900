/- Rules for a region that draws its order: a table says what each operation leaves, in its slot or in the world; each fact may name the values of the operations of which its own has need; operations may store; the blocks that some make lie apart; and what an operation finds, as long as it has not been carried out. Conditions: the closed check 'tabSOk' on the region. A relation between worlds that keeps a family of facts. -/
import Derived.Test.YtiodmkokpfgkkaaHavV0
namespace Go.HavG
open Go.RowKit
section
variable {R : Rel} {P : Program} {ops : Array Oper}
theorem wp_region_tabW {Q : Exit → Act → World → Prop} (Φ : Nat → (Nat → Value) → World → Prop) (Ψ : Nat → World → Prop) (nw : List Nat) (sl : List (Option Nat)) {id : Nat} {a : Act} {w : World} (hm : P.follows .mixedOrders = true) (hok : tabSOk ops sl = true)
  (hsz : (sl.all fun d => match d with | some d => decide (d < a.tmps.size) | none => true) = true) (hst : ∀ i V w w', Φ i V w → R.G w w' → Φ i V w') (h0 : ∀ i, i < sl.length → Ψ i { w with drawn := w.drawn + 1 })
  (hcg : ∀ i, i < sl.length → ∀ V V' w, Φ i V w → (∀ j, j = i ∨ ((Region.before ops).getD i 0).testBit j = true → V j = V' j) → Φ i V' w)
  (hnw : ∀ i ∈ nw, ∀ V w, Φ i V w → bkV (V i) < w.heap.size)
  (hstep : ∀ i, i < sl.length → ∀ o a' w', ops[i]? = some o → Agree ops (List.range sl.length) a a' → R.G w w' → (∀ j, ((Region.before ops).getD i 0).testBit j = true → j < sl.length → Φ j (valV sl (slot a')) w') → Ψ i w' →
   stepOf P ops o a' w' (fun a'' w'' => ∃ v, a'' = a'.put o.dst v ∧ R.G w' w'' ∧ (∀ k, k < sl.length → k ≠ i → ((Region.before ops).getD i 0).testBit k = false → Ψ k w' → Ψ k w'') ∧ (∀ V, (∀ j, j ≠ i → V j = valV sl (slot a') j) → (o.dst ≠ none → V i = v) → Φ i V w'') ∧ (i ∈ nw → o.dst ≠ none ∧ w'.heap.size ≤ bkV v)) Q)
  (hend : ∀ (f : Nat → Value) w', R.G w w' → (∀ i, i < sl.length → Φ i (valV sl f) w') → (∀ i j, i ∈ nw → j ∈ nw → i ≠ j → i < sl.length → j < sl.length → bkV (valV sl f i) ≠ bkV (valV sl f j)) → wpList P ops Q [] (puts f (sl.filterMap fun d => d) a) w') : (Code.region id ops true).wp P Q a w := by
 simp only [tabSOk, Bool.and_eq_true] at hok
 obtain ⟨k1, k2, k3⟩ := hok
 have hdst : ∀ i o, i < sl.length → ops[i]? = some o → sl[i]? = some o.dst := fun i o hi ho => by
  have := List.all_eq_true.1 k2 i (List.mem_range.2 hi)
  rw [ho] at this
  simpa using this
 have hinj : ∀ i k d, i < sl.length → k < sl.length → sl[i]? = some (some d) → sl[k]? = some (some d) → i = k := fun i k d hi hk h1 h2 => by
  have := List.all_eq_true.1 (List.all_eq_true.1 k3 i (List.mem_range.2 hi)) k (List.mem_range.2 hk)
  rw [h1, h2] at this
  simpa using this
 refine wp_region_gen (P := P) (fun rem a' w' => R.G w w' ∧ a'.tmps.size = a.tmps.size ∧ (∀ i ∈ rem, i < sl.length) ∧ (∀ k, k < sl.length → k ∉ rem → ∀ i ∈ rem, ((Region.before ops).getD k 0).testBit i = false) ∧ (∀ i, i < sl.length → i ∉ rem → Φ i (valV sl (slot a')) w') ∧ (∀ i ∈ rem, Ψ i w') ∧
   ∀ i j, i ∈ nw → j ∈ nw → i ≠ j → i < sl.length → j < sl.length → i ∉ rem → j ∉ rem → bkV (valV sl (slot a') i) ≠ bkV (valV sl (slot a') j)) (List.range sl.length) [] hm k1
  ⟨R.drew w, rfl, fun i hi => List.mem_range.1 hi, fun k hk hn => absurd (List.mem_range.2 hk) hn, fun i hi hn => absurd (List.mem_range.2 hi) hn, fun i hi => h0 i (List.mem_range.1 hi), fun i j _ _ _ hi _ hn => absurd (List.mem_range.2 hi) hn⟩ ?_ ?_
 ·rintro rem i o a' w' hmem hnd ho hag hdep ⟨hg, hs, hlt, hdp, hf, hpsi, hap⟩
  have hil := hlt i hmem
  have hd := hdst i o hil ho
  have h := hstep i hil o a' w' ho hag hg (fun j hj hjl => hf j hjl (fun hm => by have := hdep j hm; rw [this] at hj; cases hj)) (hpsi i hmem)
  have next : ∀ a'' w'', (∃ v, a'' = a'.put o.dst v ∧ R.G w' w'' ∧ (∀ k, k < sl.length → k ≠ i → ((Region.before ops).getD i 0).testBit k = false → Ψ k w' → Ψ k w'') ∧ (∀ V, (∀ j, j ≠ i → V j = valV sl (slot a') j) → (o.dst ≠ none → V i = v) → Φ i V w'') ∧ (i ∈ nw → o.dst ≠ none ∧ w'.heap.size ≤ bkV v)) →
    ∃ v, a'' = a'.put o.dst v ∧ R.G w w'' ∧ a''.tmps.size = a.tmps.size ∧ (∀ k ∈ rem.erase i, k < sl.length) ∧ (∀ k, k < sl.length → k ∉ rem.erase i → ∀ j ∈ rem.erase i, ((Region.before ops).getD k 0).testBit j = false) ∧ (∀ k, k < sl.length → k ∉ rem.erase i → Φ k (valV sl (slot a'')) w'') ∧ (∀ k ∈ rem.erase i, Ψ k w'') ∧
    ∀ k j, k ∈ nw → j ∈ nw → k ≠ j → k < sl.length → j < sl.length → k ∉ rem.erase i → j ∉ rem.erase i → bkV (valV sl (slot a'') k) ≠ bkV (valV sl (slot a'') j) := by
   rintro a'' w'' ⟨v, rfl, hg2, hps2, hphi, hnew⟩
   have was : ∀ k, k ≠ i → k ∉ rem.erase i → k ∉ rem := fun k e hk hm => hk (hnd.mem_erase_iff.2 ⟨e, hm⟩)
   have keep : ∀ j, j ≠ i → valV sl (slot (a'.put o.dst v)) j = valV sl (slot a') j := fun j e => by
    unfold valV
    cases hj : sl[j]? with
    | none => rfl
    | some dj =>
     cases dj with
     | none => rfl
     | some d =>
      show slot (a'.put o.dst v) d = slot a' d
      exact slot_put _ (fun he => e (hinj j i d (List.getElem?_eq_some_iff.1 hj).1 hil hj (by rw [hd, he])))
   have self : o.dst ≠ none → valV sl (slot (a'.put o.dst v)) i = v := fun hn => by
    unfold valV
    rw [hd]
    cases hod : o.dst with
    | none => exact absurd hod hn
    | some d =>
     rw [hod] at hd
     exact slot_self v (by
      rw [hs]
      have := List.all_eq_true.1 hsz (some d) (List.mem_of_getElem? hd)
      simpa using this)
   have dif : ∀ k, k ∈ nw → i ∈ nw → k ≠ i → k < sl.length → k ∉ rem.erase i → bkV (valV sl (slot a') k) ≠ bkV v := fun k hk hi e hkl hr he => by
    have h1 := hnw k hk _ _ (hf k hkl (was k e hr))
    have h2 := (hnew hi).2
    omega
   refine ⟨v, rfl, R.trans hg hg2, ?_, fun k hk => hlt k (List.mem_of_mem_erase hk), fun k hkl hk j hj => ?_, fun k hkl hk => ?_, fun k hk => hps2 k (hlt k (List.mem_of_mem_erase hk)) (fun e => (hnd.mem_erase_iff.1 hk).1 e) (hdep k (List.mem_of_mem_erase hk)) (hpsi k (List.mem_of_mem_erase hk)), fun k j hkn hjn hkj hkl hjl hk hj => ?_⟩
   ·cases hod : o.dst with
    | none => exact hs
    | some d => simp [Act.put, hs]
   ·by_cases e : k = i
    ·subst e
     exact hdep j (List.mem_of_mem_erase hj)
    ·exact hdp k hkl (was k e hk) j (List.mem_of_mem_erase hj)
   ·by_cases e : k = i
    ·subst e
     exact hphi _ (fun j hj => keep j hj) self
    ·refine hcg k hkl _ _ _ (hst k _ _ _ (hf k hkl (was k e hk)) hg2) (fun j hj => (keep j (fun ej => ?_)).symm)
     subst ej
     rcases hj with rfl | hj
     ·exact e rfl
     ·have := hdp k hkl (was k e hk) j hmem
      rw [this] at hj
      cases hj
   ·by_cases e1 : k = i
    ·subst e1
     rw [self (hnew hkn).1, keep j (Ne.symm hkj)]
     exact (dif j hjn hkn (Ne.symm hkj) hjl hj).symm
    ·by_cases e2 : j = i
     ·subst e2
      rw [self (hnew hjn).1, keep k e1]
      exact dif k hkn hjn e1 hkl hk
     ·rw [keep k e1, keep j e2]
      exact hap k j hkn hjn hkj hkl hjl (was k e1 hk) (was j e2 hj)
  unfold stepOf at h ⊢
  split
  ·rename_i hw
   rw [if_pos hw] at h
   exact Oper.wp_mono next h
  ·rename_i hw
   rw [if_neg hw] at h
   exact next _ _ h
 ·rintro a' w' hag ⟨hg, hs, _, _, hf, _, hap⟩
  have he := agree_puts hag (sl.filterMap fun d => d) (by
   rw [List.all_eq_true]
   intro i hi
   have hil := List.mem_range.1 hi
   cases ho : ops[i]? with
   | none => rfl
   | some o =>
    have hd := hdst i o hil ho
    cases hod : o.dst with
    | none => simp [hod]
    | some d =>
     simp only [hod]
     rw [hod] at hd
     simpa using List.mem_of_getElem? hd)
  rw [he]
  exact hend (slot a') w' hg (fun i hi => hf i hi (by simp)) (fun i j hi hj hij hil hjl => hap i j hi hj hij hil hjl (by simp) (by simp))
/-- The same; that facts stand is shown step by step. -/
theorem wp_region_tabX {Q : Exit → Act → World → Prop} (Φ : Nat → (Nat → Value) → World → Prop) (Ψ : Nat → World → Prop) (nw : List Nat) (sl : List (Option Nat)) {id : Nat} {a : Act} {w : World} (hm : P.follows .mixedOrders = true) (hok : tabSOk ops sl = true)
  (hsz : (sl.all fun d => match d with | some d => decide (d < a.tmps.size) | none => true) = true) (h0 : ∀ i, i < sl.length → Ψ i { w with drawn := w.drawn + 1 })
  (hcg : ∀ i, i < sl.length → ∀ V V' w, Φ i V w → (∀ j, j = i ∨ ((Region.before ops).getD i 0).testBit j = true → V j = V' j) → Φ i V' w)
  (hnw : ∀ i ∈ nw, ∀ V w, Φ i V w → bkV (V i) < w.heap.size)
  (hstep : ∀ i, i < sl.length → ∀ o a' w', ops[i]? = some o → Agree ops (List.range sl.length) a a' → R.G w w' → (∀ j, ((Region.before ops).getD i 0).testBit j = true → j < sl.length → Φ j (valV sl (slot a')) w') → Ψ i w' →
   stepOf P ops o a' w' (fun a'' w'' => ∃ v, a'' = a'.put o.dst v ∧ R.G w' w'' ∧ (∀ k V, k < sl.length → k ≠ i → Φ k V w' → Φ k V w'') ∧ (∀ k, k < sl.length → k ≠ i → ((Region.before ops).getD i 0).testBit k = false → Ψ k w' → Ψ k w'') ∧ (∀ V, (∀ j, j ≠ i → V j = valV sl (slot a') j) → (o.dst ≠ none → V i = v) → Φ i V w'') ∧ (i ∈ nw → o.dst ≠ none ∧ w'.heap.size ≤ bkV v)) Q)
  (hend : ∀ (f : Nat → Value) w', R.G w w' → (∀ i, i < sl.length → Φ i (valV sl f) w') → (∀ i j, i ∈ nw → j ∈ nw → i ≠ j → i < sl.length → j < sl.length → bkV (valV sl f i) ≠ bkV (valV sl f j)) → wpList P ops Q [] (puts f (sl.filterMap fun d => d) a) w') : (Code.region id ops true).wp P Q a w := by
 simp only [tabSOk, Bool.and_eq_true] at hok
 obtain ⟨k1, k2, k3⟩ := hok
 have hdst : ∀ i o, i < sl.length → ops[i]? = some o → sl[i]? = some o.dst := fun i o hi ho => by
  have := List.all_eq_true.1 k2 i (List.mem_range.2 hi)
  rw [ho] at this
  simpa using this
 have hinj : ∀ i k d, i < sl.length → k < sl.length → sl[i]? = some (some d) → sl[k]? = some (some d) → i = k := fun i k d hi hk h1 h2 => by
  have := List.all_eq_true.1 (List.all_eq_true.1 k3 i (List.mem_range.2 hi)) k (List.mem_range.2 hk)
  rw [h1, h2] at this
  simpa using this
 refine wp_region_gen (P := P) (fun rem a' w' => R.G w w' ∧ a'.tmps.size = a.tmps.size ∧ (∀ i ∈ rem, i < sl.length) ∧ (∀ k, k < sl.length → k ∉ rem → ∀ i ∈ rem, ((Region.before ops).getD k 0).testBit i = false) ∧ (∀ i, i < sl.length → i ∉ rem → Φ i (valV sl (slot a')) w') ∧ (∀ i ∈ rem, Ψ i w') ∧
   ∀ i j, i ∈ nw → j ∈ nw → i ≠ j → i < sl.length → j < sl.length → i ∉ rem → j ∉ rem → bkV (valV sl (slot a') i) ≠ bkV (valV sl (slot a') j)) (List.range sl.length) [] hm k1
  ⟨R.drew w, rfl, fun i hi => List.mem_range.1 hi, fun k hk hn => absurd (List.mem_range.2 hk) hn, fun i hi hn => absurd (List.mem_range.2 hi) hn, fun i hi => h0 i (List.mem_range.1 hi), fun i j _ _ _ hi _ hn => absurd (List.mem_range.2 hi) hn⟩ ?_ ?_
 ·rintro rem i o a' w' hmem hnd ho hag hdep ⟨hg, hs, hlt, hdp, hf, hpsi, hap⟩
  have hil := hlt i hmem
  have hd := hdst i o hil ho
  have h := hstep i hil o a' w' ho hag hg (fun j hj hjl => hf j hjl (fun hm => by have := hdep j hm; rw [this] at hj; cases hj)) (hpsi i hmem)
  have next : ∀ a'' w'', (∃ v, a'' = a'.put o.dst v ∧ R.G w' w'' ∧ (∀ k V, k < sl.length → k ≠ i → Φ k V w' → Φ k V w'') ∧ (∀ k, k < sl.length → k ≠ i → ((Region.before ops).getD i 0).testBit k = false → Ψ k w' → Ψ k w'') ∧ (∀ V, (∀ j, j ≠ i → V j = valV sl (slot a') j) → (o.dst ≠ none → V i = v) → Φ i V w'') ∧ (i ∈ nw → o.dst ≠ none ∧ w'.heap.size ≤ bkV v)) →
    ∃ v, a'' = a'.put o.dst v ∧ R.G w w'' ∧ a''.tmps.size = a.tmps.size ∧ (∀ k ∈ rem.erase i, k < sl.length) ∧ (∀ k, k < sl.length → k ∉ rem.erase i → ∀ j ∈ rem.erase i, ((Region.before ops).getD k 0).testBit j = false) ∧ (∀ k, k < sl.length → k ∉ rem.erase i → Φ k (valV sl (slot a'')) w'') ∧ (∀ k ∈ rem.erase i, Ψ k w'') ∧
    ∀ k j, k ∈ nw → j ∈ nw → k ≠ j → k < sl.length → j < sl.length → k ∉ rem.erase i → j ∉ rem.erase i → bkV (valV sl (slot a'') k) ≠ bkV (valV sl (slot a'') j) := by
   rintro a'' w'' ⟨v, rfl, hg2, hkp, hps2, hphi, hnew⟩
   have was : ∀ k, k ≠ i → k ∉ rem.erase i → k ∉ rem := fun k e hk hm => hk (hnd.mem_erase_iff.2 ⟨e, hm⟩)
   have keep : ∀ j, j ≠ i → valV sl (slot (a'.put o.dst v)) j = valV sl (slot a') j := fun j e => by
    unfold valV
    cases hj : sl[j]? with
    | none => rfl
    | some dj =>
     cases dj with
     | none => rfl
     | some d =>
      show slot (a'.put o.dst v) d = slot a' d
      exact slot_put _ (fun he => e (hinj j i d (List.getElem?_eq_some_iff.1 hj).1 hil hj (by rw [hd, he])))
   have self : o.dst ≠ none → valV sl (slot (a'.put o.dst v)) i = v := fun hn => by
    unfold valV
    rw [hd]
    cases hod : o.dst with
    | none => exact absurd hod hn
    | some d =>
     rw [hod] at hd
     exact slot_self v (by
      rw [hs]
      have := List.all_eq_true.1 hsz (some d) (List.mem_of_getElem? hd)
      simpa using this)
   have dif : ∀ k, k ∈ nw → i ∈ nw → k ≠ i → k < sl.length → k ∉ rem.erase i → bkV (valV sl (slot a') k) ≠ bkV v := fun k hk hi e hkl hr he => by
    have h1 := hnw k hk _ _ (hf k hkl (was k e hr))
    have h2 := (hnew hi).2
    omega
   refine ⟨v, rfl, R.trans hg hg2, ?_, fun k hk => hlt k (List.mem_of_mem_erase hk), fun k hkl hk j hj => ?_, fun k hkl hk => ?_, fun k hk => hps2 k (hlt k (List.mem_of_mem_erase hk)) (fun e => (hnd.mem_erase_iff.1 hk).1 e) (hdep k (List.mem_of_mem_erase hk)) (hpsi k (List.mem_of_mem_erase hk)), fun k j hkn hjn hkj hkl hjl hk hj => ?_⟩
   ·cases hod : o.dst with
    | none => exact hs
    | some d => simp [Act.put, hs]
   ·by_cases e : k = i
    ·subst e
     exact hdep j (List.mem_of_mem_erase hj)
    ·exact hdp k hkl (was k e hk) j (List.mem_of_mem_erase hj)
   ·by_cases e : k = i
    ·subst e
     exact hphi _ (fun j hj => keep j hj) self
    ·refine hcg k hkl _ _ _ (hkp k _ hkl e (hf k hkl (was k e hk))) (fun j hj => (keep j (fun ej => ?_)).symm)
     subst ej
     rcases hj with rfl | hj
     ·exact e rfl
     ·have := hdp k hkl (was k e hk) j hmem
      rw [this] at hj
      cases hj
   ·by_cases e1 : k = i
    ·subst e1
     rw [self (hnew hkn).1, keep j (Ne.symm hkj)]
     exact (dif j hjn hkn (Ne.symm hkj) hjl hj).symm
    ·by_cases e2 : j = i
     ·subst e2
      rw [self (hnew hjn).1, keep k e1]
      exact dif k hkn hjn e1 hkl hk
     ·rw [keep k e1, keep j e2]
      exact hap k j hkn hjn hkj hkl hjl (was k e1 hk) (was j e2 hj)
  unfold stepOf at h ⊢
  split
  ·rename_i hw
   rw [if_pos hw] at h
   exact Oper.wp_mono next h
  ·rename_i hw
   rw [if_neg hw] at h
   exact next _ _ h
 ·rintro a' w' hag ⟨hg, hs, _, _, hf, _, hap⟩
  have he := agree_puts hag (sl.filterMap fun d => d) (by
   rw [List.all_eq_true]
   intro i hi
   have hil := List.mem_range.1 hi
   cases ho : ops[i]? with
   | none => rfl
   | some o =>
    have hd := hdst i o hil ho
    cases hod : o.dst with
    | none => simp [hod]
    | some d =>
     simp only [hod]
     rw [hod] at hd
     simpa using List.mem_of_getElem? hd)
  rw [he]
  exact hend (slot a') w' hg (fun i hi => hf i hi (by simp)) (fun i j hi hj hij hil hjl => hap i j hi hj hij hil hjl (by simp) (by simp))
/-- One step: a value. -/
theorem tabW_val {o : Oper} {a : Act} {w : World} {i : Nat} {nw : List Nat} {Φ : (Nat → Value) → World → Prop} {X : (Nat → Value) → Prop} {K : World → Prop} {Q : Exit → Act → World → Prop} (hg : o.guard = none) (hd : o.dst ≠ none)
  (h : ∃ v w', (execOp a.eval o).run P w = .ok (.value v) w' ∧ R.G w w' ∧ K w' ∧ (∀ V, X V → V i = v → Φ V w') ∧ (i ∈ nw → w.heap.size ≤ bkV v)) :
  stepOf P ops o a w (fun a'' w'' => ∃ v, a'' = a.put o.dst v ∧ R.G w w'' ∧ K w'' ∧ (∀ V, X V → (o.dst ≠ none → V i = v) → Φ V w'') ∧ (i ∈ nw → o.dst ≠ none ∧ w.heap.size ≤ bkV v)) Q := by
 obtain ⟨v, w', h1, h2, h5, h3, h4⟩ := h
 unfold stepOf Oper.wp
 rw [if_pos (by unfold Region.wanted; rw [hg]), h1]
 exact ⟨v, rfl, h2, h5, fun V hV hv => h3 V hV (hv hd), fun hi => ⟨hd, h4 hi⟩⟩
/-- One step: a store. -/
theorem tabW_store {o : Oper} {a : Act} {w : World} {i : Nat} {nw : List Nat} {Φ : (Nat → Value) → World → Prop} {X : (Nat → Value) → Prop} {K : World → Prop} {Q : Exit → Act → World → Prop} (hg : o.guard = none) (hd : o.dst = none) (hi : i ∉ nw)
  (h : ∃ w', (execOp a.eval o).run P w = .ok .skip w' ∧ R.G w w' ∧ K w' ∧ (∀ V, X V → Φ V w')) :
  stepOf P ops o a w (fun a'' w'' => ∃ v, a'' = a.put o.dst v ∧ R.G w w'' ∧ K w'' ∧ (∀ V, X V → (o.dst ≠ none → V i = v) → Φ V w'') ∧ (i ∈ nw → o.dst ≠ none ∧ w.heap.size ≤ bkV v)) Q := by
 obtain ⟨w', h1, h2, h5, h3⟩ := h
 unfold stepOf Oper.wp
 rw [if_pos (by unfold Region.wanted; rw [hg]), h1]
 exact ⟨undef, by rw [hd], h2, h5, fun V hV _ => h3 V hV, fun h => absurd h hi⟩
theorem tabX_val {o : Oper} {a : Act} {w : World} {i : Nat} {nw : List Nat} {Φ : (Nat → Value) → World → Prop} {X : (Nat → Value) → Prop} {L K : World → Prop} {Q : Exit → Act → World → Prop} (hg : o.guard = none) (hd : o.dst ≠ none)
  (h : ∃ v w', (execOp a.eval o).run P w = .ok (.value v) w' ∧ R.G w w' ∧ L w' ∧ K w' ∧ (∀ V, X V → V i = v → Φ V w') ∧ (i ∈ nw → w.heap.size ≤ bkV v)) :
  stepOf P ops o a w (fun a'' w'' => ∃ v, a'' = a.put o.dst v ∧ R.G w w'' ∧ L w'' ∧ K w'' ∧ (∀ V, X V → (o.dst ≠ none → V i = v) → Φ V w'') ∧ (i ∈ nw → o.dst ≠ none ∧ w.heap.size ≤ bkV v)) Q := by
 obtain ⟨v, w', h1, h2, h6, h5, h3, h4⟩ := h
 unfold stepOf Oper.wp
 rw [if_pos (by unfold Region.wanted; rw [hg]), h1]
 exact ⟨v, rfl, h2, h6, h5, fun V hV hv => h3 V hV (hv hd), fun hi => ⟨hd, h4 hi⟩⟩
theorem tabX_store {o : Oper} {a : Act} {w : World} {i : Nat} {nw : List Nat} {Φ : (Nat → Value) → World → Prop} {X : (Nat → Value) → Prop} {L K : World → Prop} {Q : Exit → Act → World → Prop} (hg : o.guard = none) (hd : o.dst = none) (hi : i ∉ nw)
  (h : ∃ w', (execOp a.eval o).run P w = .ok .skip w' ∧ R.G w w' ∧ L w' ∧ K w' ∧ (∀ V, X V → Φ V w')) :
  stepOf P ops o a w (fun a'' w'' => ∃ v, a'' = a.put o.dst v ∧ R.G w w'' ∧ L w'' ∧ K w'' ∧ (∀ V, X V → (o.dst ≠ none → V i = v) → Φ V w'') ∧ (i ∈ nw → o.dst ≠ none ∧ w.heap.size ≤ bkV v)) Q := by
 obtain ⟨w', h1, h2, h6, h5, h3⟩ := h
 unfold stepOf Oper.wp
 rw [if_pos (by unfold Region.wanted; rw [hg]), h1]
 exact ⟨undef, by rw [hd], h2, h6, h5, fun V hV _ => h3 V hV, fun h => absurd h hi⟩
end
/-- Keeps a family of facts (each of which stands while the heap only grows), and all blocks of the base. -/
def FR (b0 : Nat) (T : (World → Prop) → Prop) (hT : ∀ p, T p → ∀ w w', Below w.heap.size w w' → p w → p w') : Rel where
 G w w' := (Below b0 w w' ∧ w.heap.size ≤ w'.heap.size) ∧ ∀ p, T p → p w → p w'
 refl _ := ⟨⟨Below.refl _ _, Nat.le_refl _⟩, fun _ _ h => h⟩
 trans h k := ⟨⟨h.1.1.trans k.1.1, Nat.le_trans h.1.2 k.1.2⟩, fun p hp x => k.2 p hp (h.2 p hp x)⟩
 drew w := ⟨⟨Below.drew (Below.refl _ _), Nat.le_refl _⟩, fun p hp x => hT p hp w _ (Below.drew (Below.refl _ _)) x⟩
theorem FR.below {b0 : Nat} {T : (World → Prop) → Prop} {hT : ∀ p, T p → ∀ w w', Below w.heap.size w w' → p w → p w'} {w w' : World} (hB : b0 ≤ w.heap.size) (h : Below w.heap.size w w') : (FR b0 T hT).G w w' := ⟨⟨h.mono hB, h.size⟩, fun p hp x => hT p hp w w' h x⟩
end Go.HavG
