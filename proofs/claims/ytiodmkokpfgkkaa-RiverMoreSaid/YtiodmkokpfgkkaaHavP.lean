/- The table rule with a fact of what is left to be done, and with rows that are lengthened, by blocks that are known apart; a guarded operation of which it is not known whether it is carried out. Condition: the closed check 'tabSOk' on the region. The table rule, where that facts stand is shown for the slots as they are, and new blocks are known apart in each step. Condition: the closed check 'tabSOk' on the region. -/
import Derived.Test.YtiodmkokpfgkkaaHavV0
import Derived.Test.YtiodmkokpfgkkaaHavoc
namespace Go.HavG
open Go.RowKit
section
variable {R : Rel} {P : Program} {ops : Array Oper}
theorem wp_region_tabY {Q : Exit → Act → World → Prop} (Φ : Nat → (Nat → Value) → World → Prop) (Ψ : Nat → World → Prop) (J : List Nat → Act → World → Prop) (Old : Nat → Nat → Prop) (nw : List Nat) (sl : List (Option Nat)) {id : Nat} {a : Act} {w : World} (hm : P.follows .mixedOrders = true) (hok : tabSOk ops sl = true)
  (hsz : (sl.all fun d => match d with | some d => decide (d < a.tmps.size) | none => true) = true) (h0 : ∀ i, i < sl.length → Ψ i { w with drawn := w.drawn + 1 }) (hJ : J (List.range sl.length) a { w with drawn := w.drawn + 1 }) (hold : ∀ i b, Old i b → b < w.heap.size) (hdis : ∀ i j b, i ≠ j → Old i b → ¬ Old j b) (hG : ∀ {u u' : World}, R.G u u' → u.heap.size ≤ u'.heap.size)
  (hcg : ∀ i, i < sl.length → ∀ V V' w, Φ i V w → (∀ j, j = i ∨ ((Region.before ops).getD i 0).testBit j = true → V j = V' j) → Φ i V' w)
  (hnw : ∀ i ∈ nw, ∀ V w, Φ i V w → bkV (V i) < w.heap.size)
  (hstep : ∀ i, i < sl.length → ∀ o a' w', ops[i]? = some o → Agree ops (List.range sl.length) a a' → R.G w w' → (∀ j, ((Region.before ops).getD i 0).testBit j = true → j < sl.length → Φ j (valV sl (slot a')) w') → Ψ i w' → (∀ d, ((List.range sl.length).all fun k => !(sl[k]? == some (some d)) || ((Region.before ops).getD k 0).testBit i) = true → slot a' d = slot a d) → ∀ rem : List Nat, i ∈ rem → rem.Nodup → J rem a' w' →
   stepOf P ops o a' w' (fun a'' w'' => ∃ v, a'' = a'.put o.dst v ∧ (R.G w' w'' ∧ J (rem.erase i) (a'.put o.dst v) w'') ∧ (∀ k V, k < sl.length → k ≠ i → ((Region.before ops).getD k 0).testBit i = false → Φ k V w' → Φ k V w'') ∧ (∀ k, k < sl.length → k ≠ i → ((Region.before ops).getD i 0).testBit k = false → Ψ k w' → Ψ k w'') ∧ (∀ V, (∀ j, j ≠ i → V j = valV sl (slot a') j) → (o.dst ≠ none → V i = v) → Φ i V w'') ∧ (i ∈ nw → o.dst ≠ none ∧ (w'.heap.size ≤ bkV v ∨ Old i (bkV v)))) Q)
  (hend : ∀ (f : Nat → Value) w', R.G w w' → J [] (puts f (sl.filterMap fun d => d) a) w' → (∀ i, i < sl.length → Φ i (valV sl f) w') → (∀ i j, i ∈ nw → j ∈ nw → i ≠ j → i < sl.length → j < sl.length → bkV (valV sl f i) ≠ bkV (valV sl f j)) → wpList P ops Q [] (puts f (sl.filterMap fun d => d) a) w') : (Code.region id ops true).wp P Q a w := by
 simp only [tabSOk, Bool.and_eq_true] at hok
 obtain ⟨k1, k2, k3⟩ := hok
 have hdst : ∀ i o, i < sl.length → ops[i]? = some o → sl[i]? = some o.dst := fun i o hi ho => by
  have := List.all_eq_true.1 k2 i (List.mem_range.2 hi)
  rw [ho] at this
  simpa using this
 have hinj : ∀ i k d, i < sl.length → k < sl.length → sl[i]? = some (some d) → sl[k]? = some (some d) → i = k := fun i k d hi hk h1 h2 => by
  have := List.all_eq_true.1 (List.all_eq_true.1 k3 i (List.mem_range.2 hi)) k (List.mem_range.2 hk)
  rw [h1, h2] at this
  simpa using this
 refine wp_region_gen (P := P) (fun rem a' w' => R.G w w' ∧ a'.tmps.size = a.tmps.size ∧ (∀ i ∈ rem, i < sl.length) ∧ (∀ k, k < sl.length → k ∉ rem → ∀ i ∈ rem, ((Region.before ops).getD k 0).testBit i = false) ∧ (∀ i, i < sl.length → i ∉ rem → Φ i (valV sl (slot a')) w') ∧ (∀ i ∈ rem, Ψ i w') ∧ (∀ d, (∀ k, k < sl.length → sl[k]? = some (some d) → k ∈ rem) → slot a' d = slot a d) ∧ J rem a' w' ∧ (∀ i ∈ nw, i < sl.length → i ∉ rem → w.heap.size ≤ bkV (valV sl (slot a') i) ∨ Old i (bkV (valV sl (slot a') i))) ∧
   ∀ i j, i ∈ nw → j ∈ nw → i ≠ j → i < sl.length → j < sl.length → i ∉ rem → j ∉ rem → bkV (valV sl (slot a') i) ≠ bkV (valV sl (slot a') j)) (List.range sl.length) [] hm k1
  ⟨R.drew w, rfl, fun i hi => List.mem_range.1 hi, fun k hk hn => absurd (List.mem_range.2 hk) hn, fun i hi hn => absurd (List.mem_range.2 hi) hn, fun i hi => h0 i (List.mem_range.1 hi), fun _ _ => rfl, hJ, fun i _ hi hn => absurd (List.mem_range.2 hi) hn, fun i j _ _ _ hi _ hn => absurd (List.mem_range.2 hi) hn⟩ ?_ ?_
 ·rintro rem i o a' w' hmem hnd ho hag hdep ⟨hg, hs, hlt, hdp, hf, hpsi, hsl, hj, hno, hap⟩
  have hil := hlt i hmem
  have hd := hdst i o hil ho
  have h := hstep i hil o a' w' ho hag hg (fun j hj hjl => hf j hjl (fun hm => by have := hdep j hm; rw [this] at hj; cases hj)) (hpsi i hmem) (fun d hd => hsl d fun k hk hkd => by
   have h1 := List.all_eq_true.1 hd k (List.mem_range.2 hk)
   rw [hkd] at h1
   apply Classical.byContradiction
   intro hn
   have h2 := hdp k hk hn i hmem
   rw [h2] at h1
   simp at h1) rem hmem hnd hj
  have next : ∀ a'' w'', (∃ v, a'' = a'.put o.dst v ∧ (R.G w' w'' ∧ J (rem.erase i) (a'.put o.dst v) w'') ∧ (∀ k V, k < sl.length → k ≠ i → ((Region.before ops).getD k 0).testBit i = false → Φ k V w' → Φ k V w'') ∧ (∀ k, k < sl.length → k ≠ i → ((Region.before ops).getD i 0).testBit k = false → Ψ k w' → Ψ k w'') ∧ (∀ V, (∀ j, j ≠ i → V j = valV sl (slot a') j) → (o.dst ≠ none → V i = v) → Φ i V w'') ∧ (i ∈ nw → o.dst ≠ none ∧ (w'.heap.size ≤ bkV v ∨ Old i (bkV v)))) →
    ∃ v, a'' = a'.put o.dst v ∧ R.G w w'' ∧ a''.tmps.size = a.tmps.size ∧ (∀ k ∈ rem.erase i, k < sl.length) ∧ (∀ k, k < sl.length → k ∉ rem.erase i → ∀ j ∈ rem.erase i, ((Region.before ops).getD k 0).testBit j = false) ∧ (∀ k, k < sl.length → k ∉ rem.erase i → Φ k (valV sl (slot a'')) w'') ∧ (∀ k ∈ rem.erase i, Ψ k w'') ∧ (∀ d, (∀ k, k < sl.length → sl[k]? = some (some d) → k ∈ rem.erase i) → slot a'' d = slot a d) ∧ J (rem.erase i) a'' w'' ∧ (∀ k ∈ nw, k < sl.length → k ∉ rem.erase i → w.heap.size ≤ bkV (valV sl (slot a'') k) ∨ Old k (bkV (valV sl (slot a'') k))) ∧
    ∀ k j, k ∈ nw → j ∈ nw → k ≠ j → k < sl.length → j < sl.length → k ∉ rem.erase i → j ∉ rem.erase i → bkV (valV sl (slot a'') k) ≠ bkV (valV sl (slot a'') j) := by
   rintro a'' w'' ⟨v, rfl, ⟨hg2, hj2⟩, hkp, hps2, hphi, hnew⟩
   have was : ∀ k, k ≠ i → k ∉ rem.erase i → k ∉ rem := fun k e hk hm => hk (hnd.mem_erase_iff.2 ⟨e, hm⟩)
   have keep : ∀ j, j ≠ i → valV sl (slot (a'.put o.dst v)) j = valV sl (slot a') j := fun j e => by
    unfold valV
    cases hj : sl[j]? with
    | none => rfl
    | some dj =>
     cases dj with
     | none => rfl
     | some d =>
      show slot (a'.put o.dst v) d = slot a' d
      exact slot_put _ (fun he => e (hinj j i d (List.getElem?_eq_some_iff.1 hj).1 hil hj (by rw [hd, he])))
   have self : o.dst ≠ none → valV sl (slot (a'.put o.dst v)) i = v := fun hn => by
    unfold valV
    rw [hd]
    cases hod : o.dst with
    | none => exact absurd hod hn
    | some d =>
     rw [hod] at hd
     exact slot_self v (by
      rw [hs]
      have := List.all_eq_true.1 hsz (some d) (List.mem_of_getElem? hd)
      simpa using this)
   have dif : ∀ k, k ∈ nw → i ∈ nw → k ≠ i → k < sl.length → k ∉ rem.erase i → bkV (valV sl (slot a') k) ≠ bkV v := fun k hk hi e hkl hr he => by
    have h1 := hnw k hk _ _ (hf k hkl (was k e hr))
    rcases (hnew hi).2 with h2 | h2
    ·omega
    ·rcases hno k hk hkl (was k e hr) with h3 | h3
     ·have := hold _ _ h2; omega
     ·exact hdis k i _ e h3 (by rw [he]; exact h2)
   refine ⟨v, rfl, R.trans hg hg2, ?_, fun k hk => hlt k (List.mem_of_mem_erase hk), fun k hkl hk j hj => ?_, fun k hkl hk => ?_, fun k hk => hps2 k (hlt k (List.mem_of_mem_erase hk)) (fun e => (hnd.mem_erase_iff.1 hk).1 e) (hdep k (List.mem_of_mem_erase hk)) (hpsi k (List.mem_of_mem_erase hk)), fun d hdd => ?_, hj2, fun k hkn hkl hk => ?_, fun k j hkn hjn hkj hkl hjl hk hj => ?_⟩
   ·cases hod : o.dst with
    | none => exact hs
    | some d => simp [Act.put, hs]
   ·by_cases e : k = i
    ·subst e
     exact hdep j (List.mem_of_mem_erase hj)
    ·exact hdp k hkl (was k e hk) j (List.mem_of_mem_erase hj)
   ·by_cases e : k = i
    ·subst e
     exact hphi _ (fun j hj => keep j hj) self
    ·refine hcg k hkl _ _ _ (hkp k _ hkl e (hdp k hkl (was k e hk) i hmem) (hf k hkl (was k e hk))) (fun j hj => (keep j (fun ej => ?_)).symm)
     subst ej
     rcases hj with rfl | hj
     ·exact e rfl
     ·have := hdp k hkl (was k e hk) j hmem
      rw [this] at hj
      cases hj
   ·rw [slot_put _ (fun e => (hnd.mem_erase_iff.1 (hdd i hil (by rw [hd, e]))).1 rfl)]
    exact hsl d (fun k hk hkd => List.mem_of_mem_erase (hdd k hk hkd))
   ·by_cases e : k = i
    ·subst e
     rw [self (hnew hkn).1]
     exact (hnew hkn).2.imp (fun h => Nat.le_trans (hG hg) h) (fun h => h)
    ·rw [keep k e]
     exact hno k hkn hkl (was k e hk)
   ·by_cases e1 : k = i
    ·subst e1
     rw [self (hnew hkn).1, keep j (Ne.symm hkj)]
     exact (dif j hjn hkn (Ne.symm hkj) hjl hj).symm
    ·by_cases e2 : j = i
     ·subst e2
      rw [self (hnew hjn).1, keep k e1]
      exact dif k hkn hjn e1 hkl hk
     ·rw [keep k e1, keep j e2]
      exact hap k j hkn hjn hkj hkl hjl (was k e1 hk) (was j e2 hj)
  unfold stepOf at h ⊢
  split
  ·rename_i hw
   rw [if_pos hw] at h
   exact Oper.wp_mono next h
  ·rename_i hw
   rw [if_neg hw] at h
   exact next _ _ h
 ·rintro a' w' hag ⟨hg, hs, _, _, hf, _, _, hj, _, hap⟩
  have he := agree_puts hag (sl.filterMap fun d => d) (by
   rw [List.all_eq_true]
   intro i hi
   have hil := List.mem_range.1 hi
   cases ho : ops[i]? with
   | none => rfl
   | some o =>
    have hd := hdst i o hil ho
    cases hod : o.dst with
    | none => simp [hod]
    | some d =>
     simp only [hod]
     rw [hod] at hd
     simpa using List.mem_of_getElem? hd)
  rw [he]
  exact hend (slot a') w' hg (by rw [← he]; exact hj) (fun i hi => hf i hi (by simp)) (fun i j hi hj hij hil hjl => hap i j hi hj hij hil hjl (by simp) (by simp))
theorem tabY_val {o : Oper} {a : Act} {w : World} {i : Nat} {nw : List Nat} {Φ : (Nat → Value) → World → Prop} {X : (Nat → Value) → Prop} {G : Value → World → Prop} {L K : World → Prop} {B : Value → Prop} {Q : Exit → Act → World → Prop} (hg : o.guard = none) (hd : o.dst ≠ none)
  (h : ∃ v w', (execOp a.eval o).run P w = .ok (.value v) w' ∧ G v w' ∧ L w' ∧ K w' ∧ (∀ V, X V → V i = v → Φ V w') ∧ (i ∈ nw → B v)) :
  stepOf P ops o a w (fun a'' w'' => ∃ v, a'' = a.put o.dst v ∧ G v w'' ∧ L w'' ∧ K w'' ∧ (∀ V, X V → (o.dst ≠ none → V i = v) → Φ V w'') ∧ (i ∈ nw → o.dst ≠ none ∧ B v)) Q := by
 obtain ⟨v, w', h1, h2, h6, h5, h3, h4⟩ := h
 unfold stepOf Oper.wp
 rw [if_pos (by unfold Region.wanted; rw [hg]), h1]
 exact ⟨v, rfl, h2, h6, h5, fun V hV hv => h3 V hV (hv hd), fun hi => ⟨hd, h4 hi⟩⟩
theorem tabY_store {o : Oper} {a : Act} {w : World} {i : Nat} {nw : List Nat} {Φ : (Nat → Value) → World → Prop} {X : (Nat → Value) → Prop} {G : Value → World → Prop} {L K : World → Prop} {B : Value → Prop} {Q : Exit → Act → World → Prop} (hg : o.guard = none) (hd : o.dst = none) (hi : i ∉ nw)
  (h : ∃ w', (execOp a.eval o).run P w = .ok .skip w' ∧ G undef w' ∧ L w' ∧ K w' ∧ (∀ V, X V → Φ V w')) :
  stepOf P ops o a w (fun a'' w'' => ∃ v, a'' = a.put o.dst v ∧ G v w'' ∧ L w'' ∧ K w'' ∧ (∀ V, X V → (o.dst ≠ none → V i = v) → Φ V w'') ∧ (i ∈ nw → o.dst ≠ none ∧ B v)) Q := by
 obtain ⟨w', h1, h2, h6, h5, h3⟩ := h
 unfold stepOf Oper.wp
 rw [if_pos (by unfold Region.wanted; rw [hg]), h1]
 exact ⟨undef, by rw [hd], h2, h6, h5, fun V hV _ => h3 V hV, fun h => absurd h hi⟩
/-- One step: a call. -/
theorem tabY_call {o : Oper} {a : Act} {w : World} {i : Nat} {nw : List Nat} {Φ : (Nat → Value) → World → Prop} {X : (Nat → Value) → Prop} {G : Value → World → Prop} {L K : World → Prop} {B : Value → Prop} {Q : Exit → Act → World → Prop} (hg : o.guard = none) (hd : o.dst ≠ none) {f : FuncId} {args : Array Value} (hx : (execOp a.eval o).run P w = .ok (.enter f args) w)
  (h : Calls P f args w fun e w' => ∃ v, e = .returned v ∧ G v w' ∧ L w' ∧ K w' ∧ (∀ V, X V → V i = v → Φ V w') ∧ (i ∈ nw → B v)) :
  stepOf P ops o a w (fun a'' w'' => ∃ v, a'' = a.put o.dst v ∧ G v w'' ∧ L w'' ∧ K w'' ∧ (∀ V, X V → (o.dst ≠ none → V i = v) → Φ V w'') ∧ (i ∈ nw → o.dst ≠ none ∧ B v)) Q := by
 unfold stepOf Oper.wp
 rw [if_pos (by unfold Region.wanted; rw [hg]), hx]
 simp only [Oper.upon]
 refine h.mono ?_
 rintro e w' ⟨v, rfl, h2, h6, h5, h3, h4⟩
 exact ⟨v, rfl, h2, h6, h5, fun V hV hv => h3 V hV (hv hd), fun hi => ⟨hd, h4 hi⟩⟩
end
end Go.HavG
namespace Go.Hav
open Go.RowKit
/-- A guarded operation that is carried out or not. -/
theorem hav_either {P : Program} {ops : Array Oper} {Qp : List PanicEntry → World → Prop} {w0 : World} {Cont : Act → (World → Prop) → Prop} {i : Nat} {rest : List (Nat × Bool)} {a : Act} {F : World → Prop} {o : Oper} {V : Value} (b : Bool) (ho : ops[i]? = some o)
  (hw : Region.wanted o (yielded ops a.tmps) = b) (h1 : b = true → ∀ w, Grow w0 w → F w → (execOp a.eval o).run P w = .ok (.value V) w)
  (h2 : wpHav P ops Qp w0 Cont rest (a.put o.dst (cond b V undef)) F) : wpHav P ops Qp w0 Cont ((i, false) :: rest) a F := by
 cases b
 ·exact hav_skip ho hw h2
 ·exact hav_same ho hw (h1 rfl) h2
end Go.Hav
namespace Go.HavG
open Go.RowKit
section
variable {R : Rel} {P : Program} {ops : Array Oper}
theorem wp_region_tabZ {Q : Exit → Act → World → Prop} (Φ : Nat → (Nat → Value) → World → Prop) (Ψ : Nat → World → Prop) (J : List Nat → Act → World → Prop) (Old : Nat → Nat → Prop) (nw : List Nat) (sl : List (Option Nat)) {id : Nat} {a : Act} {w : World} (hm : P.follows .mixedOrders = true) (hok : tabSOk ops sl = true)
  (hsz : (sl.all fun d => match d with | some d => decide (d < a.tmps.size) | none => true) = true) (h0 : ∀ i, i < sl.length → Ψ i { w with drawn := w.drawn + 1 }) (hJ : J (List.range sl.length) a { w with drawn := w.drawn + 1 }) (hold : ∀ i b, Old i b → b < w.heap.size) (hdis : ∀ i j b, i ≠ j → Old i b → ¬ Old j b) (hG : ∀ {u u' : World}, R.G u u' → u.heap.size ≤ u'.heap.size)
  (hcg : ∀ i, i < sl.length → ∀ V V' w, Φ i V w → (∀ j, j = i ∨ ((Region.before ops).getD i 0).testBit j = true → V j = V' j) → Φ i V' w)
  (hnw : ∀ i ∈ nw, ∀ V w, Φ i V w → bkV (V i) < w.heap.size)
  (hstep : ∀ i, i < sl.length → ∀ o a' w', ops[i]? = some o → Agree ops (List.range sl.length) a a' → R.G w w' → (∀ j, ((Region.before ops).getD i 0).testBit j = true → j < sl.length → Φ j (valV sl (slot a')) w') → (∀ j k, j ∈ nw → k ∈ nw → j ≠ k → j < sl.length → k < sl.length → ((Region.before ops).getD i 0).testBit j = true → ((Region.before ops).getD i 0).testBit k = true → bkV (valV sl (slot a') j) ≠ bkV (valV sl (slot a') k)) → Ψ i w' → (∀ d, ((List.range sl.length).all fun k => !(sl[k]? == some (some d)) || ((Region.before ops).getD k 0).testBit i) = true → slot a' d = slot a d) → ∀ rem : List Nat, i ∈ rem → rem.Nodup → J rem a' w' →
   stepOf P ops o a' w' (fun a'' w'' => ∃ v, a'' = a'.put o.dst v ∧ (R.G w' w'' ∧ J (rem.erase i) (a'.put o.dst v) w'') ∧ (∀ k V, V = valV sl (slot a') → k < sl.length → k ≠ i → ((Region.before ops).getD k 0).testBit i = false → Φ k V w' → Φ k V w'') ∧ (∀ k, k < sl.length → k ≠ i → ((Region.before ops).getD i 0).testBit k = false → Ψ k w' → Ψ k w'') ∧ (∀ V, (∀ j, j ≠ i → V j = valV sl (slot a') j) → (o.dst ≠ none → V i = v) → Φ i V w'') ∧ (i ∈ nw → o.dst ≠ none ∧ (w'.heap.size ≤ bkV v ∨ Old i (bkV v)))) Q)
  (hend : ∀ (f : Nat → Value) w', R.G w w' → J [] (puts f (sl.filterMap fun d => d) a) w' → (∀ i, i < sl.length → Φ i (valV sl f) w') → (∀ i j, i ∈ nw → j ∈ nw → i ≠ j → i < sl.length → j < sl.length → bkV (valV sl f i) ≠ bkV (valV sl f j)) → wpList P ops Q [] (puts f (sl.filterMap fun d => d) a) w') : (Code.region id ops true).wp P Q a w := by
 simp only [tabSOk, Bool.and_eq_true] at hok
 obtain ⟨k1, k2, k3⟩ := hok
 have hdst : ∀ i o, i < sl.length → ops[i]? = some o → sl[i]? = some o.dst := fun i o hi ho => by
  have := List.all_eq_true.1 k2 i (List.mem_range.2 hi)
  rw [ho] at this
  simpa using this
 have hinj : ∀ i k d, i < sl.length → k < sl.length → sl[i]? = some (some d) → sl[k]? = some (some d) → i = k := fun i k d hi hk h1 h2 => by
  have := List.all_eq_true.1 (List.all_eq_true.1 k3 i (List.mem_range.2 hi)) k (List.mem_range.2 hk)
  rw [h1, h2] at this
  simpa using this
 refine wp_region_gen (P := P) (fun rem a' w' => R.G w w' ∧ a'.tmps.size = a.tmps.size ∧ (∀ i ∈ rem, i < sl.length) ∧ (∀ k, k < sl.length → k ∉ rem → ∀ i ∈ rem, ((Region.before ops).getD k 0).testBit i = false) ∧ (∀ i, i < sl.length → i ∉ rem → Φ i (valV sl (slot a')) w') ∧ (∀ i ∈ rem, Ψ i w') ∧ (∀ d, (∀ k, k < sl.length → sl[k]? = some (some d) → k ∈ rem) → slot a' d = slot a d) ∧ J rem a' w' ∧ (∀ i ∈ nw, i < sl.length → i ∉ rem → w.heap.size ≤ bkV (valV sl (slot a') i) ∨ Old i (bkV (valV sl (slot a') i))) ∧
   ∀ i j, i ∈ nw → j ∈ nw → i ≠ j → i < sl.length → j < sl.length → i ∉ rem → j ∉ rem → bkV (valV sl (slot a') i) ≠ bkV (valV sl (slot a') j)) (List.range sl.length) [] hm k1
  ⟨R.drew w, rfl, fun i hi => List.mem_range.1 hi, fun k hk hn => absurd (List.mem_range.2 hk) hn, fun i hi hn => absurd (List.mem_range.2 hi) hn, fun i hi => h0 i (List.mem_range.1 hi), fun _ _ => rfl, hJ, fun i _ hi hn => absurd (List.mem_range.2 hi) hn, fun i j _ _ _ hi _ hn => absurd (List.mem_range.2 hi) hn⟩ ?_ ?_
 ·rintro rem i o a' w' hmem hnd ho hag hdep ⟨hg, hs, hlt, hdp, hf, hpsi, hsl, hj, hno, hap⟩
  have hil := hlt i hmem
  have hd := hdst i o hil ho
  have h := hstep i hil o a' w' ho hag hg (fun j hj hjl => hf j hjl (fun hm => by have := hdep j hm; rw [this] at hj; cases hj)) (fun j k hj hk hjk hjl hkl bj bk => hap j k hj hk hjk hjl hkl (fun hm => by have := hdep j hm; rw [this] at bj; cases bj) (fun hm => by have := hdep k hm; rw [this] at bk; cases bk)) (hpsi i hmem) (fun d hd => hsl d fun k hk hkd => by
   have h1 := List.all_eq_true.1 hd k (List.mem_range.2 hk)
   rw [hkd] at h1
   apply Classical.byContradiction
   intro hn
   have h2 := hdp k hk hn i hmem
   rw [h2] at h1
   simp at h1) rem hmem hnd hj
  have next : ∀ a'' w'', (∃ v, a'' = a'.put o.dst v ∧ (R.G w' w'' ∧ J (rem.erase i) (a'.put o.dst v) w'') ∧ (∀ k V, V = valV sl (slot a') → k < sl.length → k ≠ i → ((Region.before ops).getD k 0).testBit i = false → Φ k V w' → Φ k V w'') ∧ (∀ k, k < sl.length → k ≠ i → ((Region.before ops).getD i 0).testBit k = false → Ψ k w' → Ψ k w'') ∧ (∀ V, (∀ j, j ≠ i → V j = valV sl (slot a') j) → (o.dst ≠ none → V i = v) → Φ i V w'') ∧ (i ∈ nw → o.dst ≠ none ∧ (w'.heap.size ≤ bkV v ∨ Old i (bkV v)))) →
    ∃ v, a'' = a'.put o.dst v ∧ R.G w w'' ∧ a''.tmps.size = a.tmps.size ∧ (∀ k ∈ rem.erase i, k < sl.length) ∧ (∀ k, k < sl.length → k ∉ rem.erase i → ∀ j ∈ rem.erase i, ((Region.before ops).getD k 0).testBit j = false) ∧ (∀ k, k < sl.length → k ∉ rem.erase i → Φ k (valV sl (slot a'')) w'') ∧ (∀ k ∈ rem.erase i, Ψ k w'') ∧ (∀ d, (∀ k, k < sl.length → sl[k]? = some (some d) → k ∈ rem.erase i) → slot a'' d = slot a d) ∧ J (rem.erase i) a'' w'' ∧ (∀ k ∈ nw, k < sl.length → k ∉ rem.erase i → w.heap.size ≤ bkV (valV sl (slot a'') k) ∨ Old k (bkV (valV sl (slot a'') k))) ∧
    ∀ k j, k ∈ nw → j ∈ nw → k ≠ j → k < sl.length → j < sl.length → k ∉ rem.erase i → j ∉ rem.erase i → bkV (valV sl (slot a'') k) ≠ bkV (valV sl (slot a'') j) := by
   rintro a'' w'' ⟨v, rfl, ⟨hg2, hj2⟩, hkp, hps2, hphi, hnew⟩
   have was : ∀ k, k ≠ i → k ∉ rem.erase i → k ∉ rem := fun k e hk hm => hk (hnd.mem_erase_iff.2 ⟨e, hm⟩)
   have keep : ∀ j, j ≠ i → valV sl (slot (a'.put o.dst v)) j = valV sl (slot a') j := fun j e => by
    unfold valV
    cases hj : sl[j]? with
    | none => rfl
    | some dj =>
     cases dj with
     | none => rfl
     | some d =>
      show slot (a'.put o.dst v) d = slot a' d
      exact slot_put _ (fun he => e (hinj j i d (List.getElem?_eq_some_iff.1 hj).1 hil hj (by rw [hd, he])))
   have self : o.dst ≠ none → valV sl (slot (a'.put o.dst v)) i = v := fun hn => by
    unfold valV
    rw [hd]
    cases hod : o.dst with
    | none => exact absurd hod hn
    | some d =>
     rw [hod] at hd
     exact slot_self v (by
      rw [hs]
      have := List.all_eq_true.1 hsz (some d) (List.mem_of_getElem? hd)
      simpa using this)
   have dif : ∀ k, k ∈ nw → i ∈ nw → k ≠ i → k < sl.length → k ∉ rem.erase i → bkV (valV sl (slot a') k) ≠ bkV v := fun k hk hi e hkl hr he => by
    have h1 := hnw k hk _ _ (hf k hkl (was k e hr))
    rcases (hnew hi).2 with h2 | h2
    ·omega
    ·rcases hno k hk hkl (was k e hr) with h3 | h3
     ·have := hold _ _ h2; omega
     ·exact hdis k i _ e h3 (by rw [he]; exact h2)
   refine ⟨v, rfl, R.trans hg hg2, ?_, fun k hk => hlt k (List.mem_of_mem_erase hk), fun k hkl hk j hj => ?_, fun k hkl hk => ?_, fun k hk => hps2 k (hlt k (List.mem_of_mem_erase hk)) (fun e => (hnd.mem_erase_iff.1 hk).1 e) (hdep k (List.mem_of_mem_erase hk)) (hpsi k (List.mem_of_mem_erase hk)), fun d hdd => ?_, hj2, fun k hkn hkl hk => ?_, fun k j hkn hjn hkj hkl hjl hk hj => ?_⟩
   ·cases hod : o.dst with
    | none => exact hs
    | some d => simp [Act.put, hs]
   ·by_cases e : k = i
    ·subst e
     exact hdep j (List.mem_of_mem_erase hj)
    ·exact hdp k hkl (was k e hk) j (List.mem_of_mem_erase hj)
   ·by_cases e : k = i
    ·subst e
     exact hphi _ (fun j hj => keep j hj) self
    ·refine hcg k hkl _ _ _ (hkp k _ rfl hkl e (hdp k hkl (was k e hk) i hmem) (hf k hkl (was k e hk))) (fun j hj => (keep j (fun ej => ?_)).symm)
     subst ej
     rcases hj with rfl | hj
     ·exact e rfl
     ·have := hdp k hkl (was k e hk) j hmem
      rw [this] at hj
      cases hj
   ·rw [slot_put _ (fun e => (hnd.mem_erase_iff.1 (hdd i hil (by rw [hd, e]))).1 rfl)]
    exact hsl d (fun k hk hkd => List.mem_of_mem_erase (hdd k hk hkd))
   ·by_cases e : k = i
    ·subst e
     rw [self (hnew hkn).1]
     exact (hnew hkn).2.imp (fun h => Nat.le_trans (hG hg) h) (fun h => h)
    ·rw [keep k e]
     exact hno k hkn hkl (was k e hk)
   ·by_cases e1 : k = i
    ·subst e1
     rw [self (hnew hkn).1, keep j (Ne.symm hkj)]
     exact (dif j hjn hkn (Ne.symm hkj) hjl hj).symm
    ·by_cases e2 : j = i
     ·subst e2
      rw [self (hnew hjn).1, keep k e1]
      exact dif k hkn hjn e1 hkl hk
     ·rw [keep k e1, keep j e2]
      exact hap k j hkn hjn hkj hkl hjl (was k e1 hk) (was j e2 hj)
  unfold stepOf at h ⊢
  split
  ·rename_i hw
   rw [if_pos hw] at h
   exact Oper.wp_mono next h
  ·rename_i hw
   rw [if_neg hw] at h
   exact next _ _ h
 ·rintro a' w' hag ⟨hg, hs, _, _, hf, _, _, hj, _, hap⟩
  have he := agree_puts hag (sl.filterMap fun d => d) (by
   rw [List.all_eq_true]
   intro i hi
   have hil := List.mem_range.1 hi
   cases ho : ops[i]? with
   | none => rfl
   | some o =>
    have hd := hdst i o hil ho
    cases hod : o.dst with
    | none => simp [hod]
    | some d =>
     simp only [hod]
     rw [hod] at hd
     simpa using List.mem_of_getElem? hd)
  rw [he]
  exact hend (slot a') w' hg (by rw [← he]; exact hj) (fun i hi => hf i hi (by simp)) (fun i j hi hj hij hil hjl => hap i j hi hj hij hil hjl (by simp) (by simp))
end
end Go.HavG
