/- The table rule for a region whose operations may store in any order: a table says what each operation leaves, in its slot or in the world. No condition but the closed check 'tabSOk' on the region. The table rule, each fact of which may name the values of the operations of which its own has need; operations may store, and the blocks that some make lie apart. No condition but the closed check 'tabSOk' on the region. PressMore's region that gives the copies of the press lists of their own: what it keeps and what it leaves. Conditions: what the boxes hold, as hypotheses. -/
import Derived.Test.YtbfjebglaimcmaaLawN9
namespace Go.HavG
open Go.RowKit
section
variable {R : Rel} {P : Program} {ops : Array Oper}
def valS (a : Act) : Option Nat → Value
  | some d => slot a d
  | none => undef
def fvalS (f : Nat → Value) : Option Nat → Value
  | some d => f d
  | none => undef
def tabSOk (ops : Array Oper) (sl : List (Option Nat)) : Bool :=
  genOk ops (List.range sl.length) [] && ((List.range sl.length).all (fun i => match ops[i]? with | some o => sl[i]? == some o.dst | none => false) && (List.range sl.length).all fun i => (List.range sl.length).all fun k => i == k || (sl[i]? != sl[k]? || sl[i]? == some none))
theorem wp_region_tabS {Q : Exit → Act → World → Prop} (Φ : Nat → Value → World → Prop) (sl : List (Option Nat)) {id : Nat} {a : Act} {w : World} (hm : P.follows .mixedOrders = true) (hok : tabSOk ops sl = true)
    (hsz : (sl.all fun d => match d with | some d => decide (d < a.tmps.size) | none => true) = true) (hst : ∀ i v w w', Φ i v w → R.G w w' → Φ i v w')
    (hno : ∀ i, sl[i]? = some none → ∀ v u w, Φ i v w → Φ i u w)
    (hstep : ∀ i, i < sl.length → ∀ o a' w', ops[i]? = some o → Agree ops (List.range sl.length) a a' → R.G w w' → (∀ j d, ((Region.before ops).getD i 0).testBit j = true → sl[j]? = some d → Φ j (valS a' d) w') →
      stepOf P ops o a' w' (fun a'' w'' => ∃ v, a'' = a'.put o.dst v ∧ R.G w' w'' ∧ Φ i v w'') Q)
    (hend : ∀ (f : Nat → Value) w', R.G w w' → (∀ i d, sl[i]? = some d → Φ i (fvalS f d) w') → wpList P ops Q [] (puts f (sl.filterMap fun d => d) a) w') : (Code.region id ops true).wp P Q a w := by
  simp only [tabSOk, Bool.and_eq_true] at hok
  obtain ⟨k1, k2, k3⟩ := hok
  have hdst : ∀ i o, i < sl.length → ops[i]? = some o → sl[i]? = some o.dst := fun i o hi ho => by
    have := List.all_eq_true.1 k2 i (List.mem_range.2 hi)
    rw [ho] at this
    simpa using this
  have hinj : ∀ i k d, i < sl.length → k < sl.length → sl[i]? = some (some d) → sl[k]? = some (some d) → i = k := fun i k d hi hk h1 h2 => by
    have := List.all_eq_true.1 (List.all_eq_true.1 k3 i (List.mem_range.2 hi)) k (List.mem_range.2 hk)
    rw [h1, h2] at this
    simpa using this
  refine wp_region_gen (P := P) (fun rem a' w' => R.G w w' ∧ a'.tmps.size = a.tmps.size ∧ (∀ i ∈ rem, i < sl.length) ∧ ∀ i d, sl[i]? = some d → i ∉ rem → Φ i (valS a' d) w') (List.range sl.length) [] hm k1
    ⟨R.drew w, rfl, fun i hi => List.mem_range.1 hi, fun i d hd hn => absurd (List.mem_range.2 (List.getElem?_eq_some_iff.1 hd).1) hn⟩ ?_ ?_
  · rintro rem i o a' w' hmem hnd ho hag hdep ⟨hg, hs, hlt, hf⟩
    have hil := hlt i hmem
    have hd := hdst i o hil ho
    have h := hstep i hil o a' w' ho hag hg (fun j dj hj hdj => hf j dj hdj (fun hm => by have := hdep j hm; rw [this] at hj; cases hj))
    have next : ∀ a'' w'', (∃ v, a'' = a'.put o.dst v ∧ R.G w' w'' ∧ Φ i v w'') → ∃ v, a'' = a'.put o.dst v ∧ R.G w w'' ∧ a''.tmps.size = a.tmps.size ∧ (∀ k ∈ rem.erase i, k < sl.length) ∧ ∀ k dk, sl[k]? = some dk → k ∉ rem.erase i → Φ k (valS a'' dk) w'' := by
      rintro a'' w'' ⟨v, rfl, hg2, hphi⟩
      refine ⟨v, rfl, R.trans hg hg2, ?_, fun k hk => hlt k (List.mem_of_mem_erase hk), fun k dk hdk hk => ?_⟩
      · cases hod : o.dst with
        | none => exact hs
        | some d => simp [Act.put, hs]
      by_cases e : k = i
      · subst e
        have hdd : dk = o.dst := by rw [hd] at hdk; exact (Option.some.inj hdk).symm
        cases hod : o.dst with
        | none =>
          rw [hod] at hdd hd
          subst hdd
          exact hno k hd _ _ _ hphi
        | some d =>
          rw [hod] at hdd hd
          subst hdd
          have hsl : slot (a'.put (some d) v) d = v := slot_self v (by
            rw [hs]
            have := List.all_eq_true.1 hsz (some d) (List.mem_of_getElem? hd)
            simpa using this)
          show Φ k (slot (a'.put (some d) v) d) w''
          rw [hsl]
          exact hphi
      · have hk2 := (List.getElem?_eq_some_iff.1 hdk).1
        have hphk := hst k _ _ _ (hf k dk hdk (fun hm => hk (hnd.mem_erase_iff.2 ⟨e, hm⟩))) hg2
        cases dk with
        | none => exact hphk
        | some d =>
          show Φ k (slot (a'.put o.dst v) d) w''
          rw [slot_put _ (fun he => e (hinj k i d hk2 hil hdk (by rw [hd, he])))]
          exact hphk
    unfold stepOf at h ⊢
    split
    · rename_i hw
      rw [if_pos hw] at h
      exact Oper.wp_mono next h
    · rename_i hw
      rw [if_neg hw] at h
      exact next _ _ h
  · rintro a' w' hag ⟨hg, hs, _, hf⟩
    have he := agree_puts hag (sl.filterMap fun d => d) (by
      rw [List.all_eq_true]
      intro i hi
      have hil := List.mem_range.1 hi
      cases ho : ops[i]? with
      | none => rfl
      | some o =>
        have hd := hdst i o hil ho
        cases hod : o.dst with
        | none => simp [hod]
        | some d =>
          simp only [hod]
          rw [hod] at hd
          simpa using List.mem_of_getElem? hd)
    rw [he]
    refine hend (slot a') w' hg (fun i d hd => ?_)
    have := hf i d hd (by simp)
    cases d <;> exact this
/-- One step: an operation that leaves no value. -/
theorem tab_store {o : Oper} {a : Act} {w : World} {φ : Value → World → Prop} {Q : Exit → Act → World → Prop} (hg : o.guard = none) (hd : o.dst = none) (h : ∃ w', (execOp a.eval o).run P w = .ok .skip w' ∧ R.G w w' ∧ φ undef w') :
    stepOf P ops o a w (fun a'' w'' => ∃ v, a'' = a.put o.dst v ∧ R.G w w'' ∧ φ v w'') Q := by
  obtain ⟨w', h1, h2, h3⟩ := h
  unfold stepOf Oper.wp
  rw [if_pos (by unfold Region.wanted; rw [hg]), h1]
  exact ⟨undef, by rw [hd], h2, h3⟩
end
end Go.HavG
namespace Go.HavG
open Go.RowKit
section
variable {R : Rel} {P : Program} {ops : Array Oper}
/-- The value of the j-th operation. -/
def valV (sl : List (Option Nat)) (f : Nat → Value) (j : Nat) : Value := fvalS f ((sl[j]?).getD none)
theorem wp_region_tabV {Q : Exit → Act → World → Prop} (Φ : Nat → (Nat → Value) → World → Prop) (nw : List Nat) (sl : List (Option Nat)) {id : Nat} {a : Act} {w : World} (hm : P.follows .mixedOrders = true) (hok : tabSOk ops sl = true)
    (hsz : (sl.all fun d => match d with | some d => decide (d < a.tmps.size) | none => true) = true) (hst : ∀ i V w w', Φ i V w → R.G w w' → Φ i V w')
    (hcg : ∀ i, i < sl.length → ∀ V V' w, Φ i V w → (∀ j, j = i ∨ ((Region.before ops).getD i 0).testBit j = true → V j = V' j) → Φ i V' w)
    (hnw : ∀ i ∈ nw, ∀ V w, Φ i V w → ∃ g, V i = .pointer (some ⟨g, 0, none⟩) ∧ g < w.heap.size)
    (hstep : ∀ i, i < sl.length → ∀ o a' w', ops[i]? = some o → Agree ops (List.range sl.length) a a' → R.G w w' → (∀ j, ((Region.before ops).getD i 0).testBit j = true → j < sl.length → Φ j (valV sl (slot a')) w') →
      stepOf P ops o a' w' (fun a'' w'' => ∃ v, a'' = a'.put o.dst v ∧ R.G w' w'' ∧ (∀ V, (∀ j, j ≠ i → V j = valV sl (slot a') j) → (o.dst ≠ none → V i = v) → Φ i V w'') ∧ (i ∈ nw → o.dst ≠ none ∧ v = .pointer (some ⟨w'.heap.size, 0, none⟩))) Q)
    (hend : ∀ (f : Nat → Value) w', R.G w w' → (∀ i, i < sl.length → Φ i (valV sl f) w') → (∀ i j, i ∈ nw → j ∈ nw → i ≠ j → i < sl.length → j < sl.length → valV sl f i ≠ valV sl f j) → wpList P ops Q [] (puts f (sl.filterMap fun d => d) a) w') : (Code.region id ops true).wp P Q a w := by
  simp only [tabSOk, Bool.and_eq_true] at hok
  obtain ⟨k1, k2, k3⟩ := hok
  have hdst : ∀ i o, i < sl.length → ops[i]? = some o → sl[i]? = some o.dst := fun i o hi ho => by
    have := List.all_eq_true.1 k2 i (List.mem_range.2 hi)
    rw [ho] at this
    simpa using this
  have hinj : ∀ i k d, i < sl.length → k < sl.length → sl[i]? = some (some d) → sl[k]? = some (some d) → i = k := fun i k d hi hk h1 h2 => by
    have := List.all_eq_true.1 (List.all_eq_true.1 k3 i (List.mem_range.2 hi)) k (List.mem_range.2 hk)
    rw [h1, h2] at this
    simpa using this
  refine wp_region_gen (P := P) (fun rem a' w' => R.G w w' ∧ a'.tmps.size = a.tmps.size ∧ (∀ i ∈ rem, i < sl.length) ∧ (∀ k, k < sl.length → k ∉ rem → ∀ i ∈ rem, ((Region.before ops).getD k 0).testBit i = false) ∧ (∀ i, i < sl.length → i ∉ rem → Φ i (valV sl (slot a')) w') ∧
      ∀ i j, i ∈ nw → j ∈ nw → i ≠ j → i < sl.length → j < sl.length → i ∉ rem → j ∉ rem → valV sl (slot a') i ≠ valV sl (slot a') j) (List.range sl.length) [] hm k1
    ⟨R.drew w, rfl, fun i hi => List.mem_range.1 hi, fun k hk hn => absurd (List.mem_range.2 hk) hn, fun i hi hn => absurd (List.mem_range.2 hi) hn, fun i j _ _ _ hi _ hn => absurd (List.mem_range.2 hi) hn⟩ ?_ ?_
  · rintro rem i o a' w' hmem hnd ho hag hdep ⟨hg, hs, hlt, hdp, hf, hap⟩
    have hil := hlt i hmem
    have hd := hdst i o hil ho
    have h := hstep i hil o a' w' ho hag hg (fun j hj hjl => hf j hjl (fun hm => by have := hdep j hm; rw [this] at hj; cases hj))
    have next : ∀ a'' w'', (∃ v, a'' = a'.put o.dst v ∧ R.G w' w'' ∧ (∀ V, (∀ j, j ≠ i → V j = valV sl (slot a') j) → (o.dst ≠ none → V i = v) → Φ i V w'') ∧ (i ∈ nw → o.dst ≠ none ∧ v = .pointer (some ⟨w'.heap.size, 0, none⟩))) →
        ∃ v, a'' = a'.put o.dst v ∧ R.G w w'' ∧ a''.tmps.size = a.tmps.size ∧ (∀ k ∈ rem.erase i, k < sl.length) ∧ (∀ k, k < sl.length → k ∉ rem.erase i → ∀ j ∈ rem.erase i, ((Region.before ops).getD k 0).testBit j = false) ∧ (∀ k, k < sl.length → k ∉ rem.erase i → Φ k (valV sl (slot a'')) w'') ∧
        ∀ k j, k ∈ nw → j ∈ nw → k ≠ j → k < sl.length → j < sl.length → k ∉ rem.erase i → j ∉ rem.erase i → valV sl (slot a'') k ≠ valV sl (slot a'') j := by
      rintro a'' w'' ⟨v, rfl, hg2, hphi, hnew⟩
      have was : ∀ k, k ≠ i → k ∉ rem.erase i → k ∉ rem := fun k e hk hm => hk (hnd.mem_erase_iff.2 ⟨e, hm⟩)
      have keep : ∀ j, j ≠ i → valV sl (slot (a'.put o.dst v)) j = valV sl (slot a') j := fun j e => by
        unfold valV
        cases hj : sl[j]? with
        | none => rfl
        | some dj =>
          cases dj with
          | none => rfl
          | some d =>
            show slot (a'.put o.dst v) d = slot a' d
            exact slot_put _ (fun he => e (hinj j i d (List.getElem?_eq_some_iff.1 hj).1 hil hj (by rw [hd, he])))
      have self : o.dst ≠ none → valV sl (slot (a'.put o.dst v)) i = v := fun hn => by
        unfold valV
        rw [hd]
        cases hod : o.dst with
        | none => exact absurd hod hn
        | some d =>
          rw [hod] at hd
          exact slot_self v (by
            rw [hs]
            have := List.all_eq_true.1 hsz (some d) (List.mem_of_getElem? hd)
            simpa using this)
      have dif : ∀ k, k ∈ nw → i ∈ nw → k ≠ i → k < sl.length → k ∉ rem.erase i → valV sl (slot a') k ≠ v := fun k hk hi e hkl hr he => by
        obtain ⟨g, h1, h2⟩ := hnw k hk _ _ (hf k hkl (was k e hr))
        rw [he, (hnew hi).2] at h1
        injection h1 with h1
        injection h1 with h1
        injection h1 with h1
        omega
      refine ⟨v, rfl, R.trans hg hg2, ?_, fun k hk => hlt k (List.mem_of_mem_erase hk), fun k hkl hk j hj => ?_, fun k hkl hk => ?_, fun k j hkn hjn hkj hkl hjl hk hj => ?_⟩
      · cases hod : o.dst with
        | none => exact hs
        | some d => simp [Act.put, hs]
      · by_cases e : k = i
        · subst e
          exact hdep j (List.mem_of_mem_erase hj)
        · exact hdp k hkl (was k e hk) j (List.mem_of_mem_erase hj)
      · by_cases e : k = i
        · subst e
          exact hphi _ (fun j hj => keep j hj) self
        · refine hcg k hkl _ _ _ (hst k _ _ _ (hf k hkl (was k e hk)) hg2) (fun j hj => (keep j (fun ej => ?_)).symm)
          subst ej
          rcases hj with rfl | hj
          · exact e rfl
          · have := hdp k hkl (was k e hk) j hmem
            rw [this] at hj
            cases hj
      · by_cases e1 : k = i
        · subst e1
          rw [self (hnew hkn).1, keep j (Ne.symm hkj)]
          exact (dif j hjn hkn (Ne.symm hkj) hjl hj).symm
        · by_cases e2 : j = i
          · subst e2
            rw [self (hnew hjn).1, keep k e1]
            exact dif k hkn hjn e1 hkl hk
          · rw [keep k e1, keep j e2]
            exact hap k j hkn hjn hkj hkl hjl (was k e1 hk) (was j e2 hj)
    unfold stepOf at h ⊢
    split
    · rename_i hw
      rw [if_pos hw] at h
      exact Oper.wp_mono next h
    · rename_i hw
      rw [if_neg hw] at h
      exact next _ _ h
  · rintro a' w' hag ⟨hg, hs, _, _, hf, hap⟩
    have he := agree_puts hag (sl.filterMap fun d => d) (by
      rw [List.all_eq_true]
      intro i hi
      have hil := List.mem_range.1 hi
      cases ho : ops[i]? with
      | none => rfl
      | some o =>
        have hd := hdst i o hil ho
        cases hod : o.dst with
        | none => simp [hod]
        | some d =>
          simp only [hod]
          rw [hod] at hd
          simpa using List.mem_of_getElem? hd)
    rw [he]
    exact hend (slot a') w' hg (fun i hi => hf i hi (by simp)) (fun i j hi hj hij hil hjl => hap i j hi hj hij hil hjl (by simp) (by simp))
theorem tabV_val {o : Oper} {a : Act} {w : World} {i : Nat} {nw : List Nat} {Ψ : (Nat → Value) → World → Prop} {X : (Nat → Value) → Prop} {Q : Exit → Act → World → Prop} (hg : o.guard = none) (hd : o.dst ≠ none)
    (h : ∃ v w', (execOp a.eval o).run P w = .ok (.value v) w' ∧ R.G w w' ∧ (∀ V, X V → V i = v → Ψ V w') ∧ (i ∈ nw → v = .pointer (some ⟨w.heap.size, 0, none⟩))) :
    stepOf P ops o a w (fun a'' w'' => ∃ v, a'' = a.put o.dst v ∧ R.G w w'' ∧ (∀ V, X V → (o.dst ≠ none → V i = v) → Ψ V w'') ∧ (i ∈ nw → o.dst ≠ none ∧ v = .pointer (some ⟨w.heap.size, 0, none⟩))) Q := by
  obtain ⟨v, w', h1, h2, h3, h4⟩ := h
  unfold stepOf Oper.wp
  rw [if_pos (by unfold Region.wanted; rw [hg]), h1]
  exact ⟨v, rfl, h2, fun V hV hv => h3 V hV (hv hd), fun hi => ⟨hd, h4 hi⟩⟩
theorem tabV_store {o : Oper} {a : Act} {w : World} {i : Nat} {nw : List Nat} {Ψ : (Nat → Value) → World → Prop} {X : (Nat → Value) → Prop} {Q : Exit → Act → World → Prop} (hg : o.guard = none) (hd : o.dst = none) (hi : i ∉ nw)
    (h : ∃ w', (execOp a.eval o).run P w = .ok .skip w' ∧ R.G w w' ∧ (∀ V, X V → Ψ V w')) :
    stepOf P ops o a w (fun a'' w'' => ∃ v, a'' = a.put o.dst v ∧ R.G w w'' ∧ (∀ V, X V → (o.dst ≠ none → V i = v) → Ψ V w'') ∧ (i ∈ nw → o.dst ≠ none ∧ v = .pointer (some ⟨w.heap.size, 0, none⟩))) Q := by
  obtain ⟨w', h1, h2, h3⟩ := h
  unfold stepOf Oper.wp
  rw [if_pos (by unfold Region.wanted; rw [hg]), h1]
  exact ⟨undef, by rw [hd], h2, fun V hV _ => h3 V hV, fun h => absurd h hi⟩
end
end Go.HavG
namespace Go.Proofs.Ytbfjebglaimcmaa
open Go.RowKit Go.Hav
section
variable {b0 B n gx gy gz gt b m : Nat} {fa wa : Option Addr} {fl fc wl wp : Nat} {low top bales e0 e1 e2 : Int} {p : PressD} {w w' : World}
/-- What the boxes of x, y, t are like, before and behind the stores. -/
def boxP (B gx gy gt : Nat) (fa : Option Addr) (fl fc : Nat) (low top bales : Int) (wa : Option Addr) (wl wp : Nat) (p : PressD) (e0 e1 e2 : Int) (i : Nat) (w : World) : Prop :=
  match i with
  | 0 => ∃ u, Blk w gx 25 #[.slice fa fl fc, .int .i64 low, .int .i64 top, .int .i64 bales, u]
  | 1 => ∃ A c, Blk w gx 25 (boxC fa fl fc low top bales A (wl + 1) c) ∧ w.ownsRow B 56 3 (.slice A (wl + 1) c) (wl + 1) (p.weighed.flatMap baF ++ baF ⟨e0, ⟨e1, e2⟩⟩)
  | 2 => ∃ u, Blk w gy 25 #[u, .int .i64 low, .int .i64 top, .int .i64 bales, .slice wa wl wp]
  | 3 => ∃ A c, Blk w gy 25 (boxC A fl c low top bales wa wl wp) ∧ w.ownsRow B 58 3 (.slice A fl c) fl (p.fl.flatMap flF)
  | 4 => ∃ u v, Blk w gt 25 #[u, .int .i64 low, .int .i64 top, .int .i64 bales, v]
  | 5 => ∃ v, Blk w gt 25 #[.slice none 0 0, .int .i64 low, .int .i64 top, .int .i64 bales, v]
  | _ => ∃ u, Blk w gt 25 #[u, .int .i64 low, .int .i64 top, .int .i64 bales, .slice none 0 0]
structure RG (b0 B gx gy gt : Nat) (fa : Option Addr) (fl fc : Nat) (low top bales : Int) (wa : Option Addr) (wl wp : Nat) (p : PressD) (e0 e1 e2 : Int) (w w' : World) : Prop where
  bw : Below b0 w w'
  keep : ∀ g, g < B → g ≠ gx → g ≠ gy → g ≠ gt → w'.heap[g]? = w.heap[g]?
  r0 : ∀ v, w.ownsRow B 56 3 v wl (p.weighed.flatMap baF) → w'.ownsRow B 56 3 v wl (p.weighed.flatMap baF)
  r1 : ∀ v, w.ownsRow B 56 3 v (wl + 1) (p.weighed.flatMap baF ++ baF ⟨e0, ⟨e1, e2⟩⟩) → w'.ownsRow B 56 3 v (wl + 1) (p.weighed.flatMap baF ++ baF ⟨e0, ⟨e1, e2⟩⟩)
  r2 : ∀ v, w.ownsRow B 56 3 v 0 [] → w'.ownsRow B 56 3 v 0 []
  r3 : ∀ g, B ≤ g → Blk w g 56 (baF ⟨e0, ⟨e1, e2⟩⟩).toArray → Blk w' g 56 (baF ⟨e0, ⟨e1, e2⟩⟩).toArray
  r4 : ∀ v m zs, w.ownsRow B 58 3 v m zs → w'.ownsRow B 58 3 v m zs
  pr : ∀ i, boxP B gx gy gt fa fl fc low top bales wa wl wp p e0 e1 e2 i w → boxP B gx gy gt fa fl fc low top bales wa wl wp p e0 e1 e2 i w'
def RGR (b0 B gx gy gt : Nat) (fa : Option Addr) (fl fc : Nat) (low top bales : Int) (wa : Option Addr) (wl wp : Nat) (p : PressD) (e0 e1 e2 : Int) : HavG.Rel where
  G := RG b0 B gx gy gt fa fl fc low top bales wa wl wp p e0 e1 e2
  refl _ := ⟨Below.refl _ _, fun _ _ _ _ _ => rfl, fun _ => id, fun _ => id, fun _ => id, fun _ _ => id, fun _ _ _ => id, fun _ => id⟩
  trans h k := ⟨h.bw.trans k.bw, fun g h1 h2 h3 h4 => (k.keep g h1 h2 h3 h4).trans (h.keep g h1 h2 h3 h4), fun v x => k.r0 v (h.r0 v x), fun v x => k.r1 v (h.r1 v x), fun v x => k.r2 v (h.r2 v x), fun g hg x => k.r3 g hg (h.r3 g hg x), fun v m zs x => k.r4 v m zs (h.r4 v m zs x), fun i x => k.pr i (h.pr i x)⟩
  drew w := by
    have hb : Below w.heap.size w { w with drawn := w.drawn + 1 } := Below.drew (Below.refl _ _)
    refine ⟨Below.drew (Below.refl _ _), fun _ _ _ _ _ => rfl, fun _ x => own_below x hb, fun _ x => own_below x hb, fun _ x => own_below x hb, fun _ _ x => x.below hb x.lt, fun _ _ _ x => own_below x hb, fun i x => ?_⟩
    unfold boxP at x ⊢
    split at x
    · obtain ⟨u, x⟩ := x; exact ⟨u, x.below hb x.lt⟩
    · obtain ⟨A, c, x, y⟩ := x; exact ⟨A, c, x.below hb x.lt, own_below y hb⟩
    · obtain ⟨u, x⟩ := x; exact ⟨u, x.below hb x.lt⟩
    · obtain ⟨A, c, x, y⟩ := x; exact ⟨A, c, x.below hb x.lt, own_below y hb⟩
    · obtain ⟨u, v, x⟩ := x; exact ⟨u, v, x.below hb x.lt⟩
    · obtain ⟨u, x⟩ := x; exact ⟨u, x.below hb x.lt⟩
    · obtain ⟨u, x⟩ := x; exact ⟨u, x.below hb x.lt⟩
theorem RG.of_gm (hb : b0 ≤ B) (hx : gx < B) (hy : gy < B) (ht : gt < B) (h : (GM B 56 3 wl (p.weighed.flatMap baF) (baF ⟨e0, ⟨e1, e2⟩⟩)).G w w') : RG b0 B gx gy gt fa fl fc low top bales wa wl wp p e0 e1 e2 w w' := by
  have far : ∀ {g t cs}, g < B → Blk w g t cs → Blk w' g t cs := fun {g t cs} hg hk => (h.1.block g hg).trans hk
  refine ⟨h.1.mono hb, fun g hg _ _ _ => h.1.block g hg, h.2.1, h.2.2.1, h.2.2.2.1, fun g _ => h.2.2.2.2.1 g, fun _ _ _ x => GM.own h (by decide) x, fun i x => ?_⟩
  unfold boxP at x ⊢
  split at x
  · obtain ⟨u, x⟩ := x; exact ⟨u, far hx x⟩
  · obtain ⟨A, c, x, y⟩ := x; exact ⟨A, c, far hx x, h.2.2.1 _ y⟩
  · obtain ⟨u, x⟩ := x; exact ⟨u, far hy x⟩
  · obtain ⟨A, c, x, y⟩ := x; exact ⟨A, c, far hy x, GM.own h (by decide) y⟩
  · obtain ⟨u, v, x⟩ := x; exact ⟨u, v, far ht x⟩
  · obtain ⟨u, x⟩ := x; exact ⟨u, far ht x⟩
  · obtain ⟨u, x⟩ := x; exact ⟨u, far ht x⟩
theorem RG.of_below (hb : b0 ≤ B) (hx : gx < B) (hy : gy < B) (ht : gt < B) (hB : B ≤ w.heap.size) (h : Below w.heap.size w w') : RG b0 B gx gy gt fa fl fc low top bales wa wl wp p e0 e1 e2 w w' := RG.of_gm hb hx hy ht (GM.below hB h)
/-- A store in one of the three boxes. -/
theorem RG.of_set {g o : Nat} {v : Value} (hb : b0 ≤ g) (hg : g < B) (he : g = gx ∨ g = gy ∨ g = gt)
    (hp : ∀ i, boxP B gx gy gt fa fl fc low top bales wa wl wp p e0 e1 e2 i w → boxP B gx gy gt fa fl fc low top bales wa wl wp p e0 e1 e2 i (w.setCell ⟨g, o, none⟩ v)) : RG b0 B gx gy gt fa fl fc low top bales wa wl wp p e0 e1 e2 w (w.setCell ⟨g, o, none⟩ v) :=
  ⟨setCell_below (Below.refl _ _) hb _ _, fun k _ h1 h2 h3 => Below.heap_setCell w ⟨g, o, none⟩ v k (fun e => by
      have e' : k = g := e
      rcases he with rfl | rfl | rfl
      · exact h1 e'
      · exact h2 e'
      · exact h3 e'), fun _ x => ownsRow_setCell_below x hg v, fun _ x => ownsRow_setCell_below x hg v, fun _ x => ownsRow_setCell_below x hg v, fun k hk x => x.far (p := ⟨g, o, none⟩) (by show k ≠ g; omega) v, fun _ _ _ x => ownsRow_setCell_below x hg v, hp⟩
theorem RG.setX (hb : b0 ≤ gx) (hg : gx < B) (n1 : gx ≠ gy) (n2 : gx ≠ gt) {A : Option Addr} {c : Nat} (h0 : boxP B gx gy gt fa fl fc low top bales wa wl wp p e0 e1 e2 0 w) (ho : w.ownsRow B 56 3 (.slice A (wl + 1) c) (wl + 1) (p.weighed.flatMap baF ++ baF ⟨e0, ⟨e1, e2⟩⟩)) :
    RG b0 B gx gy gt fa fl fc low top bales wa wl wp p e0 e1 e2 w (w.setCell ⟨gx, 4, none⟩ (.slice A (wl + 1) c)) ∧ boxP B gx gy gt fa fl fc low top bales wa wl wp p e0 e1 e2 1 (w.setCell ⟨gx, 4, none⟩ (.slice A (wl + 1) c)) := by
  obtain ⟨u, hk⟩ := h0
  have hk2 := hk.set_ 4 (.slice A (wl + 1) c)
  have h1 : boxP B gx gy gt fa fl fc low top bales wa wl wp p e0 e1 e2 1 (w.setCell ⟨gx, 4, none⟩ (.slice A (wl + 1) c)) := ⟨A, c, hk2, ownsRow_setCell_below ho hg _⟩
  refine ⟨RG.of_set hb hg (.inl rfl) fun i x => ?_, h1⟩
  match i, x with
  | 0, _ => exact ⟨_, hk2⟩
  | 1, _ => exact h1
  | 2, x => obtain ⟨u, x⟩ := x; exact ⟨u, x.far (p := ⟨gx, 4, none⟩) (Ne.symm n1) _⟩
  | 3, x => obtain ⟨A, c, x, y⟩ := x; exact ⟨A, c, x.far (p := ⟨gx, 4, none⟩) (Ne.symm n1) _, ownsRow_setCell_below y hg _⟩
  | 4, x => obtain ⟨u, v, x⟩ := x; exact ⟨u, v, x.far (p := ⟨gx, 4, none⟩) (Ne.symm n2) _⟩
  | 5, x => obtain ⟨u, x⟩ := x; exact ⟨u, x.far (p := ⟨gx, 4, none⟩) (Ne.symm n2) _⟩
  | _ + 6, x => obtain ⟨u, x⟩ := x; exact ⟨u, x.far (p := ⟨gx, 4, none⟩) (Ne.symm n2) _⟩
theorem RG.setY (hb : b0 ≤ gy) (hg : gy < B) (n1 : gx ≠ gy) (n2 : gy ≠ gt) {A : Option Addr} {c : Nat} (h0 : boxP B gx gy gt fa fl fc low top bales wa wl wp p e0 e1 e2 2 w) (ho : w.ownsRow B 58 3 (.slice A fl c) fl (p.fl.flatMap flF)) :
    RG b0 B gx gy gt fa fl fc low top bales wa wl wp p e0 e1 e2 w (w.setCell ⟨gy, 0, none⟩ (.slice A fl c)) ∧ boxP B gx gy gt fa fl fc low top bales wa wl wp p e0 e1 e2 3 (w.setCell ⟨gy, 0, none⟩ (.slice A fl c)) := by
  obtain ⟨u, hk⟩ := h0
  have hk2 := hk.set_ 0 (.slice A fl c)
  have h1 : boxP B gx gy gt fa fl fc low top bales wa wl wp p e0 e1 e2 3 (w.setCell ⟨gy, 0, none⟩ (.slice A fl c)) := ⟨A, c, hk2, ownsRow_setCell_below ho hg _⟩
  refine ⟨RG.of_set hb hg (.inr (.inl rfl)) fun i x => ?_, h1⟩
  match i, x with
  | 0, x => obtain ⟨u, x⟩ := x; exact ⟨u, x.far (p := ⟨gy, 0, none⟩) n1 _⟩
  | 1, x => obtain ⟨A, c, x, y⟩ := x; exact ⟨A, c, x.far (p := ⟨gy, 0, none⟩) n1 _, ownsRow_setCell_below y hg _⟩
  | 2, _ => exact ⟨_, hk2⟩
  | 3, _ => exact h1
  | 4, x => obtain ⟨u, v, x⟩ := x; exact ⟨u, v, x.far (p := ⟨gy, 0, none⟩) (Ne.symm n2) _⟩
  | 5, x => obtain ⟨u, x⟩ := x; exact ⟨u, x.far (p := ⟨gy, 0, none⟩) (Ne.symm n2) _⟩
  | _ + 6, x => obtain ⟨u, x⟩ := x; exact ⟨u, x.far (p := ⟨gy, 0, none⟩) (Ne.symm n2) _⟩
theorem RG.setT0 (hb : b0 ≤ gt) (hg : gt < B) (n1 : gx ≠ gt) (n2 : gy ≠ gt) (h0 : boxP B gx gy gt fa fl fc low top bales wa wl wp p e0 e1 e2 4 w) :
    RG b0 B gx gy gt fa fl fc low top bales wa wl wp p e0 e1 e2 w (w.setCell ⟨gt, 0, none⟩ (.slice none 0 0)) ∧ boxP B gx gy gt fa fl fc low top bales wa wl wp p e0 e1 e2 5 (w.setCell ⟨gt, 0, none⟩ (.slice none 0 0)) := by
  obtain ⟨u, v, hk⟩ := h0
  have hk2 := hk.set_ 0 (.slice none 0 0)
  have h1 : boxP B gx gy gt fa fl fc low top bales wa wl wp p e0 e1 e2 5 (w.setCell ⟨gt, 0, none⟩ (.slice none 0 0)) := ⟨_, hk2⟩
  refine ⟨RG.of_set hb hg (.inr (.inr rfl)) fun i x => ?_, h1⟩
  match i, x with
  | 0, x => obtain ⟨u, x⟩ := x; exact ⟨u, x.far (p := ⟨gt, 0, none⟩) n1 _⟩
  | 1, x => obtain ⟨A, c, x, y⟩ := x; exact ⟨A, c, x.far (p := ⟨gt, 0, none⟩) n1 _, ownsRow_setCell_below y hg _⟩
  | 2, x => obtain ⟨u, x⟩ := x; exact ⟨u, x.far (p := ⟨gt, 0, none⟩) n2 _⟩
  | 3, x => obtain ⟨A, c, x, y⟩ := x; exact ⟨A, c, x.far (p := ⟨gt, 0, none⟩) n2 _, ownsRow_setCell_below y hg _⟩
  | 4, _ => exact ⟨_, _, hk2⟩
  | 5, _ => exact h1
  | _ + 6, x => obtain ⟨u, x⟩ := x; exact ⟨_, x.set_ 0 (.slice none 0 0)⟩
theorem RG.setT4 (hb : b0 ≤ gt) (hg : gt < B) (n1 : gx ≠ gt) (n2 : gy ≠ gt) (h0 : boxP B gx gy gt fa fl fc low top bales wa wl wp p e0 e1 e2 4 w) :
    RG b0 B gx gy gt fa fl fc low top bales wa wl wp p e0 e1 e2 w (w.setCell ⟨gt, 4, none⟩ (.slice none 0 0)) ∧ boxP B gx gy gt fa fl fc low top bales wa wl wp p e0 e1 e2 6 (w.setCell ⟨gt, 4, none⟩ (.slice none 0 0)) := by
  obtain ⟨u, v, hk⟩ := h0
  have hk2 := hk.set_ 4 (.slice none 0 0)
  have h1 : boxP B gx gy gt fa fl fc low top bales wa wl wp p e0 e1 e2 6 (w.setCell ⟨gt, 4, none⟩ (.slice none 0 0)) := ⟨_, hk2⟩
  refine ⟨RG.of_set hb hg (.inr (.inr rfl)) fun i x => ?_, h1⟩
  match i, x with
  | 0, x => obtain ⟨u, x⟩ := x; exact ⟨u, x.far (p := ⟨gt, 4, none⟩) n1 _⟩
  | 1, x => obtain ⟨A, c, x, y⟩ := x; exact ⟨A, c, x.far (p := ⟨gt, 4, none⟩) n1 _, ownsRow_setCell_below y hg _⟩
  | 2, x => obtain ⟨u, x⟩ := x; exact ⟨u, x.far (p := ⟨gt, 4, none⟩) n2 _⟩
  | 3, x => obtain ⟨A, c, x, y⟩ := x; exact ⟨A, c, x.far (p := ⟨gt, 4, none⟩) n2 _, ownsRow_setCell_below y hg _⟩
  | 4, _ => exact ⟨_, _, hk2⟩
  | 5, x => obtain ⟨u, x⟩ := x; exact ⟨_, x.set_ 4 (.slice none 0 0)⟩
  | _ + 6, _ => exact h1
/-- What the operations leave. -/
def listT (B b gx gy gt : Nat) (fa : Option Addr) (fl fc : Nat) (low top bales : Int) (wa : Option Addr) (wl wp : Nat) (p : PressD) (e0 e1 e2 : Int) (i : Nat) (v : Value) (w : World) : Prop :=
  match i with
  | 0 => ∃ g, v = .slice (some ⟨g, 0, none⟩) 0 0 ∧ w.ownsRow B 56 3 (.slice (some ⟨g, 0, none⟩) 0 0) 0 []
  | 1 => v = .pointer (some ⟨b, 4, none⟩)
  | 2 => v = .slice wa wl wp
  | 3 => ∃ A c, v = .slice A wl c ∧ w.ownsRow B 56 3 (.slice A wl c) wl (p.weighed.flatMap baF)
  | 4 => v = .agg #[.int .i64 e0, .int .i64 e1, .int .i64 e2]
  | 5 => ∃ g, v = .slice (some ⟨g, 0, none⟩) 1 1 ∧ B ≤ g ∧ Blk w g 56 (baF ⟨e0, ⟨e1, e2⟩⟩).toArray
  | 6 => ∃ A c, v = .slice A (wl + 1) c ∧ w.ownsRow B 56 3 (.slice A (wl + 1) c) (wl + 1) (p.weighed.flatMap baF ++ baF ⟨e0, ⟨e1, e2⟩⟩)
  | 7 => ∃ g, v = .slice (some ⟨g, 0, none⟩) 0 0 ∧ w.ownsRow B 58 3 (.slice (some ⟨g, 0, none⟩) 0 0) 0 []
  | 8 => v = .pointer (some ⟨b, 0, none⟩)
  | 9 => v = .slice fa fl fc
  | 10 => ∃ A c, v = .slice A fl c ∧ w.ownsRow B 58 3 (.slice A fl c) fl (p.fl.flatMap flF)
  | 11 => v = .pointer (some ⟨gx, 4, none⟩)
  | 12 => boxP B gx gy gt fa fl fc low top bales wa wl wp p e0 e1 e2 1 w
  | 13 => v = .pointer (some ⟨gy, 0, none⟩)
  | 14 => boxP B gx gy gt fa fl fc low top bales wa wl wp p e0 e1 e2 3 w
  | 15 => v = .pointer (some ⟨gt, 0, none⟩)
  | 16 => boxP B gx gy gt fa fl fc low top bales wa wl wp p e0 e1 e2 5 w
  | 17 => v = .pointer (some ⟨gt, 4, none⟩)
  | _ => boxP B gx gy gt fa fl fc low top bales wa wl wp p e0 e1 e2 6 w
theorem listT_keep {i : Nat} {v : Value} (h : listT B b gx gy gt fa fl fc low top bales wa wl wp p e0 e1 e2 i v w) (hG : RG b0 B gx gy gt fa fl fc low top bales wa wl wp p e0 e1 e2 w w') : listT B b gx gy gt fa fl fc low top bales wa wl wp p e0 e1 e2 i v w' := by
  unfold listT at h ⊢
  split at h
  · obtain ⟨g, e, h⟩ := h; exact ⟨g, e, hG.r2 _ h⟩
  · exact h
  · exact h
  · obtain ⟨A, c, e, h⟩ := h; exact ⟨A, c, e, hG.r0 _ h⟩
  · exact h
  · obtain ⟨g, e, hg, h⟩ := h; exact ⟨g, e, hg, hG.r3 g hg h⟩
  · obtain ⟨A, c, e, h⟩ := h; exact ⟨A, c, e, hG.r1 _ h⟩
  · obtain ⟨g, e, h⟩ := h; exact ⟨g, e, hG.r4 _ _ _ h⟩
  · exact h
  · exact h
  · obtain ⟨A, c, e, h⟩ := h; exact ⟨A, c, e, hG.r4 _ _ _ h⟩
  · exact h
  · exact hG.pr 1 h
  · exact h
  · exact hG.pr 3 h
  · exact h
  · exact hG.pr 5 h
  · exact h
  · exact hG.pr 6 h
end
end Go.Proofs.Ytbfjebglaimcmaa
