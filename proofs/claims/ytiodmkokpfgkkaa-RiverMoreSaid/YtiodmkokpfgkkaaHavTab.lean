/- A rule for a region that draws its order: a table says what each operation leaves; an operation may lean on what those leave of which it has need. A chain of operations may follow. Conditions: the closed check 'tabOk' on the region. -/
import Derived.Test.YtiodmkokpfgkkaaHavG
namespace Go.HavG
open Go.RowKit
section
variable {R : Rel} {P : Program} {ops : Array Oper}
theorem gen_any {Q : Exit → Act → World → Prop} {a0 : Act} {S : List Nat} (I : List Nat → Act → World → Prop)
  (hlow : ∀ i o e, ops[i]? = some o → e ∈ o.after → Region.binds .any e = true → e.on < i)
  (τ : List Nat) (hch : chainOk (Region.before ops) τ = true) (hltτ : ∀ i ∈ τ, i < ops.size)
  (hstep : ∀ (rem : List Nat) i o a w, i ∈ rem → rem.Nodup → ops[i]? = some o → Agree ops S a0 a → (∀ j ∈ rem, ((Region.before ops).getD i 0).testBit j = false) → I rem a w →
   stepOf P ops o a w (fun a' w' => ∃ v, a' = a.put o.dst v ∧ I (rem.erase i) a' w') Q)
  (hend : ∀ a w, Agree ops S a0 a → I [] a w → wpList P ops Q (τ.filterMap (ops[·]?)) a w) :
  ∀ (n : Nat) (rem : List Nat) (listed : Array Bool) (a : Act) (w : World), rem.length = n → rem.Nodup → listed.size = ops.size → Closed ops listed → (∀ i, i < ops.size → (¬ listed.getD i false = true ↔ i ∈ rem ∨ i ∈ τ)) →
   (∀ i ∈ rem, i < ops.size) → (∀ i ∈ rem, i ∈ S) → (∀ t ∈ τ, ∀ x ∈ rem, t ≠ x ∧ ((Region.before ops).getD t 0).testBit x = true) → Agree ops S a0 a → I rem a w → wpAny P .any ops Q (n + τ.length) listed a w := by
 intro n
 induction n with
 | zero =>
  intro rem listed a w hn _ hsz hcl hun _ _ _ hag hI
  obtain rfl : rem = [] := List.eq_nil_of_length_eq_zero hn
  rw [Nat.zero_add]
  exact tail_any hlow τ listed a w hsz hcl hch (fun i hi => by simpa using hun i hi) hltτ (hend a w hag hI)
 | succ n ih =>
  intro rem listed a w hn hnd hsz hcl hun hlt hS hτ hag hI
  have hne : Region.ready .any ops listed ≠ [] := by
   match rem, hn with
   | x :: r, _ =>
    have hx := hlt x (by simp)
    exact ready_some hsz hlow hx ((hun x hx).2 (.inl (by simp)))
  rw [show n + 1 + τ.length = (n + τ.length) + 1 by omega]
  refine ⟨fun h0 => absurd h0 hne, fun i hi => ?_⟩
  obtain ⟨h0, o, ho, _⟩ := mem_ready.1 hi
  have hil := (Array.getElem?_eq_some_iff.1 ho).1
  have hiu := (getD_false_iff (by omega)).1 h0
  have hmem : i ∈ rem := by
   rcases (hun i hil).1 hiu with h1 | h1
   ·exact h1
   ·exfalso
    match rem, hn with
    | x :: r, _ =>
     have hx := hlt x (by simp)
     exact ((hun x hx).2 (.inl (by simp))) (ready_deps hcl hi (hτ i h1 x (by simp)).2)
  have hs := hstep rem i o a w hmem hnd ho hag (fun j hj => by
   cases hb : ((Region.before ops).getD i 0).testBit j
   ·rfl
   ·exact absurd (ready_deps hcl hi hb) ((hun j (hlt j hj)).2 (.inl hj))) hI
  have next : ∀ a' w', (∃ v, a' = a.put o.dst v ∧ I (rem.erase i) a' w') → wpAny P .any ops Q (n + τ.length) (listed.setIfInBounds i true) a' w' := by
   rintro a' w' ⟨v, rfl, hI'⟩
   refine ih (rem.erase i) _ _ w' (by rw [List.length_erase_of_mem hmem]; omega) (hnd.erase i) (by simpa using hsz) (hcl.step hi) (fun k hk => ?_) (fun k hk => hlt k (List.mem_of_mem_erase hk)) (fun k hk => hS k (List.mem_of_mem_erase hk)) (fun t ht x hx => hτ t ht x (List.mem_of_mem_erase hx)) (hag.put (hS i hmem) ho v) hI'
   rw [hnd.mem_erase_iff]
   by_cases hik : i = k
   ·subst hik
    rw [Array.getD_eq_getD_getElem?, Array.getElem?_setIfInBounds_self_of_lt (by omega)]
    simp only [Option.getD_some, not_true_eq_false, ne_eq, false_and, false_or, false_iff]
    exact fun h1 => (hτ i h1 i hmem).1 rfl
   ·rw [getD_set_ne false hik, hun k hk]
    simp [Ne.symm hik]
  unfold wpOp
  simp only [ho]
  unfold stepOf at hs
  split
  ·rename_i hw
   rw [if_pos hw] at hs
   exact .inl (Oper.wp_mono next hs)
  ·rename_i hw
   rw [if_neg hw] at hs
   exact next _ _ hs
def genOk (ops : Array Oper) (rem τ : List Nat) : Bool :=
 chainOk (Region.before ops) τ && (τ.all (· < ops.size) && (rem.all (· < ops.size) && ((List.range ops.size).all (fun i => rem.contains i || τ.contains i) && ((τ.all fun t => rem.all fun x => t != x && ((Region.before ops).getD t 0).testBit x) && (decide rem.Nodup && (rem.length + τ.length == ops.size &&
 (List.range ops.size).all fun i => (match ops[i]? with | some o => o.after.all (fun e => !Region.binds .any e || e.on < i) | none => true)))))))
theorem wp_region_gen {Q : Exit → Act → World → Prop} (I : List Nat → Act → World → Prop) (rem τ : List Nat) {id : Nat} {a : Act} {w : World} (hm : P.follows .mixedOrders = true) (hok : genOk ops rem τ = true)
  (h0 : I rem a { w with drawn := w.drawn + 1 })
  (hstep : ∀ (rem2 : List Nat) i o a' w', i ∈ rem2 → rem2.Nodup → ops[i]? = some o → Agree ops rem a a' → (∀ j ∈ rem2, ((Region.before ops).getD i 0).testBit j = false) → I rem2 a' w' →
   stepOf P ops o a' w' (fun a'' w'' => ∃ v, a'' = a'.put o.dst v ∧ I (rem2.erase i) a'' w'') Q)
  (hend : ∀ a' w', Agree ops rem a a' → I [] a' w' → wpList P ops Q (τ.filterMap (ops[·]?)) a' w') : (Code.region id ops true).wp P Q a w := by
 simp only [genOk, Bool.and_eq_true, List.all_eq_true, List.mem_range, Bool.or_eq_true, beq_iff_eq, decide_eq_true_eq, bne_iff_ne, List.contains_iff_mem] at hok
 obtain ⟨c1, c2, c3, c4, c5, c6, c7, c8⟩ := hok
 have hlow : ∀ i o e, ops[i]? = some o → e ∈ o.after → Region.binds .any e = true → e.on < i := fun i o e ho he hb => by
  have h1 := c8 i (Array.getElem?_eq_some_iff.1 ho).1
  simp only [ho, Array.all_eq_true_iff_forall_mem, Bool.or_eq_true, Bool.not_eq_true', decide_eq_true_eq] at h1
  exact (h1 e he).resolve_left (by simp [hb])
 refine wp_region_any hm ?_
 rw [← c7]
 have hr : ∀ i, ¬ (Array.replicate (rem.length + τ.length) false).getD i false = true := fun i => by
  simp [Array.getD_eq_getD_getElem?, Array.getElem?_replicate]
  split <;> rfl
 refine gen_any (a0 := a) (S := rem) I hlow τ c1 c2 hstep hend rem.length rem _ a _ rfl c6 (by simp [c7]) ?_ (fun i hi => ⟨fun _ => c4 i hi, fun _ => hr i⟩) c3 (fun i hi => hi) (fun t ht x hx => c5 t ht x hx) ⟨rfl, rfl, fun _ _ => rfl⟩ h0
 intro i o e _ hl
 simp [Array.getD_eq_getD_getElem?, Array.getElem?_replicate] at hl
 split at hl <;> simp at hl
/-! The table. -/
def slot (a : Act) (k : Nat) : Value := a.tmps.getD k undef
theorem slot_put {a : Act} {dst : Option Tmp} {k : Nat} (v : Value) (h : dst ≠ some k) : slot (a.put dst v) k = slot a k := by
 cases dst with
 | none => rfl
 | some d =>
  have hd : d ≠ k := fun e => h (by rw [e])
  simp only [slot, Act.put, Array.getD_eq_getD_getElem?]
  rw [Array.getElem?_setIfInBounds_ne hd]
theorem slot_self {a : Act} {d : Nat} (v : Value) (h : d < a.tmps.size) : slot (a.put (some d) v) d = v := by
 simp only [slot, Act.put, Array.getD_eq_getD_getElem?]
 rw [Array.getElem?_setIfInBounds_self_of_lt h]
 rfl
def puts (v : Nat → Value) (ds : List Nat) (a : Act) : Act := ds.foldl (fun a d => a.put (some d) (v d)) a
theorem puts_defers (v : Nat → Value) : ∀ (ds : List Nat) (a : Act), (puts v ds a).defers = a.defers := by
 intro ds
 induction ds with
 | nil => intro a; rfl
 | cons d ds ih => intro a; exact (ih (a.put (some d) (v d))).trans rfl
theorem puts_size (v : Nat → Value) : ∀ (ds : List Nat) (a : Act), (puts v ds a).tmps.size = a.tmps.size := by
 intro ds
 induction ds with
 | nil => intro a; rfl
 | cons d ds ih => intro a; exact (ih (a.put (some d) (v d))).trans (by simp [Act.put])
theorem puts_get (v : Nat → Value) (k : Nat) : ∀ (ds : List Nat) (a : Act), k < a.tmps.size → slot (puts v ds a) k = if k ∈ ds then v k else slot a k := by
 intro ds
 induction ds with
 | nil => intro a _; simp [puts]
 | cons d ds ih =>
  intro a hk
  have h := ih (a.put (some d) (v d)) (by simpa [Act.put] using hk)
  show slot (puts v ds (a.put (some d) (v d))) k = _
  rw [h]
  by_cases e : k ∈ ds
  ·rw [if_pos e, if_pos (List.mem_cons_of_mem _ e)]
  ·rw [if_neg e]
   by_cases e2 : k = d
   ·subst e2
    rw [if_pos (by simp), slot_self _ hk]
   ·rw [if_neg (by simp [e, e2]), slot_put _ (by simpa using fun h => e2 h.symm)]
theorem agree_puts {S : List Nat} {a a' : Act} (h : Agree ops S a a') (ds : List Nat) (hd : (S.all fun i => match ops[i]? with | some o => (match o.dst with | some d => ds.contains d | none => true) | none => true) = true) : a' = puts (slot a') ds a := by
 obtain ⟨h1, h2, h3⟩ := h
 have hs : (puts (slot a') ds a).tmps.size = a'.tmps.size := (puts_size _ _ _).trans h2.symm
 have ht : a'.tmps = (puts (slot a') ds a).tmps := by
  apply Array.ext
  ·exact hs.symm
  ·intro k hk hk'
   have hka : k < a.tmps.size := by rw [← h2]; exact hk
   have hg := puts_get (slot a') k ds a hka
   have e1 : a'.tmps[k] = slot a' k := by simp [slot, hk]
   have e2 : (puts (slot a') ds a).tmps[k] = slot (puts (slot a') ds a) k := by simp [slot, hk']
   rw [e1, e2, hg]
   by_cases e : k ∈ ds
   ·rw [if_pos e]
   ·rw [if_neg e]
    show a'.tmps.getD k undef = a.tmps.getD k undef
    rw [Array.getD_eq_getD_getElem?, Array.getD_eq_getD_getElem?]
    refine congrArg (fun x => x.getD undef) (h3 k ?_)
    intro i o hi ho hod
    have := List.all_eq_true.1 hd i hi
    rw [ho] at this
    simp only [hod] at this
    exact e (by simpa using this)
 have hdf : a'.defers = (puts (slot a') ds a).defers := h1.trans (puts_defers _ _ _).symm
 cases a'
 cases hx : puts (slot _) ds a
 rw [hx] at ht hdf
 simp only at ht hdf
 subst ht hdf
 rfl
/-- The operations of a table: each leaves a value in a slot of its own. -/
def tabOk (ops : Array Oper) (ds : List Nat) (τ : List Nat) : Bool :=
 genOk ops (List.range ds.length) τ && ((List.range ds.length).all (fun i => match ops[i]? with | some o => o.dst == ds[i]? | none => false) && decide ds.Nodup)
theorem wp_region_tab {Q : Exit → Act → World → Prop} (Φ : Nat → Value → World → Prop) (ds τ : List Nat) {id : Nat} {a : Act} {w : World} (hm : P.follows .mixedOrders = true) (hok : tabOk ops ds τ = true)
  (hsz : (ds.all fun d => decide (d < a.tmps.size)) = true) (hst : ∀ i v w w', Φ i v w → R.G w w' → Φ i v w')
  (hstep : ∀ i, i < ds.length → ∀ o a' w', ops[i]? = some o → Agree ops (List.range ds.length) a a' → R.G w w' → (∀ j d, ((Region.before ops).getD i 0).testBit j = true → ds[j]? = some d → Φ j (slot a' d) w') →
   stepOf P ops o a' w' (fun a'' w'' => ∃ v, a'' = a'.put o.dst v ∧ R.G w' w'' ∧ Φ i v w'') Q)
  (hend : ∀ (f : Nat → Value) w', R.G w w' → (∀ i d, ds[i]? = some d → Φ i (f d) w') → wpList P ops Q (τ.filterMap (ops[·]?)) (puts f ds a) w') : (Code.region id ops true).wp P Q a w := by
 simp only [tabOk, Bool.and_eq_true, decide_eq_true_eq] at hok
 obtain ⟨k1, k2, k3⟩ := hok
 have hdst : ∀ i o, i < ds.length → ops[i]? = some o → o.dst = ds[i]? := fun i o hi ho => by
  have := List.all_eq_true.1 k2 i (List.mem_range.2 hi)
  rw [ho] at this
  simpa using this
 refine wp_region_gen (P := P) (fun rem a' w' => R.G w w' ∧ a'.tmps.size = a.tmps.size ∧ (∀ i ∈ rem, i < ds.length) ∧ ∀ i d, ds[i]? = some d → i ∉ rem → Φ i (slot a' d) w') (List.range ds.length) τ hm k1
  ⟨R.drew w, rfl, fun i hi => List.mem_range.1 hi, fun i d hd hn => absurd (List.mem_range.2 (List.getElem?_eq_some_iff.1 hd).1) hn⟩ ?_ ?_
 ·rintro rem i o a' w' hmem hnd ho hag hdep ⟨hg, hs, hlt, hf⟩
  have hil := hlt i hmem
  obtain ⟨d, hd⟩ : ∃ d, ds[i]? = some d := ⟨_, List.getElem?_eq_getElem hil⟩
  have hod := (hdst i o hil ho).trans hd
  have h := hstep i hil o a' w' ho hag hg (fun j dj hj hdj => hf j dj hdj (fun hm => by have := hdep j hm; rw [this] at hj; cases hj))
  have next : ∀ a'' w'', (∃ v, a'' = a'.put o.dst v ∧ R.G w' w'' ∧ Φ i v w'') → ∃ v, a'' = a'.put o.dst v ∧ R.G w w'' ∧ a''.tmps.size = a.tmps.size ∧ (∀ k ∈ rem.erase i, k < ds.length) ∧ ∀ k dk, ds[k]? = some dk → k ∉ rem.erase i → Φ k (slot a'' dk) w'' := by
   rintro a'' w'' ⟨v, rfl, hg2, hphi⟩
   refine ⟨v, rfl, R.trans hg hg2, by rw [hod]; simp [Act.put, hs], fun k hk => hlt k (List.mem_of_mem_erase hk), fun k dk hdk hk => ?_⟩
   by_cases e : k = i
   ·subst e
    have : dk = d := by rw [hd] at hdk; exact (Option.some.inj hdk).symm
    subst this
    rw [hod, slot_self]
    ·exact hphi
    ·rw [hs]
     exact of_decide_eq_true (List.all_eq_true.1 hsz dk (List.mem_of_getElem? hd))
   ·have hne : dk ≠ d := fun he => e (by
     subst he
     exact (List.getElem?_inj (List.getElem?_eq_some_iff.1 hdk).1 k3).1 (hdk.trans hd.symm))
    rw [hod, slot_put _ (by simpa using fun h => hne h.symm)]
    exact hst k _ _ _ (hf k dk hdk (fun hm => hk (hnd.mem_erase_iff.2 ⟨e, hm⟩))) hg2
  unfold stepOf at h ⊢
  split
  ·rename_i hw
   rw [if_pos hw] at h
   exact Oper.wp_mono next h
  ·rename_i hw
   rw [if_neg hw] at h
   exact next _ _ h
 ·rintro a' w' hag ⟨hg, hs, _, hf⟩
  have he := agree_puts hag ds (by
   rw [List.all_eq_true]
   intro i hi
   have hil := List.mem_range.1 hi
   cases ho : ops[i]? with
   | none => rfl
   | some o =>
    obtain ⟨d, hd⟩ : ∃ d, ds[i]? = some d := ⟨_, List.getElem?_eq_getElem hil⟩
    have hod := (hdst i o hil ho).trans hd
    simp only [hod]
    simpa using List.mem_of_getElem? hd)
  rw [he]
  exact hend (slot a') w' hg (fun i d hd => hf i d hd (by simp))
/-- One step: an operation that is carried out and leaves a value. -/
theorem tab_val {o : Oper} {a : Act} {w : World} {φ : Value → World → Prop} {Q : Exit → Act → World → Prop} (hg : o.guard = none) (h : ∃ v w', (execOp a.eval o).run P w = .ok (.value v) w' ∧ R.G w w' ∧ φ v w') :
  stepOf P ops o a w (fun a'' w'' => ∃ v, a'' = a.put o.dst v ∧ R.G w w'' ∧ φ v w'') Q := by
 obtain ⟨v, w', h1, h2, h3⟩ := h
 unfold stepOf Oper.wp
 rw [if_pos (by unfold Region.wanted; rw [hg]), h1]
 exact ⟨v, rfl, h2, h3⟩
/-- One step: a call. -/
theorem tab_call {o : Oper} {a : Act} {w : World} {φ : Value → World → Prop} {Q : Exit → Act → World → Prop} (hg : o.guard = none) {f : FuncId} {args : Array Value} (hx : (execOp a.eval o).run P w = .ok (.enter f args) w)
  (h : Calls P f args w fun e w' => ∃ v, e = .returned v ∧ R.G w w' ∧ φ v w') : stepOf P ops o a w (fun a'' w'' => ∃ v, a'' = a.put o.dst v ∧ R.G w w'' ∧ φ v w'') Q := by
 unfold stepOf Oper.wp
 rw [if_pos (by unfold Region.wanted; rw [hg]), hx]
 simp only [Oper.upon]
 refine h.mono ?_
 rintro e w' ⟨v, rfl, h2, h3⟩
 exact ⟨v, rfl, h2, h3⟩
end
end Go.HavG
