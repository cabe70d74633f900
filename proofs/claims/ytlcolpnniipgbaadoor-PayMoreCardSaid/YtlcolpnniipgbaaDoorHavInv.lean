/- A second rule for a region that draws its order: an invariant, one fact for each operation that is done, one for each that is not; conditions: the closed check 'invOk' on the region. -/
import Derived.Test.YtlcolpnniipgbaaDoorHavoc
namespace Go.Hav
open Go.RowKit
section
variable {P : Program} {ops : Array Oper}
/-- What a step leaves: its own fact, the facts of all that is done, what all that is not done may lean on. -/
def Keeps (ops : Array Oper) (Φ : Nat → Act → World → Prop) (Rl : Nat → World → Prop) (i : Nat) (a : Act) (w : World) (a' : Act) (w' : World) : Prop :=
  Φ i a' w' ∧ (∀ j, j < ops.size → j ≠ i → ((Region.before ops).getD j 0).testBit i = false → Φ j a w → Φ j a' w') ∧ (∀ j, j < ops.size → j ≠ i → ((Region.before ops).getD i 0).testBit j = false → Rl j w → Rl j w')
theorem inv_any {Q : Exit → Act → World → Prop} {a0 : Act} (Φ : Nat → Act → World → Prop) (Rl : Nat → World → Prop)
    (hlow : ∀ i o e, ops[i]? = some o → e ∈ o.after → Region.binds .any e = true → e.on < i)
    (hstep : ∀ i o a w, ops[i]? = some o → Agree ops (List.range ops.size) a0 a → Rl i w → (∀ j, j < ops.size → ((Region.before ops).getD i 0).testBit j = true → Φ j a w) →
      stepOf P ops o a w (fun a' w' => ∃ v, a' = a.put o.dst v ∧ Keeps ops Φ Rl i a w a' w') Q)
    (hend : ∀ a w, Agree ops (List.range ops.size) a0 a → (∀ i, i < ops.size → Φ i a w) → wpList P ops Q [] a w) :
    ∀ (n : Nat) (rem : List Nat) (listed : Array Bool) (a : Act) (w : World), rem.length = n → rem.Nodup → listed.size = ops.size → Closed ops listed → (∀ i, i < ops.size → (¬ listed.getD i false = true ↔ i ∈ rem)) →
      (∀ i ∈ rem, i < ops.size) → Agree ops (List.range ops.size) a0 a → (∀ i, i < ops.size → listed.getD i false = true → Φ i a w) → (∀ i ∈ rem, Rl i w) → wpAny P .any ops Q n listed a w := by
  intro n
  induction n with
  | zero =>
    intro rem listed a w hn _ hsz hcl hun _ hag hF _
    obtain rfl : rem = [] := List.eq_nil_of_length_eq_zero hn
    refine ⟨?_, hend a w hag fun i hi => hF i hi ?_⟩
    · have : ∀ i, i ∉ Region.ready .any ops listed := fun i hi => by
        obtain ⟨h0, o, ho, _⟩ := mem_ready.1 hi
        have hlt := (Array.getElem?_eq_some_iff.1 ho).1
        exact absurd ((hun i hlt).1 ((getD_false_iff (by omega)).1 h0)) (by simp)
      exact List.eq_nil_iff_forall_not_mem.2 this
    · have h := hun i hi
      by_cases h2 : listed.getD i false = true
      · exact h2
      · exact absurd (h.1 h2) (by simp)
  | succ n ih =>
    intro rem listed a w hn hnd hsz hcl hun hlt hag hF hR
    have hne : Region.ready .any ops listed ≠ [] := by
      match rem, hn with
      | x :: r, _ =>
        have hx := hlt x (by simp)
        exact ready_some hsz hlow hx ((hun x hx).2 (by simp))
    refine ⟨fun h0 => absurd h0 hne, fun i hi => ?_⟩
    obtain ⟨h0, o, ho, _⟩ := mem_ready.1 hi
    have hil := (Array.getElem?_eq_some_iff.1 ho).1
    have hiu := (getD_false_iff (by omega)).1 h0
    have hmem := (hun i hil).1 hiu
    have hdone : ∀ j, j < ops.size → ((Region.before ops).getD i 0).testBit j = true → listed.getD j false = true := fun j _ hb => ready_deps hcl hi hb
    have hs := hstep i o a w ho hag (hR i hmem) (fun j hj hb => hF j hj (hdone j hj hb))
    have next : ∀ a' w', (∃ v, a' = a.put o.dst v ∧ Keeps ops Φ Rl i a w a' w') → wpAny P .any ops Q n (listed.setIfInBounds i true) a' w' := by
      rintro a' w' ⟨v, rfl, k1, k2, k3⟩
      have hund : ∀ k, k < ops.size → (¬ (listed.setIfInBounds i true).getD k false = true ↔ k ∈ rem.erase i) := fun k hk => by
        rw [hnd.mem_erase_iff]
        by_cases hik : i = k
        · subst hik
          rw [Array.getD_eq_getD_getElem?, Array.getElem?_setIfInBounds_self_of_lt (by omega)]
          simp
        · rw [getD_set_ne false hik, hun k hk]
          simp [Ne.symm hik]
      refine ih (rem.erase i) _ _ w' (by rw [List.length_erase_of_mem hmem]; omega) (hnd.erase i) (by simpa using hsz) (hcl.step hi) hund (fun k hk => hlt k (List.mem_of_mem_erase hk)) (hag.put (List.mem_range.2 hil) ho v) (fun k hk hl => ?_) (fun k hk => ?_)
      · by_cases hik : i = k
        · subst hik; exact k1
        · rw [getD_set_ne false hik] at hl
          refine k2 k hk (Ne.symm hik) ?_ (hF k hk hl)
          cases hb : ((Region.before ops).getD k 0).testBit i
          · rfl
          · exact absurd (hcl.dep k hk (fun o' e ho' he hbd => hcl k o' e ho' hl he hbd) i hb) hiu
      · obtain ⟨h1, h2⟩ := hnd.mem_erase_iff.1 hk
        refine k3 k (hlt k h2) h1 ?_ (hR k h2)
        cases hb : ((Region.before ops).getD i 0).testBit k
        · rfl
        · exact absurd (hdone k (hlt k h2) hb) ((hun k (hlt k h2)).2 h2)
    unfold wpOp
    simp only [ho]
    unfold stepOf at hs
    split
    · rename_i hw
      rw [if_pos hw] at hs
      exact .inl (Oper.wp_mono next hs)
    · rename_i hw
      rw [if_neg hw] at hs
      exact next _ _ hs
/-- What is left when the first operations are done: the tail's operations, in any order that they allow. -/
def ContT (P : Program) (ops : Array Oper) (Q : Exit → Act → World → Prop) (τ : List Nat) (w0 : World) (S : List Nat) (a0 : Act) (a : Act) (F : World → Prop) : Prop :=
  ∀ (listed : Array Bool) (w : World), listed.size = ops.size → Closed ops listed → (∀ i, i < ops.size → (¬ listed.getD i false = true ↔ i ∈ τ)) → Grow w0 w → F w → Agree ops S a0 a → wpAny P .any ops Q τ.length listed a w
theorem hav_any_then {Q : Exit → Act → World → Prop} {Qp : List PanicEntry → World → Prop} {w0 : World} {a0 : Act} {S : List Nat} (hsel : Region.noSelect ops = true)
    (hlow : ∀ i o e, ops[i]? = some o → e ∈ o.after → Region.binds .any e = true → e.on < i) (hQ : ∀ ch a w, Agree ops S a0 a → Qp ch w → Q (.panic ch) a w)
    (τ : List Nat) :
    ∀ (n : Nat) (π : List (Nat × Bool)) (listed : Array Bool) (a : Act) (w : World) (F : World → Prop), π.length = n → listed.size = ops.size → Closed ops listed → pairsOk ops (Region.before ops) π = true →
      (∀ t ∈ τ, ∀ x ∈ π, t ≠ x.1 ∧ ((Region.before ops).getD t 0).testBit x.1 = true) → (∀ x ∈ π, x.1 < ops.size) → (∀ x ∈ π, x.1 ∈ S) → (∀ i, i < ops.size → (¬ listed.getD i false = true ↔ i ∈ π.map (·.1) ∨ i ∈ τ)) →
      (∀ w w', F w → Grow w w' → F w') → F w → Grow w0 w → Agree ops S a0 a →
      wpHav P ops Qp w0 (ContT P ops Q τ w0 S a0) π a F →
      wpAny P .any ops Q (n + τ.length) listed a w := by
  intro n
  induction n with
  | zero =>
    intro π listed a w F hn hsz hcl _ _ _ _ hun _ hF hG hag h
    obtain rfl : π = [] := List.eq_nil_of_length_eq_zero hn
    rw [Nat.zero_add]
    exact h listed w hsz hcl (fun i hi => by simpa using hun i hi) hG hF hag
  | succ n ih =>
    intro π listed a w F hn hsz hcl hpo hτ hπ hS hun hFs hF hG hag h
    have hne : Region.ready .any ops listed ≠ [] := by
      match π, hn with
      | x :: π', _ =>
        have hx := hπ x (by simp)
        exact ready_some hsz hlow hx ((hun x.1 hx).2 (.inl (by simp)))
    rw [show n + 1 + τ.length = (n + τ.length) + 1 by omega]
    refine ⟨fun h0 => absurd h0 hne, fun i hi => ?_⟩
    obtain ⟨h0, o, ho, _⟩ := mem_ready.1 hi
    have hil := (Array.getElem?_eq_some_iff.1 ho).1
    have hiu := (getD_false_iff (by omega)).1 h0
    have hmem : i ∈ π.map (·.1) := by
      rcases (hun i hil).1 hiu with h1 | h1
      · exact h1
      · exfalso
        match π, hn with
        | x :: π', _ =>
          have hx := hπ x (by simp)
          exact ((hun x.1 hx).2 (.inl (by simp))) (ready_deps hcl hi (hτ i h1 x (by simp)).2)
    obtain ⟨⟨i', g⟩, hm, rfl⟩ := List.mem_map.1 hmem
    simp only at *
    obtain ⟨pre, rest, rfl⟩ := List.append_of_mem hm
    have hpre : ∀ (pre : List (Nat × Bool)) (rest : List (Nat × Bool)), pairsOk ops (Region.before ops) (pre ++ (i', g) :: rest) = true → (∀ x ∈ pre, x.1 < ops.size ∧ ¬ listed.getD x.1 false = true) →
        (∀ x ∈ pre, x.2 = false ∧ ∀ ox oy, ops[x.1]? = some ox → ops[i']? = some oy → ox.apart ops oy = true) ∧ pairsOk ops (Region.before ops) (pre ++ rest) = true ∧ i' ∉ (pre ++ rest).map (·.1) := by
      intro pre
      induction pre with
      | nil =>
        intro rest hp _
        simp only [List.nil_append, pairsOk, Bool.and_eq_true, List.all_eq_true, bne_iff_ne] at hp ⊢
        refine ⟨by simp, hp.2, fun hc => ?_⟩
        obtain ⟨y, hy, he⟩ := List.mem_map.1 hc
        exact (hp.1 y hy).1 he
      | cons x pre ihp =>
        intro rest hp hx
        obtain ⟨x, gx⟩ := x
        simp only [List.cons_append, pairsOk, Bool.and_eq_true, List.all_eq_true, bne_iff_ne] at hp
        obtain ⟨r1, r2, r3⟩ := ihp rest hp.2 (fun z hz => hx z (List.mem_cons_of_mem _ hz))
        have h1 := hp.1 (i', g) (by simp)
        have hnd : ((Region.before ops).getD i' 0).testBit x = false := by
          cases hb : ((Region.before ops).getD i' 0).testBit x
          · rfl
          · exact absurd (ready_deps hcl hi hb) (hx (x, gx) (by simp)).2
        simp only [hnd, Bool.false_or, Bool.and_eq_true, Bool.not_eq_true'] at h1
        refine ⟨fun z hz => ?_, ?_, ?_⟩
        · rcases List.mem_cons.1 hz with rfl | hz
          · exact ⟨h1.2.1, fun ox oy hox hoy => by simpa [hox, hoy] using h1.2.2⟩
          · exact r1 z hz
        · simp only [List.cons_append, pairsOk, Bool.and_eq_true, List.all_eq_true, bne_iff_ne]
          refine ⟨fun y hy => hp.1 y ?_, r2⟩
          rcases List.mem_append.1 hy with hy | hy
          · exact List.mem_append_left _ hy
          · exact List.mem_append_right _ (List.mem_cons_of_mem _ hy)
        · simp only [List.cons_append, List.map_cons, List.mem_cons, not_or]
          exact ⟨h1.1, r3⟩
    obtain ⟨q1, q2, q3⟩ := hpre pre rest hpo (fun x hx => ⟨hπ x (List.mem_append_left _ hx), (hun x.1 (hπ x (List.mem_append_left _ hx))).2 (.inl (List.mem_map.2 ⟨x, List.mem_append_left _ hx, rfl⟩))⟩)
    have hf := wpHav_front hsel pre rest a F q1 h
    obtain ⟨o', ho', hf⟩ := hf
    rw [ho] at ho'
    obtain rfl := Option.some.inj ho'
    have next : ∀ (v : Value) (w' : World) (F' : World → Prop), (∀ w w', F' w → Grow w w' → F' w') → F' w' → Grow w w' → wpHav P ops Qp w0 (ContT P ops Q τ w0 S a0) (pre ++ rest) (a.put o.dst v) F' →
        wpAny P .any ops Q (n + τ.length) (listed.setIfInBounds i' true) (a.put o.dst v) w' := fun v w' F' hs1 hs2 hs3 hs4 => by
      refine ih (pre ++ rest) _ _ w' F' (by simp at hn ⊢; omega) (by simpa using hsz) (hcl.step hi) q2 (fun t ht x hx => hτ t ht x ?_) (fun x hx => hπ x ?_) (fun x hx => hS x ?_) (fun k hk => ?_) hs1 hs2 (hG.trans hs3) (hag.put (hS (i', g) (by simp)) ho v) hs4
      · rcases List.mem_append.1 hx with hx | hx
        · exact List.mem_append_left _ hx
        · exact List.mem_append_right _ (List.mem_cons_of_mem _ hx)
      · rcases List.mem_append.1 hx with hx | hx
        · exact List.mem_append_left _ hx
        · exact List.mem_append_right _ (List.mem_cons_of_mem _ hx)
      · rcases List.mem_append.1 hx with hx | hx
        · exact List.mem_append_left _ hx
        · exact List.mem_append_right _ (List.mem_cons_of_mem _ hx)
      · by_cases hik : i' = k
        · subst hik
          rw [Array.getD_eq_getD_getElem?, Array.getElem?_setIfInBounds_self_of_lt (by omega)]
          simp only [Option.getD_some, not_true_eq_false, false_iff, not_or]
          exact ⟨q3, fun h1 => (hτ i' h1 (i', g) (by simp)).1 rfl⟩
        · rw [getD_set_ne false hik, hun k hk]
          simp [Ne.symm hik]
    have fin : ∀ (Φ : Value → World → Prop) , Obl P ops Qp o a w Φ → (∀ v w', Grow w w' → Φ v w' → wpAny P .any ops Q (n + τ.length) (listed.setIfInBounds i' true) (a.put o.dst v) w') →
        wpOp P ops Q i' (wpAny P .any ops Q (n + τ.length) (listed.setIfInBounds i' true)) a w := fun Φ hO hN => by
      unfold wpOp
      simp only [ho]
      unfold Obl stepOf at hO
      split
      · rename_i hw
        rw [if_pos hw] at hO
        exact .inl (Oper.wp_mono (fun a' w' ⟨v, e, h1, h2⟩ => by rw [e]; exact hN v w' h1 h2) (wp_of_Qh (fun ch w' hc => hQ ch a w' hag hc) hO))
      · rename_i hw
        rw [if_neg hw] at hO
        obtain ⟨v, e, h1, h2⟩ := hO
        rw [e]
        exact hN v w h1 h2
    cases g
    · simp only [Bool.false_eq_true, if_false] at hf
      obtain ⟨V, hV, hf⟩ := hf
      exact fin _ (hV w hG hF) fun v w' h1 h2 => by rw [h2]; exact next V w' F hFs (hFs w w' hF h1) h1 hf
    · simp only [if_true] at hf
      obtain ⟨Φ, hst, hV, hf⟩ := hf
      exact fin _ (hV w hG hF) fun v w' h1 h2 => next v w' (fun w => F w ∧ Φ v w) (fun a b h hg => ⟨hFs a b h.1 hg, hst v a b h.2 hg⟩) ⟨hFs w w' hF h1, h2⟩ h1 (hf v)

def havOkT (ops : Array Oper) (π : List (Nat × Bool)) (τ : List Nat) : Bool :=
  Region.noSelect ops && (pairsOk ops (Region.before ops) π && ((τ.all fun t => π.all fun x => t != x.1 && ((Region.before ops).getD t 0).testBit x.1) &&
  (((List.range ops.size).all fun i => π.any (fun x => x.1 == i) || τ.contains i) && (((π.all fun x => x.1 < ops.size) && (τ.all fun x => x < ops.size)) && (π.length + τ.length == ops.size &&
  (List.range ops.size).all fun i => (match ops[i]? with | some o => o.after.all (fun e => !Region.binds .any e || e.on < i) | none => true))))))
theorem wp_region_havoc_then {Q : Exit → Act → World → Prop} (π : List (Nat × Bool)) (τ : List Nat) (Qp : List PanicEntry → World → Prop) {id : Nat} {a : Act} {w : World} (hm : P.follows .mixedOrders = true) (hok : havOkT ops π τ = true)
    (hQ : ∀ ch a' w', Agree ops (π.map (·.1)) a a' → Qp ch w' → Q (.panic ch) a' w')
    (h : wpHav P ops Qp w (ContT P ops Q τ w (π.map (·.1)) a) π a (fun _ => True)) : (Code.region id ops true).wp P Q a w := by
  simp only [havOkT, Bool.and_eq_true, List.all_eq_true, List.mem_range, Bool.or_eq_true, List.any_eq_true, beq_iff_eq, decide_eq_true_eq, bne_iff_ne, List.contains_iff_mem] at hok
  obtain ⟨c1, c2, c4, c5, ⟨c6, _⟩, c8, c9⟩ := hok
  have hg0 : Grow w { w with drawn := w.drawn + 1 } := Below.drew (Below.refl _ _)
  have hlow : ∀ i o e, ops[i]? = some o → e ∈ o.after → Region.binds .any e = true → e.on < i := fun i o e ho he hb => by
    have h1 := c9 i (Array.getElem?_eq_some_iff.1 ho).1
    simp only [ho, Array.all_eq_true_iff_forall_mem, Bool.or_eq_true, Bool.not_eq_true', decide_eq_true_eq] at h1
    exact (h1 e he).resolve_left (by simp [hb])
  refine wp_region_any hm ?_
  rw [← c8]
  refine hav_any_then (w0 := w) (a0 := a) (Qp := Qp) c1 hlow hQ τ π.length π _ a _ (fun _ => True) rfl (by simp [c8]) ?_ c2 c4 c6 (fun x hx => List.mem_map.2 ⟨x, hx, rfl⟩) (fun i hi => ?_) (fun _ _ _ _ => trivial) trivial hg0 ⟨rfl, rfl, fun _ _ => rfl⟩ h
  · intro i o e _ hl
    simp [Array.getD_eq_getD_getElem?, Array.getElem?_replicate] at hl
    split at hl <;> simp at hl
  · have hr : ¬ (Array.replicate (π.length + τ.length) false).getD i false = true := by
      simp [Array.getD_eq_getD_getElem?, Array.getElem?_replicate]
      split <;> rfl
    refine ⟨fun _ => ?_, fun _ => by simpa [c8] using hr⟩
    rcases c5 i hi with ⟨x, hx, he⟩ | hx
    · exact .inl (List.mem_map.2 ⟨x, hx, he⟩)
    · exact .inr hx

def invOk (ops : Array Oper) : Bool := (List.range ops.size).all fun i => (match ops[i]? with | some o => o.after.all (fun e => !Region.binds .any e || e.on < i) | none => true)
theorem wp_region_inv {Q : Exit → Act → World → Prop} (Φ : Nat → Act → World → Prop) (Rl : Nat → World → Prop) {id : Nat} {a : Act} {w : World} (hm : P.follows .mixedOrders = true) (hok : invOk ops = true)
    (hR : ∀ i, i < ops.size → Rl i { w with drawn := w.drawn + 1 })
    (hstep : ∀ i o a' w', ops[i]? = some o → Agree ops (List.range ops.size) a a' → Rl i w' → (∀ j, j < ops.size → ((Region.before ops).getD i 0).testBit j = true → Φ j a' w') →
      stepOf P ops o a' w' (fun a'' w'' => ∃ v, a'' = a'.put o.dst v ∧ Keeps ops Φ Rl i a' w' a'' w'') Q)
    (hend : ∀ a' w', Agree ops (List.range ops.size) a a' → (∀ i, i < ops.size → Φ i a' w') → wpList P ops Q [] a' w') : (Code.region id ops true).wp P Q a w := by
  have hlow : ∀ i o e, ops[i]? = some o → e ∈ o.after → Region.binds .any e = true → e.on < i := fun i o e ho he hb => by
    simp only [invOk, List.all_eq_true, List.mem_range] at hok
    have h1 := hok i (Array.getElem?_eq_some_iff.1 ho).1
    simp only [ho, Array.all_eq_true_iff_forall_mem, Bool.or_eq_true, Bool.not_eq_true', decide_eq_true_eq] at h1
    exact (h1 e he).resolve_left (by simp [hb])
  refine wp_region_any hm ?_
  have hr : ∀ i, ¬ (Array.replicate ops.size false).getD i false = true := fun i => by
    simp [Array.getD_eq_getD_getElem?, Array.getElem?_replicate]
    split <;> rfl
  refine inv_any (a0 := a) Φ Rl hlow hstep hend ops.size (List.range ops.size) _ a _ (by simp) List.nodup_range (by simp) ?_ (fun i hi => ⟨fun _ => List.mem_range.2 hi, fun _ => hr i⟩) (fun i hi => List.mem_range.1 hi) ⟨rfl, rfl, fun _ _ => rfl⟩ (fun i _ h => absurd h (hr i)) (fun i hi => hR i (List.mem_range.1 hi))
  intro i o e _ hl
  simp [Array.getD_eq_getD_getElem?, Array.getElem?_replicate] at hl
  split at hl <;> simp at hl
end
end Go.Hav
