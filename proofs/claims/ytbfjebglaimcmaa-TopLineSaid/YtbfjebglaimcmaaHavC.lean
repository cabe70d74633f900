/- A rule for a region that draws its order: some operations float, others come in a chain, each behind those ahead; the world is what the chain has made of it. Condition: closed checks on the region. -/
import Derived.Test.YtbfjebglaimcmaaHavG
namespace Go.HavG
open Go.RowKit
/-- Nothing is asked of the worlds. -/
def RelT : Rel where
  G _ _ := True
  refl _ := trivial
  trans _ _ := trivial
  drew _ := trivial
section
variable {P : Program} {ops : Array Oper}
/-- The walk: first what only reads, in every world of I; then the chain, at its own worlds. -/
def wpStg (P : Program) (ops : Array Oper) (I : World → Prop) (Qp : List PanicEntry → World → Prop) (Cont : Act → World → Prop) : List (Nat × Bool) → Act → World → Prop
  | [], a, w => Cont a w
  | (i, g) :: rest, a, w => ∃ o, ops[i]? = some o ∧
    if g then Obl RelT P ops Qp o a w (fun v w' => I w' ∧ wpStg P ops I Qp Cont rest (a.put o.dst v) w')
    else ∃ V : Value, (∀ w, I w → Obl RelT P ops Qp o a w (fun v w' => v = V ∧ w' = w)) ∧ wpStg P ops I Qp Cont rest (a.put o.dst V) w
variable {I : World → Prop} {Qp : List PanicEntry → World → Prop} {Cont : Act → World → Prop}
theorem wpStg_swap {x y : Nat} {g : Bool} {rest : List (Nat × Bool)} {a : Act} {w : World}
    (hsel : Region.noSelect ops = true) (hap : ∀ ox oy, ops[x]? = some ox → ops[y]? = some oy → ox.apart ops oy = true)
    (h : wpStg P ops I Qp Cont ((x, false) :: (y, g) :: rest) a w) : wpStg P ops I Qp Cont ((y, g) :: (x, false) :: rest) a w := by
  obtain ⟨ox, hox, h⟩ := h
  simp only [Bool.false_eq_true, if_false] at h
  obtain ⟨V, hV, oy, hoy, h⟩ := h
  obtain ⟨a1, a2, a3⟩ := Oper.apart_spec (hap ox oy hox hoy)
  have hsx := fun cs b => Region.noSelect_spec hsel x ox cs b hox
  have hsy := fun cs b => Region.noSelect_spec hsel y oy cs b hoy
  refine ⟨oy, hoy, ?_⟩
  cases g
  · simp only [Bool.false_eq_true, if_false] at h ⊢
    obtain ⟨U, hU, h⟩ := h
    refine ⟨U, fun w h1 => Obl.of_put hsy a1 (hU w h1), ox, hox, ?_⟩
    simp only [Bool.false_eq_true, if_false]
    refine ⟨V, fun w h1 => Obl.to_put hsx a3 (fun d hd e => a2 d e hd) (hV w h1), ?_⟩
    rw [← Act.put_comm a V U a2]
    exact h
  · simp only [if_true] at h ⊢
    refine (Obl.of_put hsy a1 h).weaken fun v w' _ ⟨hI, hr⟩ => ⟨hI, ox, hox, ?_⟩
    simp only [Bool.false_eq_true, if_false]
    refine ⟨V, fun w h1 => Obl.to_put hsx a3 (fun d hd e => a2 d e hd) (hV w h1), ?_⟩
    rw [← Act.put_comm a V v a2]
    exact hr
theorem wpStg_front {y : Nat} {g : Bool} (hsel : Region.noSelect ops = true) :
    ∀ (pre rest : List (Nat × Bool)) (a : Act) (w : World), (∀ x ∈ pre, x.2 = false ∧ ∀ ox oy, ops[x.1]? = some ox → ops[y]? = some oy → ox.apart ops oy = true) →
      wpStg P ops I Qp Cont (pre ++ (y, g) :: rest) a w → wpStg P ops I Qp Cont ((y, g) :: (pre ++ rest)) a w := by
  intro pre
  induction pre with
  | nil => intro rest a w _ h; exact h
  | cons x pre ih =>
    intro rest a w hp h
    obtain ⟨x, gx⟩ := x
    obtain ⟨hg, hap⟩ := hp (x, gx) (by simp)
    simp only at hg
    subst hg
    refine wpStg_swap hsel hap ?_
    simp only [List.cons_append, wpStg, Bool.false_eq_true, if_false] at h ⊢
    obtain ⟨ox, hox, V, hV, h⟩ := h
    exact ⟨ox, hox, V, hV, ih rest _ _ (fun z hz => hp z (List.mem_cons_of_mem _ hz)) h⟩
theorem stg_any {Q : Exit → Act → World → Prop} {a0 : Act} {S : List Nat} (hsel : Region.noSelect ops = true)
    (hlow : ∀ i o e, ops[i]? = some o → e ∈ o.after → Region.binds .any e = true → e.on < i) (hQ : ∀ ch a w, Agree ops S a0 a → Qp ch w → Q (.panic ch) a w)
    (τ : List Nat) (hch : chainOk (Region.before ops) τ = true) (hlt : ∀ i ∈ τ, i < ops.size) :
    ∀ (n : Nat) (π : List (Nat × Bool)) (listed : Array Bool) (a : Act) (w : World), π.length = n → listed.size = ops.size → Closed ops listed → pairsOk ops (Region.before ops) π = true →
      (∀ t ∈ τ, ∀ x ∈ π, t ≠ x.1 ∧ ((Region.before ops).getD t 0).testBit x.1 = true) → (∀ x ∈ π, x.1 < ops.size) → (∀ x ∈ π, x.1 ∈ S) → (∀ i, i < ops.size → (¬ listed.getD i false = true ↔ i ∈ π.map (·.1) ∨ i ∈ τ)) →
      I w → Agree ops S a0 a → wpStg P ops I Qp (fun a w => wpList P ops Q (τ.filterMap (ops[·]?)) a w) π a w → wpAny P .any ops Q (n + τ.length) listed a w := by
  intro n
  induction n with
  | zero =>
    intro π listed a w hn hsz hcl _ _ _ _ hun _ _ h
    obtain rfl : π = [] := List.eq_nil_of_length_eq_zero hn
    rw [Nat.zero_add]
    exact tail_any hlow τ listed a w hsz hcl hch (fun i hi => by simpa using hun i hi) hlt h
  | succ n ih =>
    intro π listed a w hn hsz hcl hpo hτ hπ hS hun hI hag h
    have hne : Region.ready .any ops listed ≠ [] := by
      match π, hn with
      | x :: π', _ =>
        have hx := hπ x (by simp)
        exact ready_some hsz hlow hx ((hun x.1 hx).2 (.inl (by simp)))
    rw [show n + 1 + τ.length = (n + τ.length) + 1 by omega]
    refine ⟨fun h0 => absurd h0 hne, fun i hi => ?_⟩
    obtain ⟨h0, o, ho, _⟩ := mem_ready.1 hi
    have hil := (Array.getElem?_eq_some_iff.1 ho).1
    have hiu := (getD_false_iff (by omega)).1 h0
    have hmem : i ∈ π.map (·.1) := by
      rcases (hun i hil).1 hiu with h1 | h1
      · exact h1
      · exfalso
        match π, hn with
        | x :: π', _ =>
          have hx := hπ x (by simp)
          exact ((hun x.1 hx).2 (.inl (by simp))) (ready_deps hcl hi (hτ i h1 x (by simp)).2)
    obtain ⟨⟨i', g⟩, hm, rfl⟩ := List.mem_map.1 hmem
    simp only at *
    obtain ⟨pre, rest, rfl⟩ := List.append_of_mem hm
    have hpre : ∀ (pre : List (Nat × Bool)) (rest : List (Nat × Bool)), pairsOk ops (Region.before ops) (pre ++ (i', g) :: rest) = true → (∀ x ∈ pre, x.1 < ops.size ∧ ¬ listed.getD x.1 false = true) →
        (∀ x ∈ pre, x.2 = false ∧ ∀ ox oy, ops[x.1]? = some ox → ops[i']? = some oy → ox.apart ops oy = true) ∧ pairsOk ops (Region.before ops) (pre ++ rest) = true ∧ i' ∉ (pre ++ rest).map (·.1) := by
      intro pre
      induction pre with
      | nil =>
        intro rest hp _
        simp only [List.nil_append, pairsOk, Bool.and_eq_true, List.all_eq_true, bne_iff_ne] at hp ⊢
        refine ⟨by simp, hp.2, fun hc => ?_⟩
        obtain ⟨y, hy, he⟩ := List.mem_map.1 hc
        exact (hp.1 y hy).1 he
      | cons x pre ihp =>
        intro rest hp hx
        obtain ⟨x, gx⟩ := x
        simp only [List.cons_append, pairsOk, Bool.and_eq_true, List.all_eq_true, bne_iff_ne] at hp
        obtain ⟨r1, r2, r3⟩ := ihp rest hp.2 (fun z hz => hx z (List.mem_cons_of_mem _ hz))
        have h1 := hp.1 (i', g) (by simp)
        have hnd : ((Region.before ops).getD i' 0).testBit x = false := by
          cases hb : ((Region.before ops).getD i' 0).testBit x
          · rfl
          · exact absurd (ready_deps hcl hi hb) (hx (x, gx) (by simp)).2
        simp only [hnd, Bool.false_or, Bool.and_eq_true, Bool.not_eq_true'] at h1
        refine ⟨fun z hz => ?_, ?_, ?_⟩
        · rcases List.mem_cons.1 hz with rfl | hz
          · exact ⟨h1.2.1, fun ox oy hox hoy => by simpa [hox, hoy] using h1.2.2⟩
          · exact r1 z hz
        · simp only [List.cons_append, pairsOk, Bool.and_eq_true, List.all_eq_true, bne_iff_ne]
          refine ⟨fun y hy => hp.1 y ?_, r2⟩
          rcases List.mem_append.1 hy with hy | hy
          · exact List.mem_append_left _ hy
          · exact List.mem_append_right _ (List.mem_cons_of_mem _ hy)
        · simp only [List.cons_append, List.map_cons, List.mem_cons, not_or]
          exact ⟨h1.1, r3⟩
    obtain ⟨q1, q2, q3⟩ := hpre pre rest hpo (fun x hx => ⟨hπ x (List.mem_append_left _ hx), (hun x.1 (hπ x (List.mem_append_left _ hx))).2 (.inl (List.mem_map.2 ⟨x, List.mem_append_left _ hx, rfl⟩))⟩)
    have hf := wpStg_front hsel pre rest a w q1 h
    obtain ⟨o', ho', hf⟩ := hf
    rw [ho] at ho'
    obtain rfl := Option.some.inj ho'
    have next : ∀ (v : Value) (w' : World), I w' → wpStg P ops I Qp (fun a w => wpList P ops Q (τ.filterMap (ops[·]?)) a w) (pre ++ rest) (a.put o.dst v) w' →
        wpAny P .any ops Q (n + τ.length) (listed.setIfInBounds i' true) (a.put o.dst v) w' := fun v w' hs1 hs4 => by
      refine ih (pre ++ rest) _ _ w' (by simp at hn ⊢; omega) (by simpa using hsz) (hcl.step hi) q2 (fun t ht x hx => hτ t ht x ?_) (fun x hx => hπ x ?_) (fun x hx => hS x ?_) (fun k hk => ?_) hs1 (hag.put (hS (i', g) (by simp)) ho v) hs4
      · rcases List.mem_append.1 hx with hx | hx
        · exact List.mem_append_left _ hx
        · exact List.mem_append_right _ (List.mem_cons_of_mem _ hx)
      · rcases List.mem_append.1 hx with hx | hx
        · exact List.mem_append_left _ hx
        · exact List.mem_append_right _ (List.mem_cons_of_mem _ hx)
      · rcases List.mem_append.1 hx with hx | hx
        · exact List.mem_append_left _ hx
        · exact List.mem_append_right _ (List.mem_cons_of_mem _ hx)
      · by_cases hik : i' = k
        · subst hik
          rw [Array.getD_eq_getD_getElem?, Array.getElem?_setIfInBounds_self_of_lt (by omega)]
          simp only [Option.getD_some, not_true_eq_false, false_iff, not_or]
          exact ⟨q3, fun h1 => (hτ i' h1 (i', g) (by simp)).1 rfl⟩
        · rw [getD_set_ne false hik, hun k hk]
          simp [Ne.symm hik]
    have fin : ∀ (Φ : Value → World → Prop) , Obl RelT P ops Qp o a w Φ → (∀ v w', Φ v w' → wpAny P .any ops Q (n + τ.length) (listed.setIfInBounds i' true) (a.put o.dst v) w') →
        wpOp P ops Q i' (wpAny P .any ops Q (n + τ.length) (listed.setIfInBounds i' true)) a w := fun Φ hO hN => by
      unfold wpOp
      simp only [ho]
      unfold Obl stepOf at hO
      split
      · rename_i hw
        rw [if_pos hw] at hO
        exact .inl (Oper.wp_mono (fun a' w' ⟨v, e, _, h2⟩ => by rw [e]; exact hN v w' h2) (wp_of_Qh (fun ch w' hc => hQ ch a w' hag hc) hO))
      · rename_i hw
        rw [if_neg hw] at hO
        obtain ⟨v, e, _, h2⟩ := hO
        rw [e]
        exact hN v w h2
    cases g
    · simp only [Bool.false_eq_true, if_false] at hf
      obtain ⟨V, hV, hf⟩ := hf
      exact fin _ (hV w hI) fun v w' h2 => by rw [h2.1, h2.2]; exact next V w hI hf
    · simp only [if_true] at hf
      exact fin _ hf fun v w' h2 => next v w' h2.1 h2.2
theorem wp_region_stg {Q : Exit → Act → World → Prop} (I : World → Prop) (π : List (Nat × Bool)) (τ : List Nat) (Qp : List PanicEntry → World → Prop) {id : Nat} {a : Act} {w : World} (hm : P.follows .mixedOrders = true) (hok : havOk ops π τ = true)
    (hQ : ∀ ch a' w', Agree ops (π.map (·.1)) a a' → Qp ch w' → Q (.panic ch) a' w') (hI : I w.drew)
    (h : wpStg P ops I Qp (fun a w => wpList P ops Q (τ.filterMap (ops[·]?)) a w) π a w.drew) : (Code.region id ops true).wp P Q a w := by
  simp only [havOk, Bool.and_eq_true, List.all_eq_true, List.mem_range, Bool.or_eq_true, List.any_eq_true, beq_iff_eq, decide_eq_true_eq, bne_iff_ne, List.contains_iff_mem] at hok
  obtain ⟨c1, c2, c3, c4, c5, ⟨c6, c7⟩, c8, c9⟩ := hok
  have hlow : ∀ i o e, ops[i]? = some o → e ∈ o.after → Region.binds .any e = true → e.on < i := fun i o e ho he hb => by
    have h1 := c9 i (Array.getElem?_eq_some_iff.1 ho).1
    simp only [ho, Array.all_eq_true_iff_forall_mem, Bool.or_eq_true, Bool.not_eq_true', decide_eq_true_eq] at h1
    exact (h1 e he).resolve_left (by simp [hb])
  refine wp_region_any hm ?_
  rw [← c8]
  refine stg_any (a0 := a) (Qp := Qp) c1 hlow hQ τ c3 c7 π.length π _ a _ rfl (by simp [c8]) ?_ c2 c4 c6 (fun x hx => List.mem_map.2 ⟨x, hx, rfl⟩) (fun i hi => ?_) hI ⟨rfl, rfl, fun _ _ => rfl⟩ h
  · intro i o e _ hl
    simp [Array.getD_eq_getD_getElem?, Array.getElem?_replicate] at hl
    split at hl <;> simp at hl
  · have hr : ¬ (Array.replicate (π.length + τ.length) false).getD i false = true := by
      simp [Array.getD_eq_getD_getElem?, Array.getElem?_replicate]
      split <;> rfl
    refine ⟨fun _ => ?_, fun _ => by simpa [c8] using hr⟩
    rcases c5 i hi with ⟨x, hx, he⟩ | hx
    · exact .inl (List.mem_map.2 ⟨x, hx, he⟩)
    · exact .inr hx
/-- A step that only reads. -/
theorem stg_same {i : Nat} {rest : List (Nat × Bool)} {a : Act} {w : World} {o : Oper} {V : Value} (ho : ops[i]? = some o) (hw : Region.wanted o (yielded ops a.tmps) = true)
    (h1 : ∀ w, I w → (execOp a.eval o).run P w = .ok (.value V) w) (h2 : wpStg P ops I Qp Cont rest (a.put o.dst V) w) : wpStg P ops I Qp Cont ((i, false) :: rest) a w :=
  ⟨o, ho, by
    simp only [Bool.false_eq_true, if_false]
    exact ⟨V, fun w hI => Obl.of_K fun K hK => by unfold stepOf Oper.wp; rw [if_pos hw, h1 w hI]; exact hK V w trivial ⟨rfl, rfl⟩, h2⟩⟩
/-- One that is passed over. -/
theorem stg_skip {i : Nat} {rest : List (Nat × Bool)} {a : Act} {w : World} {o : Oper} (ho : ops[i]? = some o) (hw : Region.wanted o (yielded ops a.tmps) = false)
    (h2 : wpStg P ops I Qp Cont rest (a.put o.dst undef) w) : wpStg P ops I Qp Cont ((i, false) :: rest) a w :=
  ⟨o, ho, by
    simp only [Bool.false_eq_true, if_false]
    exact ⟨undef, fun w _ => Obl.of_K fun K hK => by unfold stepOf; rw [if_neg (by rw [hw]; exact Bool.false_ne_true)]; exact hK undef w trivial ⟨rfl, rfl⟩, h2⟩⟩
/-- A step of the chain that is a call. -/
theorem stg_call {i : Nat} {rest : List (Nat × Bool)} {a : Act} {w : World} {o : Oper} {f : FuncId} {args : Array Value} (ho : ops[i]? = some o) (hw : Region.wanted o (yielded ops a.tmps) = true)
    (h0 : (execOp a.eval o).run P w = .ok (.enter f args) w)
    (h1 : Calls P f args w fun e w' => (∃ v, e = .returned v ∧ I w' ∧ wpStg P ops I Qp Cont rest (a.put o.dst v) w') ∨ (∃ ch, e = .panicked ch ∧ Qp ch w')) : wpStg P ops I Qp Cont ((i, true) :: rest) a w :=
  ⟨o, ho, by
    simp only [if_true]
    exact Obl.of_K fun K hK => by
      unfold stepOf Oper.wp
      rw [if_pos hw, h0]
      simp only [Oper.upon]
      refine h1.mono ?_
      rintro e w' (⟨v, rfl, hb, hp⟩ | ⟨ch, rfl, hp⟩)
      · exact hK v w' trivial ⟨hb, hp⟩
      · exact hp⟩
/-- A step of the chain that is no call. -/
theorem stg_val {i : Nat} {rest : List (Nat × Bool)} {a : Act} {w w' : World} {o : Oper} {v : Value} (ho : ops[i]? = some o) (hw : Region.wanted o (yielded ops a.tmps) = true)
    (h0 : (execOp a.eval o).run P w = .ok (.value v) w') (hI : I w') (h1 : wpStg P ops I Qp Cont rest (a.put o.dst v) w') : wpStg P ops I Qp Cont ((i, true) :: rest) a w :=
  ⟨o, ho, by
    simp only [if_true]
    exact Obl.of_K fun K hK => by
      unfold stepOf Oper.wp
      rw [if_pos hw, h0]
      exact hK v w' trivial ⟨hI, h1⟩⟩
end
/-- A store at the end of a chain. -/
theorem stg_store {P : Program} {ops : Array Oper} {I : World → Prop} {Qp : List PanicEntry → World → Prop} {Cont : Act → World → Prop} {i : Nat} {rest : List (Nat × Bool)} {a : Act} {w w' : World} {o : Oper} (ho : ops[i]? = some o) (hd : o.dst = none) (hw : Region.wanted o (yielded ops a.tmps) = true)
    (h0 : (execOp a.eval o).run P w = .ok .skip w') (hI : I w') (h1 : wpStg P ops I Qp Cont rest a w') : wpStg P ops I Qp Cont ((i, true) :: rest) a w :=
  ⟨o, ho, by
    simp only [if_true]
    exact Obl.of_K fun K hK => by
      unfold stepOf Oper.wp
      rw [if_pos hw, h0]
      exact hK undef w' trivial ⟨hI, by rw [hd]; exact h1⟩⟩
end Go.HavG
