/- The rule for a region that draws its order, for any relation between worlds that all operations keep; conditions: the closed check 'havOk' on the region. -/
import Derived.Orders
import Derived.Below
namespace Go.HavG
open Go.RowKit

/-- What other operations may do. -/
structure Rel where
  G : World → World → Prop
  refl : ∀ w, G w w
  trans : ∀ {a b c : World}, G a b → G b c → G a c
  drew : ∀ w : World, G w { w with drawn := w.drawn + 1 }

/-- The exits that an operation of a region may take: none but a panic of which Qp holds. -/
def Qh (Qp : List PanicEntry → World → Prop) : Exit → Act → World → Prop
  | .panic ch, _, w => Qp ch w
  | _, _, _ => False

section
variable {R : Rel} {P : Program} {ops : Array Oper}

def stepOf (P : Program) (ops : Array Oper) (o : Oper) (a : Act) (w : World) (K : Act → World → Prop) (Q : Exit → Act → World → Prop) : Prop :=
  if Region.wanted o (yielded ops a.tmps) then o.wp P a w K Q else K (a.put o.dst undef) w

def Obl (R : Rel) (P : Program) (ops : Array Oper) (Qp : List PanicEntry → World → Prop) (o : Oper) (a : Act) (w : World) (Φ : Value → World → Prop) : Prop :=
  stepOf P ops o a w (fun a' w' => ∃ v, a' = a.put o.dst v ∧ R.G w w' ∧ Φ v w') (Qh Qp)

/-- The walk: π: the operations by their numbers, each with 'true' where its value is not known ahead (it is bound then). F: what is known of every world so far. -/
def wpHav (R : Rel) (P : Program) (ops : Array Oper) (Qp : List PanicEntry → World → Prop) (w0 : World) (Cont : Act → (World → Prop) → Prop) : List (Nat × Bool) → Act → (World → Prop) → Prop
  | [], a, F => Cont a F
  | (i, g) :: rest, a, F => ∃ o, ops[i]? = some o ∧
    if g then ∃ Φ : Value → World → Prop, (∀ v w w', Φ v w → R.G w w' → Φ v w') ∧ (∀ w, R.G w0 w → F w → Obl R P ops Qp o a w Φ) ∧ ∀ v, wpHav R P ops Qp w0 Cont rest (a.put o.dst v) (fun w => F w ∧ Φ v w)
    else ∃ V : Value, (∀ w, R.G w0 w → F w → Obl R P ops Qp o a w (fun v _ => v = V)) ∧ wpHav R P ops Qp w0 Cont rest (a.put o.dst V) F

theorem put_inj {a : Act} {x y : Option Tmp} {v u u' : Value} (h : (a.put x v).put y u = (a.put x v).put y u') : a.put y u = a.put y u' := by
  cases y with
  | none => rfl
  | some k =>
    have hs : (a.put x v).tmps.size = a.tmps.size := by cases x <;> simp [Act.put]
    by_cases hk : k < a.tmps.size
    · have h1 := congrArg (fun b : Act => b.tmps[k]?) h
      have hk' : k < (a.put x v).tmps.size := by rw [hs]; exact hk
      have e : ∀ z : Value, ((a.put x v).put (some k) z).tmps[k]? = some z := fun z => by
        show ((a.put x v).tmps.setIfInBounds k z)[k]? = some z
        rw [Array.getElem?_setIfInBounds_self_of_lt hk']
      simp only [e] at h1
      rw [Option.some.inj h1]
    · have e : ∀ z : Value, a.put (some k) z = a := fun z => by
        show ({ a with tmps := a.tmps.setIfInBounds k z } : Act) = a
        rw [show a.tmps.setIfInBounds k z = a.tmps by simp [Array.setIfInBounds, hk]]
      rw [e, e]

theorem put_defers_ne {a : Act} {x y : Option Tmp} {v u : Value} {d : Deferred} {ds : List Deferred} (hd : ds = d :: a.defers) (h : ({ a with defers := ds } : Act).put x v = a.put y u) : False := by
  have h1 := congrArg Act.defers h
  have e1 : (({ a with defers := ds } : Act).put x v).defers = ds := by cases x <;> rfl
  have e2 : (a.put y u).defers = a.defers := by cases y <;> rfl
  rw [e1, e2, hd] at h1
  exact absurd h1 (by simp)

/-- An obligation does not hang on a slot at which the operation does not look. -/
theorem Obl.of_put {Qp : List PanicEntry → World → Prop} {o : Oper} (hs : ∀ cs b, o.op ≠ .select cs b) {a : Act} {x : Option Tmp} {v : Value} {w : World} {Φ : Value → World → Prop}
    (hl : ∀ d, x = some d → d ∉ o.looksAt ops) (h : Obl R P ops Qp o (a.put x v) w Φ) : Obl R P ops Qp o a w Φ := by
  unfold Obl stepOf at *
  rw [wanted_put o a x v hl] at h
  split
  · rename_i hw
    rw [if_pos hw] at h
    unfold Oper.wp at *
    rw [execOp_put o hs a x v hl] at h
    have key : ∀ u w', (∃ v', (a.put x v).put o.dst u = (a.put x v).put o.dst v' ∧ R.G w w' ∧ Φ v' w') → ∃ v', a.put o.dst u = a.put o.dst v' ∧ R.G w w' ∧ Φ v' w' :=
      fun u w' ⟨v', h1, h2, h3⟩ => ⟨v', put_inj h1, h2, h3⟩
    cases hr : (execOp a.eval o).run P w with
    | ok n w' =>
      rw [hr] at h
      cases n <;> simp only [Oper.upon] at h ⊢
      case value u => exact key u w' h
      case skip => exact key _ w' h
      case defer d =>
        obtain ⟨v', h1, _⟩ := h
        exact (put_defers_ne (ds := d :: (a.put x v).defers) rfl h1).elim
      case enter f args =>
        refine Calls.mono h fun e w'' he => ?_
        cases e with
        | returned u => exact key u w'' he
        | panicked ch => exact he
        | outgrown => exact he
      case row row args => exact Rows.mono h fun u w'' he => key u w'' he
      all_goals exact h
    | halt x' w' =>
      rw [hr] at h
      cases x' <;> simp only [Oper.upon] at h ⊢ <;> exact h
  · rename_i hw
    rw [if_neg hw] at h
    obtain ⟨v', h1, h2, h3⟩ := h
    exact ⟨v', put_inj h1, h2, h3⟩

theorem Obl.to_put {Qp : List PanicEntry → World → Prop} {o : Oper} (hs : ∀ cs b, o.op ≠ .select cs b) {a : Act} {x : Option Tmp} {v : Value} {w : World} {Φ : Value → World → Prop}
    (hl : ∀ d, x = some d → d ∉ o.looksAt ops) (hd : ∀ d, x = some d → o.dst ≠ some d) (h : Obl R P ops Qp o a w Φ) : Obl R P ops Qp o (a.put x v) w Φ := by
  unfold Obl stepOf at *
  rw [wanted_put o a x v hl]
  have key : ∀ u w', (∃ v', a.put o.dst u = a.put o.dst v' ∧ R.G w w' ∧ Φ v' w') → ∃ v', (a.put x v).put o.dst u = (a.put x v).put o.dst v' ∧ R.G w w' ∧ Φ v' w' :=
    fun u w' ⟨v', h1, h2, h3⟩ => ⟨v', by rw [Act.put_comm a v u hd, Act.put_comm a v v' hd, h1], h2, h3⟩
  split
  · rename_i hw
    rw [if_pos hw] at h
    unfold Oper.wp at *
    rw [execOp_put o hs a x v hl]
    cases hr : (execOp a.eval o).run P w with
    | ok n w' =>
      rw [hr] at h
      cases n <;> simp only [Oper.upon] at h ⊢
      case value u => exact key u w' h
      case skip => exact key _ w' h
      case defer d =>
        obtain ⟨v', h1, _⟩ := h
        exact (put_defers_ne (ds := d :: a.defers) rfl h1).elim
      case enter f args =>
        refine Calls.mono h fun e w'' he => ?_
        cases e with
        | returned u => exact key u w'' he
        | panicked ch => exact he
        | outgrown => exact he
      case row row args => exact Rows.mono h fun u w'' he => key u w'' he
      all_goals exact h
    | halt x' w' =>
      rw [hr] at h
      cases x' <;> simp only [Oper.upon] at h ⊢ <;> exact h
  · rename_i hw
    rw [if_neg hw] at h
    obtain ⟨v', h1, h2, h3⟩ := h
    exact ⟨v', by rw [Act.put_comm a v undef hd, Act.put_comm a v v' hd, h1], h2, h3⟩

theorem Obl.weaken {Qp : List PanicEntry → World → Prop} {o : Oper} {a : Act} {w : World} {Φ Ψ : Value → World → Prop} (h : Obl R P ops Qp o a w Φ) (hi : ∀ v w', R.G w w' → Φ v w' → Ψ v w') : Obl R P ops Qp o a w Ψ := by
  unfold Obl stepOf at *
  split
  · rename_i hw
    rw [if_pos hw] at h
    exact Oper.wp_mono (fun a' w' ⟨v, h1, h2, h3⟩ => ⟨v, h1, h2, hi v w' h2 h3⟩) h
  · rename_i hw
    rw [if_neg hw] at h
    obtain ⟨v, h1, h2, h3⟩ := h
    exact ⟨v, h1, h2, hi v w h2 h3⟩

/-- Two neighbours of the walk change places. -/
theorem wpHav_swap {Qp : List PanicEntry → World → Prop} {w0 : World} {Cont : Act → (World → Prop) → Prop} {x y : Nat} {g : Bool} {rest : List (Nat × Bool)} {a : Act} {F : World → Prop}
    (hsel : Region.noSelect ops = true) (hap : ∀ ox oy, ops[x]? = some ox → ops[y]? = some oy → ox.apart ops oy = true)
    (h : wpHav R P ops Qp w0 Cont ((x, false) :: (y, g) :: rest) a F) : wpHav R P ops Qp w0 Cont ((y, g) :: (x, false) :: rest) a F := by
  obtain ⟨ox, hox, h⟩ := h
  simp only [Bool.false_eq_true, if_false] at h
  obtain ⟨V, hV, oy, hoy, h⟩ := h
  obtain ⟨a1, a2, a3⟩ := Oper.apart_spec (hap ox oy hox hoy)
  have hsx := fun cs b => Region.noSelect_spec hsel x ox cs b hox
  have hsy := fun cs b => Region.noSelect_spec hsel y oy cs b hoy
  refine ⟨oy, hoy, ?_⟩
  cases g
  · simp only [Bool.false_eq_true, if_false] at h ⊢
    obtain ⟨U, hU, h⟩ := h
    refine ⟨U, fun w h1 h2 => Obl.of_put hsy a1 (hU w h1 h2), ox, hox, ?_⟩
    simp only [Bool.false_eq_true, if_false]
    refine ⟨V, fun w h1 h2 => Obl.to_put hsx a3 (fun d hd e => a2 d e hd) (hV w h1 h2), ?_⟩
    rw [← Act.put_comm a V U a2]
    exact h
  · simp only [if_true] at h ⊢
    obtain ⟨Φ, hst, hU, h⟩ := h
    refine ⟨Φ, hst, fun w h1 h2 => Obl.of_put hsy a1 (hU w h1 h2), fun u => ⟨ox, hox, ?_⟩⟩
    simp only [Bool.false_eq_true, if_false]
    refine ⟨V, fun w h1 h2 => Obl.to_put hsx a3 (fun d hd e => a2 d e hd) (hV w h1 h2.1), ?_⟩
    rw [← Act.put_comm a V u a2]
    exact h u

theorem wpHav_front {Qp : List PanicEntry → World → Prop} {w0 : World} {Cont : Act → (World → Prop) → Prop} {y : Nat} {g : Bool} (hsel : Region.noSelect ops = true) :
    ∀ (pre rest : List (Nat × Bool)) (a : Act) (F : World → Prop), (∀ x ∈ pre, x.2 = false ∧ ∀ ox oy, ops[x.1]? = some ox → ops[y]? = some oy → ox.apart ops oy = true) →
      wpHav R P ops Qp w0 Cont (pre ++ (y, g) :: rest) a F → wpHav R P ops Qp w0 Cont ((y, g) :: (pre ++ rest)) a F := by
  intro pre
  induction pre with
  | nil => intro rest a F _ h; exact h
  | cons x pre ih =>
    intro rest a F hp h
    obtain ⟨x, gx⟩ := x
    obtain ⟨hg, hap⟩ := hp (x, gx) (by simp)
    simp only at hg
    subst hg
    refine wpHav_swap hsel hap ?_
    simp only [List.cons_append, wpHav, Bool.false_eq_true, if_false] at h ⊢
    obtain ⟨ox, hox, V, hV, h⟩ := h
    exact ⟨ox, hox, V, hV, ih rest _ _ (fun z hz => hp z (List.mem_cons_of_mem _ hz)) h⟩

/-! The closed check. -/

def dep (ops : Array Oper) (i j : Nat) : Bool := ((Region.before ops).getD i 0).testBit j

/-- The pairs of the walk: none twice; what is behind hangs on what is ahead, or does not touch it (and what is ahead is known). -/
def pairsOk (ops : Array Oper) (b : Array Nat) : List (Nat × Bool) → Bool
  | [] => true
  | (x, g) :: rest => (rest.all fun y => y.1 != x && ((b.getD y.1 0).testBit x || (!g && (match ops[x]?, ops[y.1]? with | some ox, some oy => ox.apart ops oy | _, _ => true)))) && pairsOk ops b rest
def chainOk (b : Array Nat) : List Nat → Bool
  | [] => true
  | x :: rest => (rest.all fun y => y != x && (b.getD y 0).testBit x) && chainOk b rest
def havOk (ops : Array Oper) (π : List (Nat × Bool)) (τ : List Nat) : Bool :=
  Region.noSelect ops && (pairsOk ops (Region.before ops) π && (chainOk (Region.before ops) τ && ((τ.all fun t => π.all fun x => t != x.1 && ((Region.before ops).getD t 0).testBit x.1) &&
  (((List.range ops.size).all fun i => π.any (fun x => x.1 == i) || τ.contains i) && (((π.all fun x => x.1 < ops.size) && (τ.all fun x => x < ops.size)) && (π.length + τ.length == ops.size &&
  (List.range ops.size).all fun i => (match ops[i]? with | some o => o.after.all (fun e => !Region.binds .any e || e.on < i) | none => true)))))))

theorem mask_spec (acc : Array Nat) (j : Nat) : ∀ (l : List Edge) (s : Nat), (l.foldl (fun s e => if Region.binds .any e then s ||| 2 ^ e.on ||| acc.getD e.on 0 else s) s).testBit j = true →
    s.testBit j = true ∨ ∃ e ∈ l, Region.binds .any e = true ∧ (j = e.on ∨ (acc.getD e.on 0).testBit j = true) := by
  intro l
  induction l with
  | nil => intro s h; exact .inl h
  | cons e l ih =>
    intro s h
    simp only [List.foldl_cons] at h
    rcases ih _ h with h1 | ⟨e', he', hb, h1⟩
    · by_cases hb : Region.binds .any e = true
      · rw [if_pos hb, Nat.testBit_or, Nat.testBit_or, Bool.or_eq_true, Bool.or_eq_true] at h1
        rcases h1 with (h1 | h1) | h1
        · exact .inl h1
        · rw [Nat.testBit_two_pow, decide_eq_true_eq] at h1
          exact .inr ⟨e, by simp, hb, .inl h1.symm⟩
        · exact .inr ⟨e, by simp, hb, .inr h1⟩
      · rw [if_neg hb] at h1
        exact .inl h1
    · exact .inr ⟨e', by simp [he'], hb, h1⟩

theorem before_spec_list : ∀ (l done : List Oper) (acc : Array Nat), acc.size = done.length →
    (∀ i, i < done.length → ∀ j, (acc.getD i 0).testBit j = true → ∃ o e, done[i]? = some o ∧ e ∈ o.after ∧ Region.binds .any e = true ∧ (j = e.on ∨ (e.on < i ∧ (acc.getD e.on 0).testBit j = true))) →
    let r := l.foldl (fun acc o => acc.push (o.after.foldl (fun s e => if Region.binds .any e then s ||| 2 ^ e.on ||| acc.getD e.on 0 else s) 0)) acc
    ∀ i, i < (done ++ l).length → ∀ j, (r.getD i 0).testBit j = true → ∃ o e, (done ++ l)[i]? = some o ∧ e ∈ o.after ∧ Region.binds .any e = true ∧ (j = e.on ∨ (e.on < i ∧ (r.getD e.on 0).testBit j = true)) := by
  intro l
  induction l with
  | nil => intro done acc _ h; simpa using h
  | cons o l ih =>
    intro done acc hsz h
    simp only [List.foldl_cons]
    have := ih (done ++ [o]) (acc.push (o.after.foldl (fun s e => if Region.binds .any e then s ||| 2 ^ e.on ||| acc.getD e.on 0 else s) 0)) (by simp [hsz]) ?_
    · simpa using this
    · intro i hi j hj
      simp only [List.length_append, List.length_cons, List.length_nil] at hi
      have old : ∀ k, k < done.length → (acc.push (o.after.foldl (fun s e => if Region.binds .any e then s ||| 2 ^ e.on ||| acc.getD e.on 0 else s) 0)).getD k 0 = acc.getD k 0 := fun k hk => by
        simp only [Array.getD_eq_getD_getElem?, Array.getElem?_push]
        rw [if_neg (by omega)]
      by_cases hlt : i < done.length
      · rw [old i hlt] at hj
        obtain ⟨o', e, h1, h2, h3, h4⟩ := h i hlt j hj
        refine ⟨o', e, by rw [List.getElem?_append_left hlt]; exact h1, h2, h3, ?_⟩
        rcases h4 with h4 | ⟨h4, h5⟩
        · exact .inl h4
        · exact .inr ⟨h4, by rw [old _ (by omega)]; exact h5⟩
      · obtain rfl : i = done.length := by omega
        have new : (acc.push (o.after.foldl (fun s e => if Region.binds .any e then s ||| 2 ^ e.on ||| acc.getD e.on 0 else s) 0)).getD done.length 0 = o.after.foldl (fun s e => if Region.binds .any e then s ||| 2 ^ e.on ||| acc.getD e.on 0 else s) 0 := by
          simp only [Array.getD_eq_getD_getElem?, Array.getElem?_push]
          rw [if_pos hsz.symm]
          rfl
        rw [new, ← Array.foldl_toList] at hj
        rcases mask_spec acc j _ _ hj with h1 | ⟨e, he, hb, h1⟩
        · simp at h1
        · refine ⟨o, e, by simp, Array.mem_toList_iff.1 he, hb, ?_⟩
          rcases h1 with h1 | h1
          · exact .inl h1
          · have hlt : e.on < done.length := by
              rcases Nat.lt_or_ge e.on done.length with h' | h'
              · exact h'
              · rw [Array.getD_eq_getD_getElem?, Array.getElem?_eq_none (by omega)] at h1
                simp at h1
            exact .inr ⟨hlt, by rw [old _ hlt]; exact h1⟩

theorem before_spec (ops : Array Oper) (i j : Nat) (hi : i < ops.size) (h : ((Region.before ops).getD i 0).testBit j = true) :
    ∃ o e, ops[i]? = some o ∧ e ∈ o.after ∧ Region.binds .any e = true ∧ (j = e.on ∨ (e.on < i ∧ ((Region.before ops).getD e.on 0).testBit j = true)) := by
  have e : Region.before ops = ops.toList.foldl (fun acc o => acc.push (o.after.foldl (fun s e => if Region.binds .any e then s ||| 2 ^ e.on ||| acc.getD e.on 0 else s) 0)) #[] := by
    rw [Array.foldl_toList]; rfl
  have := before_spec_list ops.toList [] #[] (by simp) (by simp) i (by simpa using hi) j (by rw [← e]; exact h)
  rw [← e] at this
  simpa using this

/-- The operations that are listed hold with each what it hangs on. -/
def Closed (ops : Array Oper) (listed : Array Bool) : Prop :=
  ∀ i o e, ops[i]? = some o → listed.getD i false = true → e ∈ o.after → Region.binds .any e = true → listed.getD e.on false = true

theorem Closed.dep {listed : Array Bool} (h : Closed ops listed) : ∀ (i : Nat), i < ops.size → (∀ o e, ops[i]? = some o → e ∈ o.after → Region.binds .any e = true → listed.getD e.on false = true) →
    ∀ j, ((Region.before ops).getD i 0).testBit j = true → listed.getD j false = true := by
  intro i
  induction i using Nat.strongRecOn with
  | ind i ih =>
    intro hi hd j hj
    obtain ⟨o, e, ho, he, hb, h1⟩ := before_spec ops i j hi hj
    have hl := hd o e ho he hb
    rcases h1 with rfl | ⟨hlt, h1⟩
    · exact hl
    · exact ih e.on hlt (by omega) (fun o' e' ho' he' hb' => h e.on o' e' ho' hl he' hb') j h1

theorem ready_deps {listed : Array Bool} (h : Closed ops listed) {i : Nat} (hr : i ∈ Region.ready .any ops listed) {j : Nat} (hj : ((Region.before ops).getD i 0).testBit j = true) : listed.getD j false = true := by
  obtain ⟨_, o, ho, hall⟩ := mem_ready.1 hr
  exact h.dep i (Array.getElem?_eq_some_iff.1 ho).1 (fun o' e ho' he hb => by
    rw [ho] at ho'
    obtain rfl := Option.some.inj ho'
    exact hall e he hb) j hj

theorem Closed.step {listed : Array Bool} (h : Closed ops listed) {i : Nat} (hr : i ∈ Region.ready .any ops listed) : Closed ops (listed.setIfInBounds i true) := by
  intro k o e ho hl he hb
  by_cases hk : i = k
  · subst hk
    obtain ⟨_, o', ho', hall⟩ := mem_ready.1 hr
    rw [ho] at ho'
    obtain rfl := Option.some.inj ho'
    exact getD_set_true (hall e he hb)
  · rw [getD_set_ne false hk] at hl
    exact getD_set_true (h k o e ho hl he hb)

theorem exists_least {p : Nat → Prop} : ∀ n, p n → ∃ m, p m ∧ ∀ k, k < m → ¬ p k := by
  intro n
  induction n using Nat.strongRecOn with
  | ind n ih =>
    intro hn
    by_cases h : ∃ k, k < n ∧ p k
    · obtain ⟨k, hk, hp⟩ := h
      exact ih k hk hp
    · exact ⟨n, hn, fun k hk hp => h ⟨k, hk, hp⟩⟩

/-- What the region's operations, those of S, do not write is as it was. -/
def Agree (ops : Array Oper) (S : List Nat) (a0 a : Act) : Prop :=
  a.defers = a0.defers ∧ a.tmps.size = a0.tmps.size ∧ ∀ k, (∀ (i : Nat) (o : Oper), i ∈ S → ops[i]? = some o → o.dst ≠ some k) → a.tmps[k]? = a0.tmps[k]?
theorem Agree.put {S : List Nat} {a0 a : Act} (h : Agree ops S a0 a) {i : Nat} {o : Oper} (hi : i ∈ S) (ho : ops[i]? = some o) (v : Value) : Agree ops S a0 (a.put o.dst v) := by
  obtain ⟨h1, h2, h3⟩ := h
  cases hd : o.dst with
  | none => exact ⟨h1, h2, h3⟩
  | some d =>
    refine ⟨h1, by simpa [Act.put] using h2, fun k hk => ?_⟩
    have : d ≠ k := fun e => hk i o hi ho (by rw [hd, e])
    simp only [Act.put]
    rw [Array.getElem?_setIfInBounds_ne this]
    exact h3 k hk

/-- A slot that no operation of S writes. -/
theorem Agree.slot {S : List Nat} {a0 a : Act} (h : Agree ops S a0 a) (k : Nat) (hk : (S.all fun i => match ops[i]? with | some o => o.dst != some k | none => true) = true) : a.tmps.getD k undef = a0.tmps.getD k undef := by
  rw [Array.getD_eq_getD_getElem?, Array.getD_eq_getD_getElem?, h.2.2 k fun i o hi ho => ?_]
  have h1 := List.all_eq_true.1 hk i hi
  rw [ho] at h1
  simpa using h1
theorem wp_of_Qh {Qp : List PanicEntry → World → Prop} {Q : Exit → Act → World → Prop} {o : Oper} {a : Act} {w : World} {K : Act → World → Prop} (hq : ∀ ch w', Qp ch w' → Q (.panic ch) a w') (h : o.wp P a w K (Qh Qp)) : o.wp P a w K Q := by
  unfold Oper.wp at *
  cases hr : (execOp a.eval o).run P w with
  | ok n w' =>
    rw [hr] at h
    cases n <;> simp only [Oper.upon] at h ⊢
    case enter f args =>
      refine Calls.mono h fun e w'' he => ?_
      cases e with
      | returned u => exact he
      | panicked ch => exact hq _ _ he
      | outgrown => obtain ⟨_, _, hf⟩ := he; exact hf.elim
    all_goals exact h
  | halt x' w' =>
    rw [hr] at h
    cases x' <;> simp only [Oper.upon] at h ⊢
    case panic v => exact hq _ _ h
    all_goals exact h

theorem getD_false_iff {listed : Array Bool} {i : Nat} (hi : i < listed.size) : listed.getD i true = false ↔ ¬ listed.getD i false = true := by
  simp [Array.getD_eq_getD_getElem?, Array.getElem?_eq_getElem hi]

/-- There is an operation that can be taken, if any is left. -/
theorem ready_some {listed : Array Bool} (hsz : listed.size = ops.size) (hlow : ∀ i o e, ops[i]? = some o → e ∈ o.after → Region.binds .any e = true → e.on < i)
    {i : Nat} (hi : i < ops.size) (hl : ¬ listed.getD i false = true) : Region.ready .any ops listed ≠ [] := by
  obtain ⟨m, ⟨hm1, hm2⟩, hmin⟩ := exists_least (p := fun i => i < ops.size ∧ ¬ listed.getD i false = true) i ⟨hi, hl⟩
  have hr : m ∈ Region.ready .any ops listed := mem_ready.2 ⟨(getD_false_iff (by omega)).2 hm2, ops[m], Array.getElem?_eq_getElem hm1, fun e he hb => by
    have := hlow m _ e (Array.getElem?_eq_getElem hm1) he hb
    have h2 := hmin e.on this
    by_cases h3 : listed.getD e.on false = true
    · exact h3
    · exact absurd ⟨by omega, h3⟩ h2⟩
  intro h
  rw [h] at hr
  cases hr

/-- The tail: its operations come one behind the other. -/
theorem tail_any {Q : Exit → Act → World → Prop} (hlow : ∀ i o e, ops[i]? = some o → e ∈ o.after → Region.binds .any e = true → e.on < i) :
    ∀ (τ : List Nat) (listed : Array Bool) (a : Act) (w : World), listed.size = ops.size → Closed ops listed → chainOk (Region.before ops) τ = true → (∀ i, i < ops.size → (¬ listed.getD i false = true ↔ i ∈ τ)) →
      (∀ i ∈ τ, i < ops.size) → wpList P ops Q (τ.filterMap (ops[·]?)) a w → wpAny P .any ops Q τ.length listed a w := by
  intro τ
  induction τ with
  | nil =>
    intro listed a w hsz _ _ hun _ h
    refine ⟨?_, h⟩
    have : ∀ i, i ∉ Region.ready .any ops listed := fun i hi => by
      obtain ⟨h0, o, ho, _⟩ := mem_ready.1 hi
      have hlt := (Array.getElem?_eq_some_iff.1 ho).1
      exact absurd ((hun i hlt).1 ((getD_false_iff (by omega)).1 h0)) (by simp)
    exact List.eq_nil_iff_forall_not_mem.2 this
  | cons t τ ih =>
    intro listed a w hsz hcl hch hun hlt h
    simp only [chainOk, Bool.and_eq_true, List.all_eq_true, bne_iff_ne] at hch
    obtain ⟨hch1, hch2⟩ := hch
    have htl := hlt t (by simp)
    have htu := (hun t htl).2 (by simp)
    have only : ∀ i, i ∈ Region.ready .any ops listed → i = t := fun i hi => by
      obtain ⟨h0, o, ho, _⟩ := mem_ready.1 hi
      have hil := (Array.getElem?_eq_some_iff.1 ho).1
      have hm := (hun i hil).1 ((getD_false_iff (by omega)).1 h0)
      rcases List.mem_cons.1 hm with h1 | h1
      · exact h1
      · exact absurd (ready_deps hcl hi (hch1 i h1).2) htu
    refine ⟨fun h0 => absurd h0 (ready_some hsz hlow htl htu), fun i hi => ?_⟩
    obtain rfl := only i hi
    have hoi : ops[i]? = some ops[i] := Array.getElem?_eq_getElem htl
    rw [List.filterMap_cons_some hoi] at h
    unfold wpOp
    simp only [hoi]
    simp only [wpList] at h
    have next : ∀ a' w', wpList P ops Q (τ.filterMap (ops[·]?)) a' w' → wpAny P .any ops Q τ.length (listed.setIfInBounds i true) a' w' := fun a' w' h' => by
      refine ih _ a' w' (by simpa using hsz) (hcl.step hi) hch2 (fun k hk => ?_) (fun k hk => hlt k (List.mem_cons_of_mem _ hk)) h'
      by_cases hik : i = k
      · subst hik
        rw [Array.getD_eq_getD_getElem?, Array.getElem?_setIfInBounds_self_of_lt (by omega)]
        simp only [Option.getD_some, not_true_eq_false, false_iff]
        exact fun h1 => (hch1 i h1).1 rfl
      · rw [getD_set_ne false hik, hun k hk]
        simp [Ne.symm hik]
    split
    · rename_i hw
      rw [if_pos hw] at h
      exact h.imp (Oper.wp_mono next) id
    · rename_i hw
      rw [if_neg hw] at h
      exact next _ _ h

theorem hav_any {Q : Exit → Act → World → Prop} {Qp : List PanicEntry → World → Prop} {w0 : World} {a0 : Act} {S : List Nat} (hsel : Region.noSelect ops = true)
    (hlow : ∀ i o e, ops[i]? = some o → e ∈ o.after → Region.binds .any e = true → e.on < i) (hQ : ∀ ch a w, Agree ops S a0 a → Qp ch w → Q (.panic ch) a w)
    (τ : List Nat) (hch : chainOk (Region.before ops) τ = true) (hlt : ∀ i ∈ τ, i < ops.size) :
    ∀ (n : Nat) (π : List (Nat × Bool)) (listed : Array Bool) (a : Act) (w : World) (F : World → Prop), π.length = n → listed.size = ops.size → Closed ops listed → pairsOk ops (Region.before ops) π = true →
      (∀ t ∈ τ, ∀ x ∈ π, t ≠ x.1 ∧ ((Region.before ops).getD t 0).testBit x.1 = true) → (∀ x ∈ π, x.1 < ops.size) → (∀ x ∈ π, x.1 ∈ S) → (∀ i, i < ops.size → (¬ listed.getD i false = true ↔ i ∈ π.map (·.1) ∨ i ∈ τ)) →
      (∀ w w', F w → R.G w w' → F w') → F w → R.G w0 w → Agree ops S a0 a →
      wpHav R P ops Qp w0 (fun a F => ∀ w, R.G w0 w → F w → wpList P ops Q (τ.filterMap (ops[·]?)) a w) π a F →
      wpAny P .any ops Q (n + τ.length) listed a w := by
  intro n
  induction n with
  | zero =>
    intro π listed a w F hn hsz hcl _ _ _ _ hun _ hF hG _ h
    obtain rfl : π = [] := List.eq_nil_of_length_eq_zero hn
    rw [Nat.zero_add]
    exact tail_any hlow τ listed a w hsz hcl hch (fun i hi => by simpa using hun i hi) hlt (h w hG hF)
  | succ n ih =>
    intro π listed a w F hn hsz hcl hpo hτ hπ hS hun hFs hF hG hag h
    have hne : Region.ready .any ops listed ≠ [] := by
      match π, hn with
      | x :: π', _ =>
        have hx := hπ x (by simp)
        exact ready_some hsz hlow hx ((hun x.1 hx).2 (.inl (by simp)))
    rw [show n + 1 + τ.length = (n + τ.length) + 1 by omega]
    refine ⟨fun h0 => absurd h0 hne, fun i hi => ?_⟩
    obtain ⟨h0, o, ho, _⟩ := mem_ready.1 hi
    have hil := (Array.getElem?_eq_some_iff.1 ho).1
    have hiu := (getD_false_iff (by omega)).1 h0
    have hmem : i ∈ π.map (·.1) := by
      rcases (hun i hil).1 hiu with h1 | h1
      · exact h1
      · exfalso
        match π, hn with
        | x :: π', _ =>
          have hx := hπ x (by simp)
          exact ((hun x.1 hx).2 (.inl (by simp))) (ready_deps hcl hi (hτ i h1 x (by simp)).2)
    obtain ⟨⟨i', g⟩, hm, rfl⟩ := List.mem_map.1 hmem
    simp only at *
    obtain ⟨pre, rest, rfl⟩ := List.append_of_mem hm
    have hpre : ∀ (pre : List (Nat × Bool)) (rest : List (Nat × Bool)), pairsOk ops (Region.before ops) (pre ++ (i', g) :: rest) = true → (∀ x ∈ pre, x.1 < ops.size ∧ ¬ listed.getD x.1 false = true) →
        (∀ x ∈ pre, x.2 = false ∧ ∀ ox oy, ops[x.1]? = some ox → ops[i']? = some oy → ox.apart ops oy = true) ∧ pairsOk ops (Region.before ops) (pre ++ rest) = true ∧ i' ∉ (pre ++ rest).map (·.1) := by
      intro pre
      induction pre with
      | nil =>
        intro rest hp _
        simp only [List.nil_append, pairsOk, Bool.and_eq_true, List.all_eq_true, bne_iff_ne] at hp ⊢
        refine ⟨by simp, hp.2, fun hc => ?_⟩
        obtain ⟨y, hy, he⟩ := List.mem_map.1 hc
        exact (hp.1 y hy).1 he
      | cons x pre ihp =>
        intro rest hp hx
        obtain ⟨x, gx⟩ := x
        simp only [List.cons_append, pairsOk, Bool.and_eq_true, List.all_eq_true, bne_iff_ne] at hp
        obtain ⟨r1, r2, r3⟩ := ihp rest hp.2 (fun z hz => hx z (List.mem_cons_of_mem _ hz))
        have h1 := hp.1 (i', g) (by simp)
        have hnd : ((Region.before ops).getD i' 0).testBit x = false := by
          cases hb : ((Region.before ops).getD i' 0).testBit x
          · rfl
          · exact absurd (ready_deps hcl hi hb) (hx (x, gx) (by simp)).2
        simp only [hnd, Bool.false_or, Bool.and_eq_true, Bool.not_eq_true'] at h1
        refine ⟨fun z hz => ?_, ?_, ?_⟩
        · rcases List.mem_cons.1 hz with rfl | hz
          · exact ⟨h1.2.1, fun ox oy hox hoy => by simpa [hox, hoy] using h1.2.2⟩
          · exact r1 z hz
        · simp only [List.cons_append, pairsOk, Bool.and_eq_true, List.all_eq_true, bne_iff_ne]
          refine ⟨fun y hy => hp.1 y ?_, r2⟩
          rcases List.mem_append.1 hy with hy | hy
          · exact List.mem_append_left _ hy
          · exact List.mem_append_right _ (List.mem_cons_of_mem _ hy)
        · simp only [List.cons_append, List.map_cons, List.mem_cons, not_or]
          exact ⟨h1.1, r3⟩
    obtain ⟨q1, q2, q3⟩ := hpre pre rest hpo (fun x hx => ⟨hπ x (List.mem_append_left _ hx), (hun x.1 (hπ x (List.mem_append_left _ hx))).2 (.inl (List.mem_map.2 ⟨x, List.mem_append_left _ hx, rfl⟩))⟩)
    have hf := wpHav_front hsel pre rest a F q1 h
    obtain ⟨o', ho', hf⟩ := hf
    rw [ho] at ho'
    obtain rfl := Option.some.inj ho'
    have next : ∀ (v : Value) (w' : World) (F' : World → Prop), (∀ w w', F' w → R.G w w' → F' w') → F' w' → R.G w w' → wpHav R P ops Qp w0 (fun a F => ∀ w, R.G w0 w → F w → wpList P ops Q (τ.filterMap (ops[·]?)) a w) (pre ++ rest) (a.put o.dst v) F' →
        wpAny P .any ops Q (n + τ.length) (listed.setIfInBounds i' true) (a.put o.dst v) w' := fun v w' F' hs1 hs2 hs3 hs4 => by
      refine ih (pre ++ rest) _ _ w' F' (by simp at hn ⊢; omega) (by simpa using hsz) (hcl.step hi) q2 (fun t ht x hx => hτ t ht x ?_) (fun x hx => hπ x ?_) (fun x hx => hS x ?_) (fun k hk => ?_) hs1 hs2 (R.trans hG hs3) (hag.put (hS (i', g) (by simp)) ho v) hs4
      · rcases List.mem_append.1 hx with hx | hx
        · exact List.mem_append_left _ hx
        · exact List.mem_append_right _ (List.mem_cons_of_mem _ hx)
      · rcases List.mem_append.1 hx with hx | hx
        · exact List.mem_append_left _ hx
        · exact List.mem_append_right _ (List.mem_cons_of_mem _ hx)
      · rcases List.mem_append.1 hx with hx | hx
        · exact List.mem_append_left _ hx
        · exact List.mem_append_right _ (List.mem_cons_of_mem _ hx)
      · by_cases hik : i' = k
        · subst hik
          rw [Array.getD_eq_getD_getElem?, Array.getElem?_setIfInBounds_self_of_lt (by omega)]
          simp only [Option.getD_some, not_true_eq_false, false_iff, not_or]
          exact ⟨q3, fun h1 => (hτ i' h1 (i', g) (by simp)).1 rfl⟩
        · rw [getD_set_ne false hik, hun k hk]
          simp [Ne.symm hik]
    have fin : ∀ (Φ : Value → World → Prop) , Obl R P ops Qp o a w Φ → (∀ v w', R.G w w' → Φ v w' → wpAny P .any ops Q (n + τ.length) (listed.setIfInBounds i' true) (a.put o.dst v) w') →
        wpOp P ops Q i' (wpAny P .any ops Q (n + τ.length) (listed.setIfInBounds i' true)) a w := fun Φ hO hN => by
      unfold wpOp
      simp only [ho]
      unfold Obl stepOf at hO
      split
      · rename_i hw
        rw [if_pos hw] at hO
        exact .inl (Oper.wp_mono (fun a' w' ⟨v, e, h1, h2⟩ => by rw [e]; exact hN v w' h1 h2) (wp_of_Qh (fun ch w' hc => hQ ch a w' hag hc) hO))
      · rename_i hw
        rw [if_neg hw] at hO
        obtain ⟨v, e, h1, h2⟩ := hO
        rw [e]
        exact hN v w h1 h2
    cases g
    · simp only [Bool.false_eq_true, if_false] at hf
      obtain ⟨V, hV, hf⟩ := hf
      exact fin _ (hV w hG hF) fun v w' h1 h2 => by rw [h2]; exact next V w' F hFs (hFs w w' hF h1) h1 hf
    · simp only [if_true] at hf
      obtain ⟨Φ, hst, hV, hf⟩ := hf
      exact fin _ (hV w hG hF) fun v w' h1 h2 => next v w' (fun w => F w ∧ Φ v w) (fun a b h hg => ⟨hFs a b h.1 hg, hst v a b h.2 hg⟩) ⟨hFs w w' hF h1, h2⟩ h1 (hf v)

theorem wp_region_havoc {Q : Exit → Act → World → Prop} (π : List (Nat × Bool)) (τ : List Nat) (Qp : List PanicEntry → World → Prop) {id : Nat} {a : Act} {w : World} (hm : P.follows .mixedOrders = true) (hok : havOk ops π τ = true)
    (hQ : ∀ ch a' w', Agree ops (π.map (·.1)) a a' → Qp ch w' → Q (.panic ch) a' w')
    (h : wpHav R P ops Qp w (fun a F => ∀ w', R.G w w' → F w' → wpList P ops Q (τ.filterMap (ops[·]?)) a w') π a (fun _ => True)) : (Code.region id ops true).wp P Q a w := by
  simp only [havOk, Bool.and_eq_true, List.all_eq_true, List.mem_range, Bool.or_eq_true, List.any_eq_true, beq_iff_eq, decide_eq_true_eq, bne_iff_ne, List.contains_iff_mem] at hok
  obtain ⟨c1, c2, c3, c4, c5, ⟨c6, c7⟩, c8, c9⟩ := hok
  have hg0 : R.G w { w with drawn := w.drawn + 1 } := R.drew w
  have hlow : ∀ i o e, ops[i]? = some o → e ∈ o.after → Region.binds .any e = true → e.on < i := fun i o e ho he hb => by
    have h1 := c9 i (Array.getElem?_eq_some_iff.1 ho).1
    simp only [ho, Array.all_eq_true_iff_forall_mem, Bool.or_eq_true, Bool.not_eq_true', decide_eq_true_eq] at h1
    exact (h1 e he).resolve_left (by simp [hb])
  refine wp_region_any hm ?_
  rw [← c8]
  refine hav_any (w0 := w) (a0 := a) (Qp := Qp) c1 hlow hQ τ c3 c7 π.length π _ a _ (fun _ => True) rfl (by simp [c8]) ?_ c2 c4 c6 (fun x hx => List.mem_map.2 ⟨x, hx, rfl⟩) (fun i hi => ?_) (fun _ _ _ _ => trivial) trivial hg0 ⟨rfl, rfl, fun _ _ => rfl⟩ h
  · intro i o e _ hl
    simp [Array.getD_eq_getD_getElem?, Array.getElem?_replicate] at hl
    split at hl <;> simp at hl
  · have hr : ¬ (Array.replicate (π.length + τ.length) false).getD i false = true := by
      simp [Array.getD_eq_getD_getElem?, Array.getElem?_replicate]
      split <;> rfl
    refine ⟨fun _ => ?_, fun _ => by simpa [c8] using hr⟩
    rcases c5 i hi with ⟨x, hx, he⟩ | hx
    · exact .inl (List.mem_map.2 ⟨x, hx, he⟩)
    · exact .inr hx

theorem Obl.of_K {Qp : List PanicEntry → World → Prop} {o : Oper} {a : Act} {w : World} {Φ : Value → World → Prop} (h : ∀ K : Act → World → Prop, (∀ v w', R.G w w' → Φ v w' → K (a.put o.dst v) w') → stepOf P ops o a w K (Qh Qp)) : Obl R P ops Qp o a w Φ :=
  h _ fun v _ h1 h2 => ⟨v, rfl, h1, h2⟩

/-- One step of the walk: the value is the same in every world. -/
theorem hav_det {Qp : List PanicEntry → World → Prop} {w0 : World} {Cont : Act → (World → Prop) → Prop} {i : Nat} {rest : List (Nat × Bool)} {a : Act} {F : World → Prop} {o : Oper} {V : Value} (ho : ops[i]? = some o)
    (h1 : ∀ w, R.G w0 w → F w → ∀ K : Act → World → Prop, (∀ w', R.G w w' → K (a.put o.dst V) w') → stepOf P ops o a w K (Qh Qp))
    (h2 : wpHav R P ops Qp w0 Cont rest (a.put o.dst V) F) : wpHav R P ops Qp w0 Cont ((i, false) :: rest) a F :=
  ⟨o, ho, by
    simp only [Bool.false_eq_true, if_false]
    exact ⟨V, fun w hw hF => Obl.of_K fun K hK => h1 w hw hF K fun w' hw' => hK V w' hw' rfl, h2⟩⟩
/-- One step of the walk: the value is bound. -/
theorem hav_ghost {Qp : List PanicEntry → World → Prop} {w0 : World} {Cont : Act → (World → Prop) → Prop} {i : Nat} {rest : List (Nat × Bool)} {a : Act} {F : World → Prop} {o : Oper} (Φ : Value → World → Prop) (ho : ops[i]? = some o)
    (hst : ∀ v w w', Φ v w → R.G w w' → Φ v w')
    (h1 : ∀ w, R.G w0 w → F w → ∀ K : Act → World → Prop, (∀ v w', R.G w w' → Φ v w' → K (a.put o.dst v) w') → stepOf P ops o a w K (Qh Qp))
    (h2 : ∀ v, wpHav R P ops Qp w0 Cont rest (a.put o.dst v) (fun w => F w ∧ Φ v w)) : wpHav R P ops Qp w0 Cont ((i, true) :: rest) a F :=
  ⟨o, ho, by
    simp only [if_true]
    exact ⟨Φ, hst, fun w hw hF => Obl.of_K fun K hK => h1 w hw hF K hK, h2⟩⟩
/-- A guarded operation whose guard says no. -/
theorem hav_skip {Qp : List PanicEntry → World → Prop} {w0 : World} {Cont : Act → (World → Prop) → Prop} {i : Nat} {rest : List (Nat × Bool)} {a : Act} {F : World → Prop} {o : Oper} (ho : ops[i]? = some o)
    (hw : Region.wanted o (yielded ops a.tmps) = false)
    (h2 : wpHav R P ops Qp w0 Cont rest (a.put o.dst undef) F) : wpHav R P ops Qp w0 Cont ((i, false) :: rest) a F :=
  hav_det ho (fun w _ _ K hK => by unfold stepOf; rw [if_neg (by rw [hw]; exact Bool.false_ne_true)]; exact hK w (R.refl _)) h2
/-- An operation that is carried out and leaves the world as it was. -/
theorem hav_same {Qp : List PanicEntry → World → Prop} {w0 : World} {Cont : Act → (World → Prop) → Prop} {i : Nat} {rest : List (Nat × Bool)} {a : Act} {F : World → Prop} {o : Oper} {V : Value} (ho : ops[i]? = some o)
    (hw : Region.wanted o (yielded ops a.tmps) = true) (h1 : ∀ w, R.G w0 w → F w → (execOp a.eval o).run P w = .ok (.value V) w)
    (h2 : wpHav R P ops Qp w0 Cont rest (a.put o.dst V) F) : wpHav R P ops Qp w0 Cont ((i, false) :: rest) a F :=
  hav_det ho (fun w hg hF K hK => by unfold stepOf Oper.wp; rw [if_pos hw, h1 w hg hF]; exact hK w (R.refl _)) h2
/-- A call. -/
theorem hav_call {Qp : List PanicEntry → World → Prop} {w0 : World} {Cont : Act → (World → Prop) → Prop} {i : Nat} {rest : List (Nat × Bool)} {a : Act} {F : World → Prop} {o : Oper} {V : Value} {f : FuncId} {args : Array Value} (ho : ops[i]? = some o)
    (hw : Region.wanted o (yielded ops a.tmps) = true) (h0 : ∀ w, (execOp a.eval o).run P w = .ok (.enter f args) w)
    (h1 : ∀ w, R.G w0 w → F w → Calls P f args w fun e w' => e = .returned V ∧ R.G w w')
    (h2 : wpHav R P ops Qp w0 Cont rest (a.put o.dst V) F) : wpHav R P ops Qp w0 Cont ((i, false) :: rest) a F :=
  hav_det ho (fun w hg hF K hK => by
    unfold stepOf Oper.wp
    rw [if_pos hw, h0 w]
    simp only [Oper.upon]
    refine (h1 w hg hF).mono ?_
    rintro e w' ⟨rfl, hb⟩
    exact hK w' hb) h2
/-- A call whose result is bound, or that panics. -/
theorem hav_call_ghost {Qp : List PanicEntry → World → Prop} {w0 : World} {Cont : Act → (World → Prop) → Prop} {i : Nat} {rest : List (Nat × Bool)} {a : Act} {F : World → Prop} {o : Oper} (Φ : Value → World → Prop) {f : FuncId} {args : Array Value} (ho : ops[i]? = some o)
    (hw : Region.wanted o (yielded ops a.tmps) = true) (h0 : ∀ w, (execOp a.eval o).run P w = .ok (.enter f args) w) (hst : ∀ v w w', Φ v w → R.G w w' → Φ v w')
    (h1 : ∀ w, R.G w0 w → F w → Calls P f args w fun e w' => (∃ v, e = .returned v ∧ R.G w w' ∧ Φ v w') ∨ (∃ ch, e = .panicked ch ∧ Qp ch w'))
    (h2 : ∀ v, wpHav R P ops Qp w0 Cont rest (a.put o.dst v) (fun w => F w ∧ Φ v w)) : wpHav R P ops Qp w0 Cont ((i, true) :: rest) a F :=
  hav_ghost Φ ho hst (fun w hg hF K hK => by
    unfold stepOf Oper.wp
    rw [if_pos hw, h0 w]
    simp only [Oper.upon]
    refine (h1 w hg hF).mono ?_
    rintro e w' (⟨v, rfl, hb, hp⟩ | ⟨ch, rfl, hp⟩)
    · exact hK v w' hb hp
    · exact hp) h2
theorem hav_end {Qp : List PanicEntry → World → Prop} {w0 : World} {Cont : Act → (World → Prop) → Prop} {a : Act} {F : World → Prop} (h : Cont a F) : wpHav R P ops Qp w0 Cont [] a F := h
end
end Go.HavG
