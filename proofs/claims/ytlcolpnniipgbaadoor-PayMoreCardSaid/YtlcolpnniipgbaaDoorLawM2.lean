/- A third rule for a region that draws its order: any invariant of what is left to be done; a chain of operations may follow. Conditions: the closed check 'genOk' on the region. The region of PayMore that makes four copies of the pay, in any order: four copies, each in rows of its own, and four boxes, no two the same. -/
import Derived.Test.YtlcolpnniipgbaaDoorHavoc
import Derived.Test.YtlcolpnniipgbaaDoorCopiedA
import Derived.Test.YtlcolpnniipgbaaDoorLawE0
namespace Go.Hav
open Go.RowKit
section
variable {P : Program} {ops : Array Oper}
theorem gen_any {Q : Exit → Act → World → Prop} {a0 : Act} (I : List Nat → Act → World → Prop)
    (hlow : ∀ i o e, ops[i]? = some o → e ∈ o.after → Region.binds .any e = true → e.on < i)
    (τ : List Nat) (hch : chainOk (Region.before ops) τ = true) (hltτ : ∀ i ∈ τ, i < ops.size)
    (hstep : ∀ (rem : List Nat) i o a w, i ∈ rem → rem.Nodup → ops[i]? = some o → Agree ops (List.range ops.size) a0 a → (∀ j ∈ rem, ((Region.before ops).getD i 0).testBit j = false) → I rem a w →
      stepOf P ops o a w (fun a' w' => ∃ v, a' = a.put o.dst v ∧ I (rem.erase i) a' w') Q)
    (hend : ∀ a w, Agree ops (List.range ops.size) a0 a → I [] a w → wpList P ops Q (τ.filterMap (ops[·]?)) a w) :
    ∀ (n : Nat) (rem : List Nat) (listed : Array Bool) (a : Act) (w : World), rem.length = n → rem.Nodup → listed.size = ops.size → Closed ops listed → (∀ i, i < ops.size → (¬ listed.getD i false = true ↔ i ∈ rem ∨ i ∈ τ)) →
      (∀ i ∈ rem, i < ops.size) → (∀ t ∈ τ, ∀ x ∈ rem, t ≠ x ∧ ((Region.before ops).getD t 0).testBit x = true) → Agree ops (List.range ops.size) a0 a → I rem a w → wpAny P .any ops Q (n + τ.length) listed a w := by
  intro n
  induction n with
  | zero =>
    intro rem listed a w hn _ hsz hcl hun _ _ hag hI
    obtain rfl : rem = [] := List.eq_nil_of_length_eq_zero hn
    rw [Nat.zero_add]
    exact tail_any hlow τ listed a w hsz hcl hch (fun i hi => by simpa using hun i hi) hltτ (hend a w hag hI)
  | succ n ih =>
    intro rem listed a w hn hnd hsz hcl hun hlt hτ hag hI
    have hne : Region.ready .any ops listed ≠ [] := by
      match rem, hn with
      | x :: r, _ =>
        have hx := hlt x (by simp)
        exact ready_some hsz hlow hx ((hun x hx).2 (.inl (by simp)))
    rw [show n + 1 + τ.length = (n + τ.length) + 1 by omega]
    refine ⟨fun h0 => absurd h0 hne, fun i hi => ?_⟩
    obtain ⟨h0, o, ho, _⟩ := mem_ready.1 hi
    have hil := (Array.getElem?_eq_some_iff.1 ho).1
    have hiu := (getD_false_iff (by omega)).1 h0
    have hmem : i ∈ rem := by
      rcases (hun i hil).1 hiu with h1 | h1
      · exact h1
      · exfalso
        match rem, hn with
        | x :: r, _ =>
          have hx := hlt x (by simp)
          exact ((hun x hx).2 (.inl (by simp))) (ready_deps hcl hi (hτ i h1 x (by simp)).2)
    have hs := hstep rem i o a w hmem hnd ho hag (fun j hj => by
      cases hb : ((Region.before ops).getD i 0).testBit j
      · rfl
      · exact absurd (ready_deps hcl hi hb) ((hun j (hlt j hj)).2 (.inl hj))) hI
    have next : ∀ a' w', (∃ v, a' = a.put o.dst v ∧ I (rem.erase i) a' w') → wpAny P .any ops Q (n + τ.length) (listed.setIfInBounds i true) a' w' := by
      rintro a' w' ⟨v, rfl, hI'⟩
      refine ih (rem.erase i) _ _ w' (by rw [List.length_erase_of_mem hmem]; omega) (hnd.erase i) (by simpa using hsz) (hcl.step hi) (fun k hk => ?_) (fun k hk => hlt k (List.mem_of_mem_erase hk)) (fun t ht x hx => hτ t ht x (List.mem_of_mem_erase hx)) (hag.put (List.mem_range.2 hil) ho v) hI'
      rw [hnd.mem_erase_iff]
      by_cases hik : i = k
      · subst hik
        rw [Array.getD_eq_getD_getElem?, Array.getElem?_setIfInBounds_self_of_lt (by omega)]
        simp only [Option.getD_some, not_true_eq_false, ne_eq, false_and, false_or, false_iff]
        exact fun h1 => (hτ i h1 i hmem).1 rfl
      · rw [getD_set_ne false hik, hun k hk]
        simp [Ne.symm hik]
    unfold wpOp
    simp only [ho]
    unfold stepOf at hs
    split
    · rename_i hw
      rw [if_pos hw] at hs
      exact .inl (Oper.wp_mono next hs)
    · rename_i hw
      rw [if_neg hw] at hs
      exact next _ _ hs
def genOk (ops : Array Oper) (rem τ : List Nat) : Bool :=
  chainOk (Region.before ops) τ && (τ.all (· < ops.size) && (rem.all (· < ops.size) && ((List.range ops.size).all (fun i => rem.contains i || τ.contains i) && ((τ.all fun t => rem.all fun x => t != x && ((Region.before ops).getD t 0).testBit x) && (decide rem.Nodup && (rem.length + τ.length == ops.size &&
  (List.range ops.size).all fun i => (match ops[i]? with | some o => o.after.all (fun e => !Region.binds .any e || e.on < i) | none => true)))))))
theorem wp_region_gen {Q : Exit → Act → World → Prop} (I : List Nat → Act → World → Prop) (rem τ : List Nat) {id : Nat} {a : Act} {w : World} (hm : P.follows .mixedOrders = true) (hok : genOk ops rem τ = true)
    (h0 : I rem a { w with drawn := w.drawn + 1 })
    (hstep : ∀ (rem : List Nat) i o a' w', i ∈ rem → rem.Nodup → ops[i]? = some o → Agree ops (List.range ops.size) a a' → (∀ j ∈ rem, ((Region.before ops).getD i 0).testBit j = false) → I rem a' w' →
      stepOf P ops o a' w' (fun a'' w'' => ∃ v, a'' = a'.put o.dst v ∧ I (rem.erase i) a'' w'') Q)
    (hend : ∀ a' w', Agree ops (List.range ops.size) a a' → I [] a' w' → wpList P ops Q (τ.filterMap (ops[·]?)) a' w') : (Code.region id ops true).wp P Q a w := by
  simp only [genOk, Bool.and_eq_true, List.all_eq_true, List.mem_range, Bool.or_eq_true, beq_iff_eq, decide_eq_true_eq, bne_iff_ne, List.contains_iff_mem] at hok
  obtain ⟨c1, c2, c3, c4, c5, c6, c7, c8⟩ := hok
  have hlow : ∀ i o e, ops[i]? = some o → e ∈ o.after → Region.binds .any e = true → e.on < i := fun i o e ho he hb => by
    have h1 := c8 i (Array.getElem?_eq_some_iff.1 ho).1
    simp only [ho, Array.all_eq_true_iff_forall_mem, Bool.or_eq_true, Bool.not_eq_true', decide_eq_true_eq] at h1
    exact (h1 e he).resolve_left (by simp [hb])
  refine wp_region_any hm ?_
  rw [← c7]
  have hr : ∀ i, ¬ (Array.replicate (rem.length + τ.length) false).getD i false = true := fun i => by
    simp [Array.getD_eq_getD_getElem?, Array.getElem?_replicate]
    split <;> rfl
  refine gen_any (a0 := a) I hlow τ c1 c2 hstep hend rem.length rem _ a _ rfl c6 (by simp [c7]) ?_ (fun i hi => ⟨fun _ => c4 i hi, fun _ => hr i⟩) c3 (fun t ht x hx => c5 t ht x hx) ⟨rfl, rfl, fun _ _ => rfl⟩ h0
  intro i o e _ hl
  simp [Array.getD_eq_getD_getElem?, Array.getElem?_replicate] at hl
  split at hl <;> simp at hl
end
end Go.Hav
namespace Go.Proofs.YtlcolpnniipgbaaDoor
open Go.RowKit Go.Hav
/-- The region's operations. -/
def regionOf : Nat → Code → Option (Array Oper)
  | n, .region k ops _ => if k = n then some ops else none
  | n, .seq a b => (regionOf n a).orElse fun _ => regionOf n b
  | n, .block _ a => regionOf n a
  | n, .loop a => regionOf n a
  | _, _ => none
noncomputable def ops4 : Array Oper := ((Tryd.f11.body.bind (regionOf 4)).getD #[])
theorem size4 : ops4.size = 16 := by kernel_rfl
theorem o4 {i : Nat} {o : Oper} (h : ops4[i]? = some o) {X : Op} {D : Option Tmp} (hx : (ops4[i]?).map (fun o => (o.op, o.dst, o.guard)) = some (X, D, none)) : o.op = X ∧ o.dst = D ∧ o.guard = none := by
  rw [h] at hx
  simpa using hx
theorem step_call {P : Program} {ops : Array Oper} {o : Oper} {a : Act} {w : World} {f : FuncId} {args : Array Value} {R : Value → World → Prop} {K : Act → World → Prop} {Q : Exit → Act → World → Prop} (hg : o.guard = none)
    (hx : (execOp a.eval o).run P w = .ok (.enter f args) w) (hc : Calls P f args w fun e w' => ∃ v, e = .returned v ∧ R v w') (hK : ∀ v w', R v w' → K (a.put o.dst v) w') : stepOf P ops o a w K Q := by
  unfold stepOf Oper.wp
  rw [if_pos (by unfold Region.wanted; rw [hg]), hx]
  simp only [Oper.upon]
  refine hc.mono ?_
  rintro e w' ⟨v, rfl, hr⟩
  exact hK v w' hr
/-- What an operation leaves: a value; a copy; a box. -/
inductive K4
  | ld (d : Nat) (v : Value)
  | cp (d : Nat)
  | al (d : Nat)
def K4.at : K4 → Nat
  | .ld d _ => d
  | .cp d => d
  | .al d => d
section
variable {people rate bill : Int} {ra ca da pa : Option Addr} {rl rc cl cc dl dc pl pc : Nat} {p : PayD}
variable {W0 : World}
def zeroCs : Array Value := payCs 0 none 0 0 none 0 0 0 0 none 0 0 none 0 0
def fact4 (W0 : World) (people rate bill : Int) (rl cl dl pl : Nat) (p : PayD) (a : Act) (w : World) (bs : List Nat) : K4 → Prop
  | .ld d v => slot a d = v ∧ bs = []
  | .cp d => ∃ g1 c1 g2 c2 g3 c3 g4 c4, slot a d = payV people (some ⟨g1, 0, none⟩) rl c1 (some ⟨g2, 0, none⟩) cl c2 rate bill (some ⟨g3, 0, none⟩) dl c3 (some ⟨g4, 0, none⟩) pl c4 ∧ OwnPay w W0.heap.size p g1 c1 g2 c2 g3 c3 g4 c4 ∧ bs = [g1, g2, g3, g4]
  | .al d => ∃ b, slot a d = .pointer (some ⟨b, 0, none⟩) ∧ Blk w b 27 zeroCs ∧ bs = [b]
theorem fact4_keep {a : Act} {w w' : World} {bs : List Nat} {dst : Option Tmp} (v : Value) (kd : K4) (hd : dst ≠ some kd.at) (hg : Grow w w') (h : fact4 W0 people rate bill rl cl dl pl p a w bs kd) : fact4 W0 people rate bill rl cl dl pl p (a.put dst v) w' bs kd := by
  cases kd with
  | ld d v' =>
    have hd' : dst ≠ some d := hd
    exact ⟨by rw [slot_put v hd']; exact h.1, h.2⟩
  | cp d =>
    have hd' : dst ≠ some d := hd
    obtain ⟨g1, c1, g2, c2, g3, c3, g4, c4, h1, h2, h3⟩ := h
    exact ⟨g1, c1, g2, c2, g3, c3, g4, c4, by rw [slot_put v hd']; exact h1, h2.below hg, h3⟩
  | al d =>
    have hd' : dst ≠ some d := hd
    obtain ⟨b, h1, h2, h3⟩ := h
    exact ⟨b, by rw [slot_put v hd']; exact h1, h2.below hg h2.lt, h3⟩
def tab4 (V : Value) (i : Nat) : K4 := match i with
  | 0 => .ld 60 V
  | 1 => .cp 61
  | 2 => .ld 62 V
  | 3 => .cp 63
  | 4 => .ld 64 V
  | 5 => .cp 65
  | 6 => .ld 66 V
  | 7 => .cp 67
  | 8 => .al 11
  | 9 => .al 12
  | 10 => .al 13
  | _ => .al 14
def atF (i : Nat) : Nat := [60, 61, 62, 63, 64, 65, 66, 67, 11, 12, 13, 14].getD i 14
theorem tab4_at (V : Value) (i : Nat) (hi : i < 12) : (tab4 V i).at = atF i := by
  match i, hi with
  | 0, _ => rfl
  | 1, _ => rfl
  | 2, _ => rfl
  | 3, _ => rfl
  | 4, _ => rfl
  | 5, _ => rfl
  | 6, _ => rfl
  | 7, _ => rfl
  | 8, _ => rfl
  | 9, _ => rfl
  | 10, _ => rfl
  | 11, _ => rfl
theorem atF_ne : ((List.range 12).all fun i => (List.range 12).all fun j => i == j || (atF i != atF j)) = true := by decide
/-- The invariant: what is done has left its fact, and no two have a block in common. -/
def I4 (W0 : World) (people rate bill : Int) (rl cl dl pl : Nat) (p : PayD) (V : Value) (rem : List Nat) (a : Act) (w : World) : Prop :=
  Grow W0 w ∧ (∀ i ∈ rem, i < 12) ∧ ∃ bs : Nat → List Nat, (∀ i, i < 12 → i ∉ rem → fact4 W0 people rate bill rl cl dl pl p a w (bs i) (tab4 V i) ∧ ∀ b ∈ bs i, W0.heap.size ≤ b ∧ b < w.heap.size) ∧ (∀ i j, i < 12 → j < 12 → i ≠ j → i ∉ rem → j ∉ rem → ∀ b ∈ bs i, b ∉ bs j)
theorem I4.step {V : Value} {rem : List Nat} {a : Act} {w w' : World} {i : Nat} (h : I4 W0 people rate bill rl cl dl pl p V rem a w) (hnd : rem.Nodup) (hi : i < 12) (hg : Grow w w') (v : Value) (nb : List Nat)
    (hf : fact4 W0 people rate bill rl cl dl pl p (a.put (some (atF i)) v) w' nb (tab4 V i)) (hnb : ∀ b ∈ nb, w.heap.size ≤ b ∧ b < w'.heap.size) : I4 W0 people rate bill rl cl dl pl p V (rem.erase i) (a.put (some (atF i)) v) w' := by
  obtain ⟨h1, h0, bs, h2, h3⟩ := h
  have hs := hg.size
  have out : ∀ j, j ∉ rem.erase i → j ≠ i → j ∉ rem := fun j h hne hm => h (hnd.mem_erase_iff.2 ⟨hne, hm⟩)
  refine ⟨h1.trans hg, fun j hj => h0 j (List.mem_of_mem_erase hj), fun j => if j = i then nb else bs j, fun j hj hm => ?_, fun j k hj hk hjk hm hm' b hb hb' => ?_⟩
  · by_cases e : j = i
    · subst e
      simp only [if_true]
      exact ⟨hf, fun b hb => ⟨Nat.le_trans h1.size (hnb b hb).1, (hnb b hb).2⟩⟩
    · simp only [if_neg e]
      obtain ⟨f1, f2⟩ := h2 j hj (out j hm e)
      refine ⟨fact4_keep v _ ?_ hg f1, fun b hb => by have := f2 b hb; omega⟩
      rw [tab4_at V j hj]
      intro he
      have := List.all_eq_true.1 (List.all_eq_true.1 atF_ne i (List.mem_range.2 hi)) j (List.mem_range.2 hj)
      simp only [Option.some.injEq] at he
      simp [Ne.symm e, he] at this
  · by_cases e : j = i
    · by_cases e2 : k = i
      · exact hjk (e.trans e2.symm)
      · simp only [if_pos e] at hb
        simp only [if_neg e2] at hb'
        have := ((h2 k hk (out k hm' e2)).2 b hb').2
        have := (hnb b hb).1
        omega
    · simp only [if_neg e] at hb
      by_cases e2 : k = i
      · simp only [if_pos e2] at hb'
        have := ((h2 j hj (out j hm e)).2 b hb).2
        have := (hnb b hb').1
        omega
      · simp only [if_neg e2] at hb'
        exact h3 j k hj hk hjk (out j hm e) (out k hm' e2) b hb hb'
theorem run_ld27 {a : Act} {w : World} {o : Oper} {b : Nat} (ho : o.op = .load 27 (.tmp 4)) (h : slot a 4 = .pointer (some ⟨b, 0, none⟩)) (hb : Blk w b 27 (payCs people ra rl rc ca cl cc rate bill da dl dc pa pl pc)) :
    (execOp a.eval o).run Tryd.prog w = .ok (.value (payV people ra rl rc ca cl cc rate bill da dl dc pa pl pc)) w := by
  have z0 := hb.cell 0
  have z1 := hb.cell 1
  have z2 := hb.cell 2
  have z3 := hb.cell 3
  have z4 := hb.cell 4
  have z5 := hb.cell 5
  have z6 := hb.cell 6
  simp [payCs] at z0 z1 z2 z3 z4 z5 z6
  unfold slot at h
  unfold execOp payV
  rw [ho]
  go_simp
theorem run_call36 {a : Act} {w : World} {o : Oper} {d : Nat} {v : Value} (ho : o.op = .call { callee := .value (.func 36), args := #[.tmp d], argTypes := #[27] }) (h : slot a d = v) :
    (execOp a.eval o).run Tryd.prog w = .ok (.enter 36 #[v]) w := by
  unfold slot at h
  subst h
  unfold execOp
  rw [ho]
  go_simp
theorem run_al27 {a : Act} {w : World} {o : Oper} (ho : o.op = .alloc 27) : (execOp a.eval o).run Tryd.prog w = .ok (.value (.pointer (some ⟨w.heap.size, 0, none⟩))) (w.alloc (.cells zeroCs 27)) := by
  unfold execOp zeroCs payCs
  rw [ho]
  go_simp
theorem I4.fact {V : Value} {rem : List Nat} {a : Act} {w : World} {i : Nat} (h : I4 W0 people rate bill rl cl dl pl p V rem a w) (hi : i < 12) (hm : i ∉ rem) {d : Nat} {v : Value} (ht : tab4 V i = .ld d v := by rfl) : slot a d = v ∧ True := by
  obtain ⟨_, _, bs, h2, _⟩ := h
  have := (h2 i hi hm).1
  rw [ht] at this
  exact ⟨this.1, trivial⟩
def CopyR (people rate bill : Int) (rl cl dl pl : Nat) (p : PayD) (w : World) (v : Value) (w' : World) : Prop :=
  ∃ g1 c1 g2 c2 g3 c3 g4 c4, v = payV people (some ⟨g1, 0, none⟩) rl c1 (some ⟨g2, 0, none⟩) cl c2 rate bill (some ⟨g3, 0, none⟩) dl c3 (some ⟨g4, 0, none⟩) pl c4 ∧ OwnPay w' w.heap.size p g1 c1 g2 c2 g3 c3 g4 c4 ∧ Below w.heap.size w w'
theorem OwnPay.le {w : World} {B B' g1 c1 g2 c2 g3 c3 g4 c4 : Nat} (h : OwnPay w B p g1 c1 g2 c2 g3 c3 g4 c4) (hb : B' ≤ B) : OwnPay w B' p g1 c1 g2 c2 g3 c3 g4 c4 :=
  ⟨own_le h.runs hb, own_le h.calls hb, own_le h.days hb, own_le h.paid hb⟩
theorem OwnPay.bounds {w : World} {B g1 c1 g2 c2 g3 c3 g4 c4 : Nat} (h : OwnPay w B p g1 c1 g2 c2 g3 c3 g4 c4) : ∀ b ∈ [g1, g2, g3, g4], B ≤ b ∧ b < w.heap.size := by
  obtain ⟨_, b1, l1, _⟩ := own_blk h.runs
  obtain ⟨_, b2, l2, _⟩ := own_blk h.calls
  obtain ⟨_, b3, l3, _⟩ := own_blk h.days
  obtain ⟨_, b4, l4, _⟩ := own_blk h.paid
  intro b hb
  simp only [List.mem_cons, List.not_mem_nil, or_false] at hb
  rcases hb with rfl | rfl | rfl | rfl
  · exact ⟨l1, b1.lt⟩
  · exact ⟨l2, b2.lt⟩
  · exact ⟨l3, b3.lt⟩
  · exact ⟨l4, b4.lt⟩
set_option maxRecDepth 100000 in
set_option maxHeartbeats 6400000 in
theorem region4 {a : Act} {w : World} {Q : Exit → Act → World → Prop} {b : Nat} (h4 : slot a 4 = .pointer (some ⟨b, 0, none⟩)) (hsz : a.tmps.size = 418) (hb : Blk w b 27 (payCs people ra rl rc ca cl cc rate bill da dl dc pa pl pc)) (hP : PayIn w w.heap.size people ra rl ca cl rate bill da dl pa pl p)
    (m1 : rl ≤ 1000) (m2 : cl ≤ 1000) (m3 : dl ≤ 1000) (m4 : pl ≤ 1000)
    (hend : ∀ a' w', Agree ops4 (List.range ops4.size) a a' → I4 w people rate bill rl cl dl pl p (payV people ra rl rc ca cl cc rate bill da dl dc pa pl pc) [] a' w' → wpList Tryd.prog ops4 Q ([12, 13, 14, 15].filterMap (ops4[·]?)) a' w') : (Code.region 4 ops4 true).wp Tryd.prog Q a w := by
  refine wp_region_gen (I4 w people rate bill rl cl dl pl p (payV people ra rl rc ca cl cc rate bill da dl dc pa pl pc)) (List.range 12) [12, 13, 14, 15] (by kernel_rfl) (by kernel_rfl) ⟨Below.drew (Below.refl _ _), fun i hi => List.mem_range.1 hi, fun _ => [], fun i hi hm => absurd (List.mem_range.2 hi) hm, fun i j hi _ _ hm => absurd (List.mem_range.2 hi) hm⟩ ?_ hend
  intro rem i o a' w' hmem hnd ho hag hdep hI
  have hi : i < 12 := hI.2.1 i hmem
  have s4 : slot a' 4 = .pointer (some ⟨b, 0, none⟩) := by rw [← h4]; exact hag.slot 4 (by kernel_rfl)
  have hsz' : a'.tmps.size = 418 := hag.2.1.trans hsz
  have hbk := hb.below hI.1 hb.lt
  match i, hi, ho, hdep with
  | 0, _, ho, hdep =>
    obtain ⟨hop, hd, hg⟩ := o4 ho (X := .load 27 (.tmp 4)) (D := some 60) (by kernel_rfl)
    refine step_ok hg (run_ld27 hop s4 hbk) ⟨_, rfl, ?_⟩
    rw [hd]
    exact hI.step hnd (by omega) (Grow.refl _) _ [] ⟨slot_self _ (by rw [hsz']; decide), rfl⟩ (by simp)
  | 1, _, ho, hdep =>
    obtain ⟨hop, hd, hg⟩ := o4 ho (X := .call { callee := .value (.func 36), args := #[.tmp 60], argTypes := #[27] }) (D := some 61) (by kernel_rfl)
    have n0 : 0 ∉ rem := fun h => by have h2 := hdep 0 h; cases h2.symm.trans (show ((Region.before ops4).getD 1 0).testBit 0 = true by kernel_rfl)
    have d1 : slot a' 60 = payV people ra rl rc ca cl cc rate bill da dl dc pa pl pc := (hI.fact (by omega) n0).1
    refine step_call hg (run_call36 hop d1) ((copied_any (p := p) w' (by exact hP.grow hI.1) m1 m2 m3 m4).mono fun e w2 h => ?_) (R := CopyR people rate bill rl cl dl pl p w') fun v w2 hr => ⟨v, rfl, ?_⟩
    · obtain ⟨⟨g1, c1, g2, c2, g3, c3, g4, c4, he, ho'⟩, hb2⟩ := h
      exact ⟨_, he, g1, c1, g2, c2, g3, c3, g4, c4, rfl, ho', hb2⟩
    · rw [hd]
      obtain ⟨g1, c1, g2, c2, g3, c3, g4, c4, rfl, ho', hb2⟩ := hr
      exact hI.step hnd (by omega) hb2 _ [g1, g2, g3, g4] ⟨g1, c1, g2, c2, g3, c3, g4, c4, slot_self _ (by rw [hsz']; decide), ho'.le hI.1.size, rfl⟩ ho'.bounds
  | 2, _, ho, hdep =>
    obtain ⟨hop, hd, hg⟩ := o4 ho (X := .load 27 (.tmp 4)) (D := some 62) (by kernel_rfl)
    refine step_ok hg (run_ld27 hop s4 hbk) ⟨_, rfl, ?_⟩
    rw [hd]
    exact hI.step hnd (by omega) (Grow.refl _) _ [] ⟨slot_self _ (by rw [hsz']; decide), rfl⟩ (by simp)
  | 3, _, ho, hdep =>
    obtain ⟨hop, hd, hg⟩ := o4 ho (X := .call { callee := .value (.func 36), args := #[.tmp 62], argTypes := #[27] }) (D := some 63) (by kernel_rfl)
    have n0 : 2 ∉ rem := fun h => by have h2 := hdep 2 h; cases h2.symm.trans (show ((Region.before ops4).getD 3 0).testBit 2 = true by kernel_rfl)
    have d1 : slot a' 62 = payV people ra rl rc ca cl cc rate bill da dl dc pa pl pc := (hI.fact (by omega) n0).1
    refine step_call hg (run_call36 hop d1) ((copied_any (p := p) w' (by exact hP.grow hI.1) m1 m2 m3 m4).mono fun e w2 h => ?_) (R := CopyR people rate bill rl cl dl pl p w') fun v w2 hr => ⟨v, rfl, ?_⟩
    · obtain ⟨⟨g1, c1, g2, c2, g3, c3, g4, c4, he, ho'⟩, hb2⟩ := h
      exact ⟨_, he, g1, c1, g2, c2, g3, c3, g4, c4, rfl, ho', hb2⟩
    · rw [hd]
      obtain ⟨g1, c1, g2, c2, g3, c3, g4, c4, rfl, ho', hb2⟩ := hr
      exact hI.step hnd (by omega) hb2 _ [g1, g2, g3, g4] ⟨g1, c1, g2, c2, g3, c3, g4, c4, slot_self _ (by rw [hsz']; decide), ho'.le hI.1.size, rfl⟩ ho'.bounds
  | 4, _, ho, hdep =>
    obtain ⟨hop, hd, hg⟩ := o4 ho (X := .load 27 (.tmp 4)) (D := some 64) (by kernel_rfl)
    refine step_ok hg (run_ld27 hop s4 hbk) ⟨_, rfl, ?_⟩
    rw [hd]
    exact hI.step hnd (by omega) (Grow.refl _) _ [] ⟨slot_self _ (by rw [hsz']; decide), rfl⟩ (by simp)
  | 5, _, ho, hdep =>
    obtain ⟨hop, hd, hg⟩ := o4 ho (X := .call { callee := .value (.func 36), args := #[.tmp 64], argTypes := #[27] }) (D := some 65) (by kernel_rfl)
    have n0 : 4 ∉ rem := fun h => by have h2 := hdep 4 h; cases h2.symm.trans (show ((Region.before ops4).getD 5 0).testBit 4 = true by kernel_rfl)
    have d1 : slot a' 64 = payV people ra rl rc ca cl cc rate bill da dl dc pa pl pc := (hI.fact (by omega) n0).1
    refine step_call hg (run_call36 hop d1) ((copied_any (p := p) w' (by exact hP.grow hI.1) m1 m2 m3 m4).mono fun e w2 h => ?_) (R := CopyR people rate bill rl cl dl pl p w') fun v w2 hr => ⟨v, rfl, ?_⟩
    · obtain ⟨⟨g1, c1, g2, c2, g3, c3, g4, c4, he, ho'⟩, hb2⟩ := h
      exact ⟨_, he, g1, c1, g2, c2, g3, c3, g4, c4, rfl, ho', hb2⟩
    · rw [hd]
      obtain ⟨g1, c1, g2, c2, g3, c3, g4, c4, rfl, ho', hb2⟩ := hr
      exact hI.step hnd (by omega) hb2 _ [g1, g2, g3, g4] ⟨g1, c1, g2, c2, g3, c3, g4, c4, slot_self _ (by rw [hsz']; decide), ho'.le hI.1.size, rfl⟩ ho'.bounds
  | 6, _, ho, hdep =>
    obtain ⟨hop, hd, hg⟩ := o4 ho (X := .load 27 (.tmp 4)) (D := some 66) (by kernel_rfl)
    refine step_ok hg (run_ld27 hop s4 hbk) ⟨_, rfl, ?_⟩
    rw [hd]
    exact hI.step hnd (by omega) (Grow.refl _) _ [] ⟨slot_self _ (by rw [hsz']; decide), rfl⟩ (by simp)
  | 7, _, ho, hdep =>
    obtain ⟨hop, hd, hg⟩ := o4 ho (X := .call { callee := .value (.func 36), args := #[.tmp 66], argTypes := #[27] }) (D := some 67) (by kernel_rfl)
    have n0 : 6 ∉ rem := fun h => by have h2 := hdep 6 h; cases h2.symm.trans (show ((Region.before ops4).getD 7 0).testBit 6 = true by kernel_rfl)
    have d1 : slot a' 66 = payV people ra rl rc ca cl cc rate bill da dl dc pa pl pc := (hI.fact (by omega) n0).1
    refine step_call hg (run_call36 hop d1) ((copied_any (p := p) w' (by exact hP.grow hI.1) m1 m2 m3 m4).mono fun e w2 h => ?_) (R := CopyR people rate bill rl cl dl pl p w') fun v w2 hr => ⟨v, rfl, ?_⟩
    · obtain ⟨⟨g1, c1, g2, c2, g3, c3, g4, c4, he, ho'⟩, hb2⟩ := h
      exact ⟨_, he, g1, c1, g2, c2, g3, c3, g4, c4, rfl, ho', hb2⟩
    · rw [hd]
      obtain ⟨g1, c1, g2, c2, g3, c3, g4, c4, rfl, ho', hb2⟩ := hr
      exact hI.step hnd (by omega) hb2 _ [g1, g2, g3, g4] ⟨g1, c1, g2, c2, g3, c3, g4, c4, slot_self _ (by rw [hsz']; decide), ho'.le hI.1.size, rfl⟩ ho'.bounds
  | 8, _, ho, hdep =>
    obtain ⟨hop, hd, hg⟩ := o4 ho (X := .alloc 27) (D := some 11) (by kernel_rfl)
    refine step_ok hg (run_al27 hop) ⟨_, rfl, ?_⟩
    rw [hd]
    exact hI.step hnd (by omega) ((Below.refl _ _).alloc (Nat.le_refl _) _) _ [w'.heap.size] ⟨w'.heap.size, slot_self _ (by rw [hsz']; decide), Blk.new _ _ _, rfl⟩ (by simp)
  | 9, _, ho, hdep =>
    obtain ⟨hop, hd, hg⟩ := o4 ho (X := .alloc 27) (D := some 12) (by kernel_rfl)
    refine step_ok hg (run_al27 hop) ⟨_, rfl, ?_⟩
    rw [hd]
    exact hI.step hnd (by omega) ((Below.refl _ _).alloc (Nat.le_refl _) _) _ [w'.heap.size] ⟨w'.heap.size, slot_self _ (by rw [hsz']; decide), Blk.new _ _ _, rfl⟩ (by simp)
  | 10, _, ho, hdep =>
    obtain ⟨hop, hd, hg⟩ := o4 ho (X := .alloc 27) (D := some 13) (by kernel_rfl)
    refine step_ok hg (run_al27 hop) ⟨_, rfl, ?_⟩
    rw [hd]
    exact hI.step hnd (by omega) ((Below.refl _ _).alloc (Nat.le_refl _) _) _ [w'.heap.size] ⟨w'.heap.size, slot_self _ (by rw [hsz']; decide), Blk.new _ _ _, rfl⟩ (by simp)
  | 11, _, ho, hdep =>
    obtain ⟨hop, hd, hg⟩ := o4 ho (X := .alloc 27) (D := some 14) (by kernel_rfl)
    refine step_ok hg (run_al27 hop) ⟨_, rfl, ?_⟩
    rw [hd]
    exact hI.step hnd (by omega) ((Below.refl _ _).alloc (Nat.le_refl _) _) _ [w'.heap.size] ⟨w'.heap.size, slot_self _ (by rw [hsz']; decide), Blk.new _ _ _, rfl⟩ (by simp)
end
end Go.Proofs.YtlcolpnniipgbaaDoor
