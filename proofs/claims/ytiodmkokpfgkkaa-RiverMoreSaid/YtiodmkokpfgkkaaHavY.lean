/- The rule for a region that draws its order, in a round, where a chain of operations follows that call yield: HavG's, turned by program. Condition: the closed check 'havOk', and no defer. -/
import Derived.Test.YtiodmkokpfgkkaaHavG
import Derived.Test.YtiodmkokpfgkkaaHavIn
namespace Go.HavG
open Go.RowKit
section
variable {R : Rel} {P : Program} {ops : Array Oper}
theorem tail_in {l m : Nat} {Q : Exit → Act → World → Prop} (hlow : ∀ i o e, ops[i]? = some o → e ∈ o.after → Region.binds .any e = true → e.on < i) :
  ∀ (τ : List Nat) (listed : Array Bool) (a : Act) (w : World), listed.size = ops.size → Closed ops listed → chainOk (Region.before ops) τ = true → (∀ i, i < ops.size → (¬ listed.getD i false = true ↔ i ∈ τ)) →
   (∀ i ∈ τ, i < ops.size) → wpListIn (Fence.wide.inRound l) m P ops Q (τ.filterMap (ops[·]?)) a w → wpAnyIn (Fence.wide.inRound l) m P .any ops Q τ.length listed a w := by
 intro τ
 induction τ with
 | nil =>
  intro listed a w hsz _ _ hun _ h
  refine ⟨?_, h⟩
  have : ∀ i, i ∉ Region.ready .any ops listed := fun i hi => by
   obtain ⟨h0, o, ho, _⟩ := mem_ready.1 hi
   have hlt := (Array.getElem?_eq_some_iff.1 ho).1
   exact absurd ((hun i hlt).1 ((getD_false_iff (by omega)).1 h0)) (by simp)
  exact List.eq_nil_iff_forall_not_mem.2 this
 | cons t τ ih =>
  intro listed a w hsz hcl hch hun hlt h
  simp only [chainOk, Bool.and_eq_true, List.all_eq_true, bne_iff_ne] at hch
  obtain ⟨hch1, hch2⟩ := hch
  have htl := hlt t (by simp)
  have htu := (hun t htl).2 (by simp)
  have only : ∀ i, i ∈ Region.ready .any ops listed → i = t := fun i hi => by
   obtain ⟨h0, o, ho, _⟩ := mem_ready.1 hi
   have hil := (Array.getElem?_eq_some_iff.1 ho).1
   have hm := (hun i hil).1 ((getD_false_iff (by omega)).1 h0)
   rcases List.mem_cons.1 hm with h1 | h1
   ·exact h1
   ·exact absurd (ready_deps hcl hi (hch1 i h1).2) htu
  refine ⟨fun h0 => absurd h0 (ready_some hsz hlow htl htu), fun i hi => ?_⟩
  obtain rfl := only i hi
  have hoi : ops[i]? = some ops[i] := Array.getElem?_eq_getElem htl
  rw [List.filterMap_cons_some hoi] at h
  unfold wpOpIn
  simp only [hoi]
  simp only [wpListIn] at h
  have next : ∀ a' w', wpListIn (Fence.wide.inRound l) m P ops Q (τ.filterMap (ops[·]?)) a' w' → wpAnyIn (Fence.wide.inRound l) m P .any ops Q τ.length (listed.setIfInBounds i true) a' w' := fun a' w' h' => by
   refine ih _ a' w' (by simpa using hsz) (hcl.step hi) hch2 (fun k hk => ?_) (fun k hk => hlt k (List.mem_cons_of_mem _ hk)) h'
   by_cases hik : i = k
   ·subst hik
    rw [Array.getD_eq_getD_getElem?, Array.getElem?_setIfInBounds_self_of_lt (by omega)]
    simp only [Option.getD_some, not_true_eq_false, false_iff]
    exact fun h1 => (hch1 i h1).1 rfl
   ·rw [getD_set_ne false hik, hun k hk]
    simp [Ne.symm hik]
  split
  ·rename_i hw
   rw [if_pos hw] at h
   exact Oper.wpIn_mono next h
  ·rename_i hw
   rw [if_neg hw] at h
   exact ⟨h.1, next _ _ h.2⟩

theorem hav_in {l m : Nat} {Q : Exit → Act → World → Prop} {Qp : List PanicEntry → World → Prop} {w0 : World} {a0 : Act} {S : List Nat} (hsel : Region.noSelect ops = true) (hnd : ∀ (i : Nat) (o : Oper), ops[i]? = some o → ∀ c, o.op ≠ .defer c)
  (hlow : ∀ i o e, ops[i]? = some o → e ∈ o.after → Region.binds .any e = true → e.on < i) (hQ : ∀ ch a w, Agree ops S a0 a → Qp ch w → Q (.panic ch) a w)
  (τ : List Nat) (hch : chainOk (Region.before ops) τ = true) (hlt : ∀ i ∈ τ, i < ops.size) :
  ∀ (n : Nat) (π : List (Nat × Bool)) (listed : Array Bool) (a : Act) (w : World) (F : World → Prop), π.length = n → listed.size = ops.size → Closed ops listed → pairsOk ops (Region.before ops) π = true →
   (∀ t ∈ τ, ∀ x ∈ π, t ≠ x.1 ∧ ((Region.before ops).getD t 0).testBit x.1 = true) → (∀ x ∈ π, x.1 < ops.size) → (∀ x ∈ π, x.1 ∈ S) → (∀ i, i < ops.size → (¬ listed.getD i false = true ↔ i ∈ π.map (·.1) ∨ i ∈ τ)) →
   (∀ w w', F w → R.G w w' → F w') → F w → R.G w0 w → Agree ops S a0 a →
   wpHav R P ops Qp w0 (fun a F => ∀ w, R.G w0 w → F w → wpListIn (Fence.wide.inRound l) m P ops Q (τ.filterMap (ops[·]?)) a w) π a F →
   wpAnyIn (Fence.wide.inRound l) m P .any ops Q (n + τ.length) listed a w := by
 intro n
 induction n with
 | zero =>
  intro π listed a w F hn hsz hcl _ _ _ _ hun _ hF hG _ h
  obtain rfl : π = [] := List.eq_nil_of_length_eq_zero hn
  rw [Nat.zero_add]
  exact tail_in hlow τ listed a w hsz hcl hch (fun i hi => by simpa using hun i hi) hlt (h w hG hF)
 | succ n ih =>
  intro π listed a w F hn hsz hcl hpo hτ hπ hS hun hFs hF hG hag h
  have hne : Region.ready .any ops listed ≠ [] := by
   match π, hn with
   | x :: π', _ =>
    have hx := hπ x (by simp)
    exact ready_some hsz hlow hx ((hun x.1 hx).2 (.inl (by simp)))
  rw [show n + 1 + τ.length = (n + τ.length) + 1 by omega]
  refine ⟨fun h0 => absurd h0 hne, fun i hi => ?_⟩
  obtain ⟨h0, o, ho, _⟩ := mem_ready.1 hi
  have hil := (Array.getElem?_eq_some_iff.1 ho).1
  have hiu := (getD_false_iff (by omega)).1 h0
  have hmem : i ∈ π.map (·.1) := by
   rcases (hun i hil).1 hiu with h1 | h1
   ·exact h1
   ·exfalso
    match π, hn with
    | x :: π', _ =>
     have hx := hπ x (by simp)
     exact ((hun x.1 hx).2 (.inl (by simp))) (ready_deps hcl hi (hτ i h1 x (by simp)).2)
  obtain ⟨⟨i', g⟩, hm, rfl⟩ := List.mem_map.1 hmem
  simp only at *
  obtain ⟨pre, rest, rfl⟩ := List.append_of_mem hm
  have hpre : ∀ (pre : List (Nat × Bool)) (rest : List (Nat × Bool)), pairsOk ops (Region.before ops) (pre ++ (i', g) :: rest) = true → (∀ x ∈ pre, x.1 < ops.size ∧ ¬ listed.getD x.1 false = true) →
    (∀ x ∈ pre, x.2 = false ∧ ∀ ox oy, ops[x.1]? = some ox → ops[i']? = some oy → ox.apart ops oy = true) ∧ pairsOk ops (Region.before ops) (pre ++ rest) = true ∧ i' ∉ (pre ++ rest).map (·.1) := by
   intro pre
   induction pre with
   | nil =>
    intro rest hp _
    simp only [List.nil_append, pairsOk, Bool.and_eq_true, List.all_eq_true, bne_iff_ne] at hp ⊢
    refine ⟨by simp, hp.2, fun hc => ?_⟩
    obtain ⟨y, hy, he⟩ := List.mem_map.1 hc
    exact (hp.1 y hy).1 he
   | cons x pre ihp =>
    intro rest hp hx
    obtain ⟨x, gx⟩ := x
    simp only [List.cons_append, pairsOk, Bool.and_eq_true, List.all_eq_true, bne_iff_ne] at hp
    obtain ⟨r1, r2, r3⟩ := ihp rest hp.2 (fun z hz => hx z (List.mem_cons_of_mem _ hz))
    have h1 := hp.1 (i', g) (by simp)
    have hnd : ((Region.before ops).getD i' 0).testBit x = false := by
     cases hb : ((Region.before ops).getD i' 0).testBit x
     ·rfl
     ·exact absurd (ready_deps hcl hi hb) (hx (x, gx) (by simp)).2
    simp only [hnd, Bool.false_or, Bool.and_eq_true, Bool.not_eq_true'] at h1
    refine ⟨fun z hz => ?_, ?_, ?_⟩
    ·rcases List.mem_cons.1 hz with rfl | hz
     ·exact ⟨h1.2.1, fun ox oy hox hoy => by simpa [hox, hoy] using h1.2.2⟩
     ·exact r1 z hz
    ·simp only [List.cons_append, pairsOk, Bool.and_eq_true, List.all_eq_true, bne_iff_ne]
     refine ⟨fun y hy => hp.1 y ?_, r2⟩
     rcases List.mem_append.1 hy with hy | hy
     ·exact List.mem_append_left _ hy
     ·exact List.mem_append_right _ (List.mem_cons_of_mem _ hy)
    ·simp only [List.cons_append, List.map_cons, List.mem_cons, not_or]
     exact ⟨h1.1, r3⟩
  obtain ⟨q1, q2, q3⟩ := hpre pre rest hpo (fun x hx => ⟨hπ x (List.mem_append_left _ hx), (hun x.1 (hπ x (List.mem_append_left _ hx))).2 (.inl (List.mem_map.2 ⟨x, List.mem_append_left _ hx, rfl⟩))⟩)
  have hf := wpHav_front hsel pre rest a F q1 h
  obtain ⟨o', ho', hf⟩ := hf
  rw [ho] at ho'
  obtain rfl := Option.some.inj ho'
  have next : ∀ (v : Value) (w' : World) (F' : World → Prop), (∀ w w', F' w → R.G w w' → F' w') → F' w' → R.G w w' → wpHav R P ops Qp w0 (fun a F => ∀ w, R.G w0 w → F w → wpListIn (Fence.wide.inRound l) m P ops Q (τ.filterMap (ops[·]?)) a w) (pre ++ rest) (a.put o.dst v) F' →
    wpAnyIn (Fence.wide.inRound l) m P .any ops Q (n + τ.length) (listed.setIfInBounds i' true) (a.put o.dst v) w' := fun v w' F' hs1 hs2 hs3 hs4 => by
   refine ih (pre ++ rest) _ _ w' F' (by simp at hn ⊢; omega) (by simpa using hsz) (hcl.step hi) q2 (fun t ht x hx => hτ t ht x ?_) (fun x hx => hπ x ?_) (fun x hx => hS x ?_) (fun k hk => ?_) hs1 hs2 (R.trans hG hs3) (hag.put (hS (i', g) (by simp)) ho v) hs4
   ·rcases List.mem_append.1 hx with hx | hx
    ·exact List.mem_append_left _ hx
    ·exact List.mem_append_right _ (List.mem_cons_of_mem _ hx)
   ·rcases List.mem_append.1 hx with hx | hx
    ·exact List.mem_append_left _ hx
    ·exact List.mem_append_right _ (List.mem_cons_of_mem _ hx)
   ·rcases List.mem_append.1 hx with hx | hx
    ·exact List.mem_append_left _ hx
    ·exact List.mem_append_right _ (List.mem_cons_of_mem _ hx)
   ·by_cases hik : i' = k
    ·subst hik
     rw [Array.getD_eq_getD_getElem?, Array.getElem?_setIfInBounds_self_of_lt (by omega)]
     simp only [Option.getD_some, not_true_eq_false, false_iff, not_or]
     exact ⟨q3, fun h1 => (hτ i' h1 (i', g) (by simp)).1 rfl⟩
    ·rw [getD_set_ne false hik, hun k hk]
     simp [Ne.symm hik]
  have fin : ∀ (Φ : Value → World → Prop) , Obl R P ops Qp o a w Φ → (∀ v w', R.G w w' → Φ v w' → wpAnyIn (Fence.wide.inRound l) m P .any ops Q (n + τ.length) (listed.setIfInBounds i' true) (a.put o.dst v) w') →
    wpOpIn (Fence.wide.inRound l) m P ops Q i' (wpAnyIn (Fence.wide.inRound l) m P .any ops Q (n + τ.length) (listed.setIfInBounds i' true)) a w := fun Φ hO hN => by
   unfold wpOpIn
   simp only [ho]
   unfold Obl stepOf at hO
   split
   ·rename_i hw
    rw [if_pos hw] at hO
    exact Oper.wpIn_mono (fun a w hx => hx) (Hav.oper_in (hnd _ o ho) (Oper.wp_mono (fun a' w' ⟨v, e, h1, h2⟩ => by rw [e]; exact hN v w' h1 h2) (wp_of_Qh (fun ch w' hc => hQ ch a w' hag hc) hO)))
   ·rename_i hw
    rw [if_neg hw] at hO
    obtain ⟨v, e, h1, h2⟩ := hO
    rw [e]
    exact ⟨fun _ _ => trivial, hN v w h1 h2⟩
  cases g
  ·simp only [Bool.false_eq_true, if_false] at hf
   obtain ⟨V, hV, hf⟩ := hf
   exact fin _ (hV w hG hF) fun v w' h1 h2 => by rw [h2]; exact next V w' F hFs (hFs w w' hF h1) h1 hf
  ·simp only [if_true] at hf
   obtain ⟨Φ, hst, hV, hf⟩ := hf
   exact fin _ (hV w hG hF) fun v w' h1 h2 => next v w' (fun w => F w ∧ Φ v w) (fun a b h hg => ⟨hFs a b h.1 hg, hst v a b h.2 hg⟩) ⟨hFs w w' hF h1, h2⟩ h1 (hf v)

theorem wpIn_region_tail {l m : Nat} {Q : Exit → Act → World → Prop} (π : List (Nat × Bool)) (τ : List Nat) (Qp : List PanicEntry → World → Prop) {id : Nat} {a : Act} {w : World} (hm : P.follows .mixedOrders = true) (hok : havOk ops π τ = true) (hnd : Hav.noDefer ops = true)
  (hQ : ∀ ch a' w', Agree ops (π.map (·.1)) a a' → Qp ch w' → Q (.panic ch) a' w')
  (h : wpHav R P ops Qp w (fun a F => ∀ w', R.G w w' → F w' → wpListIn (Fence.wide.inRound l) m P ops Q (τ.filterMap (ops[·]?)) a w') π a (fun _ => True)) : (Code.region id ops true).wpIn (Fence.wide.inRound l) m P Q a w := by
 simp only [havOk, Bool.and_eq_true, List.all_eq_true, List.mem_range, Bool.or_eq_true, List.any_eq_true, beq_iff_eq, decide_eq_true_eq, bne_iff_ne, List.contains_iff_mem] at hok
 obtain ⟨c1, c2, c3, c4, c5, ⟨c6, c7⟩, c8, c9⟩ := hok
 have hg0 : R.G w { w with drawn := w.drawn + 1 } := R.drew w
 have hlow : ∀ i o e, ops[i]? = some o → e ∈ o.after → Region.binds .any e = true → e.on < i := fun i o e ho he hb => by
  have h1 := c9 i (Array.getElem?_eq_some_iff.1 ho).1
  simp only [ho, Array.all_eq_true_iff_forall_mem, Bool.or_eq_true, Bool.not_eq_true', decide_eq_true_eq] at h1
  exact (h1 e he).resolve_left (by simp [hb])
 refine wpIn_region_any hm ?_
 rw [← c8]
 refine hav_in (w0 := w) (a0 := a) (Qp := Qp) c1 (Hav.noDefer_spec hnd) hlow hQ τ c3 c7 π.length π _ a _ (fun _ => True) rfl (by simp [c8]) ?_ c2 c4 c6 (fun x hx => List.mem_map.2 ⟨x, hx, rfl⟩) (fun i hi => ?_) (fun _ _ _ _ => trivial) trivial hg0 ⟨rfl, rfl, fun _ _ => rfl⟩ h
 ·intro i o e _ hl
  simp [Array.getD_eq_getD_getElem?, Array.getElem?_replicate] at hl
  split at hl <;> simp at hl
 ·have hr : ¬ (Array.replicate (π.length + τ.length) false).getD i false = true := by
   simp [Array.getD_eq_getD_getElem?, Array.getElem?_replicate]
   split <;> rfl
  refine ⟨fun _ => ?_, fun _ => by simpa [c8] using hr⟩
  rcases c5 i hi with ⟨x, hx, he⟩ | hx
  ·exact .inl (List.mem_map.2 ⟨x, hx, he⟩)
  ·exact .inr hx
end
end Go.HavG
