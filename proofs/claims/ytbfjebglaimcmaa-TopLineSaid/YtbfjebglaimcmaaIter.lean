/- The iterator over all sets: for every body that keeps its word. The rule for a region that draws its order, for any relation, in a round; a relation for the append of one element to a row that is owned. -/
import Derived.Test.YtbfjebglaimcmaaPlan2w
import Derived.Test.YtbfjebglaimcmaaHavIn
import Derived.RangeFuncNested
import Derived.RangeFuncBound
import Derived.RangeFuncCalls
import Derived.RangeFuncLeaves
import Derived.RangeFuncWrites
import Derived.Shelf.Abstract
import Derived.OwnWalkIn
import Derived.TacticsInMore
import Derived.LoopNIn
import Derived.LoopIn
namespace Go.Proofs.Ytbfjebglaimcmaa
open Go.RowKit Go.Hav Go.Shelf
attribute [local go_sem] Oper.semAt_some
/-- All sets but the empty one, by their numbers. -/
def subsL (n : Nat) : List Nat := (List.range (full n)).map (· + 1)
def encU (x : Nat) : Array Value := #[.int .u64 x]
section
variable {d : Nat} {fa : Option Addr} {fl fc : Nat}
set_option maxRecDepth 100000 in
set_option maxHeartbeats 1000000 in
theorem subs_in (hfl : fl ≤ 10) (n : Nat) (hn : 1 ≤ n) (l Bn : Nat) (J Jx : List Nat → World → Prop)
    (hY : ∀ pre x W, J pre W → pre.length < full fl → 1 ≤ x → x ≤ full fl → YieldAt Fence.wide (n - 1) Try.prog l (encU x) W fun e W' =>
      (e = .returned (.bool true) ∧ J (pre ++ [x]) W' ∧ True) ∨ (e = .returned (.bool false) ∧ Jx (pre ++ [x]) W'))
    (W : World) (hBn : W.cell? ⟨Bn, 0, none⟩ = some (.pointer (some ⟨d, 0, none⟩))) (hd0 : W.cell? ⟨d, 0, none⟩ = some (.slice fa fl fc)) (h0 : J [] W) :
    CallsIn Fence.wide n Try.prog 140 #[.func (.yield l) #[] #[], .pointer (some ⟨Bn, 0, none⟩)] W fun e W' => (∃ v, e = .returned v) ∧
      ((∃ ys, ys = subsL fl ∧ J ys W') ∨ (∃ pre, True ∧ Jx pre W')) := by
  have hp0 : (1 : Int) ≤ 2 ^ fl := by have := Nat.two_pow_pos fl; have h2 := pow_cast fl; omega
  have hp1 : (2 : Int) ^ fl ≤ 1024 := by
    have h := Nat.pow_le_pow_right (n := 2) (by omega) hfl
    have h2 := pow_cast fl
    omega
  have HFU : Hid ((full fl : Int) = 2 ^ fl - 1) := full_int fl
  have HY := Lib.hid hY
  clear hY
  refine callsIn_of_wp Try.func140 rfl trivial ?_ rfl
  simp only [Try.ntmps140, List.size_toArray, List.length_cons, List.length_nil, Nat.reduceAdd, Nat.reduceSub, Array.replicate_succ, Array.replicate_zero, List.push_toArray, List.append_toArray, List.nil_append, List.cons_append]
  gi_wp2
  refine wpIn_scope_straight (wpIn_seq (wpIn_label ?_))
  simp only [Exit.then]
  gi_wp2
  gi_loopw [12] (fun v wr => ∃ k : Nat, k ≤ full fl ∧ v = .int .u64 k ∧ Hid (J ((List.range k).map (· + 1)) wr)) (fun v _ => full fl - (intOf v).toNat)
  case atStart => exact ⟨0, Nat.zero_le _, rfl, h0⟩
  case round =>
    obtain ⟨k, hk, rfl, HJ⟩ := hrel
    by_cases hlt : k < full fl
    · have hkf : (k : Int) < 2 ^ fl - 1 := by have := HFU.out; omega
      have hkt : decide ((k : Int) < 2 ^ fl - 1) = true := by simp; omega
      obtain ⟨fn, tmps, assign, body, hy, hR⟩ := HY.out ((List.range k).map (· + 1)) (k + 1) wr HJ.out (by simpa using hlt) (by omega) (by omega)
      have hkn : ((k + 1 : Nat) : Int) = (k : Int) + 1 := by omega
      dsimp only [encU] at hy
      rw [hkn] at hy
      clear hkn
      gi_wp2
      refine hR.mono ?_
      rintro e W3 (⟨rfl, hJ3, _⟩ | ⟨rfl, hJx3⟩)
      · have HJ3 : Hid (J ((List.range (k + 1)).map (· + 1)) W3) := by rw [List.range_succ, List.map_append]; exact hJ3
        clear hJ3
        gi_wp2
        go_roundw
        case rel => exact ⟨k + 1, by omega, by go_num, HJ3⟩
        case measure => simp [intOf]; omega
      · gi_wp2
        simp only [Exit.noGoto]
        go_end0
        exact ⟨⟨_, rfl⟩, .inr ⟨_, trivial, hJx3⟩⟩
    · obtain rfl : k = full fl := by omega
      have hkt : decide ((full fl : Int) < 2 ^ fl - 1) = false := by have := HFU.out; simp; omega
      gi_wp2
      simp only [Exit.noGoto]
      go_end0
      exact ⟨⟨_, rfl⟩, .inl ⟨_, rfl, HJ.out⟩⟩
theorem subs_any (w : World) : Calls Try.prog 113 #[(.pointer (some ⟨d, 0, none⟩))] w fun e w' => e = .returned (.func (.func 140) #[] #[.pointer (some ⟨w.heap.size, 0, none⟩)]) ∧ w' = w.alloc (.cells #[(.pointer (some ⟨d, 0, none⟩))] 88) := by
  have hmf : ∀ (fn : Fn) (first cap : Array Value) (w : World), (Instr.makeFunc fn first cap).run Try.prog w = .ok (.func fn first cap) w := fun _ _ _ _ => rfl
  go_enter Try.func113, Try.ntmps113
  go_wp2
  go_ret
  exact ⟨rfl, rfl⟩
/-- A set, by its number. -/
abbrev Su (m : Nat) := {x : Nat // 1 ≤ x ∧ x ≤ full m}
theorem subs_stops (hfl : fl ≤ 10) (n : Nat) (hn : 1 ≤ n) (Bn : Nat) (w : World) (hBn : w.cell? ⟨Bn, 0, none⟩ = some (.pointer (some ⟨d, 0, none⟩))) (hd0 : w.cell? ⟨d, 0, none⟩ = some (.slice fa fl fc)) (q0 : Bn < w.heap.size) (q1 : d < w.heap.size) :
    SeqStopsK (α := Su fl) Fence.wide n Try.prog 140 #[.pointer (some ⟨Bn, 0, none⟩)] (fun x => encU x.1) (fun _ _ => True) (fun ys => ys.map (·.1) = subsL fl) (fun _ => True) (full fl) w := fun l J Jx W hW _ _ hY h0 => by
  refine (subs_in hfl n hn l Bn (fun pre W => ∃ ys : List (Su fl), ys.map (·.1) = pre ∧ J ys W) (fun pre W => ∃ ys : List (Su fl), ys.map (·.1) = pre ∧ Jx ys W) ?_ W ((hW.cell (p := ⟨Bn, 0, none⟩) q0).trans hBn) ((hW.cell (p := ⟨d, 0, none⟩) q1).trans hd0) ⟨[], rfl, h0⟩).mono ?_
  · rintro pre x W1 ⟨ys, rfl, hJ⟩ hlen hx1 hx2
    refine (hY ys ⟨x, hx1, hx2⟩ W1 hJ (by simpa using hlen)).mono ?_
    rintro e W2 (⟨h1, h2, h3⟩ | ⟨h1, h2⟩)
    · exact .inl ⟨h1, ⟨_, by simp, h2⟩, trivial⟩
    · exact .inr ⟨h1, ⟨_, by simp, h2⟩⟩
  · rintro e W1 ⟨h1, (⟨zs, rfl, ys, h2, h3⟩ | ⟨pre, _, ys, h2, h3⟩)⟩
    · exact ⟨h1, .inl ⟨ys, h2, h3⟩⟩
    · exact ⟨h1, .inr ⟨ys, trivial, h3⟩⟩
end
end Go.Proofs.Ytbfjebglaimcmaa
namespace Go.HavG
open Go.RowKit
section
variable {R : Rel} {P : Program} {ops : Array Oper}
theorem wpAny_havoc {Q : Exit → Act → World → Prop} (π : List (Nat × Bool)) (τ : List Nat) (Qp : List PanicEntry → World → Prop) {a : Act} {w : World} (hok : havOk ops π τ = true)
    (hQ : ∀ ch a' w', Agree ops (π.map (·.1)) a a' → Qp ch w' → Q (.panic ch) a' w')
    (h : wpHav R P ops Qp w (fun a F => ∀ w', R.G w w' → F w' → wpList P ops Q (τ.filterMap (ops[·]?)) a w') π a (fun _ => True)) : wpAny P .any ops Q ops.size (Array.replicate ops.size false) a { w with drawn := w.drawn + 1 } := by
  simp only [havOk, Bool.and_eq_true, List.all_eq_true, List.mem_range, Bool.or_eq_true, List.any_eq_true, beq_iff_eq, decide_eq_true_eq, bne_iff_ne, List.contains_iff_mem] at hok
  obtain ⟨c1, c2, c3, c4, c5, ⟨c6, c7⟩, c8, c9⟩ := hok
  have hg0 : R.G w { w with drawn := w.drawn + 1 } := R.drew w
  have hlow : ∀ i o e, ops[i]? = some o → e ∈ o.after → Region.binds .any e = true → e.on < i := fun i o e ho he hb => by
    have h1 := c9 i (Array.getElem?_eq_some_iff.1 ho).1
    simp only [ho, Array.all_eq_true_iff_forall_mem, Bool.or_eq_true, Bool.not_eq_true', decide_eq_true_eq] at h1
    exact (h1 e he).resolve_left (by simp [hb])
  rw [← c8]
  refine hav_any (w0 := w) (a0 := a) (Qp := Qp) c1 hlow hQ τ c3 c7 π.length π _ a _ (fun _ => True) rfl (by simp [c8]) ?_ c2 c4 c6 (fun x hx => List.mem_map.2 ⟨x, hx, rfl⟩) (fun i hi => ?_) (fun _ _ _ _ => trivial) trivial hg0 ⟨rfl, rfl, fun _ _ => rfl⟩ h
  · intro i o e _ hl
    simp [Array.getD_eq_getD_getElem?, Array.getElem?_replicate] at hl
    split at hl <;> simp at hl
  · have hr : ¬ (Array.replicate (π.length + τ.length) false).getD i false = true := by
      simp [Array.getD_eq_getD_getElem?, Array.getElem?_replicate]
      split <;> rfl
    refine ⟨fun _ => ?_, fun _ => by simpa [c8] using hr⟩
    rcases c5 i hi with ⟨x, hx, he⟩ | hx
    · exact .inl (List.mem_map.2 ⟨x, hx, he⟩)
    · exact .inr hx


/-- The rule, in a round. -/
theorem wpIn_region_havoc {l n : Nat} {Q : Exit → Act → World → Prop} (π : List (Nat × Bool)) (τ : List Nat) (Qp : List PanicEntry → World → Prop) {id : Nat} {a : Act} {w : World} (hm : P.follows .mixedOrders = true) (hok : havOk ops π τ = true)
    (hnd : Hav.noDefer ops = true) (hlo : ¬ LetsOut Q) (hQ : ∀ ch a' w', Agree ops (π.map (·.1)) a a' → Qp ch w' → Q (.panic ch) a' w')
    (h : wpHav R P ops Qp w (fun a F => ∀ w', R.G w w' → F w' → wpList P ops Q (τ.filterMap (ops[·]?)) a w') π a (fun _ => True)) : (Code.region id ops true).wpIn (Fence.wide.inRound l) n P Q a w :=
  wpIn_region_any hm (Hav.wpAny_in (Hav.noDefer_spec hnd) hlo _ _ _ _ (wpAny_havoc π τ Qp hok hQ h))
end
end Go.HavG
namespace Go.Proofs.Ytbfjebglaimcmaa
open Go.RowKit Go.Hav
/-- All is kept but the row's block, which keeps what it held, also with one element more. -/
def GA (B e : Nat) (v : Value) (n : Nat) (xs : List Value) (u : Value) : HavG.Rel where
  G w w' := w.grownBy w' v.ownBlock ∧ (w.ownsRow B e 1 v n xs → w'.ownsRow B e 1 v n xs) ∧ ∀ v2, w.ownsRow B e 1 v2 (n + 1) (xs ++ [u]) → w'.ownsRow B e 1 v2 (n + 1) (xs ++ [u])
  refl w := ⟨World.grownBy.refl w _, id, fun _ => id⟩
  trans h k := ⟨h.1.trans k.1, fun hm => k.2.1 (h.2.1 hm), fun v2 hm => k.2.2 v2 (h.2.2 v2 hm)⟩
  drew _ := ⟨below_grown (Below.drew (Below.refl _ _)) _, fun hm => own_below hm (Below.drew (Below.refl _ _)), fun _ hm => own_below hm (Below.drew (Below.refl _ _))⟩
theorem GA.below {B e : Nat} {v : Value} {n : Nat} {xs : List Value} {u : Value} {w w' : World} (h : Below w.heap.size w w') : (GA B e v n xs u).G w w' := ⟨below_grown h _, fun hm => own_below hm h, fun _ hm => own_below hm h⟩
theorem GA.low {B e : Nat} {v : Value} {n : Nat} {xs : List Value} {u : Value} {w w' : World} (h : (GA B e v n xs u).G w w') (hw : w.ownsRow B e 1 v n xs) (hB : B ≤ w.heap.size) {b : Nat} (hb : b < B) : w'.heap[b]? = w.heap[b]? :=
  h.1.block b (by omega) (fun hx => by have := (hw.lt b hx.symm).1; omega)
end Go.Proofs.Ytbfjebglaimcmaa
