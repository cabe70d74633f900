/- The table rule for a region that draws, where a fact goes over what is left to do: each step also knows that what comes ahead of it is done, and that what comes behind it is not. The law CartTrue: what is truly so lies within what is told. The law CartTrue: what is truly so lies within what is told. A slice of numbers of type uint16 that comes in. CartTrue: the step from the walk to the row, the row. Condition: what the statements say. -/
import Derived.Test.YtgmfhngcehkibaaGreatPkZ3
import Derived.ChangeOld
set_option maxRecDepth 100000
set_option maxHeartbeats 6400000
namespace Go.HavG
open Go.RowKit
section
variable {R : Rel} {P : Program} {ops : Array Oper}
theorem wp_region_tabQ {Q : Exit → Act → World → Prop} (Φ : Nat → (Nat → Value) → World → Prop) (Ψ : Nat → World → Prop) (J : List Nat → Act → World → Prop) (Old : Nat → Nat → Prop) (nw : List Nat) (sl : List (Option Nat)) {id : Nat} {a : Act} {w : World} (hm : P.follows .mixedOrders = true) (hok : tabSOk ops sl = true)
  (hsz : (sl.all fun d => match d with | some d => decide (d < a.tmps.size) | none => true) = true) (h0 : ∀ i, i < sl.length → Ψ i { w with drawn := w.drawn + 1 }) (hJ : J (List.range sl.length) a { w with drawn := w.drawn + 1 }) (hold : ∀ i b, Old i b → b < w.heap.size) (hdis : ∀ i j b, i ≠ j → Old i b → ¬ Old j b) (hG : ∀ {u u' : World}, R.G u u' → u.heap.size ≤ u'.heap.size)
  (hcg : ∀ i, i < sl.length → ∀ V V' w, Φ i V w → (∀ j, j = i ∨ ((Region.before ops).getD i 0).testBit j = true → V j = V' j) → Φ i V' w)
  (hnw : ∀ i ∈ nw, ∀ V w, Φ i V w → bkV (V i) < w.heap.size)
  (hstep : ∀ i, i < sl.length → ∀ o a' w', ops[i]? = some o → Agree ops (List.range sl.length) a a' → R.G w w' → (∀ j, ((Region.before ops).getD i 0).testBit j = true → j < sl.length → Φ j (valV sl (slot a')) w') → (∀ j k, j ∈ nw → k ∈ nw → j ≠ k → j < sl.length → k < sl.length → ((Region.before ops).getD i 0).testBit j = true → ((Region.before ops).getD i 0).testBit k = true → bkV (valV sl (slot a') j) ≠ bkV (valV sl (slot a') k)) → Ψ i w' → (∀ d, ((List.range sl.length).all fun k => !(sl[k]? == some (some d)) || ((Region.before ops).getD k 0).testBit i) = true → slot a' d = slot a d) → ∀ rem : List Nat, i ∈ rem → rem.Nodup → (∀ j ∈ rem, ((Region.before ops).getD i 0).testBit j = false) → (∀ k, k < sl.length → k ∉ rem → ((Region.before ops).getD k 0).testBit i = false) → J rem a' w' →
   stepOf P ops o a' w' (fun a'' w'' => ∃ v, a'' = a'.put o.dst v ∧ (R.G w' w'' ∧ J (rem.erase i) (a'.put o.dst v) w'') ∧ (∀ k V, V = valV sl (slot a') → k < sl.length → k ≠ i → ((Region.before ops).getD k 0).testBit i = false → Φ k V w' → Φ k V w'') ∧ (∀ k, k < sl.length → k ≠ i → ((Region.before ops).getD i 0).testBit k = false → Ψ k w' → Ψ k w'') ∧ (∀ V, (∀ j, j ≠ i → V j = valV sl (slot a') j) → (o.dst ≠ none → V i = v) → Φ i V w'') ∧ (i ∈ nw → o.dst ≠ none ∧ (w'.heap.size ≤ bkV v ∨ Old i (bkV v)))) Q)
  (hend : ∀ (f : Nat → Value) w', R.G w w' → J [] (puts f (sl.filterMap fun d => d) a) w' → (∀ i, i < sl.length → Φ i (valV sl f) w') → (∀ i j, i ∈ nw → j ∈ nw → i ≠ j → i < sl.length → j < sl.length → bkV (valV sl f i) ≠ bkV (valV sl f j)) → wpList P ops Q [] (puts f (sl.filterMap fun d => d) a) w') : (Code.region id ops true).wp P Q a w := by
 simp only [tabSOk, Bool.and_eq_true] at hok; obtain ⟨k1, k2, k3⟩ := hok
 have hdst : ∀ i o, i < sl.length → ops[i]? = some o → sl[i]? = some o.dst := fun i o hi ho => by
  have := List.all_eq_true.1 k2 i (List.mem_range.2 hi); rw [ho] at this
  simpa using this
 have hinj : ∀ i k d, i < sl.length → k < sl.length → sl[i]? = some (some d) → sl[k]? = some (some d) → i = k := fun i k d hi hk h1 h2 => by
  have := List.all_eq_true.1 (List.all_eq_true.1 k3 i (List.mem_range.2 hi)) k (List.mem_range.2 hk); rw [h1, h2] at this
  simpa using this
 refine wp_region_gen (P := P) (fun rem a' w' => R.G w w' ∧ a'.tmps.size = a.tmps.size ∧ (∀ i ∈ rem, i < sl.length) ∧ (∀ k, k < sl.length → k ∉ rem → ∀ i ∈ rem, ((Region.before ops).getD k 0).testBit i = false) ∧ (∀ i, i < sl.length → i ∉ rem → Φ i (valV sl (slot a')) w') ∧ (∀ i ∈ rem, Ψ i w') ∧ (∀ d, (∀ k, k < sl.length → sl[k]? = some (some d) → k ∈ rem) → slot a' d = slot a d) ∧ J rem a' w' ∧ (∀ i ∈ nw, i < sl.length → i ∉ rem → w.heap.size ≤ bkV (valV sl (slot a') i) ∨ Old i (bkV (valV sl (slot a') i))) ∧
   ∀ i j, i ∈ nw → j ∈ nw → i ≠ j → i < sl.length → j < sl.length → i ∉ rem → j ∉ rem → bkV (valV sl (slot a') i) ≠ bkV (valV sl (slot a') j)) (List.range sl.length) [] hm k1
  ⟨R.drew w, rfl, fun i hi => List.mem_range.1 hi, fun k hk hn => absurd (List.mem_range.2 hk) hn, fun i hi hn => absurd (List.mem_range.2 hi) hn, fun i hi => h0 i (List.mem_range.1 hi), fun _ _ => rfl, hJ, fun i _ hi hn => absurd (List.mem_range.2 hi) hn, fun i j _ _ _ hi _ hn => absurd (List.mem_range.2 hi) hn⟩ ?_ ?_
 ·rintro rem i o a' w' hmem hnd ho hag hdep ⟨hg, hs, hlt, hdp, hf, hpsi, hsl, hj, hno, hap⟩; have hil := hlt i hmem; have hd := hdst i o hil ho
  have h := hstep i hil o a' w' ho hag hg (fun j hj hjl => hf j hjl (fun hm => by have := hdep j hm; rw [this] at hj; cases hj)) (fun j k hj hk hjk hjl hkl bj bk => hap j k hj hk hjk hjl hkl (fun hm => by have := hdep j hm; rw [this] at bj; cases bj) (fun hm => by have := hdep k hm; rw [this] at bk; cases bk)) (hpsi i hmem) (fun d hd => hsl d fun k hk hkd => by
   have h1 := List.all_eq_true.1 hd k (List.mem_range.2 hk); rw [hkd] at h1
   apply Classical.byContradiction
   intro hn; have h2 := hdp k hk hn i hmem; rw [h2] at h1
   simp at h1) rem hmem hnd hdep (fun k hk hn => hdp k hk hn i hmem) hj
  have next : ∀ a'' w'', (∃ v, a'' = a'.put o.dst v ∧ (R.G w' w'' ∧ J (rem.erase i) (a'.put o.dst v) w'') ∧ (∀ k V, V = valV sl (slot a') → k < sl.length → k ≠ i → ((Region.before ops).getD k 0).testBit i = false → Φ k V w' → Φ k V w'') ∧ (∀ k, k < sl.length → k ≠ i → ((Region.before ops).getD i 0).testBit k = false → Ψ k w' → Ψ k w'') ∧ (∀ V, (∀ j, j ≠ i → V j = valV sl (slot a') j) → (o.dst ≠ none → V i = v) → Φ i V w'') ∧ (i ∈ nw → o.dst ≠ none ∧ (w'.heap.size ≤ bkV v ∨ Old i (bkV v)))) →
    ∃ v, a'' = a'.put o.dst v ∧ R.G w w'' ∧ a''.tmps.size = a.tmps.size ∧ (∀ k ∈ rem.erase i, k < sl.length) ∧ (∀ k, k < sl.length → k ∉ rem.erase i → ∀ j ∈ rem.erase i, ((Region.before ops).getD k 0).testBit j = false) ∧ (∀ k, k < sl.length → k ∉ rem.erase i → Φ k (valV sl (slot a'')) w'') ∧ (∀ k ∈ rem.erase i, Ψ k w'') ∧ (∀ d, (∀ k, k < sl.length → sl[k]? = some (some d) → k ∈ rem.erase i) → slot a'' d = slot a d) ∧ J (rem.erase i) a'' w'' ∧ (∀ k ∈ nw, k < sl.length → k ∉ rem.erase i → w.heap.size ≤ bkV (valV sl (slot a'') k) ∨ Old k (bkV (valV sl (slot a'') k))) ∧
    ∀ k j, k ∈ nw → j ∈ nw → k ≠ j → k < sl.length → j < sl.length → k ∉ rem.erase i → j ∉ rem.erase i → bkV (valV sl (slot a'') k) ≠ bkV (valV sl (slot a'') j) := by
   rintro a'' w'' ⟨v, rfl, ⟨hg2, hj2⟩, hkp, hps2, hphi, hnew⟩
   have was : ∀ k, k ≠ i → k ∉ rem.erase i → k ∉ rem := fun k e hk hm => hk (hnd.mem_erase_iff.2 ⟨e, hm⟩)
   have keep : ∀ j, j ≠ i → valV sl (slot (a'.put o.dst v)) j = valV sl (slot a') j := fun j e => by
    unfold valV
    cases hj : sl[j]? with
    | none => rfl
    | some dj =>
     cases dj with
     | none => rfl
     | some d =>
      show slot (a'.put o.dst v) d = slot a' d
      exact slot_put _ (fun he => e (hinj j i d (List.getElem?_eq_some_iff.1 hj).1 hil hj (by rw [hd, he])))
   have self : o.dst ≠ none → valV sl (slot (a'.put o.dst v)) i = v := fun hn => by
    unfold valV; rw [hd]
    cases hod : o.dst with
    | none => exact absurd hod hn
    | some d =>
     rw [hod] at hd
     exact slot_self v (by
      rw [hs]; have := List.all_eq_true.1 hsz (some d) (List.mem_of_getElem? hd)
      simpa using this)
   have dif : ∀ k, k ∈ nw → i ∈ nw → k ≠ i → k < sl.length → k ∉ rem.erase i → bkV (valV sl (slot a') k) ≠ bkV v := fun k hk hi e hkl hr he => by
    have h1 := hnw k hk _ _ (hf k hkl (was k e hr)); rcases (hnew hi).2 with h2 | h2
    ·omega
    ·rcases hno k hk hkl (was k e hr) with h3 | h3
     ·have := hold _ _ h2; omega
     ·exact hdis k i _ e h3 (by rw [he]; exact h2)
   refine ⟨v, rfl, R.trans hg hg2, ?_, fun k hk => hlt k (List.mem_of_mem_erase hk), fun k hkl hk j hj => ?_, fun k hkl hk => ?_, fun k hk => hps2 k (hlt k (List.mem_of_mem_erase hk)) (fun e => (hnd.mem_erase_iff.1 hk).1 e) (hdep k (List.mem_of_mem_erase hk)) (hpsi k (List.mem_of_mem_erase hk)), fun d hdd => ?_, hj2, fun k hkn hkl hk => ?_, fun k j hkn hjn hkj hkl hjl hk hj => ?_⟩
   ·cases hod : o.dst with
    | none => exact hs
    | some d => simp [Act.put, hs]
   ·by_cases e : k = i
    ·subst e; exact hdep j (List.mem_of_mem_erase hj)
    ·exact hdp k hkl (was k e hk) j (List.mem_of_mem_erase hj)
   ·by_cases e : k = i
    ·subst e
     exact hphi _ (fun j hj => keep j hj) self
    ·refine hcg k hkl _ _ _ (hkp k _ rfl hkl e (hdp k hkl (was k e hk) i hmem) (hf k hkl (was k e hk))) (fun j hj => (keep j (fun ej => ?_)).symm)
     subst ej; rcases hj with rfl | hj
     ·exact e rfl
     ·have := hdp k hkl (was k e hk) j hmem; rw [this] at hj; cases hj
   ·rw [slot_put _ (fun e => (hnd.mem_erase_iff.1 (hdd i hil (by rw [hd, e]))).1 rfl)]
    exact hsl d (fun k hk hkd => List.mem_of_mem_erase (hdd k hk hkd))
   ·by_cases e : k = i
    ·subst e; rw [self (hnew hkn).1]
     exact (hnew hkn).2.imp (fun h => Nat.le_trans (hG hg) h) (fun h => h)
    ·rw [keep k e]; exact hno k hkn hkl (was k e hk)
   ·by_cases e1 : k = i
    ·subst e1; rw [self (hnew hkn).1, keep j (Ne.symm hkj)]; exact (dif j hjn hkn (Ne.symm hkj) hjl hj).symm
    ·by_cases e2 : j = i
     ·subst e2; rw [self (hnew hjn).1, keep k e1]; exact dif k hkn hjn e1 hkl hk
     ·rw [keep k e1, keep j e2]; exact hap k j hkn hjn hkj hkl hjl (was k e1 hk) (was j e2 hj)
  unfold stepOf at h ⊢
  split
  ·rename_i hw
   rw [if_pos hw] at h; exact Oper.wp_mono next h
  ·rename_i hw
   rw [if_neg hw] at h; exact next _ _ h
 ·rintro a' w' hag ⟨hg, hs, _, _, hf, _, _, hj, _, hap⟩
  have he := agree_puts hag (sl.filterMap fun d => d) (by
   rw [List.all_eq_true]; intro i hi; have hil := List.mem_range.1 hi
   cases ho : ops[i]? with
   | none => rfl
   | some o =>
    have hd := hdst i o hil ho
    cases hod : o.dst with
    | none => simp [hod]
    | some d =>
     simp only [hod]; rw [hod] at hd
     simpa using List.mem_of_getElem? hd)
  rw [he]
  exact hend (slot a') w' hg (by rw [← he]; exact hj) (fun i hi => hf i hi (by simp)) (fun i j hi hj hij hil hjl => hap i j hi hj hij hil hjl (by simp) (by simp))
end
end Go.HavG
namespace Go.Proofs.YtgmfhngcehkibaaGreat
open Go.RowKit Go.Hav Go.Shelf Go.Sq
attribute [local go_sem] Oper.semAt_some
def cntQ (cn N : Nat) (rem : List Nat) (w : World) : Prop := Cnt cn (N + (if 4 ∈ rem then 0 else 1) + (if 9 ∈ rem then 0 else 1)) w
theorem cntQ_skip {cn N i : Nat} {rem : List Nat} {w : World} (h1 : i ≠ 4) (h2 : i ≠ 9) (h : cntQ cn N rem w) : cntQ cn N (rem.erase i) w := by
 unfold cntQ at h ⊢; simp only [List.mem_erase_of_ne (Ne.symm h1), List.mem_erase_of_ne (Ne.symm h2)]; exact h
theorem cntQ_p {cn N : Nat} {rem : List Nat} {w : World} (hp : 4 ∈ rem) (hnd : rem.Nodup) (h : cntQ cn N rem w) : ∃ M, M ≤ N + 1 ∧ Cnt cn M w ∧ ∀ w', Cnt cn (M + 1) w' → cntQ cn N (rem.erase 4) w' := by
 unfold cntQ at h; rw [if_pos hp] at h
 refine ⟨_, by split <;> omega, h, fun w' h' => ?_⟩
 unfold cntQ
 rw [if_neg (show ¬ 4 ∈ rem.erase 4 from fun h => (hnd.mem_erase_iff.1 h).1 rfl)]
 simp only [List.mem_erase_of_ne (show (9 : Nat) ≠ 4 by decide)]
 exact h'.mono (by omega)
theorem cntQ_q {cn N : Nat} {rem : List Nat} {w : World} (hq : 9 ∈ rem) (hnd : rem.Nodup) (h : cntQ cn N rem w) : ∃ M, M ≤ N + 1 ∧ Cnt cn M w ∧ ∀ w', Cnt cn (M + 1) w' → cntQ cn N (rem.erase 9) w' := by
 unfold cntQ at h; rw [if_pos hq] at h
 refine ⟨_, by split <;> omega, h, fun w' h' => ?_⟩
 unfold cntQ
 rw [if_neg (show ¬ 9 ∈ rem.erase 9 from fun h => (hnd.mem_erase_iff.1 h).1 rfl)]
 simp only [List.mem_erase_of_ne (show (4 : Nat) ≠ 9 by decide)]
 exact h'.mono (by omega)
def e4T (BW b3 cn us p0 p1 n0 n1 : Nat) (i : Nat) (V : Nat → Value) (w : World) : Prop :=
 match i with
 | 0 => V 0 = (.func (.func 87) #[] #[.pointer (some ⟨cn, 0, none⟩), .pointer (some ⟨us, 0, none⟩)])
 | 1 => V 1 = (.pointer (some ⟨b3, 0, none⟩))
 | 2 => V 2 = (.pointer (some ⟨b3, 0, none⟩))
 | 3 => V 3 = .agg #[.int .i64 (p0 : Int), .int .i64 (p1 : Int)]
 | 4 => ∃ d : Nat, V 4 = .int .i64 d ∧ p0 ≤ d ∧ d ≤ p1
 | 5 => V 5 = (.func (.func 87) #[] #[.pointer (some ⟨cn, 0, none⟩), .pointer (some ⟨us, 0, none⟩)])
 | 6 => V 6 = (.pointer (some ⟨b3, 0, none⟩))
 | 7 => V 7 = (.pointer (some ⟨b3, 2, none⟩))
 | 8 => V 8 = .agg #[.int .i64 (n0 : Int), .int .i64 (n1 : Int)]
 | 9 => ∃ d : Nat, V 9 = .int .i64 d ∧ n0 ≤ d ∧ d ≤ n1
 | 10 => ∃ d y : Nat, V 10 = .agg #[.int .i64 (d : Nat), .int .i64 (y : Nat), .slice none 0 0, .slice none 0 0] ∧ p0 ≤ d ∧ d ≤ p1 ∧ n0 ≤ y ∧ y ≤ n1
 | 11 => ∃ g, V 11 = .pointer (some ⟨g, 0, none⟩) ∧ BW ≤ g ∧ ∃ u0 u1 u2 u3, Blk w g 57 #[u0, u1, u2, u3]
 | 12 => ∃ g, V 11 = .pointer (some ⟨g, 0, none⟩) ∧ BW ≤ g ∧ ∃ d y : Nat, Blk w g 57 #[.int .i64 (d : Nat), .int .i64 (y : Nat), .slice none 0 0, .slice none 0 0] ∧ p0 ≤ d ∧ d ≤ p1 ∧ n0 ≤ y ∧ y ≤ n1
 | _ => True
section
variable {BW b3 cn us p0 p1 n0 n1 i : Nat} {V : Nat → Value} {w w' : World} {S : Nat → Prop}
theorem e4_turn (h : e4T BW b3 cn us p0 p1 n0 n1 i V w) (t : Turn S w w') (hs : ∀ b, S b → b < BW) : e4T BW b3 cn us p0 p1 n0 n1 i V w' := by
 unfold e4T at h ⊢
 split at h
 case h_12 => obtain ⟨g, e, hg, u0, u1, u2, u3, h⟩ := h; exact ⟨g, e, hg, u0, u1, u2, u3, h.turn t (fun e => by have := hs _ e; omega)⟩
 case h_13 => obtain ⟨g, e, hg, d, y, h, hh⟩ := h; exact ⟨g, e, hg, d, y, h.turn t (fun e => by have := hs _ e; omega), hh⟩
 all_goals exact h
theorem e4_grow (h : e4T BW b3 cn us p0 p1 n0 n1 i V w) (hb : Below w.heap.size w w') : e4T BW b3 cn us p0 p1 n0 n1 i V w' := e4_turn (S := fun _ => False) h (Turn.of_below hb) (fun _ h => h.elim)
theorem e4_store {g : Nat} {a0 a1 a2 a3 : Value} (h : e4T BW b3 cn us p0 p1 n0 n1 i V w) (hi : i ≠ 12) (ts : Turn (fun b => b = g) w w') (hC : Blk w' g 57 #[a0, a1, a2, a3]) : e4T BW b3 cn us p0 p1 n0 n1 i V w' := by
 unfold e4T at h ⊢
 split at h
 case h_12 =>
  obtain ⟨q, e, hg, u0, u1, u2, u3, h⟩ := h
  by_cases e2 : q = g
  ·subst e2; exact ⟨q, e, hg, _, _, _, _, hC⟩
  ·exact ⟨q, e, hg, u0, u1, u2, u3, h.turn ts e2⟩
 case h_13 => exact absurd rfl hi
 all_goals exact h
def set4 (w : World) (g : Nat) (v0 v1 v2 v3 : Value) : World := (((w.setCell ⟨g, 0, none⟩ v0).setCell ⟨g, 1, none⟩ v1).setCell ⟨g, 2, none⟩ v2).setCell ⟨g, 3, none⟩ v3
theorem set4_turn (w : World) (g : Nat) (v0 v1 v2 v3 : Value) : Turn (fun b => b = g) w (set4 w g v0 v1 v2 v3) := by
 have s : ∀ (X : World) (o : Nat) (v : Value), Turn (fun b => b = g) X (X.setCell ⟨g, o, none⟩ v) := fun X o v => Turn.set (S := fun b => b = g) ⟨g, o, none⟩ v (fun _ => rfl)
 exact (((s _ _ _).trans (s _ _ _)).trans (s _ _ _)).trans (s _ _ _)
theorem set4_blk {g : Nat} {t : TypeId} {u0 u1 u2 u3 v0 v1 v2 v3 : Value} (h : Blk w g t #[u0, u1, u2, u3]) : Blk (set4 w g v0 v1 v2 v3) g t #[v0, v1, v2, v3] := by
 have h0 := (((h.set_ 0 v0).set_ 1 v1).set_ 2 v2).set_ 3 v3
 simpa [set4] using h0
theorem storeT {a : Act} {o : Oper} {dd e g d y : Nat} {u0 u1 u2 u3 : Value} (ho : o.op = .store 57 (.tmp dd) (.tmp e)) (h1 : a.tmps[dd]?.getD undef = .pointer (some ⟨g, 0, none⟩)) (h2 : a.tmps[e]?.getD undef = .agg #[.int .i64 (d : Nat), .int .i64 (y : Nat), .slice none 0 0, .slice none 0 0]) (hb : Blk w g 57 #[u0, u1, u2, u3]) :
  (execOp a.eval o).run Tryz.prog w = .ok .skip (set4 w g (.int .i64 (d : Nat)) (.int .i64 (y : Nat)) (.slice none 0 0) (.slice none 0 0)) := by
 have c0 := hb.cell 0; have c1 := hb.cell 1; have c2 := hb.cell 2; have c3 := hb.cell 3; have f0 := hb.frozen 0; have f1 := hb.frozen 1; have f2 := hb.frozen 2; have f3 := hb.frozen 3; have hl := hb.lt; simp at c0 c1 c2 c3; unfold execOp set4; rw [ho]
 go_simp
end
section
variable {w0 w w' K : World} {b3 cn us fl fc ll lc wn wc tn tc bn bc ul uc N : Nat} {fa la wa ta ba ua : Option Addr} {c : ICart} {U by_ : List Nat}
theorem tr3 (hD : TrD w0 K b3 cn us fl fc ll lc wn wc tn tc bn ul uc N fa la wa ta ba ua c U by_) (hN : N ≤ 40) : TR7 3 w0 (.slice ba bn bc) (.pointer (some ⟨b3, 0, none⟩)) (.func (.func 87) #[] #[.pointer (some ⟨cn, 0, none⟩), .pointer (some ⟨us, 0, none⟩)]) K := by
 unfold TR7 TG
 intros
 have hsp := okR_sp (okC_parts hD.ok).1; obtain ⟨p0, hp0⟩ : ∃ n : Nat, c.riv.depth.lo = n := ⟨c.riv.depth.lo.toNat, by omega⟩
 obtain ⟨p1, hp1⟩ : ∃ n : Nat, c.riv.depth.hi = n := ⟨c.riv.depth.hi.toNat, by omega⟩
 obtain ⟨n0, hn0⟩ : ∃ n : Nat, c.riv.fall.lo = n := ⟨c.riv.fall.lo.toNat, by omega⟩
 obtain ⟨n1, hn1⟩ : ∃ n : Nat, c.riv.fall.hi = n := ⟨c.riv.fall.hi.toNat, by omega⟩
 have HP : Hid (c.riv.depth.lo = p0 ∧ c.riv.depth.hi = p1 ∧ c.riv.fall.lo = n0 ∧ c.riv.fall.hi = n1) := ⟨hp0, hp1, hn0, hn1⟩; have HLE : Hid (p0 ≤ p1 ∧ n0 ≤ n1 ∧ p1 ≤ 1000 ∧ n1 ≤ 1000) := ⟨by omega, by omega, by omega, by omega⟩
 have HCK : Hid (cn < K.heap.size) := hD.cnt.lt; have hcw := hD.cnt.lt; have hw0 := hD.bw.size
 have HDT : Hid (∀ (X : World) (M : Nat), Turn (fun b => b = cn ∨ K.heap.size ≤ b) K X → Cnt cn M X → TrD w0 X b3 cn us fl fc ll lc wn wc tn tc bn ul uc M fa la wa ta ba ua c U by_) := fun X M tu hc =>
  hD.turn tu (fun b e => by rcases e with e | e; rw [e]; exact hD.c0; omega)
   (by rintro (e | e); exact hD.cnt.ne hD.box (by decide) e; have := hD.box.lt; omega)
   (by rintro (e | e); exact hD.cnt.ne hD.hs (by decide) e; have := hD.hs.lt; omega) hc
 have HN3 : Hid (¬ (b3 = cn ∨ K.heap.size ≤ b3)) := by
  rintro (e | e)
  ·exact hD.cnt.ne hD.box (by decide) e
  ·have := hD.box.lt; omega
 have HEND : Hid (∀ (wz : World) (b8 d y : Nat), Turn (fun b => b = cn ∨ K.heap.size ≤ b) K wz → Cnt cn (N + 2) wz → Blk wz b8 57 #[.int .i64 (d : Nat), .int .i64 (y : Nat), .slice none 0 0, .slice none 0 0] → K.heap.size ≤ b8 → p0 ≤ d ∧ d ≤ p1 ∧ n0 ≤ y ∧ y ≤ n1 → TR6 4 w0 (.slice ba bn bc) (.pointer (some ⟨b3, 0, none⟩)) (.func (.func 87) #[] #[.pointer (some ⟨cn, 0, none⟩), .pointer (some ⟨us, 0, none⟩)]) (.pointer (some ⟨b8, 0, none⟩)) wz) := fun wz b8 d y tu hc h8 hg hh =>
  tr4 (d0 := d) (y0 := y) (HDT.out wz _ tu hc) (by omega) h8 (by omega) ⟨by show c.riv.depth.lo.toNat ≤ d; omega, by show d ≤ c.riv.depth.hi.toNat; omega⟩ ⟨by show c.riv.fall.lo.toNat ≤ y; omega, by show y ≤ c.riv.fall.hi.toNat; omega⟩
 have HC := Lib.hid hD.box; have HD := Lib.hid hD; clear hD hsp hp0 hp1 hn0 hn1
 conv => arg 2; whnf
 conv => arg 2; arg 2; change trK 4
 go_upto_region 4 with (fail)
 rename ∀ a w, Code.wp Tryz.prog (trK 4) _ a w → _ => hKU
 have HKU := Lib.hid hKU; clear hKU
 refine HavG.wp_region_tabQ (R := (TP (ι := Empty) (fun b => b = cn ∨ K.heap.size ≤ b) (fun i _ => i.elim) (fun i => i.elim))) (fun i V wx => e4T K.heap.size b3 cn us p0 p1 n0 n1 i V wx) (fun i wx => True) (fun rem _ w => cntQ cn N rem w) (fun _ _ => False) [] [some 54, some 55, some 56, some 57, some 58, some 59, some 60, some 61, some 62, some 63, some 64, some 8, none] (by kernel_rfl) (by kernel_rfl) (by rfl) (fun _ _ => trivial) (Cnt.mono (Cnt.below HD.out.cnt (Below.drew (Below.refl _ _))) (by omega)) (fun _ _ h => h.elim) (fun _ _ _ _ h => h.elim) (fun h => h.1.size) ?_ (fun i hi => by cases hi) ?_ ?_
 ·intro i hi V V' w h hV
  match i, hi, h, hV with
  | 0, _, h, hV => exact (hV _ (.inl rfl)).symm.trans h
  | 1, _, h, hV => exact (hV _ (.inl rfl)).symm.trans h
  | 2, _, h, hV => exact (hV _ (.inl rfl)).symm.trans h
  | 3, _, h, hV => exact (hV _ (.inl rfl)).symm.trans h
  | 4, _, h, hV => (obtain ⟨g, e, h⟩ := h; exact ⟨g, (hV 4 (.inl rfl)).symm.trans e, h⟩)
  | 5, _, h, hV => exact (hV _ (.inl rfl)).symm.trans h
  | 6, _, h, hV => exact (hV _ (.inl rfl)).symm.trans h
  | 7, _, h, hV => exact (hV _ (.inl rfl)).symm.trans h
  | 8, _, h, hV => exact (hV _ (.inl rfl)).symm.trans h
  | 9, _, h, hV => (obtain ⟨g, e, h⟩ := h; exact ⟨g, (hV 9 (.inl rfl)).symm.trans e, h⟩)
  | 10, _, h, hV => (obtain ⟨g, cp, e, h⟩ := h; exact ⟨g, cp, (hV 10 (.inl rfl)).symm.trans e, h⟩)
  | 11, _, h, hV => (obtain ⟨g, e, h⟩ := h; exact ⟨g, (hV 11 (.inl rfl)).symm.trans e, h⟩)
  | 12, _, h, hV => (obtain ⟨g, e, h⟩ := h; exact ⟨g, (hV 11 (.inr (by kernel_rfl))).symm.trans e, h⟩)
  | j + 13, hj, _, _ => exact absurd hj (by simp)
 ·intro i hi oo a' w' ho hag hg hd hap hps hsl rem him hnd hdep hdp hj
  match i, hi, ho, hd, hap, hps, hsl, him, hdep, hdp with
  | 0, _, ho, hd, hap, hps, hsl, him, hdep, hdp =>
   (simp only [List.getElem?_toArray, List.getElem?_cons_zero, Option.some.injEq] at ho; subst ho)
   have s7 : a'.tmps[7]?.getD undef = (.func (.func 87) #[] #[.pointer (some ⟨cn, 0, none⟩), .pointer (some ⟨us, 0, none⟩)]) := by rw [← Array.getD_eq_getD_getElem?]; exact hag.slot 7 (by kernel_rfl)
   have r7 : a'.tmps.getD 7 undef = (.func (.func 87) #[] #[.pointer (some ⟨cn, 0, none⟩), .pointer (some ⟨us, 0, none⟩)]) := hag.slot 7 (by kernel_rfl)
   refine HavG.tabY_val rfl (by simp) ⟨.func (.func 87) #[] #[.pointer (some ⟨cn, 0, none⟩), .pointer (some ⟨us, 0, none⟩)], w', ?_, ⟨HavG.Rel.refl _ _, cntQ_skip (by decide) (by decide) hj⟩, fun _ _ _ _ _ _ h => h, fun _ _ _ _ h => h, fun V _ hv => hv, fun h => by simp at h⟩
   go_simp
   try rfl
  | 1, _, ho, hd, hap, hps, hsl, him, hdep, hdp =>
   (simp only [List.getElem?_toArray, List.getElem?_cons_succ, List.getElem?_cons_zero, Option.some.injEq] at ho; subst ho)
   have s3 : a'.tmps[3]?.getD undef = (.pointer (some ⟨b3, 0, none⟩)) := by rw [← Array.getD_eq_getD_getElem?]; exact hag.slot 3 (by kernel_rfl)
   have r3 : a'.tmps.getD 3 undef = (.pointer (some ⟨b3, 0, none⟩)) := hag.slot 3 (by kernel_rfl)
   refine HavG.tabY_val rfl (by simp) ⟨.pointer (some ⟨b3, 0, none⟩), w', ?_, ⟨HavG.Rel.refl _ _, cntQ_skip (by decide) (by decide) hj⟩, fun _ _ _ _ _ _ h => h, fun _ _ _ _ h => h, fun V _ hv => hv, fun h => by simp at h⟩
   go_simp
   try rfl
  | 2, _, ho, hd, hap, hps, hsl, him, hdep, hdp =>
   (simp only [List.getElem?_toArray, List.getElem?_cons_succ, List.getElem?_cons_zero, Option.some.injEq] at ho; subst ho)
   have d55 : a'.tmps.getD 55 undef = (.pointer (some ⟨b3, 0, none⟩)) := hd 1 (by kernel_rfl) (by decide)
   have c55 : a'.tmps[55]?.getD undef = (.pointer (some ⟨b3, 0, none⟩)) := by rw [← Array.getD_eq_getD_getElem?]; exact d55
   refine HavG.tabY_val rfl (by simp) ⟨.pointer (some ⟨b3, 0, none⟩), w', ?_, ⟨HavG.Rel.refl _ _, cntQ_skip (by decide) (by decide) hj⟩, fun _ _ _ _ _ _ h => h, fun _ _ _ _ h => h, fun V _ hv => hv, fun h => by simp at h⟩
   go_simp
   try rfl
  | 3, _, ho, hd, hap, hps, hsl, him, hdep, hdp =>
   (simp only [List.getElem?_toArray, List.getElem?_cons_succ, List.getElem?_cons_zero, Option.some.injEq] at ho; subst ho)
   have d56 : a'.tmps.getD 56 undef = (.pointer (some ⟨b3, 0, none⟩)) := hd 2 (by kernel_rfl) (by decide)
   have c56 : a'.tmps[56]?.getD undef = (.pointer (some ⟨b3, 0, none⟩)) := by rw [← Array.getD_eq_getD_getElem?]; exact d56
   have hk := HC.out.turn hg.1 HN3.out; obtain ⟨q0, q1, q2, q3, q4, q5, q6, q7, q8, q9, ql⟩ := cx31 hk; rw [HP.out.1] at q0; rw [HP.out.2.1] at q1; clear hk
   refine HavG.tabY_val rfl (by simp) ⟨.agg #[.int .i64 (p0 : Int), .int .i64 (p1 : Int)], w', ?_, ⟨HavG.Rel.refl _ _, cntQ_skip (by decide) (by decide) hj⟩, fun _ _ _ _ _ _ h => h, fun _ _ _ _ h => h, fun V _ hv => hv, fun h => by simp at h⟩
   go_simp
   try rfl
  | 4, _, ho, hd, hap, hps, hsl, him, hdep, hdp =>
   (simp only [List.getElem?_toArray, List.getElem?_cons_succ, List.getElem?_cons_zero, Option.some.injEq] at ho; subst ho)
   have e1 : HavG.slot a' 54 = (.func (.func 87) #[] #[.pointer (some ⟨cn, 0, none⟩), .pointer (some ⟨us, 0, none⟩)]) := hd 0 (by kernel_rfl) (by decide)
   have e2 : HavG.slot a' 57 = .agg #[.int .i64 (p0 : Int), .int .i64 (p1 : Int)] := hd 3 (by kernel_rfl) (by decide)
   have d54 : a'.tmps.getD 54 undef = .func (.func 87) #[] #[.pointer (some ⟨cn, 0, none⟩), .pointer (some ⟨us, 0, none⟩)] := e1; have c54 : a'.tmps[54]?.getD undef = .func (.func 87) #[] #[.pointer (some ⟨cn, 0, none⟩), .pointer (some ⟨us, 0, none⟩)] := by rw [← Array.getD_eq_getD_getElem?]; exact d54
   have d57 : a'.tmps.getD 57 undef = .agg #[.int .i64 (p0 : Int), .int .i64 (p1 : Int)] := e2; have c57 : a'.tmps[57]?.getD undef = .agg #[.int .i64 (p0 : Int), .int .i64 (p1 : Int)] := by rw [← Array.getD_eq_getD_getElem?]; exact d57
   obtain ⟨M, hM, hc, hnx⟩ := cntQ_p him hnd hj; refine HavG.tabY_call rfl (by simp) (f := 87) (args := #[.agg #[.int .i64 (p0 : Int), .int .i64 (p1 : Int)], .pointer (some ⟨cn, 0, none⟩), .pointer (some ⟨us, 0, none⟩)]) (by go_simp; try rfl) (((HDT.out w' M hg.1 hc).draw (lo := p0) (hi := p1) (by omega) HLE.out.1 (by have := HLE.out; omega)).mono ?_)
   rintro e w2 ⟨⟨v, rfl, hv1, hv2⟩, hc2, ht⟩
   exact ⟨_, rfl, ⟨⟨ht.mono (fun b e => .inl e), fun i => i.elim⟩, hnx _ hc2⟩, fun j V _ _ _ _ h => e4_turn h ht (fun b e => by have := HCK.out; have e' : b = cn := e; omega), fun _ _ _ _ h => h, fun V _ hv => ⟨v, hv, hv1, hv2⟩, fun h => by simp at h⟩
  | 5, _, ho, hd, hap, hps, hsl, him, hdep, hdp =>
   (simp only [List.getElem?_toArray, List.getElem?_cons_succ, List.getElem?_cons_zero, Option.some.injEq] at ho; subst ho)
   have s7 : a'.tmps[7]?.getD undef = (.func (.func 87) #[] #[.pointer (some ⟨cn, 0, none⟩), .pointer (some ⟨us, 0, none⟩)]) := by rw [← Array.getD_eq_getD_getElem?]; exact hag.slot 7 (by kernel_rfl)
   have r7 : a'.tmps.getD 7 undef = (.func (.func 87) #[] #[.pointer (some ⟨cn, 0, none⟩), .pointer (some ⟨us, 0, none⟩)]) := hag.slot 7 (by kernel_rfl)
   refine HavG.tabY_val rfl (by simp) ⟨.func (.func 87) #[] #[.pointer (some ⟨cn, 0, none⟩), .pointer (some ⟨us, 0, none⟩)], w', ?_, ⟨HavG.Rel.refl _ _, cntQ_skip (by decide) (by decide) hj⟩, fun _ _ _ _ _ _ h => h, fun _ _ _ _ h => h, fun V _ hv => hv, fun h => by simp at h⟩
   go_simp
   try rfl
  | 6, _, ho, hd, hap, hps, hsl, him, hdep, hdp =>
   (simp only [List.getElem?_toArray, List.getElem?_cons_succ, List.getElem?_cons_zero, Option.some.injEq] at ho; subst ho)
   have s3 : a'.tmps[3]?.getD undef = (.pointer (some ⟨b3, 0, none⟩)) := by rw [← Array.getD_eq_getD_getElem?]; exact hag.slot 3 (by kernel_rfl)
   have r3 : a'.tmps.getD 3 undef = (.pointer (some ⟨b3, 0, none⟩)) := hag.slot 3 (by kernel_rfl)
   refine HavG.tabY_val rfl (by simp) ⟨.pointer (some ⟨b3, 0, none⟩), w', ?_, ⟨HavG.Rel.refl _ _, cntQ_skip (by decide) (by decide) hj⟩, fun _ _ _ _ _ _ h => h, fun _ _ _ _ h => h, fun V _ hv => hv, fun h => by simp at h⟩
   go_simp
   try rfl
  | 7, _, ho, hd, hap, hps, hsl, him, hdep, hdp =>
   (simp only [List.getElem?_toArray, List.getElem?_cons_succ, List.getElem?_cons_zero, Option.some.injEq] at ho; subst ho)
   have d60 : a'.tmps.getD 60 undef = (.pointer (some ⟨b3, 0, none⟩)) := hd 6 (by kernel_rfl) (by decide)
   have c60 : a'.tmps[60]?.getD undef = (.pointer (some ⟨b3, 0, none⟩)) := by rw [← Array.getD_eq_getD_getElem?]; exact d60
   refine HavG.tabY_val rfl (by simp) ⟨.pointer (some ⟨b3, 2, none⟩), w', ?_, ⟨HavG.Rel.refl _ _, cntQ_skip (by decide) (by decide) hj⟩, fun _ _ _ _ _ _ h => h, fun _ _ _ _ h => h, fun V _ hv => hv, fun h => by simp at h⟩
   go_simp
   try rfl
  | 8, _, ho, hd, hap, hps, hsl, him, hdep, hdp =>
   (simp only [List.getElem?_toArray, List.getElem?_cons_succ, List.getElem?_cons_zero, Option.some.injEq] at ho; subst ho)
   have d61 : a'.tmps.getD 61 undef = (.pointer (some ⟨b3, 2, none⟩)) := hd 7 (by kernel_rfl) (by decide)
   have c61 : a'.tmps[61]?.getD undef = (.pointer (some ⟨b3, 2, none⟩)) := by rw [← Array.getD_eq_getD_getElem?]; exact d61
   have hk := HC.out.turn hg.1 HN3.out; obtain ⟨q0, q1, q2, q3, q4, q5, q6, q7, q8, q9, ql⟩ := cx31 hk; rw [HP.out.2.2.1] at q2; rw [HP.out.2.2.2] at q3; clear hk
   refine HavG.tabY_val rfl (by simp) ⟨.agg #[.int .i64 (n0 : Int), .int .i64 (n1 : Int)], w', ?_, ⟨HavG.Rel.refl _ _, cntQ_skip (by decide) (by decide) hj⟩, fun _ _ _ _ _ _ h => h, fun _ _ _ _ h => h, fun V _ hv => hv, fun h => by simp at h⟩
   go_simp
   try rfl
  | 9, _, ho, hd, hap, hps, hsl, him, hdep, hdp =>
   (simp only [List.getElem?_toArray, List.getElem?_cons_succ, List.getElem?_cons_zero, Option.some.injEq] at ho; subst ho)
   have e1 : HavG.slot a' 59 = (.func (.func 87) #[] #[.pointer (some ⟨cn, 0, none⟩), .pointer (some ⟨us, 0, none⟩)]) := hd 5 (by kernel_rfl) (by decide)
   have e2 : HavG.slot a' 62 = .agg #[.int .i64 (n0 : Int), .int .i64 (n1 : Int)] := hd 8 (by kernel_rfl) (by decide)
   have d59 : a'.tmps.getD 59 undef = .func (.func 87) #[] #[.pointer (some ⟨cn, 0, none⟩), .pointer (some ⟨us, 0, none⟩)] := e1; have c59 : a'.tmps[59]?.getD undef = .func (.func 87) #[] #[.pointer (some ⟨cn, 0, none⟩), .pointer (some ⟨us, 0, none⟩)] := by rw [← Array.getD_eq_getD_getElem?]; exact d59
   have d62 : a'.tmps.getD 62 undef = .agg #[.int .i64 (n0 : Int), .int .i64 (n1 : Int)] := e2; have c62 : a'.tmps[62]?.getD undef = .agg #[.int .i64 (n0 : Int), .int .i64 (n1 : Int)] := by rw [← Array.getD_eq_getD_getElem?]; exact d62
   obtain ⟨M, hM, hc, hnx⟩ := cntQ_q him hnd hj; refine HavG.tabY_call rfl (by simp) (f := 87) (args := #[.agg #[.int .i64 (n0 : Int), .int .i64 (n1 : Int)], .pointer (some ⟨cn, 0, none⟩), .pointer (some ⟨us, 0, none⟩)]) (by go_simp; try rfl) (((HDT.out w' M hg.1 hc).draw (lo := n0) (hi := n1) (by omega) HLE.out.2.1 (by have := HLE.out; omega)).mono ?_)
   rintro e w2 ⟨⟨v, rfl, hv1, hv2⟩, hc2, ht⟩
   exact ⟨_, rfl, ⟨⟨ht.mono (fun b e => .inl e), fun i => i.elim⟩, hnx _ hc2⟩, fun j V _ _ _ _ h => e4_turn h ht (fun b e => by have := HCK.out; have e' : b = cn := e; omega), fun _ _ _ _ h => h, fun V _ hv => ⟨v, hv, hv1, hv2⟩, fun h => by simp at h⟩
  | 10, _, ho, hd, hap, hps, hsl, him, hdep, hdp =>
   (simp only [List.getElem?_toArray, List.getElem?_cons_succ, List.getElem?_cons_zero, Option.some.injEq] at ho; subst ho)
   obtain ⟨d, e1, hd1, hd2⟩ : ∃ d : Nat, HavG.slot a' 58 = .int .i64 d ∧ p0 ≤ d ∧ d ≤ p1 := hd 4 (by kernel_rfl) (by decide)
   obtain ⟨y, e2, hy1, hy2⟩ : ∃ d : Nat, HavG.slot a' 63 = .int .i64 d ∧ n0 ≤ d ∧ d ≤ n1 := hd 9 (by kernel_rfl) (by decide)
   have d58 : a'.tmps.getD 58 undef = .int .i64 (d : Nat) := e1; have c58 : a'.tmps[58]?.getD undef = .int .i64 (d : Nat) := by rw [← Array.getD_eq_getD_getElem?]; exact d58
   have d63 : a'.tmps.getD 63 undef = .int .i64 (y : Nat) := e2; have c63 : a'.tmps[63]?.getD undef = .int .i64 (y : Nat) := by rw [← Array.getD_eq_getD_getElem?]; exact d63
   refine HavG.tabY_val rfl (by simp) ⟨.agg #[.int .i64 (d : Nat), .int .i64 (y : Nat), .slice none 0 0, .slice none 0 0], w', ?_, ⟨HavG.Rel.refl _ _, cntQ_skip (by decide) (by decide) hj⟩, fun _ _ _ _ _ _ h => h, fun _ _ _ _ h => h, fun V _ hv => ⟨d, y, hv, hd1, hd2, hy1, hy2⟩, fun h => by simp at h⟩
   go_simp
   try rfl
  | 11, _, ho, hd, hap, hps, hsl, him, hdep, hdp =>
   (simp only [List.getElem?_toArray, List.getElem?_cons_succ, List.getElem?_cons_zero, Option.some.injEq] at ho; subst ho)
   have HB : Below w'.heap.size w' (w'.alloc (.cells #[.int .i64 0, .int .i64 0, .slice none 0 0, .slice none 0 0] 57)) := (Below.refl _ _).alloc (Nat.le_refl _) _
   refine HavG.tabY_val rfl (by simp) ⟨.pointer (some ⟨w'.heap.size, 0, none⟩), w'.alloc (.cells #[.int .i64 0, .int .i64 0, .slice none 0 0, .slice none 0 0] 57), ?_, ⟨⟨Turn.of_below HB, fun i => i.elim⟩, by have h := cntQ_skip (i := 11) (by decide) (by decide) hj; exact Cnt.below h HB⟩, fun j V _ _ _ _ h => e4_grow h HB, fun _ _ _ _ h => h, fun V _ hv => ⟨w'.heap.size, hv, hg.1.size, _, _, _, _, Blk.new w' 57 _⟩, fun h => by simp at h⟩
   go_simp
   try rfl
  | 12, _, ho, hd, hap, hps, hsl, him, hdep, hdp =>
   (simp only [List.getElem?_toArray, List.getElem?_cons_succ, List.getElem?_cons_zero, Option.some.injEq] at ho; subst ho)
   obtain ⟨d, y, e5, hh⟩ : ∃ d y : Nat, HavG.slot a' 64 = .agg #[.int .i64 (d : Nat), .int .i64 (y : Nat), .slice none 0 0, .slice none 0 0] ∧ p0 ≤ d ∧ d ≤ p1 ∧ n0 ≤ y ∧ y ≤ n1 := hd 10 (by kernel_rfl) (by decide)
   have d2 : a'.tmps[64]?.getD undef = .agg #[.int .i64 (d : Nat), .int .i64 (y : Nat), .slice none 0 0, .slice none 0 0] := by rw [← Array.getD_eq_getD_getElem?]; exact e5
   obtain ⟨g, e9, hgB, u0, u1, u2, u3, hk7⟩ : ∃ g, HavG.slot a' 8 = .pointer (some ⟨g, 0, none⟩) ∧ K.heap.size ≤ g ∧ ∃ u0 u1 u2 u3, Blk w' g 57 #[u0, u1, u2, u3] := hd 11 (by kernel_rfl) (by decide)
   have d1 : a'.tmps[8]?.getD undef = .pointer (some ⟨g, 0, none⟩) := by rw [← Array.getD_eq_getD_getElem?]; exact e9
   have ts := set4_turn w' g (.int .i64 (d : Nat)) (.int .i64 (y : Nat)) (.slice none 0 0) (.slice none 0 0); have hC : Blk (set4 w' g (.int .i64 (d : Nat)) (.int .i64 (y : Nat)) (.slice none 0 0) (.slice none 0 0)) g 57 #[.int .i64 (d : Nat), .int .i64 (y : Nat), .slice none 0 0, .slice none 0 0] := set4_blk hk7
   refine HavG.tabY_store rfl rfl (by decide) ⟨_, storeT rfl d1 d2 hk7, ⟨⟨ts.mono (fun b e => .inr (by rw [e]; exact hgB)), fun i => i.elim⟩, by have h := cntQ_skip (i := 12) (by decide) (by decide) hj; exact Cnt.turn h ts (fun e => by have := HCK.out; omega)⟩, fun j V hV hjl hji hbf h => (by subst hV; exact e4_store h hji ts hC), fun _ _ _ _ h => h, fun V hV => ⟨g, (hV 11 (by decide)).trans e9, hgB, d, y, hC, hh⟩⟩
  | j + 13, hj, _, _, _, _, _, _, _, _ => exact absurd hj (by simp)
 intro f w2 hg hjj hf hap; obtain ⟨b8, q11, -, -⟩ : ∃ g, f 8 = .pointer (some ⟨g, 0, none⟩) ∧ K.heap.size ≤ g ∧ _ := hf 11 (by decide)
 obtain ⟨h8, e8, hg8, d, y, hx8, hh⟩ : ∃ g, f 8 = .pointer (some ⟨g, 0, none⟩) ∧ K.heap.size ≤ g ∧ ∃ d y : Nat, Blk w2 g 57 #[.int .i64 (d : Nat), .int .i64 (y : Nat), .slice none 0 0, .slice none 0 0] ∧ p0 ≤ d ∧ d ≤ p1 ∧ n0 ≤ y ∧ y ≤ n1 := hf 12 (by decide)
 rw [q11] at e8; cases e8
 have q54 : f 54 = _ := hf 0 (by decide)
 have q55 : f 55 = _ := hf 1 (by decide)
 have q56 : f 56 = _ := hf 2 (by decide)
 have q57 : f 57 = _ := hf 3 (by decide)
 obtain ⟨a58, q58, -⟩ : ∃ d : Nat, f 58 = .int .i64 d ∧ _ := hf 4 (by decide)
 have q59 : f 59 = _ := hf 5 (by decide)
 have q60 : f 60 = _ := hf 6 (by decide)
 have q61 : f 61 = _ := hf 7 (by decide)
 have q62 : f 62 = _ := hf 8 (by decide)
 obtain ⟨a63, q63, -⟩ : ∃ d : Nat, f 63 = .int .i64 d ∧ _ := hf 9 (by decide)
 obtain ⟨a64, b64, q64, -⟩ : ∃ d y : Nat, f 64 = .agg #[.int .i64 (d : Nat), .int .i64 (y : Nat), .slice none 0 0, .slice none 0 0] ∧ _ := hf 10 (by decide)
 have hjc : Cnt cn (N + 2) w2 := by have h : cntQ cn N [] w2 := hjj; exact Cnt.mono h (by simp)
 have HFIN := Lib.hid (HEND.out w2 b8 d y hg.1 hjc hx8 hg8 hh); simp only [List.filterMap, HavG.puts, List.foldl_cons, List.foldl_nil, Act.put, List.setIfInBounds_toArray, List.set_cons_succ, List.set_cons_zero]; rw [q11, q54, q55, q56, q57, q58, q59, q60, q61, q62, q63, q64]; clear hf hap hjj hg q11 q54 q55 q56 q57 q58 q59 q60 q61 q62 q63 q64 hg8 hx8 hh hjc; go_wp2; exact HKU.out _ _ ((HFIN.out).go.go)
end
section
variable {fa la wa ta : Option Addr} {fl fc ll lc wn wc tn tc : Nat} {c : ICart}
theorem cartTrue_any {ua ba : Option Addr} {ul uc bn bc : Nat} {U by_ : List Nat} (hul : U.length = ul) (h16 : ∀ x ∈ U, x ≤ 65535) (hum : ul ≤ 9223372036854775807) (hbn : by_.length = bn) (h255 : ∀ x ∈ by_, x ≤ 255) (hbm : bn ≤ 9223372036854775807) (w : World) (hP : CtIn w w.heap.size fa fl la ll wa wn ta tn c) (hR : RdG uV 1 w w.heap.size ua U) (hR2 : RdG byF 1 w w.heap.size ba by_) : Calls Tryz.prog 6 #[(.agg #[.int .i64 c.riv.depth.lo, .int .i64 c.riv.depth.hi, .int .i64 c.riv.fall.lo, .int .i64 c.riv.fall.hi, .int .i64 c.riv.days, .slice fa fl fc, .slice la ll lc, .int .i64 c.draws, .slice wa wn wc, .slice ta tn tc]), .slice ua ul uc, .slice ba bn bc] w fun e w' => e = .returned (.bool true) ∧ Below w.heap.size w w' := by
 have HP := Lib.hid hP; have HUI : Hid (UIn w w.heap.size ua ul U) := ⟨hul, hum, hR, h16⟩; have HBY : Hid (by_.length = bn ∧ bn ≤ 9223372036854775807 ∧ (∀ x ∈ by_, x ≤ 255) ∧ RdG byF 1 w w.heap.size ba by_) := ⟨hbn, hbm, h255, hR2⟩; clear hP hul h16 hum hbn h255 hbm hR hR2; obtain ⟨W, hW⟩ : ∃ W, W = w.alloc (.cells #[.int .i64 c.riv.depth.lo, .int .i64 c.riv.depth.hi, .int .i64 c.riv.fall.lo, .int .i64 c.riv.fall.hi, .int .i64 c.riv.days, .slice fa fl fc, .slice la ll lc, .int .i64 c.draws, .slice wa wn wc, .slice ta tn tc] 31) := ⟨_, rfl⟩; obtain ⟨b1, hb1⟩ : ∃ b, b = w.heap.size := ⟨_, rfl⟩; have HK0 : Hid (Blk W b1 31 #[.int .i64 c.riv.depth.lo, .int .i64 c.riv.depth.hi, .int .i64 c.riv.fall.lo, .int .i64 c.riv.fall.hi, .int .i64 c.riv.days, .slice fa fl fc, .slice la ll lc, .int .i64 c.draws, .slice wa wn wc, .slice ta tn tc]) := by rw [hW, hb1]; exact Blk.new w 31 _
 have HB0 : Hid (Below w.heap.size w W) := by rw [hW]; exact (Below.refl _ _).alloc (Nat.le_refl _) _
 go_enter Tryz.func6, Tryz.ntmps6
 conv => arg 2; whnf
 conv => arg 2; arg 2; arg 2; arg 2; change trK 3
 go_upto_region 1 with (fail); rw [← hW, ← hb1]; clear hW hb1; have hx := HK0.out; obtain ⟨q0, q1, q2, q3, q4, q5, q6, q7, q8, q9, ql⟩ := cx31 hx; clear hx; go_wp2_with fail; refine (long_any (fa := fa) (fl := fl) (fc := fc) (la := la) (ll := ll) (lc := lc) (wa := wa) (wn := wn) (wc := wc) (ta := ta) (tn := tn) (tc := tc) (A := none) (n := 0) (cp := 0) (by omega) W (HP.out.grow HB0.out)).mono ?_
 rintro e v1 ⟨⟨b, rfl, hl⟩, hb⟩; have HB1 : Hid (Below w.heap.size w v1) := HB0.out.trans (hb.mono HB0.out.size); have HK1 := Lib.hid (HK0.out.below hb HK0.out.lt); clear hb hl; clear q0 q1 q2 q3 q4 q5 q6 q7 q8 q9 ql; cases b
 case true =>
  go_wp2_with fail; refine (alive_any _).mono ?_
  rintro e v2 ⟨rfl, hb⟩; have HB2 : Hid (Below w.heap.size w v2) := HB1.out.trans (hb.mono HB1.out.size); have HK2 := Lib.hid (HK1.out.below hb HK1.out.lt); clear hb; go_wp2; go_ret
  exact ⟨rfl, HB2.out⟩
 have hx := HK1.out; obtain ⟨q0, q1, q2, q3, q4, q5, q6, q7, q8, q9, ql⟩ := cx31 hx; clear hx; go_wp2_with fail; refine (rcart_any (fa := fa) (fl := fl) (fc := fc) (la := la) (ll := ll) (lc := lc) (wa := wa) (wn := wn) (wc := wc) (ta := ta) (tn := tn) (tc := tc) v1 (HP.out.grow HB1.out)).mono ?_; obtain ⟨ok, hok⟩ : ∃ ok, okC c = ok := ⟨_, rfl⟩; have HOK := Lib.hid hok; rw [hok]; clear hok; rintro e v3 ⟨rfl, hb⟩; have HB3 : Hid (Below w.heap.size w v3) := HB1.out.trans (hb.mono HB1.out.size); have HK3 := Lib.hid (HK1.out.below hb HK1.out.lt); clear hb; clear q0 q1 q2 q3 q4 q5 q6 q7 q8 q9 ql; cases ok
 case false =>
  go_wp2_with fail; refine (alive_any _).mono ?_
  rintro e v4 ⟨rfl, hb⟩; have HB4 : Hid (Below w.heap.size w v4) := HB3.out.trans (hb.mono HB3.out.size); have HK4 := Lib.hid (HK3.out.below hb HK3.out.lt); clear hb; go_wp2; go_ret
  exact ⟨rfl, HB4.out⟩
 go_wp2_with fail; refine (draws34_any (ua := ua) (ul := ul) (uc := uc) v3).mono ?_
 rintro e vz ⟨⟨cn, us, hc1, hu1, rfl, hk, hs⟩, hb⟩; have HFIN : Hid (TR7 3 w (.slice ba bn bc) (.pointer (some ⟨b1, 0, none⟩)) (.func (.func 87) #[] #[.pointer (some ⟨cn, 0, none⟩), .pointer (some ⟨us, 0, none⟩)]) vz) := tr3 (b3 := b1) (N := 0) (U := U) (by_ := by_) (c := c) (ua := ua) (ul := ul) (uc := uc) ⟨HB3.out.trans (hb.mono HB3.out.size), HP.out, HK3.out.below hb HK3.out.lt, HOK.out, HBY.out.1, HBY.out.2.1, HBY.out.2.2.1, HBY.out.2.2.2, HUI.out, hs, Nat.le_trans HB3.out.size hc1, ⟨0, Nat.le_refl _, hk⟩⟩ (by omega)
 clear hb hk hs hc1 hu1; go_wp2; exact (HFIN.out).go.go
end
end Go.Proofs.YtgmfhngcehkibaaGreat
namespace Go.Proofs.YtgmfhngcehkibaaGreat
open Go.RowKit Go.Hav Go.ChangeShapes Go.WideShapes Go.Deep
section
variable {H : Type} {enc : TypeId × Value → H} {W : World} {base : Nat} {spare : Nat → Bool} {held : Bool}
theorem open_u16s {r : Reach} {b0 : Nat} {v : Value} {d : DataW H} {p : List MemPlace} (hv : Value.okWide Tryz.prog W r b0 52 v) (h : DataW.Trod enc Tryz.prog W base spare held 52 v d p) :
  ∃ (A : Option Addr) (al ac : Nat) (us : List Nat), v = .slice A al ac ∧ us.length = al ∧ (∀ x ∈ us, x ≤ 65535) ∧ al ≤ 9223372036854775807 ∧ RdG uV 1 W W.heap.size A us := by
 obtain ⟨A, al, ac, rfl⟩ := okWide_slice Tryz.underlying52 hv; obtain ⟨fuel, hf⟩ := h; obtain ⟨A', al', ac', e, hm, hi⟩ := open_rows (sz := 1) (c := .slice A al ac) Tryz.underlying52 (by kernel_rfl) (by decide) (by simpa [Value.cells] using hf)
 obtain ⟨rfl, rfl, rfl⟩ : A = A' ∧ al = al' ∧ ac = ac' := by simpa using e
 obtain ⟨l, hl, hp⟩ := list_of (fun i (x : Nat) => x ≤ 65535 ∧ ∃ b off, A = some ⟨b, off, none⟩ ∧ b < W.heap.size ∧ ∀ j u, (uV x)[j]? = some u → W.cell? ⟨b, off + (i * 1 + j), none⟩ = some u) al (fun i hlt => by
  obtain ⟨b, off, n, cs, y, e1, _, hc, ht⟩ := hi i hlt; obtain ⟨a, e2, _, hw⟩ := DataW.trod_int Tryz.underlying114 ht; subst e2; have hb := u16_wf hw; have h0 := hc 0 (.int .u16 a) (by rfl)
  obtain ⟨m, rfl⟩ : ∃ m : Nat, a = m := ⟨a.toNat, by omega⟩
  refine ⟨m, by omega, b, off, e1, ?_, hc⟩
  rcases Nat.lt_or_ge b W.heap.size with hlt | hge
  ·exact hlt
  ·unfold World.cell? at h0
   simp [Array.getElem?_eq_none hge] at h0)
 refine ⟨A, al, ac, l, rfl, hl, fun x hx => ?_, by unfold maxLen at hm; omega, fun k x hx => (hp k x hx).2⟩
 obtain ⟨k, hk⟩ := List.getElem?_of_mem hx; exact (hp k x hk).1
end
end Go.Proofs.YtgmfhngcehkibaaGreat
namespace Go.Proofs.YtgmfhngcehkibaaGreat
open Go.ChangeShapes Go.WideShapes Go.ChangeAt Go.RowKit
theorem cartTrue_lifted (os : Os) (started : os.Started) (H : Type) (enc : TypeId × Value → H) :
  ReturnsInHanded {} Tryz.checked os 6 .any (Rows.cartTrueSpec.pre6 enc Tryz.prog Tryz.f6 Rows.cartTrueRow.domain false) (Rows.cartTrueSpec.post enc Tryz.prog Tryz.f6 false true false false) := by
 refine returnsInHanded_of_change (C := Tryz.checked) rowOwn started (by kernel_rfl) Tryz.func6
  (ChangeSpec.witness6 (enc := enc) (C := Tryz.checked) false ⟨#[], #[(.agg #[.int .i64 0, .int .i64 0, .int .i64 0, .int .i64 0, .int .i64 0, .slice none 0 0, .slice none 0 0, .int .i64 0, .slice none 0 0, .slice none 0 0]), .slice none 0 0, .slice none 0 0], []⟩ 8 (by kernel_rfl) (by kernel_rfl) (by kernel_rfl) (by kernel_rfl)) ?_
 intro W base args ds gs before hval0 hW _ _; have hval : ∀ (j : Nat) t v, Tryz.f6.params[j]? = some t → args[j]? = some v → Value.okWide Tryz.prog W .any base t v := hval0; have hW' := hW; obtain ⟨p, q, hA0, hV, rfl, hfz, hnd⟩ := hW
 have hA : DataW.TrodAll enc Tryz.prog W 0 (fun _ => true) true Tryz.f6.params.toList args.toList ds p := hA0
 rw [Tryz.params6] at hA hval; obtain ⟨v0, vs0, d0, ds0, p0, q0, hargs, rfl, rfl, h0, r0⟩ := trodAll_cons hA; obtain ⟨v1, vs1, d1, ds1, p1, q1, rfl, rfl, rfl, h1, r1⟩ := trodAll_cons r0; obtain ⟨v2, vs2, d2, ds2, p2, q2, rfl, rfl, rfl, h2, r2⟩ := trodAll_cons r1; obtain ⟨rfl, rfl, rfl⟩ := trodAll_nil r2; obtain rfl : args = #[v0, v1, v2] := by cases args; simp_all
 obtain ⟨rfl, rfl⟩ := trodVars_none hV; have k0 := h0; have lt0 : ∀ x ∈ p0, x.block < W.heap.size := by obtain ⟨m, hm⟩ := k0; exact DataW.trod_lt m _ _ _ hm
 obtain ⟨fa, la, wa, ta, fl, fc, ll, lc, wn, wc, tn, tc, P, rfl, hP⟩ := open_cart (hval 0 31 v0 rfl rfl) h0; have k1 := h1; have lt1 : ∀ x ∈ p1, x.block < W.heap.size := by obtain ⟨m, hm⟩ := k1; exact DataW.trod_lt m _ _ _ hm
 obtain ⟨A1, al1, ac1, U1, rfl, e1, g1, m1, u1⟩ := open_u16s (hval 1 52 v1 rfl rfl) h1; have k2 := h2; have lt2 : ∀ x ∈ p2, x.block < W.heap.size := by obtain ⟨m, hm⟩ := k2; exact DataW.trod_lt m _ _ _ hm
 obtain ⟨A2, al2, ac2, U2, rfl, e2, g2, m2, u2⟩ := open_u8s (hval 2 53 v2 rfl rfl) h2; clear hA0 hval0; simp only [List.append_nil] at hW'
 refine (cartTrue_any e1 g1 m1 e2 g2 m2 W hP u1 u2).mono fun e W' ⟨he, bel⟩ => ?_
 subst he
 exact ⟨_, rfl, _, _, _, [], _, [], hW', trodAll_mk1 (shut_bool Tryz.underlying4 _), (trodAll_cons_mk (Below.trod rowLaidOut (by kernel_rfl) (of_decide_eq_true (by kernel_rfl)) k0 bel lt0) (trodAll_cons_mk (Below.trod rowLaidOut (by kernel_rfl) (of_decide_eq_true (by kernel_rfl)) k1 bel lt1) (trodAll_cons_mk (Below.trod rowLaidOut (by kernel_rfl) (of_decide_eq_true (by kernel_rfl)) k2 bel lt2) trodAll_mk0))), rfl, bel.frame _, fun h => by cases h⟩
theorem cartTrue_holds : Rows.CartTrueSaid :=
 OpenClaim.holds_of_wide 6 Tryz.f6 rfl rfl rfl rfl rfl rfl rfl ⟨rfl, rfl, rfl, rfl, rfl⟩ rfl rfl rfl rfl rfl (by kernel_rfl) Tryz.func6 (by kernel_rfl)
  (of_decide_eq_true (by kernel_rfl)) (by unfold Func.isWrapper; first | (rw [if_pos (by decide +kernel)]; kernel_rfl) | (rw [if_neg (by decide +kernel)]; exact ⟨rfl, rfl⟩))
  (fun os started H enc _ => cartTrue_lifted os started H enc)
#print axioms cartTrue_holds
end Go.Proofs.YtgmfhngcehkibaaGreat
