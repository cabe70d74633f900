/- Maps of states: what they hold, what a lookup, a store, a deletion, a range make of them; condition: states' numbers are small. Condition: what the statements say. -/
import Derived.Test.YtgmfhngcehkibaaGreatPkB5
import Derived.Maps.Own
import Derived.Maps.OwnSet
import Derived.Maps.Range
import Derived.Maps.AppendAt
import Derived.OwnWalk
import Derived.DeepKeys4
set_option maxRecDepth 100000
set_option maxHeartbeats 6400000
namespace Go.Proofs.YtgmfhngcehkibaaGreat
open Go.RowKit Go.Hav
open Go.Maps (Keyed)
open Go.WideElems
theorem Tryz.row189 : (189 : TypeId) < Tryz.prog.types.size := of_decide_eq_true (by kernel_rfl)
theorem Tryz.wide90 : (match Tryz.prog.underlying 189 with | some (.array _ _) | some (.struct _) => true | _ => false) = true := by rw [Tryz.underlying189]
theorem Tryz.keyed189 : Keyed Tryz.prog 189 := Keyed.of_law (deep_law_laid Tryz.laidOut (m := 2) (by omega) Tryz.row189 (by kernel_rfl) Tryz.wide90)
theorem Tryz.zero4 (w : World) : (zeroValue 4).run Tryz.prog w = .ok (.bool false) w := by kernel_rfl
theorem wf64 (n : Nat) (h1 : n < 8000000) : (Lit.int .i64 n).wf = true := by
 have m : IntKind.i64.min = -9223372036854775808 := by decide
 have M : IntKind.i64.max = 9223372036854775807 := by decide
 simp [Lit.wf, m, M]; omega
theorem wfu64 (n : Nat) (h1 : n < 8000000) : (Lit.int .u64 n).wf = true := by
 have m : IntKind.u64.min = 0 := by decide
 have M : IntKind.u64.max = 18446744073709551615 := by decide
 simp [Lit.wf, m, M]; omega
def Tiny (s : St) : Prop := s.1 < 1000000 ∧ s.2 < 8
theorem lits90 (d : Nat) (s : St) (h : Tiny s) : Tryz.prog.keyLits (d + 2) 189 [.int .i64 s.1, .int .u64 s.2] = some [.int .i64 s.1, .int .u64 s.2] := by
 have w0 := wf64 s.1 (by have := h.1; omega)
 have w1 := wfu64 s.2 (by have := h.2; omega)
 have c90 : Tryz.prog.cellsOf 189 = 2 := by kernel_rfl
 have c3 : Tryz.prog.cellsOf 3 = 1 := by kernel_rfl
 have c82 : Tryz.prog.cellsOf 164 = 1 := by kernel_rfl
 simp [Program.keyLits, Tryz.underlying189, Tryz.underlying3, Tryz.underlying164, c90, c3, c82, w0, w1]
theorem key_st (s : St) (h : Tiny s) : ∃ kl, keyOf Tryz.prog 189 (stV s) = some kl := by
 have hk : Tryz.prog.keyType 189 = true := by kernel_rfl
 have c90 : Tryz.prog.cellsOf 189 = 2 := by kernel_rfl
 have hf : (stV s).formed Tryz.prog 189 = true := by simp [stV, stC, Value.formed, Tryz.underlying189, c90]
 have hs : Tryz.prog.types.size + 1 = (Tryz.prog.types.size - 1) + 2 := by have h76 : 189 < Tryz.prog.types.size := Tryz.row189; omega
 refine ⟨.string (keyBytes [.int .i64 s.1, .int .u64 s.2]), ?_⟩; unfold keyOf; rw [Tryz.underlying189]; simp only [hk, hf, Bool.and_self, if_true]; rw [hs, show (stV s).cells.toList = [.int .i64 s.1, .int .u64 s.2] from rfl, lits90 _ s h]
 rfl
theorem stV_inj {s t : St} (h : stV s = stV t) : s = t := by
 obtain ⟨a, b⟩ := s; obtain ⟨c, d⟩ := t; simp only [stV, stC, Value.agg.injEq, Array.mk.injEq, List.cons.injEq, Value.int.injEq, true_and, and_true, Int.natCast_inj] at h; obtain ⟨rfl, rfl⟩ := h
 rfl
theorem nodup_lt : ∀ (M : Nat) (l : List Nat), l.Nodup → (∀ x ∈ l, x < M) → l.length ≤ M := by
 intro M
 induction M with
 | zero =>
  intro l _ h
  cases l with
  | nil => simp
  | cons x l => exact absurd (h x (by simp)) (by omega)
 | succ M ih =>
  intro l hn h
  have h1 := ih (l.erase M) (hn.erase M) (fun x hx => by
   obtain ⟨h1, h2⟩ := hn.mem_erase_iff.1 hx
   have := h x h2; omega)
  by_cases hm : M ∈ l
  ·rw [List.length_erase_of_mem hm] at h1; omega
  ·rw [List.erase_of_not_mem hm] at h1; omega
theorem st_len {S : List St} (hn : S.Nodup) (hr : ∀ s ∈ S, Tiny s) : S.length ≤ 8000000 := by
 have h1 : (S.map (fun s => s.1 * 8 + s.2)).Nodup := by
  unfold List.Nodup at *
  rw [List.pairwise_map]
  refine hn.imp_of_mem fun {a b} ha hb hne he => hne ?_
  have r1 := hr a ha; have r2 := hr b hb; obtain ⟨a1, a2⟩ := a; obtain ⟨b1, b2⟩ := b; have q1 := r1.2; have q2 := r2.2
  simp only at *
  have : a1 = b1 ∧ a2 = b2 := by omega
  obtain ⟨rfl, rfl⟩ := this
  rfl
 have h2 := nodup_lt 8000000 _ h1 (fun x hx => by
  obtain ⟨t, ht, rfl⟩ := List.mem_map.1 hx; have := hr t ht; have q1 := this.1; have q2 := this.2
  omega)
 simpa using h2
structure MapD (D : DataW Unit) (S : List St) : Prop where
 size : Maps.size D ≤ S.length
 nd : S.Nodup
 tiny : ∀ s ∈ S, Tiny s
 all : ∀ kl, Maps.has D kl = true → ∃ s, s ∈ S ∧ keyOf Tryz.prog 189 (stV s) = some kl
 at_ : ∀ s kl, Tiny s → keyOf Tryz.prog 189 (stV s) = some kl → Maps.has D kl = decide (s ∈ S) ∧ D.atKey kl (.lit (.bool false)) = .lit (.bool (decide (s ∈ S)))
def MapS (w : World) (b : Nat) (S : List St) : Prop := ∃ D : DataW Unit, w.ownsMap Tryz.prog 189 (plainElem Tryz.prog 4) b (Maps.size D) D ∧ MapD D S
theorem own_size {H : Type} {w : World} {P : Program} {k : TypeId} {R : Value → Option (DataW H × List MemPlace)} {b n : Nat} {D : DataW H} (h : w.ownsMap P k R b n D) : w.ownsMap P k R b (Maps.size D) D := by
 obtain ⟨es, clock, hb, F, _, rfl⟩ := h; refine ⟨es, clock, hb, F, ?_, rfl⟩; rw [Maps.size_eq, length_sorted]
 simp
theorem MapS.made (w : World) : MapS (w.alloc (.map #[] 0)) w.heap.size [] :=
 ⟨.map [], own_size (World.ownsMap_made w _ _ _), by simp [Maps.size_eq], List.nodup_nil, by simp, fun kl h => by simp [Maps.has_eq] at h, fun s kl _ _ => by simp [Maps.has_eq, DataW.atKey]⟩
theorem MapS.keep {w w' : World} {b : Nat} {S : List St} (h : MapS w b S) (hb : w'.heap[b]? = w.heap[b]?) : MapS w' b S := by
 obtain ⟨D, ⟨es, clock, hh, hF, hs, hD⟩, hl⟩ := h; exact ⟨D, ⟨es, clock, hb.trans hh, hF, hs, hD⟩, hl⟩
theorem MapS.lt {w : World} {b : Nat} {S : List St} (h : MapS w b S) : b < w.heap.size := by
 obtain ⟨D, h, _⟩ := h; exact h.lt
theorem size_put_has {D : DataW Unit} {kl : Lit} (hD : Maps.IsMap D) (d : DataW Unit) : Maps.size (D.put kl d) ≤ Maps.size D + 1 ∧ (Maps.has D kl = true → Maps.size (D.put kl d) ≤ Maps.size D) := by
 obtain ⟨es, rfl⟩ := hD
 have e : Maps.size (DataW.put (.map es) kl d) = (es.filter fun p => !p.1.sameKey kl).length + 1 := by
  simp only [DataW.put, Maps.size_eq, length_insert]
 rw [e, Maps.size_eq]
 have h1 := List.length_filter_le (fun p : Lit × DataW Unit => !p.1.sameKey kl) es
 refine ⟨by omega, fun h => ?_⟩
 rw [Maps.has_eq, List.any_eq_true] at h; obtain ⟨x, hx, hs⟩ := h
 have := List.length_filter_lt_length_iff_exists (p := fun p : Lit × DataW Unit => !p.1.sameKey kl) (l := es)
 have h2 := this.2 ⟨x, hx, by simp [hs]⟩
 omega
theorem size_del_has {D : DataW Unit} {kl : Lit} (hD : Maps.IsMap D) (h : Maps.has D kl = true) : Maps.size (D.del kl) + 1 ≤ Maps.size D := by
 obtain ⟨es, rfl⟩ := hD
 have e : Maps.size (DataW.del (.map es) kl) = (es.filter fun p => !p.1.sameKey kl).length := by
  simp only [DataW.del, Maps.size_eq]
 rw [e, Maps.size_eq]; rw [Maps.has_eq, List.any_eq_true] at h; obtain ⟨x, hx, hs⟩ := h
 have := List.length_filter_lt_length_iff_exists (p := fun p : Lit × DataW Unit => !p.1.sameKey kl) (l := es)
 exact this.2 ⟨x, hx, by simp [hs]⟩
theorem key_ne {s t : St} {kl kl' : Lit} (h : keyOf Tryz.prog 189 (stV s) = some kl) (h' : keyOf Tryz.prog 189 (stV t) = some kl') (hne : s ≠ t) : kl ≠ kl' := by
 rintro rfl; exact hne (stV_inj (Tryz.keyed189.inj h h'))
theorem MapD.put {D : DataW Unit} {S : List St} (h : MapD D S) (hm : Maps.IsMap D) {s : St} {kl : Lit} (hs : Tiny s) (hk : keyOf Tryz.prog 189 (stV s) = some kl) : MapD (D.put kl (.lit (.bool true))) (if s ∈ S then S else s :: S) := by
 obtain ⟨s1, s2⟩ := size_put_has (kl := kl) hm (.lit (.bool true)); have hh := (h.at_ s kl hs hk).1
 have hmem : ∀ t, t ∈ (if s ∈ S then S else s :: S) ↔ t = s ∨ t ∈ S := fun t => by
  by_cases hm : s ∈ S
  ·rw [if_pos hm]; exact ⟨.inr, fun h => h.elim (fun e => e ▸ hm) id⟩
  ·rw [if_neg hm]; simp
 refine ⟨?_, ?_, fun t ht => ?_, fun kl' hk' => ?_, fun t kl' ht hk' => ?_⟩
 ·by_cases hm : s ∈ S
  ·rw [if_pos hm]; have := s2 (by rw [hh]; simpa using hm)
   have := h.size
   omega
  ·rw [if_neg hm]; have := h.size
   simp; omega
 ·by_cases hm : s ∈ S
  ·rw [if_pos hm]; exact h.nd
  ·rw [if_neg hm]; exact List.nodup_cons.2 ⟨hm, h.nd⟩
 ·rcases (hmem t).1 ht with rfl | h1
  ·exact hs
  ·exact h.tiny t h1
 ·by_cases e : kl' = kl
  ·exact ⟨s, (hmem s).2 (.inl rfl), by rw [e]; exact hk⟩
  ·rw [Maps.has_put_other e] at hk'; obtain ⟨t, h1, h2⟩ := h.all kl' hk'; exact ⟨t, (hmem t).2 (.inr h1), h2⟩
 ·by_cases e : t = s
  ·subst e; obtain rfl : kl = kl' := Option.some.inj (hk.symm.trans hk'); rw [Maps.has_put_same hm (Tryz.keyed189.key hk), Maps.atKey_put_same hm (Tryz.keyed189.key hk)]
   simp [(hmem t).2 (.inl rfl)]
  ·rw [Maps.has_put_other (key_ne hk' hk e), Maps.atKey_put_other (key_ne hk' hk e)]; have := h.at_ t kl' ht hk'; rw [show decide (t ∈ (if s ∈ S then S else s :: S)) = decide (t ∈ S) from decide_eq_decide.2 (by rw [hmem]; simp [e])]
   exact this
theorem MapD.del {D : DataW Unit} {S : List St} (h : MapD D S) (hm : Maps.IsMap D) {s : St} {kl : Lit} (hs : s ∈ S) (hk : keyOf Tryz.prog 189 (stV s) = some kl) : MapD (D.del kl) (S.erase s) := by
 have hh := (h.at_ s kl (h.tiny s hs) hk).1
 have hmem : ∀ t, t ∈ S.erase s ↔ t ≠ s ∧ t ∈ S := fun t => h.nd.mem_erase_iff
 refine ⟨?_, h.nd.erase s, fun t ht => h.tiny t ((hmem t).1 ht).2, fun kl' hk' => ?_, fun t kl' ht hk' => ?_⟩
 ·have h1 := size_del_has hm (kl := kl) (by rw [hh]; simpa using hs)
  have h2 := h.size; rw [List.length_erase_of_mem hs]
  omega
 ·by_cases e : kl' = kl
  ·rw [e, Maps.has_del_same] at hk'; cases hk'
  ·rw [Maps.has_del_other e] at hk'; obtain ⟨t, h1, h2⟩ := h.all kl' hk'
   exact ⟨t, (hmem t).2 ⟨fun e2 => e (by rw [e2] at h2; exact Option.some.inj (h2.symm.trans hk)), h1⟩, h2⟩
 ·by_cases e : t = s
  ·subst e; obtain rfl : kl = kl' := Option.some.inj (hk.symm.trans hk'); rw [Maps.has_del_same, Maps.atKey_del_same]
   simp [hmem]
  ·rw [Maps.has_del_other (key_ne hk' hk e), Maps.atKey_del_other (key_ne hk' hk e)]; have := h.at_ t kl' ht hk'; rw [show decide (t ∈ S.erase s) = decide (t ∈ S) from decide_eq_decide.2 (by rw [hmem]; simp [e])]
   exact this
theorem plainElem_bool_inv {H : Type} {P : Program} {e : TypeId} (he : P.underlying e = some .bool) {v : Value} {z : DataW H × List MemPlace} (h : plainElem P e v = some z) : ∃ x, v = .bool x ∧ z = (.lit (.bool x), []) := by
 unfold plainElem at h; rw [he] at h
 cases v <;> simp at h
 subst h; exact ⟨_, rfl, rfl⟩
theorem MapS.store {w : World} {b : Nat} {S : List St} (h : MapS w b S) (s : St) (hs : Tiny s) :
  ∃ w', (Instr.mapUpdate 182 (.map (some b)) (stV s) (.bool true)).run Tryz.prog w = .ok () w' ∧ MapS w' b (if s ∈ S then S else s :: S) ∧ w.grownBy w' (some b) ∧ w'.heap.size = w.heap.size := by
 obtain ⟨D, hown, hD⟩ := h; obtain ⟨kl, hk⟩ := key_st s hs; have hlen := st_len hD.nd hD.tiny; have hsz := hD.size; obtain ⟨w', hrun, hown', ht⟩ := hown.store Tryz.keyed189 Tryz.underlying182 (by unfold maxLen; omega) hk (plainElem_bool Tryz.underlying4 true)
 refine ⟨w', hrun, ⟨_, own_size hown', hD.put hown.isMap hs hk⟩, ht.grown, ?_⟩; obtain ⟨es, c, es', c', _, rfl⟩ := ht
 simp [Go.ChangeMaps.setBlock]
theorem MapS.look {w : World} {b : Nat} {S : List St} (h : MapS w b S) (s : St) (hs : Tiny s) : (Instr.lookup 182 (.map (some b)) (stV s) false).run Tryz.prog w = .ok (.bool (decide (s ∈ S))) w := by
 obtain ⟨D, hown, hD⟩ := h; obtain ⟨kl, hk⟩ := key_st s hs; obtain ⟨h1, h2⟩ := hD.at_ s kl hs hk; obtain ⟨v, ps, hrun, hv⟩ := hown.lookup Tryz.keyed189 Tryz.underlying182 (Tryz.zero4 w) (plainElem_bool Tryz.underlying4 false) hk; rw [h2] at hv; obtain ⟨x, rfl, hz⟩ := plainElem_bool_inv Tryz.underlying4 hv; simp only [Prod.mk.injEq, DataW.lit.injEq, Lit.bool.injEq] at hz; rw [hz.1]; exact hrun
theorem MapS.len {w : World} {b : Nat} {S : List St} (h : MapS w b S) (ty : TypeId) : ∃ n : Nat, (Builtin.len_ #[182] ty #[.map (some b)]).run Tryz.prog w = .ok (.int .i64 n) w ∧ (n = 0 ↔ S = []) ∧ n ≤ 8000000 := by
 obtain ⟨D, hown, hD⟩ := h; have h1 := hD.size; have h2 := st_len hD.nd hD.tiny
 refine ⟨_, hown.len Tryz.underlying182 ty, ⟨fun h0 => ?_, fun h0 => ?_⟩, by omega⟩
 ·cases hS : S with
  | nil => rfl
  | cons s S' =>
   exfalso
   have hs : s ∈ S := by rw [hS]; simp
   obtain ⟨kl, hk⟩ := key_st s (hD.tiny s hs); have h3 := (hD.at_ s kl (hD.tiny s hs) hk).1; have h4 := size_del_has hown.isMap (kl := kl) (by rw [h3]; simpa using hs)
   omega
 ·rw [h0] at h1; simpa using h1
def RanS (w : World) (b r : Nat) (S T : List St) : Prop := ∃ (n : Nat) (D : DataW Unit) (left : Lit → Bool) (cnt : Nat), w.ranges Tryz.prog 189 (plainElem Tryz.prog 4) b r n D left cnt ∧ MapD D S ∧ T.Nodup ∧ (∀ s ∈ T, s ∈ S) ∧
 (∀ s kl, Tiny s → keyOf Tryz.prog 189 (stV s) = some kl → left kl = decide (s ∈ T)) ∧ (∀ kl, left kl = true → ∃ s, s ∈ T ∧ keyOf Tryz.prog 189 (stV s) = some kl)
theorem RanS.owns {w : World} {b r : Nat} {S T : List St} (h : RanS w b r S T) : MapS w b S := by
 obtain ⟨n, D, left, cnt, h1, h2, _⟩ := h; exact ⟨D, own_size h1.owns, h2⟩
theorem RanS.keep {w w' : World} {b r : Nat} {S T : List St} (h : RanS w b r S T) (hb : w'.heap[b]? = w.heap[b]?) (hr : w'.heap[r]? = w.heap[r]?) : RanS w' b r S T := by
 obtain ⟨n, D, left, cnt, ⟨es, clock, since, seen, c0, q1, q2, q3, q4, q5, q6⟩, h2⟩ := h; exact ⟨n, D, left, cnt, ⟨es, clock, since, seen, c0, hb.trans q1, q2, q3, q4, hr.trans q5, q6⟩, h2⟩
theorem RanS.ne {w : World} {b r : Nat} {S T : List St} (h : RanS w b r S T) : r ≠ b ∧ r < w.heap.size := by
 obtain ⟨n, D, left, cnt, h1, _⟩ := h; exact ⟨h1.ne, h1.lt⟩
theorem MapS.range {w : World} {b : Nat} {S : List St} (h : MapS w b S) : ∃ w', (Instr.range 182 (.map (some b))).run Tryz.prog w = .ok (.pointer (some ⟨w.heap.size, 0, none⟩)) w' ∧ RanS w' b w.heap.size S S ∧ w.grownBy w' none ∧ w'.heap.size = w.heap.size + 1 := by
 obtain ⟨D, hown, hD⟩ := h; obtain ⟨w', hrun, hr, hg, hs⟩ := hown.range Tryz.keyed189 Tryz.underlying182
 exact ⟨w', hrun, ⟨_, D, _, _, hr, hD, hD.nd, fun _ h => h, fun s kl hs hk => (hD.at_ s kl hs hk).1, hD.all⟩, hg, hs⟩
theorem RanS.next {w : World} {b r : Nat} {S T : List St} (h : RanS w b r S T) (ty : TypeId) :
  (T = [] ∧ (Instr.next (.pointer (some ⟨r, 0, none⟩)) false ty).run Tryz.prog w = .ok (.tuple #[.bool false]) w) ∨
  ∃ s w', s ∈ T ∧ (Instr.next (.pointer (some ⟨r, 0, none⟩)) false ty).run Tryz.prog w = .ok (.tuple #[.bool true, stV s, .bool true]) w' ∧ RanS w' b r S (T.erase s) ∧ w.grownBy w' (some r) ∧ w'.heap.size = w.heap.size ∧
   (Instr.entry (.pointer (some ⟨r, 0, none⟩))).run Tryz.prog w' = .ok (.tuple #[stV s, .bool true]) w' := by
 obtain ⟨n, D, left, cnt, h1, hD, hn, hT, hl1, hl2⟩ := h; rcases h1.next Tryz.keyed189 ty with ⟨_, h0, hrun⟩ | ⟨key, v, kl, y, w', cnt', hk, hkl, hv, hat, hrun, hr, _, hg, hs, hen⟩
 ·left
  refine ⟨?_, hrun⟩
  cases hTT : T with
  | nil => rfl
  | cons s T' =>
   exfalso
   have hs : s ∈ T := by rw [hTT]; simp
   obtain ⟨kl, hk⟩ := key_st s (hD.tiny s (hT s hs)); have := hl1 s kl (hD.tiny s (hT s hs)) hk; rw [h0 kl] at this
   simp [hs] at this
 ·right
  obtain ⟨s, hsT, hks⟩ := hl2 kl hkl; obtain rfl : key = stV s := Tryz.keyed189.inj hk hks; have hst := hD.tiny s (hT s hsT)
  have hv2 : v = .bool true := by
   have h3 := hat (.lit (.bool false)); rw [(hD.at_ s kl hst hks).2, show decide (s ∈ S) = true by simpa using hT s hsT] at h3
   obtain ⟨x, rfl, rfl⟩ := plainElem_bool_inv Tryz.underlying4 hv; simp only [DataW.lit.injEq, Lit.bool.injEq] at h3; rw [← h3]
  subst hv2
  refine ⟨s, w', hsT, hrun, ⟨n, D, _, cnt', hr, hD, hn.erase s, fun t ht => hT t (hn.mem_erase_iff.1 ht).2, fun t kl' ht hk' => ?_, fun kl' hk' => ?_⟩, hg, hs, hen⟩
  ·by_cases e : t = s
   ·subst e; obtain rfl : kl = kl' := Option.some.inj (hks.symm.trans hk'); rw [WideAt.sameKey_self (Tryz.keyed189.key hks)]
    simp [hn.mem_erase_iff]
   ·rw [hl1 t kl' ht hk', Maps.sameKey_ne (key_ne hk' hks e)]
    simp [hn.mem_erase_iff, e]
  ·simp only [Bool.and_eq_true, Bool.not_eq_true'] at hk'; obtain ⟨t, ht, hkt⟩ := hl2 kl' hk'.1
   refine ⟨t, hn.mem_erase_iff.2 ⟨fun e => ?_, ht⟩, hkt⟩
   subst e; obtain rfl : kl = kl' := Option.some.inj (hks.symm.trans hkt); rw [WideAt.sameKey_self (Tryz.keyed189.key hks)] at hk'
   cases hk'.2
theorem RanS.drop {w : World} {b r : Nat} {S T : List St} (h : RanS w b r S T) (s : St) (hs : s ∈ S) (hsT : s ∉ T) (ty : TypeId) :
  ∃ w', (Builtin.delete_ #[182, 189] ty #[.map (some b), stV s]).run Tryz.prog w = .ok (.tuple #[]) w' ∧ RanS w' b r (S.erase s) T ∧ w.grownBy w' (some b) ∧ w'.heap.size = w.heap.size := by
 obtain ⟨n, D, left, cnt, h1, hD, hn, hT, hl1, hl2⟩ := h; have hst := hD.tiny s hs; obtain ⟨kl, hk⟩ := key_st s hst; obtain ⟨w', cnt', hrun, hr, _, ht⟩ := h1.drop Tryz.keyed189 Tryz.underlying182 hk ty; have hk0 : left kl = false := by rw [hl1 s kl hst hk]; simpa using hsT
 refine ⟨w', hrun, ⟨n, D.del kl, _, cnt', hr, hD.del h1.owns.isMap hs hk, hn, fun t ht => hD.nd.mem_erase_iff.2 ⟨fun e => hsT (e ▸ ht), hT t ht⟩, fun t kl' ht hk' => ?_, fun kl' hk' => ?_⟩, ht.grown, ?_⟩
 ·by_cases e : t = s
  ·subst e; obtain rfl : kl = kl' := Option.some.inj (hk.symm.trans hk'); rw [hk0]
   simpa using hsT
  ·rw [hl1 t kl' ht hk', Maps.sameKey_ne (key_ne hk' hk e)]
   simp
 ·simp only [Bool.and_eq_true, Bool.not_eq_true'] at hk'; exact hl2 kl' hk'.1
 ·obtain ⟨es, c, es', c', _, rfl⟩ := ht
  simp [Go.ChangeMaps.setBlock]
end Go.Proofs.YtgmfhngcehkibaaGreat
namespace Go.Proofs.YtgmfhngcehkibaaGreat
open Go.RowKit Go.Hav
open Go.Maps (Keyed)
open Go.WideElems
theorem Tryz.row187 : (187 : TypeId) < Tryz.prog.types.size := of_decide_eq_true (by kernel_rfl)
theorem Tryz.wide96 : (match Tryz.prog.underlying 187 with | some (.array _ _) | some (.struct _) => true | _ => false) = true := by rw [Tryz.underlying187]
theorem Tryz.keyed187 : Keyed Tryz.prog 187 := Keyed.of_law (deep_law_laid Tryz.laidOut (m := 2) (by omega) Tryz.row187 (by kernel_rfl) Tryz.wide96)
def noRun : Value := .agg #[.map none, .map none, .map none, .map none, .map none, .map none, .map none, .map none, .map none, .map none, .map none]
theorem Tryz.zero184 (w : World) : (zeroValue 184).run Tryz.prog w = .ok noRun w := by kernel_rfl
def quV (by_ looks : Nat) : Value := .agg #[.int .i64 by_, .int .u64 looks]
theorem lits96 (d by_ looks : Nat) (h1 : by_ < 1000) (h2 : looks < 1000) : Tryz.prog.keyLits (d + 2) 187 [.int .i64 by_, .int .u64 looks] = some [.int .i64 by_, .int .u64 looks] := by
 have w0 := wf64 by_ (by omega)
 have w1 := wfu64 looks (by omega)
 have c96 : Tryz.prog.cellsOf 187 = 2 := by kernel_rfl
 have c3 : Tryz.prog.cellsOf 3 = 1 := by kernel_rfl
 have c82 : Tryz.prog.cellsOf 164 = 1 := by kernel_rfl
 simp [Program.keyLits, Tryz.underlying187, Tryz.underlying3, Tryz.underlying164, c96, c3, c82, w0, w1]
theorem key_qu (by_ looks : Nat) (h1 : by_ < 1000) (h2 : looks < 1000) : ∃ kl, keyOf Tryz.prog 187 (quV by_ looks) = some kl := by
 have hk : Tryz.prog.keyType 187 = true := by kernel_rfl
 have c96 : Tryz.prog.cellsOf 187 = 2 := by kernel_rfl
 have hf : (quV by_ looks).formed Tryz.prog 187 = true := by simp [quV, Value.formed, Tryz.underlying187, c96]
 have hs : Tryz.prog.types.size + 1 = (Tryz.prog.types.size - 1) + 2 := by have h76 : 187 < Tryz.prog.types.size := Tryz.row187; omega
 refine ⟨.string (keyBytes [.int .i64 by_, .int .u64 looks]), ?_⟩; unfold keyOf; rw [Tryz.underlying187]; simp only [hk, hf, Bool.and_self, if_true]; rw [hs, show (quV by_ looks).cells.toList = [.int .i64 by_, .int .u64 looks] from rfl, lits96 _ by_ looks h1 h2]
 rfl
theorem quV_inj {a b c d : Nat} (h : quV a b = quV c d) : a = c ∧ b = d := by
 simp only [quV, Value.agg.injEq, Array.mk.injEq, List.cons.injEq, Value.int.injEq, true_and, and_true, Int.natCast_inj] at h; exact h
def runR (v : Value) : Option (DataW Value × List MemPlace) := some (.held v, [])
def runV (ms : Nat → Option Nat) : Value := .agg #[.map (ms 0), .map (ms 1), .map (ms 2), .map (ms 3), .map (ms 4), .map (ms 5), .map (ms 6), .map (ms 7), .map (ms 8), .map (ms 9), .map (ms 10)]
def RunOK (w : World) (k : Nat) (r : Riv) (by_ looks : Nat) (ms : Nat → Option Nat) : Prop := ∀ day, day ≤ r.days → ∃ b S, ms day = some b ∧ b ≠ k ∧ MapS w b S ∧ ∀ s, s ∈ S ↔ AllS r by_ looks day s
theorem MapS.walk {w : World} {b : Nat} {S : List St} (h : MapS w b S) : ∃ o, w.heap[b]? = some o ∧ o.isWalk = true := by
 obtain ⟨D, ⟨es, clock, hb, _⟩, _⟩ := h; exact ⟨_, hb, rfl⟩
def KeptOK (w : World) (k : Nat) (r : Riv) : Prop := ∃ (D : DataW Value) (qs : List (Nat × Nat)), w.ownsMap Tryz.prog 187 runR k (Maps.size D) D ∧ Maps.size D ≤ qs.length ∧ qs.Nodup ∧ (∀ q ∈ qs, q.1 < 1000 ∧ q.2 < 1000) ∧
 ∀ by_ looks kl, by_ < 1000 → looks < 1000 → keyOf Tryz.prog 187 (quV by_ looks) = some kl → Maps.has D kl = decide ((by_, looks) ∈ qs) ∧ ((by_, looks) ∈ qs → ∃ ms, RunOK w k r by_ looks ms ∧ ∀ z, D.atKey kl z = .held (runV ms)) ∧ ((by_, looks) ∉ qs → ∀ z, D.atKey kl z = z)
theorem RunOK.keep {w w' : World} {k : Nat} {r : Riv} {by_ looks : Nat} {ms : Nat → Option Nat} (h : RunOK w k r by_ looks ms) (hb : ∀ (b : Nat) (o : Obj), b ≠ k → w.heap[b]? = some o → o.isWalk = true → w'.heap[b]? = some o) : RunOK w' k r by_ looks ms := fun day hd => by
 obtain ⟨b, S, h1, h2, h3, h4⟩ := h day hd; obtain ⟨o, ho, hw⟩ := h3.walk; exact ⟨b, S, h1, h2, h3.keep ((hb b o h2 ho hw).trans ho.symm), h4⟩
theorem KeptOK.lt {w : World} {k : Nat} {r : Riv} (h : KeptOK w k r) : ∃ o, w.heap[k]? = some o ∧ o.isWalk = true := by
 obtain ⟨D, qs, ⟨es, clock, hb, _⟩, _⟩ := h; exact ⟨_, hb, rfl⟩
theorem KeptOK.keep {w w' : World} {k : Nat} {r : Riv} (h : KeptOK w k r) (hb : ∀ (b : Nat) (o : Obj), w.heap[b]? = some o → o.isWalk = true → w'.heap[b]? = some o) : KeptOK w' k r := by
 obtain ⟨o, ho, hw⟩ := h.lt; obtain ⟨D, qs, ⟨es, clock, hh, hF, hs, hD⟩, h2, h3, h4, h5⟩ := h
 refine ⟨D, qs, ⟨es, clock, hb k _ hh rfl, hF, hs, hD⟩, h2, h3, h4, fun by_ looks kl b1 b2 hk => ?_⟩
 obtain ⟨g1, g2, g3⟩ := h5 by_ looks kl b1 b2 hk
 exact ⟨g1, fun hq => by
  obtain ⟨ms, q1, q2⟩ := g2 hq
  exact ⟨ms, q1.keep (fun b o _ hb1 hb2 => hb b o hb1 hb2), q2⟩, g3⟩
open Go.Sq in
theorem KeptOK.turn {w w' : World} {k : Nat} {r : Riv} {S : Nat → Prop} (h : KeptOK w k r) (t : Turn S w w') (hS : ∀ (b : Nat) (o : Obj), S b → w.heap[b]? = some o → o.isWalk = false) : KeptOK w' k r :=
 h.keep fun b o hb hw => (t.block b (Array.getElem?_eq_some_iff.1 hb).1 (fun hs => by rw [hS b o hs hb] at hw; cases hw)).trans hb
open Go.Sq in
theorem KeptOK.below {w w' : World} {k : Nat} {r : Riv} (h : KeptOK w k r) (hb : Below w.heap.size w w') : KeptOK w' k r := h.turn (S := fun _ => False) (Turn.of_below hb) (fun _ _ h => h.elim)
theorem KeptOK.made {w : World} (r : Riv) : KeptOK (w.alloc (.map #[] 0)) w.heap.size r :=
 ⟨.map [], [], own_size (World.ownsMap_made w _ _ _), by simp [Maps.size_eq], List.nodup_nil, by simp, fun by_ looks kl _ _ _ => ⟨by simp [Maps.has_eq], fun h => by simp at h, fun _ z => by simp [DataW.atKey]⟩⟩
theorem qs_len {qs : List (Nat × Nat)} (hn : qs.Nodup) (hr : ∀ q ∈ qs, q.1 < 1000 ∧ q.2 < 1000) : qs.length ≤ 1000000 := by
 have h1 : (qs.map (fun s => s.1 * 1000 + s.2)).Nodup := by
  unfold List.Nodup at *
  rw [List.pairwise_map]
  refine hn.imp_of_mem fun {a b} ha hb hne he => hne ?_
  have r1 := hr a ha; have r2 := hr b hb; obtain ⟨a1, a2⟩ := a; obtain ⟨b1, b2⟩ := b
  simp only at *
  have : a1 = b1 ∧ a2 = b2 := by omega
  obtain ⟨rfl, rfl⟩ := this
  rfl
 have h2 := nodup_lt 1000000 _ h1 (fun x hx => by
  obtain ⟨t, ht, rfl⟩ := List.mem_map.1 hx; have := hr t ht
  omega)
 simpa using h2
theorem size_put_has2 {H : Type} {D : DataW H} {kl : Lit} (hD : Maps.IsMap D) (d : DataW H) : Maps.size (D.put kl d) ≤ Maps.size D + 1 ∧ (Maps.has D kl = true → Maps.size (D.put kl d) ≤ Maps.size D) := by
 obtain ⟨es, rfl⟩ := hD
 have e : Maps.size (DataW.put (.map es) kl d) = (es.filter fun p => !p.1.sameKey kl).length + 1 := by
  simp only [DataW.put, Maps.size_eq, length_insert]
 rw [e, Maps.size_eq]
 have h1 := List.length_filter_le (fun p : Lit × DataW H => !p.1.sameKey kl) es
 refine ⟨by omega, fun h => ?_⟩
 rw [Maps.has_eq, List.any_eq_true] at h; obtain ⟨x, hx, hs⟩ := h
 have := List.length_filter_lt_length_iff_exists (p := fun p : Lit × DataW H => !p.1.sameKey kl) (l := es)
 have h2 := this.2 ⟨x, hx, by simp [hs]⟩
 omega
theorem KeptOK.store {w : World} {k : Nat} {r : Riv} (h : KeptOK w k r) (by_ looks : Nat) (h1 : by_ < 1000) (h2 : looks < 1000) {ms : Nat → Option Nat} (hms : RunOK w k r by_ looks ms) :
  ∃ w', (Instr.mapUpdate 177 (.map (some k)) (quV by_ looks) (runV ms)).run Tryz.prog w = .ok () w' ∧ KeptOK w' k r ∧ RunOK w' k r by_ looks ms ∧ w.grownBy w' (some k) ∧ w'.heap.size = w.heap.size := by
 obtain ⟨D, qs, hown, hsz, hnd, hin, hl⟩ := h; obtain ⟨kl, hk⟩ := key_qu by_ looks h1 h2; have hlen := qs_len hnd hin; obtain ⟨w', hrun, hown', ht⟩ := hown.store Tryz.keyed187 Tryz.underlying177 (by unfold maxLen; omega) hk (show runR (runV ms) = some (.held (runV ms), []) from rfl)
 have hg := ht.grown; obtain ⟨s1, s2⟩ := size_put_has2 (kl := kl) hown.isMap (.held (runV ms))
 have hkeep : ∀ (b : Nat) (o : Obj), b ≠ k → w.heap[b]? = some o → o.isWalk = true → w'.heap[b]? = some o := fun b o hb ho _ => (hg.block b (Array.getElem?_eq_some_iff.1 ho).1 (fun e => hb (Option.some.inj e))).trans ho
 have hhas := (hl by_ looks kl h1 h2 hk).1; refine ⟨w', hrun, ?_, hms.keep hkeep, hg, by obtain ⟨es, c, es', c', _, rfl⟩ := ht; simp [Go.ChangeMaps.setBlock]⟩
 have key : ∀ (qs' : List (Nat × Nat)), (∀ t, t ∈ qs' ↔ t = (by_, looks) ∨ t ∈ qs) → ∀ b' l' kl', b' < 1000 → l' < 1000 → keyOf Tryz.prog 187 (quV b' l') = some kl' →
   Maps.has (D.put kl (.held (runV ms))) kl' = decide ((b', l') ∈ qs') ∧ ((b', l') ∈ qs' → ∃ ms', RunOK w' k r b' l' ms' ∧ ∀ z, (D.put kl (.held (runV ms))).atKey kl' z = .held (runV ms')) ∧ ((b', l') ∉ qs' → ∀ z, (D.put kl (.held (runV ms))).atKey kl' z = z) := by
  intro qs' hqs b' l' kl' a1 a2 hk'
  by_cases hab : (b', l') = (by_, looks)
  ·obtain ⟨rfl, rfl⟩ : b' = by_ ∧ l' = looks := by simpa using hab
   obtain rfl : kl = kl' := Option.some.inj (hk.symm.trans hk'); have hm : (b', l') ∈ qs' := (hqs _).2 (.inl rfl)
   refine ⟨by rw [Maps.has_put_same hown.isMap (Tryz.keyed187.key hk)]; simp [hm], fun _ => ⟨ms, hms.keep hkeep, fun z => Maps.atKey_put_same hown.isMap (Tryz.keyed187.key hk) _ z⟩, fun h => absurd hm h⟩
  ·have hne : kl' ≠ kl := by
    rintro rfl; have := quV_inj (Tryz.keyed187.inj hk' hk); exact hab (by rw [this.1, this.2])
   have hiff : (b', l') ∈ qs' ↔ (b', l') ∈ qs := by rw [hqs]; simp [hab]
   obtain ⟨g1, g2, g3⟩ := hl b' l' kl' a1 a2 hk'
   refine ⟨by rw [Maps.has_put_other hne, g1]; exact decide_eq_decide.2 hiff.symm, fun hm => ?_, fun hm z => by rw [Maps.atKey_put_other hne]; exact g3 (fun h => hm (hiff.2 h)) z⟩
   obtain ⟨ms', q1, q2⟩ := g2 (hiff.1 hm)
   exact ⟨ms', q1.keep hkeep, fun z => by rw [Maps.atKey_put_other hne]; exact q2 z⟩
 by_cases hm : (by_, looks) ∈ qs
 ·refine ⟨_, qs, own_size hown', ?_, hnd, hin, key qs fun t => ⟨fun ht => .inr ht, fun ht => ht.elim (fun e => e ▸ hm) id⟩⟩
  have := s2 (by rw [hhas]; simp [hm])
  omega
 ·refine ⟨_, (by_, looks) :: qs, own_size hown', ?_, List.nodup_cons.2 ⟨hm, hnd⟩, ?_, key _ fun t => by simp⟩
  ·simp; omega
  ·intro t ht; rcases List.mem_cons.1 ht with rfl | ht
   ·exact ⟨h1, h2⟩
   ·exact hin t ht
end Go.Proofs.YtgmfhngcehkibaaGreat
namespace Go.Proofs.YtgmfhngcehkibaaGreat
open Go.RowKit Go.Hav Go.Sq
def markD (D : Nat) : Deferred := { target := .collected D, args := #[] }
def Marks (B : Nat) (w : World) (ds : List Deferred) : Prop := ∃ l : List Nat, ds = l.map markD ∧ l.Nodup ∧ ∀ D ∈ l, B ≤ D ∧ w.heap[D]? = some (.deferred (some []))
theorem Marks.nil (B : Nat) (w : World) : Marks B w [] := ⟨[], rfl, List.nodup_nil, by simp⟩
theorem Marks.keep {B : Nat} {w w' : World} {ds : List Deferred} (h : Marks B w ds) (hk : ∀ D, B ≤ D → w.heap[D]? = some (.deferred (some [])) → w'.heap[D]? = some (.deferred (some []))) : Marks B w' ds := by
 obtain ⟨l, h1, h2, h3⟩ := h
 exact ⟨l, h1, h2, fun D hD => ⟨(h3 D hD).1, hk D (h3 D hD).1 (h3 D hD).2⟩⟩
theorem Marks.cons {B D : Nat} {w : World} {ds : List Deferred} (h : Marks B w ds) (hB : B ≤ D) (hD : w.heap[D]? = some (.deferred (some []))) (hn : ∀ l : List Nat, ds = l.map markD → D ∉ l) : Marks B w (markD D :: ds) := by
 obtain ⟨l, h1, h2, h3⟩ := h
 refine ⟨D :: l, by rw [h1]; rfl, List.nodup_cons.2 ⟨hn l h1, h2⟩, fun x hx => ?_⟩
 rcases List.mem_cons.1 hx with rfl | hx
 ·exact ⟨hB, hD⟩
 ·exact h3 x hx
structure Shut (B : Nat) (w w' : World) : Prop where
 os : w'.os = w.os
 tape : w'.tape = w.tape
 output : w'.output = w.output
 size : w'.heap.size = w.heap.size
 low : ∀ b, b < B → w'.heap[b]? = w.heap[b]?
 other : ∀ (b : Nat) (o : Obj), w.heap[b]? = some o → (∀ c, o ≠ .deferred c) → w'.heap[b]? = some o
theorem leaves_marks {B : Nat} {F : Fence} {n : Nat} {P : Program} {fn : Func} {tmps : Array Value} {R : Ending → World → Prop} {u : FrameMode} (hu : u ≠ .run) : ∀ (ds : List Deferred) (w : World), Marks B w ds → (∀ w', Shut B w w' → LeavesInM F n P fn tmps R [] u w') → LeavesInM F n P fn tmps R ds u w := by
 intro ds
 induction ds with
 | nil => exact fun w _ h => h w ⟨rfl, rfl, rfl, rfl, fun _ _ => rfl, fun _ _ h _ => h⟩
 | cons d ds ih =>
  intro w hm h; obtain ⟨l, h1, h2, h3⟩ := hm
  cases l with
  | nil => cases h1
  | cons D l =>
   simp only [List.map_cons, List.cons.injEq] at h1; obtain ⟨rfl, rfl⟩ := h1; obtain ⟨hn, h2⟩ := List.nodup_cons.1 h2; obtain ⟨hB, hD⟩ := h3 D (by simp)
   refine ⟨hu, .inl ⟨D, _, rfl, run_takeDeferred hD, ih _ ⟨l, rfl, h2, fun x hx => ⟨(h3 x (by simp [hx])).1, (World.putObj_heap_other (fun e => by subst e; exact hn hx)).trans (h3 x (by simp [hx])).2⟩⟩ fun w' hs => h w' ?_⟩⟩
   refine ⟨hs.os, hs.tape, hs.output, by rw [hs.size]; simp, fun b hb => (hs.low b hb).trans (World.putObj_heap_other (by omega)), fun b o hb ho => ?_⟩
   have hne : b ≠ D := by
    rintro rfl; rw [hD] at hb; exact ho _ (Option.some.inj hb).symm
   exact hs.other b o ((World.putObj_heap_other hne).trans hb) ho
end Go.Proofs.YtgmfhngcehkibaaGreat
namespace Go.HavG
open Go.RowKit
section
variable {R : Rel} {P : Program} {ops : Array Oper}
theorem hav_val_ghost {Qp : List PanicEntry → World → Prop} {w0 : World} {Cont : Act → (World → Prop) → Prop} {i : Nat} {rest : List (Nat × Bool)} {a : Act} {F : World → Prop} {o : Oper} (Φ : Value → World → Prop) (ho : ops[i]? = some o)
  (hw : Region.wanted o (yielded ops a.tmps) = true) (hst : ∀ v w w', Φ v w → R.G w w' → Φ v w')
  (h1 : ∀ w, R.G w0 w → F w → ∃ v w', (execOp a.eval o).run P w = .ok (.value v) w' ∧ R.G w w' ∧ Φ v w')
  (h2 : ∀ v, wpHav R P ops Qp w0 Cont rest (a.put o.dst v) (fun w => F w ∧ Φ v w)) : wpHav R P ops Qp w0 Cont ((i, true) :: rest) a F :=
 hav_ghost Φ ho hst (fun w hg hF K hK => by
  unfold stepOf Oper.wp; obtain ⟨v, w', hr, hgg, hp⟩ := h1 w hg hF; rw [if_pos hw, hr]
  exact hK v w' hgg hp) h2
end
theorem hav_store {R : Rel} {P : Program} {ops : Array Oper} {Qp : List PanicEntry → World → Prop} {w0 : World} {Cont : Act → (World → Prop) → Prop} {i : Nat} {rest : List (Nat × Bool)} {a : Act} {F : World → Prop} {o : Oper} (Φ : World → Prop) (ho : ops[i]? = some o)
  (hw : Region.wanted o (yielded ops a.tmps) = true) (hd : o.dst = none) (hst : ∀ w w', Φ w → R.G w w' → Φ w')
  (h1 : ∀ w, R.G w0 w → F w → ∃ w', (execOp a.eval o).run P w = .ok .skip w' ∧ R.G w w' ∧ Φ w')
  (h2 : wpHav R P ops Qp w0 Cont rest a (fun w => F w ∧ Φ w)) : wpHav R P ops Qp w0 Cont ((i, true) :: rest) a F :=
 hav_ghost (fun _ => Φ) ho (fun _ => hst) (fun w hg hF K hK => by
  unfold stepOf Oper.wp; obtain ⟨w', hr, hgg, hp⟩ := h1 w hg hF; rw [if_pos hw, hr]; have := hK undef w' hgg hp; rw [hd] at this; simp only [Oper.upon, hd]
  exact this) (fun v => by rw [hd]; exact h2)
end Go.HavG
namespace Go.Proofs.YtgmfhngcehkibaaGreat
open Go.RowKit Go.Hav Go.Sq
theorem KeptOK.look_at {w : World} {k : Nat} {r : Riv} (h : KeptOK w k r) (by_ looks : Nat) (h1 : by_ < 1000) (h2 : looks < 1000) :
  ∃ (is : Bool) (ms : Nat → Option Nat), (∀ wv : World, wv.heap[k]? = w.heap[k]? → (Instr.lookup 177 (.map (some k)) (quV by_ looks) true).run Tryz.prog wv = .ok (.tuple #[runV ms, .bool is]) wv) ∧ (is = true → RunOK w k r by_ looks ms) := by
 obtain ⟨D, qs, ⟨es, clock, hh, hF, hs, hD⟩, _, _, _, hl⟩ := h; obtain ⟨kl, hk⟩ := key_qu by_ looks h1 h2; obtain ⟨e0, e1, e2⟩ := hl by_ looks kl h1 h2 hk
 have key : ∀ wv : World, wv.heap[k]? = w.heap[k]? → ∃ v ps, (Instr.lookup 177 (.map (some k)) (quV by_ looks) true).run Tryz.prog wv = .ok (.tuple #[v, .bool (Maps.has D kl)]) wv ∧ runR v = some (D.atKey kl (.held noRun), ps) := fun wv he =>
  World.ownsMap.look_ok (n := Maps.size D) ⟨es, clock, he.trans hh, hF, hs, hD⟩ Tryz.keyed187 Tryz.underlying177 (Tryz.zero184 wv) (zd := .held noRun) (zp := []) rfl hk
 by_cases hm : (by_, looks) ∈ qs
 ·obtain ⟨ms, q1, q2⟩ := e1 hm
  refine ⟨true, ms, fun wv he => ?_, fun _ => q1⟩
  obtain ⟨v, ps, hrun, hv⟩ := key wv he; rw [q2] at hv; simp only [runR, Option.some.injEq, Prod.mk.injEq, DataW.held.injEq] at hv; rw [hrun, hv.1, e0]
  simp [hm]
 ·refine ⟨false, fun _ => none, fun wv he => ?_, fun h => by cases h⟩
  obtain ⟨v, ps, hrun, hv⟩ := key wv he; rw [e2 hm] at hv; simp only [runR, Option.some.injEq, Prod.mk.injEq, DataW.held.injEq] at hv; rw [hrun, hv.1, e0]
  simp [hm]
  rfl
def GZ (B : Nat) (t : TypeId) (Z V : Array Value) : HavG.Rel where
 G w w' := Below B w w' ∧ (∀ g, B ≤ g → Blk w g t V → Blk w' g t V) ∧ ∀ g, B ≤ g → Blk w g t Z → Blk w' g t Z ∨ Blk w' g t V
 refl _ := ⟨Below.refl _ _, fun _ _ h => h, fun _ _ h => .inl h⟩
 trans := fun h k => ⟨h.1.trans k.1, fun g hg hb => k.2.1 g hg (h.2.1 g hg hb), fun g hg hb => (h.2.2 g hg hb).elim (fun h => k.2.2 g hg h) (fun h => .inr (k.2.1 g hg h))⟩
 drew _ := ⟨Below.drew (Below.refl _ _), fun _ _ h => h, fun _ _ h => .inl h⟩
section
variable {B : Nat} {t : TypeId} {Z V : Array Value}
theorem GZ.below {w w' : World} (hB : B ≤ w.heap.size) (h : Below w.heap.size w w') : (GZ B t Z V).G w w' := ⟨h.mono hB, fun _ _ hb => hb.below h hb.lt, fun _ _ hb => .inl (hb.below h hb.lt)⟩
theorem GZ.turn {w w' : World} {g : Nat} (hg : B ≤ g) (h : Turn (fun b => b = g) w w') (hB : B ≤ w.heap.size) (hV : Blk w' g t V) : (GZ B t Z V).G w w' :=
 ⟨h.below hB (fun b e => by omega), fun g' _ hb => by
  by_cases e : g' = g
  ·exact e ▸ hV
  ·exact hb.turn h e, fun g' _ hb => by
  by_cases e : g' = g
  ·exact .inr (e ▸ hV)
  ·exact .inl (hb.turn h e)⟩
def PlaceZ (B : Nat) (t : TypeId) (Z V : Array Value) (v : Value) (w : World) : Prop := ∃ g, v = .pointer (some ⟨g, 0, none⟩) ∧ B ≤ g ∧ (Blk w g t Z ∨ Blk w g t V)
def StoredZ (B : Nat) (t : TypeId) (V : Array Value) (v : Value) (w : World) : Prop := ∃ g, v = .pointer (some ⟨g, 0, none⟩) ∧ B ≤ g ∧ Blk w g t V
theorem PlaceZ.stable {v : Value} {w w' : World} (h : PlaceZ B t Z V v w) (hg : (GZ B t Z V).G w w') : PlaceZ B t Z V v w' := by
 obtain ⟨g, e, hb, hk⟩ := h
 exact ⟨g, e, hb, hk.elim (fun h => hg.2.2 g hb h) (fun h => .inr (hg.2.1 g hb h))⟩
theorem StoredZ.stable {v : Value} {w w' : World} (h : StoredZ B t V v w) (hg : (GZ B t Z V).G w w') : StoredZ B t V v w' := by
 obtain ⟨g, e, hb, hk⟩ := h; exact ⟨g, e, hb, hg.2.1 g hb hk⟩
end
end Go.Proofs.YtgmfhngcehkibaaGreat
