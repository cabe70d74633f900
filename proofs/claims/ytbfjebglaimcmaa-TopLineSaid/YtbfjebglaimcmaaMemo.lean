/- The walk of the library's OnesCount; condition: the number is less than 1024. The shed's map of what is known of the best: what it holds, what a lookup and a store make of it; condition: it holds only what is the best. -/
import Derived.Test.YtbfjebglaimcmaaData
import Derived.Test.YtbfjebglaimcmaaBits
import Derived.Test.YtbfjebglaimcmaaOpen5
import Derived.Test.YtbfjebglaimcmaaHavG
import Derived.Test.YtbfjebglaimcmaaPlain2
import Derived.Maps.Own
import Derived.Maps.OwnSet
import Derived.Maps.AppendAt
import Derived.OwnWalk
import Derived.DeepKeys4
namespace Go.Proofs.Ytbfjebglaimcmaa
open Go.RowKit Go.Hav
theorem of_fin {P : Nat → Prop} (h : ∀ s : Fin 1024, P s.val) : ∀ s, s < 1024 → P s := fun s hs => h ⟨s, hs⟩
set_option maxHeartbeats 800000 in
theorem ones64_any (s : Nat) (hs : s < 1024) (w : World) :
    Calls Try.prog 119 #[.int .u64 s] w fun e w' => e = .returned (.int .i64 (pop s 10)) ∧ w = w' := by
  go_enter Try.func119, Try.ntmps119
  go_wp2
  go_ret
  refine ⟨ret_int ?_, rfl⟩
  clear w
  revert hs
  revert s
  refine of_fin ?_
  decide +kernel
theorem ones_any (s : Nat) (hs : s < 1024) (w : World) :
    Calls Try.prog 75 #[.int .u64 s] w fun e w' => e = .returned (.int .i64 (pop s 10)) ∧ w = w' := by
  go_enter Try.func75, Try.ntmps75
  go_wp2_with (go_at_call 119; refine (ones64_any s hs _).mono ?_; rintro e w' ⟨rfl, rfl⟩)
  go_ret
  exact ⟨rfl, rfl⟩
end Go.Proofs.Ytbfjebglaimcmaa
namespace Go.Proofs.Ytbfjebglaimcmaa
open Go.RowKit Go.Hav
open Go.Maps (Keyed)
open Go.WideElems
theorem Try.row143 : (143 : TypeId) < Try.prog.types.size := of_decide_eq_true (by kernel_rfl)
theorem Try.wide143 : (match Try.prog.underlying 143 with | some (.array _ _) | some (.struct _) => true | _ => false) = true := by rw [Try.underlying143]
set_option maxRecDepth 100000 in
theorem Try.keyed143 : Keyed Try.prog 143 := Keyed.of_law (deep_law_laid Try.laidOut (m := 2) (by omega) Try.row143 (by kernel_rfl) Try.wide143)
set_option maxRecDepth 100000 in
theorem Try.zero3 (w : World) : (zeroValue 3).run Try.prog w = .ok (.int .i64 0) w := by kernel_rfl
/-- What is left to be pressed. -/
def restV (f b h : Nat) : Value := .agg #[.int .u64 f, .int .i64 b, .int .u64 h]
theorem wf64 (n : Nat) (h1 : n ≤ 100000) : (Lit.int .i64 n).wf = true := by
  have m : IntKind.i64.min = -9223372036854775808 := by decide
  have M : IntKind.i64.max = 9223372036854775807 := by decide
  simp [Lit.wf, m, M]; omega
theorem wfu64 (n : Nat) (h1 : n ≤ 100000) : (Lit.int .u64 n).wf = true := by
  have m : IntKind.u64.min = 0 := by decide
  have M : IntKind.u64.max = 18446744073709551615 := by decide
  simp [Lit.wf, m, M]; omega
theorem lits143 (d f b h : Nat) (h1 : f < 1024) (h2 : b ≤ 5) (h3 : h < 1024) : Try.prog.keyLits (d + 2) 143 [.int .u64 f, .int .i64 b, .int .u64 h] = some [.int .u64 f, .int .i64 b, .int .u64 h] := by
  have w0 := wfu64 f (by omega)
  have w1 := wf64 b (by omega)
  have w2 := wfu64 h (by omega)
  have c143 : Try.prog.cellsOf 143 = 3 := by kernel_rfl
  have c3 : Try.prog.cellsOf 3 = 1 := by kernel_rfl
  have c93 : Try.prog.cellsOf 93 = 1 := by kernel_rfl
  simp [Program.keyLits, Try.underlying143, Try.underlying3, Try.underlying93, c143, c3, c93, w0, w1, w2]
theorem key_mk (f b h : Nat) (h1 : f < 1024) (h2 : b ≤ 5) (h3 : h < 1024) : ∃ kl, keyOf Try.prog 143 (restV f b h) = some kl := by
  have hk : Try.prog.keyType 143 = true := by kernel_rfl
  have c143 : Try.prog.cellsOf 143 = 3 := by kernel_rfl
  have hf : (restV f b h).formed Try.prog 143 = true := by simp [restV, Value.formed, Try.underlying143, c143]
  have hs : Try.prog.types.size + 1 = (Try.prog.types.size - 1) + 2 := by have h76 : 143 < Try.prog.types.size := Try.row143; omega
  refine ⟨.string (keyBytes [.int .u64 f, .int .i64 b, .int .u64 h]), ?_⟩
  unfold keyOf
  rw [Try.underlying143]
  simp only [hk, hf, Bool.and_self, if_true]
  rw [hs, show (restV f b h).cells.toList = [.int .u64 f, .int .i64 b, .int .u64 h] from rfl, lits143 _ f b h h1 h2 h3]
  rfl
/-- So many numbers below a bound, none twice, are at most so many as the bound. -/
theorem nodup_lt : ∀ (M : Nat) (l : List Nat), l.Nodup → (∀ x ∈ l, x < M) → l.length ≤ M := by
  intro M
  induction M with
  | zero =>
    intro l _ h
    cases l with
    | nil => simp
    | cons x l => exact absurd (h x (by simp)) (by omega)
  | succ M ih =>
    intro l hn h
    have h1 := ih (l.erase M) (hn.erase M) (fun x hx => by
      obtain ⟨h1, h2⟩ := hn.mem_erase_iff.1 hx
      have := h x h2; omega)
    by_cases hm : M ∈ l
    · rw [List.length_erase_of_mem hm] at h1; omega
    · rw [List.erase_of_not_mem hm] at h1; omega
def code (t : Nat × Nat × Nat) : Nat := (t.1 * 6 + t.2.1) * 1024 + t.2.2
/-- Block r is a map that holds of some rests what the best of them is. -/
def MapOK (w : World) (r : Nat) (L : List Nat) : Prop :=
  ∃ (D : DataW Unit) (ks : List (Nat × Nat × Nat)), w.ownsMap Try.prog 143 (plainElem Try.prog 3) r (Maps.size D) D ∧ Maps.size D ≤ ks.length ∧ ks.Nodup ∧ (∀ t ∈ ks, t.1 < 1024 ∧ t.2.1 ≤ 5 ∧ t.2.2 < 1024) ∧
    ∀ f b h kl, f < 1024 → b ≤ 5 → h < 1024 → keyOf Try.prog 143 (restV f b h) = some kl →
      Maps.has D kl = decide ((f, b, h) ∈ ks) ∧ D.atKey kl (.lit (.int .i64 0)) = .lit (.int .i64 (if (f, b, h) ∈ ks then bestF L b f h else 0))
theorem own_size {H : Type} {w : World} {P : Program} {k : TypeId} {R : Value → Option (DataW H × List MemPlace)} {b n : Nat} {D : DataW H} (h : w.ownsMap P k R b n D) : w.ownsMap P k R b (Maps.size D) D := by
  obtain ⟨es, clock, hb, F, _, rfl⟩ := h
  refine ⟨es, clock, hb, F, ?_, rfl⟩
  rw [Maps.size_eq, length_sorted]
  simp
theorem MapOK.made (w : World) (L : List Nat) : MapOK (w.alloc (.map #[] 0)) w.heap.size L :=
  ⟨.map [], [], own_size (World.ownsMap_made w _ _ _), by simp [Maps.size_eq], List.nodup_nil, by simp, fun f b h kl _ _ _ _ => by simp [Maps.has_eq, DataW.atKey]⟩
theorem MapOK.keep {w w' : World} {r : Nat} {L : List Nat} (h : MapOK w r L) (hb : w'.heap[r]? = w.heap[r]?) : MapOK w' r L := by
  obtain ⟨D, ks, ⟨es, clock, hh, hF, hs, hD⟩, hl⟩ := h
  exact ⟨D, ks, ⟨es, clock, hb.trans hh, hF, hs, hD⟩, hl⟩
theorem MapOK.lt {w : World} {r : Nat} {L : List Nat} (h : MapOK w r L) : r < w.heap.size := by
  obtain ⟨D, ks, h, _⟩ := h
  exact h.lt
/-- A map that is still empty. -/
theorem MapOK.empty {w : World} {r : Nat} (h : w.heap[r]? = some (.map #[] 0)) (L : List Nat) : MapOK w r L := by
  obtain ⟨D, ks, ⟨es, clock, hh, hF, hs, hD⟩, hl⟩ := MapOK.made w L
  rw [heap_alloc_new] at hh
  exact ⟨D, ks, ⟨es, clock, h.trans hh, hF, hs, hD⟩, hl⟩
theorem MapOK.look {w : World} {r : Nat} {L : List Nat} (hM : MapOK w r L) (f b h : Nat) (h1 : f < 1024) (h2 : b ≤ 5) (h3 : h < 1024) :
    ∃ is : Bool, (Instr.lookup 130 (.map (some r)) (.agg #[.int .u64 f, .int .i64 b, .int .u64 h]) true).run Try.prog w = .ok (.tuple #[.int .i64 (if is then bestF L b f h else 0), .bool is]) w := by
  obtain ⟨D, ks, hown, _, _, _, hl⟩ := hM
  obtain ⟨kl, hk⟩ := key_mk f b h h1 h2 h3
  obtain ⟨e0, e1⟩ := hl f b h kl h1 h2 h3 hk
  obtain ⟨v, ps, hrun, hv⟩ := hown.look_ok Try.keyed143 Try.underlying130 (Try.zero3 w) (plainElem_int Try.underlying3 (by decide)) hk
  obtain ⟨c, rfl, hc, _⟩ := plainElem_int_inv Try.underlying3 hv
  simp only [Prod.mk.injEq, e1] at hc
  have hc1 := hc.1
  simp only [DataW.lit.injEq, Lit.int.injEq, true_and] at hc1
  rw [e0, ← hc1] at hrun
  refine ⟨decide ((f, b, h) ∈ ks), hrun.trans ?_⟩
  by_cases hm : (f, b, h) ∈ ks <;> simp [hm]
theorem size_put_has {D : DataW Unit} {kl : Lit} (hD : Maps.IsMap D) (d : DataW Unit) : Maps.size (D.put kl d) ≤ Maps.size D + 1 ∧ (Maps.has D kl = true → Maps.size (D.put kl d) ≤ Maps.size D) := by
  obtain ⟨es, rfl⟩ := hD
  have e : Maps.size (DataW.put (.map es) kl d) = (es.filter fun p => !p.1.sameKey kl).length + 1 := by
    simp only [DataW.put, Maps.size_eq, length_insert]
  rw [e, Maps.size_eq]
  have h1 := List.length_filter_le (fun p : Lit × DataW Unit => !p.1.sameKey kl) es
  refine ⟨by omega, fun h => ?_⟩
  rw [Maps.has_eq, List.any_eq_true] at h
  obtain ⟨x, hx, hs⟩ := h
  have := List.length_filter_lt_length_iff_exists (p := fun p : Lit × DataW Unit => !p.1.sameKey kl) (l := es)
  have h2 := this.2 ⟨x, hx, by simp [hs]⟩
  omega
theorem ks_len {ks : List (Nat × Nat × Nat)} (hn : ks.Nodup) (hr : ∀ t ∈ ks, t.1 < 1024 ∧ t.2.1 ≤ 5 ∧ t.2.2 < 1024) : ks.length ≤ 6291456 := by
  have h1 : (ks.map code).Nodup := by
    unfold List.Nodup at *
    rw [List.pairwise_map]
    refine hn.imp_of_mem fun {a b} ha hb hne he => hne ?_
    have r1 := hr a ha
    have r2 := hr b hb
    obtain ⟨a1, a2, a3⟩ := a
    obtain ⟨b1, b2, b3⟩ := b
    simp only [code] at *
    have : a1 = b1 ∧ a2 = b2 ∧ a3 = b3 := by omega
    obtain ⟨rfl, rfl, rfl⟩ := this
    rfl
  have h2 := nodup_lt 6291456 _ h1 (fun x hx => by
    obtain ⟨t, ht, rfl⟩ := List.mem_map.1 hx
    have := hr t ht
    unfold code
    omega)
  simpa using h2
theorem MapOK.store {w : World} {r : Nat} {L : List Nat} (hM : MapOK w r L) (f b h : Nat) (h1 : f < 1024) (h2 : b ≤ 5) (h3 : h < 1024) (hv : bestF L b f h ≤ 100000) :
    ∃ w', (Instr.mapUpdate 130 (.map (some r)) (.agg #[.int .u64 f, .int .i64 b, .int .u64 h]) (.int .i64 (bestF L b f h))).run Try.prog w = .ok () w' ∧ MapOK w' r L ∧ w.grownBy w' (some r) := by
  obtain ⟨D, ks, hown, hsz, hnd, hin, hl⟩ := hM
  obtain ⟨kl, hk⟩ := key_mk f b h h1 h2 h3
  have hlen := ks_len hnd hin
  have h0 := bestF_nonneg (l := L) b f h
  have hwf : (Lit.int .i64 (bestF L b f h)).wf = true := by
    obtain ⟨n, hn⟩ := Int.eq_ofNat_of_zero_le h0
    rw [hn] at hv ⊢
    exact wf64 n (by omega)
  obtain ⟨w', hrun, hown', hg⟩ := hown.update Try.keyed143 Try.underlying130 (by unfold maxLen; omega) hk (plainElem_int (a := bestF L b f h) Try.underlying3 hwf)
  obtain ⟨s1, s2⟩ := size_put_has (kl := kl) hown.isMap (.lit (.int .i64 (bestF L b f h)))
  have hhas := (hl f b h kl h1 h2 h3 hk).1
  have key : ∀ (ks' : List (Nat × Nat × Nat)), (∀ t, t ∈ ks' ↔ t = (f, b, h) ∨ t ∈ ks) → ∀ f' b' h' kl', f' < 1024 → b' ≤ 5 → h' < 1024 → keyOf Try.prog 143 (restV f' b' h') = some kl' →
      Maps.has (D.put kl (.lit (.int .i64 (bestF L b f h)))) kl' = decide ((f', b', h') ∈ ks') ∧ (D.put kl (.lit (.int .i64 (bestF L b f h)))).atKey kl' (.lit (.int .i64 0)) = .lit (.int .i64 (if (f', b', h') ∈ ks' then bestF L b' f' h' else 0)) := by
    intro ks' hks f' b' h' kl' a1 a2 a3 hk'
    by_cases hab : (f', b', h') = (f, b, h)
    · obtain ⟨rfl, rfl, rfl⟩ : f' = f ∧ b' = b ∧ h' = h := by simpa using hab
      obtain rfl : kl = kl' := Option.some.inj (hk.symm.trans hk')
      rw [Maps.has_put_same hown.isMap (Try.keyed143.key hk), Maps.atKey_put_same hown.isMap (Try.keyed143.key hk)]
      have : (f', b', h') ∈ ks' := (hks _).2 (.inl rfl)
      simp [this]
    · have hne : kl' ≠ kl := by
        rintro rfl
        have := Try.keyed143.inj hk' hk
        simp only [restV, Value.agg.injEq, Array.mk.injEq, List.cons.injEq, Value.int.injEq, true_and, and_true, Int.natCast_inj] at this
        exact hab (by obtain ⟨a, b, c⟩ := this; subst a; subst b; subst c; rfl)
      have hiff : (f', b', h') ∈ ks' ↔ (f', b', h') ∈ ks := by rw [hks]; simp [hab]
      rw [Maps.has_put_other hne, Maps.atKey_put_other hne]
      have := hl f' b' h' kl' a1 a2 a3 hk'
      by_cases hm : (f', b', h') ∈ ks
      · simpa [hm, hiff.2 hm] using this
      · have hm' : (f', b', h') ∉ ks' := fun h => hm (hiff.1 h)
        simpa [hm, hm'] using this
  refine ⟨w', hrun, ?_, hg⟩
  by_cases hm : (f, b, h) ∈ ks
  · refine ⟨_, ks, own_size hown', ?_, hnd, hin, key ks fun t => ⟨fun ht => .inr ht, fun ht => ht.elim (fun e => e ▸ hm) id⟩⟩
    have := s2 (by rw [hhas]; simp [hm])
    omega
  · refine ⟨_, (f, b, h) :: ks, own_size hown', ?_, List.nodup_cons.2 ⟨hm, hnd⟩, ?_, key _ fun t => by simp⟩
    · simp; omega
    · intro t ht
      rcases List.mem_cons.1 ht with rfl | ht
      · exact ⟨h1, h2, h3⟩
      · exact hin t ht
end Go.Proofs.Ytbfjebglaimcmaa
