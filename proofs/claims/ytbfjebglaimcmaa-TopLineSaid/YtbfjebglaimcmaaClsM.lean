/- The classer's map of what is known: what it holds, what a lookup and a store make of it. Conditions: it holds only what is right; sets of at most six bales. -/
import Derived.Test.YtbfjebglaimcmaaMemo
import Derived.Test.YtbfjebglaimcmaaClsP
import Derived.Test.YtbfjebglaimcmaaSeqA
namespace Go.Proofs.Ytbfjebglaimcmaa
open Go.RowKit Go.Hav Go.Sq
open Go.Maps (Keyed)
open Go.WideElems
attribute [local go_sem] Oper.semAt_some
/-- 31 numbers in cells, and as a value. -/
def costA (f : Nat → Int) : Array Value := ((List.range 31).map fun i => Value.int .i64 (f i)).toArray
def costV (f : Nat → Int) : Value := .agg (costA f)
/-- The costs' numbers. -/
def cI (c : Nat → Nat) : Nat → Int := fun i => (c i : Int)
theorem costA_size (f : Nat → Int) : (costA f).size = 31 := by simp [costA]
theorem costA_get (f : Nat → Int) {i : Nat} (h : i < 31) : (costA f)[i]? = some (.int .i64 (f i)) := by
  unfold costA
  rw [List.getElem?_toArray, List.getElem?_map, List.getElem?_range h]
  rfl
theorem costA_set (f : Nat → Int) {i : Nat} (h : i < 31) (v : Int) : (costA f).setIfInBounds i (.int .i64 v) = costA (fun j => if j = i then v else f j) := by
  unfold costA
  rw [List.setIfInBounds_toArray]
  congr 1
  refine List.ext_getElem? fun j => ?_
  rw [List.getElem?_set, List.getElem?_map, List.getElem?_map]
  by_cases e : i = j
  · subst e
    rw [if_pos rfl, List.getElem?_range h]
    simp [h]
  · rw [if_neg e]
    by_cases hj : j < 31
    · rw [List.getElem?_range hj]
      simp [show ¬ j = i from fun h => e h.symm]
    · rw [List.getElem?_eq_none (by simp; omega)]
      rfl
theorem costA_congr {f g : Nat → Int} (h : ∀ i, i < 31 → f i = g i) : costA f = costA g := by
  unfold costA
  congr 1
  exact List.map_congr_left fun i hi => by rw [h i (by simpa using hi)]
theorem costV_congr {f g : Nat → Int} (h : ∀ i, i < 31 → f i = g i) : costV f = costV g := by unfold costV; rw [costA_congr h]
theorem costA_one (f : Nat → Int) : (costA f).all (·.oneCell') = true := by
  unfold costA
  rw [List.all_toArray, List.all_map]
  exact List.all_eq_true.2 fun i _ => rfl
theorem Try.row186 : (186 : TypeId) < Try.prog.types.size := of_decide_eq_true (by kernel_rfl)
theorem Try.wide186 : (match Try.prog.underlying 186 with | some (.array _ _) | some (.struct _) => true | _ => false) = true := by rw [Try.underlying186]
set_option maxRecDepth 100000 in
theorem Try.keyed186 : Keyed Try.prog 186 := Keyed.of_law (deep_law_laid Try.laidOut (m := 4) (by omega) Try.row186 (by kernel_rfl) Try.wide186)
/-- Which bales, up to which one, from which end. -/
structure KeyC where
  tk : Nat
  n : Nat
  back : Bool
deriving DecidableEq
def KeyC.Ok (t : KeyC) : Prop := t.tk < 64 ∧ t.n ≤ 5
def keyC (t : KeyC) : Array Value := #[.int .u64 t.tk, .int .i64 t.n, .bool t.back]
def keyV (t : KeyC) : Value := .agg (keyC t)
set_option maxRecDepth 100000 in
theorem Try.zero162 (w : World) : (zeroValue 162).run Try.prog w = .ok (costV fun _ => 0) w := by kernel_rfl
theorem lits186 (d : Nat) (t : KeyC) (ht : t.Ok) : Try.prog.keyLits (d + 4) 186 [.int .u64 t.tk, .int .i64 t.n, .bool t.back] = some [.int .u64 t.tk, .int .i64 t.n, .bool t.back] := by
  obtain ⟨h0, h1⟩ := ht
  have w0 := wfu64 t.tk (by omega)
  have w1 := wf64 t.n (by omega)
  have c186 : Try.prog.cellsOf 186 = 3 := by kernel_rfl
  have c3 : Try.prog.cellsOf 3 = 1 := by kernel_rfl
  have c4 : Try.prog.cellsOf 4 = 1 := by kernel_rfl
  have c93 : Try.prog.cellsOf 93 = 1 := by kernel_rfl
  simp [Program.keyLits, Try.underlying186, Try.underlying3, Try.underlying4, Try.underlying93, c186, c3, c4, c93, w0, w1]
theorem key_kc (t : KeyC) (ht : t.Ok) : ∃ kl, keyOf Try.prog 186 (keyV t) = some kl := by
  have hk : Try.prog.keyType 186 = true := by kernel_rfl
  have c186 : Try.prog.cellsOf 186 = 3 := by kernel_rfl
  have hf : (keyV t).formed Try.prog 186 = true := by simp [keyV, keyC, Value.formed, Try.underlying186, c186]
  have hs : ∃ m, Try.prog.types.size + 1 = m + 4 := ⟨Try.prog.types.size - 3, by have h76 : 186 < Try.prog.types.size := Try.row186; omega⟩
  obtain ⟨m, hm⟩ := hs
  refine ⟨.string (keyBytes [.int .u64 t.tk, .int .i64 t.n, .bool t.back]), ?_⟩
  unfold keyOf
  rw [Try.underlying186]
  simp only [hk, hf, Bool.and_self, if_true]
  rw [hm, show (keyV t).cells.toList = [.int .u64 t.tk, .int .i64 t.n, .bool t.back] from rfl, lits186 _ t ht]
  rfl
theorem keyV_inj {t u : KeyC} (h : keyV t = keyV u) : t = u := by
  obtain ⟨t0, t1, t2⟩ := t
  obtain ⟨u0, u1, u2⟩ := u
  simp only [keyV, keyC, Value.agg.injEq, Array.mk.injEq, List.cons.injEq, Value.int.injEq, Value.bool.injEq, true_and, and_true, Int.natCast_inj] at h
  obtain ⟨rfl, rfl, rfl⟩ := h
  rfl
/-- An element of the map, as the kit's maps read it: itself. -/
def runR (v : Value) : Option (DataW Value × List MemPlace) := some (.held v, [])
theorem size_put_has2 {H : Type} {D : DataW H} {kl : Lit} (hD : Maps.IsMap D) (d : DataW H) : Maps.size (D.put kl d) ≤ Maps.size D + 1 ∧ (Maps.has D kl = true → Maps.size (D.put kl d) ≤ Maps.size D) := by
  obtain ⟨es, rfl⟩ := hD
  have e : Maps.size (DataW.put (.map es) kl d) = (es.filter fun p => !p.1.sameKey kl).length + 1 := by
    simp only [DataW.put, Maps.size_eq, length_insert]
  rw [e, Maps.size_eq]
  have h1 := List.length_filter_le (fun p : Lit × DataW H => !p.1.sameKey kl) es
  refine ⟨by omega, fun h => ?_⟩
  rw [Maps.has_eq, List.any_eq_true] at h
  obtain ⟨x, hx, hs⟩ := h
  have := List.length_filter_lt_length_iff_exists (p := fun p : Lit × DataW H => !p.1.sameKey kl) (l := es)
  have h2 := this.2 ⟨x, hx, by simp [hs]⟩
  omega
/-- Block k is a map that holds of some rests what F says. -/
def MapK (w : World) (k : Nat) (F : KeyC → Nat → Int) : Prop := ∃ (D : DataW Value) (qs : List KeyC), w.ownsMap Try.prog 186 runR k (Maps.size D) D ∧ Maps.size D ≤ qs.length ∧ qs.Nodup ∧ (∀ q ∈ qs, q.Ok) ∧
  ∀ (t : KeyC) kl, t.Ok → keyOf Try.prog 186 (keyV t) = some kl → Maps.has D kl = decide (t ∈ qs) ∧ (t ∈ qs → ∀ z, D.atKey kl z = .held (costV (F t))) ∧ (t ∉ qs → ∀ z, D.atKey kl z = z)
theorem MapK.lt {w : World} {k : Nat} {F : KeyC → Nat → Int} (h : MapK w k F) : k < w.heap.size := by
  obtain ⟨D, ks, h, _⟩ := h
  exact h.lt
theorem MapK.isMap {w : World} {k : Nat} {F : KeyC → Nat → Int} (h : MapK w k F) : ∃ es c, w.heap[k]? = some (Obj.map es c) := by
  obtain ⟨D, ks, ⟨es, clock, hh, _⟩, _⟩ := h
  exact ⟨es, clock, hh⟩
theorem MapK.keep {w w' : World} {k : Nat} {F : KeyC → Nat → Int} (h : MapK w k F) (hb : w'.heap[k]? = w.heap[k]?) : MapK w' k F := by
  obtain ⟨D, ks, ⟨es, clock, hh, hF, hs, hD⟩, hl⟩ := h
  exact ⟨D, ks, ⟨es, clock, hb.trans hh, hF, hs, hD⟩, hl⟩
theorem MapK.made (w : World) (F : KeyC → Nat → Int) : MapK (w.alloc (.map #[] 0)) w.heap.size F :=
  ⟨.map [], [], own_size (World.ownsMap_made w _ _ _), by simp [Maps.size_eq], List.nodup_nil, by simp, fun t kl _ _ => ⟨by simp [Maps.has_eq], fun h => by simp at h, fun _ z => by simp [DataW.atKey]⟩⟩
theorem MapK.look {w : World} {k : Nat} {F : KeyC → Nat → Int} (hM : MapK w k F) (t : KeyC) (ht : t.Ok) :
    ∃ is : Bool, ∀ wv : World, wv.heap[k]? = w.heap[k]? → (Instr.lookup 156 (.map (some k)) (keyV t) true).run Try.prog wv = .ok (.tuple #[(if is then costV (F t) else costV fun _ => 0), .bool is]) wv := by
  obtain ⟨D, qs, hown, _, _, _, hl⟩ := hM
  obtain ⟨kl, hk⟩ := key_kc t ht
  obtain ⟨g1, g2, g3⟩ := hl t kl ht hk
  refine ⟨decide (t ∈ qs), fun wv hv => ?_⟩
  obtain ⟨es, clock, hh, hF, hs, hD⟩ := hown
  obtain ⟨v, ps, hrun, hR⟩ := World.ownsMap.look_ok (n := Maps.size D) ⟨es, clock, hv.trans hh, hF, hs, hD⟩ Try.keyed186 Try.underlying156 (Try.zero162 wv) (zd := .held (costV fun _ => 0)) (zp := []) rfl hk
  have hR' : DataW.held v = D.atKey kl (.held (costV fun _ => 0)) := by have := Option.some.inj hR; exact congrArg Prod.fst this
  rw [hrun, g1]
  by_cases hm : t ∈ qs
  · rw [g2 hm] at hR'
    replace hR' := DataW.held.inj hR'
    subst hR'
    simp [hm]
  · rw [g3 hm] at hR'
    replace hR' := DataW.held.inj hR'
    subst hR'
    simp [hm]
theorem qs_lenK {qs : List KeyC} (hn : qs.Nodup) (hr : ∀ q ∈ qs, q.Ok) : qs.length ≤ 2000 := by
  have h1 : (qs.map (fun t => (t.tk * 10 + t.n) * 2 + (if t.back then 1 else 0))).Nodup := by
    unfold List.Nodup at *
    rw [List.pairwise_map]
    refine hn.imp_of_mem fun {x y} hx hy hne he => hne ?_
    have r1 := hr x hx
    have r2 := hr y hy
    obtain ⟨x0, x1, x2⟩ := x
    obtain ⟨y0, y1, y2⟩ := y
    unfold KeyC.Ok at r1 r2
    simp only at *
    cases x2 <;> cases y2 <;> simp at he ⊢ <;> omega
  have h2 := nodup_lt 2000 _ h1 (fun x hx => by
    obtain ⟨t, ht, rfl⟩ := List.mem_map.1 hx
    have := hr t ht
    unfold KeyC.Ok at this
    split <;> omega)
  simpa using h2
/-- A way is kept; then it is there. -/
theorem MapK.store {w : World} {k : Nat} {F : KeyC → Nat → Int} (h : MapK w k F) (t : KeyC) (ht : t.Ok) :
    ∃ w', (Instr.mapUpdate 156 (.map (some k)) (keyV t) (costV (F t))).run Try.prog w = .ok () w' ∧ MapK w' k F ∧ w.grownBy w' (some k) ∧ w'.heap.size = w.heap.size ∧ (∀ wv : World, wv.heap[k]? = w'.heap[k]? → (Instr.lookup 156 (.map (some k)) (keyV t) false).run Try.prog wv = .ok (costV (F t)) wv) := by
  obtain ⟨D, qs, hown, hsz, hnd, hin, hl⟩ := h
  obtain ⟨kl, hk⟩ := key_kc t ht
  have hlen := qs_lenK hnd hin
  obtain ⟨w', hrun, hown', hturn⟩ := hown.store Try.keyed186 Try.underlying156 (by unfold maxLen; omega) hk (show runR (costV (F t)) = some (.held (costV (F t)), []) from rfl)
  have hg := hturn.grown
  obtain ⟨s1, s2⟩ := size_put_has2 (kl := kl) hown.isMap (.held (costV (F t)))
  have hhas := (hl t kl ht hk).1
  have key : ∀ (qs' : List KeyC), (∀ u, u ∈ qs' ↔ u = t ∨ u ∈ qs) → ∀ (u : KeyC) kl', u.Ok → keyOf Try.prog 186 (keyV u) = some kl' →
      Maps.has (D.put kl (.held (costV (F t)))) kl' = decide (u ∈ qs') ∧ (u ∈ qs' → ∀ z, (D.put kl (.held (costV (F t)))).atKey kl' z = .held (costV (F u))) ∧ (u ∉ qs' → ∀ z, (D.put kl (.held (costV (F t)))).atKey kl' z = z) := by
    intro qs' hqs u kl' a1 hk'
    by_cases hab : u = t
    · subst hab
      obtain rfl : kl = kl' := Option.some.inj (hk.symm.trans hk')
      have hm : u ∈ qs' := (hqs _).2 (.inl rfl)
      refine ⟨by rw [Maps.has_put_same hown.isMap (Try.keyed186.key hk)]; simp [hm], fun _ z => Maps.atKey_put_same hown.isMap (Try.keyed186.key hk) _ z, fun h => absurd hm h⟩
    · have hne : kl' ≠ kl := by
        rintro rfl
        exact hab (keyV_inj (Try.keyed186.inj hk' hk))
      have hiff : u ∈ qs' ↔ u ∈ qs := by rw [hqs]; simp [hab]
      obtain ⟨g1, g2, g3⟩ := hl u kl' a1 hk'
      exact ⟨by rw [Maps.has_put_other hne, g1]; exact decide_eq_decide.2 hiff.symm, fun hm z => by rw [Maps.atKey_put_other hne]; exact g2 (hiff.1 hm) z, fun hm z => by rw [Maps.atKey_put_other hne]; exact g3 (fun h => hm (hiff.2 h)) z⟩
  have hlook : ∀ wv : World, wv.heap[k]? = w'.heap[k]? → (Instr.lookup 156 (.map (some k)) (keyV t) false).run Try.prog wv = .ok (costV (F t)) wv := fun wv hv => by
    obtain ⟨es, clock, hh, hF, hs, hD⟩ := hown'
    obtain ⟨v, ps, hrun2, hR⟩ := World.ownsMap.lookup (n := Maps.size D + 1) ⟨es, clock, hv.trans hh, hF, hs, hD⟩ Try.keyed186 Try.underlying156 (Try.zero162 wv) (zd := .held (costV fun _ => 0)) (zp := []) rfl hk
    have hR' : DataW.held v = (D.put kl (.held (costV (F t)))).atKey kl (.held (costV fun _ => 0)) := by have := Option.some.inj hR; exact congrArg Prod.fst this
    rw [Maps.atKey_put_same hown.isMap (Try.keyed186.key hk)] at hR'
    replace hR' := DataW.held.inj hR'
    rw [hrun2, hR']
  have hsize : w'.heap.size = w.heap.size := by obtain ⟨es, c, es', c', _, rfl⟩ := hturn; simp [Go.ChangeMaps.setBlock]
  refine ⟨w', hrun, ?_, hg, hsize, hlook⟩
  by_cases hm : t ∈ qs
  · refine ⟨_, qs, own_size hown', ?_, hnd, hin, key qs fun u => ⟨fun hu => .inr hu, fun hu => hu.elim (fun e => e ▸ hm) id⟩⟩
    have := s2 (by rw [hhas]; simp [hm])
    omega
  · refine ⟨_, t :: qs, own_size hown', ?_, List.nodup_cons.2 ⟨hm, hnd⟩, ?_, key _ fun u => by simp⟩
    · simp; omega
    · intro u hu
      rcases List.mem_cons.1 hu with rfl | hu
      · exact ht
      · exact hin u hu
end Go.Proofs.Ytbfjebglaimcmaa
