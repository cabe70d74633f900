/- General pieces for PressMore: the table rule with new blocks that are known apart; an append of one element inside a region that draws; rows that are set. No condition but that things lie so. -/
import Derived.Test.YtbfjebglaimcmaaLawB
import Derived.Test.YtbfjebglaimcmaaRefG
import Derived.Test.YtbfjebglaimcmaaHavTab
import Derived.Test.YtbfjebglaimcmaaLawTruly
namespace Go.HavG
open Go.RowKit
section
variable {R : Rel} {P : Program} {ops : Array Oper}
/-- The table rule; the operations of nw make blocks, which lie apart. -/
theorem wp_region_tabA {Q : Exit → Act → World → Prop} (Φ : Nat → Value → World → Prop) (nw ds τ : List Nat) {id : Nat} {a : Act} {w : World} (hm : P.follows .mixedOrders = true) (hok : tabOk ops ds τ = true)
    (hsz : (ds.all fun d => decide (d < a.tmps.size)) = true) (hst : ∀ i v w w', Φ i v w → R.G w w' → Φ i v w')
    (hnw : ∀ i ∈ nw, ∀ v w, Φ i v w → ∃ g, v = .pointer (some ⟨g, 0, none⟩) ∧ g < w.heap.size)
    (hstep : ∀ i, i < ds.length → ∀ o a' w', ops[i]? = some o → Agree ops (List.range ds.length) a a' → R.G w w' → (∀ j d, ((Region.before ops).getD i 0).testBit j = true → ds[j]? = some d → Φ j (slot a' d) w') →
      stepOf P ops o a' w' (fun a'' w'' => ∃ v, a'' = a'.put o.dst v ∧ R.G w' w'' ∧ Φ i v w'' ∧ (i ∈ nw → v = .pointer (some ⟨w'.heap.size, 0, none⟩))) Q)
    (hend : ∀ (f : Nat → Value) w', R.G w w' → (∀ i d, ds[i]? = some d → Φ i (f d) w') → (∀ i j d e, i ∈ nw → j ∈ nw → i ≠ j → ds[i]? = some d → ds[j]? = some e → f d ≠ f e) → wpList P ops Q (τ.filterMap (ops[·]?)) (puts f ds a) w') : (Code.region id ops true).wp P Q a w := by
  simp only [tabOk, Bool.and_eq_true, decide_eq_true_eq] at hok
  obtain ⟨k1, k2, k3⟩ := hok
  have hdst : ∀ i o, i < ds.length → ops[i]? = some o → o.dst = ds[i]? := fun i o hi ho => by
    have := List.all_eq_true.1 k2 i (List.mem_range.2 hi)
    rw [ho] at this
    simpa using this
  refine wp_region_gen (P := P) (fun rem a' w' => R.G w w' ∧ a'.tmps.size = a.tmps.size ∧ (∀ i ∈ rem, i < ds.length) ∧ (∀ i d, ds[i]? = some d → i ∉ rem → Φ i (slot a' d) w') ∧ ∀ i j d e, i ∈ nw → j ∈ nw → i ≠ j → i ∉ rem → j ∉ rem → ds[i]? = some d → ds[j]? = some e → slot a' d ≠ slot a' e) (List.range ds.length) τ hm k1
    ⟨R.drew w, rfl, fun i hi => List.mem_range.1 hi, fun i d hd hn => absurd (List.mem_range.2 (List.getElem?_eq_some_iff.1 hd).1) hn, fun i j d e _ _ _ hn _ hd => absurd (List.mem_range.2 (List.getElem?_eq_some_iff.1 hd).1) hn⟩ ?_ ?_
  · rintro rem i o a' w' hmem hnd ho hag hdep ⟨hg, hs, hlt, hf, hap⟩
    have hil := hlt i hmem
    obtain ⟨d, hd⟩ : ∃ d, ds[i]? = some d := ⟨_, List.getElem?_eq_getElem hil⟩
    have hod := (hdst i o hil ho).trans hd
    have h := hstep i hil o a' w' ho hag hg (fun j dj hj hdj => hf j dj hdj (fun hm => by have := hdep j hm; rw [this] at hj; cases hj))
    have next : ∀ a'' w'', (∃ v, a'' = a'.put o.dst v ∧ R.G w' w'' ∧ Φ i v w'' ∧ (i ∈ nw → v = .pointer (some ⟨w'.heap.size, 0, none⟩))) → ∃ v, a'' = a'.put o.dst v ∧ R.G w w'' ∧ a''.tmps.size = a.tmps.size ∧ (∀ k ∈ rem.erase i, k < ds.length) ∧ (∀ k dk, ds[k]? = some dk → k ∉ rem.erase i → Φ k (slot a'' dk) w'') ∧
        ∀ k j d e, k ∈ nw → j ∈ nw → k ≠ j → k ∉ rem.erase i → j ∉ rem.erase i → ds[k]? = some d → ds[j]? = some e → slot a'' d ≠ slot a'' e := by
      rintro a'' w'' ⟨v, rfl, hg2, hphi, hnew⟩
      have other : ∀ k dk, k ≠ i → ds[k]? = some dk → dk ≠ d := fun k dk e hdk he => e (by
          subst he
          exact (List.getElem?_inj (List.getElem?_eq_some_iff.1 hdk).1 k3).1 (hdk.trans hd.symm))
      have keep : ∀ k dk, k ≠ i → ds[k]? = some dk → slot (a'.put o.dst v) dk = slot a' dk := fun k dk e hdk => by
        rw [hod, slot_put _ (by simpa using fun h => other k dk e hdk h.symm)]
      have self : slot (a'.put o.dst v) d = v := by
        rw [hod, slot_self]
        rw [hs]
        exact of_decide_eq_true (List.all_eq_true.1 hsz d (List.mem_of_getElem? hd))
      have was : ∀ k, k ≠ i → k ∉ rem.erase i → k ∉ rem := fun k e hk hm => hk (hnd.mem_erase_iff.2 ⟨e, hm⟩)
      have dif : ∀ k dk, k ∈ nw → i ∈ nw → k ≠ i → k ∉ rem.erase i → ds[k]? = some dk → slot a' dk ≠ v := fun k dk hk hi e hr hdk he => by
        obtain ⟨g, h1, h2⟩ := hnw k hk _ _ (hf k dk hdk (was k e hr))
        rw [he, hnew hi] at h1
        injection h1 with h1
        injection h1 with h1
        injection h1 with h1
        omega
      refine ⟨v, rfl, R.trans hg hg2, by rw [hod]; simp [Act.put, hs], fun k hk => hlt k (List.mem_of_mem_erase hk), fun k dk hdk hk => ?_, fun k j dk dj hkn hjn hkj hk hj hdk hdj => ?_⟩
      · by_cases e : k = i
        · subst e
          have : dk = d := by rw [hd] at hdk; exact (Option.some.inj hdk).symm
          subst this
          rw [self]
          exact hphi
        · rw [keep k dk e hdk]
          exact hst k _ _ _ (hf k dk hdk (was k e hk)) hg2
      · by_cases e1 : k = i
        · subst e1
          have : dk = d := by rw [hd] at hdk; exact (Option.some.inj hdk).symm
          subst this
          rw [self, keep j dj (Ne.symm hkj) hdj]
          exact (dif j dj hjn hkn (Ne.symm hkj) hj hdj).symm
        · by_cases e2 : j = i
          · subst e2
            have : dj = d := by rw [hd] at hdj; exact (Option.some.inj hdj).symm
            subst this
            rw [self, keep k dk e1 hdk]
            exact dif k dk hkn hjn e1 hk hdk
          · rw [keep k dk e1 hdk, keep j dj e2 hdj]
            exact hap k j dk dj hkn hjn hkj (was k e1 hk) (was j e2 hj) hdk hdj
    unfold stepOf at h ⊢
    split
    · rename_i hw
      rw [if_pos hw] at h
      exact Oper.wp_mono next h
    · rename_i hw
      rw [if_neg hw] at h
      exact next _ _ h
  · rintro a' w' hag ⟨hg, hs, _, hf, hap⟩
    have he := agree_puts hag ds (by
      rw [List.all_eq_true]
      intro i hi
      have hil := List.mem_range.1 hi
      cases ho : ops[i]? with
      | none => rfl
      | some o =>
        obtain ⟨d, hd⟩ : ∃ d, ds[i]? = some d := ⟨_, List.getElem?_eq_getElem hil⟩
        have hod := (hdst i o hil ho).trans hd
        simp only [hod]
        simpa using List.mem_of_getElem? hd)
    rw [he]
    exact hend (slot a') w' hg (fun i d hd => hf i d hd (by simp)) (fun i j d e hi hj hij hd he => hap i j d e hi hj hij (by simp) (by simp) hd he)
end
end Go.HavG
namespace Go.Proofs.Ytbfjebglaimcmaa
open Go.RowKit Go.Hav
/-! An append of one element, in a region that draws. -/
section
variable {B e sz n : Nat} {xs ys : List Value}
/-- All is kept but rows of one type, which keep what they hold, also with one element more. -/
def GM (B e sz n : Nat) (xs ys : List Value) : HavG.Rel where
  G w w' := Below B w w' ∧ (∀ v, w.ownsRow B e sz v n xs → w'.ownsRow B e sz v n xs) ∧ (∀ v, w.ownsRow B e sz v (n + 1) (xs ++ ys) → w'.ownsRow B e sz v (n + 1) (xs ++ ys)) ∧ (∀ v, w.ownsRow B e sz v 0 [] → w'.ownsRow B e sz v 0 []) ∧ (∀ g, Blk w g e ys.toArray → Blk w' g e ys.toArray) ∧ ∀ g t cs, t ≠ e → Blk w g t cs → Blk w' g t cs
  refl _ := ⟨Below.refl _ _, fun _ => id, fun _ => id, fun _ => id, fun _ => id, fun _ _ _ _ => id⟩
  trans h k := ⟨h.1.trans k.1, fun v hm => k.2.1 v (h.2.1 v hm), fun v hm => k.2.2.1 v (h.2.2.1 v hm), fun v hm => k.2.2.2.1 v (h.2.2.2.1 v hm), fun g hm => k.2.2.2.2.1 g (h.2.2.2.2.1 g hm), fun g t cs hn hm => k.2.2.2.2.2 g t cs hn (h.2.2.2.2.2 g t cs hn hm)⟩
  drew _ := ⟨Below.drew (Below.refl _ _), fun _ hm => own_below hm (Below.drew (Below.refl _ _)), fun _ hm => own_below hm (Below.drew (Below.refl _ _)), fun _ hm => own_below hm (Below.drew (Below.refl _ _)), fun _ hm => hm.below (Below.drew (Below.refl _ _)) hm.lt, fun _ _ _ _ hm => hm.below (Below.drew (Below.refl _ _)) hm.lt⟩
theorem GM.below {w w' : World} (hB : B ≤ w.heap.size) (h : Below w.heap.size w w') : (GM B e sz n xs ys).G w w' := ⟨h.mono hB, fun _ hm => own_below hm h, fun _ hm => own_below hm h, fun _ hm => own_below hm h, fun _ hm => hm.below h hm.lt, fun _ _ _ _ hm => hm.below h hm.lt⟩
theorem GM.own {w w' : World} (h : (GM B e sz n xs ys).G w w') {t sz' m : Nat} {v : Value} {zs : List Value} (ht : t ≠ e) (ho : w.ownsRow B t sz' v m zs) : w'.ownsRow B t sz' v m zs := by
  refine ⟨ho.1, ?_⟩
  rcases ho.2 with h1 | ⟨g, c, cur, k1, k2, k3, k4⟩
  · exact .inl h1
  · exact .inr ⟨g, c, cur, k1, k2, h.2.2.2.2.2 g t cur ht k3, k4⟩
theorem append_keepM {P : Program} {w : World} (base : Nat) (t ty e : TypeId) (i : TypeInfo) (z : Value) (size bytes : Nat) (ht : P.underlying t = some (.slice e)) (hi : P.info? e = some i) (hz : i.zero = some z)
    (hsize : i.size = size) (hby : i.bytes = bytes) (hzs : z.cells.size = size) (hsz : 0 < size) (v : Value) (n : Nat) (xs : List Value) (hown : w.ownsRow base e size v n xs)
    (a : Addr) (c : Nat) (ys : List Value) (hl : ys.length = size) (hnews : ∀ j x, ys[j]? = some x → w.cell? (a.add j) = some x) (h1 : ∀ x ∈ ys, x.oneCell' = true) (h63 : n + 1 ≤ 100000) (hb : bytes ≤ 100000) (hbase : base ≤ w.heap.size) :
    ∃ v' w', (Builtin.append_ #[t, t] ty #[v, .slice (some a) 1 c]).run P w = .ok v' w' ∧ w'.ownsRow base e size v' (n + 1) (xs ++ ys) ∧ (GM base e size n xs ys).G w w' := by
  have hbb : (n + 1) * bytes ≤ 140737488355328 := Nat.le_trans (Nat.mul_le_mul h63 hb) (by decide)
  have hl1 : ys.length = 1 * i.size := by rw [hl, hsize, Nat.one_mul]
  obtain ⟨v', w', hrun, hown', hg, _⟩ := run_append_own (P := P) w base t ty e i z size bytes ht hi hz hsize hby hzs hsz v n xs hown a 1 c ys (by rw [hl, Nat.one_mul]) hnews h1 (by unfold maxLen; omega) hbb hbase
  have hB := (Below.refl base w).grown hg hbase (fun k' hk' => (hown.lt k' hk').1)
  refine ⟨v', w', hrun, hown', ?_⟩
  have key : Below w.heap.size w w' → (GM base e size n xs ys).G w w' := GM.below hbase
  rcases hown.2 with ⟨rfl, rfl⟩ | ⟨g, cap, cur, rfl, hbg, hgg, hnc, hcm, hcs, htake⟩
  · have hr := run_append_nil (P := P) w t ty e i z ht hi hz a 1 c ys hl1 hnews (by decide) (by decide) (by rw [hby]; omega)
    obtain ⟨_, rfl⟩ := result_eq hrun hr
    exact key (below_drew_alloc _ _)
  · by_cases hroom : n + 1 ≤ cap
    · have hns : n * size + size ≤ cap * size := by rw [← Nat.succ_mul]; exact Nat.mul_le_mul hroom (Nat.le_refl _)
      have hfit : n * i.size + ys.length ≤ cur.size := by rw [hsize, hcs, hl]; exact hns
      have hr := run_append_room (P := P) w t ty e i ht hi g n cap cur hgg a 1 c ys hl1 hnews h1 hroom hfit
      obtain ⟨_, rfl⟩ := result_eq hrun hr
      rw [hsize] at hB ⊢
      have hset := setRow_heap w g cur (cur.toList.take (n * size) ++ ys ++ cur.toList.drop (n * size + ys.length)).toArray e _ hgg
      have hxl : xs.length = n * size := hown.1
      have hcl : cur.toList.length = cap * size := by simp; omega
      have same : ∀ (g2 : Nat) (cur2 : Array Value) fz, w.heap[g2]? = some (.cells cur2 e fz) → g2 = g → cur2 = cur := fun g2 cur2 fz h e => by
        subst e
        rw [hgg] at h
        injection h with h
        injection h with h _ _
        exact h.symm
      have hsize' : (cur.toList.take (n * size) ++ ys ++ cur.toList.drop (n * size + ys.length)).toArray.size = cur.size := by simp; omega
      refine ⟨hB, fun v1 h2 => ⟨h2.1, ?_⟩, fun v2 h2 => ⟨h2.1, ?_⟩, fun v0 h2 => ⟨h2.1, ?_⟩, fun g1 h2 => ?_, fun g1 t1 cs hn h2 => ?_⟩
      · rcases h2.2 with hh | ⟨g2, cap2, cur2, rfl, hbg2, hgg2, hnc2, hcm2, hcs2, htake2⟩
        · exact .inl hh
        · by_cases hgq : g2 = g
          · have := same g2 cur2 _ hgg2 hgq
            subst this hgq
            refine .inr ⟨g2, cap2, _, rfl, hbg2, hset, hnc2, hcm2, by rw [hsize', hcs2], ?_⟩
            rw [htake]
            have := List.take_left' (l₁ := xs) (l₂ := ys ++ cur2.toList.drop (n * size + ys.length)) hxl
            simpa using this
          · exact .inr ⟨g2, cap2, cur2, rfl, hbg2, (setRow_other w g g2 _ hgq).trans hgg2, hnc2, hcm2, hcs2, htake2⟩
      · rcases h2.2 with ⟨rfl, hh⟩ | ⟨g2, cap2, cur2, rfl, hbg2, hgg2, hnc2, hcm2, hcs2, htake2⟩
        · omega
        · by_cases hgq : g2 = g
          · have := same g2 cur2 _ hgg2 hgq
            subst this hgq
            have e1 : (cur2.toList.take (n * size) ++ ys ++ cur2.toList.drop (n * size + ys.length)).toArray = cur2 := by
              rw [Nat.succ_mul] at htake2
              rw [htake, hl, ← htake2, List.take_append_drop]
            rw [e1] at hset
            exact .inr ⟨g2, cap2, cur2, rfl, hbg2, by rw [e1]; exact hset, hnc2, hcm2, hcs2, htake2⟩
          · exact .inr ⟨g2, cap2, cur2, rfl, hbg2, (setRow_other w g g2 _ hgq).trans hgg2, hnc2, hcm2, hcs2, htake2⟩
      · rcases h2.2 with hh | ⟨g2, cap2, cur2, rfl, hbg2, hgg2, hnc2, hcm2, hcs2, htake2⟩
        · exact .inl hh
        · by_cases hgq : g2 = g
          · have := same g2 cur2 _ hgg2 hgq
            subst this hgq
            exact .inr ⟨g2, cap2, _, rfl, hbg2, hset, hnc2, hcm2, by rw [hsize', hcs2], by simp⟩
          · exact .inr ⟨g2, cap2, cur2, rfl, hbg2, (setRow_other w g g2 _ hgq).trans hgg2, hnc2, hcm2, hcs2, htake2⟩
      · by_cases hgq : g1 = g
        · have hc := same g1 _ _ h2 hgq
          subst hgq
          have h3 : ys.length = cap * size := by rw [← hcl, ← hc]
          have h4 : cap = 1 := by
            rw [hl] at h3
            have : cap * size = 1 * size := by omega
            exact Nat.eq_of_mul_eq_mul_right hsz this
          have h5 : n = 0 := by omega
          subst h5
          have e1 : (cur.toList.take (0 * size) ++ ys ++ cur.toList.drop (0 * size + ys.length)).toArray = ys.toArray := by
            rw [← hc]; simp
          rw [e1] at hset ⊢
          exact hset
        · exact (setRow_other w g g1 _ hgq).trans h2
      · have hgq : g1 ≠ g := fun e => by
          subst e
          have h3 : w.heap[g1]? = some (.cells cs t1 (0, 0)) := h2
          rw [hgg] at h3
          injection h3 with h3
          injection h3 with _ h3 _
          exact hn h3.symm
        exact (setRow_other w g g1 _ hgq).trans h2
    · have holds : ∀ j x, xs[j]? = some x → w.cell? ((⟨g, 0, none⟩ : Addr).add j) = some x := hown.cells (g := g) rfl
      have hr := run_append_grow (P := P) w t ty e i z ht hi hz ⟨g, 0, none⟩ n cap xs (by rw [hsize]; exact hown.1) holds a 1 c ys hl1 hnews (by omega) (by omega) (growslice_fits (by omega) (by rw [hby]; exact hbb))
      obtain ⟨_, rfl⟩ := result_eq hrun hr
      exact key (below_drew_alloc _ _)
end
/-- 'append([]T{}, l...)': a row of its own. -/
theorem append_copy {α : Type} {f : α → List Value} {P : Program} (t ty e : TypeId) (i : TypeInfo) (z : Value) (size bytes : Nat) (ht : P.underlying t = some (.slice e)) (hi : P.info? e = some i) (hz : i.zero = some z)
    (hsize : i.size = size) (hby : i.bytes = bytes) (hzs : z.cells.size = size) (hsz : 0 < size) (hf : ∀ x, (f x).length = size) {w : World} {B R g n c : Nat} {A : Option Addr} {l : List α} (hl : l.length = n) (hr : RdG f size w R A l)
    (hn : n ≤ 1000) (hby2 : bytes ≤ 1000) (hB : B ≤ w.heap.size) (hown : w.ownsRow B e size (.slice (some ⟨g, 0, none⟩) 0 0) 0 []) :
    ∃ v' w', (Builtin.append_ #[t, t] ty #[.slice (some ⟨g, 0, none⟩) 0 0, .slice A n c]).run P w = .ok v' w' ∧ (∃ g c, v' = .slice (some ⟨g, 0, none⟩) n c) ∧ w'.ownsRow B e size v' n (l.flatMap f) ∧ Below w.heap.size w w' := by
  rcases Nat.eq_zero_or_pos n with h0 | h0
  · subst h0
    obtain rfl : l = [] := List.eq_nil_of_length_eq_zero hl
    refine ⟨.slice (some ⟨g, 0, none⟩) 0 0, w, ?_, ⟨g, 0, rfl⟩, hown, Below.refl _ w⟩
    cases A with
    | some a => exact run_append_room_cells w t ty e i ht hi g 0 0 0 a 0 c [] (by simp) (by simp) (by simp) (by omega) (by simp) (by simp)
    | none => simp [Builtin.append_, run_underlying ht, sizeOf, typeInfo, hi, Builtin.lenOf, Builtin.firstCells, storeCells]
  · obtain ⟨b, off, rfl, _, _⟩ := hr 0 (l[0]'(by omega)) (by simp)
    have hln : (l.flatMap f).length = n * size := by rw [flat_len f size hf, hl]
    have hm : (0 + n) * bytes ≤ 1000 * 1000 := Nat.mul_le_mul (by omega) hby2
    obtain ⟨v', w', h1, h2, h3⟩ := run_append_arg_grows (P := P) w t ty e i z size bytes ht hi hz hsize hby hzs hsz ⟨g, 0, none⟩ 0 0 [] (by simp) (by simp) ⟨b, off, none⟩ n c (l.flatMap f) hln (hr.news hf hsz) (by omega) (by unfold maxLen; omega) (by omega)
    rw [Nat.zero_add, List.nil_append] at h2
    refine ⟨v', w', h1, ?_, ?_, (Below.refl w.heap.size w).grown h3 (by simp) (by simp)⟩
    · rcases h2.2 with ⟨_, h⟩ | ⟨g', c', _, h, _⟩
      · omega
      · exact ⟨g', c', h⟩
    · refine ⟨h2.1, ?_⟩
      rcases h2.2 with h | ⟨g', c', cur, k1, k2, k3⟩
      · exact .inl h
      · exact .inr ⟨g', c', cur, k1, by omega, k3⟩
theorem own_set {w : World} {B n c g : Nat} {e : TypeId} {sz : Nat} {xs : List Value} (h : w.ownsRow B e sz (.slice (some ⟨g, 0, none⟩) n c) n xs) (j : Nat) (u : Value) :
    (w.setCell ⟨g, j, none⟩ u).ownsRow B e sz (.slice (some ⟨g, 0, none⟩) n c) n (xs.set j u) := by
  obtain ⟨cur, h1, h2, h3, h4, h5, h6⟩ := own_blk h
  refine ⟨by rw [List.length_set]; exact h.1, .inr ⟨g, c, cur.setIfInBounds j u, rfl, h2, h1.set_ j u, h3, h4, by simp [h5], ?_⟩⟩
  rw [Array.toList_setIfInBounds, List.take_set, h6]
theorem flat_set {α : Type} {f : α → List Value} {sz : Nat} (hsz : ∀ x, (f x).length = sz) {l : List α} {k i : Nat} {x x' : α} {u : Value} (hi : i < sz) (hx : l[k]? = some x) (hf : f x' = (f x).set i u) :
    (l.flatMap f).set (k * sz + i) u = (l.set k x').flatMap f := by
  have hk : k < l.length := (List.getElem?_eq_some_iff.1 hx).1
  have hlen : k * sz + i < l.length * sz := by
    have : (k + 1) * sz ≤ l.length * sz := Nat.mul_le_mul_right sz hk
    rw [Nat.succ_mul] at this
    omega
  apply List.ext_getElem?
  intro j
  have hj : j / sz * sz + j % sz = j := Nat.div_add_mod' j sz
  have hm : j % sz < sz := Nat.mod_lt j (by omega)
  generalize j / sz = a at hj
  generalize j % sz = b at hj hm
  subst hj
  rw [flat_get f sz hsz _ _ _ hm]
  by_cases e : k = a
  · subst e
    rw [List.getElem?_set_self hk]
    show _ = (f x')[b]?
    rw [hf]
    by_cases e2 : i = b
    · subst e2
      rw [List.getElem?_set_self (by rw [flat_len f sz hsz]; exact hlen), List.getElem?_set_self (by rw [hsz]; exact hi)]
    · rw [List.getElem?_set_ne (by omega), List.getElem?_set_ne e2, flat_get f sz hsz _ _ _ hm, hx]
      rfl
  · rw [List.getElem?_set_ne e, List.getElem?_set_ne, flat_get f sz hsz _ _ _ hm]
    intro h
    rcases Nat.lt_trichotomy k a with h1 | h1 | h1
    · have : (k + 1) * sz ≤ a * sz := Nat.mul_le_mul_right sz h1
      rw [Nat.succ_mul] at this
      omega
    · exact e h1
    · have : (a + 1) * sz ≤ k * sz := Nat.mul_le_mul_right sz h1
      rw [Nat.succ_mul] at this
      omega
end Go.Proofs.Ytbfjebglaimcmaa
