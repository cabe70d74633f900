/- Rows of numbers in memory, rows of rows: what an append keeps and makes. A relation for a region that draws its order, copies a row of numbers by append and puts one more behind it. Conditions: lengths are small. -/
import Derived.Test.YtiodmkokpfgkkaaHavTab
import Derived.Test.YtiodmkokpfgkkaaPlainA
import Derived.Test.YtiodmkokpfgkkaaCore
import Derived.Deep.AppendLies
import Derived.Laws.CopyRow

namespace Go.Proofs.Ytiodmkokpfgkkaa
open Go.RowKit Go.Hav
theorem result_eq {α : Type} {r : Result α} {v v' : α} {w w' : World} (h : r = .ok v w) (h' : r = .ok v' w') : v = v' ∧ w = w' := by
  rw [h] at h'
  injection h' with h1 h2
  exact ⟨h1, h2⟩
theorem below_drew_alloc (w : World) (o : Obj) : Below w.heap.size w (w.drew.alloc o) := (Below.drew (Below.refl _ _)).alloc (Nat.le_refl _) _
theorem own_base {w : World} {B B' e size n : Nat} {v : Value} {xs : List Value} (h : w.ownsRow B e size v n xs) (hB : B' ≤ B) : w.ownsRow B' e size v n xs := by
  refine ⟨h.1, ?_⟩
  rcases h.2 with h0 | ⟨g, cap, cur, rfl, hg, rest⟩
  · exact .inl h0
  · exact .inr ⟨g, cap, cur, rfl, Nat.le_trans hB hg, rest⟩
theorem append_oper {P : Program} {o : Oper} {a : Act} {s x : Operand} {t : TypeId} {v u v' : Value} {w w' : World} (ho : o.op = .call { callee := .builtin .append, args := #[s, x], argTypes := #[t, t] }) (hs : a.eval s = v) (hx : a.eval x = u)
    (hr : (Builtin.append_ #[t, t] o.type #[v, u]).run P w = .ok v' w') : (execOp a.eval o).run P w = .ok (.value v') w' := by
  unfold execOp
  simp only [ho, resolve, invoke, builtin, Sem.run_bind, Sem.run_pure, Result.andThen_ok, List.map_toArray, List.map_cons, List.map_nil, hs, hx, hr]
/-- The walk's step at an append of which the outcome is known. -/
theorem wpList_append_run {P : Program} {ops : Array Oper} {rest : List Oper} {o : Oper} {a : Act} {Q : Exit → Act → World → Prop} {w w' : World} {v u v' : Value} (hgd : o.guard = none) (s x : Operand) (t : TypeId)
    (ho : o.op = .call { callee := .builtin .append, args := #[s, x], argTypes := #[t, t] }) (hs : a.eval s = v) (hx : a.eval x = u) (hr : (Builtin.append_ #[t, t] o.type #[v, u]).run P w = .ok v' w')
    (h : wpList P ops Q rest (a.put o.dst v') w') : wpList P ops Q (o :: rest) a w :=
  wpList_plain hgd fun _ hK => by
    unfold Oper.wp
    rw [append_oper ho hs hx hr]
    exact hK _ _ h
theorem own_nil (w : World) (B e size : Nat) : w.ownsRow B e size (.slice none 0 0) 0 [] := ⟨by simp, .inl ⟨rfl, rfl⟩⟩
theorem own_blk {w : World} {B n c g : Nat} {e : TypeId} {sz : Nat} {xs : List Value} (h : w.ownsRow B e sz (.slice (some ⟨g, 0, none⟩) n c) n xs) : ∃ cur, Blk w g e cur ∧ B ≤ g ∧ n ≤ c ∧ c ≤ maxLen ∧ cur.size = c * sz ∧ cur.toList.take (n * sz) = xs := by
  rcases h.2 with ⟨h1, _⟩ | ⟨g', c', cur, h1, h2, h3, h4, h5, h6, h7⟩
  · cases h1
  · cases h1
    exact ⟨cur, h3, h2, h4, h5, h6, h7⟩
/-- An append of a row that is read, wherever it lies, to a row of its own. -/
theorem append_row {α : Type} {f : α → List Value} {P : Program} (t ty e : TypeId) (i : TypeInfo) (z : Value) (size bytes : Nat) (ht : P.underlying t = some (.slice e)) (hi : P.info? e = some i) (hz : i.zero = some z)
    (hsize : i.size = size) (hby : i.bytes = bytes) (hzs : z.cells.size = size) (hsz : 0 < size) (hf : ∀ x, (f x).length = size) (hone : ∀ x, ∀ u ∈ f x, u.oneCell' = true) {w : World} {B R g n c0 k c : Nat} {A : Option Addr} {xs : List Value} {l : List α} (hl : l.length = k)
    (hr : RdG f size w R A l) (hn : n + k ≤ 1000) (hby2 : bytes ≤ 1000) (hB : B ≤ w.heap.size) (hown : w.ownsRow B e size (.slice (some ⟨g, 0, none⟩) n c0) n xs) :
    ∃ v' w', (Builtin.append_ #[t, t] ty #[.slice (some ⟨g, 0, none⟩) n c0, .slice A k c]).run P w = .ok v' w' ∧ (∃ g c, v' = .slice (some ⟨g, 0, none⟩) (n + k) c) ∧ w'.ownsRow B e size v' (n + k) (xs ++ l.flatMap f) ∧ Below B w w' := by
  have hm : (n + k) * bytes ≤ 1000 * 1000 := Nat.mul_le_mul hn hby2
  have fin : ∀ a : Addr, (∀ j u, (l.flatMap f)[j]? = some u → w.cell? (a.add j) = some u) → ∃ v' w', (Builtin.append_ #[t, t] ty #[.slice (some ⟨g, 0, none⟩) n c0, .slice (some a) k c]).run P w = .ok v' w' ∧ (∃ g c, v' = .slice (some ⟨g, 0, none⟩) (n + k) c) ∧ w'.ownsRow B e size v' (n + k) (xs ++ l.flatMap f) ∧ Below B w w' := fun a ha => by
    obtain ⟨v', w', h1, h2, h3, h4⟩ := run_append_own (P := P) w B t ty e i z size bytes ht hi hz hsize hby hzs hsz _ n xs hown a k c (l.flatMap f) (by rw [flat_len f size hf, hl]) ha (fun u hu => by
      obtain ⟨x, _, hx⟩ := List.mem_flatMap.1 hu
      exact hone x u hx) (by unfold maxLen; omega) (by omega) hB
    refine ⟨v', w', h1, ?_, h2, (Below.refl B w).grown h3 hB (fun k' hk' => (hown.lt k' hk').1)⟩
    rcases h2.2 with ⟨h, _⟩ | ⟨g', c', _, h, _⟩
    · have := (h4.1 h).1
      cases this
    · exact ⟨g', c', h⟩
  cases A with
  | some a =>
    cases l with
    | nil => exact fin a (fun j u h => by simp at h)
    | cons x l =>
      obtain ⟨b, off, he, _, _⟩ := hr 0 x rfl
      obtain rfl : a = ⟨b, off, none⟩ := by injection he
      exact fin ⟨b, off, none⟩ (hr.news hf hsz)
  | none =>
    cases l with
    | nil =>
      obtain rfl : k = 0 := by simpa using hl.symm
      refine ⟨.slice (some ⟨g, 0, none⟩) n c0, w, ?_, ⟨g, c0, rfl⟩, by simpa using hown, Below.refl _ _⟩
      obtain ⟨_, _, _, hnc, _⟩ := own_blk hown
      have hnc' : ¬ c0 < n := by omega
      simp [Builtin.append_, run_underlying ht, sizeOf, typeInfo, hi, Builtin.lenOf, Builtin.firstCells, storeCells, hnc']
    | cons x l =>
      obtain ⟨b, off, he, _, _⟩ := hr 0 x rfl
      cases he
end Go.Proofs.Ytiodmkokpfgkkaa
namespace Go.Proofs.Ytiodmkokpfgkkaa
open Go.RowKit Go.Hav
def GL (B : Nat) (t : TypeId) (n : Nat) (u : Value) : HavG.Rel where
  G w w' := Below B w w' ∧ ∀ g cur, B ≤ g → Blk w g t cur → ∃ cur', Blk w' g t cur' ∧ cur'.size = cur.size ∧ ∀ i, cur'[i]? = cur[i]? ∨ (i = n ∧ cur'[i]? = some u)
  refl w := ⟨Below.refl _ _, fun g cur _ h => ⟨cur, h, rfl, fun _ => .inl rfl⟩⟩
  trans := fun h k => ⟨h.1.trans k.1, fun g cur hg hb => by
    obtain ⟨c1, h1, h2, h3⟩ := h.2 g cur hg hb
    obtain ⟨c2, k1, k2, k3⟩ := k.2 g c1 hg h1
    refine ⟨c2, k1, k2.trans h2, fun i => ?_⟩
    rcases k3 i with e | e
    · rw [e]; exact h3 i
    · exact .inr e⟩
  drew w := ⟨Below.drew (Below.refl _ _), fun g cur _ h => ⟨cur, h, rfl, fun _ => .inl rfl⟩⟩
section
variable {B : Nat} {t : TypeId} {n : Nat} {u : Value}
theorem GL.below {w w' : World} (hB : B ≤ w.heap.size) (h : Below w.heap.size w w') : (GL B t n u).G w w' := ⟨h.mono hB, fun _ cur _ hb => ⟨cur, hb.below h hb.lt, rfl, fun _ => .inl rfl⟩⟩
theorem GL.size {w w' : World} (h : (GL B t n u).G w w') (hB : B ≤ w.heap.size) : B ≤ w'.heap.size := Nat.le_trans hB h.1.size
theorem GL.own {w w' : World} (h : (GL B t n u).G w w') {v : Value} {m : Nat} {ys : List Value} (ho : w.ownsRow B t 1 v m ys) (hm : m ≤ n ∨ (m = n + 1 ∧ ys[n]? = some u)) : w'.ownsRow B t 1 v m ys := by
  refine ⟨ho.1, ?_⟩
  rcases ho.2 with h0 | ⟨g, cap, cur, e, hbg, hgg, hnc, hcm, hcs, htake⟩
  · exact .inl h0
  · obtain ⟨cur', k1, k2, k3⟩ := h.2 g cur hbg hgg
    refine .inr ⟨g, cap, cur', e, hbg, k1, hnc, hcm, k2.trans hcs, ?_⟩
    rw [Nat.mul_one] at htake ⊢
    refine List.ext_getElem? fun i => ?_
    rw [List.getElem?_take]
    by_cases hi : i < m
    · rw [if_pos hi, Array.getElem?_toList]
      have hy : ys[i]? = cur[i]? := by rw [← htake, List.getElem?_take, if_pos hi, Array.getElem?_toList]
      rw [hy]
      rcases k3 i with e1 | ⟨e1, e2⟩
      · exact e1
      · subst e1
        rcases hm with hm | ⟨_, hm⟩
        · omega
        · rw [e2, ← hy, hm]
    · rw [if_neg hi, List.getElem?_eq_none (by have := ho.1; omega)]
theorem GL.one {w w' : World} (h : (GL B t n u).G w w') {g : Nat} (hg : B ≤ g) (hb : Blk w g t #[u]) : Blk w' g t #[u] := by
  obtain ⟨cur', k1, k2, k3⟩ := h.2 g _ hg hb
  have : cur' = #[u] := by
    refine Array.ext_getElem? fun i => ?_
    match i with
    | 0 =>
      rcases k3 0 with e | ⟨_, e⟩
      · exact e
      · rw [e]; rfl
    | i + 1 => rw [Array.getElem?_eq_none (by rw [k2]; simp), Array.getElem?_eq_none (by simp)]
  rw [← this]; exact k1
end
section
variable {α : Type} {f : α → List Value} {P : Program} {B g n c k : Nat} {t : TypeId} {u : Value} {w : World} {A : Option Addr} {R : Nat} {l : List α}
/-- A row that is read is put into an empty one that has no room: a copy. -/
theorem append_empty (ts ty : TypeId) (i : TypeInfo) (z : Value) (bytes : Nat) (ht : P.underlying ts = some (.slice t)) (hi : P.info? t = some i) (hz : i.zero = some z) (hsize : i.size = 1) (hby : i.bytes = bytes) (hzs : z.cells.size = 1) (hf : ∀ x, (f x).length = 1)
    (hone : ∀ x, ∀ u ∈ f x, u.oneCell' = true) (hl : l.length = k) (hr : RdG f 1 w R A l) (hk : k ≤ 1000) (hby2 : bytes ≤ 1000) (hB : B ≤ w.heap.size) (hown : w.ownsRow B t 1 (.slice (some ⟨g, 0, none⟩) 0 0) 0 []) :
    ∃ v' w', (Builtin.append_ #[ts, ts] ty #[.slice (some ⟨g, 0, none⟩) 0 0, .slice A k c]).run P w = .ok v' w' ∧ (∃ g c, v' = .slice (some ⟨g, 0, none⟩) k c) ∧ w'.ownsRow B t 1 v' k (l.flatMap f) ∧ (GL B t n u).G w w' := by
  obtain ⟨v', w', h1, ⟨g', c', rfl⟩, h3, h4⟩ := append_row (P := P) ts ty t i z 1 bytes ht hi hz hsize hby hzs (by decide) hf hone (c := c) hl hr (by omega) hby2 hB hown
  rw [Nat.zero_add, List.nil_append] at h3
  refine ⟨_, w', h1, ⟨g', c', by rw [Nat.zero_add]⟩, by rw [Nat.zero_add]; exact h3, ?_⟩
  obtain ⟨cur, hcur, hg, _, _, hcs, _⟩ := own_blk hown
  refine ⟨h4, ?_⟩
  have key : ∀ (a : Addr), (∀ j u, (l.flatMap f)[j]? = some u → w.cell? (a.add j) = some u) → (Builtin.append_ #[ts, ts] ty #[.slice (some ⟨g, 0, none⟩) 0 0, .slice (some a) k c]).run P w = .ok (.slice (some ⟨g', 0, none⟩) (0 + k) c') w' → ∀ g cur, B ≤ g → Blk w g t cur → ∃ cur', Blk w' g t cur' ∧ cur'.size = cur.size ∧ ∀ i, cur'[i]? = cur[i]? ∨ (i = n ∧ cur'[i]? = some u) := by
    intro a hnews hrun
    have hlen : (l.flatMap f).length = k * i.size := by rw [flat_len f 1 hf, hl, hsize]
    by_cases hk0 : k = 0
    · have hfl : l.flatMap f = [] := List.eq_nil_of_length_eq_zero (by rw [hlen, hk0, Nat.zero_mul])
      have hr2 := run_append_room (P := P) w ts ty t i ht hi g 0 0 cur hcur a k c (l.flatMap f) hlen hnews (fun u hu => by rw [hfl] at hu; cases hu) (by omega) (by rw [hfl]; simp)
      obtain ⟨_, rfl⟩ := result_eq hrun hr2
      intro g2 cur2 _ hb2
      by_cases e : g2 = g
      · subst e
        have hc : cur2 = cur := by
          have h := hb2.symm.trans hcur
          injection h with h
          injection h
        subst hc
        refine ⟨_, setRow_heap w g2 cur2 _ t _ hb2, ?_, fun i => .inl ?_⟩
        · rw [hfl]; simp
        · rw [hfl]; simp
      · exact ⟨cur2, (setRow_other w g g2 _ e).trans hb2, rfl, fun _ => .inl rfl⟩
    · have hr2 := run_append_grow (P := P) w ts ty t i z ht hi hz ⟨g, 0, none⟩ 0 0 [] (by simp) (fun j x h => by simp at h) a k c (l.flatMap f) hlen hnews (by omega) (by omega) (growslice_fits (by omega) (by rw [hby, Nat.zero_add]; have := Nat.mul_le_mul hk hby2; omega))
      obtain ⟨_, rfl⟩ := result_eq hrun hr2
      intro g2 cur2 _ hb2
      exact ⟨cur2, hb2.below (below_drew_alloc _ _) hb2.lt, rfl, fun _ => .inl rfl⟩
  cases A with
  | some a =>
    cases l with
    | nil => exact key a (fun j u h => by simp at h) h1
    | cons x l =>
      obtain ⟨b, off, he, _, _⟩ := hr 0 x rfl
      obtain rfl : a = ⟨b, off, none⟩ := by injection he
      exact key _ (hr.news hf (by decide)) h1
  | none =>
    cases l with
    | nil =>
      obtain rfl : k = 0 := by simpa using hl.symm
      have h0 : (Builtin.append_ #[ts, ts] ty #[.slice (some ⟨g, 0, none⟩) 0 0, .slice none 0 c]).run P w = .ok (.slice (some ⟨g, 0, none⟩) 0 0) w := by
        simp [Builtin.append_, run_underlying ht, sizeOf, typeInfo, hi, Builtin.lenOf, Builtin.firstCells, storeCells]
      obtain ⟨_, rfl⟩ := result_eq h1 h0
      exact fun g2 cur2 _ hb2 => ⟨cur2, hb2, rfl, fun _ => .inl rfl⟩
    | cons x l =>
      obtain ⟨b, off, he, _, _⟩ := hr 0 x rfl
      cases he
/-- One number is put behind a row of n. -/
theorem append_next (ts ty : TypeId) (i : TypeInfo) (z : Value) (bytes : Nat) (ht : P.underlying ts = some (.slice t)) (hi : P.info? t = some i) (hz : i.zero = some z) (hsize : i.size = 1) (hby : i.bytes = bytes) (hzs : z.cells.size = 1)
    {v : Value} {xs : List Value} {b : Nat} (h1 : u.oneCell' = true) (hn : n ≤ 1000) (hby2 : bytes ≤ 1000) (hB : B ≤ w.heap.size) (hown : w.ownsRow B t 1 v n xs) (hnew : Blk w b t #[u]) :
    ∃ v' w', (Builtin.append_ #[ts, ts] ty #[v, .slice (some ⟨b, 0, none⟩) 1 1]).run P w = .ok v' w' ∧ w'.ownsRow B t 1 v' (n + 1) (xs ++ [u]) ∧ (GL B t n u).G w w' := by
  have hnews' : ∀ j x, ([u] : List Value)[j]? = some x → w.cell? ((⟨b, 0, none⟩ : Addr).add j) = some x := news_block hnew
  have h1' : ∀ x ∈ [u], x.oneCell' = true := by simpa using h1
  have hbb : (n + 1) * bytes ≤ 140737488355328 := by have := Nat.mul_le_mul (show n + 1 ≤ 1001 by omega) hby2; omega
  obtain ⟨v', w', hrun, hown', hg, _⟩ := run_append_own (P := P) w B ts ty t i z 1 bytes ht hi hz hsize hby hzs (by decide) v n xs hown ⟨b, 0, none⟩ 1 1 [u] rfl hnews' h1' (by unfold maxLen; omega) hbb hB
  refine ⟨v', w', hrun, hown', (Below.refl B w).grown hg hB (fun k' hk' => (hown.lt k' hk').1), ?_⟩
  have key : Below w.heap.size w w' → ∀ g cur, B ≤ g → Blk w g t cur → ∃ cur', Blk w' g t cur' ∧ cur'.size = cur.size ∧ ∀ i, cur'[i]? = cur[i]? ∨ (i = n ∧ cur'[i]? = some u) :=
    fun hbl g cur _ hb => ⟨cur, hb.below hbl hb.lt, rfl, fun _ => .inl rfl⟩
  rcases hown.2 with ⟨rfl, rfl⟩ | ⟨g, cap, cur, rfl, hbg, hgg, hnc, hcm, hcs, htake⟩
  · have hr := run_append_nil (P := P) w ts ty t i z ht hi hz ⟨b, 0, none⟩ 1 1 [u] (by rw [hsize]; rfl) hnews' (by decide) (by decide) (by rw [hby]; omega)
    obtain ⟨_, rfl⟩ := result_eq hrun hr
    exact key (below_drew_alloc _ _)
  · by_cases hroom : n + 1 ≤ cap
    · have hfit : n * i.size + [u].length ≤ cur.size := by rw [hsize, hcs]; simp; omega
      have hr := run_append_room (P := P) w ts ty t i ht hi g n cap cur hgg ⟨b, 0, none⟩ 1 1 [u] (by rw [hsize]; rfl) hnews' h1' hroom hfit
      obtain ⟨_, rfl⟩ := result_eq hrun hr
      rw [hsize, Nat.mul_one]
      have hset := setRow_heap w g cur (cur.toList.take n ++ [u] ++ cur.toList.drop (n + [u].length)).toArray t _ hgg
      intro g2 cur2 _ hb2
      by_cases e : g2 = g
      · subst e
        have hc : cur2 = cur := by
          have h := hb2.symm.trans hgg
          injection h with h
          injection h
        subst hc
        have hcl : cur2.toList.length = cap := by simp; omega
        refine ⟨_, hset, by simp; omega, fun i => ?_⟩
        rw [List.getElem?_toArray, List.append_assoc]
        rcases Nat.lt_trichotomy i n with hi | hi | hi
        · left
          rw [List.getElem?_append_left (by rw [List.length_take]; omega), List.getElem?_take, if_pos hi, Array.getElem?_toList]
        · right
          subst hi
          refine ⟨rfl, ?_⟩
          rw [List.getElem?_append_right (by rw [List.length_take]; omega), List.length_take, Nat.min_eq_left (by omega), Nat.sub_self]
          rfl
        · left
          rw [List.getElem?_append_right (by rw [List.length_take]; omega), List.length_take, Nat.min_eq_left (by omega), List.getElem?_append_right (by simp; omega), List.getElem?_drop]
          simp only [List.length_singleton]
          rw [show n + 1 + (i - n - 1) = i by omega, Array.getElem?_toList]
      · exact ⟨cur2, (setRow_other w g g2 _ e).trans hb2, rfl, fun _ => .inl rfl⟩
    · have holds : ∀ j x, xs[j]? = some x → w.cell? ((⟨g, 0, none⟩ : Addr).add j) = some x := hown.cells (g := g) rfl
      have hr := run_append_grow (P := P) w ts ty t i z ht hi hz ⟨g, 0, none⟩ n cap xs (by rw [hsize]; exact hown.1) holds ⟨b, 0, none⟩ 1 1 [u] (by rw [hsize]; rfl) hnews' (by omega) (by omega) (growslice_fits (by omega) (by rw [hby]; exact hbb))
      obtain ⟨_, rfl⟩ := result_eq hrun hr
      exact key (below_drew_alloc _ _)
end
end Go.Proofs.Ytiodmkokpfgkkaa
namespace Go.Proofs.Ytiodmkokpfgkkaa
open Go.RowKit Go.Hav
/-! Rows of one-cell elements, in blocks of their type; a row of such rows. -/
theorem flat_one {α : Type} (e : α → Value) (L : List α) : L.flatMap (fun x => [e x]) = L.map e := by
  induction L with
  | nil => rfl
  | cons x L ih => rw [List.flatMap_cons, ih]; rfl
def RowN {α : Type} (e : α → Value) (t : TypeId) (w : World) (A : Option Addr) (L : List α) : Prop :=
  ∀ k x, L[k]? = some x → ∃ b off cur, A = some ⟨b, off, none⟩ ∧ Blk w b t cur ∧ cur[off + k]? = some (e x)
def Rows {α : Type} (e : α → Value) (t : TypeId) (w : World) (xs : List Value) (Ls : List (List α)) : Prop :=
  xs.length = Ls.length ∧ ∀ (j : Nat) (L : List α), Ls[j]? = some L → ∃ A c, L.length ≤ c ∧ xs[j]? = some (Value.slice A L.length c) ∧ RowN e t w A L
/-- All below B is kept, and all blocks of another type than t. -/
def KT (B : Nat) (t : TypeId) (w w' : World) : Prop := Below B w w' ∧ ∀ g cs t', t' ≠ t → Blk w g t' cs → Blk w' g t' cs
section
variable {B : Nat} {t : TypeId} {w w' w2 : World}
theorem KT.refl : KT B t w w := ⟨Below.refl _ _, fun _ _ _ _ h => h⟩
theorem KT.trans (h : KT B t w w') (k : KT B t w' w2) : KT B t w w2 := ⟨h.1.trans k.1, fun g cs t' hn hb => k.2 g cs t' hn (h.2 g cs t' hn hb)⟩
theorem KT.below (hB : B ≤ w.heap.size) (h : Below w.heap.size w w') : KT B t w w' := ⟨h.mono hB, fun _ _ _ _ hb => hb.below h hb.lt⟩
theorem KT.own (hB : B ≤ w.heap.size) {v : Value} {n size : Nat} {ys : List Value} (ho : w.ownsRow B t size v n ys) (hg : w.grownBy w' v.ownBlock) : KT B t w w' :=
  ⟨(Below.refl B w).grown hg hB (fun k hk => (ho.lt k hk).1), fun g cs t' hn hb => hb.grown hg (fun e => by
    rcases ho.2 with ⟨rfl, _⟩ | ⟨g', cap, c2, rfl, _, hh, _⟩
    · cases e
    · injection e with e
      subst e
      have := hb.symm.trans hh
      injection this with this
      injection this with _ h4 _
      exact hn h4)⟩
theorem KT.size (h : KT B t w w') : w.heap.size ≤ w'.heap.size := h.1.size
theorem KT.mono {B' : Nat} (h : KT B t w w') (hB : B' ≤ B) : KT B' t w w' := ⟨h.1.mono hB, h.2⟩
end
section
variable {α : Type} {e : α → Value} {t : TypeId} {w w' : World} {A : Option Addr} {L : List α} {xs : List Value} {Ls : List (List α)}
theorem RowN.nil : RowN e t w A [] := fun k x h => by simp at h
theorem RowN.rd (h : RowN e t w A L) : RdG (fun x => [e x]) 1 w w.heap.size A L := by
  intro k x hx
  obtain ⟨b, off, cur, rfl, hb, hc⟩ := h k x hx
  refine ⟨b, off, rfl, hb.lt, fun j u hu => ?_⟩
  match j, hu with
  | 0, hu =>
    simp only [List.getElem?_cons_zero, Option.some.injEq] at hu
    subst hu
    rw [Nat.mul_one, Nat.add_zero, hb.cell]
    exact hc
  | j + 1, hu => simp at hu
theorem RowN.below (h : RowN e t w A L) (hb : Below w.heap.size w w') : RowN e t w' A L := fun k x hx => by
  obtain ⟨b, off, cur, h1, h2, h3⟩ := h k x hx
  exact ⟨b, off, cur, h1, h2.below hb h2.lt, h3⟩
theorem RowN.kt {B : Nat} {t2 : TypeId} (h : RowN e t w A L) (hk : KT B t2 w w') (hne : t ≠ t2) : RowN e t w' A L := fun k x hx => by
  obtain ⟨b, off, cur, h1, h2, h3⟩ := h k x hx
  exact ⟨b, off, cur, h1, hk.2 _ _ _ hne h2, h3⟩
theorem Rows.nil : Rows e t w [] [] := ⟨rfl, fun j L h => by simp at h⟩
theorem Rows.below (h : Rows e t w xs Ls) (hb : Below w.heap.size w w') : Rows e t w' xs Ls := ⟨h.1, fun j L hL => by
  obtain ⟨A, c, h0, h1, h2⟩ := h.2 j L hL
  exact ⟨A, c, h0, h1, h2.below hb⟩⟩
theorem Rows.kt {B : Nat} {t2 : TypeId} (h : Rows e t w xs Ls) (hk : KT B t2 w w') (hne : t ≠ t2) : Rows e t w' xs Ls := ⟨h.1, fun j L hL => by
  obtain ⟨A, c, h0, h1, h2⟩ := h.2 j L hL
  exact ⟨A, c, h0, h1, h2.kt hk hne⟩⟩
theorem Rows.snoc (h : Rows e t w xs Ls) {c : Nat} (hc : L.length ≤ c) (hr : RowN e t w A L) : Rows e t w (xs ++ [.slice A L.length c]) (Ls ++ [L]) := by
  refine ⟨by simp [h.1], fun j M hM => ?_⟩
  rcases Nat.lt_or_ge j Ls.length with hj | hj
  · rw [List.getElem?_append_left hj] at hM
    rw [List.getElem?_append_left (by rw [h.1]; exact hj)]
    exact h.2 j M hM
  · rw [List.getElem?_append_right hj] at hM
    rw [List.getElem?_append_right (by rw [h.1]; exact hj), h.1]
    have hj0 : j - Ls.length = 0 := by
      rcases Nat.eq_zero_or_pos (j - Ls.length) with h | h
      · exact h
      · rw [List.getElem?_eq_none (by simp; omega)] at hM
        cases hM
    rw [hj0] at hM ⊢
    obtain rfl : L = M := by simpa using hM
    exact ⟨A, c, hc, rfl, hr⟩
/-- A row that an append has made. -/
theorem RowN.of_own {B n : Nat} {v : Value} (h : w.ownsRow B t 1 v n (L.flatMap fun x => [e x])) (hn : L.length = n) : ∃ A c, n ≤ c ∧ v = .slice A n c ∧ RowN e t w A L ∧ (0 < n → ∃ g, A = some ⟨g, 0, none⟩ ∧ B ≤ g) := by
  rcases h.2 with ⟨rfl, rfl⟩ | ⟨g, cap, cur, rfl, hg, hh, hnc, _, _, ht⟩
  · exact ⟨none, 0, Nat.le_refl _, rfl, by rw [List.eq_nil_of_length_eq_zero hn]; exact RowN.nil, fun h => by omega⟩
  · refine ⟨_, _, hnc, rfl, fun k x hx => ⟨g, 0, cur, rfl, hh, ?_⟩, fun _ => ⟨g, rfl, hg⟩⟩
    have hk : k < L.length := (List.getElem?_eq_some_iff.1 hx).1
    have : (L.flatMap fun x => [e x])[k]? = some (e x) := by rw [flat_one, List.getElem?_map, hx]; rfl
    rw [← ht, Nat.mul_one, List.getElem?_take, if_pos (by omega), Array.getElem?_toList] at this
    rw [Nat.zero_add]
    exact this
end
end Go.Proofs.Ytiodmkokpfgkkaa
