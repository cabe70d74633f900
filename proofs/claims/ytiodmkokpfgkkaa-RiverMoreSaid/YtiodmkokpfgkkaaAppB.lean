/- Rows of one's own, and rows of numbers. General pieces: a row that is copied to one of its own; rows that are set; blocks of two types; a box of a river that is stored. No condition but that things lie so. An append to a row of one's own, with the block in which it lies behind: the same, or a new one. No condition but that things lie so. -/
import Derived.Test.YtiodmkokpfgkkaaHavTab
import Derived.Test.YtiodmkokpfgkkaaPlainA
import Derived.Test.YtiodmkokpfgkkaaCore
import Derived.Deep.AppendLies
import Derived.Laws.CopyRow
import Derived.Test.YtiodmkokpfgkkaaHavV0
import Derived.Test.YtiodmkokpfgkkaaClashX
namespace Go.Proofs.Ytiodmkokpfgkkaa
open Go.RowKit Go.Hav
theorem result_eq {α : Type} {r : Result α} {v v' : α} {w w' : World} (h : r = .ok v w) (h' : r = .ok v' w') : v = v' ∧ w = w' := by
 rw [h] at h'
 injection h' with h1 h2
 exact ⟨h1, h2⟩
theorem below_drew_alloc (w : World) (o : Obj) : Below w.heap.size w (w.drew.alloc o) := (Below.drew (Below.refl _ _)).alloc (Nat.le_refl _) _
theorem own_base {w : World} {B B' e size n : Nat} {v : Value} {xs : List Value} (h : w.ownsRow B e size v n xs) (hB : B' ≤ B) : w.ownsRow B' e size v n xs := by
 refine ⟨h.1, ?_⟩
 rcases h.2 with h0 | ⟨g, cap, cur, rfl, hg, rest⟩
 ·exact .inl h0
 ·exact .inr ⟨g, cap, cur, rfl, Nat.le_trans hB hg, rest⟩
theorem append_oper {P : Program} {o : Oper} {a : Act} {s x : Operand} {t : TypeId} {v u v' : Value} {w w' : World} (ho : o.op = .call { callee := .builtin .append, args := #[s, x], argTypes := #[t, t] }) (hs : a.eval s = v) (hx : a.eval x = u)
  (hr : (Builtin.append_ #[t, t] o.type #[v, u]).run P w = .ok v' w') : (execOp a.eval o).run P w = .ok (.value v') w' := by
 unfold execOp
 simp only [ho, resolve, invoke, builtin, Sem.run_bind, Sem.run_pure, Result.andThen_ok, List.map_toArray, List.map_cons, List.map_nil, hs, hx, hr]
theorem own_nil (w : World) (B e size : Nat) : w.ownsRow B e size (.slice none 0 0) 0 [] := ⟨by simp, .inl ⟨rfl, rfl⟩⟩
theorem own_blk {w : World} {B n c g : Nat} {e : TypeId} {sz : Nat} {xs : List Value} (h : w.ownsRow B e sz (.slice (some ⟨g, 0, none⟩) n c) n xs) : ∃ cur, Blk w g e cur ∧ B ≤ g ∧ n ≤ c ∧ c ≤ maxLen ∧ cur.size = c * sz ∧ cur.toList.take (n * sz) = xs := by
 rcases h.2 with ⟨h1, _⟩ | ⟨g', c', cur, h1, h2, h3, h4, h5, h6, h7⟩
 ·cases h1
 ·cases h1
  exact ⟨cur, h3, h2, h4, h5, h6, h7⟩
/-! Rows of one-cell elements, in blocks of their type; a row of such rows. -/
theorem flat_one {α : Type} (e : α → Value) (L : List α) : L.flatMap (fun x => [e x]) = L.map e := by
 induction L with
 | nil => rfl
 | cons x L ih => rw [List.flatMap_cons, ih]; rfl
def RowN {α : Type} (e : α → Value) (t : TypeId) (w : World) (A : Option Addr) (L : List α) : Prop :=
 ∀ k x, L[k]? = some x → ∃ b off cur, A = some ⟨b, off, none⟩ ∧ Blk w b t cur ∧ cur[off + k]? = some (e x)
def Rows {α : Type} (e : α → Value) (t : TypeId) (w : World) (xs : List Value) (Ls : List (List α)) : Prop :=
 xs.length = Ls.length ∧ ∀ (j : Nat) (L : List α), Ls[j]? = some L → ∃ A c, L.length ≤ c ∧ xs[j]? = some (Value.slice A L.length c) ∧ RowN e t w A L
/-- All below B is kept, and all blocks of another type than t. -/
def KT (B : Nat) (t : TypeId) (w w' : World) : Prop := Below B w w' ∧ ∀ g cs t', t' ≠ t → Blk w g t' cs → Blk w' g t' cs
section
variable {B : Nat} {t : TypeId} {w w' w2 : World}
theorem KT.refl : KT B t w w := ⟨Below.refl _ _, fun _ _ _ _ h => h⟩
theorem KT.trans (h : KT B t w w') (k : KT B t w' w2) : KT B t w w2 := ⟨h.1.trans k.1, fun g cs t' hn hb => k.2 g cs t' hn (h.2 g cs t' hn hb)⟩
theorem KT.below (hB : B ≤ w.heap.size) (h : Below w.heap.size w w') : KT B t w w' := ⟨h.mono hB, fun _ _ _ _ hb => hb.below h hb.lt⟩
theorem KT.own (hB : B ≤ w.heap.size) {v : Value} {n size : Nat} {ys : List Value} (ho : w.ownsRow B t size v n ys) (hg : w.grownBy w' v.ownBlock) : KT B t w w' :=
 ⟨(Below.refl B w).grown hg hB (fun k hk => (ho.lt k hk).1), fun g cs t' hn hb => hb.grown hg (fun e => by
  rcases ho.2 with ⟨rfl, _⟩ | ⟨g', cap, c2, rfl, _, hh, _⟩
  ·cases e
  ·injection e with e
   subst e
   have := hb.symm.trans hh
   injection this with this
   injection this with _ h4 _
   exact hn h4)⟩
theorem KT.size (h : KT B t w w') : w.heap.size ≤ w'.heap.size := h.1.size
theorem KT.mono {B' : Nat} (h : KT B t w w') (hB : B' ≤ B) : KT B' t w w' := ⟨h.1.mono hB, h.2⟩
end
section
variable {α : Type} {e : α → Value} {t : TypeId} {w w' : World} {A : Option Addr} {L : List α} {xs : List Value} {Ls : List (List α)}
theorem RowN.nil : RowN e t w A [] := fun k x h => by simp at h
theorem RowN.rd (h : RowN e t w A L) : RdG (fun x => [e x]) 1 w w.heap.size A L := by
 intro k x hx
 obtain ⟨b, off, cur, rfl, hb, hc⟩ := h k x hx
 refine ⟨b, off, rfl, hb.lt, fun j u hu => ?_⟩
 match j, hu with
 | 0, hu =>
  simp only [List.getElem?_cons_zero, Option.some.injEq] at hu
  subst hu
  rw [Nat.mul_one, Nat.add_zero, hb.cell]
  exact hc
 | j + 1, hu => simp at hu
theorem RowN.below (h : RowN e t w A L) (hb : Below w.heap.size w w') : RowN e t w' A L := fun k x hx => by
 obtain ⟨b, off, cur, h1, h2, h3⟩ := h k x hx
 exact ⟨b, off, cur, h1, h2.below hb h2.lt, h3⟩
theorem RowN.kt {B : Nat} {t2 : TypeId} (h : RowN e t w A L) (hk : KT B t2 w w') (hne : t ≠ t2) : RowN e t w' A L := fun k x hx => by
 obtain ⟨b, off, cur, h1, h2, h3⟩ := h k x hx
 exact ⟨b, off, cur, h1, hk.2 _ _ _ hne h2, h3⟩
/-- A row that an append has made. -/
theorem RowN.of_own {B n : Nat} {v : Value} (h : w.ownsRow B t 1 v n (L.flatMap fun x => [e x])) (hn : L.length = n) : ∃ A c, n ≤ c ∧ v = .slice A n c ∧ RowN e t w A L ∧ (0 < n → ∃ g, A = some ⟨g, 0, none⟩ ∧ B ≤ g) := by
 rcases h.2 with ⟨rfl, rfl⟩ | ⟨g, cap, cur, rfl, hg, hh, hnc, _, _, ht⟩
 ·exact ⟨none, 0, Nat.le_refl _, rfl, by rw [List.eq_nil_of_length_eq_zero hn]; exact RowN.nil, fun h => by omega⟩
 ·refine ⟨_, _, hnc, rfl, fun k x hx => ⟨g, 0, cur, rfl, hh, ?_⟩, fun _ => ⟨g, rfl, hg⟩⟩
  have hk : k < L.length := (List.getElem?_eq_some_iff.1 hx).1
  have : (L.flatMap fun x => [e x])[k]? = some (e x) := by rw [flat_one, List.getElem?_map, hx]; rfl
  rw [← ht, Nat.mul_one, List.getElem?_take, if_pos (by omega), Array.getElem?_toList] at this
  rw [Nat.zero_add]
  exact this
end
end Go.Proofs.Ytiodmkokpfgkkaa
namespace Go.Proofs.Ytiodmkokpfgkkaa
open Go.RowKit Go.Hav Go.Shelf Go.Sq
theorem blk_ne {K : World} {g g' : Nat} {t t' : TypeId} {cs cs' : Array Value} (h : Blk K g t cs) (h' : Blk K g' t' cs') (ht : t ≠ t') : g ≠ g' := fun e => by
 subst e
 have h1 : K.heap[g]? = some (.cells cs t (0, 0)) := h
 have h2 : K.heap[g]? = some (.cells cs' t' (0, 0)) := h'
 rw [h1] at h2
 injection h2 with h2
 injection h2 with _ h2 _
 exact ht h2
/-- 'append([]T{}, l...)': a row of its own. -/
theorem append_copy {α : Type} {f : α → List Value} {P : Program} (t ty e : TypeId) (i : TypeInfo) (z : Value) (size bytes : Nat) (ht : P.underlying t = some (.slice e)) (hi : P.info? e = some i) (hz : i.zero = some z)
  (hsize : i.size = size) (hby : i.bytes = bytes) (hzs : z.cells.size = size) (hsz : 0 < size) (hf : ∀ x, (f x).length = size) {w : World} {B R g n c : Nat} {A : Option Addr} {l : List α} (hl : l.length = n) (hr : RdG f size w R A l)
  (hn : n ≤ 1000) (hby2 : bytes ≤ 1000) (hB : B ≤ w.heap.size) (hown : w.ownsRow B e size (.slice (some ⟨g, 0, none⟩) 0 0) 0 []) :
  ∃ v' w', (Builtin.append_ #[t, t] ty #[.slice (some ⟨g, 0, none⟩) 0 0, .slice A n c]).run P w = .ok v' w' ∧ (∃ g c, v' = .slice (some ⟨g, 0, none⟩) n c ∧ (0 < n → w.heap.size ≤ g)) ∧ w'.ownsRow B e size v' n (l.flatMap f) ∧ Below w.heap.size w w' := by
 rcases Nat.eq_zero_or_pos n with h0 | h0
 ·subst h0
  obtain rfl : l = [] := List.eq_nil_of_length_eq_zero hl
  refine ⟨.slice (some ⟨g, 0, none⟩) 0 0, w, ?_, ⟨g, 0, rfl, fun h => absurd h (by omega)⟩, hown, Below.refl _ w⟩
  cases A with
  | some a => exact run_append_room_cells w t ty e i ht hi g 0 0 0 a 0 c [] (by simp) (by simp) (by simp) (by omega) (by simp) (by simp)
  | none => simp [Builtin.append_, run_underlying ht, sizeOf, typeInfo, hi, Builtin.lenOf, Builtin.firstCells, storeCells]
 ·obtain ⟨b, off, rfl, _, _⟩ := hr 0 (l[0]'(by omega)) (by simp)
  have hln : (l.flatMap f).length = n * size := by rw [flat_len f size hf, hl]
  have hm : (0 + n) * bytes ≤ 1000 * 1000 := Nat.mul_le_mul (by omega) hby2
  obtain ⟨v', w', h1, h2, h3⟩ := run_append_arg_grows (P := P) w t ty e i z size bytes ht hi hz hsize hby hzs hsz ⟨g, 0, none⟩ 0 0 [] (by simp) (by simp) ⟨b, off, none⟩ n c (l.flatMap f) hln (hr.news hf hsz) (by omega) (by unfold maxLen; omega) (by omega)
  rw [Nat.zero_add, List.nil_append] at h2
  refine ⟨v', w', h1, ?_, ?_, (Below.refl w.heap.size w).grown h3 (by simp) (by simp)⟩
  ·rcases h2.2 with ⟨_, h⟩ | ⟨g', c', _, h, hg', _⟩
   ·omega
   ·exact ⟨g', c', h, fun _ => by assumption⟩
  ·refine ⟨h2.1, ?_⟩
   rcases h2.2 with h | ⟨g', c', cur, k1, k2, k3⟩
   ·exact .inl h
   ·exact .inr ⟨g', c', cur, k1, by omega, k3⟩
theorem own_set {w : World} {B n c g : Nat} {e : TypeId} {sz : Nat} {xs : List Value} (h : w.ownsRow B e sz (.slice (some ⟨g, 0, none⟩) n c) n xs) (j : Nat) (u : Value) :
  (w.setCell ⟨g, j, none⟩ u).ownsRow B e sz (.slice (some ⟨g, 0, none⟩) n c) n (xs.set j u) := by
 obtain ⟨cur, h1, h2, h3, h4, h5, h6⟩ := own_blk h
 refine ⟨by rw [List.length_set]; exact h.1, .inr ⟨g, c, cur.setIfInBounds j u, rfl, h2, h1.set_ j u, h3, h4, by simp [h5], ?_⟩⟩
 rw [Array.toList_setIfInBounds, List.take_set, h6]
theorem flat_set {α : Type} {f : α → List Value} {sz : Nat} (hsz : ∀ x, (f x).length = sz) {l : List α} {k i : Nat} {x x' : α} {u : Value} (hi : i < sz) (hx : l[k]? = some x) (hf : f x' = (f x).set i u) :
  (l.flatMap f).set (k * sz + i) u = (l.set k x').flatMap f := by
 have hk : k < l.length := (List.getElem?_eq_some_iff.1 hx).1
 have hlen : k * sz + i < l.length * sz := by
  have : (k + 1) * sz ≤ l.length * sz := Nat.mul_le_mul_right sz hk
  rw [Nat.succ_mul] at this
  omega
 apply List.ext_getElem?
 intro j
 have hj : j / sz * sz + j % sz = j := Nat.div_add_mod' j sz
 have hm : j % sz < sz := Nat.mod_lt j (by omega)
 generalize j / sz = a at hj
 generalize j % sz = b at hj hm
 subst hj
 rw [flat_get f sz hsz _ _ _ hm]
 by_cases e : k = a
 ·subst e
  rw [List.getElem?_set_self hk]
  show _ = (f x')[b]?
  rw [hf]
  by_cases e2 : i = b
  ·subst e2
   rw [List.getElem?_set_self (by rw [flat_len f sz hsz]; exact hlen), List.getElem?_set_self (by rw [hsz]; exact hi)]
  ·rw [List.getElem?_set_ne (by omega), List.getElem?_set_ne e2, flat_get f sz hsz _ _ _ hm, hx]
   rfl
 ·rw [List.getElem?_set_ne e, List.getElem?_set_ne, flat_get f sz hsz _ _ _ hm]
  intro h
  rcases Nat.lt_trichotomy k a with h1 | h1 | h1
  ·have : (k + 1) * sz ≤ a * sz := Nat.mul_le_mul_right sz h1
   rw [Nat.succ_mul] at this
   omega
  ·exact e h1
  ·have : (a + 1) * sz ≤ k * sz := Nat.mul_le_mul_right sz h1
   rw [Nat.succ_mul] at this
   omega
/-- A relation: blocks but some are kept, and a family of facts. -/
def TP {ι : Type} (S : Nat → Prop) (F : ι → World → Prop) (hF : ∀ i w w', Below w.heap.size w w' → F i w → F i w') : HavG.Rel where
 G w w' := Turn S w w' ∧ ∀ i, F i w → F i w'
 refl _ := ⟨Turn.refl _ _, fun _ h => h⟩
 trans h k := ⟨h.1.trans k.1, fun i x => k.2 i (h.2 i x)⟩
 drew w := ⟨Turn.of_below (Below.drew (Below.refl _ _)), fun i x => hF i w _ (Below.drew (Below.refl _ _)) x⟩
theorem TP.below {ι : Type} {S : Nat → Prop} {F : ι → World → Prop} {hF : ∀ i w w', Below w.heap.size w w' → F i w → F i w'} {w w' : World} (h : Below w.heap.size w w') : (TP S F hF).G w w' := ⟨Turn.of_below h, fun i x => hF i w w' h x⟩
theorem own_turn {w w' : World} {B e size n : Nat} {v : Value} {xs : List Value} {S : Nat → Prop} (h : w.ownsRow B e size v n xs) (t : Turn S w w') (hs : ∀ g, v.ownBlock = some g → ¬ S g) : w'.ownsRow B e size v n xs := by
 refine ⟨h.1, ?_⟩
 rcases h.2 with h0 | ⟨g, cap, cur, rfl, hg, hh, rest⟩
 ·exact .inl h0
 ·exact .inr ⟨g, cap, cur, rfl, hg, (t.block g (Array.getElem?_eq_some_iff.1 hh).1 (hs g rfl)).trans hh, rest⟩
theorem rd_drop {α : Type} {f : α → List Value} {sz : Nat} {w : World} {R : Nat} {l : List α} {b off n c k : Nat} (h : RdG f sz w R (some ⟨b, off, none⟩) l) (hl : l.length = n) (hc : n ≤ c) (hk : k < n) :
  ∃ b' off', (if c = k + 1 then some (⟨b, off, none⟩ : Addr) else (some (⟨b, off, none⟩ : Addr)).map (·.add ((k + 1) * sz))) = some ⟨b', off', none⟩ ∧ RdG f sz w R (some ⟨b', off', none⟩) (l.drop (k + 1)) := by
 by_cases e : c = k + 1
 ·rw [if_pos e]
  refine ⟨b, off, rfl, fun j x hx => ?_⟩
  rw [List.getElem?_drop] at hx
  have := (List.getElem?_eq_some_iff.1 hx).1
  omega
 ·rw [if_neg e]
  have ha : (some (⟨b, off, none⟩ : Addr)).map (·.add ((k + 1) * sz)) = some ⟨b, off + (k + 1) * sz, none⟩ := by
   simp only [Option.map_some, Addr.add]
   by_cases hz : (k + 1) * sz = 0
   ·rw [if_pos hz, hz]; rfl
   ·rw [if_neg hz]
  refine ⟨b, off + (k + 1) * sz, ha, fun j x hx => ?_⟩
  rw [List.getElem?_drop] at hx
  obtain ⟨b', off', e1, e2, e3⟩ := h _ x hx
  obtain ⟨rfl, rfl⟩ : b' = b ∧ off' = off := by injection e1 with e1; injection e1 with a1 a2; exact ⟨a1.symm, a2.symm⟩
  refine ⟨b', _, rfl, e2, fun i u hu => ?_⟩
  have := e3 i u hu
  rw [show off' + ((k + 1 + j) * sz + i) = off' + (k + 1) * sz + (j * sz + i) by rw [Nat.add_mul]; omega] at this
  exact this
/-- 'append(l[:k], m[k+1:]...)', where l is a row of its own and a copy of m: in place. -/
theorem erase_run {α : Type} {f : α → List Value} {P : Program} (t ty e : TypeId) (i : TypeInfo) (sz : Nat) (ht : P.underlying t = some (.slice e)) (hi : P.info? e = some i) (hsize : i.size = sz) (hsz : 0 < sz) (hf : ∀ x, (f x).length = sz) (hone : ∀ x, ∀ u ∈ f x, u.oneCell' = true)
  {w : World} {B R g n cz b off c k : Nat} {l : List α} (ho : w.ownsRow B e sz (.slice (some ⟨g, 0, none⟩) n cz) n (l.flatMap f)) (hr : RdG f sz w R (some ⟨b, off, none⟩) l) (hl : l.length = n) (hk : k < n) (hc : n ≤ c) :
  ∃ w', (Builtin.append_ #[t, t] ty #[.slice (some ⟨g, 0, none⟩) k cz, .slice (if c = k + 1 then some (⟨b, off, none⟩ : Addr) else (some (⟨b, off, none⟩ : Addr)).map (·.add ((k + 1) * sz))) (n - (k + 1)) (c - (k + 1))]).run P w = .ok (.slice (some ⟨g, 0, none⟩) (n - 1) cz) w' ∧
   w'.ownsRow B e sz (.slice (some ⟨g, 0, none⟩) (n - 1) cz) (n - 1) ((l.eraseIdx k).flatMap f) ∧ Turn (fun x => x = g) w w' := by
 obtain ⟨b', off', e1, hd⟩ := rd_drop (c := c) hr hl hc hk
 rw [e1]
 obtain ⟨cur, hg, h2, h3, h4, h5, h6⟩ := own_blk ho
 have hdl : (l.drop (k + 1)).length = n - (k + 1) := by rw [List.length_drop, hl]
 have hlen : ((l.drop (k + 1)).flatMap f).length = (n - (k + 1)) * i.size := by rw [flat_len f sz hf, hdl, hsize]
 have hnk : k * sz + (n - (k + 1)) * sz = (n - 1) * sz := by rw [← Nat.add_mul]; congr 1; omega
 have hle : (n - 1) * sz ≤ n * sz := Nat.mul_le_mul_right sz (by omega)
 have hnc : n * sz ≤ cz * sz := Nat.mul_le_mul_right sz h3
 have hks : k * sz ≤ n * sz := Nat.mul_le_mul_right sz (by omega)
 have hr2 := run_append_room (P := P) w t ty e i ht hi g k cz cur hg ⟨b', off', none⟩ (n - (k + 1)) (c - (k + 1)) ((l.drop (k + 1)).flatMap f) hlen (hd.news hf hsz)
  (fun u hu => by obtain ⟨x, _, hx⟩ := List.mem_flatMap.1 hu; exact hone x u hx) (by omega) (by rw [hlen, hsize, h5]; omega)
 rw [show k + (n - (k + 1)) = n - 1 by omega] at hr2
 refine ⟨_, hr2, ⟨?_, .inr ⟨g, cz, _, rfl, h2, setRow_heap w g cur _ e _ hg, by omega, h4, ?_, ?_⟩⟩, Turn.of_grown (row := some g) ⟨rfl, rfl, rfl, by simp [World.setRow], fun q _ hq => setRow_other w g q _ (fun e => hq (by rw [e]))⟩ (fun q e _ => by cases e; rfl)⟩
 ·rw [flat_len f sz hf, List.length_eraseIdx, if_pos (by omega), hl]
 ·simp only [List.size_toArray, List.length_append, List.length_take, List.length_drop, Array.length_toList, hlen, hsize]
  omega
 ·rw [hsize, List.take_append_of_le_length (by simp only [List.length_append, List.length_take, Array.length_toList, hlen, hsize]; omega)]
  rw [List.take_of_length_le (by simp only [List.length_append, List.length_take, Array.length_toList, hlen, hsize]; omega)]
  rw [List.eraseIdx_eq_take_drop_succ, List.flatMap_append]
  congr 1
  have e3 : cur.toList.take (k * sz) = (cur.toList.take (n * sz)).take (k * sz) := by rw [List.take_take, Nat.min_eq_left hks]
  rw [e3, h6]
  conv => lhs; rw [← List.take_append_drop k l, List.flatMap_append]
  rw [List.take_append_of_le_length (by rw [flat_len f sz hf, List.length_take]; rw [Nat.min_eq_left (by omega)]; exact Nat.le_refl _)]
  rw [List.take_of_length_le (by rw [flat_len f sz hf, List.length_take, Nat.min_eq_left (by omega)]; exact Nat.le_refl _)]
end Go.Proofs.Ytiodmkokpfgkkaa
namespace Go.Proofs.Ytiodmkokpfgkkaa
open Go.RowKit Go.Hav Go.Shelf Go.Sq
theorem append_at {P : Program} {w : World} (base : Nat) (t ty e : TypeId) (i : TypeInfo) (z : Value) (size bytes : Nat) (ht : P.underlying t = some (.slice e)) (hi : P.info? e = some i) (hz : i.zero = some z)
  (hsize : i.size = size) (hby : i.bytes = bytes) (hzs : z.cells.size = size) (hsz : 0 < size) (v : Value) (n : Nat) (xs : List Value) (hown : w.ownsRow base e size v n xs)
  (a : Addr) (c : Nat) (ys : List Value) (hl : ys.length = size) (hnews : ∀ j x, ys[j]? = some x → w.cell? (a.add j) = some x) (h1 : ∀ x ∈ ys, x.oneCell' = true) (h63 : n + 1 ≤ 100000) (hb : bytes ≤ 100000) (hbase : base ≤ w.heap.size) :
  ∃ (g cp : Nat) (w' : World), (Builtin.append_ #[t, t] ty #[v, .slice (some a) 1 c]).run P w = .ok (.slice (some ⟨g, 0, none⟩) (n + 1) cp) w' ∧ w'.ownsRow base e size (.slice (some ⟨g, 0, none⟩) (n + 1) cp) (n + 1) (xs ++ ys) ∧
   Turn (fun b => v.ownBlock = some b) w w' ∧ (v.ownBlock = some g ∨ w.heap.size ≤ g) := by
 have hbb : (n + 1) * bytes ≤ 140737488355328 := Nat.le_trans (Nat.mul_le_mul h63 hb) (by decide)
 have hl1 : ys.length = 1 * i.size := by rw [hl, hsize, Nat.one_mul]
 obtain ⟨v', w', hrun, hown', hg, _⟩ := run_append_own (P := P) w base t ty e i z size bytes ht hi hz hsize hby hzs hsz v n xs hown a 1 c ys (by rw [hl, Nat.one_mul]) hnews h1 (by unfold maxLen; omega) hbb hbase
 have hT : Turn (fun b => v.ownBlock = some b) w w' := Turn.of_grown hg (fun r e _ => e)
 suffices hs : ∃ g cp, v' = .slice (some ⟨g, 0, none⟩) (n + 1) cp ∧ (v.ownBlock = some g ∨ w.heap.size ≤ g) by
  obtain ⟨g, cp, e, h⟩ := hs
  subst e
  exact ⟨g, cp, w', hrun, hown', hT, h⟩
 rcases hown.2 with ⟨rfl, rfl⟩ | ⟨g, cap, cur, rfl, hbg, hgg, hnc, hcm, hcs, htake⟩
 ·have hr := run_append_nil (P := P) w t ty e i z ht hi hz a 1 c ys hl1 hnews (by decide) (by decide) (by rw [hby]; omega)
  obtain ⟨rfl, _⟩ := result_eq hrun hr
  exact ⟨w.heap.size, _, by rw [Nat.zero_add], .inr (Nat.le_refl _)⟩
 ·by_cases hroom : n + 1 ≤ cap
  ·have hns : n * size + size ≤ cap * size := by rw [← Nat.succ_mul]; exact Nat.mul_le_mul hroom (Nat.le_refl _)
   have hr := run_append_room (P := P) w t ty e i ht hi g n cap cur hgg a 1 c ys hl1 hnews h1 hroom (by rw [hsize, hcs, hl]; exact hns)
   obtain ⟨rfl, _⟩ := result_eq hrun hr
   exact ⟨g, cap, rfl, .inl rfl⟩
  ·have holds : ∀ j x, xs[j]? = some x → w.cell? ((⟨g, 0, none⟩ : Addr).add j) = some x := hown.cells (g := g) rfl
   have hr := run_append_grow (P := P) w t ty e i z ht hi hz ⟨g, 0, none⟩ n cap xs (by rw [hsize]; exact hown.1) holds a 1 c ys hl1 hnews (by omega) (by omega) (growslice_fits (by omega) (by rw [hby]; exact hbb))
   obtain ⟨rfl, _⟩ := result_eq hrun hr
   exact ⟨w.heap.size, _, rfl, .inr (Nat.le_refl _)⟩
theorem own_at {w : World} {B n c g e sz : Nat} {xs : List Value} (h : w.ownsRow B e sz (.slice (some ⟨g, 0, none⟩) n c) n xs) (j : Nat) (x : Value) (hx : xs[j]? = some x) : w.cell? ⟨g, j, none⟩ = some x := by
 have := h.cells (g := g) rfl j x hx
 unfold Addr.add at this
 split at this
 ·rename_i hz; subst hz; exact this
 ·simpa using this
end Go.Proofs.Ytiodmkokpfgkkaa
