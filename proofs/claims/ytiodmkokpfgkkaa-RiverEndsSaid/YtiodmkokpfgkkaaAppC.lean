/- General pieces: a row that is copied to one of its own; rows that are set; blocks of two types; a box of a river that is stored. No condition but that things lie so. -/
import Derived.Test.YtiodmkokpfgkkaaRowsA
import Derived.Test.YtiodmkokpfgkkaaHavV0
import Derived.Test.YtiodmkokpfgkkaaClashX
namespace Go.Proofs.Ytiodmkokpfgkkaa
open Go.RowKit Go.Hav Go.Shelf Go.Sq
theorem blk_ne {K : World} {g g' : Nat} {t t' : TypeId} {cs cs' : Array Value} (h : Blk K g t cs) (h' : Blk K g' t' cs') (ht : t ≠ t') : g ≠ g' := fun e => by
 subst e
 have h1 : K.heap[g]? = some (.cells cs t (0, 0)) := h
 have h2 : K.heap[g]? = some (.cells cs' t' (0, 0)) := h'
 rw [h1] at h2
 injection h2 with h2
 injection h2 with _ h2 _
 exact ht h2
/-- 'append([]T{}, l...)': a row of its own. -/
theorem append_copy {α : Type} {f : α → List Value} {P : Program} (t ty e : TypeId) (i : TypeInfo) (z : Value) (size bytes : Nat) (ht : P.underlying t = some (.slice e)) (hi : P.info? e = some i) (hz : i.zero = some z)
  (hsize : i.size = size) (hby : i.bytes = bytes) (hzs : z.cells.size = size) (hsz : 0 < size) (hf : ∀ x, (f x).length = size) {w : World} {B R g n c : Nat} {A : Option Addr} {l : List α} (hl : l.length = n) (hr : RdG f size w R A l)
  (hn : n ≤ 1000) (hby2 : bytes ≤ 1000) (hB : B ≤ w.heap.size) (hown : w.ownsRow B e size (.slice (some ⟨g, 0, none⟩) 0 0) 0 []) :
  ∃ v' w', (Builtin.append_ #[t, t] ty #[.slice (some ⟨g, 0, none⟩) 0 0, .slice A n c]).run P w = .ok v' w' ∧ (∃ g c, v' = .slice (some ⟨g, 0, none⟩) n c ∧ (0 < n → w.heap.size ≤ g)) ∧ w'.ownsRow B e size v' n (l.flatMap f) ∧ Below w.heap.size w w' := by
 rcases Nat.eq_zero_or_pos n with h0 | h0
 ·subst h0
  obtain rfl : l = [] := List.eq_nil_of_length_eq_zero hl
  refine ⟨.slice (some ⟨g, 0, none⟩) 0 0, w, ?_, ⟨g, 0, rfl, fun h => absurd h (by omega)⟩, hown, Below.refl _ w⟩
  cases A with
  | some a => exact run_append_room_cells w t ty e i ht hi g 0 0 0 a 0 c [] (by simp) (by simp) (by simp) (by omega) (by simp) (by simp)
  | none => simp [Builtin.append_, run_underlying ht, sizeOf, typeInfo, hi, Builtin.lenOf, Builtin.firstCells, storeCells]
 ·obtain ⟨b, off, rfl, _, _⟩ := hr 0 (l[0]'(by omega)) (by simp)
  have hln : (l.flatMap f).length = n * size := by rw [flat_len f size hf, hl]
  have hm : (0 + n) * bytes ≤ 1000 * 1000 := Nat.mul_le_mul (by omega) hby2
  obtain ⟨v', w', h1, h2, h3⟩ := run_append_arg_grows (P := P) w t ty e i z size bytes ht hi hz hsize hby hzs hsz ⟨g, 0, none⟩ 0 0 [] (by simp) (by simp) ⟨b, off, none⟩ n c (l.flatMap f) hln (hr.news hf hsz) (by omega) (by unfold maxLen; omega) (by omega)
  rw [Nat.zero_add, List.nil_append] at h2
  refine ⟨v', w', h1, ?_, ?_, (Below.refl w.heap.size w).grown h3 (by simp) (by simp)⟩
  ·rcases h2.2 with ⟨_, h⟩ | ⟨g', c', _, h, hg', _⟩
   ·omega
   ·exact ⟨g', c', h, fun _ => by assumption⟩
  ·refine ⟨h2.1, ?_⟩
   rcases h2.2 with h | ⟨g', c', cur, k1, k2, k3⟩
   ·exact .inl h
   ·exact .inr ⟨g', c', cur, k1, by omega, k3⟩
theorem own_set {w : World} {B n c g : Nat} {e : TypeId} {sz : Nat} {xs : List Value} (h : w.ownsRow B e sz (.slice (some ⟨g, 0, none⟩) n c) n xs) (j : Nat) (u : Value) :
  (w.setCell ⟨g, j, none⟩ u).ownsRow B e sz (.slice (some ⟨g, 0, none⟩) n c) n (xs.set j u) := by
 obtain ⟨cur, h1, h2, h3, h4, h5, h6⟩ := own_blk h
 refine ⟨by rw [List.length_set]; exact h.1, .inr ⟨g, c, cur.setIfInBounds j u, rfl, h2, h1.set_ j u, h3, h4, by simp [h5], ?_⟩⟩
 rw [Array.toList_setIfInBounds, List.take_set, h6]
theorem flat_set {α : Type} {f : α → List Value} {sz : Nat} (hsz : ∀ x, (f x).length = sz) {l : List α} {k i : Nat} {x x' : α} {u : Value} (hi : i < sz) (hx : l[k]? = some x) (hf : f x' = (f x).set i u) :
  (l.flatMap f).set (k * sz + i) u = (l.set k x').flatMap f := by
 have hk : k < l.length := (List.getElem?_eq_some_iff.1 hx).1
 have hlen : k * sz + i < l.length * sz := by
  have : (k + 1) * sz ≤ l.length * sz := Nat.mul_le_mul_right sz hk
  rw [Nat.succ_mul] at this
  omega
 apply List.ext_getElem?
 intro j
 have hj : j / sz * sz + j % sz = j := Nat.div_add_mod' j sz
 have hm : j % sz < sz := Nat.mod_lt j (by omega)
 generalize j / sz = a at hj
 generalize j % sz = b at hj hm
 subst hj
 rw [flat_get f sz hsz _ _ _ hm]
 by_cases e : k = a
 ·subst e
  rw [List.getElem?_set_self hk]
  show _ = (f x')[b]?
  rw [hf]
  by_cases e2 : i = b
  ·subst e2
   rw [List.getElem?_set_self (by rw [flat_len f sz hsz]; exact hlen), List.getElem?_set_self (by rw [hsz]; exact hi)]
  ·rw [List.getElem?_set_ne (by omega), List.getElem?_set_ne e2, flat_get f sz hsz _ _ _ hm, hx]
   rfl
 ·rw [List.getElem?_set_ne e, List.getElem?_set_ne, flat_get f sz hsz _ _ _ hm]
  intro h
  rcases Nat.lt_trichotomy k a with h1 | h1 | h1
  ·have : (k + 1) * sz ≤ a * sz := Nat.mul_le_mul_right sz h1
   rw [Nat.succ_mul] at this
   omega
  ·exact e h1
  ·have : (a + 1) * sz ≤ k * sz := Nat.mul_le_mul_right sz h1
   rw [Nat.succ_mul] at this
   omega
/-- A relation: blocks but some are kept, and a family of facts. -/
def TP {ι : Type} (S : Nat → Prop) (F : ι → World → Prop) (hF : ∀ i w w', Below w.heap.size w w' → F i w → F i w') : HavG.Rel where
 G w w' := Turn S w w' ∧ ∀ i, F i w → F i w'
 refl _ := ⟨Turn.refl _ _, fun _ h => h⟩
 trans h k := ⟨h.1.trans k.1, fun i x => k.2 i (h.2 i x)⟩
 drew w := ⟨Turn.of_below (Below.drew (Below.refl _ _)), fun i x => hF i w _ (Below.drew (Below.refl _ _)) x⟩
theorem TP.below {ι : Type} {S : Nat → Prop} {F : ι → World → Prop} {hF : ∀ i w w', Below w.heap.size w w' → F i w → F i w'} {w w' : World} (h : Below w.heap.size w w') : (TP S F hF).G w w' := ⟨Turn.of_below h, fun i x => hF i w w' h x⟩
theorem own_turn {w w' : World} {B e size n : Nat} {v : Value} {xs : List Value} {S : Nat → Prop} (h : w.ownsRow B e size v n xs) (t : Turn S w w') (hs : ∀ g, v.ownBlock = some g → ¬ S g) : w'.ownsRow B e size v n xs := by
 refine ⟨h.1, ?_⟩
 rcases h.2 with h0 | ⟨g, cap, cur, rfl, hg, hh, rest⟩
 ·exact .inl h0
 ·exact .inr ⟨g, cap, cur, rfl, hg, (t.block g (Array.getElem?_eq_some_iff.1 hh).1 (hs g rfl)).trans hh, rest⟩
theorem rd_drop {α : Type} {f : α → List Value} {sz : Nat} {w : World} {R : Nat} {l : List α} {b off n c k : Nat} (h : RdG f sz w R (some ⟨b, off, none⟩) l) (hl : l.length = n) (hc : n ≤ c) (hk : k < n) :
  ∃ b' off', (if c = k + 1 then some (⟨b, off, none⟩ : Addr) else (some (⟨b, off, none⟩ : Addr)).map (·.add ((k + 1) * sz))) = some ⟨b', off', none⟩ ∧ RdG f sz w R (some ⟨b', off', none⟩) (l.drop (k + 1)) := by
 by_cases e : c = k + 1
 ·rw [if_pos e]
  refine ⟨b, off, rfl, fun j x hx => ?_⟩
  rw [List.getElem?_drop] at hx
  have := (List.getElem?_eq_some_iff.1 hx).1
  omega
 ·rw [if_neg e]
  have ha : (some (⟨b, off, none⟩ : Addr)).map (·.add ((k + 1) * sz)) = some ⟨b, off + (k + 1) * sz, none⟩ := by
   simp only [Option.map_some, Addr.add]
   by_cases hz : (k + 1) * sz = 0
   ·rw [if_pos hz, hz]; rfl
   ·rw [if_neg hz]
  refine ⟨b, off + (k + 1) * sz, ha, fun j x hx => ?_⟩
  rw [List.getElem?_drop] at hx
  obtain ⟨b', off', e1, e2, e3⟩ := h _ x hx
  obtain ⟨rfl, rfl⟩ : b' = b ∧ off' = off := by injection e1 with e1; injection e1 with a1 a2; exact ⟨a1.symm, a2.symm⟩
  refine ⟨b', _, rfl, e2, fun i u hu => ?_⟩
  have := e3 i u hu
  rw [show off' + ((k + 1 + j) * sz + i) = off' + (k + 1) * sz + (j * sz + i) by rw [Nat.add_mul]; omega] at this
  exact this
/-- 'append(l[:k], m[k+1:]...)', where l is a row of its own and a copy of m: in place. -/
theorem erase_run {α : Type} {f : α → List Value} {P : Program} (t ty e : TypeId) (i : TypeInfo) (sz : Nat) (ht : P.underlying t = some (.slice e)) (hi : P.info? e = some i) (hsize : i.size = sz) (hsz : 0 < sz) (hf : ∀ x, (f x).length = sz) (hone : ∀ x, ∀ u ∈ f x, u.oneCell' = true)
  {w : World} {B R g n cz b off c k : Nat} {l : List α} (ho : w.ownsRow B e sz (.slice (some ⟨g, 0, none⟩) n cz) n (l.flatMap f)) (hr : RdG f sz w R (some ⟨b, off, none⟩) l) (hl : l.length = n) (hk : k < n) (hc : n ≤ c) :
  ∃ w', (Builtin.append_ #[t, t] ty #[.slice (some ⟨g, 0, none⟩) k cz, .slice (if c = k + 1 then some (⟨b, off, none⟩ : Addr) else (some (⟨b, off, none⟩ : Addr)).map (·.add ((k + 1) * sz))) (n - (k + 1)) (c - (k + 1))]).run P w = .ok (.slice (some ⟨g, 0, none⟩) (n - 1) cz) w' ∧
   w'.ownsRow B e sz (.slice (some ⟨g, 0, none⟩) (n - 1) cz) (n - 1) ((l.eraseIdx k).flatMap f) ∧ Turn (fun x => x = g) w w' := by
 obtain ⟨b', off', e1, hd⟩ := rd_drop (c := c) hr hl hc hk
 rw [e1]
 obtain ⟨cur, hg, h2, h3, h4, h5, h6⟩ := own_blk ho
 have hdl : (l.drop (k + 1)).length = n - (k + 1) := by rw [List.length_drop, hl]
 have hlen : ((l.drop (k + 1)).flatMap f).length = (n - (k + 1)) * i.size := by rw [flat_len f sz hf, hdl, hsize]
 have hnk : k * sz + (n - (k + 1)) * sz = (n - 1) * sz := by rw [← Nat.add_mul]; congr 1; omega
 have hle : (n - 1) * sz ≤ n * sz := Nat.mul_le_mul_right sz (by omega)
 have hnc : n * sz ≤ cz * sz := Nat.mul_le_mul_right sz h3
 have hks : k * sz ≤ n * sz := Nat.mul_le_mul_right sz (by omega)
 have hr2 := run_append_room (P := P) w t ty e i ht hi g k cz cur hg ⟨b', off', none⟩ (n - (k + 1)) (c - (k + 1)) ((l.drop (k + 1)).flatMap f) hlen (hd.news hf hsz)
  (fun u hu => by obtain ⟨x, _, hx⟩ := List.mem_flatMap.1 hu; exact hone x u hx) (by omega) (by rw [hlen, hsize, h5]; omega)
 rw [show k + (n - (k + 1)) = n - 1 by omega] at hr2
 refine ⟨_, hr2, ⟨?_, .inr ⟨g, cz, _, rfl, h2, setRow_heap w g cur _ e _ hg, by omega, h4, ?_, ?_⟩⟩, Turn.of_grown (row := some g) ⟨rfl, rfl, rfl, by simp [World.setRow], fun q _ hq => setRow_other w g q _ (fun e => hq (by rw [e]))⟩ (fun q e _ => by cases e; rfl)⟩
 ·rw [flat_len f sz hf, List.length_eraseIdx, if_pos (by omega), hl]
 ·simp only [List.size_toArray, List.length_append, List.length_take, List.length_drop, Array.length_toList, hlen, hsize]
  omega
 ·rw [hsize, List.take_append_of_le_length (by simp only [List.length_append, List.length_take, Array.length_toList, hlen, hsize]; omega)]
  rw [List.take_of_length_le (by simp only [List.length_append, List.length_take, Array.length_toList, hlen, hsize]; omega)]
  rw [List.eraseIdx_eq_take_drop_succ, List.flatMap_append]
  congr 1
  have e3 : cur.toList.take (k * sz) = (cur.toList.take (n * sz)).take (k * sz) := by rw [List.take_take, Nat.min_eq_left hks]
  rw [e3, h6]
  conv => lhs; rw [← List.take_append_drop k l, List.flatMap_append]
  rw [List.take_append_of_le_length (by rw [flat_len f sz hf, List.length_take]; rw [Nat.min_eq_left (by omega)]; exact Nat.le_refl _)]
  rw [List.take_of_length_le (by rw [flat_len f sz hf, List.length_take, Nat.min_eq_left (by omega)]; exact Nat.le_refl _)]
end Go.Proofs.Ytiodmkokpfgkkaa
