/- Rows of one's own, and rows of numbers. -/
import Derived.Test.YtiodmkokpfgkkaaHavTab
import Derived.Test.YtiodmkokpfgkkaaPlainA
import Derived.Test.YtiodmkokpfgkkaaCore
import Derived.Deep.AppendLies
import Derived.Laws.CopyRow

namespace Go.Proofs.Ytiodmkokpfgkkaa
open Go.RowKit Go.Hav
theorem result_eq {α : Type} {r : Result α} {v v' : α} {w w' : World} (h : r = .ok v w) (h' : r = .ok v' w') : v = v' ∧ w = w' := by
 rw [h] at h'
 injection h' with h1 h2
 exact ⟨h1, h2⟩
theorem below_drew_alloc (w : World) (o : Obj) : Below w.heap.size w (w.drew.alloc o) := (Below.drew (Below.refl _ _)).alloc (Nat.le_refl _) _
theorem own_base {w : World} {B B' e size n : Nat} {v : Value} {xs : List Value} (h : w.ownsRow B e size v n xs) (hB : B' ≤ B) : w.ownsRow B' e size v n xs := by
 refine ⟨h.1, ?_⟩
 rcases h.2 with h0 | ⟨g, cap, cur, rfl, hg, rest⟩
 ·exact .inl h0
 ·exact .inr ⟨g, cap, cur, rfl, Nat.le_trans hB hg, rest⟩
theorem append_oper {P : Program} {o : Oper} {a : Act} {s x : Operand} {t : TypeId} {v u v' : Value} {w w' : World} (ho : o.op = .call { callee := .builtin .append, args := #[s, x], argTypes := #[t, t] }) (hs : a.eval s = v) (hx : a.eval x = u)
  (hr : (Builtin.append_ #[t, t] o.type #[v, u]).run P w = .ok v' w') : (execOp a.eval o).run P w = .ok (.value v') w' := by
 unfold execOp
 simp only [ho, resolve, invoke, builtin, Sem.run_bind, Sem.run_pure, Result.andThen_ok, List.map_toArray, List.map_cons, List.map_nil, hs, hx, hr]
theorem own_nil (w : World) (B e size : Nat) : w.ownsRow B e size (.slice none 0 0) 0 [] := ⟨by simp, .inl ⟨rfl, rfl⟩⟩
theorem own_blk {w : World} {B n c g : Nat} {e : TypeId} {sz : Nat} {xs : List Value} (h : w.ownsRow B e sz (.slice (some ⟨g, 0, none⟩) n c) n xs) : ∃ cur, Blk w g e cur ∧ B ≤ g ∧ n ≤ c ∧ c ≤ maxLen ∧ cur.size = c * sz ∧ cur.toList.take (n * sz) = xs := by
 rcases h.2 with ⟨h1, _⟩ | ⟨g', c', cur, h1, h2, h3, h4, h5, h6, h7⟩
 ·cases h1
 ·cases h1
  exact ⟨cur, h3, h2, h4, h5, h6, h7⟩
/-! Rows of one-cell elements, in blocks of their type; a row of such rows. -/
theorem flat_one {α : Type} (e : α → Value) (L : List α) : L.flatMap (fun x => [e x]) = L.map e := by
 induction L with
 | nil => rfl
 | cons x L ih => rw [List.flatMap_cons, ih]; rfl
def RowN {α : Type} (e : α → Value) (t : TypeId) (w : World) (A : Option Addr) (L : List α) : Prop :=
 ∀ k x, L[k]? = some x → ∃ b off cur, A = some ⟨b, off, none⟩ ∧ Blk w b t cur ∧ cur[off + k]? = some (e x)
def Rows {α : Type} (e : α → Value) (t : TypeId) (w : World) (xs : List Value) (Ls : List (List α)) : Prop :=
 xs.length = Ls.length ∧ ∀ (j : Nat) (L : List α), Ls[j]? = some L → ∃ A c, L.length ≤ c ∧ xs[j]? = some (Value.slice A L.length c) ∧ RowN e t w A L
/-- All below B is kept, and all blocks of another type than t. -/
def KT (B : Nat) (t : TypeId) (w w' : World) : Prop := Below B w w' ∧ ∀ g cs t', t' ≠ t → Blk w g t' cs → Blk w' g t' cs
section
variable {B : Nat} {t : TypeId} {w w' w2 : World}
theorem KT.refl : KT B t w w := ⟨Below.refl _ _, fun _ _ _ _ h => h⟩
theorem KT.trans (h : KT B t w w') (k : KT B t w' w2) : KT B t w w2 := ⟨h.1.trans k.1, fun g cs t' hn hb => k.2 g cs t' hn (h.2 g cs t' hn hb)⟩
theorem KT.below (hB : B ≤ w.heap.size) (h : Below w.heap.size w w') : KT B t w w' := ⟨h.mono hB, fun _ _ _ _ hb => hb.below h hb.lt⟩
theorem KT.own (hB : B ≤ w.heap.size) {v : Value} {n size : Nat} {ys : List Value} (ho : w.ownsRow B t size v n ys) (hg : w.grownBy w' v.ownBlock) : KT B t w w' :=
 ⟨(Below.refl B w).grown hg hB (fun k hk => (ho.lt k hk).1), fun g cs t' hn hb => hb.grown hg (fun e => by
  rcases ho.2 with ⟨rfl, _⟩ | ⟨g', cap, c2, rfl, _, hh, _⟩
  ·cases e
  ·injection e with e
   subst e
   have := hb.symm.trans hh
   injection this with this
   injection this with _ h4 _
   exact hn h4)⟩
theorem KT.size (h : KT B t w w') : w.heap.size ≤ w'.heap.size := h.1.size
theorem KT.mono {B' : Nat} (h : KT B t w w') (hB : B' ≤ B) : KT B' t w w' := ⟨h.1.mono hB, h.2⟩
end
section
variable {α : Type} {e : α → Value} {t : TypeId} {w w' : World} {A : Option Addr} {L : List α} {xs : List Value} {Ls : List (List α)}
theorem RowN.nil : RowN e t w A [] := fun k x h => by simp at h
theorem RowN.rd (h : RowN e t w A L) : RdG (fun x => [e x]) 1 w w.heap.size A L := by
 intro k x hx
 obtain ⟨b, off, cur, rfl, hb, hc⟩ := h k x hx
 refine ⟨b, off, rfl, hb.lt, fun j u hu => ?_⟩
 match j, hu with
 | 0, hu =>
  simp only [List.getElem?_cons_zero, Option.some.injEq] at hu
  subst hu
  rw [Nat.mul_one, Nat.add_zero, hb.cell]
  exact hc
 | j + 1, hu => simp at hu
theorem RowN.below (h : RowN e t w A L) (hb : Below w.heap.size w w') : RowN e t w' A L := fun k x hx => by
 obtain ⟨b, off, cur, h1, h2, h3⟩ := h k x hx
 exact ⟨b, off, cur, h1, h2.below hb h2.lt, h3⟩
theorem RowN.kt {B : Nat} {t2 : TypeId} (h : RowN e t w A L) (hk : KT B t2 w w') (hne : t ≠ t2) : RowN e t w' A L := fun k x hx => by
 obtain ⟨b, off, cur, h1, h2, h3⟩ := h k x hx
 exact ⟨b, off, cur, h1, hk.2 _ _ _ hne h2, h3⟩
/-- A row that an append has made. -/
theorem RowN.of_own {B n : Nat} {v : Value} (h : w.ownsRow B t 1 v n (L.flatMap fun x => [e x])) (hn : L.length = n) : ∃ A c, n ≤ c ∧ v = .slice A n c ∧ RowN e t w A L ∧ (0 < n → ∃ g, A = some ⟨g, 0, none⟩ ∧ B ≤ g) := by
 rcases h.2 with ⟨rfl, rfl⟩ | ⟨g, cap, cur, rfl, hg, hh, hnc, _, _, ht⟩
 ·exact ⟨none, 0, Nat.le_refl _, rfl, by rw [List.eq_nil_of_length_eq_zero hn]; exact RowN.nil, fun h => by omega⟩
 ·refine ⟨_, _, hnc, rfl, fun k x hx => ⟨g, 0, cur, rfl, hh, ?_⟩, fun _ => ⟨g, rfl, hg⟩⟩
  have hk : k < L.length := (List.getElem?_eq_some_iff.1 hx).1
  have : (L.flatMap fun x => [e x])[k]? = some (e x) := by rw [flat_one, List.getElem?_map, hx]; rfl
  rw [← ht, Nat.mul_one, List.getElem?_take, if_pos (by omega), Array.getElem?_toList] at this
  rw [Nat.zero_add]
  exact this
end
end Go.Proofs.Ytiodmkokpfgkkaa
