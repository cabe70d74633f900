/- Small laws on worlds, blocks that are known whole, slices that read as lists, rows that the call owns; no condition. -/
import Derived.Test.YtbfjebglaimcmaaProg
import Derived.Test.YtbfjebglaimcmaaHavoc
import Derived.WalkKit
import Derived.WalkSpells
import Derived.WalkLawsBesides
import Derived.Lib.Hide
import Derived.OneCell
import Derived.Laws.AppendOwn
import Derived.Laws.OwnMore
import Derived.Laws.Bits64b
import Derived.Deep.LoopGhost
import Derived.Deep.QuietTactic
import Derived.BigQuiet
import Derived.RegionTactic
import Derived.BigRegion
import Derived.Deep.DeepCutAuto
namespace Go.Proofs.Ytbfjebglaimcmaa
open Go.RowKit Go.Hav

/-- After a call that made memory: old cells and old marks read as before. -/
theorem bcell {B : Nat} {W w1 : World} (hb : Below B W w1) : (∀ b o, b < B → w1.cell? ⟨b, o, none⟩ = W.cell? ⟨b, o, none⟩) ∧ (∀ b o, b < B → w1.frozen? ⟨b, o, none⟩ = W.frozen? ⟨b, o, none⟩) :=
  ⟨fun b o h => hb.cell (p := ⟨b, o, none⟩) h, fun b o h => hb.frozen (p := ⟨b, o, none⟩) h⟩
theorem below_drewN {B : Nat} {a w : World} (h : Below B a w) (n : Nat) : Below B a (w.drewN n) := ⟨h.os, h.tape, h.output, h.size, h.block⟩
theorem ret_int {k : IntKind} {a b : Int} (h : a = b) : Ending.returned (.int k a) = .returned (.int k b) := by rw [h]
theorem ret_bool {a b : Bool} (h : a = b) : Ending.returned (.bool a) = .returned (.bool b) := by rw [h]

/-- A block that is known whole: just the cells cs of element type t, none frozen. -/
def Blk (w : World) (g : Nat) (t : TypeId) (cs : Array Value) : Prop := w.heap[g]? = some (.cells cs t (0, 0))
section
variable {w w' : World} {g : Nat} {t : TypeId} {cs : Array Value}
theorem Blk.lt (h : Blk w g t cs) : g < w.heap.size := by
  rcases Nat.lt_or_ge g w.heap.size with hlt | hge
  · exact hlt
  · unfold Blk at h; rw [Array.getElem?_eq_none hge] at h; cases h
theorem Blk.cell (h : Blk w g t cs) (i : Nat) : w.cell? ⟨g, i, none⟩ = cs[i]? := cell_of_row w g i cs t (0, 0) h
theorem Blk.frozen (h : Blk w g t cs) (i : Nat) : w.frozen? ⟨g, i, none⟩ = false := by
  unfold Blk at h
  simp [World.frozen?, h]
theorem Blk.new (w : World) (t : TypeId) (cs : Array Value) : Blk (w.alloc (.cells cs t)) w.heap.size t cs := heap_alloc_new w _
theorem Blk.new_ {w : World} {g : Nat} (h : w.heap.size = g) (t : TypeId) (cs : Array Value) : Blk (w.alloc (.cells cs t)) g t cs := h ▸ Blk.new w t cs
theorem Blk.drew (h : Blk w g t cs) : Blk w.drew g t cs := h
theorem Blk.drewN (h : Blk w g t cs) (n : Nat) : Blk (w.drewN n) g t cs := h
theorem Blk.alloc (h : Blk w g t cs) (o : Obj) : Blk (w.alloc o) g t cs := (Below.heap_alloc w o g h.lt).trans h
theorem Blk.set_ (h : Blk w g t cs) (i : Nat) (u : Value) : Blk (w.setCell ⟨g, i, none⟩ u) g t (cs.setIfInBounds i u) := by
  unfold Blk at h ⊢
  simp [World.setCell, Array.getElem?_modify, h]
theorem Blk.far (h : Blk w g t cs) {p : Addr} (hp : g ≠ p.block) (u : Value) : Blk (w.setCell p u) g t cs := (Below.heap_setCell w p u g hp).trans h
theorem Blk.below {B : Nat} (h : Blk w g t cs) (hb : Below B w w') (hg : g < B) : Blk w' g t cs := (hb.block g hg).trans h
theorem Blk.grown {row : Option Nat} (h : Blk w g t cs) (hb : w.grownBy w' row) (hg : some g ≠ row) : Blk w' g t cs := (hb.block g h.lt hg).trans h
end

/-! Lists as rows of cells. -/
theorem flat_get {α β : Type} (f : α → List β) (sz : Nat) (hsz : ∀ x, (f x).length = sz) : ∀ (l : List α) (k i : Nat), i < sz → (l.flatMap f)[k * sz + i]? = (l[k]?).bind fun x => (f x)[i]? := by
  intro l
  induction l with
  | nil => intro k i _; simp
  | cons x l ih =>
    intro k i hi
    rw [List.flatMap_cons]
    cases k with
    | zero => rw [Nat.zero_mul, Nat.zero_add, List.getElem?_append_left (by rw [hsz]; exact hi)]; simp
    | succ k =>
      rw [List.getElem?_append_right (by rw [hsz, Nat.succ_mul]; omega), hsz, show (k + 1) * sz + i - sz = k * sz + i by rw [Nat.succ_mul]; omega, ih k i hi]
      simp
theorem flat_len {α β : Type} (f : α → List β) (sz : Nat) (hsz : ∀ x, (f x).length = sz) : ∀ l : List α, (l.flatMap f).length = l.length * sz := by
  intro l
  induction l with
  | nil => simp
  | cons x l ih => rw [List.flatMap_cons, List.length_append, hsz, ih, List.length_cons, Nat.succ_mul]; omega

/-- A slice that reads as a list, in a block below B: its cells, one behind the other. -/
def RdG {α : Type} (f : α → List Value) (sz : Nat) (w : World) (B : Nat) (A : Option Addr) (l : List α) : Prop :=
  ∀ (k : Nat) (x : α), l[k]? = some x → ∃ b off, A = some ⟨b, off, none⟩ ∧ b < B ∧ ∀ i u, (f x)[i]? = some u → w.cell? ⟨b, off + (k * sz + i), none⟩ = some u
section
variable {α : Type} {f : α → List Value} {sz : Nat} {w w' : World} {B B' : Nat} {A : Option Addr} {l : List α}
theorem RdG.below (h : RdG f sz w B A l) (hb : Below B w w') : RdG f sz w' B A l := fun k x hx => by
  obtain ⟨b, off, e, hl, hc⟩ := h k x hx
  exact ⟨b, off, e, hl, fun i u hu => (hb.cell (p := ⟨b, _, none⟩) hl).trans (hc i u hu)⟩
theorem RdG.more (h : RdG f sz w B A l) (hB : B ≤ B') : RdG f sz w B' A l := fun k x hx => by
  obtain ⟨b, off, e, hl, hc⟩ := h k x hx
  exact ⟨b, off, e, by omega, hc⟩
theorem RdG.grow (h : RdG f sz w w.heap.size A l) (hb : Below w.heap.size w w') : RdG f sz w' w'.heap.size A l := (h.below hb).more hb.size
theorem RdG.nil (f : α → List Value) (sz : Nat) (w : World) (B : Nat) (A : Option Addr) : RdG f sz w B A [] := fun k x hx => by simp at hx
/-- A frame that keeps the slice's own block. -/
theorem RdG.keep (h : RdG f sz w B A l) (hb : ∀ b, b < B → (∃ off, A = some ⟨b, off, none⟩) → w'.heap[b]? = w.heap[b]?) : RdG f sz w' B A l := fun k x hx => by
  obtain ⟨b, off, e, hl, hc⟩ := h k x hx
  refine ⟨b, off, e, hl, fun i u hu => ?_⟩
  rw [← hc i u hu]
  unfold World.cell?
  simp [hb b hl ⟨off, e⟩]
/-- What an append reads of such a list. -/
theorem RdG.news (hsz : ∀ x, (f x).length = sz) (h0 : 0 < sz) {b off : Nat} (h : RdG f sz w B (some ⟨b, off, none⟩) l) :
    ∀ j u, (l.flatMap f)[j]? = some u → w.cell? ((⟨b, off, none⟩ : Addr).add j) = some u := by
  intro j u hu
  have hj : j / sz * sz + j % sz = j := Nat.div_add_mod' j sz
  rw [← hj, flat_get f sz hsz l _ _ (Nat.mod_lt j h0)] at hu
  cases hx : l[j / sz]? with
  | none => rw [hx] at hu; cases hu
  | some x =>
    rw [hx] at hu
    obtain ⟨b', off', e, _, hc⟩ := h _ x hx
    obtain ⟨rfl, rfl⟩ : b' = b ∧ off' = off := by injection e with e; injection e with e1 e2; exact ⟨e1.symm, e2.symm⟩
    have := hc _ u hu
    rw [hj] at this
    unfold Addr.add
    split
    · rename_i hz; rw [hz] at this; simpa using this
    · exact this
/-- A list that the call itself made. -/
theorem RdG.of_own (hsz : ∀ x, (f x).length = sz) (h0 : 0 < sz) {base : Nat} {e : TypeId} {v : Value} {n : Nat} (h : w.ownsRow base e sz v n (l.flatMap f)) (hB : w.heap.size ≤ B) {len cap : Nat} (hv : v = .slice A len cap) :
    RdG f sz w B A l := by
  intro k x hx
  have hk : k < l.length := (List.getElem?_eq_some_iff.1 hx).1
  rcases h.2 with ⟨rfl, hn⟩ | ⟨g, c, cur, rfl, hg, hh, _⟩
  · have := h.1
    rw [flat_len f sz hsz, hn, Nat.zero_mul] at this
    rcases Nat.mul_eq_zero.1 this with h1 | h1 <;> omega
  · injection hv with e1 e2 e3
    have hlt : g < w.heap.size := (Array.getElem?_eq_some_iff.1 hh).1
    refine ⟨g, 0, e1.symm, by omega, fun i u hu => ?_⟩
    have hi : i < sz := by rw [← hsz x]; exact (List.getElem?_eq_some_iff.1 hu).1
    have := h.cells (g := g) rfl (k * sz + i) u (by rw [flat_get f sz hsz l k i hi, hx]; exact hu)
    rw [Nat.zero_add]
    have ha : (⟨g, 0, none⟩ : Addr).add (k * sz + i) = ⟨g, k * sz + i, none⟩ := by unfold Addr.add; split <;> simp_all
    rwa [ha] at this
/-- A row that the call has built: as a slice it reads as the list. -/
theorem own_rd (hsz : ∀ x, (f x).length = sz) (h0 : 0 < sz) {base : Nat} {e : TypeId} {v : Value} (h : w.ownsRow base e sz v l.length (l.flatMap f)) :
    ∃ A cp, v = .slice A l.length cp ∧ RdG f sz w w.heap.size A l ∧ l.length ≤ cp := by
  rcases h.2 with ⟨rfl, hn⟩ | ⟨g, cap, cur, rfl, hg, hh, hle, _⟩
  · obtain rfl := List.length_eq_zero_iff.1 hn
    exact ⟨none, 0, rfl, RdG.nil _ _ _ _ _, by simp⟩
  · exact ⟨_, cap, rfl, RdG.of_own hsz h0 h (Nat.le_refl _) rfl, hle⟩
end
theorem ownsRow_empty {w : World} {g : Nat} (h : w.heap.size = g) (e : TypeId) (size : Nat) : (w.alloc (.cells #[] e)).ownsRow g e size (.slice (some ⟨g, 0, none⟩) 0 0) 0 [] := by
  subst h
  exact World.ownsRow_made w #[] 0 (Nat.le_refl _) (by decide) (by simp)
theorem own_below {w w' : World} {B e size n : Nat} {v : Value} {xs : List Value} (h : w.ownsRow B e size v n xs) (hb : Below w.heap.size w w') : w'.ownsRow B e size v n xs := by
  refine ⟨h.1, ?_⟩
  rcases h.2 with h0 | ⟨g, cap, cur, rfl, hg, hh, rest⟩
  · exact .inl h0
  · exact .inr ⟨g, cap, cur, rfl, hg, (hb.block g (Array.getElem?_eq_some_iff.1 hh).1).trans hh, rest⟩
/-- The cells of a block that has just been laid, as an append reads them. -/
theorem news_block {w : World} {g : Nat} {t : TypeId} {l : List Value} (h : Blk w g t l.toArray) : ∀ j u, l[j]? = some u → w.cell? ((⟨g, 0, none⟩ : Addr).add j) = some u := by
  intro j u hu
  have h0 := h.cell j
  have ha : (⟨g, 0, none⟩ : Addr).add j = ⟨g, j, none⟩ := by unfold Addr.add; split <;> simp_all
  rw [ha, h0]
  simpa using hu
theorem setCell_below {B b : Nat} {w w' : World} (h : Below B w w') (hb : B ≤ b) (o : Nat) (u : Value) : Below B w (w'.setCell ⟨b, o, none⟩ u) := h.setCell (p := ⟨b, o, none⟩) hb u
theorem Try.laidOut : laidOutB Try.prog = true := by kernel_rfl
end Go.Proofs.Ytbfjebglaimcmaa
