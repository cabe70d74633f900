/- Lists of structs as rows of cells: what an append takes, and what it leaves. No condition. -/
import Derived.Test.YtlcolpnniipgbaaDoorBase
import Derived.OneCell
namespace Go.Proofs.YtlcolpnniipgbaaDoor
open Go.RowKit

theorem flat_get {α β : Type} (f : α → List β) (sz : Nat) (hsz : ∀ x, (f x).length = sz) : ∀ (l : List α) (k i : Nat), i < sz → (l.flatMap f)[k * sz + i]? = (l[k]?).bind fun x => (f x)[i]? := by
  intro l
  induction l with
  | nil => intro k i _; simp
  | cons x l ih =>
    intro k i hi
    rw [List.flatMap_cons]
    cases k with
    | zero => rw [Nat.zero_mul, Nat.zero_add, List.getElem?_append_left (by rw [hsz]; exact hi)]; simp
    | succ k =>
      rw [List.getElem?_append_right (by rw [hsz, Nat.succ_mul]; omega), hsz, show (k + 1) * sz + i - sz = k * sz + i by rw [Nat.succ_mul]; omega, ih k i hi]
      simp
theorem flat_len {α β : Type} (f : α → List β) (sz : Nat) (hsz : ∀ x, (f x).length = sz) : ∀ l : List α, (l.flatMap f).length = l.length * sz := by
  intro l
  induction l with
  | nil => simp
  | cons x l ih => rw [List.flatMap_cons, List.length_append, hsz, ih, List.length_cons, Nat.succ_mul]; omega

def spF (s : Sp) : List Value := [.int .i64 s.lo, .int .i64 s.hi]
def caF (c : Ca) : List Value := [.int .i64 c.who, .int .i64 c.run, .int .i64 c.sh.lo, .int .i64 c.sh.hi, .bool c.struck]
def pdF (x : Pd) : List Value := [.int .i64 x.who, .int .i64 x.run, .int .i64 x.pence]
def inF (n : Int) : List Value := [.int .i64 n]
theorem spF_len (s : Sp) : (spF s).length = 2 := rfl
theorem caF_len (s : Ca) : (caF s).length = 5 := rfl
theorem pdF_len (s : Pd) : (pdF s).length = 3 := rfl
theorem inF_len (s : Int) : (inF s).length = 1 := rfl

/-- A list that is read: its cells, one behind the other. -/
def RdG {α : Type} (f : α → List Value) (sz : Nat) (w : World) (B : Nat) (A : Option Addr) (l : List α) : Prop :=
  ∀ (k : Nat) (x : α), l[k]? = some x → ∃ b off, A = some ⟨b, off, none⟩ ∧ b < B ∧ ∀ i u, (f x)[i]? = some u → w.cell? ⟨b, off + (k * sz + i), none⟩ = some u

theorem RdSpans.g {w : World} {B : Nat} {A : Option Addr} {l : List Sp} (h : RdSpans w B A l) : RdG spF 2 w B A l := fun k x hx => by
  obtain ⟨b, off, e, hb, h0, h1⟩ := h k x hx
  refine ⟨b, off, e, hb, fun i u hu => ?_⟩
  match i, hu with
  | 0, hu => cases hu; rw [← h0]; congr 1
  | 1, hu => cases hu; rw [← h1]; congr 1
theorem RdSpans.of_g {w : World} {B : Nat} {A : Option Addr} {l : List Sp} (h : RdG spF 2 w B A l) : RdSpans w B A l := fun k x hx => by
  obtain ⟨b, off, e, hb, hc⟩ := h k x hx
  exact ⟨b, off, e, hb, hc 0 _ rfl, by rw [Nat.add_assoc]; exact hc 1 _ rfl⟩
theorem RdCalls.g {w : World} {B : Nat} {A : Option Addr} {l : List Ca} (h : RdCalls w B A l) : RdG caF 5 w B A l := fun k x hx => by
  obtain ⟨b, off, e, hb, h0, h1, h2, h3, h4⟩ := h k x hx
  refine ⟨b, off, e, hb, fun i u hu => ?_⟩
  match i, hu with
  | 0, hu => cases hu; rw [← h0]; congr 1
  | 1, hu => cases hu; rw [← h1]; congr 1
  | 2, hu => cases hu; rw [← h2]; congr 1
  | 3, hu => cases hu; rw [← h3]; congr 1
  | 4, hu => cases hu; rw [← h4]; congr 1
theorem RdCalls.of_g {w : World} {B : Nat} {A : Option Addr} {l : List Ca} (h : RdG caF 5 w B A l) : RdCalls w B A l := fun k x hx => by
  obtain ⟨b, off, e, hb, hc⟩ := h k x hx
  exact ⟨b, off, e, hb, hc 0 _ rfl, by rw [Nat.add_assoc]; exact hc 1 _ rfl, by rw [Nat.add_assoc]; exact hc 2 _ rfl, by rw [Nat.add_assoc]; exact hc 3 _ rfl, by rw [Nat.add_assoc]; exact hc 4 _ rfl⟩
theorem RdPaid.g {w : World} {B : Nat} {A : Option Addr} {l : List Pd} (h : RdPaid w B A l) : RdG pdF 3 w B A l := fun k x hx => by
  obtain ⟨b, off, e, hb, h0, h1, h2⟩ := h k x hx
  refine ⟨b, off, e, hb, fun i u hu => ?_⟩
  match i, hu with
  | 0, hu => cases hu; rw [← h0]; congr 1
  | 1, hu => cases hu; rw [← h1]; congr 1
  | 2, hu => cases hu; rw [← h2]; congr 1
theorem RdPaid.of_g {w : World} {B : Nat} {A : Option Addr} {l : List Pd} (h : RdG pdF 3 w B A l) : RdPaid w B A l := fun k x hx => by
  obtain ⟨b, off, e, hb, hc⟩ := h k x hx
  exact ⟨b, off, e, hb, hc 0 _ rfl, by rw [Nat.add_assoc]; exact hc 1 _ rfl, by rw [Nat.add_assoc]; exact hc 2 _ rfl⟩
theorem RdInts.g {w : World} {B : Nat} {A : Option Addr} {l : List Int} (h : RdInts w B A l) : RdG inF 1 w B A l := fun k x hx => by
  obtain ⟨b, off, e, hb, h0⟩ := h k x hx
  refine ⟨b, off, e, hb, fun i u hu => ?_⟩
  match i, hu with
  | 0, hu => cases hu; rw [← h0, Nat.mul_one]; rfl
theorem RdInts.of_g {w : World} {B : Nat} {A : Option Addr} {l : List Int} (h : RdG inF 1 w B A l) : RdInts w B A l := fun k x hx => by
  obtain ⟨b, off, e, hb, hc⟩ := h k x hx
  exact ⟨b, off, e, hb, by have := hc 0 _ rfl; rwa [Nat.mul_one] at this⟩

/-- What an append reads of such a list. -/
theorem RdG.news {α : Type} {f : α → List Value} {sz : Nat} (hsz : ∀ x, (f x).length = sz) (h0 : 0 < sz) {w : World} {B : Nat} {b off : Nat} {l : List α} (h : RdG f sz w B (some ⟨b, off, none⟩) l) :
    ∀ j u, (l.flatMap f)[j]? = some u → w.cell? ((⟨b, off, none⟩ : Addr).add j) = some u := by
  intro j u hu
  have hj : j / sz * sz + j % sz = j := Nat.div_add_mod' j sz
  rw [← hj, flat_get f sz hsz l _ _ (Nat.mod_lt j h0)] at hu
  cases hx : l[j / sz]? with
  | none => rw [hx] at hu; cases hu
  | some x =>
    rw [hx] at hu
    obtain ⟨b', off', e, _, hc⟩ := h _ x hx
    obtain ⟨rfl, rfl⟩ : b' = b ∧ off' = off := by injection e with e; injection e with e1 e2; exact ⟨e1.symm, e2.symm⟩
    have := hc _ u hu
    rw [hj] at this
    unfold Addr.add
    split
    · rename_i hz; rw [hz] at this; simpa using this
    · exact this
/-- A list that the call itself made. -/
theorem RdG.of_own {α : Type} {f : α → List Value} {sz : Nat} (hsz : ∀ x, (f x).length = sz) (h0 : 0 < sz) {w : World} {B base : Nat} {e : TypeId} {v : Value} {n : Nat} {l : List α} (h : w.ownsRow base e sz v n (l.flatMap f)) (hB : w.heap.size ≤ B) {A : Option Addr} {len cap : Nat} (hv : v = .slice A len cap) :
    RdG f sz w B A l := by
  intro k x hx
  have hk : k < l.length := (List.getElem?_eq_some_iff.1 hx).1
  rcases h.2 with ⟨rfl, hn⟩ | ⟨g, c, cur, rfl, hg, hh, _⟩
  · have := h.1
    rw [flat_len f sz hsz, hn, Nat.zero_mul] at this
    rcases Nat.mul_eq_zero.1 this with h1 | h1 <;> omega
  · injection hv with e1 e2 e3
    have hlt : g < w.heap.size := (Array.getElem?_eq_some_iff.1 hh).1
    refine ⟨g, 0, e1.symm, by omega, fun i u hu => ?_⟩
    have hi : i < sz := by rw [← hsz x]; exact (List.getElem?_eq_some_iff.1 hu).1
    have := h.cells (g := g) rfl (k * sz + i) u (by rw [flat_get f sz hsz l k i hi, hx]; exact hu)
    rw [Nat.zero_add]
    have ha : (⟨g, 0, none⟩ : Addr).add (k * sz + i) = ⟨g, k * sz + i, none⟩ := by unfold Addr.add; split <;> simp_all
    rwa [ha] at this
theorem ownsRow_empty {w : World} {g : Nat} (h : w.heap.size = g) (e : TypeId) (size : Nat) : (w.alloc (.cells #[] e)).ownsRow g e size (.slice (some ⟨g, 0, none⟩) 0 0) 0 [] := by
  subst h
  exact World.ownsRow_made w #[] 0 (Nat.le_refl _) (by decide) (by simp)
end Go.Proofs.YtlcolpnniipgbaaDoor
