/- A truth of small numbers, whose lists lie in memory. -/
import Derived.Test.YtiodmkokpfgkkaaRowsA
import Derived.Test.YtiodmkokpfgkkaaPlainA
namespace Go.Proofs.Ytiodmkokpfgkkaa
open Go.RowKit Go.Hav
def nV (n : Nat) : Value := .int .i64 n
/-- A truth of small numbers. -/
structure Tr.Small (t : Tr) (n : Nat) : Prop where
 d : t.d ≤ 60
 by_ : t.by_ ≤ 60
 n3 : n ≤ 3
 ds : t.ds.length = n
 rs : t.rs.length = n
 hd : ∀ x ∈ t.ds, x ≤ 60
 hr : ∀ x ∈ t.rs, x ≤ 60
/-- Its lists lie in memory. -/
structure TrIn (w : World) (t : Tr) (dA rA : Option Addr) : Prop where
 ds : RowN nV 3 w dA t.ds
 rs : RowN nV 3 w rA t.rs
theorem TrIn.below {w w' : World} {t : Tr} {dA rA : Option Addr} (h : TrIn w t dA rA) (hb : Below w.heap.size w w') : TrIn w' t dA rA := ⟨h.ds.below hb, h.rs.below hb⟩
theorem TrIn.kt {w w' : World} {t : Tr} {dA rA : Option Addr} {B : Nat} {ty : TypeId} (h : TrIn w t dA rA) (hk : KT B ty w w') (hne : 3 ≠ ty) : TrIn w' t dA rA := ⟨h.ds.kt hk hne, h.rs.kt hk hne⟩
theorem RowN.at_ {w : World} {A : Option Addr} {l : List Nat} (h : RowN nV 3 w A l) {k x : Nat} (hx : l[k]? = some x) : ∃ b off, A = some ⟨b, off, none⟩ ∧ b < w.heap.size ∧ w.cell? ⟨b, off + k, none⟩ = some (.int .i64 x) := by
 obtain ⟨b, off, cur, h1, h2, h3⟩ := h k x hx
 exact ⟨b, off, h1, h2.lt, by rw [h2.cell]; exact h3⟩
theorem riseN_bd {t : Tr} {n : Nat} (h : t.Small n) (day : Nat) : ∀ i, riseN t.dsF t.rsF day i ≤ 60 * i
 | 0 => by simp [riseN]
 | i + 1 => by
  have h1 := riseN_bd h day i
  have hr : t.rsF i ≤ 60 := by
   unfold Tr.rsF
   rw [List.getD_eq_getElem?_getD]
   cases hx : t.rs[i]? with
   | none => simp
   | some x => exact h.hr x (List.mem_of_getElem? hx)
  rw [riseN]
  split <;> omega
theorem atF_bd {t : Tr} {n : Nat} (h : t.Small n) : ∀ day, atF t.d t.by_ n t.dsF t.rsF day ≤ 60 + 180 * day
 | 0 => by have := h.d; rw [atF]; omega
 | k + 1 => by
  have h1 := atF_bd h k
  have h2 := riseN_bd h (k + 1) n
  have h3 := h.n3
  rw [atF]
  omega
end Go.Proofs.Ytiodmkokpfgkkaa
