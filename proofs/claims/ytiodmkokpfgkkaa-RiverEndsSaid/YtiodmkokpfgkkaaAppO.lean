/- An append to a row of one's own, with the block in which it lies behind: the same, or a new one. A counter that calls turn, in a region that draws its order. No condition but that things lie so. -/
import Derived.Test.YtiodmkokpfgkkaaAppC
import Derived.Test.YtiodmkokpfgkkaaLawDraws
namespace Go.Proofs.Ytiodmkokpfgkkaa
open Go.RowKit Go.Hav Go.Shelf Go.Sq
theorem append_at {P : Program} {w : World} (base : Nat) (t ty e : TypeId) (i : TypeInfo) (z : Value) (size bytes : Nat) (ht : P.underlying t = some (.slice e)) (hi : P.info? e = some i) (hz : i.zero = some z)
  (hsize : i.size = size) (hby : i.bytes = bytes) (hzs : z.cells.size = size) (hsz : 0 < size) (v : Value) (n : Nat) (xs : List Value) (hown : w.ownsRow base e size v n xs)
  (a : Addr) (c : Nat) (ys : List Value) (hl : ys.length = size) (hnews : ∀ j x, ys[j]? = some x → w.cell? (a.add j) = some x) (h1 : ∀ x ∈ ys, x.oneCell' = true) (h63 : n + 1 ≤ 100000) (hb : bytes ≤ 100000) (hbase : base ≤ w.heap.size) :
  ∃ (g cp : Nat) (w' : World), (Builtin.append_ #[t, t] ty #[v, .slice (some a) 1 c]).run P w = .ok (.slice (some ⟨g, 0, none⟩) (n + 1) cp) w' ∧ w'.ownsRow base e size (.slice (some ⟨g, 0, none⟩) (n + 1) cp) (n + 1) (xs ++ ys) ∧
   Turn (fun b => v.ownBlock = some b) w w' ∧ (v.ownBlock = some g ∨ w.heap.size ≤ g) := by
 have hbb : (n + 1) * bytes ≤ 140737488355328 := Nat.le_trans (Nat.mul_le_mul h63 hb) (by decide)
 have hl1 : ys.length = 1 * i.size := by rw [hl, hsize, Nat.one_mul]
 obtain ⟨v', w', hrun, hown', hg, _⟩ := run_append_own (P := P) w base t ty e i z size bytes ht hi hz hsize hby hzs hsz v n xs hown a 1 c ys (by rw [hl, Nat.one_mul]) hnews h1 (by unfold maxLen; omega) hbb hbase
 have hT : Turn (fun b => v.ownBlock = some b) w w' := Turn.of_grown hg (fun r e _ => e)
 suffices hs : ∃ g cp, v' = .slice (some ⟨g, 0, none⟩) (n + 1) cp ∧ (v.ownBlock = some g ∨ w.heap.size ≤ g) by
  obtain ⟨g, cp, e, h⟩ := hs
  subst e
  exact ⟨g, cp, w', hrun, hown', hT, h⟩
 rcases hown.2 with ⟨rfl, rfl⟩ | ⟨g, cap, cur, rfl, hbg, hgg, hnc, hcm, hcs, htake⟩
 ·have hr := run_append_nil (P := P) w t ty e i z ht hi hz a 1 c ys hl1 hnews (by decide) (by decide) (by rw [hby]; omega)
  obtain ⟨rfl, _⟩ := result_eq hrun hr
  exact ⟨w.heap.size, _, by rw [Nat.zero_add], .inr (Nat.le_refl _)⟩
 ·by_cases hroom : n + 1 ≤ cap
  ·have hns : n * size + size ≤ cap * size := by rw [← Nat.succ_mul]; exact Nat.mul_le_mul hroom (Nat.le_refl _)
   have hr := run_append_room (P := P) w t ty e i ht hi g n cap cur hgg a 1 c ys hl1 hnews h1 hroom (by rw [hsize, hcs, hl]; exact hns)
   obtain ⟨rfl, _⟩ := result_eq hrun hr
   exact ⟨g, cap, rfl, .inl rfl⟩
  ·have holds : ∀ j x, xs[j]? = some x → w.cell? ((⟨g, 0, none⟩ : Addr).add j) = some x := hown.cells (g := g) rfl
   have hr := run_append_grow (P := P) w t ty e i z ht hi hz ⟨g, 0, none⟩ n cap xs (by rw [hsize]; exact hown.1) holds a 1 c ys hl1 hnews (by omega) (by omega) (growslice_fits (by omega) (by rw [hby]; exact hbb))
   obtain ⟨rfl, _⟩ := result_eq hrun hr
   exact ⟨w.heap.size, _, rfl, .inr (Nat.le_refl _)⟩
theorem own_at {w : World} {B n c g e sz : Nat} {xs : List Value} (h : w.ownsRow B e sz (.slice (some ⟨g, 0, none⟩) n c) n xs) (j : Nat) (x : Value) (hx : xs[j]? = some x) : w.cell? ⟨g, j, none⟩ = some x := by
 have := h.cells (g := g) rfl j x hx
 unfold Addr.add at this
 split at this
 ·rename_i hz; subst hz; exact this
 ·simpa using this
/-- The counter, when of two calls some are done. -/
def cntJ (c N p q : Nat) (rem : List Nat) (w : World) : Prop := Cnt c (N + (if p ∈ rem then 0 else 1) + (if q ∈ rem then 0 else 1)) w
section
variable {c N p q i : Nat} {rem : List Nat} {w w' : World}
theorem cntJ_skip (h1 : i ≠ p) (h2 : i ≠ q) (h : cntJ c N p q rem w) : cntJ c N p q (rem.erase i) w := by
 unfold cntJ at h ⊢
 simp only [List.mem_erase_of_ne (Ne.symm h1), List.mem_erase_of_ne (Ne.symm h2)]
 exact h
theorem cntJ_below (h : cntJ c N p q rem w) (hb : Below w.heap.size w w') : cntJ c N p q rem w' := Cnt.below h hb
theorem cntJ_turn {S : Nat → Prop} (h : cntJ c N p q rem w) (t : Turn S w w') (hs : ¬ S c) : cntJ c N p q rem w' := Cnt.turn h t hs
theorem cntJ_p (hp : p ∈ rem) (hnd : rem.Nodup) (hpq : p ≠ q) (h : cntJ c N p q rem w) : ∃ M, M ≤ N + 1 ∧ Cnt c M w ∧ ∀ w', Cnt c (M + 1) w' → cntJ c N p q (rem.erase p) w' := by
 unfold cntJ at h
 rw [if_pos hp] at h
 refine ⟨_, by split <;> omega, h, fun w' h' => ?_⟩
 unfold cntJ
 rw [if_neg (show ¬ p ∈ rem.erase p from fun h => (hnd.mem_erase_iff.1 h).1 rfl)]
 simp only [List.mem_erase_of_ne (Ne.symm hpq)]
 exact h'.mono (by omega)
theorem cntJ_q (hq : q ∈ rem) (hnd : rem.Nodup) (hpq : p ≠ q) (h : cntJ c N p q rem w) : ∃ M, M ≤ N + 1 ∧ Cnt c M w ∧ ∀ w', Cnt c (M + 1) w' → cntJ c N p q (rem.erase q) w' := by
 unfold cntJ at h
 rw [if_pos hq] at h
 refine ⟨_, by split <;> omega, h, fun w' h' => ?_⟩
 unfold cntJ
 rw [if_neg (show ¬ q ∈ rem.erase q from fun h => (hnd.mem_erase_iff.1 h).1 rfl)]
 simp only [List.mem_erase_of_ne hpq]
 exact h'.mono (by omega)
theorem cntJ_start (h : Cnt c N w) : cntJ c N p q rem w := h.mono (by omega)
theorem cntJ_end (h : cntJ c N p q [] w) : Cnt c (N + 2) w := h.mono (by simp)
end
end Go.Proofs.Ytiodmkokpfgkkaa
