/- An append of one element: what the row held it still holds, also with the element behind it; conditions: the row is owned, elements are one cell each. -/
import Derived.Test.YtbfjebglaimcmaaPlan2w
import Derived.Laws.CopyRow
namespace Go.Proofs.Ytbfjebglaimcmaa
open Go.RowKit Go.Hav
theorem result_eq {α : Type} {r : Result α} {v v' : α} {w w' : World} (h : r = .ok v w) (h' : r = .ok v' w') : v = v' ∧ w = w' := by
  rw [h] at h'
  injection h' with h1 h2
  exact ⟨h1, h2⟩
section
variable {P : Program} {w : World}
theorem below_drew_alloc (w : World) (o : Obj) : Below w.heap.size w (w.drew.alloc o) := (Below.drew (Below.refl _ _)).alloc (Nat.le_refl _) _
theorem append_keep (base : Nat) (t ty e : TypeId) (i : TypeInfo) (z : Value) (bytes : Nat) (ht : P.underlying t = some (.slice e)) (hi : P.info? e = some i) (hz : i.zero = some z)
    (hsize : i.size = 1) (hby : i.bytes = bytes) (hzs : z.cells.size = 1) (v : Value) (n : Nat) (xs : List Value) (hown : w.ownsRow base e 1 v n xs)
    (a : Addr) (c : Nat) (u : Value) (hnews : w.cell? a = some u) (h1 : u.oneCell' = true) (h63 : n + 1 ≤ 100000) (hb : bytes ≤ 100000) (hbase : base ≤ w.heap.size) :
    ∃ v' w', (Builtin.append_ #[t, t] ty #[v, .slice (some a) 1 c]).run P w = .ok v' w' ∧ w'.ownsRow base e 1 v' (n + 1) (xs ++ [u]) ∧ w.grownBy w' v.ownBlock ∧ w'.ownsRow base e 1 v n xs ∧
      ∀ v2, w.ownsRow base e 1 v2 (n + 1) (xs ++ [u]) → w'.ownsRow base e 1 v2 (n + 1) (xs ++ [u]) := by
  have hnews' : ∀ j x, ([u] : List Value)[j]? = some x → w.cell? (a.add j) = some x := fun j x hx => by
    cases j with
    | zero => simp at hx; subst hx; simpa [Addr.add] using hnews
    | succ j => simp at hx
  have h1' : ∀ x ∈ [u], x.oneCell' = true := by simpa using h1
  have hbb : (n + 1) * bytes ≤ 140737488355328 := Nat.le_trans (Nat.mul_le_mul h63 hb) (by decide)
  obtain ⟨v', w', hrun, hown', hg, _⟩ := run_append_own (P := P) w base t ty e i z 1 bytes ht hi hz hsize hby hzs (by decide) v n xs hown a 1 c [u] rfl hnews' h1' (by unfold maxLen; omega) hbb hbase
  refine ⟨v', w', hrun, hown', hg, ?_⟩
  have key : Below w.heap.size w w' → w'.ownsRow base e 1 v n xs ∧ ∀ v2, w.ownsRow base e 1 v2 (n + 1) (xs ++ [u]) → w'.ownsRow base e 1 v2 (n + 1) (xs ++ [u]) :=
    fun hbl => ⟨own_below hown hbl, fun v2 h2 => own_below h2 hbl⟩
  rcases hown.2 with ⟨rfl, rfl⟩ | ⟨g, cap, cur, rfl, hbg, hgg, hnc, hcm, hcs, htake⟩
  · have hr := run_append_nil (P := P) w t ty e i z ht hi hz a 1 c [u] (by rw [hsize]; rfl) hnews' (by decide) (by decide) (by rw [hby]; omega)
    obtain ⟨_, rfl⟩ := result_eq hrun hr
    exact key (below_drew_alloc _ _)
  · by_cases hroom : n + 1 ≤ cap
    · have hfit : n * i.size + [u].length ≤ cur.size := by rw [hsize, hcs]; simp; omega
      have hr := run_append_room (P := P) w t ty e i ht hi g n cap cur hgg a 1 c [u] (by rw [hsize]; rfl) hnews' h1' hroom hfit
      obtain ⟨_, rfl⟩ := result_eq hrun hr
      rw [hsize, Nat.mul_one]
      have hset := setRow_heap w g cur (cur.toList.take n ++ [u] ++ cur.toList.drop (n + [u].length)).toArray e _ hgg
      have hxl : xs.length = n := by have := hown.1; omega
      have htk : cur.toList.take n = xs := by rw [← htake, Nat.mul_one]
      have hcl : cur.toList.length = cap := by simp; omega
      refine ⟨⟨hown.1, .inr ⟨g, cap, _, rfl, hbg, hset, hnc, hcm, ?_, ?_⟩⟩, fun v2 h2 => ⟨h2.1, ?_⟩⟩
      · simp; omega
      · simp [htk, hxl]
      · rcases h2.2 with ⟨rfl, hh⟩ | ⟨g2, cap2, cur2, rfl, hbg2, hgg2, hnc2, hcm2, hcs2, htake2⟩
        · omega
        · by_cases hgq : g2 = g
          · subst hgq
            rw [hgg] at hgg2
            injection hgg2 with hgg2
            injection hgg2 with hc1 _ _
            subst hc1
            have e1 : (cur.toList.take n ++ [u] ++ cur.toList.drop (n + [u].length)).toArray = cur := by
              rw [Nat.mul_one] at htake2
              rw [htk, ← htake2, List.length_singleton, List.take_append_drop]
            rw [e1] at hset
            exact .inr ⟨g2, cap2, cur, rfl, hbg2, by rw [e1]; exact hset, hnc2, hcm2, hcs2, htake2⟩
          · exact .inr ⟨g2, cap2, cur2, rfl, hbg2, (setRow_other w g g2 _ hgq).trans hgg2, hnc2, hcm2, hcs2, htake2⟩
    · have holds : ∀ j x, xs[j]? = some x → w.cell? ((⟨g, 0, none⟩ : Addr).add j) = some x := hown.cells (g := g) rfl
      have hr := run_append_grow (P := P) w t ty e i z ht hi hz ⟨g, 0, none⟩ n cap xs (by rw [hsize]; exact hown.1) holds a 1 c [u] (by rw [hsize]; rfl) hnews' (by omega) (by omega) (growslice_fits (by omega) (by rw [hby]; exact hbb))
      obtain ⟨_, rfl⟩ := result_eq hrun hr
      exact key (below_drew_alloc _ _)
end
end Go.Proofs.Ytbfjebglaimcmaa
