/- What TopLine leans on: an append to a row of one's own, and where the new row lies; as many fleeces wait as are not pressed. Conditions: what the lemmas say. TopLine's lists, as plain Lean. No condition. -/
import Derived.Test.YtbfjebglaimcmaaPlain6
import Derived.Test.YtbfjebglaimcmaaWait1
import Derived.Test.YtbfjebglaimcmaaSeqA
import Derived.Test.YtbfjebglaimcmaaClsP
namespace Go.Proofs.Ytbfjebglaimcmaa
open Go.RowKit Go.Hav Go.Sq
/-- An append of one element: its block is the row's, or a new one. -/
theorem append_sep {P : Program} {w : World} (base : Nat) (t ty e : TypeId) (i : TypeInfo) (z : Value) (size bytes : Nat) (ht : P.underlying t = some (.slice e)) (hi : P.info? e = some i) (hz : i.zero = some z)
    (hsize : i.size = size) (hby : i.bytes = bytes) (hzs : z.cells.size = size) (hsz : 0 < size) (v : Value) (n : Nat) (xs : List Value) (hown : w.ownsRow base e size v n xs)
    (a : Addr) (c : Nat) (ys : List Value) (hl : ys.length = size) (hnews : ∀ j x, ys[j]? = some x → w.cell? (a.add j) = some x) (h1 : ∀ x ∈ ys, x.oneCell' = true) (h63 : n + 1 ≤ 100000) (hb : bytes ≤ 100000) (hbase : base ≤ w.heap.size) :
    ∃ v' w', (Builtin.append_ #[t, t] ty #[v, .slice (some a) 1 c]).run P w = .ok v' w' ∧ w'.ownsRow base e size v' (n + 1) (xs ++ ys) ∧ w.grownBy w' v.ownBlock ∧ (∀ k, v'.ownBlock = some k → v.ownBlock = some k ∨ w.heap.size ≤ k) := by
  have hbb : (n + 1) * bytes ≤ 140737488355328 := Nat.le_trans (Nat.mul_le_mul h63 hb) (by decide)
  have hl1 : ys.length = 1 * i.size := by rw [hl, hsize, Nat.one_mul]
  obtain ⟨v', w', hrun, hown', hg, _⟩ := run_append_own (P := P) w base t ty e i z size bytes ht hi hz hsize hby hzs hsz v n xs hown a 1 c ys (by rw [hl, Nat.one_mul]) hnews h1 (by unfold maxLen; omega) hbb hbase
  refine ⟨v', w', hrun, hown', hg, ?_⟩
  rcases hown.2 with ⟨rfl, rfl⟩ | ⟨g, cap, cur, rfl, hbg, hgg, hnc, hcm, hcs, htake⟩
  · have hr := run_append_nil (P := P) w t ty e i z ht hi hz a 1 c ys hl1 hnews (by decide) (by decide) (by rw [hby]; omega)
    obtain ⟨rfl, _⟩ := result_eq hrun hr
    intro k hk
    simp [Value.ownBlock] at hk
    right; omega
  · by_cases hroom : n + 1 ≤ cap
    · have hns : n * size + size ≤ cap * size := by rw [← Nat.succ_mul]; exact Nat.mul_le_mul hroom (Nat.le_refl _)
      have hfit : n * i.size + ys.length ≤ cur.size := by rw [hsize, hcs, hl]; exact hns
      have hr := run_append_room (P := P) w t ty e i ht hi g n cap cur hgg a 1 c ys hl1 hnews h1 hroom hfit
      obtain ⟨rfl, _⟩ := result_eq hrun hr
      intro k hk
      left
      simpa [Value.ownBlock] using hk
    · have holds : ∀ j x, xs[j]? = some x → w.cell? ((⟨g, 0, none⟩ : Addr).add j) = some x := hown.cells (g := g) rfl
      have hr := run_append_grow (P := P) w t ty e i z ht hi hz ⟨g, 0, none⟩ n cap xs (by rw [hsize]; exact hown.1) holds a 1 c ys hl1 hnews (by omega) (by omega) (growslice_fits (by omega) (by rw [hby]; exact hbb))
      obtain ⟨rfl, _⟩ := result_eq hrun hr
      intro k hk
      simp [Value.ownBlock] at hk
      right; omega
/-- Of the first fleeces each one waits, of its line, or is pressed. -/
theorem wait_sum {p : PressD} {L : List Nat} : ∀ n, (∀ i, i < n → 0 ≤ p.line i ∧ p.line i < 3) → waitK p L n 0 + waitK p L n 1 + waitK p L n 2 + pop (orL L) n = n
  | 0, _ => rfl
  | n + 1, h => by
    have ih := wait_sum (p := p) (L := L) n (fun i hi => h i (by omega))
    obtain ⟨h0, h3⟩ := h n (by omega)
    have hw : waits L n = !(orL L).testBit n := by rw [tb_orL]; rfl
    simp only [waitK, pop, sb] at ih ⊢
    rw [hw]
    cases (orL L).testBit n with
    | true => simp; omega
    | false =>
      obtain e | e | e : p.line n = 0 ∨ p.line n = 1 ∨ p.line n = 2 := by omega
      · simp [e]; omega
      · simp [e]; omega
      · simp [e]; omega
end Go.Proofs.Ytbfjebglaimcmaa
namespace Go.Proofs.Ytbfjebglaimcmaa
/-- How many fleeces a set has. -/
def popN (s : Nat) : Nat := (pop s 10).toNat
theorem popN_cast (s : Nat) : pop s 10 = (popN s : Int) := by have := (pop_bd s 10).1; unfold popN; omega
theorem popN_le (s : Nat) : popN s ≤ 10 := by have := (pop_bd s 10).2; have := popN_cast s; omega
theorem popN_and (s b : Nat) : popN (s &&& b) ≤ popN s := by
  have h : pop (s &&& b) 10 ≤ pop s 10 := by
    have hc := sb_cut (fun _ => 1) s b 10
    have hd := (pop_bd (dif s b) 10).1
    unfold pop at hd ⊢
    omega
  have := popN_cast s
  have := popN_cast (s &&& b)
  omega
theorem pops_cast (L : List Nat) : pops L = ((L.map popN).sum : Nat) := by
  induction L with
  | nil => rfl
  | cons a L ih =>
    have e : pops (a :: L) = pop a 10 + pops L := by unfold pops; simp
    rw [e, ih, popN_cast]
    simp
/-- Where the first one is that has more than may be. -/
def fstI (may : Nat) (ks : List Nat) : Int := match ks.findIdx? (fun k => decide (may < k)) with | some i => (i : Int) | none => -1
theorem fstI_snoc (may : Nat) (ks : List Nat) (k : Nat) : fstI may (ks ++ [k]) = if may < k ∧ fstI may ks < 0 then (ks.length : Int) else fstI may ks := by
  unfold fstI
  rw [List.findIdx?_append]
  cases h : ks.findIdx? (fun k => decide (may < k)) with
  | some i =>
    rw [if_neg (fun h => by have := h.2; simp only at this; omega)]
    rfl
  | none =>
    by_cases hk : may < k
    · rw [if_pos ⟨hk, by simp⟩]
      simp [List.findIdx?_cons, hk]
    · rw [if_neg (fun h => hk h.1)]
      simp [List.findIdx?_cons, hk]
theorem fstI_cases (may : Nat) (ks : List Nat) : (fstI may ks = -1 ∧ ks.findIdx? (fun k => decide (may < k)) = none ∧ ks.all (fun k => decide (k ≤ may)) = true) ∨ ∃ i : Nat, fstI may ks = i ∧ i < ks.length ∧ ks.findIdx? (fun k => decide (may < k)) = some i ∧ ks.all (fun k => decide (k ≤ may)) = false := by
  unfold fstI
  cases h : ks.findIdx? (fun k => decide (may < k)) with
  | none =>
    refine .inl ⟨rfl, rfl, List.all_eq_true.2 fun k hk => ?_⟩
    have := List.findIdx?_eq_none_iff.1 h k hk
    simp at this
    simpa using this
  | some i =>
    obtain ⟨hi, hp, -⟩ := List.findIdx?_eq_some_iff_getElem.1 h
    refine .inr ⟨i, rfl, hi, rfl, ?_⟩
    cases ha : ks.all (fun k => decide (k ≤ may)) with
    | false => rfl
    | true =>
      have := List.all_eq_true.1 ha (ks[i]) (List.getElem_mem hi)
      simp at this hp
      omega
end Go.Proofs.Ytbfjebglaimcmaa
