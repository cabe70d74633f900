/- Plain laws for PayCheck: a pay whose payments are cut is valid and breaks no rule if none before the cut did. -/
import Derived.Test.YtlcolpnniipgbaaDoorLawG
namespace Go.Proofs.YtlcolpnniipgbaaDoor
open Go.RowKit Go.Hav
/-- The same pay with the first i payments alone. -/
def cutPaid (p : PayD) (i : Nat) : PayD := { p with paid := p.paid.take i }
theorem someB_cut (p : PayD) (i : Nat) (run who sheep : Int) : ∀ (n : Nat) (f s : Int), someB (cutPaid p i) run who sheep n f s = someB p run who sheep n f s := by
  intro n
  induction n with
  | zero => intro f s; rfl
  | succ n ih =>
    intro f s
    rw [someB, someB]
    simp only [ih]
    rfl
theorem wrongI_cut (p : PayD) (i : Nat) : wrongI (cutPaid p i) = wrongI p := by
  have h : ∀ n, wrongF (cutPaid p i) n = wrongF p n := by
    intro n
    induction n with
    | zero => rfl
    | succ n ih => rw [wrongF, wrongF, ih, show okRun (cutPaid p i) n = okRun p n from someB_cut p i _ _ _ _ _ _]
  exact h _
theorem payB_cut {p : PayD} (h : payB p = true) (i : Nat) : payB (cutPaid p i) = true := by
  have hl : (p.paid.take i).length ≤ p.paid.length := by rw [List.length_take]; omega
  simp only [payB, headB, Bool.and_eq_true, decide_eq_true_eq, List.all_eq_true] at h ⊢
  obtain ⟨⟨⟨⟨⟨⟨⟨⟨⟨⟨h1, h2⟩, h3⟩, h4⟩, h5⟩, h6⟩, h7⟩, h8⟩, h9⟩, h10⟩, h11⟩ := h
  refine ⟨⟨⟨⟨⟨⟨⟨⟨⟨⟨h1, h2⟩, h3⟩, h4⟩, h5⟩, h6⟩, ?_⟩, h8⟩, h9⟩, h10⟩, fun x hx => h11 x (List.mem_of_mem_take hx)⟩
  show (p.paid.take i).length ≤ 8
  omega
theorem shornS_cut (p : PayD) (i : Nat) (who run : Int) : shornS (cutPaid p i) who run = shornS p who run := by
  simp only [shornS, someB_cut]
  rfl
theorem twiceF_cut (l : List Pd) (x : Pd) (i : Nat) : ∀ n, n ≤ i → twiceF (l.take i) x n = twiceF l x n := by
  intro n
  induction n with
  | zero => intro _; rfl
  | succ n ih =>
    intro h
    simp only [twiceF]
    rw [ih (by omega), List.getElem?_take, if_pos (by omega)]
theorem ruleX_cut (p : PayD) (x : Pd) (i n : Nat) (h : n ≤ i) : ruleX (cutPaid p i) x n = ruleX p x n := by
  unfold ruleX muchB
  rw [show (cutPaid p i).paid = p.paid.take i from rfl, twiceF_cut _ _ _ _ h, shornS_cut]
  rfl
theorem checkF_cut {p : PayD} {i : Nat} (h : ∀ (j : Nat) x, j < i → p.paid[j]? = some x → ruleX p x j = 0) : ∀ n k, checkF (cutPaid p i) (ruleX (cutPaid p i)) n k = (0, 0, 4) := by
  intro n
  induction n with
  | zero => intro k; rfl
  | succ n ih =>
    intro k
    rw [checkF]
    cases hx : (cutPaid p i).paid[k]? with
    | none => rfl
    | some x =>
      have hx' : (p.paid.take i)[k]? = some x := hx
      rw [List.getElem?_take] at hx'
      split at hx'
      · rename_i hk
        simp only
        rw [ruleX_cut p x i k (by omega), if_pos (h k x hk hx'), ih]
      · cases hx'
theorem checkR_cut {p : PayD} {i : Nat} (hv : payB p = true) (ht : wrongI p = 0) (h : ∀ (j : Nat) x, j < i → p.paid[j]? = some x → ruleX p x j = 0) : checkR (cutPaid p i) (ruleX (cutPaid p i)) = (0, 0, 4) := by
  have e : checkE (cutPaid p i) true true = 0 := by rw [checkE_fine (payB_cut hv i) rfl, wrongI_cut]; simp [ht]
  rw [checkR, if_pos e, checkF_cut h]
/-- The rule, by what the law itself looks up. -/
theorem ruleX_eq {p : PayD} (hv : payB p = true) (ht : wrongI p = 0) {n : Nat} {x : Pd} (hx : p.paid[n]? = some x) :
    ruleX p x n = if twiceF p.paid x n then 1 else if standsI p x.who x.run < 0 then 2 else if (sheepS p x.who x.run).hi * p.rate / 100 < x.pence then 3 else 0 := by
  obtain ⟨x1, x2, x3, x4, _, _⟩ := payB_paid hv hx
  unfold ruleX muchB
  rw [shornS_eq hv x.who x.run x1 x2 x3 x4 ((wrongI_zero p).1 ht x.run.toNat (by omega))]
  simp
end Go.Proofs.YtlcolpnniipgbaaDoor
