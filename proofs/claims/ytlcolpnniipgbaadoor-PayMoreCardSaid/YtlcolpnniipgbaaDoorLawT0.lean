/- Plain laws for PayStands (no program in sight): a pay whose calls that do not stand are left out, and one of which a call is struck. -/
import Derived.Test.YtlcolpnniipgbaaDoorLawF
namespace Go.Proofs.YtlcolpnniipgbaaDoor
/-! Two pays that agree in what was called. -/
structure SameCalled (p q : PayD) : Prop where
  epeople : q.people = p.people
  eruns : q.runs = p.runs
  erate : q.rate = p.rate
  ecalled : ∀ who run, calledS q who run = calledS p who run
section
variable {p q : PayD}
theorem SameCalled.some (h : SameCalled p q) (run who sheep : Int) : ∀ (n : Nat) (f s : Int), someB q run who sheep n f s = someB p run who sheep n f s := by
  intro n
  induction n with
  | zero => intro f s; rw [someB, someB, h.eruns]
  | succ n ih =>
    intro f s
    rw [someB, someB]
    simp only [ih, h.ecalled]
theorem SameCalled.wrong (h : SameCalled p q) : wrongI q = wrongI p := by
  have hw : ∀ n, wrongF q n = wrongF p n := by
    intro n
    induction n with
    | zero => rfl
    | succ n ih =>
      rw [wrongF, wrongF, ih]
      rw [show okRun q n = okRun p n by unfold okRun; rw [h.some, h.epeople]]
  unfold wrongI
  rw [hw, h.eruns]
theorem SameCalled.lo (h : SameCalled p q) (run who k : Int) : ∀ (n : Nat) (f : Int), loF q run who k n f = loF p run who k n f ∧ hiF q run who k n f = hiF p run who k n f := by
  intro n
  induction n with
  | zero => intro f; exact ⟨rfl, rfl⟩
  | succ n ih =>
    intro f
    have h1 := ih (f + 1)
    rw [loF, hiF, h1.1, h1.2, h.ecalled, loF, hiF]
    exact ⟨rfl, rfl⟩
theorem SameCalled.all (h : SameCalled p q) (run but : Int) : allS q run but = allS p run but := by
  unfold allS
  rw [h.epeople, (h.lo run but 0 _ 0).1, (h.lo run but 0 _ 0).2]
theorem SameCalled.sheep (h : SameCalled p q) (who run : Int) : sheepS q who run = sheepS p who run := by
  unfold sheepS runS
  rw [h.ecalled, h.all, h.eruns]
theorem SameCalled.wages (h : SameCalled p q) (who : Int) : wagesP q who = wagesP p who := by
  unfold wagesP
  rw [show (fun r => sheepS q who r) = fun r => sheepS p who r from funext fun r => h.sheep who r, h.erate, h.eruns]
end
/-! What stands, from the front. -/
def hitB (c : Ca) (who run : Int) : Prop := c.who = who ∧ c.run = run ∧ c.struck = false
instance (c : Ca) (who run : Int) : Decidable (hitB c who run) := by unfold hitB; infer_instance
def lastC (who run : Int) (l : List Ca) : Option Ca := l.foldl (fun a c => if hitB c who run then some c else a) none
theorem lastC_snoc (who run : Int) (l : List Ca) (c : Ca) : lastC who run (l ++ [c]) = if hitB c who run then some c else lastC who run l := by
  unfold lastC; rw [List.foldl_append]; rfl
theorem take_snoc {l : List Ca} {k : Nat} {c : Ca} (h : l[k]? = some c) : l.take (k + 1) = l.take k ++ [c] := by
  rw [List.take_add_one, h]; rfl
theorem stands_last (cs : List Ca) (who run : Int) : ∀ k : Nat, k ≤ cs.length → (standsF cs who run k = -1 ∧ lastC who run (cs.take k) = none) ∨ (0 ≤ standsF cs who run k ∧ ∃ c, cs[(standsF cs who run k).toNat]? = some c ∧ lastC who run (cs.take k) = some c) := by
  intro k
  induction k with
  | zero => intro _; exact .inl ⟨rfl, by simp [lastC]⟩
  | succ k ih =>
    intro h
    obtain ⟨c, hc⟩ : ∃ c, cs[k]? = some c := ⟨cs[k]'(by omega), by simp⟩
    rw [take_snoc hc, lastC_snoc]
    simp only [standsF, hc]
    by_cases hh : c.who = who ∧ c.run = run ∧ c.struck = false
    · rw [if_pos hh, if_pos (show hitB c who run from hh)]
      exact .inr ⟨by omega, c, by simpa using hc, rfl⟩
    · rw [if_neg hh, if_neg (show ¬ hitB c who run from hh)]
      exact ih (by omega)
theorem called_last (p : PayD) (who run : Int) : calledS p who run = ((lastC who run p.calls).map (·.sh)).getD ⟨0, 0⟩ := by
  have h := stands_last p.calls who run p.calls.length (Nat.le_refl _)
  rw [List.take_length] at h
  unfold calledS
  rcases h with ⟨h1, h2⟩ | ⟨h1, c, h2, h3⟩
  · rw [if_pos (by unfold standsI; omega), h2]; rfl
  · rw [if_neg (by unfold standsI; omega), h3]
    unfold standsI
    rw [h2]; rfl
/-! Only the calls that stand. -/
def keptL (p : PayD) : Nat → List Ca
  | 0 => []
  | m + 1 => match p.calls[m]? with
    | some c => if standsI p c.who c.run = m then keptL p m ++ [c] else keptL p m
    | none => keptL p m
def keptP (p : PayD) : PayD := { p with calls := keptL p p.calls.length }
theorem keptL_len (p : PayD) : ∀ m, (keptL p m).length ≤ m := by
  intro m
  induction m with
  | zero => simp [keptL]
  | succ m ih =>
    rw [keptL]
    split
    · split
      · rw [List.length_append]; simp; omega
      · omega
    · omega
theorem keptL_mem (p : PayD) : ∀ m c, c ∈ keptL p m → c ∈ p.calls := by
  intro m
  induction m with
  | zero => intro c h; cases h
  | succ m ih =>
    intro c h
    rw [keptL] at h
    split at h
    · rename_i d hd
      split at h
      · rw [List.mem_append] at h
        rcases h with h | h
        · exact ih c h
        · rw [List.mem_singleton] at h
          subst h
          exact List.mem_of_getElem? hd
      · exact ih c h
    · exact ih c h
theorem lastC_kept (p : PayD) (who run : Int) : ∀ m, m ≤ p.calls.length → lastC who run (keptL p m) = if 0 ≤ standsI p who run ∧ standsI p who run < m then p.calls[(standsI p who run).toNat]? else none := by
  have hs := standsF_lt p.calls who run p.calls.length
  change -1 ≤ standsI p who run ∧ standsI p who run < _ ∧ (0 ≤ standsI p who run → ∃ c, p.calls[(standsI p who run).toNat]? = some c ∧ _) at hs
  obtain ⟨_, _, hs3⟩ := hs
  intro m
  induction m with
  | zero => intro _; rw [if_neg (by omega)]; rfl
  | succ m ih =>
    intro h
    obtain ⟨c, hc⟩ : ∃ c, p.calls[m]? = some c := ⟨p.calls[m]'(by omega), by simp⟩
    rw [keptL, hc]
    simp only
    have hi := ih (by omega)
    by_cases e : standsI p who run = m
    · obtain ⟨d, hd, h1, h2, h3⟩ := hs3 (by omega)
      rw [e, Int.toNat_natCast, hc] at hd
      obtain rfl := Option.some.inj hd
      rw [h1, h2, if_pos e, lastC_snoc, if_pos ⟨h1, h2, h3⟩, e, Int.toNat_natCast, if_pos (by omega), hc]
    · have hcond : (0 ≤ standsI p who run ∧ standsI p who run < ((m + 1 : Nat) : Int)) ↔ (0 ≤ standsI p who run ∧ standsI p who run < m) := by omega
      simp only [hcond]
      split
      · rename_i hk
        rw [lastC_snoc, if_neg, hi]
        rintro ⟨h1, h2, _⟩
        rw [h1, h2] at hk
        exact e hk
      · exact hi
theorem kept_same (p : PayD) : SameCalled p (keptP p) := by
  refine ⟨rfl, rfl, rfl, fun who run => ?_⟩
  rw [called_last, called_last]
  rw [show (keptP p).calls = keptL p p.calls.length from rfl, lastC_kept p who run _ (Nat.le_refl _)]
  have h := stands_last p.calls who run p.calls.length (Nat.le_refl _)
  rw [List.take_length] at h
  have hs := standsF_lt p.calls who run p.calls.length
  rcases h with ⟨h1, h2⟩ | ⟨h1, c, h2, h3⟩
  · rw [if_neg (by unfold standsI; omega), h2]
  · rw [if_pos ⟨h1, hs.2.1⟩, h3]
    unfold standsI
    rw [h2]
theorem payB_kept {p : PayD} (h : payB p = true) : payB (keptP p) = true := by
  have hl := keptL_len p p.calls.length
  simp only [payB, headB, Bool.and_eq_true, decide_eq_true_eq, List.all_eq_true] at h ⊢
  obtain ⟨⟨⟨⟨⟨⟨⟨⟨⟨⟨h1, h2⟩, h3⟩, h4⟩, h5⟩, h6⟩, h7⟩, h8⟩, h9⟩, h10⟩, h11⟩ := h
  refine ⟨⟨⟨⟨⟨⟨⟨⟨⟨⟨h1, h2⟩, ?_⟩, h4⟩, h5⟩, h6⟩, h7⟩, h8⟩, fun c hc => h9 c (keptL_mem p _ c hc)⟩, h10⟩, h11⟩
  show (keptL p p.calls.length).length ≤ 12
  omega
theorem wages_kept {p : PayD} (hv : payB p = true) (who : Int) : spanR (checkE (keptP p) (whoB (keptP p) who) true) (wagesP (keptP p) who) = spanR (checkE p (whoB p who) true) (wagesP p who) := by
  rw [(kept_same p).wages]
  congr 1
  unfold checkE
  rw [payB_kept hv, hv, (kept_same p).wrong]
  rfl
/-! A call is struck. -/
def strike (c : Ca) : Ca := { c with struck := true }
def struckP (p : PayD) (n : Nat) (c : Ca) : PayD := { p with calls := p.calls.set n (strike c) }
theorem stands_struck {cs : List Ca} {who run : Int} {n : Nat} {c : Ca} (hn : n < cs.length) : ∀ k : Nat, standsF cs who run k ≤ n → (standsF cs who run k = n ∨ standsF cs who run k < n ∧ k ≤ n) → standsF (cs.set n (strike c)) who run k < n := by
  intro k
  induction k with
  | zero => intro _ _; show (-1 : Int) < n; omega
  | succ k ih =>
    intro h h2
    have hlt := (standsF_lt cs who run k).2.1
    by_cases e : k = n
    · subst e
      simp only [standsF]
      rw [List.getElem?_set_self hn]
      simp only
      rw [if_neg (by rintro ⟨_, _, h3⟩; cases h3)]
      exact ih (by omega) (.inr ⟨hlt, Nat.le_refl _⟩)
    · simp only [standsF] at h h2 ⊢
      rw [List.getElem?_set_ne (fun h => e h.symm)]
      cases hc : cs[k]? with
      | none =>
        rw [hc] at h h2
        simp only at h h2 ⊢
        exact ih h (by omega)
      | some d =>
        rw [hc] at h h2
        simp only at h h2 ⊢
        by_cases hh : d.who = who ∧ d.run = run ∧ d.struck = false
        · rw [if_pos hh] at h h2 ⊢
          omega
        · rw [if_neg hh] at h h2 ⊢
          exact ih h (by omega)
theorem standsI_struck {p : PayD} {who run : Int} {n : Nat} {c : Ca} (hn : n < p.calls.length) (hs : standsI p who run = n) : standsI (struckP p n c) who run < n := by
  unfold standsI struckP
  simp only [List.length_set]
  exact stands_struck hn _ (Int.le_of_eq hs) (.inl hs)
theorem payB_struck {p : PayD} {n : Nat} {c : Ca} (h : payB p = true) (hc : p.calls[n]? = some c) : payB (struckP p n c) = true := by
  simp only [payB, headB, Bool.and_eq_true, decide_eq_true_eq, List.all_eq_true] at h ⊢
  obtain ⟨⟨⟨⟨⟨⟨⟨⟨⟨⟨h1, h2⟩, h3⟩, h4⟩, h5⟩, h6⟩, h7⟩, h8⟩, h9⟩, h10⟩, h11⟩ := h
  refine ⟨⟨⟨⟨⟨⟨⟨⟨⟨⟨h1, h2⟩, ?_⟩, h4⟩, h5⟩, h6⟩, h7⟩, h8⟩, fun d hd => ?_⟩, h10⟩, h11⟩
  · show (p.calls.set n (strike c)).length ≤ 12
    rw [List.length_set]; exact h3
  · rcases List.mem_or_eq_of_mem_set hd with h | rfl
    · exact h9 d h
    · exact h9 c (List.mem_of_getElem? hc)
theorem standsR_struck {p : PayD} {who run : Int} {n : Nat} {c : Ca} (hv : payB p = true) (hc : p.calls[n]? = some c) (hb : (whoB p who && runB p run) = true) (hs : standsI p who run = n) :
    (standsR (struckP p n c) who run = (0, 4)) ∨ (∃ o : Int, 0 ≤ o ∧ o < n ∧ standsR (struckP p n c) who run = (o, 0)) := by
  have hn : n < p.calls.length := (List.getElem?_eq_some_iff.1 hc).1
  have hlt := standsI_struck (c := c) hn hs
  have e0 : checkE (struckP p n c) (whoB (struckP p n c) who && runB (struckP p n c) run) false = 0 := by
    rw [checkE_fine (payB_struck hv hc) (show (whoB (struckP p n c) who && runB (struckP p n c) run) = true from hb)]; simp
  unfold standsR
  rw [if_pos e0]
  by_cases h : standsI (struckP p n c) who run < 0
  · rw [if_pos h]; exact .inl rfl
  · rw [if_neg h]; exact .inr ⟨_, by omega, hlt, rfl⟩
end Go.Proofs.YtlcolpnniipgbaaDoor
