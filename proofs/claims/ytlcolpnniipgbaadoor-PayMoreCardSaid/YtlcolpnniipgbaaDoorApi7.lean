/- What the exported functions return, for every pay: as the document's answer. -/
import Derived.Test.YtlcolpnniipgbaaDoorApi6
import Derived.Test.YtlcolpnniipgbaaDoorRef9
import Derived.Test.YtlcolpnniipgbaaDoorRef12
import Derived.Test.YtlcolpnniipgbaaDoorRef14
namespace Go.Proofs.YtlcolpnniipgbaaDoor
open Go.RowKit Go.Hav
theorem calledS_setRun (p : PayD) (r : Nat) (s : Sp) (who run : Int) : calledS (setRun p r s) who run = calledS p who run := rfl
theorem loF_setRun (p : PayD) (r : Nat) (s : Sp) (run who k : Int) : ∀ (n : Nat) (f : Int), loF (setRun p r s) run who k n f = loF p run who k n f ∧ hiF (setRun p r s) run who k n f = hiF p run who k n f := by
  intro n
  induction n with
  | zero => intro f; exact ⟨rfl, rfl⟩
  | succ n ih =>
    intro f
    have h := ih (f + 1)
    rw [loF, hiF, h.1, h.2, calledS_setRun, loF, hiF]
    exact ⟨rfl, rfl⟩
theorem outH_eq {p : PayD} (hv : payB p = true) (r : Nat) (hr : r < p.runs.length) (hok : okRun p r = true) : outH p r = outS p r := by
  obtain ⟨e, e1, e2, e3⟩ := runS_ok hv r (by omega) (by omega)
  have ha := allS_ok hv r (-1)
  have ho := (okRun_iff hv r hr).1 hok
  rw [outH, outS]
  refine hullS_interval ?_ ?_ ?_ ?_ ?_ ?_
  · simp only; omega
  · simp only; omega
  · omega
  · omega
  · omega
  · intro n n1 n2
    have hv2 := setRun_payB hv r n (by omega) (by omega)
    have hl : r < (setRun p r ⟨n, n⟩).runs.length := by simp [setRun, hr]
    rw [okRun_iff hv2 r hl]
    have hrs : runS (setRun p r ⟨n, n⟩) r = ⟨n, n⟩ := by
      have hlt : r < (p.runs.set r ⟨n, n⟩).length := by simpa using hr
      simp only [runS, setRun, Int.toNat_natCast]
      rw [List.getElem?_eq_getElem hlt]
      simp
    have has : allS (setRun p r ⟨n, n⟩) r (-1) = allS p r (-1) := by
      have h := loF_setRun p r ⟨n, n⟩ r (-1) 0 p.people.toNat 0
      unfold allS
      show (⟨loF (setRun p r ⟨n, n⟩) r (-1) 0 p.people.toNat 0, hiF (setRun p r ⟨n, n⟩) r (-1) 0 p.people.toNat 0⟩ : Sp) = _
      rw [h.1, h.2]
    rw [hrs, has]
    simp only
    omega
section
variable {people rate bill : Int} {ra ca da pa : Option Addr} {rl rc cl cc dl dc pl pc : Nat} {p : PayD}
theorem valid_cases (p : PayD) (b : Bool) : (payB p = false ∨ b = false) ∨ (payB p = true ∧ b = true) := by
  cases payB p <;> cases b <;> simp
theorem checkE_fine {b t : Bool} (hv : payB p = true) (hb : b = true) : checkE p b t = if t = true ∧ wrongI p ≠ 0 then 10 else 0 := by
  unfold checkE
  subst hb
  rw [hv]
  cases t <;> by_cases h : wrongI p = 0 <;> simp [h]
theorem checkE_ne {b t : Bool} (h : payB p = false ∨ b = false) : checkE p b t ≠ 0 := by
  rw [checkE_bad h]
  split <;> omega
theorem PStands_any (who run : Int) (w : World) (hP : PayIn w w.heap.size people ra rl ca cl rate bill da dl pa pl p) :
    Calls Tryd.prog 14 #[payV people ra rl rc ca cl cc rate bill da dl dc pa pl pc, .int .i64 who, .int .i64 run] w fun e w' => e = .returned (.tuple #[.int .i64 (standsR p who run).1, .int .i64 (standsR p who run).2]) ∧ Below w.heap.size w w' := by
  rcases valid_cases p (whoB p who && runB p run) with h | ⟨h1, h2⟩
  · have e : standsR p who run = (0, if payB p then 2 else 1) := by rw [standsR, if_neg (checkE_ne h), checkE_bad h]
    rw [e]
    exact PStands_err who run w hP h
  · have e0 : checkE p (whoB p who && runB p run) false = 0 := by rw [checkE_fine h1 h2]; simp
    by_cases hs : standsI p who run < 0
    · rw [show standsR p who run = (0, 4) by rw [standsR, if_pos e0, if_pos hs]]
      exact PStands_ok_none who run w hP h1 h2 hs
    · rw [show standsR p who run = (standsI p who run, 0) by rw [standsR, if_pos e0, if_neg hs]]
      exact PStands_ok who run w hP h1 h2 (by omega)
/-- Where there is a truth, and what is asked is valid, the span; else none, and why. -/
theorem span_cases (p : PayD) (b : Bool) (s : Sp) : (spanR (checkE p b true) s = (⟨0, 0⟩, if payB p then 2 else 1) ∧ (payB p = false ∨ b = false)) ∨ (spanR (checkE p b true) s = (⟨0, 0⟩, 10) ∧ payB p = true ∧ b = true ∧ wrongI p ≠ 0) ∨
    (spanR (checkE p b true) s = (s, 0) ∧ payB p = true ∧ b = true ∧ wrongI p = 0) := by
  rcases valid_cases p b with h | ⟨h1, h2⟩
  · exact .inl ⟨by rw [spanR_err (checkE_ne h), checkE_bad h], h⟩
  · by_cases ht : wrongI p = 0
    · refine .inr (.inr ⟨?_, h1, h2, ht⟩)
      rw [spanR_zero (by rw [checkE_fine h1 h2]; simp [ht])]
    · refine .inr (.inl ⟨?_, h1, h2, ht⟩)
      have : checkE p b true = 10 := by rw [checkE_fine h1 h2]; simp [ht]
      rw [this, spanR_err (by omega)]
theorem PSheep_any (who run : Int) (w : World) (hP : PayIn w w.heap.size people ra rl ca cl rate bill da dl pa pl p) :
    Calls Tryd.prog 16 #[payV people ra rl rc ca cl cc rate bill da dl dc pa pl pc, .int .i64 who, .int .i64 run] w fun e w' => e = .returned (.tuple #[spV (spanR (checkE p (whoB p who && runB p run) true) (sheepS p who run)).1, .int .i64 (spanR (checkE p (whoB p who && runB p run) true) (sheepS p who run)).2]) ∧ Below w.heap.size w w' := by
  rcases span_cases p (whoB p who && runB p run) (sheepS p who run) with ⟨e, h⟩ | ⟨e, h1, h2, h3⟩ | ⟨e, h1, h2, h3⟩ <;> rw [e]
  · exact PSheep_err who run w hP h
  · exact PSheep_clash who run w hP h1 h2 h3
  · exact PSheep_ok who run w hP h1 h2 h3
theorem POut_any (run : Int) (w : World) (hP : PayIn w w.heap.size people ra rl ca cl rate bill da dl pa pl p) :
    Calls Tryd.prog 18 #[payV people ra rl rc ca cl cc rate bill da dl dc pa pl pc, .int .i64 run] w fun e w' => e = .returned (.tuple #[spV (spanR (checkE p (runB p run) true) (outS p run)).1, .int .i64 (spanR (checkE p (runB p run) true) (outS p run)).2]) ∧ Below w.heap.size w w' := by
  rcases span_cases p (runB p run) (outS p run) with ⟨e, h⟩ | ⟨e, h1, h2, h3⟩ | ⟨e, h1, h2, h3⟩ <;> rw [e]
  · exact POut_err run w hP h
  · exact POut_clash run w hP h1 h2 h3
  · exact POut_ok run w hP h1 h2 h3
/-- What a shearer has earned. -/
def wagesP (p : PayD) (who : Int) : Sp := wagesF (fun r => sheepS p who r) p.rate p.runs.length
theorem PWages_any (who : Int) (w : World) (hP : PayIn w w.heap.size people ra rl ca cl rate bill da dl pa pl p) :
    Calls Tryd.prog 20 #[payV people ra rl rc ca cl cc rate bill da dl dc pa pl pc, .int .i64 who] w fun e w' => e = .returned (.tuple #[spV (spanR (checkE p (whoB p who) true) (wagesP p who)).1, .int .i64 (spanR (checkE p (whoB p who) true) (wagesP p who)).2]) ∧ Below w.heap.size w w' := by
  rcases span_cases p (whoB p who) (wagesP p who) with ⟨e, h⟩ | ⟨e, h1, h2, h3⟩ | ⟨e, h1, h2, h3⟩ <;> rw [e]
  · exact PWages_err who w hP h
  · exact PWages_clash who w hP h1 h2 h3
  · rw [wagesP, hP.erate, hP.erl]
    exact PWages_ok who w hP h1 h2 h3
theorem PMess_any (who : Int) (w : World) (hP : PayIn w w.heap.size people ra rl ca cl rate bill da dl pa pl p) :
    Calls Tryd.prog 22 #[payV people ra rl rc ca cl cc rate bill da dl dc pa pl pc, .int .i64 who] w fun e w' => e = .returned (.tuple #[.int .i64 (messR p who).1, .int .i64 (messR p who).2]) ∧ Below w.heap.size w w' := by
  rcases valid_cases p (whoB p who) with h | ⟨h1, h2⟩
  · rw [show messR p who = (0, if payB p then 2 else 1) by rw [messR, if_neg (checkE_ne h), checkE_bad h]]
    exact PMess_err who w hP h
  · have e0 : checkE p (whoB p who) false = 0 := by rw [checkE_fine h1 h2]; simp
    rw [show messR p who = (((sharesR p)[who.toNat]?).getD 0, 0) by rw [messR, if_pos e0]]
    exact PMess_ok who w hP h1 h2
/-- What is left to be paid. -/
def leftP (p : PayD) (who : Int) : Sp := offS (wagesP p who) (((sharesR p)[who.toNat]?).getD 0 + paidF p.paid who p.paid.length)
theorem PLeft_any (who : Int) (w : World) (hP : PayIn w w.heap.size people ra rl ca cl rate bill da dl pa pl p) :
    Calls Tryd.prog 24 #[payV people ra rl rc ca cl cc rate bill da dl dc pa pl pc, .int .i64 who] w fun e w' => e = .returned (.tuple #[spV (spanR (checkE p (whoB p who) true) (leftP p who)).1, .int .i64 (spanR (checkE p (whoB p who) true) (leftP p who)).2]) ∧ Below w.heap.size w w' := by
  rcases span_cases p (whoB p who) (leftP p who) with ⟨e, h⟩ | ⟨e, h1, h2, h3⟩ | ⟨e, h1, h2, h3⟩ <;> rw [e]
  · exact PLeft_err who w hP h
  · exact PLeft_clash who w hP h1 h2 h3
  · rw [leftP, wagesP, hP.erate, hP.erl, hP.epl]
    exact PLeft_ok who w hP h1 h2 h3
theorem PCheck_any (w : World) (hP : PayIn w w.heap.size people ra rl ca cl rate bill da dl pa pl p) (hR : RulesIn w) :
    Calls Tryd.prog 26 #[payV people ra rl rc ca cl cc rate bill da dl dc pa pl pc] w fun e w' => e = .returned (.tuple #[.int .i64 (checkR p (ruleX p)).1, .int .i64 (checkR p (ruleX p)).2.1, .int .i64 (checkR p (ruleX p)).2.2]) ∧ Below w.heap.size w w' := by
  cases hv : payB p
  · have h : payB p = false ∨ true = false := .inl hv
    rw [show checkR p (ruleX p) = (0, 0, 1) by rw [checkR, if_neg (checkE_ne h), checkE_bad h, hv]; rfl]
    exact PCheck_err w hP hv
  · by_cases ht : wrongI p = 0
    · rw [show checkR p (ruleX p) = checkF p (ruleX p) pl 0 by rw [checkR, if_pos (by rw [checkE_fine hv rfl]; simp [ht]), hP.epl]]
      exact PCheck_ok w hP hv ht hR
    · have e0 : checkE p true true = 10 := by rw [checkE_fine hv rfl]; simp [ht]
      rw [show checkR p (ruleX p) = (0, 0, 10) by rw [checkR, e0, if_neg (by omega)]]
      exact PCheck_clash w hP hv ht
theorem PWrong_any (w : World) (hP : PayIn w w.heap.size people ra rl ca cl rate bill da dl pa pl p) :
    Calls Tryd.prog 28 #[payV people ra rl rc ca cl cc rate bill da dl dc pa pl pc] w fun e w' => e = .returned (.tuple #[.int .i64 (wrongR p).1, .int .i64 (wrongR p).2]) ∧ Below w.heap.size w w' := by
  cases hv : payB p
  · have h : payB p = false ∨ true = false := .inl hv
    rw [show wrongR p = (0, 1) by rw [wrongR, if_neg (checkE_ne h), checkE_bad h, hv]; rfl]
    exact PWrong_err w hP hv
  · have e0 : checkE p true false = 0 := by rw [checkE_fine hv rfl]; simp
    by_cases ht : wrongI p = 0
    · rw [show wrongR p = (0, 4) by rw [wrongR, if_pos e0, if_pos ht]]
      exact PWrong_none w hP hv ht
    · rw [show wrongR p = (wrongI p, 0) by rw [wrongR, if_pos e0, if_neg ht]]
      exact PWrong_ok w hP hv ht
/-! The document's spans are the program's. -/
theorem span_sheep (who run : Int) : spanR (checkE p (whoB p who && runB p run) true) (shornS p who run) = spanR (checkE p (whoB p who && runB p run) true) (sheepS p who run) := by
  rcases span_cases p (whoB p who && runB p run) (sheepS p who run) with ⟨_, h⟩ | ⟨_, h1, h2, h3⟩ | ⟨_, h1, h2, h3⟩
  · rw [spanR_err (checkE_ne h), spanR_err (checkE_ne h)]
  · have e0 : checkE p (whoB p who && runB p run) true = 10 := by rw [checkE_fine h1 h2]; simp [h3]
    rw [e0, spanR_err (by omega), spanR_err (by omega)]
  · rw [Bool.and_eq_true] at h2
    have hw := inB_iff.1 h2.1
    have hr := inB_iff.1 h2.2
    rw [shornS_eq h1 who run hw.1 (by omega) hr.1 (by omega) ((wrongI_zero p).1 h3 _ (by omega))]
theorem wagesP_eq {p : PayD} (h1 : payB p = true) (h3 : wrongI p = 0) (who : Int) (hw0 : 0 ≤ who) (hw1 : who < p.people) : wagesF (fun r => shornS p who r) p.rate p.runs.length = wagesP p who := by
  rw [wagesP]
  have : ∀ n, n ≤ p.runs.length → wagesF (fun r => shornS p who r) p.rate n = wagesF (fun r => sheepS p who r) p.rate n := by
    intro n
    induction n with
    | zero => intro _; rfl
    | succ n ih =>
      intro hn
      rw [wagesF, wagesF, ih (by omega), shornS_eq h1 who n hw0 hw1 (by omega) (by omega) ((wrongI_zero p).1 h3 _ (by omega))]
  exact this _ (Nat.le_refl _)
theorem span_wages (who : Int) : spanR (checkE p (whoB p who) true) (wagesF (fun r => shornS p who r) p.rate p.runs.length) = spanR (checkE p (whoB p who) true) (wagesP p who) := by
  rcases span_cases p (whoB p who) (wagesP p who) with ⟨_, h⟩ | ⟨_, h1, h2, h3⟩ | ⟨_, h1, h2, h3⟩
  · rw [spanR_err (checkE_ne h), spanR_err (checkE_ne h)]
  · have e0 : checkE p (whoB p who) true = 10 := by rw [checkE_fine h1 h2]; simp [h3]
    rw [e0, spanR_err (by omega), spanR_err (by omega)]
  · have hw := inB_iff.1 h2
    rw [wagesP_eq h1 h3 who hw.1 (by omega)]
theorem span_left (who : Int) : spanR (checkE p (whoB p who) true) (leftS p who) = spanR (checkE p (whoB p who) true) (leftP p who) := by
  rcases span_cases p (whoB p who) (leftP p who) with ⟨_, h⟩ | ⟨_, h1, h2, h3⟩ | ⟨_, h1, h2, h3⟩
  · rw [spanR_err (checkE_ne h), spanR_err (checkE_ne h)]
  · have e0 : checkE p (whoB p who) true = 10 := by rw [checkE_fine h1 h2]; simp [h3]
    rw [e0, spanR_err (by omega), spanR_err (by omega)]
  · have hw := inB_iff.1 h2
    rw [leftS, leftP, wagesP_eq h1 h3 who hw.1 (by omega)]
theorem span_out (run : Int) : spanR (checkE p (runB p run) true) (outH p run.toNat) = spanR (checkE p (runB p run) true) (outS p run) := by
  rcases span_cases p (runB p run) (outS p run) with ⟨_, h⟩ | ⟨_, h1, h2, h3⟩ | ⟨_, h1, h2, h3⟩
  · rw [spanR_err (checkE_ne h), spanR_err (checkE_ne h)]
  · have e0 : checkE p (runB p run) true = 10 := by rw [checkE_fine h1 h2]; simp [h3]
    rw [e0, spanR_err (by omega), spanR_err (by omega)]
  · have hr := inB_iff.1 h2
    obtain ⟨k, rfl⟩ : ∃ k : Nat, run = k := ⟨run.toNat, by omega⟩
    rw [Int.toNat_natCast, outH_eq h1 k (by omega) ((wrongI_zero p).1 h3 _ (by omega))]
end
end Go.Proofs.YtlcolpnniipgbaaDoor
