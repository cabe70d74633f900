/- Plain laws (no program in sight): when there is a truth of a run, and what the least and the greatest number of sheep are. The walk of the reference's wages; condition: there is a truth. The walks of the reference's Stands and Sheep. -/
import Derived.Test.YtlcolpnniipgbaaDoorBase
namespace Go.Proofs.YtlcolpnniipgbaaDoor

section
variable {p : PayD}

/-- The least sum of the n shearers from 'first' on, if the shearer who has shorn k. -/
def loF (p : PayD) (run who k : Int) : Nat → Int → Int
  | 0, _ => 0
  | n + 1, first => (if first = who then k else (calledS p first run).lo) + loF p run who k n (first + 1)
def hiF (p : PayD) (run who k : Int) : Nat → Int → Int
  | 0, _ => 0
  | n + 1, first => (if first = who then k else (calledS p first run).hi) + hiF p run who k n (first + 1)

theorem loF_le (h : payB p = true) (run who k : Int) : ∀ (n : Nat) (first : Int), loF p run who k n first ≤ hiF p run who k n first := by
  intro n
  induction n with
  | zero => intro first; simp [loF, hiF]
  | succ n ih =>
    intro first
    have := ih (first + 1)
    have := calledS_ok h first run
    simp only [loF, hiF]
    split <;> omega

theorem someB_iff (h : payB p = true) (run who k : Int) (R : Sp) (hR : p.runs[run.toNat]? = some R) : ∀ (n : Nat) (first sum : Int),
    someB p run who k n first sum = true ↔
      ((first ≤ who → who < first + n → (calledS p who run).lo ≤ k ∧ k ≤ (calledS p who run).hi) ∧ R.lo ≤ sum + hiF p run who k n first ∧ sum + loF p run who k n first ≤ R.hi) := by
  have hr := payB_run h hR
  intro n
  induction n with
  | zero =>
    intro first sum
    simp only [someB, hR, inB_iff, loF, hiF]
    constructor
    · rintro ⟨h1, h2⟩
      exact ⟨fun _ _ => by omega, by omega, by omega⟩
    · rintro ⟨_, h1, h2⟩
      omega
  | succ n ih =>
    intro first sum
    have hs := calledS_ok h first run
    have hl := loF_le h run who k n (first + 1)
    simp only [someB, anyIn_iff, Bool.and_eq_true, Bool.or_eq_true, decide_eq_true_eq, loF, hiF]
    by_cases hf : first = who
    · subst hf
      simp only [ne_eq, not_true_eq_false, false_or, if_true]
      constructor
      · rintro ⟨m, h1, h2, rfl, h3⟩
        obtain ⟨_, h4, h5⟩ := (ih _ _).1 h3
        exact ⟨fun _ _ => ⟨h1, h2⟩, by omega, by omega⟩
      · rintro ⟨h1, h2, h3⟩
        obtain ⟨h4, h5⟩ := h1 (by omega) (by omega)
        exact ⟨k, h4, h5, rfl, (ih _ _).2 ⟨fun _ _ => ⟨h4, h5⟩, by omega, by omega⟩⟩
    · simp only [ne_eq, hf, not_false_eq_true, true_or, true_and, if_false]
      constructor
      · rintro ⟨m, h1, h2, h3⟩
        obtain ⟨h4, h5, h6⟩ := (ih _ _).1 h3
        exact ⟨fun _ _ => h4 (by omega) (by omega), by omega, by omega⟩
      · rintro ⟨h1, h2, h3⟩
        by_cases hm : (calledS p first run).lo ≤ R.lo - sum - hiF p run who k n (first + 1)
        · exact ⟨R.lo - sum - hiF p run who k n (first + 1), hm, by omega, (ih _ _).2 ⟨fun _ _ => h1 (by omega) (by omega), by omega, by omega⟩⟩
        · exact ⟨(calledS p first run).lo, by omega, by omega, (ih _ _).2 ⟨fun _ _ => h1 (by omega) (by omega), by omega, by omega⟩⟩

/-- One shearer's part of the sums. -/
theorem loF_k (p : PayD) (run who k : Int) : ∀ (n : Nat) (first : Int), first ≤ who → who < first + n → loF p run who k n first = loF p run who 0 n first + k ∧ hiF p run who k n first = hiF p run who 0 n first + k := by
  intro n
  induction n with
  | zero => intro first h1 h2; omega
  | succ n ih =>
    intro first h1 h2
    simp only [loF, hiF]
    by_cases hf : first = who
    · have aux : ∀ (n : Nat) (f2 : Int), who < f2 → loF p run who k n f2 = loF p run who 0 n f2 ∧ hiF p run who k n f2 = hiF p run who 0 n f2 := by
        intro n
        induction n with
        | zero => intro f2 _; simp [loF, hiF]
        | succ n ih2 =>
          intro f2 h
          obtain ⟨a, b⟩ := ih2 (f2 + 1) (by omega)
          simp only [loF, hiF]
          rw [if_neg (by omega), if_neg (by omega), if_neg (by omega), if_neg (by omega), a, b]
          exact ⟨rfl, rfl⟩
      obtain ⟨a, b⟩ := aux n (first + 1) (by omega)
      simp only [hf, if_true] at a b ⊢
      omega
    · obtain ⟨a, b⟩ := ih (first + 1) (by omega) (by omega)
      simp only [hf, if_false]
      omega
theorem loF_who (p : PayD) (run who : Int) : ∀ (n : Nat) (first : Int), 0 ≤ first → first ≤ who → who < first + n →
    loF p run (-1) 0 n first = loF p run who 0 n first + (calledS p who run).lo ∧ hiF p run (-1) 0 n first = hiF p run who 0 n first + (calledS p who run).hi := by
  intro n
  induction n with
  | zero => intro first h0 h1 h2; omega
  | succ n ih =>
    intro first h0 h1 h2
    simp only [loF, hiF]
    rw [if_neg (by omega : ¬ first = -1), if_neg (by omega : ¬ first = -1)]
    by_cases hf : first = who
    · have aux : ∀ (n : Nat) (f2 : Int), 0 ≤ f2 → who < f2 → loF p run (-1) 0 n f2 = loF p run who 0 n f2 ∧ hiF p run (-1) 0 n f2 = hiF p run who 0 n f2 := by
        intro n
        induction n with
        | zero => intro f2 _ _; simp [loF, hiF]
        | succ n ih2 =>
          intro f2 h h'
          obtain ⟨a, b⟩ := ih2 (f2 + 1) (by omega) (by omega)
          simp only [loF, hiF]
          rw [if_neg (by omega), if_neg (by omega), if_neg (by omega), if_neg (by omega), a, b]
          exact ⟨rfl, rfl⟩
      obtain ⟨a, b⟩ := aux n (first + 1) (by omega) (by omega)
      simp only [hf, if_true] at a b ⊢
      omega
    · obtain ⟨a, b⟩ := ih (first + 1) (by omega) (by omega) (by omega)
      simp only [hf, if_false]
      omega
theorem loF_bd (h : payB p = true) (run who : Int) : ∀ (n : Nat) (first : Int), 0 ≤ loF p run who 0 n first ∧ hiF p run who 0 n first ≤ 100 * n := by
  intro n
  induction n with
  | zero => intro first; simp [loF, hiF]
  | succ n ih =>
    intro first
    have := ih (first + 1)
    have := calledS_ok h first run
    simp only [loF, hiF]
    split <;> omega

/-- What all but one have shorn, by calls alone; all if 'but' is nobody's number. -/
def allS (p : PayD) (run but : Int) : Sp := ⟨loF p run but 0 p.people.toNat 0, hiF p run but 0 p.people.toNat 0⟩
def runS (p : PayD) (run : Int) : Sp := match p.runs[run.toNat]? with
  | some R => R
  | none => ⟨0, 0⟩
def sheepS (p : PayD) (who run : Int) : Sp := ⟨max (calledS p who run).lo ((runS p run).lo - (allS p run who).hi), min (calledS p who run).hi ((runS p run).hi - (allS p run who).lo)⟩
def outS (p : PayD) (run : Int) : Sp := ⟨max (allS p run (-1)).lo (runS p run).lo, min (allS p run (-1)).hi (runS p run).hi⟩

theorem runS_some {run : Int} {R : Sp} (h : p.runs[run.toNat]? = some R) : runS p run = R := by rw [runS, h]
theorem runS_ok (hv : payB p = true) (run : Int) (h0 : 0 ≤ run) (h1 : run < p.runs.length) : p.runs[run.toNat]? = some (runS p run) ∧ 0 ≤ (runS p run).lo ∧ (runS p run).lo ≤ (runS p run).hi ∧ (runS p run).hi ≤ 400 := by
  have hl : run.toNat < p.runs.length := by omega
  have e : p.runs[run.toNat]? = some p.runs[run.toNat] := List.getElem?_eq_getElem hl
  rw [runS_some e]
  exact ⟨e, payB_run hv e⟩
theorem allS_ok (hv : payB p = true) (run but : Int) : 0 ≤ (allS p run but).lo ∧ (allS p run but).lo ≤ (allS p run but).hi ∧ (allS p run but).hi ≤ 400 := by
  have h1 := loF_bd hv run but p.people.toNat 0
  have h2 := loF_le hv run but 0 p.people.toNat 0
  have h3 := payB_people hv
  simp only [allS]
  omega
theorem allS_who (hv : payB p = true) (run who : Int) (h0 : 0 ≤ who) (h1 : who < p.people) :
    (allS p run (-1)).lo = (allS p run who).lo + (calledS p who run).lo ∧ (allS p run (-1)).hi = (allS p run who).hi + (calledS p who run).hi := by
  have h3 := payB_people hv
  exact loF_who p run who p.people.toNat 0 (by omega) h0 (by omega)

theorem okRun_iff (hv : payB p = true) (r : Nat) (hr : r < p.runs.length) : okRun p r = true ↔ (runS p r).lo ≤ (allS p r (-1)).hi ∧ (allS p r (-1)).lo ≤ (runS p r).hi := by
  obtain ⟨h1, _⟩ := runS_ok hv r (by omega) (by omega)
  have h3 := payB_people hv
  rw [okRun, someB_iff hv r (-1) 0 _ h1 p.people.toNat 0 0, allS]
  simp only [Int.zero_add]
  constructor
  · rintro ⟨_, h⟩; exact h
  · intro h; exact ⟨fun _ _ => by omega, h⟩
theorem outS_iff (hv : payB p = true) (r : Nat) (hr : r < p.runs.length) : okRun p r = true ↔ (outS p r).lo ≤ (outS p r).hi := by
  have h1 := runS_ok hv r (by omega) (by omega)
  have h2 := allS_ok hv r (-1)
  rw [okRun_iff hv r hr]
  simp only [outS]
  omega

theorem hullF_interval (f : Int → Bool) (lo hi A B : Int) (before : Sp) (hx : B < before.lo) (hy : before.hi < A) (h1 : lo ≤ A) (h2 : A ≤ B) (_h3 : B ≤ hi) (hf : ∀ n, lo ≤ n → n ≤ hi → (f n = true ↔ A ≤ n ∧ n ≤ B)) :
    ∀ k : Nat, (k : Int) ≤ hi + 1 - lo → hullF f lo before k = if lo + k ≤ A then before else if lo + k ≤ B + 1 then ⟨A, lo + k - 1⟩ else ⟨A, B⟩ := by
  intro k
  induction k with
  | zero => intro _; rw [if_pos (by omega)]; rfl
  | succ k ih =>
    intro hk
    have hi' := ih (by omega)
    have hfk := hf (lo + k) (by omega) (by omega)
    rw [hullF, hi']
    by_cases c : f (lo + k) = true
    · obtain ⟨c1, c2⟩ := hfk.1 c
      rw [if_pos c, if_neg (by omega : ¬ lo + ((k + 1 : Nat) : Int) ≤ A), if_pos (by omega : lo + ((k + 1 : Nat) : Int) ≤ B + 1)]
      by_cases c3 : lo + (k : Int) ≤ A
      · rw [if_pos c3]
        have : lo + (k : Int) = A := by omega
        rw [if_pos (by omega), if_pos (by omega), this]
        congr 1
        omega
      · rw [if_neg c3, if_pos (by omega : lo + (k : Int) ≤ B + 1)]
        simp only
        rw [if_neg (by omega), if_pos (by omega)]
        congr 1
        omega
    · rw [if_neg c]
      have c' : ¬ (A ≤ lo + k ∧ lo + k ≤ B) := fun h => c (hfk.2 h)
      by_cases c3 : lo + (k : Int) ≤ A
      · rw [if_pos c3, if_pos (by omega)]
      · rw [if_neg c3, if_neg (by omega : ¬ lo + ((k + 1 : Nat) : Int) ≤ A), if_neg (by omega : ¬ lo + ((k + 1 : Nat) : Int) ≤ B + 1)]
        by_cases c4 : lo + (k : Int) ≤ B + 1
        · rw [if_pos c4]
          congr 1
          omega
        · rw [if_neg c4]
theorem hullS_interval {f : Int → Bool} {lo hi A B : Int} {before : Sp} (hx : B < before.lo) (hy : before.hi < A) (h1 : lo ≤ A) (h2 : A ≤ B) (h3 : B ≤ hi) (hf : ∀ n, lo ≤ n → n ≤ hi → (f n = true ↔ A ≤ n ∧ n ≤ B)) :
    hullS f lo hi before = ⟨A, B⟩ := by
  rw [hullS, hullF_interval f lo hi A B before hx hy h1 h2 h3 hf _ (by omega), if_neg (by omega)]
  split
  · congr 1
    omega
  · rfl

theorem shornS_eq (hv : payB p = true) (who run : Int) (h0 : 0 ≤ who) (h1 : who < p.people) (hr0 : 0 ≤ run) (hr1 : run < p.runs.length) (hok : okRun p run.toNat = true) : shornS p who run = sheepS p who run := by
  obtain ⟨r, rfl⟩ := Int.eq_ofNat_of_zero_le hr0
  simp only [Int.toNat_natCast] at hok
  obtain ⟨e, e1, e2, e3⟩ := runS_ok hv r hr0 hr1
  have hc := calledS_ok hv who r
  have ha := allS_ok hv r who
  have hw := allS_who hv r who h0 h1
  have hp := payB_people hv
  have ho := (okRun_iff hv r (by omega)).1 hok
  rw [shornS, sheepS]
  refine hullS_interval ?_ ?_ ?_ ?_ ?_ ?_
  · simp only; omega
  · simp only; omega
  · omega
  · omega
  · omega
  · intro n n1 n2
    rw [someB_iff hv r who n _ e p.people.toNat 0 0]
    obtain ⟨k1, k2⟩ := loF_k p r who n p.people.toNat 0 h0 (by omega)
    have e1 : loF p r who 0 p.people.toNat 0 = (allS p r who).lo := rfl
    have e2 : hiF p r who 0 p.people.toNat 0 = (allS p r who).hi := rfl
    rw [k1, k2, e1, e2]
    constructor
    · rintro ⟨_, q1, q2⟩; omega
    · intro q; exact ⟨fun _ _ => ⟨n1, n2⟩, by omega, by omega⟩
theorem sheepS_ok (hv : payB p = true) (who run : Int) (h0 : 0 ≤ who) (h1 : who < p.people) (hr0 : 0 ≤ run) (hr1 : run < p.runs.length) (hok : okRun p run.toNat = true) :
    0 ≤ (sheepS p who run).lo ∧ (sheepS p who run).lo ≤ (sheepS p who run).hi ∧ (sheepS p who run).hi ≤ 100 := by
  obtain ⟨r, rfl⟩ := Int.eq_ofNat_of_zero_le hr0
  simp only [Int.toNat_natCast] at hok
  obtain ⟨e, e1, e2, e3⟩ := runS_ok hv r hr0 hr1
  have hc := calledS_ok hv who r
  have ha := allS_ok hv r who
  have hw := allS_who hv r who h0 h1
  have ho := (okRun_iff hv r (by omega)).1 hok
  simp only [sheepS]
  omega

theorem wrongF_zero (p : PayD) : ∀ n : Nat, wrongF p n = 0 ↔ ∀ r, r < n → okRun p r = true := by
  intro n
  induction n with
  | zero => simp [wrongF]
  | succ n ih =>
    have hb := wrongF_bd p n
    have hp : (0 : Int) < 2 ^ n := Int.pow_pos (by omega)
    rw [wrongF]
    constructor
    · intro h
      cases ho : okRun p n
      · rw [ho] at h
        simp at h
        omega
      · rw [ho] at h
        simp at h
        intro r hr
        by_cases hrn : r = n
        · rw [hrn]; exact ho
        · exact ih.1 h r (by omega)
    · intro h
      rw [h n (by omega), ih.2 fun r hr => h r (by omega)]
      simp
theorem wrongI_zero (p : PayD) : wrongI p = 0 ↔ ∀ r, r < p.runs.length → okRun p r = true := wrongF_zero p _
end
end Go.Proofs.YtlcolpnniipgbaaDoor
namespace Go.Proofs.YtlcolpnniipgbaaDoor
open Go.RowKit Go.Hav

section
variable {people rate bill : Int} {ra ca da pa : Option Addr} {rl rc cl cc dl dc pl pc : Nat} {p : PayD}

/-- Wages of the first k runs. -/
def wagesF (g : Int → Sp) (rate : Int) : Nat → Sp
  | 0 => ⟨0, 0⟩
  | k + 1 => ⟨(wagesF g rate k).lo + (g k).lo * rate / 100, (wagesF g rate k).hi + (g k).hi * rate / 100⟩
theorem wage_bd {n rate : Int} (h0 : 0 ≤ n) (h1 : n ≤ 100) (hr0 : 0 ≤ rate) (hr1 : rate ≤ 1000) : 0 ≤ n * rate ∧ n * rate ≤ 100000 := by
  refine ⟨Int.mul_nonneg h0 hr0, ?_⟩
  exact Int.le_trans (Int.mul_le_mul_of_nonneg_right h1 hr0) (by omega)
theorem wagesF_bd {g : Int → Sp} {rate : Int} {n : Nat} (hr0 : 0 ≤ rate) (hr1 : rate ≤ 1000) (hg : ∀ r : Nat, r < n → 0 ≤ (g r).lo ∧ (g r).lo ≤ 100 ∧ 0 ≤ (g r).hi ∧ (g r).hi ≤ 100) :
    ∀ k : Nat, k ≤ n → 0 ≤ (wagesF g rate k).lo ∧ (wagesF g rate k).lo ≤ 1000 * k ∧ 0 ≤ (wagesF g rate k).hi ∧ (wagesF g rate k).hi ≤ 1000 * k := by
  intro k
  induction k with
  | zero => intro _; simp [wagesF]
  | succ k ih =>
    intro hk
    have h1 := ih (by omega)
    have h2 := hg k (by omega)
    have h3 := wage_bd h2.1 h2.2.1 hr0 hr1
    have h4 := wage_bd h2.2.2.1 h2.2.2.2 hr0 hr1
    simp only [wagesF]
    omega
theorem payB_rate (h : payB p = true) : 0 ≤ p.rate ∧ p.rate ≤ 1000 ∧ 0 ≤ p.bill ∧ p.bill ≤ 10000 ∧ (p.days.length : Int) = p.people ∧ p.paid.length ≤ 8 ∧ p.calls.length ≤ 12 := by
  simp only [payB, headB, Bool.and_eq_true, inB_iff, decide_eq_true_eq] at h
  omega

set_option maxHeartbeats 1600000 in
theorem wages_any (hv : payB p = true) (ht : wrongI p = 0) (who : Int) (h0 : 0 ≤ who) (h1 : who < people) (w : World) (hP : PayIn w w.heap.size people ra rl ca cl rate bill da dl pa pl p) :
    Calls Tryd.prog 60 #[payV people ra rl rc ca cl cc rate bill da dl dc pa pl pc, .int .i64 who] w fun e w' => e = .returned (spV (wagesF (fun r => shornS p who r) rate rl)) ∧ Below w.heap.size w w' := by
  have HP := Lib.hid hP
  have HV := Lib.hid hv
  have hb := payB_people hv
  have n1 : rl ≤ 4 := by have := hP.erl; omega
  have hra := payB_rate hv
  have hre := hP.erate
  have hr0 : 0 ≤ rate := by omega
  have hr1 : rate ≤ 1000 := by omega
  have HG : Hid (∀ r : Nat, r < rl → 0 ≤ (shornS p who r).lo ∧ (shornS p who r).lo ≤ 100 ∧ 0 ≤ (shornS p who r).hi ∧ (shornS p who r).hi ≤ 100) := fun r hr => by
    have e1 := hP.erl
    have e2 := hP.epeople
    have ho : okRun p r = true := (wrongI_zero p).1 ht r (by omega)
    rw [shornS_eq hv who r h0 (by omega) (by omega) (by omega) ho]
    have := sheepS_ok hv who r h0 (by omega) (by omega) (by omega) ho
    omega
  clear hP hv hb hra hre ht h0 h1
  unfold payV
  go_enter Tryd.func60, Tryd.ntmps60
  go_wp2
  go_loopw [6] (fun i wr => ∃ (k : Nat) (o : Sp), k ≤ rl ∧ i = .int .i64 k ∧ Hid (wagesF (fun r => shornS p who r) rate k = o) ∧
      Blk wr (w.heap.size + 1 + 1) 34 #[.int .i64 o.lo, .int .i64 o.hi] ∧ Below (w.heap.size + 2) ((w.alloc (Obj.cells #[Value.int IntKind.i64 people, Value.slice ra rl rc, Value.slice ca cl cc, Value.int IntKind.i64 rate, Value.int IntKind.i64 bill, Value.slice da dl dc, Value.slice pa pl pc] 27)).alloc (Obj.cells #[Value.int IntKind.i64 0, Value.int IntKind.i64 0] 34)) wr) (fun i _ => rl - (intOf i).toNat)
  case atStart => exact ⟨0, ⟨0, 0⟩, Nat.zero_le _, rfl, rfl, Blk.new_ (by simp) _ _, (Below.refl _ _).alloc (by simp) _⟩
  case round =>
    obtain ⟨k, o, hk, rfl, HF, hbk, hb⟩ := hrel
    have hA : ∀ o, wr.cell? ⟨w.heap.size, o, none⟩ = _ := fun o => hb.cell (p := ⟨w.heap.size, o, none⟩) (by show w.heap.size < _; omega)
    have c0 : wr.cell? ⟨w.heap.size + 1 + 1, 0, none⟩ = some (.int .i64 o.lo) := hbk.cell 0
    have c1 : wr.cell? ⟨w.heap.size + 1 + 1, 1, none⟩ = some (.int .i64 o.hi) := hbk.cell 1
    have f0 : wr.frozen? ⟨w.heap.size + 1 + 1, 0, none⟩ = false := hbk.frozen 0
    have f1 : wr.frozen? ⟨w.heap.size + 1 + 1, 1, none⟩ = false := hbk.frozen 1
    have HRB : Hid (Blk wr (w.heap.size + 1) 34 #[.int .i64 0, .int .i64 0]) := (Blk.new_ (by simp) _ _).below hb (by omega)
    have r0 : wr.cell? ⟨w.heap.size + 1, 0, none⟩ = some (.int .i64 0) := HRB.out.cell 0
    have r1 : wr.cell? ⟨w.heap.size + 1, 1, none⟩ = some (.int .i64 0) := HRB.out.cell 1
    have g0 : wr.frozen? ⟨w.heap.size + 1, 0, none⟩ = false := HRB.out.frozen 0
    have g1 : wr.frozen? ⟨w.heap.size + 1, 1, none⟩ = false := HRB.out.frozen 1
    have q3 := hbk.lt
    have q7 : w.heap.size < wr.heap.size := by omega
    have q8 : w.heap.size + 1 < wr.heap.size := by omega
    have HB := Lib.hid hb
    have HK := Lib.hid hbk
    clear hb hbk
    have HBW : Hid (Below w.heap.size w wr) := (((Below.refl w.heap.size w).alloc (by simp) _).alloc (by simp) _).trans (HB.out.mono (by omega))
    by_cases hlt : k < rl
    · obtain ⟨o1, o2, o3, o4⟩ := wagesF_bd hr0 hr1 HG.out k hk
      obtain ⟨t1, t2, t3, t4⟩ := HG.out k hlt
      rw [HF.out] at o1 o2 o3 o4
      have HST : Hid (wagesF (fun r => shornS p who r) rate (k + 1) = ⟨o.lo + (shornS p who k).lo * rate / 100, o.hi + (shornS p who k).hi * rate / 100⟩) := by
        show _ = _; rw [wagesF, HF.out]
      obtain ⟨s, HS⟩ : ∃ s, Hid (shornS p who k = s) := ⟨_, rfl⟩
      rw [HS.out] at t1 t2 t3 t4 HST
      obtain ⟨v1, v2⟩ := wage_bd t1 t2 hr0 hr1
      obtain ⟨v3, v4⟩ := wage_bd t3 t4 hr0 hr1
      go_wp2_with fail
      refine (shorn_any (p := p) HV.out who k (by omega) (by omega) _ (by exact HP.out.grow HBW.out)).mono ?_
      rw [HS.out]
      unfold spV
      rintro e w1 ⟨rfl, hbw1⟩; obtain ⟨hcw1, hfw1⟩ := bcell hbw1; have hzw1 := hbw1.size; (try simp at hzw1)
      have q4 : w.heap.size < w1.heap.size := by omega
      have q5 : w.heap.size + 1 < w1.heap.size := by omega
      have q6 : w.heap.size + 1 + 1 < w1.heap.size := by omega
      have q4' : w.heap.size < w1.heap.size + 1 := by omega
      have q6' : w.heap.size + 1 + 1 < w1.heap.size + 1 := by omega
      go_wp2
      refine wp_region_havoc [(0,false),(1,false),(2,false),(3,false),(4,false),(5,false),(6,false),(7,false),(8,false),(9,false),(10,false),(11,false),(12,false),(13,false),(14,false)] [15] (fun _ _ => False) (by kernel_rfl) (by kernel_rfl) (fun _ _ _ _ h => h.elim) ?_
      iterate 5 (apply hav_same (by simp only [List.getElem?_toArray, List.getElem?_cons_succ, List.getElem?_cons_zero]; rfl) (by kernel_rfl); (focus (intro wv hgv _; have hcv : ∀ b o, b < _ → wv.cell? ⟨b, o, none⟩ = _ := fun b o hb => Below.cell hgv (p := ⟨b, o, none⟩) hb; go_simp; try rfl; done)); simp only [Act.put, List.setIfInBounds_toArray, List.set_cons_succ, List.set_cons_zero])
      (apply hav_call (by simp only [List.getElem?_toArray, List.getElem?_cons_succ, List.getElem?_cons_zero]; rfl) (by kernel_rfl); (focus (intro wv; go_simp; try exact ⟨rfl, rfl⟩; done)); (focus (intro wv hgv _; exact Wage_any _ _ hr0 hr1 (by omega) (by omega); done)); simp only [Act.put, List.setIfInBounds_toArray, List.set_cons_succ, List.set_cons_zero])
      iterate 6 (apply hav_same (by simp only [List.getElem?_toArray, List.getElem?_cons_succ, List.getElem?_cons_zero]; rfl) (by kernel_rfl); (focus (intro wv hgv _; have hcv : ∀ b o, b < _ → wv.cell? ⟨b, o, none⟩ = _ := fun b o hb => Below.cell hgv (p := ⟨b, o, none⟩) hb; go_simp; try rfl; done)); simp only [Act.put, List.setIfInBounds_toArray, List.set_cons_succ, List.set_cons_zero])
      (apply hav_call (by simp only [List.getElem?_toArray, List.getElem?_cons_succ, List.getElem?_cons_zero]; rfl) (by kernel_rfl); (focus (intro wv; go_simp; try exact ⟨rfl, rfl⟩; done)); (focus (intro wv hgv _; exact Wage_any _ _ hr0 hr1 (by omega) (by omega); done)); simp only [Act.put, List.setIfInBounds_toArray, List.set_cons_succ, List.set_cons_zero])
      iterate 2 (apply hav_same (by simp only [List.getElem?_toArray, List.getElem?_cons_succ, List.getElem?_cons_zero]; rfl) (by kernel_rfl); (focus (intro wv hgv _; have hcv : ∀ b o, b < _ → wv.cell? ⟨b, o, none⟩ = _ := fun b o hb => Below.cell hgv (p := ⟨b, o, none⟩) hb; go_simp; try rfl; done)); simp only [Act.put, List.setIfInBounds_toArray, List.set_cons_succ, List.set_cons_zero])
      refine hav_end (fun w2 hgw2 _ => ?_); simp only [List.filterMap]; have hcw2 : ∀ b o, b < _ → w2.cell? ⟨b, o, none⟩ = _ := fun b o hb => Below.cell hgw2 (p := ⟨b, o, none⟩) hb; have hfw2 : ∀ b o, b < _ → w2.frozen? ⟨b, o, none⟩ = _ := fun b o hb => Below.frozen hgw2 (p := ⟨b, o, none⟩) hb; have hzw2 := Below.size hgw2; (try simp at hzw2)
      have HG2 := Lib.hid hgw2
      clear hgw2
      go_wp2
      go_roundw
      case rel =>
        have hk2 := HK.out.below hbw1 (by omega)
        exact ⟨k + 1, ⟨o.lo + s.lo * rate / 100, o.hi + s.hi * rate / 100⟩, by omega, by go_num, HST.out, (((hk2.alloc _).below HG2.out (by simp; omega)).set_ 0 _).set_ 1 _, ((((HB.out.trans (hbw1.mono (by omega))).alloc (by omega) _).trans (Below.mono HG2.out (by simp; omega))).setCell (by simp) _).setCell (by simp) _⟩
      case measure => simp [intOf]; omega
    · obtain rfl : rl = k := by omega
      go_wp2
      have e0 := ((HRB.out.set_ 0 (.int .i64 o.lo)).set_ 1 (.int .i64 o.hi)).cell 0
      have e1 := ((HRB.out.set_ 0 (.int .i64 o.lo)).set_ 1 (.int .i64 o.hi)).cell 1
      refine bodyPost_ret (v := spV (wagesF (fun r => shornS p who r) rate rl)) (by rw [HF.out]; simp [results, Tryd.results60, go_sem, e0, e1, spV]) rfl ⟨rfl, ?_⟩
      exact (HBW.out.setCell (by simp) _).setCell (by simp) _
end
end Go.Proofs.YtlcolpnniipgbaaDoor
namespace Go.Proofs.YtlcolpnniipgbaaDoor
open Go.RowKit Go.Hav

section
variable {people rate bill : Int} {ra ca da pa : Option Addr} {rl rc cl cc dl dc pl pc : Nat} {p : PayD}

theorem whoW (h : payB p = true) (n : Int) : inB n 0 (wrap64 (p.people - 1)) = whoB p n := by
  have := payB_people h
  rw [whoB, IntWalk.wrap64_in (p.people - 1) ⟨by omega, by omega⟩]
theorem checkE_who (n : Int) (b t : Bool) : checkE p (inB n 0 (wrap64 (p.people - 1)) && b) t = checkE p (whoB p n && b) t := by
  cases h : payB p
  · simp [checkE, h]
  · rw [whoW h]
theorem checkE_zero {v t : Bool} (h : checkE p v t = 0) : payB p = true ∧ v = true ∧ (t = true → wrongI p = 0) := by
  unfold checkE at h
  split at h
  · rename_i h1
    split at h
    · rename_i h2
      refine ⟨h1, h2, fun ht => ?_⟩
      subst ht
      simp at h
      by_cases hw : wrongI p = 0
      · exact hw
      · simp [hw] at h
    · simp at h
  · simp at h

def standsR (p : PayD) (who run : Int) : Int × Int :=
  if checkE p (whoB p who && runB p run) false = 0 then (if standsI p who run < 0 then (0, 4) else (standsI p who run, 0)) else (0, checkE p (whoB p who && runB p run) false)
def spanR (e : Int) (s : Sp) : Sp × Int := if e = 0 then (s, 0) else (⟨0, 0⟩, e)

set_option maxHeartbeats 1600000 in
theorem RStands_any (who run : Int) (w : World) (hP : PayIn w w.heap.size people ra rl ca cl rate bill da dl pa pl p) :
    Calls Tryd.prog 15 #[payV people ra rl rc ca cl cc rate bill da dl dc pa pl pc, .int .i64 who, .int .i64 run] w fun e w' => e = .returned (.tuple #[.int .i64 (standsR p who run).1, .int .i64 (standsR p who run).2]) ∧ Below w.heap.size w w' := by
  have HP := Lib.hid hP
  have HPE := Lib.hid hP.epeople
  have HE2 := Lib.hid hP.erl
  have m1 := hP.mrl
  have HCE := Lib.hid (checkE_who (p := p) who (runB p run) false)
  clear hP
  unfold payV
  cases hv : inB who 0 (wrap64 (people - 1))
  · have HV1 := Lib.hid hv
    have HX : Hid (checkE p (whoB p who && runB p run) false = checkE p false false) := by show _ = _; rw [← HCE.out, HPE.out, hv]; rfl
    have HNZ : Hid (standsR p who run = (0, checkE p false false)) := by
      show _ = _
      rw [standsR, HX.out, if_neg]
      intro h
      exact absurd (checkE_zero h).2.1 (by simp)
    have hne : (checkE p false false != 0) = true := by
      rw [bne_iff_ne]
      intro h
      exact absurd (checkE_zero h).2.1 (by simp)
    clear hv
    go_enter Tryd.func15, Tryd.ntmps15
    go_wp2
    refine wp_region_havoc [(0,false),(1,false),(2,false),(3,false),(4,false),(5,false),(6,false),(7,false),(8,false),(9,false),(10,false)] [] (fun _ _ => False) (by kernel_rfl) (by kernel_rfl) (fun _ _ _ _ h => h.elim) ?_
    iterate 3 (apply hav_same (by simp only [List.getElem?_toArray, List.getElem?_cons_succ, List.getElem?_cons_zero]; rfl) (by kernel_rfl); (focus (intro wv hgv _; have hcv : ∀ b o, b < _ → wv.cell? ⟨b, o, none⟩ = _ := fun b o hb => Below.cell hgv (p := ⟨b, o, none⟩) hb; go_simp; try rfl; done)); simp only [Act.put, List.setIfInBounds_toArray, List.set_cons_succ, List.set_cons_zero])
    (apply hav_call (by simp only [List.getElem?_toArray, List.getElem?_cons_succ, List.getElem?_cons_zero]; rfl) (by kernel_rfl); (focus (intro wv; go_simp; try exact ⟨rfl, rfl⟩; done)); (focus (intro wv hgv _; exact (Who_gen who _).mono fun e w' h => by rw [HV1.out] at h; exact h; done)); simp only [Act.put, List.setIfInBounds_toArray, List.set_cons_succ, List.set_cons_zero])
    (apply hav_same (by simp only [List.getElem?_toArray, List.getElem?_cons_succ, List.getElem?_cons_zero]; rfl) (by kernel_rfl); (focus (intro wv hgv _; have hcv : ∀ b o, b < _ → wv.cell? ⟨b, o, none⟩ = _ := fun b o hb => Below.cell hgv (p := ⟨b, o, none⟩) hb; go_simp; try rfl; done)); simp only [Act.put, List.setIfInBounds_toArray, List.set_cons_succ, List.set_cons_zero])
    iterate 3 (refine hav_skip (by simp only [List.getElem?_toArray, List.getElem?_cons_succ, List.getElem?_cons_zero]; rfl) (by kernel_rfl) ?_; simp only [Act.put, List.setIfInBounds_toArray, List.set_cons_succ, List.set_cons_zero])
    (apply hav_same (by simp only [List.getElem?_toArray, List.getElem?_cons_succ, List.getElem?_cons_zero]; rfl) (by kernel_rfl); (focus (intro wv hgv _; have hcv : ∀ b o, b < _ → wv.cell? ⟨b, o, none⟩ = _ := fun b o hb => Below.cell hgv (p := ⟨b, o, none⟩) hb; go_simp; try rfl; done)); simp only [Act.put, List.setIfInBounds_toArray, List.set_cons_succ, List.set_cons_zero])
    (apply hav_call (by simp only [List.getElem?_toArray, List.getElem?_cons_succ, List.getElem?_cons_zero]; rfl) (by kernel_rfl); (focus (intro wv; go_simp; try exact ⟨rfl, rfl⟩; done)); (focus (intro wv hgv _; exact check_any (p := p) _ _ _ (by exact HP.out.grow (Below.trans (by repeat (first | exact Below.refl _ _ | assumption | refine Below.drew ?_ | refine below_drewN ?_ _ | refine Below.alloc ?_ (by (try simp) <;> omega) _ | refine Below.setCell ?_ (by (try simp) <;> omega) _ | refine Below.trans ?_ (Below.mono (by assumption) (by (try simp) <;> omega)))) (Below.mono hgv (by simp)))); done)); simp only [Act.put, List.setIfInBounds_toArray, List.set_cons_succ, List.set_cons_zero])
    (apply hav_same (by simp only [List.getElem?_toArray, List.getElem?_cons_succ, List.getElem?_cons_zero]; rfl) (by kernel_rfl); (focus (intro wv hgv _; have hcv : ∀ b o, b < _ → wv.cell? ⟨b, o, none⟩ = _ := fun b o hb => Below.cell hgv (p := ⟨b, o, none⟩) hb; go_simp; try rfl; done)); simp only [Act.put, List.setIfInBounds_toArray, List.set_cons_succ, List.set_cons_zero])
    refine hav_end (fun w1 hgw1 _ => ?_); simp only [List.filterMap]; have hcw1 : ∀ b o, b < _ → w1.cell? ⟨b, o, none⟩ = _ := fun b o hb => Below.cell hgw1 (p := ⟨b, o, none⟩) hb; have hfw1 : ∀ b o, b < _ → w1.frozen? ⟨b, o, none⟩ = _ := fun b o hb => Below.frozen hgw1 (p := ⟨b, o, none⟩) hb; have hzw1 := Below.size hgw1; (try simp at hzw1)
    go_wp2
    go_ret2
    exact ⟨by rw [HNZ.out]; rfl, Below.trans (by repeat (first | exact Below.refl _ _ | assumption | refine Below.drew ?_ | refine below_drewN ?_ _ | refine Below.alloc ?_ (by (try simp) <;> omega) _ | refine Below.setCell ?_ (by (try simp) <;> omega) _ | refine Below.trans ?_ (Below.mono (by assumption) (by (try simp) <;> omega)))) (Below.mono hgw1 (by simp))⟩
  · have HV1 := Lib.hid hv
    have HX : Hid (checkE p (whoB p who && runB p run) false = checkE p (runB p run) false) := by show _ = _; rw [← HCE.out, HPE.out, hv]; rfl
    clear hv
    go_enter Tryd.func15, Tryd.ntmps15
    go_wp2
    refine wp_region_havoc [(0,false),(1,false),(2,false),(3,false),(4,false),(5,false),(6,false),(7,false),(8,false),(9,false),(10,false)] [] (fun _ _ => False) (by kernel_rfl) (by kernel_rfl) (fun _ _ _ _ h => h.elim) ?_
    iterate 3 (apply hav_same (by simp only [List.getElem?_toArray, List.getElem?_cons_succ, List.getElem?_cons_zero]; rfl) (by kernel_rfl); (focus (intro wv hgv _; have hcv : ∀ b o, b < _ → wv.cell? ⟨b, o, none⟩ = _ := fun b o hb => Below.cell hgv (p := ⟨b, o, none⟩) hb; go_simp; try rfl; done)); simp only [Act.put, List.setIfInBounds_toArray, List.set_cons_succ, List.set_cons_zero])
    (apply hav_call (by simp only [List.getElem?_toArray, List.getElem?_cons_succ, List.getElem?_cons_zero]; rfl) (by kernel_rfl); (focus (intro wv; go_simp; try exact ⟨rfl, rfl⟩; done)); (focus (intro wv hgv _; exact (Who_gen who _).mono fun e w' h => by rw [HV1.out] at h; exact h; done)); simp only [Act.put, List.setIfInBounds_toArray, List.set_cons_succ, List.set_cons_zero])
    iterate 3 (apply hav_same (by simp only [List.getElem?_toArray, List.getElem?_cons_succ, List.getElem?_cons_zero]; rfl) (by kernel_rfl); (focus (intro wv hgv _; have hcv : ∀ b o, b < _ → wv.cell? ⟨b, o, none⟩ = _ := fun b o hb => Below.cell hgv (p := ⟨b, o, none⟩) hb; go_simp; try rfl; done)); simp only [Act.put, List.setIfInBounds_toArray, List.set_cons_succ, List.set_cons_zero])
    (apply hav_call (by simp only [List.getElem?_toArray, List.getElem?_cons_succ, List.getElem?_cons_zero]; rfl) (by kernel_rfl); (focus (intro wv; go_simp; try exact ⟨rfl, rfl⟩; done)); (focus (intro wv hgv _; exact Run_any (p := p) run _ HE2.out m1; done)); simp only [Act.put, List.setIfInBounds_toArray, List.set_cons_succ, List.set_cons_zero])
    (apply hav_same (by simp only [List.getElem?_toArray, List.getElem?_cons_succ, List.getElem?_cons_zero]; rfl) (by kernel_rfl); (focus (intro wv hgv _; have hcv : ∀ b o, b < _ → wv.cell? ⟨b, o, none⟩ = _ := fun b o hb => Below.cell hgv (p := ⟨b, o, none⟩) hb; go_simp; try rfl; done)); simp only [Act.put, List.setIfInBounds_toArray, List.set_cons_succ, List.set_cons_zero])
    (apply hav_call (by simp only [List.getElem?_toArray, List.getElem?_cons_succ, List.getElem?_cons_zero]; rfl) (by kernel_rfl); (focus (intro wv; go_simp; try exact ⟨rfl, rfl⟩; done)); (focus (intro wv hgv _; exact check_any (p := p) _ _ _ (by exact HP.out.grow (Below.trans (by repeat (first | exact Below.refl _ _ | assumption | refine Below.drew ?_ | refine below_drewN ?_ _ | refine Below.alloc ?_ (by (try simp) <;> omega) _ | refine Below.setCell ?_ (by (try simp) <;> omega) _ | refine Below.trans ?_ (Below.mono (by assumption) (by (try simp) <;> omega)))) (Below.mono hgv (by simp)))); done)); simp only [Act.put, List.setIfInBounds_toArray, List.set_cons_succ, List.set_cons_zero])
    (apply hav_same (by simp only [List.getElem?_toArray, List.getElem?_cons_succ, List.getElem?_cons_zero]; rfl) (by kernel_rfl); (focus (intro wv hgv _; have hcv : ∀ b o, b < _ → wv.cell? ⟨b, o, none⟩ = _ := fun b o hb => Below.cell hgv (p := ⟨b, o, none⟩) hb; go_simp; try rfl; done)); simp only [Act.put, List.setIfInBounds_toArray, List.set_cons_succ, List.set_cons_zero])
    refine hav_end (fun w1 hgw1 _ => ?_); simp only [List.filterMap]; have hcw1 : ∀ b o, b < _ → w1.cell? ⟨b, o, none⟩ = _ := fun b o hb => Below.cell hgw1 (p := ⟨b, o, none⟩) hb; have hfw1 : ∀ b o, b < _ → w1.frozen? ⟨b, o, none⟩ = _ := fun b o hb => Below.frozen hgw1 (p := ⟨b, o, none⟩) hb; have hzw1 := Below.size hgw1; (try simp at hzw1)
    by_cases hz : checkE p (runB p run) false = 0
    · have hne : (checkE p (runB p run) false != 0) = false := by simp [hz]
      have q1 : w.heap.size < w1.heap.size := by omega
      have HZ : Hid (standsR p who run = if standsI p who run < 0 then (0, 4) else (standsI p who run, 0)) := by show _ = _; rw [standsR, HX.out, if_pos hz]
      clear hz
      go_wp2_with fail
      refine (stands_any (p := p) who run _ (by exact HP.out.grow (Below.trans (by repeat (first | exact Below.refl _ _ | assumption | refine Below.drew ?_ | refine below_drewN ?_ _ | refine Below.alloc ?_ (by (try simp) <;> omega) _ | refine Below.setCell ?_ (by (try simp) <;> omega) _ | refine Below.trans ?_ (Below.mono (by assumption) (by (try simp) <;> omega)))) (Below.mono hgw1 (by simp))))).mono ?_
      rintro e w2 ⟨rfl, hbw2⟩; obtain ⟨hcw2, hfw2⟩ := bcell hbw2; have hzw2 := hbw2.size; (try simp at hzw2)
      by_cases hneg : standsI p who run < 0
      · go_wp2
        go_ret2
        exact ⟨by rw [HZ.out, if_pos hneg]; rfl, Below.trans (Below.trans (by repeat (first | exact Below.refl _ _ | assumption | refine Below.drew ?_ | refine below_drewN ?_ _ | refine Below.alloc ?_ (by (try simp) <;> omega) _ | refine Below.setCell ?_ (by (try simp) <;> omega) _ | refine Below.trans ?_ (Below.mono (by assumption) (by (try simp) <;> omega)))) (Below.mono hgw1 (by simp))) (hbw2.mono (by omega))⟩
      · go_wp2
        go_ret2
        exact ⟨by rw [HZ.out, if_neg (by omega)]; rfl, Below.trans (Below.trans (by repeat (first | exact Below.refl _ _ | assumption | refine Below.drew ?_ | refine below_drewN ?_ _ | refine Below.alloc ?_ (by (try simp) <;> omega) _ | refine Below.setCell ?_ (by (try simp) <;> omega) _ | refine Below.trans ?_ (Below.mono (by assumption) (by (try simp) <;> omega)))) (Below.mono hgw1 (by simp))) (hbw2.mono (by omega))⟩
    · have hne : (checkE p (runB p run) false != 0) = true := by simp [hz]
      have HZ : Hid (standsR p who run = (0, checkE p (runB p run) false)) := by show _ = _; rw [standsR, HX.out, if_neg hz]
      clear hz
      go_wp2
      go_ret2
      exact ⟨by rw [HZ.out]; rfl, Below.trans (by repeat (first | exact Below.refl _ _ | assumption | refine Below.drew ?_ | refine below_drewN ?_ _ | refine Below.alloc ?_ (by (try simp) <;> omega) _ | refine Below.setCell ?_ (by (try simp) <;> omega) _ | refine Below.trans ?_ (Below.mono (by assumption) (by (try simp) <;> omega)))) (Below.mono hgw1 (by simp))⟩
end
end Go.Proofs.YtlcolpnniipgbaaDoor
