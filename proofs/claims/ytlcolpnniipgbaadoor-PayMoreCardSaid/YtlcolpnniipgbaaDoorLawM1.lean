/- Plain laws for PayMore (no program in sight): a pay that is known better, one with a struck call more, and one whose shearers are numbered otherwise. The walks of the two function literals in the law PayMore; conditions: what the pointer points to is a span. -/
import Derived.Test.YtlcolpnniipgbaaDoorLawU0
import Derived.Test.YtlcolpnniipgbaaDoorLawE0
import Derived.Test.YtlcolpnniipgbaaDoorLawWages
namespace Go.Proofs.YtlcolpnniipgbaaDoor
open Go.RowKit Go.Hav
/-- v is p, known better. -/
structure Narrow (p v : PayD) : Prop where
  epeople : v.people = p.people
  erate : v.rate = p.rate
  ebill : v.bill = p.bill
  edays : v.days = p.days
  epaid : v.paid = p.paid
  elen : v.runs.length = p.runs.length
  run : ∀ r : Int, 0 ≤ r → r < p.runs.length → (runS p r).lo ≤ (runS v r).lo ∧ (runS v r).hi ≤ (runS p r).hi
  called : ∀ who run : Int, (calledS p who run).lo ≤ (calledS v who run).lo ∧ (calledS v who run).hi ≤ (calledS p who run).hi
def inS (a b : Sp) : Bool := decide (b.lo ≤ a.lo) && decide (a.hi ≤ b.hi)
theorem inS_true {a b : Sp} (h1 : b.lo ≤ a.lo) (h2 : a.hi ≤ b.hi) : inS a b = true := by simp [inS, h1, h2]
theorem sharesR_congr {p v : PayD} (hd : v.days = p.days) (hb : v.bill = p.bill) : sharesR v = sharesR p := by
  unfold sharesR; rw [hd, hb]
section
variable {p v : PayD}
theorem Narrow.lo (h : Narrow p v) (run but k : Int) : ∀ (n : Nat) (f : Int), loF p run but k n f ≤ loF v run but k n f ∧ hiF v run but k n f ≤ hiF p run but k n f := by
  intro n
  induction n with
  | zero => intro f; simp [loF, hiF]
  | succ n ih =>
    intro f
    have a := ih (f + 1)
    have b := h.called f run
    rw [loF, loF, hiF, hiF]
    by_cases e : f = but
    · simp only [if_pos e]; omega
    · simp only [if_neg e]; omega
theorem Narrow.all (h : Narrow p v) (run but : Int) : (allS p run but).lo ≤ (allS v run but).lo ∧ (allS v run but).hi ≤ (allS p run but).hi := by
  unfold allS
  rw [h.epeople]
  exact h.lo run but 0 _ 0
theorem Narrow.wrong (h : Narrow p v) (hv : payB p = true) (hv' : payB v = true) (ht : wrongI v = 0) : wrongI p = 0 := by
  rw [wrongI_zero] at ht ⊢
  intro r hr
  have h1 := (okRun_iff hv' r (by rw [h.elen]; exact hr)).1 (ht r (by rw [h.elen]; exact hr))
  rw [okRun_iff hv r hr]
  have h2 := h.all r (-1)
  have h3 := h.run r (by omega) (by omega)
  omega
theorem Narrow.sheep (h : Narrow p v) (who : Int) {run : Int} (r0 : 0 ≤ run) (r1 : run < p.runs.length) : (sheepS p who run).lo ≤ (sheepS v who run).lo ∧ (sheepS v who run).hi ≤ (sheepS p who run).hi := by
  have h2 := h.all run who
  have h3 := h.run run r0 r1
  have h4 := h.called who run
  simp only [sheepS]
  omega
theorem Narrow.out (h : Narrow p v) {run : Int} (r0 : 0 ≤ run) (r1 : run < p.runs.length) : (outS p run).lo ≤ (outS v run).lo ∧ (outS v run).hi ≤ (outS p run).hi := by
  have h2 := h.all run (-1)
  have h3 := h.run run r0 r1
  simp only [outS]
  omega
theorem Narrow.wages (h : Narrow p v) (hv : payB p = true) (who : Int) : (wagesP p who).lo ≤ (wagesP v who).lo ∧ (wagesP v who).hi ≤ (wagesP p who).hi := by
  have hr := payB_rate hv
  unfold wagesP
  rw [h.erate, h.elen]
  have : ∀ n : Nat, n ≤ p.runs.length → (wagesF (fun r => sheepS p who r) p.rate n).lo ≤ (wagesF (fun r => sheepS v who r) p.rate n).lo ∧ (wagesF (fun r => sheepS v who r) p.rate n).hi ≤ (wagesF (fun r => sheepS p who r) p.rate n).hi := by
    intro n
    induction n with
    | zero => intro _; simp [wagesF]
    | succ n ih =>
      intro hn
      have a := ih (by omega)
      have b := h.sheep who (run := n) (by omega) (by omega)
      have c1 := Int.ediv_le_ediv (c := 100) (by omega) (Int.mul_le_mul_of_nonneg_right b.1 hr.1)
      have c2 := Int.ediv_le_ediv (c := 100) (by omega) (Int.mul_le_mul_of_nonneg_right b.2 hr.1)
      rw [wagesF, wagesF]
      simp only
      omega
  exact this _ (Nat.le_refl _)
theorem Narrow.left (h : Narrow p v) (hv : payB p = true) (who : Int) : (leftP p who).lo ≤ (leftP v who).lo ∧ (leftP v who).hi ≤ (leftP p who).hi := by
  have a := h.wages hv who
  unfold leftP offS
  rw [sharesR_congr h.edays h.ebill, h.epaid]
  simp only
  omega
/-- What a law on all four asks, of a pay that is known better: the same error for all, or spans within. -/
theorem narrow_setRun {r : Nat} {R s : Sp} (hR : p.runs[r]? = some R) (h1 : R.lo ≤ s.lo) (h2 : s.hi ≤ R.hi) : Narrow p (setRun p r s) := by
  have hr : r < p.runs.length := (List.getElem?_eq_some_iff.1 hR).1
  refine ⟨rfl, rfl, rfl, rfl, rfl, by simp [setRun], fun m m0 m1 => ?_, fun who run => ?_⟩
  · obtain ⟨k, rfl⟩ := Int.eq_ofNat_of_zero_le m0
    by_cases e : r = k
    · subst e
      rw [runS_setRun_self hr, runS_some (p := p) (run := r) (by rw [Int.toNat_natCast]; exact hR)]
      exact ⟨h1, h2⟩
    · rw [runS_setRun_ne e]; exact ⟨Int.le_refl _, Int.le_refl _⟩
  · rw [calledS_setRun]; exact ⟨Int.le_refl _, Int.le_refl _⟩
theorem narrow_setSh {i : Nat} {c : Ca} {s : Sp} (hc : p.calls[i]? = some c) (h1 : c.sh.lo ≤ s.lo) (h2 : s.hi ≤ c.sh.hi) : Narrow p (setSh p i c s) := by
  refine ⟨rfl, rfl, rfl, rfl, rfl, rfl, fun m _ _ => ⟨Int.le_refl _, Int.le_refl _⟩, fun who run => ?_⟩
  rw [called_setSh hc]
  split
  · rename_i e
    rw [called_of e hc]; exact ⟨h1, h2⟩
  · exact ⟨Int.le_refl _, Int.le_refl _⟩
/-- A call more, which is struck. -/
def moreP (p : PayD) (m : Nat) (e : Ca) : PayD := { p with calls := p.calls.take m ++ e :: p.calls.drop m }
theorem more_same (p : PayD) (m : Nat) {e : Ca} (he : e.struck = true) : SameCalled p (moreP p m e) := by
  refine ⟨rfl, rfl, rfl, fun who run => ?_⟩
  rw [called_last, called_last]
  show ((lastC who run (p.calls.take m ++ e :: p.calls.drop m)).map _).getD _ = _
  have hl : lastC who run (p.calls.take m ++ e :: p.calls.drop m) = lastC who run p.calls := by
    conv => rhs; rw [← List.take_append_drop m p.calls]
    unfold lastC
    rw [List.foldl_append, List.foldl_append, List.foldl_cons, if_neg (show ¬ hitB e who run from fun h => by have := h.2.2; rw [he] at this; cases this)]
  rw [hl]
theorem SameCalled.narrow (h : SameCalled p v) (hb : v.bill = p.bill) (hd : v.days = p.days) (hp : v.paid = p.paid) : Narrow p v :=
  ⟨h.epeople, h.erate, hb, hd, hp, by rw [h.eruns], fun r _ _ => by unfold runS; rw [h.eruns]; exact ⟨Int.le_refl _, Int.le_refl _⟩, fun who run => by rw [h.ecalled]; exact ⟨Int.le_refl _, Int.le_refl _⟩⟩
theorem SameCalled.out (h : SameCalled p v) (run : Int) : outS v run = outS p run := by
  unfold outS runS
  rw [h.all, h.eruns]
theorem SameCalled.left (h : SameCalled p v) (hb : v.bill = p.bill) (hd : v.days = p.days) (hp : v.paid = p.paid) (who : Int) : leftP v who = leftP p who := by
  unfold leftP
  rw [h.wages, sharesR_congr hd hb, hp]
/-! Shearers are numbered otherwise. -/
def turn (P : Int) (c : Ca) : Ca := { c with who := P - 1 - c.who }
def turnP (p : PayD) : PayD := { p with calls := p.calls.map (turn p.people) }
theorem lastC_turn (P who run : Int) (l : List Ca) : lastC (P - 1 - who) run (l.map (turn P)) = (lastC who run l).map (turn P) := by
  have : ∀ (l : List Ca) (a : Option Ca), (l.map (turn P)).foldl (fun a c => if hitB c (P - 1 - who) run then some c else a) (a.map (turn P)) = (l.foldl (fun a c => if hitB c who run then some c else a) a).map (turn P) := by
    intro l
    induction l with
    | nil => intro a; rfl
    | cons c l ih =>
      intro a
      rw [List.map_cons, List.foldl_cons, List.foldl_cons]
      have hh : hitB (turn P c) (P - 1 - who) run ↔ hitB c who run := by
        unfold hitB turn
        simp only
        constructor
        · rintro ⟨h1, h2, h3⟩; exact ⟨by omega, h2, h3⟩
        · rintro ⟨h1, h2, h3⟩; exact ⟨by omega, h2, h3⟩
      by_cases h : hitB c who run
      · rw [if_pos (hh.2 h), if_pos h]; exact ih (some c)
      · rw [if_neg (fun h' => h (hh.1 h')), if_neg h]; exact ih a
  exact this l none
theorem called_turn (p : PayD) (who run : Int) : calledS (turnP p) (p.people - 1 - who) run = calledS p who run := by
  rw [called_last, called_last]
  show ((lastC (p.people - 1 - who) run (p.calls.map (turn p.people))).map _).getD _ = _
  rw [lastC_turn, Option.map_map]
  rfl
theorem loF_sumI (p : PayD) (run who k : Int) : ∀ (n : Nat) (f : Int), loF p run who k n f = sumI (fun i => if i = who then k else (calledS p i run).lo) n f ∧ hiF p run who k n f = sumI (fun i => if i = who then k else (calledS p i run).hi) n f := by
  intro n
  induction n with
  | zero => intro f; exact ⟨rfl, rfl⟩
  | succ n ih =>
    intro f
    have a := ih (f + 1)
    rw [loF, hiF, sumI, sumI, a.1, a.2]
    exact ⟨rfl, rfl⟩
theorem sumI_shift (h : Int → Int) : ∀ (n : Nat) (f : Int), sumI h n (f + 1) = sumI (fun x => h (x + 1)) n f := by
  intro n
  induction n with
  | zero => intro f; rfl
  | succ n ih => intro f; rw [sumI, sumI, ih (f + 1)]
theorem sumI_turn : ∀ (n : Nat) (g : Int → Int), sumI (fun f => g ((n : Int) - 1 - f)) n 0 = sumI g n 0 := by
  intro n
  induction n with
  | zero => intro g; rfl
  | succ n ih =>
    intro g
    rw [sumI_snoc g, sumI, sumI_shift]
    have e : (fun x : Int => g (((n + 1 : Nat) : Int) - 1 - (x + 1))) = fun x => g ((n : Int) - 1 - x) := by
      funext x; congr 1; omega
    rw [e, ih g, show ((n + 1 : Nat) : Int) - 1 - 0 = 0 + (n : Int) by omega]
    omega
theorem allS_turn (p : PayD) (hp : 0 ≤ p.people) (run who : Int) : allS (turnP p) run (p.people - 1 - who) = allS p run who := by
  obtain ⟨n, hn⟩ := Int.eq_ofNat_of_zero_le hp
  unfold allS
  rw [show (turnP p).people = p.people from rfl, (loF_sumI (turnP p) _ _ _ _ _).1, (loF_sumI (turnP p) _ _ _ _ _).2, (loF_sumI p _ _ _ _ _).1, (loF_sumI p _ _ _ _ _).2]
  rw [hn, Int.toNat_natCast]
  rw [← sumI_turn n (fun i => if i = who then 0 else (calledS p i run).lo), ← sumI_turn n (fun i => if i = who then 0 else (calledS p i run).hi)]
  have hc : ∀ i : Int, calledS (turnP p) i run = calledS p (n - 1 - i) run := fun i => by
    have := called_turn p ((n : Int) - 1 - i) run
    rw [hn, show (n : Int) - 1 - ((n : Int) - 1 - i) = i by omega] at this
    exact this
  have e : ∀ i : Int, i = (n : Int) - 1 - who ↔ (n : Int) - 1 - i = who := fun i => by omega
  simp only [hc, e]
theorem allS_nobody (p : PayD) (run : Int) (hp : 0 ≤ p.people) : allS p run p.people = allS p run (-1) := by
  have : ∀ (n : Nat) (f : Int), 0 ≤ f → f + n ≤ p.people → loF p run p.people 0 n f = loF p run (-1) 0 n f ∧ hiF p run p.people 0 n f = hiF p run (-1) 0 n f := by
    intro n
    induction n with
    | zero => intro f _ _; exact ⟨rfl, rfl⟩
    | succ n ih =>
      intro f h0 h1
      have a := ih (f + 1) (by omega) (by omega)
      rw [loF, hiF, loF, hiF, a.1, a.2, if_neg (by omega), if_neg (by omega), if_neg (by omega), if_neg (by omega)]
      exact ⟨rfl, rfl⟩
  unfold allS
  have := this p.people.toNat 0 (Int.le_refl _) (by omega)
  rw [this.1, this.2]
theorem payB_turn (h : payB p = true) : payB (turnP p) = true := by
  simp only [payB, headB, Bool.and_eq_true, decide_eq_true_eq, List.all_eq_true] at h ⊢
  obtain ⟨⟨⟨⟨⟨⟨⟨⟨⟨⟨h1, h2⟩, h3⟩, h4⟩, h5⟩, h6⟩, h7⟩, h8⟩, h9⟩, h10⟩, h11⟩ := h
  refine ⟨⟨⟨⟨⟨⟨⟨⟨⟨⟨h1, h2⟩, ?_⟩, h4⟩, h5⟩, h6⟩, h7⟩, h8⟩, fun d hd => ?_⟩, h10⟩, h11⟩
  · show (p.calls.map _).length ≤ 12
    rw [List.length_map]; exact h3
  · obtain ⟨c, hc, rfl⟩ := List.mem_map.1 hd
    have := h9 c hc
    simp only [callB, Bool.and_eq_true] at this ⊢
    refine ⟨⟨?_, this.1.2⟩, this.2⟩
    have hw := inB_iff.1 this.1.1
    exact inB_iff.2 ⟨by show 0 ≤ p.people - 1 - c.who; omega, by show p.people - 1 - c.who ≤ p.people - 1; omega⟩
theorem wrong_turn (hv : payB p = true) : wrongI (turnP p) = wrongI p := by
  have hp := payB_people hv
  have hok : ∀ r : Nat, r < p.runs.length → okRun (turnP p) r = okRun p r := fun r hr => by
    have h1 := okRun_iff (payB_turn hv) r hr
    have h2 := okRun_iff hv r hr
    have e : allS (turnP p) r (-1) = allS p r (-1) := by
      have := allS_turn p (by omega) r p.people
      rw [show p.people - 1 - p.people = -1 by omega, allS_nobody p r (by omega)] at this
      exact this
    rw [e, show runS (turnP p) r = runS p r from rfl, ← h2] at h1
    cases h3 : okRun (turnP p) r <;> cases h4 : okRun p r <;> simp_all
  have : ∀ n, n ≤ p.runs.length → wrongF (turnP p) n = wrongF p n := by
    intro n
    induction n with
    | zero => intro _; rfl
    | succ n ih => intro hn; rw [wrongF, wrongF, ih (by omega), hok n (by omega)]
  exact this _ (Nat.le_refl _)
theorem sheep_turn (hv : payB p = true) (who run : Int) : sheepS (turnP p) (p.people - 1 - who) run = sheepS p who run := by
  have hp := payB_people hv
  unfold sheepS
  rw [called_turn, allS_turn p (by omega), show runS (turnP p) run = runS p run from rfl]
theorem wages_turn (hv : payB p = true) (who : Int) : wagesP (turnP p) (p.people - 1 - who) = wagesP p who := by
  unfold wagesP
  rw [show (fun r => sheepS (turnP p) (p.people - 1 - who) r) = fun r => sheepS p who r from funext fun r => sheep_turn hv who r]
  rfl
end
end Go.Proofs.YtlcolpnniipgbaaDoor
namespace Go.Proofs.YtlcolpnniipgbaaDoor
open Go.RowKit Go.Hav
theorem in39_any (a b c d : Int) (w : World) : Calls Tryd.prog 39 #[.agg #[.int .i64 a, .int .i64 b], .agg #[.int .i64 c, .int .i64 d]] w fun e w' => e = .returned (.bool (inS ⟨a, b⟩ ⟨c, d⟩)) ∧ Below w.heap.size w w' := by
  by_cases h : c ≤ a
  · have hd : decide (c ≤ a) = true := by simpa using h
    go_enter Tryd.func39, Tryd.ntmps39
    go_wp2
    go_ret
    exact ⟨by simp [inS, h], (by repeat (first | exact Below.refl _ _ | assumption | refine Below.drew ?_ | refine below_drewN ?_ _ | refine Below.alloc ?_ (by (try simp) <;> omega) _ | refine Below.setCell ?_ (by (try simp) <;> omega) _ | refine Below.trans ?_ (Below.mono (by assumption) (by (try simp) <;> omega))))⟩
  · have hd : decide (c ≤ a) = false := by simpa using h
    go_enter Tryd.func39, Tryd.ntmps39
    go_wp2
    go_ret
    exact ⟨by rw [inS]; simp only; rw [hd]; rfl, (by repeat (first | exact Below.refl _ _ | assumption | refine Below.drew ?_ | refine below_drewN ?_ _ | refine Below.alloc ?_ (by (try simp) <;> omega) _ | refine Below.setCell ?_ (by (try simp) <;> omega) _ | refine Below.trans ?_ (Below.mono (by assumption) (by (try simp) <;> omega))))⟩
/-- What narrow leaves of a span. -/
structure NarrowTo (which lo hi lo' hi' : Int) : Prop where
  a : lo ≤ lo'
  b : lo' ≤ hi'
  c : hi' ≤ hi
  one : lo' = lo ∨ hi' = hi
theorem narrow_any (which lo hi : Int) (k0 : 0 ≤ which) (k1 : which ≤ 255) (hl : lo ≤ hi) (l0 : 0 ≤ lo) (l1 : hi ≤ 1000) (g o s : Nat) (w : World) (hlo : w.cell? ⟨g, o, none⟩ = some (.int .i64 lo)) (hhi : w.cell? ⟨g, o + 1, none⟩ = some (.int .i64 hi)) (f0 : w.frozen? ⟨g, o, none⟩ = false) (f1 : w.frozen? ⟨g, o + 1, none⟩ = false)
    (hg : g < w.heap.size) (_hs : s < w.heap.size) (hw : w.cell? ⟨s, 0, none⟩ = some (.int .u8 which)) :
    Calls Tryd.prog 38 #[.pointer (some ⟨g, o, none⟩), .pointer (some ⟨s, 0, none⟩)] w fun e w' => ∃ lo' hi', NarrowTo which lo hi lo' hi' ∧ e = .returned (.tuple #[]) ∧ ∃ w1, Below w.heap.size w w1 ∧ ((hi' = hi ∧ w' = w1.setCell ⟨g, o, none⟩ (.int .i64 lo')) ∨ (lo' = lo ∧ w' = w1.setCell ⟨g, o + 1, none⟩ (.int .i64 hi'))) := by
  have k3 : IntKind.i64.wrap (lo + 1) = lo + 1 := IntWalk.i64_in _ (by omega)
  have k4 : IntKind.i64.wrap (hi - 1) = hi - 1 := IntWalk.i64_in _ (by omega)
  obtain ⟨LO, hmin, n0, n1⟩ : ∃ LO : Int, (∀ w, (Builtin.min_ #[3, 3] 3 #[.int .i64 hi, .int .i64 (lo + 1)]).run Tryd.prog w = .ok (.int .i64 LO) w) ∧ lo ≤ LO ∧ LO ≤ hi := by
    by_cases h : lo + 1 < hi
    · exact ⟨lo + 1, fun w => by simp [Builtin.min_, Builtin.min2, h], by omega, by omega⟩
    · exact ⟨hi, fun w => by simp [Builtin.min_, Builtin.min2, h], by omega, by omega⟩
  obtain ⟨HI, hmax, m0, m1⟩ : ∃ HI : Int, (∀ w, (Builtin.max_ #[3, 3] 3 #[.int .i64 lo, .int .i64 (hi - 1)]).run Tryd.prog w = .ok (.int .i64 HI) w) ∧ lo ≤ HI ∧ HI ≤ hi := by
    by_cases h : lo < hi - 1
    · exact ⟨hi - 1, fun w => by simp [Builtin.max_, Builtin.max2, h], by omega, by omega⟩
    · exact ⟨lo, fun w => by simp [Builtin.max_, Builtin.max2, h], by omega, by omega⟩
  by_cases h2 : which % 2 = 0
  · have h3 : (which % 2 == 0) = true := by simpa using h2
    go_enter Tryd.func38, Tryd.ntmps38
    go_wp2
    refine wp_region_havoc [(0,false),(1,false),(2,false),(3,false),(4,false),(5,false),(6,false),(7,false),(8,false),(9,false),(10,false),(11,false),(12,false)] [13] (fun _ _ => False) (by kernel_rfl) (by kernel_rfl) (fun _ _ _ _ h => h.elim) ?_
    (apply hav_same (by simp only [List.getElem?_toArray, List.getElem?_cons_zero]; rfl) (by kernel_rfl); (focus (intro wv hgv _; have hcv : ∀ b o, b < _ → wv.cell? ⟨b, o, none⟩ = _ := fun b o hb => Below.cell hgv (p := ⟨b, o, none⟩) hb; go_simp; try rfl; done)); simp only [Act.put, List.setIfInBounds_toArray, List.set_cons_succ, List.set_cons_zero])
    iterate 12 (apply hav_same (by simp only [List.getElem?_toArray, List.getElem?_cons_succ, List.getElem?_cons_zero]; rfl) (by kernel_rfl); (focus (intro wv hgv _; have hcv : ∀ b o, b < _ → wv.cell? ⟨b, o, none⟩ = _ := fun b o hb => Below.cell hgv (p := ⟨b, o, none⟩) hb; go_simp; try rfl; done)); simp only [Act.put, List.setIfInBounds_toArray, List.set_cons_succ, List.set_cons_zero])
    refine hav_end (fun w1 hgw1 _ => ?_); simp only [List.filterMap]; have hcw1 : ∀ b o, b < _ → w1.cell? ⟨b, o, none⟩ = _ := fun b o hb => Below.cell hgw1 (p := ⟨b, o, none⟩) hb; have hfw1 : ∀ b o, b < _ → w1.frozen? ⟨b, o, none⟩ = _ := fun b o hb => Below.frozen hgw1 (p := ⟨b, o, none⟩) hb; have hzw1 := Below.size hgw1; (try simp at hzw1)
    simp only [List.getElem?_toArray, List.getElem?_cons_succ, List.getElem?_cons_zero]
    have e0 : w1.cell? ⟨g, o, none⟩ = some (.int .i64 lo) := (hcw1 g o hg).trans hlo
    have e1 : w1.frozen? ⟨g, o, none⟩ = false := (hfw1 g o hg).trans f0
    have e2 : g < w1.heap.size := by omega
    have HG := Lib.hid hgw1
    clear hgw1 hcw1 hfw1
    go_wp2
    refine bodyPost_end (v := .tuple #[]) (by simp [results, Tryd.results38]) rfl ?_
    exact ⟨LO, hi, ⟨n0, n1, Int.le_refl _, .inr rfl⟩, rfl, w1, HG.out, .inl ⟨rfl, rfl⟩⟩
  · have h3 : (which % 2 == 0) = false := by simpa using h2
    go_enter Tryd.func38, Tryd.ntmps38
    go_wp2
    refine wp_region_havoc [(0,false),(1,false),(2,false),(3,false),(4,false),(5,false),(6,false),(7,false),(8,false),(9,false),(10,false),(11,false),(12,false)] [13] (fun _ _ => False) (by kernel_rfl) (by kernel_rfl) (fun _ _ _ _ h => h.elim) ?_
    (apply hav_same (by simp only [List.getElem?_toArray, List.getElem?_cons_zero]; rfl) (by kernel_rfl); (focus (intro wv hgv _; have hcv : ∀ b o, b < _ → wv.cell? ⟨b, o, none⟩ = _ := fun b o hb => Below.cell hgv (p := ⟨b, o, none⟩) hb; go_simp; try rfl; done)); simp only [Act.put, List.setIfInBounds_toArray, List.set_cons_succ, List.set_cons_zero])
    iterate 12 (apply hav_same (by simp only [List.getElem?_toArray, List.getElem?_cons_succ, List.getElem?_cons_zero]; rfl) (by kernel_rfl); (focus (intro wv hgv _; have hcv : ∀ b o, b < _ → wv.cell? ⟨b, o, none⟩ = _ := fun b o hb => Below.cell hgv (p := ⟨b, o, none⟩) hb; go_simp; try rfl; done)); simp only [Act.put, List.setIfInBounds_toArray, List.set_cons_succ, List.set_cons_zero])
    refine hav_end (fun w1 hgw1 _ => ?_); simp only [List.filterMap]; have hcw1 : ∀ b o, b < _ → w1.cell? ⟨b, o, none⟩ = _ := fun b o hb => Below.cell hgw1 (p := ⟨b, o, none⟩) hb; have hfw1 : ∀ b o, b < _ → w1.frozen? ⟨b, o, none⟩ = _ := fun b o hb => Below.frozen hgw1 (p := ⟨b, o, none⟩) hb; have hzw1 := Below.size hgw1; (try simp at hzw1)
    simp only [List.getElem?_toArray, List.getElem?_cons_succ, List.getElem?_cons_zero]
    have e0 : w1.cell? ⟨g, o + 1, none⟩ = some (.int .i64 hi) := (hcw1 g (o + 1) hg).trans hhi
    have e1 : w1.frozen? ⟨g, o + 1, none⟩ = false := (hfw1 g (o + 1) hg).trans f1
    have e2 : g < w1.heap.size := by omega
    have HG := Lib.hid hgw1
    clear hgw1 hcw1 hfw1
    go_wp2
    refine bodyPost_end (v := .tuple #[]) (by simp [results, Tryd.results38]) rfl ?_
    exact ⟨lo, HI, ⟨Int.le_refl _, m0, m1, .inl rfl⟩, rfl, w1, HG.out, .inr ⟨rfl, rfl⟩⟩
end Go.Proofs.YtlcolpnniipgbaaDoor
