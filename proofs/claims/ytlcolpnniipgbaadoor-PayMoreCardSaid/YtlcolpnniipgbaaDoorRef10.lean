/- The walks of the reference's Wrong, rule and Check. The walks of the reference's Check and Out. -/
import Derived.Test.YtlcolpnniipgbaaDoorPlain1
namespace Go.Proofs.YtlcolpnniipgbaaDoor
open Go.RowKit Go.Hav

section
variable {people rate bill : Int} {ra ca da pa : Option Addr} {rl rc cl cc dl dc pl pc : Nat} {p : PayD}

def wrongR (p : PayD) : Int × Int := if checkE p true false = 0 then (if wrongI p = 0 then (0, 4) else (wrongI p, 0)) else (0, checkE p true false)
theorem checkE_valid {t : Bool} (h : checkE p true t = 0) : payB p = true ∧ (t = true → wrongI p = 0) := by
  unfold checkE at h
  split at h
  · rename_i h1
    refine ⟨h1, fun ht => ?_⟩
    subst ht
    simp at h
    by_cases hw : wrongI p = 0
    · exact hw
    · simp [hw] at h
  · simp at h

set_option maxHeartbeats 1600000 in
theorem RWrong_any (w : World) (hP : PayIn w w.heap.size people ra rl ca cl rate bill da dl pa pl p) :
    Calls Tryd.prog 29 #[payV people ra rl rc ca cl cc rate bill da dl dc pa pl pc] w fun e w' => e = .returned (.tuple #[.int .i64 (wrongR p).1, .int .i64 (wrongR p).2]) ∧ Below w.heap.size w w' := by
  have HP := Lib.hid hP
  clear hP
  unfold payV
  by_cases hz : checkE p true false = 0
  · have HZ := Lib.hid hz
    have Z1 := Lib.hid (checkE_valid hz).1
    have HR : Hid (wrongR p = if wrongI p = 0 then (0, 4) else (wrongI p, 0)) := by show _ = _; rw [wrongR, if_pos hz]
    clear hz
    by_cases hw : wrongI p = 0
    · have HW := Lib.hid hw
      have hne : (wrongI p == 0) = true := by simp [hw]
      clear hw
      go_enter Tryd.func29, Tryd.ntmps29
      go_wp2_with fail
      refine (check_any (p := p) _ _ _ (by exact HP.out.grow (by repeat (first | exact Below.refl _ _ | assumption | refine Below.drew ?_ | refine below_drewN ?_ _ | refine Below.alloc ?_ (by (try simp) <;> omega) _ | refine Below.setCell ?_ (by (try simp) <;> omega) _ | refine Below.trans ?_ (Below.mono (by assumption) (by (try simp) <;> omega)))))).mono ?_
      rw [HZ.out]
      rintro e w1 ⟨rfl, hbw1⟩; obtain ⟨hcw1, hfw1⟩ := bcell hbw1; have hzw1 := hbw1.size; (try simp at hzw1)
      have q1 : w.heap.size < w1.heap.size := by omega
      go_wp2_with fail
      refine (wrong_any (p := p) Z1.out _ (by exact HP.out.grow (by repeat (first | exact Below.refl _ _ | assumption | refine Below.drew ?_ | refine below_drewN ?_ _ | refine Below.alloc ?_ (by (try simp) <;> omega) _ | refine Below.setCell ?_ (by (try simp) <;> omega) _ | refine Below.trans ?_ (Below.mono (by assumption) (by (try simp) <;> omega)))))).mono ?_
      rintro e w2 ⟨rfl, hbw2⟩; obtain ⟨hcw2, hfw2⟩ := bcell hbw2; have hzw2 := hbw2.size; (try simp at hzw2)
      go_wp2
      go_ret2
      exact ⟨by rw [HR.out, if_pos HW.out]; rfl, (by repeat (first | exact Below.refl _ _ | assumption | refine Below.drew ?_ | refine below_drewN ?_ _ | refine Below.alloc ?_ (by (try simp) <;> omega) _ | refine Below.setCell ?_ (by (try simp) <;> omega) _ | refine Below.trans ?_ (Below.mono (by assumption) (by (try simp) <;> omega))))⟩
    · have HW := Lib.hid hw
      have hne : (wrongI p == 0) = false := by simp [hw]
      clear hw
      go_enter Tryd.func29, Tryd.ntmps29
      go_wp2_with fail
      refine (check_any (p := p) _ _ _ (by exact HP.out.grow (by repeat (first | exact Below.refl _ _ | assumption | refine Below.drew ?_ | refine below_drewN ?_ _ | refine Below.alloc ?_ (by (try simp) <;> omega) _ | refine Below.setCell ?_ (by (try simp) <;> omega) _ | refine Below.trans ?_ (Below.mono (by assumption) (by (try simp) <;> omega)))))).mono ?_
      rw [HZ.out]
      rintro e w1 ⟨rfl, hbw1⟩; obtain ⟨hcw1, hfw1⟩ := bcell hbw1; have hzw1 := hbw1.size; (try simp at hzw1)
      have q1 : w.heap.size < w1.heap.size := by omega
      go_wp2_with fail
      refine (wrong_any (p := p) Z1.out _ (by exact HP.out.grow (by repeat (first | exact Below.refl _ _ | assumption | refine Below.drew ?_ | refine below_drewN ?_ _ | refine Below.alloc ?_ (by (try simp) <;> omega) _ | refine Below.setCell ?_ (by (try simp) <;> omega) _ | refine Below.trans ?_ (Below.mono (by assumption) (by (try simp) <;> omega)))))).mono ?_
      rintro e w2 ⟨rfl, hbw2⟩; obtain ⟨hcw2, hfw2⟩ := bcell hbw2; have hzw2 := hbw2.size; (try simp at hzw2)
      have q2 : w.heap.size < w2.heap.size := by omega
      go_wp2_with fail
      refine (wrong_any (p := p) Z1.out _ (by exact HP.out.grow (by repeat (first | exact Below.refl _ _ | assumption | refine Below.drew ?_ | refine below_drewN ?_ _ | refine Below.alloc ?_ (by (try simp) <;> omega) _ | refine Below.setCell ?_ (by (try simp) <;> omega) _ | refine Below.trans ?_ (Below.mono (by assumption) (by (try simp) <;> omega)))))).mono ?_
      rintro e w3 ⟨rfl, hbw3⟩; obtain ⟨hcw3, hfw3⟩ := bcell hbw3; have hzw3 := hbw3.size; (try simp at hzw3)
      go_wp2
      go_ret2
      exact ⟨by rw [HR.out, if_neg HW.out]; rfl, (by repeat (first | exact Below.refl _ _ | assumption | refine Below.drew ?_ | refine below_drewN ?_ _ | refine Below.alloc ?_ (by (try simp) <;> omega) _ | refine Below.setCell ?_ (by (try simp) <;> omega) _ | refine Below.trans ?_ (Below.mono (by assumption) (by (try simp) <;> omega))))⟩
  · have hne : (checkE p true false != 0) = true := by simp [hz]
    have HR : Hid (wrongR p = (0, checkE p true false)) := by show _ = _; rw [wrongR, if_neg hz]
    clear hz
    go_enter Tryd.func29, Tryd.ntmps29
    go_wp2_with fail
    refine (check_any (p := p) _ _ _ (by exact HP.out.grow (by repeat (first | exact Below.refl _ _ | assumption | refine Below.drew ?_ | refine below_drewN ?_ _ | refine Below.alloc ?_ (by (try simp) <;> omega) _ | refine Below.setCell ?_ (by (try simp) <;> omega) _ | refine Below.trans ?_ (Below.mono (by assumption) (by (try simp) <;> omega)))))).mono ?_
    rintro e w1 ⟨rfl, hbw1⟩; obtain ⟨hcw1, hfw1⟩ := bcell hbw1; have hzw1 := hbw1.size; (try simp at hzw1)
    go_wp2
    go_ret2
    exact ⟨by rw [HR.out]; rfl, (by repeat (first | exact Below.refl _ _ | assumption | refine Below.drew ?_ | refine below_drewN ?_ _ | refine Below.alloc ?_ (by (try simp) <;> omega) _ | refine Below.setCell ?_ (by (try simp) <;> omega) _ | refine Below.trans ?_ (Below.mono (by assumption) (by (try simp) <;> omega))))⟩

theorem field34_1 (a b : Int) (w : World) : (Instr.field 34 (.agg #[.int .i64 a, .int .i64 b]) 1).run Tryd.prog w = .ok (.int .i64 b) w := by kernel_rfl
/-- Is there a payment among the first n of the same shearer and run as x? -/
def twiceF (l : List Pd) (x : Pd) : Nat → Bool
  | 0 => false
  | k + 1 => match l[k]? with
    | some y => twiceF l x k || (decide (y.who = x.who) && decide (y.run = x.run))
    | none => twiceF l x k
def muchB (p : PayD) (x : Pd) : Bool := decide ((shornS p x.who x.run).hi * p.rate / 100 < x.pence)
def ruleX (p : PayD) (x : Pd) (n : Nat) : Int := if twiceF p.paid x n then 1 else if standsI p x.who x.run < 0 then 2 else if muchB p x then 3 else 0
theorem payB_paid (h : payB p = true) {k : Nat} {x : Pd} (hx : p.paid[k]? = some x) : 0 ≤ x.who ∧ x.who < p.people ∧ 0 ≤ x.run ∧ x.run < p.runs.length ∧ 0 ≤ x.pence ∧ x.pence ≤ 10000 := by
  simp only [payB, Bool.and_eq_true, List.all_eq_true] at h
  have h1 := h.2 x (List.mem_of_getElem? hx)
  simp only [paidB, whoB, runB, Bool.and_eq_true, inB_iff] at h1
  omega

set_option maxHeartbeats 6400000 in
theorem rule_any (hv : payB p = true) (ht : wrongI p = 0) (n : Nat) (x : Pd) (hx : p.paid[n]? = some x) (w : World) (hP : PayIn w w.heap.size people ra rl ca cl rate bill da dl pa pl p) :
    Calls Tryd.prog 67 #[payV people ra rl rc ca cl cc rate bill da dl dc pa pl pc, .int .i64 n] w fun e w' => e = .returned (.int .i64 (ruleX p x n)) ∧ Below w.heap.size w w' := by
  have HP := Lib.hid hP
  have HV := Lib.hid hv
  have HX := Lib.hid hx
  have hra := payB_rate hv
  have hre := hP.erate
  have hr0 : 0 ≤ rate := by omega
  have hr1 : rate ≤ 1000 := by omega
  have HRE := Lib.hid hP.erate
  have n1 : n < pl := by have := hP.epl; have := (List.getElem?_eq_some_iff.1 hx).1; omega
  have n2 : pl ≤ 8 := by have := hP.epl; omega
  obtain ⟨x1, x2, x3, x4, x5, x6⟩ := payB_paid hv hx
  have hrl := hP.erl
  have x4' : x.run < rl := by omega
  have ho : okRun p x.run.toNat = true := (wrongI_zero p).1 ht x.run.toNat (by omega)
  have HSB : Hid (0 ≤ (shornS p x.who x.run).hi ∧ (shornS p x.who x.run).hi ≤ 100) := by
    show _ ∧ _
    rw [shornS_eq hv x.who x.run x1 x2 x3 x4 ho]
    have := sheepS_ok hv x.who x.run x1 x2 x3 x4 ho
    omega
  have HPRL : Hid (x.run < rl) := x4'
  clear hrl ho x4 hra hre x4'
  obtain ⟨b, off, rfl, hbl, H0, H1, H2⟩ := hP.hpaid n x hx
  have HPL := Lib.hid hP.epl
  have hfl := field34_1
  clear hP hv hx ht
  unfold payV
  go_enter Tryd.func67, Tryd.ntmps67
  have hbl2 : b < w.heap.size + 1 := by omega
  go_wp2
  go_loopw [6] (fun i wr => ∃ k : Nat, k ≤ n ∧ i = .int .i64 k ∧ Hid (twiceF p.paid x k = false) ∧ Below (w.heap.size + 2) ((w.alloc (Obj.cells #[Value.int IntKind.i64 people, Value.slice ra rl rc, Value.slice ca cl cc, Value.int IntKind.i64 rate, Value.int IntKind.i64 bill, Value.slice da dl dc, Value.slice (some { block := b, off := off }) pl pc] 27)).alloc (Obj.cells #[Value.int IntKind.i64 x.who, Value.int IntKind.i64 x.run, Value.int IntKind.i64 x.pence] 49)) wr) (fun i _ => n - (intOf i).toNat)
  case atStart => exact ⟨0, Nat.zero_le _, rfl, rfl, Below.refl _ _⟩
  case round =>
    obtain ⟨k, hk, rfl, HF, hb⟩ := hrel
    have hA : ∀ o, wr.cell? ⟨w.heap.size, o, none⟩ = _ := fun o => hb.cell (p := ⟨w.heap.size, o, none⟩) (by show w.heap.size < _; omega)
    have hA1 : ∀ o, wr.cell? ⟨w.heap.size + 1, o, none⟩ = _ := fun o => hb.cell (p := ⟨w.heap.size + 1, o, none⟩) (by show w.heap.size + 1 < _; omega)
    have hsz : w.heap.size + 2 ≤ wr.heap.size := by have := hb.size; simpa using this
    have HB := Lib.hid hb
    clear hb
    have HBW : Hid (Below w.heap.size w wr) := (((Below.refl w.heap.size w).alloc (by simp) _).alloc (by simp) _).trans (HB.out.mono (by omega))
    by_cases hlt : k < n
    · obtain ⟨y, hy⟩ : ∃ y, p.paid[k]? = some y := ⟨p.paid[k]'(by have := HPL.out; omega), by simp⟩
      have HST : Hid (twiceF p.paid x (k + 1) = (twiceF p.paid x k || (decide (y.who = x.who) && decide (y.run = x.run)))) := by
        show _ = _; rw [twiceF, hy]
      obtain ⟨b', off', he, hbl', K0, K1, K2⟩ := (HP.out.grow HBW.out).hpaid k y hy
      obtain ⟨rfl, rfl⟩ : b' = b ∧ off' = off := by injection he with he; injection he with e1 e2; exact ⟨e1.symm, e2.symm⟩
      clear he hy
      have hkp : (k : Int) < (pl : Int) := by omega
      by_cases h1 : y.who = x.who
      · have g1 : (y.who == x.who) = true := by simp [h1]
        by_cases h2 : y.run = x.run
        · have g2 : (y.run == x.run) = true := by simp [h2]
          have HT : Hid (twiceF p.paid x (k + 1) = true) := by show _ = _; rw [HST.out, h1, h2]; simp
          clear h1 h2
          go_wp2
          go_quiet (fail)
          go_wp2
          go_ret
          have HTn : ∀ j : Nat, twiceF p.paid x (k + 1 + j) = true := by
            intro j
            induction j with
            | zero => exact HT.out
            | succ j ih =>
              rw [← Nat.add_assoc, twiceF]
              split
              · rw [ih]; rfl
              · exact ih
          have hT : twiceF p.paid x n = true := by have := HTn (n - (k + 1)); rwa [show k + 1 + (n - (k + 1)) = n by omega] at this
          exact ⟨ret_int (by rw [ruleX, hT]; rfl), below_drewN HBW.out _⟩
        · have g2 : (y.run == x.run) = false := by simp [h2]
          have HT : Hid (twiceF p.paid x (k + 1) = false) := by show _ = _; rw [HST.out, HF.out]; simp [h2]
          clear h1 h2
          go_wp2
          go_quiet (fail)
          go_wp2
          go_roundw
          case rel => exact ⟨k + 1, by omega, by go_num, HT, below_drewN HB.out _⟩
          case measure => simp [intOf]; omega
      · have g1 : (y.who == x.who) = false := by simp [h1]
        have HT : Hid (twiceF p.paid x (k + 1) = false) := by show _ = _; rw [HST.out, HF.out]; simp [h1]
        clear h1
        go_wp2
        go_quiet (fail)
        go_wp2
        go_roundw
        case rel => exact ⟨k + 1, by omega, by go_num, HT, below_drewN HB.out _⟩
        case measure => simp [intOf]; omega
    · obtain rfl : n = k := by omega
      have hsz1 : w.heap.size < wr.heap.size := by omega
      have hsz2 : w.heap.size + 1 < wr.heap.size := by omega
      go_wp2_with fail
      refine (stands_any (p := p) x.who x.run _ (by exact HP.out.grow HBW.out)).mono ?_
      rintro e w1 ⟨rfl, hbw1⟩; obtain ⟨hcw1, hfw1⟩ := bcell hbw1; have hzw1 := hbw1.size; (try simp at hzw1)
      by_cases hneg : standsI p x.who x.run < 0
      · have HR : Hid (ruleX p x n = 2) := by show _ = _; rw [ruleX, HF.out, if_pos hneg]; rfl
        go_wp2
        go_ret
        exact ⟨ret_int (by rw [HR.out]), HBW.out.trans (hbw1.mono (by omega))⟩
      · have HR : Hid (ruleX p x n = if muchB p x then 3 else 0) := by show _ = _; rw [ruleX, HF.out, if_neg hneg]; rfl
        have HBW1 : Hid (Below w.heap.size w w1) := HBW.out.trans (hbw1.mono (by omega))
        have q1 : w.heap.size < w1.heap.size := by omega
        have q2 : w.heap.size + 1 < w1.heap.size := by omega
        clear hbw1
        go_wp2
        obtain ⟨s, HS⟩ : ∃ s, Hid (shornS p x.who x.run = s) := ⟨_, rfl⟩
        obtain ⟨v1, v2⟩ := HSB.out
        rw [HS.out] at v1 v2
        have hmb : muchB p x = decide (s.hi * rate / 100 < x.pence) := by rw [muchB, HS.out, HRE.out]
        obtain ⟨u1, u2⟩ := wage_bd v1 v2 hr0 hr1
        have HMB := Lib.hid hmb
        clear hmb
        refine wp_region_havoc [(0,false),(1,false),(2,false),(3,false),(4,false),(5,false),(6,false),(7,false),(8,false),(9,false),(10,false),(11,false)] [] (fun _ _ => False) (by kernel_rfl) (by kernel_rfl) (fun _ _ _ _ h => h.elim) ?_
        iterate 8 (apply hav_same (by simp only [List.getElem?_toArray, List.getElem?_cons_succ, List.getElem?_cons_zero]; rfl) (by kernel_rfl); (focus (intro wv hgv _; have hcv : ∀ b o, b < _ → wv.cell? ⟨b, o, none⟩ = _ := fun b o hb => Below.cell hgv (p := ⟨b, o, none⟩) hb; go_simp; try rfl; done)); simp only [Act.put, List.setIfInBounds_toArray, List.set_cons_succ, List.set_cons_zero])
        (apply hav_call (by simp only [List.getElem?_toArray, List.getElem?_cons_succ, List.getElem?_cons_zero]; rfl) (by kernel_rfl); (focus (intro wv; go_simp; try exact ⟨rfl, rfl⟩; done)); (focus (intro wv hgv _; have hb : Below w.heap.size w wv := Below.trans HBW1.out (Below.mono hgv (by omega)); refine (shorn_any (p := p) HV.out x.who x.run x3 HPRL.out _ (HP.out.grow hb)).mono ?_; rw [HS.out]; unfold spV; intro e w' h; exact h; done)); simp only [Act.put, List.setIfInBounds_toArray, List.set_cons_succ, List.set_cons_zero])
        (apply hav_same (by simp only [List.getElem?_toArray, List.getElem?_cons_succ, List.getElem?_cons_zero]; rfl) (by kernel_rfl); (focus (intro wv hgv _; have hcv : ∀ b o, b < _ → wv.cell? ⟨b, o, none⟩ = _ := fun b o hb => Below.cell hgv (p := ⟨b, o, none⟩) hb; go_simp; try rfl; done)); simp only [Act.put, List.setIfInBounds_toArray, List.set_cons_succ, List.set_cons_zero])
        (apply hav_call (by simp only [List.getElem?_toArray, List.getElem?_cons_succ, List.getElem?_cons_zero]; rfl) (by kernel_rfl); (focus (intro wv; go_simp; try exact ⟨rfl, rfl⟩; done)); (focus (intro wv hgv _; exact Wage_any s.hi _ hr0 hr1 v1 (by omega); done)); simp only [Act.put, List.setIfInBounds_toArray, List.set_cons_succ, List.set_cons_zero])
        (apply hav_same (by simp only [List.getElem?_toArray, List.getElem?_cons_succ, List.getElem?_cons_zero]; rfl) (by kernel_rfl); (focus (intro wv hgv _; have hcv : ∀ b o, b < _ → wv.cell? ⟨b, o, none⟩ = _ := fun b o hb => Below.cell hgv (p := ⟨b, o, none⟩) hb; go_simp; try rfl; done)); simp only [Act.put, List.setIfInBounds_toArray, List.set_cons_succ, List.set_cons_zero])
        refine hav_end (fun w2 hgw2 _ => ?_); simp only [List.filterMap]; have hcw2 : ∀ b o, b < _ → w2.cell? ⟨b, o, none⟩ = _ := fun b o hb => Below.cell hgw2 (p := ⟨b, o, none⟩) hb; have hfw2 : ∀ b o, b < _ → w2.frozen? ⟨b, o, none⟩ = _ := fun b o hb => Below.frozen hgw2 (p := ⟨b, o, none⟩) hb; have hzw2 := Below.size hgw2; (try simp at hzw2)
        by_cases hm : s.hi * rate / 100 < x.pence
        · go_wp2
          go_ret
          exact ⟨ret_int (by rw [HR.out, HMB.out]; simp [hm]), HBW1.out.trans (Below.mono hgw2 (by omega))⟩
        · go_wp2
          go_ret
          exact ⟨ret_int (by rw [HR.out, HMB.out]; simp [hm]), HBW1.out.trans (Below.mono hgw2 (by omega))⟩
end
end Go.Proofs.YtlcolpnniipgbaaDoor
namespace Go.Proofs.YtlcolpnniipgbaaDoor
open Go.RowKit Go.Hav

section
variable {people rate bill : Int} {ra ca da pa : Option Addr} {rl rc cl cc dl dc pl pc : Nat} {p : PayD}

/-- The first payment from k on that breaks a rule, of n more, and the rule. -/
def checkF (p : PayD) (g : Pd → Nat → Int) : Nat → Nat → Int × Int × Int
  | 0, _ => (0, 0, 4)
  | n + 1, k => match p.paid[k]? with
    | some x => if g x k = 0 then checkF p g n (k + 1) else ((k : Int), g x k, 0)
    | none => (0, 0, 4)
def checkR (p : PayD) (g : Pd → Nat → Int) : Int × Int × Int := if checkE p true true = 0 then checkF p g p.paid.length 0 else (0, 0, checkE p true true)

set_option maxHeartbeats 1600000 in
theorem RCheck_any (w : World) (hP : PayIn w w.heap.size people ra rl ca cl rate bill da dl pa pl p) :
    Calls Tryd.prog 27 #[payV people ra rl rc ca cl cc rate bill da dl dc pa pl pc] w fun e w' => e = .returned (.tuple #[.int .i64 (checkR p (ruleX p)).1, .int .i64 (checkR p (ruleX p)).2.1, .int .i64 (checkR p (ruleX p)).2.2]) ∧ Below w.heap.size w w' := by
  have HP := Lib.hid hP
  have HPL := Lib.hid hP.epl
  have m1 := hP.mpl
  clear hP
  unfold payV
  by_cases hz : checkE p true true = 0
  · have HZ := Lib.hid hz
    have Z1 := Lib.hid (checkE_valid hz).1
    have Z2 := Lib.hid ((checkE_valid hz).2 rfl)
    have HR : Hid (checkR p (ruleX p) = checkF p (ruleX p) pl 0) := by show _ = _; rw [checkR, if_pos hz, HPL.out]
    clear hz
    go_enter Tryd.func27, Tryd.ntmps27
    go_wp2_with fail
    refine (check_any (p := p) _ _ _ (by exact HP.out.grow (by repeat (first | exact Below.refl _ _ | assumption | refine Below.drew ?_ | refine below_drewN ?_ _ | refine Below.alloc ?_ (by (try simp) <;> omega) _ | refine Below.setCell ?_ (by (try simp) <;> omega) _ | refine Below.trans ?_ (Below.mono (by assumption) (by (try simp) <;> omega)))))).mono ?_
    rw [HZ.out]
    rintro e w1 ⟨rfl, hbw1⟩; obtain ⟨hcw1, hfw1⟩ := bcell hbw1; have hzw1 := hbw1.size; (try simp at hzw1)
    have q1 : w.heap.size < w1.heap.size := by omega
    have HB1 := Lib.hid hbw1
    clear hbw1
    go_wp2
    go_loopw [6] (fun i wr => ∃ k : Nat, k ≤ pl ∧ i = .int .i64 k ∧ Hid (checkF p (ruleX p) pl 0 = checkF p (ruleX p) (pl - k) k) ∧ Below w1.heap.size w1 wr) (fun i _ => pl - (intOf i).toNat)
    case atStart => exact ⟨0, Nat.zero_le _, rfl, rfl, Below.refl _ _⟩
    case round =>
      obtain ⟨k, hk, rfl, HF, hb⟩ := hrel
      have hA : ∀ o, wr.cell? ⟨w.heap.size, o, none⟩ = _ := fun o => hb.cell (p := ⟨w.heap.size, o, none⟩) (by show w.heap.size < _; omega)
      have hsz : w1.heap.size ≤ wr.heap.size := hb.size
      have HB := Lib.hid hb
      clear hb
      have HBW : Hid (Below w.heap.size w wr) := (((Below.refl w.heap.size w).alloc (by simp) _).trans (HB1.out.mono (by simp))).trans (HB.out.mono (by omega))
      have q2 : w.heap.size < wr.heap.size := by omega
      by_cases hlt : k < pl
      · obtain ⟨x, hx⟩ : ∃ x, p.paid[k]? = some x := ⟨p.paid[k]'(by have := HPL.out; omega), by simp⟩
        have HX := Lib.hid hx
        have HST : Hid (checkF p (ruleX p) (pl - k) k = if ruleX p x k = 0 then checkF p (ruleX p) (pl - (k + 1)) (k + 1) else ((k : Int), ruleX p x k, 0)) := by
          show _ = _; rw [show pl - k = (pl - (k + 1)) + 1 by omega, checkF, hx]
        clear hx
        go_wp2_with fail
        refine (rule_any (p := p) Z1.out Z2.out k x HX.out _ (by exact HP.out.grow HBW.out)).mono ?_
        rintro e w2 ⟨rfl, hbw2⟩; obtain ⟨hcw2, hfw2⟩ := bcell hbw2; have hzw2 := hbw2.size; (try simp at hzw2)
        by_cases hr : ruleX p x k = 0
        · have hne : (ruleX p x k != 0) = false := by simp [hr]
          have HT : Hid (checkF p (ruleX p) pl 0 = checkF p (ruleX p) (pl - (k + 1)) (k + 1)) := by show _ = _; rw [HF.out, HST.out, if_pos hr]
          clear hr
          go_wp2
          go_roundw
          case rel => exact ⟨k + 1, by omega, by go_num, HT, HB.out.trans (hbw2.mono (by omega))⟩
          case measure => simp [intOf]; omega
        · have hne : (ruleX p x k != 0) = true := by simp [hr]
          have HT : Hid (checkF p (ruleX p) pl 0 = ((k : Int), ruleX p x k, 0)) := by show _ = _; rw [HF.out, HST.out, if_neg hr]
          clear hr
          go_wp2
          go_ret3
          exact ⟨by rw [HR.out, HT.out]; rfl, HBW.out.trans (hbw2.mono (by omega))⟩
      · obtain rfl : pl = k := by omega
        have HT : Hid (checkF p (ruleX p) pl 0 = (0, 0, 4)) := by show _ = _; rw [HF.out, Nat.sub_self]; rfl
        go_wp2
        go_ret3
        exact ⟨by rw [HR.out, HT.out]; rfl, HBW.out⟩
  · have hne : (checkE p true true != 0) = true := by simp [hz]
    have HR : Hid (checkR p (ruleX p) = (0, 0, checkE p true true)) := by show _ = _; rw [checkR, if_neg hz]
    clear hz
    go_enter Tryd.func27, Tryd.ntmps27
    go_wp2_with fail
    refine (check_any (p := p) _ _ _ (by exact HP.out.grow (by repeat (first | exact Below.refl _ _ | assumption | refine Below.drew ?_ | refine below_drewN ?_ _ | refine Below.alloc ?_ (by (try simp) <;> omega) _ | refine Below.setCell ?_ (by (try simp) <;> omega) _ | refine Below.trans ?_ (Below.mono (by assumption) (by (try simp) <;> omega)))))).mono ?_
    rintro e w1 ⟨rfl, hbw1⟩; obtain ⟨hcw1, hfw1⟩ := bcell hbw1; have hzw1 := hbw1.size; (try simp at hzw1)
    go_wp2
    go_ret3
    exact ⟨by rw [HR.out]; rfl, (by repeat (first | exact Below.refl _ _ | assumption | refine Below.drew ?_ | refine below_drewN ?_ _ | refine Below.alloc ?_ (by (try simp) <;> omega) _ | refine Below.setCell ?_ (by (try simp) <;> omega) _ | refine Below.trans ?_ (Below.mono (by assumption) (by (try simp) <;> omega))))⟩
end
end Go.Proofs.YtlcolpnniipgbaaDoor
