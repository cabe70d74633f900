/- The walk of open, all in all: what it returns, or its panic, for every pay. The deferred answer: what it makes of a panic, and of none. The function values that open is handed: what else is asked of the desk. How the exported functions end: with their answer deferred. -/
import Derived.Test.YtlcolpnniipgbaaDoorOpen6
import Derived.Tactics
import Derived.Tactics2
import Derived.Defers
import Derived.Recover
import Derived.Laws.Pointers
namespace Go.Proofs.YtlcolpnniipgbaaDoor
open Go.RowKit Go.Hav
section
variable {people rate bill : Int} {ra ca da pa : Option Addr} {rl rc cl cc dl dc pl pc : Nat} {p : PayD}
theorem open_bad (v : Value) (w : World) (hP : PayIn w w.heap.size people ra rl ca cl rate bill da dl pa pl p) (hv : payB p = false) :
    Calls Tryd.prog 42 #[payV people ra rl rc ca cl cc rate bill da dl dc pa pl pc, v] w fun e w' => e = .panicked [refE 1] ∧ Below w.heap.size w w' := by
  have mcl := hP.mcl
  have mpl := hP.mpl
  cases h1 : inB people 1 4
  · exact open_head1 v h1 w
  cases h2 : inB (rl : Int) 1 4
  · exact open_head2 v h1 h2 w
  by_cases h3 : cl ≤ 12
  case neg => exact open_head3 v h1 h2 h3 mcl w
  cases h4 : inB rate 0 1000
  · exact open_head4 v h1 h2 h3 h4 w
  cases h5 : inB bill 0 10000
  · exact open_head5 v h1 h2 h3 h4 h5 w
  by_cases h6 : (dl : Int) = people
  case neg => exact open_head6 v h1 h2 h3 h4 h5 h6 w
  by_cases h7 : pl ≤ 8
  case neg => exact open_head7 v h1 h2 h3 h4 h5 h6 h7 mpl w
  rw [inB_iff] at h1 h2 h4 h5
  cases hr : p.runs.all (spanB · 400)
  · exact open_runs v h1.1 h1.2 (by omega) (by omega) h3 h4.1 h4.2 h5.1 h5.2 h6 h7 w hP hr
  cases hd : p.days.all (inB · 0 10)
  · exact open_days v h1.1 h1.2 (by omega) (by omega) h3 h4.1 h4.2 h5.1 h5.2 h6 h7 w hP hr hd
  cases hc : p.calls.all (callB p)
  · exact open_calls v h1.1 h1.2 (by omega) (by omega) h3 h4.1 h4.2 h5.1 h5.2 h6 h7 w hP hr hd hc
  cases hp : p.paid.all (paidB p)
  · exact open_paid v h1.1 h1.2 (by omega) (by omega) h3 h4.1 h4.2 h5.1 h5.2 h6 h7 w hP hr hd hc hp
  have hh : headB p = true := by rw [headB_eq hP]; simp [inB]; omega
  simp [payB, hh, hr, hd, hc, hp] at hv
/-- What else is asked of the desk: for every world in which it reads as the pay. -/
def IsDesk (w : World) (people : Int) (ra : Option Addr) (rl rc : Nat) (ca : Option Addr) (cl cc : Nat) (rate bill : Int) (da : Option Addr) (dl dc : Nat) (pa : Option Addr) (pl pc : Nat) (p : PayD) (g : Nat) (cap : Array Value) (b : Bool) : Prop :=
  ∀ wq, Below w.heap.size w wq → DeskIn wq (w.heap.size + 4) (w.heap.size + 1 + 1) (w.heap.size + 1) people ra rl rc ca cl cc rate bill da dl dc pa pl pc p → Calls Tryd.prog g (#[.pointer (some ⟨w.heap.size + 1 + 1, 0, none⟩)] ++ cap) wq fun e w' => e = .returned (.bool b) ∧ Below wq.heap.size wq w'
theorem payB_parts {w : World} (hP : PayIn w w.heap.size people ra rl ca cl rate bill da dl pa pl p) (hv : payB p = true) :
    (1 ≤ people ∧ people ≤ 4 ∧ 1 ≤ rl ∧ rl ≤ 4 ∧ cl ≤ 12 ∧ 0 ≤ rate ∧ rate ≤ 1000 ∧ 0 ≤ bill ∧ bill ≤ 10000 ∧ (dl : Int) = people ∧ pl ≤ 8) ∧ p.runs.all (spanB · 400) = true ∧ p.days.all (inB · 0 10) = true ∧ p.calls.all (callB p) = true ∧ p.paid.all (paidB p) = true := by
  simp only [payB, Bool.and_eq_true] at hv
  obtain ⟨⟨⟨⟨hh, hr⟩, hc⟩, hd⟩, hp⟩ := hv
  rw [headB_eq hP] at hh
  simp only [Bool.and_eq_true, inB_iff, decide_eq_true_eq, beq_iff_eq] at hh
  exact ⟨by omega, hr, hd, hc, hp⟩
theorem open_inv (g : Nat) (cap : Array Value) (eg : ∀ args w, (callFunc g args).run Tryd.prog w = .ok (.enter g args) w) (w : World) (hP : PayIn w w.heap.size people ra rl ca cl rate bill da dl pa pl p) (hv : payB p = true)
    (hg : IsDesk w people ra rl rc ca cl cc rate bill da dl dc pa pl pc p g cap false) :
    Calls Tryd.prog 42 #[payV people ra rl rc ca cl cc rate bill da dl dc pa pl pc, .func (.func g) #[] cap] w fun e w' => e = .panicked [refE 2] ∧ Below w.heap.size w w' := by
  obtain ⟨⟨a1, a2, a3, a4, a5, a6, a7, a8, a9, a10, a11⟩, hr, hd, hc, hp⟩ := payB_parts hP hv
  exact open_invalid g cap eg a1 a2 a3 a4 a5 a6 a7 a8 a9 a10 a11 w hP hr hd hc hp hg
theorem open_fine (g : Nat) (cap : Array Value) (eg : ∀ args w, (callFunc g args).run Tryd.prog w = .ok (.enter g args) w) (w : World) (hP : PayIn w w.heap.size people ra rl ca cl rate bill da dl pa pl p) (hv : payB p = true)
    (hg : IsDesk w people ra rl rc ca cl cc rate bill da dl dc pa pl pc p g cap true) :
    Calls Tryd.prog 42 #[payV people ra rl rc ca cl cc rate bill da dl dc pa pl pc, .func (.func g) #[] cap] w fun e w' => e = .returned (.pointer (some ⟨w.heap.size + 1 + 1, 0, none⟩)) ∧
      DeskM w' (w.heap.size + 4) (w.heap.size + 1 + 1) (w.heap.size + 1) people ra rl rc ca cl cc rate bill da dl dc pa pl pc p ∧ Below w.heap.size w w' := by
  obtain ⟨⟨a1, a2, a3, a4, a5, a6, a7, a8, a9, a10, a11⟩, hr, hd, hc, hp⟩ := payB_parts hP hv
  exact open_ok g cap eg a1 a2 a3 a4 a5 a6 a7 a8 a9 a10 a11 w hP hr hd hc hp hg
end
end Go.Proofs.YtlcolpnniipgbaaDoor
namespace Go.Proofs.YtlcolpnniipgbaaDoor
open Go.RowKit Go.Hav
set_option maxRecDepth 100000 in
theorem answer_panicking (p : Addr) (x e : Int) (w : World) (hc : w.cell? p = some (.int .i64 x)) (hz : w.frozen? p = false) :
    CallsD Tryd.prog 41 #[.pointer (some p)] (.panicking [refE e]) w fun en u' w' =>
      en = .returned (.tuple #[]) ∧ u' = .panicking [{ refE e with recovered := true }] ∧ w' = w.setCell p (.int .i64 e) := by
  have hta : ∀ w, (Instr.typeAssert (.iface 102 (.int .i64 e)) 20 102 true).run Tryd.prog w = .ok (.tuple #[.int .i64 e, .bool true]) w := fun w => by kernel_rfl
  refine callsD_of_wpS Tryd.func41 rfl fun c₀ cs hu => ?_
  apply wpS_seq
  apply wpS_region
  simp [wpOpsS, go_sem, recoverD, hu, Tryd.ntmps41, Exit.thenS, refE]
  clear hu
  refine wpS_of_wp ?_
  simp only [Array.replicate_succ, Array.replicate_zero, List.push_toArray, List.append_toArray, List.nil_append, List.cons_append, List.setIfInBounds_toArray, List.set_cons_succ, List.set_cons_zero]
  go_wp2
  simp [bodyPostS, results, Tryd.results41, go_sem]
theorem answer_idle (p : Addr) (w : World) :
    CallsD Tryd.prog 41 #[.pointer (some p)] .returning w fun e u' w' => e = .returned (.tuple #[]) ∧ u' = .returning ∧ w' = w := by
  refine callsD_of_wpS Tryd.func41 rfl fun c₀ cs hu => ?_
  apply wpS_seq
  apply wpS_region
  simp [wpOpsS, go_sem, recoverD, hu, Tryd.ntmps41, Exit.thenS]
  refine wpS_of_wp ?_
  simp only [Array.replicate_succ, Array.replicate_zero, List.push_toArray, List.append_toArray, List.nil_append, List.cons_append, List.setIfInBounds_toArray, List.set_cons_succ, List.set_cons_zero]
  go_wp2
  cases c₀
  simp_all [bodyPostS, results, Tryd.results41]
end Go.Proofs.YtlcolpnniipgbaaDoor
namespace Go.Proofs.YtlcolpnniipgbaaDoor
open Go.RowKit Go.Hav
section
variable {people rate bill : Int} {ra ca da pa : Option Addr} {rl rc cl cc dl dc pl pc : Nat} {p : PayD}
theorem clos43 (who run : Int) (bw br : Nat) (w : World) (hp1 : 1 ≤ people) (hp2 : people ≤ 4) (h0 : w.cell? ⟨bw, 0, none⟩ = some (.int .i64 who)) (h1 : w.cell? ⟨br, 0, none⟩ = some (.int .i64 run)) (hb0 : bw < w.heap.size) (hb1 : br < w.heap.size) :
    IsDesk w people ra rl rc ca cl cc rate bill da dl dc pa pl pc p 43 #[.pointer (some ⟨bw, 0, none⟩), .pointer (some ⟨br, 0, none⟩)] (whoB p who && runB p run) := by
  intro wq hb hD
  have HD := Lib.hid hD
  have q0 := (hb.cell (p := ⟨bw, 0, none⟩) hb0).trans h0
  have q1 := (hb.cell (p := ⟨br, 0, none⟩) hb1).trans h1
  clear hb hD h0 h1
  show Calls _ _ #[.pointer (some ⟨w.heap.size + 1 + 1, 0, none⟩), .pointer (some ⟨bw, 0, none⟩), .pointer (some ⟨br, 0, none⟩)] _ _
  cases hw : whoB p who
  · go_enter Tryd.func43, Tryd.ntmps43
    go_wp2_with fail
    refine (isWho_any (p := p) who _ (by exact HD.out) hp1 hp2).mono ?_
    rw [hw]
    rintro e w' ⟨rfl, rfl⟩
    go_wp2
    go_ret
    exact ⟨rfl, Below.refl _ _⟩
  · go_enter Tryd.func43, Tryd.ntmps43
    go_wp2_with fail
    refine (isWho_any (p := p) who _ (by exact HD.out) hp1 hp2).mono ?_
    rw [hw]
    rintro e w' ⟨rfl, rfl⟩
    go_wp2_with fail
    refine (isRun_any (p := p) run _ (by exact HD.out)).mono ?_
    rintro e w' ⟨rfl, rfl⟩
    go_wp2
    go_ret
    exact ⟨rfl, Below.refl _ _⟩
theorem clos51 (who run : Int) (bw br : Nat) (w : World) (hp1 : 1 ≤ people) (hp2 : people ≤ 4) (h0 : w.cell? ⟨bw, 0, none⟩ = some (.int .i64 who)) (h1 : w.cell? ⟨br, 0, none⟩ = some (.int .i64 run)) (hb0 : bw < w.heap.size) (hb1 : br < w.heap.size) :
    IsDesk w people ra rl rc ca cl cc rate bill da dl dc pa pl pc p 51 #[.pointer (some ⟨bw, 0, none⟩), .pointer (some ⟨br, 0, none⟩)] (whoB p who && runB p run) := by
  intro wq hb hD
  have HD := Lib.hid hD
  have q0 := (hb.cell (p := ⟨bw, 0, none⟩) hb0).trans h0
  have q1 := (hb.cell (p := ⟨br, 0, none⟩) hb1).trans h1
  clear hb hD h0 h1
  show Calls _ _ #[.pointer (some ⟨w.heap.size + 1 + 1, 0, none⟩), .pointer (some ⟨bw, 0, none⟩), .pointer (some ⟨br, 0, none⟩)] _ _
  cases hw : whoB p who
  · go_enter Tryd.func51, Tryd.ntmps51
    go_wp2_with fail
    refine (isWho_any (p := p) who _ (by exact HD.out) hp1 hp2).mono ?_
    rw [hw]
    rintro e w' ⟨rfl, rfl⟩
    go_wp2
    go_ret
    exact ⟨rfl, Below.refl _ _⟩
  · go_enter Tryd.func51, Tryd.ntmps51
    go_wp2_with fail
    refine (isWho_any (p := p) who _ (by exact HD.out) hp1 hp2).mono ?_
    rw [hw]
    rintro e w' ⟨rfl, rfl⟩
    go_wp2_with fail
    refine (isRun_any (p := p) run _ (by exact HD.out)).mono ?_
    rintro e w' ⟨rfl, rfl⟩
    go_wp2
    go_ret
    exact ⟨rfl, Below.refl _ _⟩
theorem clos58 (who : Int) (bw : Nat) (w : World) (hp1 : 1 ≤ people) (hp2 : people ≤ 4) (h0 : w.cell? ⟨bw, 0, none⟩ = some (.int .i64 who)) (hb0 : bw < w.heap.size) :
    IsDesk w people ra rl rc ca cl cc rate bill da dl dc pa pl pc p 58 #[.pointer (some ⟨bw, 0, none⟩)] (whoB p who) := by
  intro wq hb hD
  have HD := Lib.hid hD
  have q0 := (hb.cell (p := ⟨bw, 0, none⟩) hb0).trans h0
  clear hb hD h0
  show Calls _ _ #[.pointer (some ⟨w.heap.size + 1 + 1, 0, none⟩), .pointer (some ⟨bw, 0, none⟩)] _ _
  go_enter Tryd.func58, Tryd.ntmps58
  go_wp2_with fail
  refine (isWho_any (p := p) who _ (by exact HD.out) hp1 hp2).mono ?_
  rintro e w' ⟨rfl, rfl⟩
  go_wp2
  go_ret
  exact ⟨rfl, Below.refl _ _⟩
theorem clos61 (who : Int) (bw : Nat) (w : World) (hp1 : 1 ≤ people) (hp2 : people ≤ 4) (h0 : w.cell? ⟨bw, 0, none⟩ = some (.int .i64 who)) (hb0 : bw < w.heap.size) :
    IsDesk w people ra rl rc ca cl cc rate bill da dl dc pa pl pc p 61 #[.pointer (some ⟨bw, 0, none⟩)] (whoB p who) := by
  intro wq hb hD
  have HD := Lib.hid hD
  have q0 := (hb.cell (p := ⟨bw, 0, none⟩) hb0).trans h0
  clear hb hD h0
  show Calls _ _ #[.pointer (some ⟨w.heap.size + 1 + 1, 0, none⟩), .pointer (some ⟨bw, 0, none⟩)] _ _
  go_enter Tryd.func61, Tryd.ntmps61
  go_wp2_with fail
  refine (isWho_any (p := p) who _ (by exact HD.out) hp1 hp2).mono ?_
  rintro e w' ⟨rfl, rfl⟩
  go_wp2
  go_ret
  exact ⟨rfl, Below.refl _ _⟩
theorem clos64 (who : Int) (bw : Nat) (w : World) (hp1 : 1 ≤ people) (hp2 : people ≤ 4) (h0 : w.cell? ⟨bw, 0, none⟩ = some (.int .i64 who)) (hb0 : bw < w.heap.size) :
    IsDesk w people ra rl rc ca cl cc rate bill da dl dc pa pl pc p 64 #[.pointer (some ⟨bw, 0, none⟩)] (whoB p who) := by
  intro wq hb hD
  have HD := Lib.hid hD
  have q0 := (hb.cell (p := ⟨bw, 0, none⟩) hb0).trans h0
  clear hb hD h0
  show Calls _ _ #[.pointer (some ⟨w.heap.size + 1 + 1, 0, none⟩), .pointer (some ⟨bw, 0, none⟩)] _ _
  go_enter Tryd.func64, Tryd.ntmps64
  go_wp2_with fail
  refine (isWho_any (p := p) who _ (by exact HD.out) hp1 hp2).mono ?_
  rintro e w' ⟨rfl, rfl⟩
  go_wp2
  go_ret
  exact ⟨rfl, Below.refl _ _⟩
theorem clos55 (who : Int) (bw : Nat) (w : World)  (h0 : w.cell? ⟨bw, 0, none⟩ = some (.int .i64 who)) (hb0 : bw < w.heap.size) :
    IsDesk w people ra rl rc ca cl cc rate bill da dl dc pa pl pc p 55 #[.pointer (some ⟨bw, 0, none⟩)] (runB p who) := by
  intro wq hb hD
  have HD := Lib.hid hD
  have q0 := (hb.cell (p := ⟨bw, 0, none⟩) hb0).trans h0
  clear hb hD h0
  show Calls _ _ #[.pointer (some ⟨w.heap.size + 1 + 1, 0, none⟩), .pointer (some ⟨bw, 0, none⟩)] _ _
  go_enter Tryd.func55, Tryd.ntmps55
  go_wp2_with fail
  refine (isRun_any (p := p) who _ (by exact HD.out)).mono ?_
  rintro e w' ⟨rfl, rfl⟩
  go_wp2
  go_ret
  exact ⟨rfl, Below.refl _ _⟩
theorem clos66 (w : World) : IsDesk w people ra rl rc ca cl cc rate bill da dl dc pa pl pc p 66 #[] true := by
  intro wq hb hD
  clear hb hD
  show Calls _ _ #[.pointer (some ⟨w.heap.size + 1 + 1, 0, none⟩)] _ _
  go_enter Tryd.func66, Tryd.ntmps66
  go_wp2
  go_ret
  exact ⟨rfl, Below.refl _ _⟩
end
end Go.Proofs.YtlcolpnniipgbaaDoor
namespace Go.Proofs.YtlcolpnniipgbaaDoor
open Go.RowKit Go.Hav
def ansD (b : Nat) : Deferred := { target := .fn (.func 41) #[], args := #[.pointer (some ⟨b, 0, none⟩)] }
theorem api_panics {fn : Func} {R : Ending → World → Prop} {a : Act} {w : World} {b : Nat} {e x : Int} {v : Value} (hd : a.defers = [ansD b]) (hc : w.cell? ⟨b, 0, none⟩ = some (.int .i64 x)) (hz : w.frozen? ⟨b, 0, none⟩ = false)
    (hv : (results fn a.tmps).run Tryd.prog (w.setCell ⟨b, 0, none⟩ (.int .i64 e)) = .ok v (w.setCell ⟨b, 0, none⟩ (.int .i64 e))) (hR : R (.returned v) (w.setCell ⟨b, 0, none⟩ (.int .i64 e))) :
    bodyPostD Tryd.prog fn R (.panic [refE e]) a w := by
  show Leaves Tryd.prog fn a.tmps R a.defers (FrameMode.panicking [refE e]) w
  rw [hd]
  refine leaves_cons (f := 41) (args := #[.pointer (some ⟨b, 0, none⟩)]) (by simp) (by simp [go_sem]) ?_
  refine (answer_panicking ⟨b, 0, none⟩ x e w hc hz).mono ?_
  rintro en u' w'' ⟨rfl, rfl, rfl⟩
  exact ⟨v, hv, hR⟩
theorem api_returns {fn : Func} {R : Ending → World → Prop} {a : Act} {w : World} {b : Nat} {v : Value} (hd : a.defers = [ansD b])
    (hv : (results fn a.tmps).run Tryd.prog w = .ok v w) (hR : R (.returned v) w) :
    bodyPostD Tryd.prog fn R .ret a w := by
  show Leaves Tryd.prog fn a.tmps R a.defers FrameMode.returning w
  rw [hd]
  refine leaves_cons (f := 41) (args := #[.pointer (some ⟨b, 0, none⟩)]) (by simp) (by simp [go_sem]) ?_
  refine (answer_idle ⟨b, 0, none⟩ w).mono ?_
  rintro en u' w'' ⟨rfl, rfl, rfl⟩
  exact ⟨v, hv, hR⟩
theorem setCell_below {B b : Nat} {w w' : World} (h : Below B w w') (hb : B ≤ b) (u : Value) : Below B w (w'.setCell ⟨b, 0, none⟩ u) := h.setCell (p := ⟨b, 0, none⟩) hb u
theorem setCell_below2 {B b : Nat} {w w' : World} (h : Below B w w') (hb : B ≤ b) (u : Value) : Below B w (w'.setCell ⟨b, 1, none⟩ u) := h.setCell (p := ⟨b, 1, none⟩) hb u
/-- Either the pay is not valid, or what else is asked is not: open panics. -/
theorem open_panics {people rate bill : Int} {ra ca da pa : Option Addr} {rl rc cl cc dl dc pl pc : Nat} {p : PayD} (g : Nat) (cap : Array Value) (b : Bool) (eg : ∀ args w, (callFunc g args).run Tryd.prog w = .ok (.enter g args) w) (w : World) (hP : PayIn w w.heap.size people ra rl ca cl rate bill da dl pa pl p)
    (hg : payB p = true → IsDesk w people ra rl rc ca cl cc rate bill da dl dc pa pl pc p g cap b) (h : payB p = false ∨ b = false) :
    Calls Tryd.prog 42 #[payV people ra rl rc ca cl cc rate bill da dl dc pa pl pc, .func (.func g) #[] cap] w fun e w' => e = .panicked [refE (if payB p then 2 else 1)] ∧ Below w.heap.size w w' := by
  cases hv : payB p
  · exact open_bad _ w hP hv
  · rcases h with h | h
    · rw [hv] at h; cases h
    · subst h
      exact open_inv g cap eg w hP hv (hg hv)
theorem checkE_bad {p : PayD} {b t : Bool} (h : payB p = false ∨ b = false) : checkE p b t = if payB p then 2 else 1 := by
  unfold checkE
  cases hv : payB p
  · simp
  · rcases h with h | h
    · rw [hv] at h; cases h
    · simp [h]
end Go.Proofs.YtlcolpnniipgbaaDoor
