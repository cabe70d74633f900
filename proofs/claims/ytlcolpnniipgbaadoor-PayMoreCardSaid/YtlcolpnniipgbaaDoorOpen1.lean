/- The walk of open, where the head is not valid: it panics. The walk of open, where the head is valid. The walk of open, where head, runs and days are valid. The walk of open, where head, runs, days and calls are valid. -/
import Derived.Test.YtlcolpnniipgbaaDoorIter
namespace Go.Proofs.YtlcolpnniipgbaaDoor
open Go.RowKit Go.Hav
section
variable {people rate bill : Int} {ra ca da pa : Option Addr} {rl rc cl cc dl dc pl pc : Nat} {p : PayD}
set_option maxRecDepth 100000 in
set_option maxHeartbeats 800000 in
theorem open_head1 (v : Value) (h1 : inB people 1 4 = false) (w : World) :
    Calls Tryd.prog 42 #[payV people ra rl rc ca cl cc rate bill da dl dc pa pl pc, v] w fun e w' => e = .panicked [refE 1] ∧ Below w.heap.size w w' := by
  unfold payV
  go_enter Tryd.func42, Tryd.ntmps42
  go_wp2_with (go_at_call 74; refine (within_any _ _ _ _).mono ?_; rintro e w' ⟨rfl, rfl⟩)
  refine (ask_any false 1 _).mono ?_
  rintro e w' ⟨h1, rfl⟩
  obtain rfl : e = .panicked [refE 1] := h1
  go_wp2
  exact ⟨rfl, rfl, (by repeat (first | exact Below.refl _ _ | assumption | refine Below.drew ?_ | refine below_drewN ?_ _ | refine Below.alloc ?_ (by (try simp) <;> omega) _ | refine Below.setCell ?_ (by (try simp) <;> omega) _ | refine Below.trans ?_ (Below.mono (by assumption) (by (try simp) <;> omega))))⟩
set_option maxRecDepth 100000 in
set_option maxHeartbeats 800000 in
theorem open_head2 (v : Value) (h1 : inB people 1 4 = true) (h2 : inB (rl : Int) 1 4 = false) (w : World) :
    Calls Tryd.prog 42 #[payV people ra rl rc ca cl cc rate bill da dl dc pa pl pc, v] w fun e w' => e = .panicked [refE 1] ∧ Below w.heap.size w w' := by
  unfold payV
  go_enter Tryd.func42, Tryd.ntmps42
  go_wp2_with (go_at_call 74; refine (within_any _ _ _ _).mono ?_; rintro e w' ⟨rfl, rfl⟩)
  refine (ask_any false 1 _).mono ?_
  rintro e w' ⟨h1, rfl⟩
  obtain rfl : e = .panicked [refE 1] := h1
  go_wp2
  exact ⟨rfl, rfl, (by repeat (first | exact Below.refl _ _ | assumption | refine Below.drew ?_ | refine below_drewN ?_ _ | refine Below.alloc ?_ (by (try simp) <;> omega) _ | refine Below.setCell ?_ (by (try simp) <;> omega) _ | refine Below.trans ?_ (Below.mono (by assumption) (by (try simp) <;> omega))))⟩
set_option maxRecDepth 100000 in
set_option maxHeartbeats 800000 in
theorem open_head3 (v : Value) (h1 : inB people 1 4 = true) (h2 : inB (rl : Int) 1 4 = true) (h3 : ¬ cl ≤ 12) (m : cl ≤ 9223372036854775807) (w : World) :
    Calls Tryd.prog 42 #[payV people ra rl rc ca cl cc rate bill da dl dc pa pl pc, v] w fun e w' => e = .panicked [refE 1] ∧ Below w.heap.size w w' := by
  unfold payV
  go_enter Tryd.func42, Tryd.ntmps42
  go_wp2_with (go_at_call 74; refine (within_any _ _ _ _).mono ?_; rintro e w' ⟨rfl, rfl⟩)
  refine (ask_any false 1 _).mono ?_
  rintro e w' ⟨h1, rfl⟩
  obtain rfl : e = .panicked [refE 1] := h1
  go_wp2
  exact ⟨rfl, rfl, (by repeat (first | exact Below.refl _ _ | assumption | refine Below.drew ?_ | refine below_drewN ?_ _ | refine Below.alloc ?_ (by (try simp) <;> omega) _ | refine Below.setCell ?_ (by (try simp) <;> omega) _ | refine Below.trans ?_ (Below.mono (by assumption) (by (try simp) <;> omega))))⟩
set_option maxRecDepth 100000 in
set_option maxHeartbeats 800000 in
theorem open_head4 (v : Value) (h1 : inB people 1 4 = true) (h2 : inB (rl : Int) 1 4 = true) (h3 : cl ≤ 12) (h4 : inB rate 0 1000 = false) (w : World) :
    Calls Tryd.prog 42 #[payV people ra rl rc ca cl cc rate bill da dl dc pa pl pc, v] w fun e w' => e = .panicked [refE 1] ∧ Below w.heap.size w w' := by
  unfold payV
  go_enter Tryd.func42, Tryd.ntmps42
  go_wp2_with (go_at_call 74; refine (within_any _ _ _ _).mono ?_; rintro e w' ⟨rfl, rfl⟩)
  refine (ask_any false 1 _).mono ?_
  rintro e w' ⟨h1, rfl⟩
  obtain rfl : e = .panicked [refE 1] := h1
  go_wp2
  exact ⟨rfl, rfl, (by repeat (first | exact Below.refl _ _ | assumption | refine Below.drew ?_ | refine below_drewN ?_ _ | refine Below.alloc ?_ (by (try simp) <;> omega) _ | refine Below.setCell ?_ (by (try simp) <;> omega) _ | refine Below.trans ?_ (Below.mono (by assumption) (by (try simp) <;> omega))))⟩
set_option maxRecDepth 100000 in
set_option maxHeartbeats 800000 in
theorem open_head5 (v : Value) (h1 : inB people 1 4 = true) (h2 : inB (rl : Int) 1 4 = true) (h3 : cl ≤ 12) (h4 : inB rate 0 1000 = true) (h5 : inB bill 0 10000 = false) (w : World) :
    Calls Tryd.prog 42 #[payV people ra rl rc ca cl cc rate bill da dl dc pa pl pc, v] w fun e w' => e = .panicked [refE 1] ∧ Below w.heap.size w w' := by
  unfold payV
  go_enter Tryd.func42, Tryd.ntmps42
  go_wp2_with (go_at_call 74; refine (within_any _ _ _ _).mono ?_; rintro e w' ⟨rfl, rfl⟩)
  refine (ask_any false 1 _).mono ?_
  rintro e w' ⟨h1, rfl⟩
  obtain rfl : e = .panicked [refE 1] := h1
  go_wp2
  exact ⟨rfl, rfl, (by repeat (first | exact Below.refl _ _ | assumption | refine Below.drew ?_ | refine below_drewN ?_ _ | refine Below.alloc ?_ (by (try simp) <;> omega) _ | refine Below.setCell ?_ (by (try simp) <;> omega) _ | refine Below.trans ?_ (Below.mono (by assumption) (by (try simp) <;> omega))))⟩
set_option maxRecDepth 100000 in
set_option maxHeartbeats 800000 in
theorem open_head6 (v : Value) (h1 : inB people 1 4 = true) (h2 : inB (rl : Int) 1 4 = true) (h3 : cl ≤ 12) (h4 : inB rate 0 1000 = true) (h5 : inB bill 0 10000 = true) (h6 : ¬ (dl : Int) = people) (w : World) :
    Calls Tryd.prog 42 #[payV people ra rl rc ca cl cc rate bill da dl dc pa pl pc, v] w fun e w' => e = .panicked [refE 1] ∧ Below w.heap.size w w' := by
  unfold payV
  go_enter Tryd.func42, Tryd.ntmps42
  go_wp2_with (go_at_call 74; refine (within_any _ _ _ _).mono ?_; rintro e w' ⟨rfl, rfl⟩)
  refine (ask_any false 1 _).mono ?_
  rintro e w' ⟨h1, rfl⟩
  obtain rfl : e = .panicked [refE 1] := h1
  go_wp2
  exact ⟨rfl, rfl, (by repeat (first | exact Below.refl _ _ | assumption | refine Below.drew ?_ | refine below_drewN ?_ _ | refine Below.alloc ?_ (by (try simp) <;> omega) _ | refine Below.setCell ?_ (by (try simp) <;> omega) _ | refine Below.trans ?_ (Below.mono (by assumption) (by (try simp) <;> omega))))⟩
set_option maxRecDepth 100000 in
set_option maxHeartbeats 800000 in
theorem open_head7 (v : Value) (h1 : inB people 1 4 = true) (h2 : inB (rl : Int) 1 4 = true) (h3 : cl ≤ 12) (h4 : inB rate 0 1000 = true) (h5 : inB bill 0 10000 = true) (h6 : (dl : Int) = people) (h7 : ¬ pl ≤ 8) (m : pl ≤ 9223372036854775807) (w : World) :
    Calls Tryd.prog 42 #[payV people ra rl rc ca cl cc rate bill da dl dc pa pl pc, v] w fun e w' => e = .panicked [refE 1] ∧ Below w.heap.size w w' := by
  have hd : decide ((pl : Int) ≤ 8) = false := by simp; omega
  unfold payV
  go_enter Tryd.func42, Tryd.ntmps42
  go_wp2_with (go_at_call 74; refine (within_any _ _ _ _).mono ?_; rintro e w' ⟨rfl, rfl⟩)
  refine (ask_any false 1 _).mono ?_
  rintro e w' ⟨h1, rfl⟩
  obtain rfl : e = .panicked [refE 1] := h1
  go_wp2
  exact ⟨rfl, rfl, (by repeat (first | exact Below.refl _ _ | assumption | refine Below.drew ?_ | refine below_drewN ?_ _ | refine Below.alloc ?_ (by (try simp) <;> omega) _ | refine Below.setCell ?_ (by (try simp) <;> omega) _ | refine Below.trans ?_ (Below.mono (by assumption) (by (try simp) <;> omega))))⟩
end
end Go.Proofs.YtlcolpnniipgbaaDoor
namespace Go.Proofs.YtlcolpnniipgbaaDoor
open Go.RowKit Go.Hav
section
variable {people rate bill : Int} {ra ca da pa : Option Addr} {rl rc cl cc dl dc pl pc : Nat} {p : PayD}
set_option maxRecDepth 100000 in
set_option maxHeartbeats 6400000 in
theorem open_runs (v : Value) (g1 : 1 ≤ people) (g2 : people ≤ 4) (g3 : 1 ≤ rl) (g4 : rl ≤ 4) (h3 : cl ≤ 12) (g5 : 0 ≤ rate) (g6 : rate ≤ 1000) (g7 : 0 ≤ bill) (g8 : bill ≤ 10000) (h6 : (dl : Int) = people) (h7 : pl ≤ 8) (w : World) (hP : PayIn w w.heap.size people ra rl ca cl rate bill da dl pa pl p) (hbad : p.runs.all (spanB · 400) = false) :
    Calls Tryd.prog 42 #[payV people ra rl rc ca cl cc rate bill da dl dc pa pl pc, v] w fun e w' => e = .panicked [refE 1] ∧ Below w.heap.size w w' := by
  have HP := Lib.hid hP
  have HB := Lib.hid hbad
  have HE := Lib.hid hP.erl
  have h1 : inB people 1 4 = true := by simp [inB]; omega
  have h2 : inB (rl : Int) 1 4 = true := by simp [inB]; omega
  have h4 : inB rate 0 1000 = true := by simp [inB]; omega
  have h5 : inB bill 0 10000 = true := by simp [inB]; omega
  have hd : decide ((pl : Int) ≤ 8) = true := by simp; omega
  have hmm := @run_makeMap Tryd.prog
  clear hP hbad
  unfold payV
  go_enter Tryd.func42, Tryd.ntmps42
  go_wp2_with (go_at_call 74; refine (within_any _ _ _ _).mono ?_; rintro e w' ⟨rfl, rfl⟩)
  refine (ask_any true 1 _).mono ?_
  rintro e w' ⟨q1, rfl⟩
  obtain rfl : e = .returned (.tuple #[]) := q1
  go_wp2_with fail
  refine (contains1_any ra rl rc (by omega) p.runs HE.out _ (by exact (HP.out.grow (by exact (by repeat (first | exact Below.refl _ _ | assumption | refine Below.drew ?_ | refine below_drewN ?_ _ | refine Below.alloc ?_ (by (try simp) <;> omega) _ | refine Below.setCell ?_ (by (try simp) <;> omega) _ | refine Below.trans ?_ (Below.mono (by assumption) (by (try simp) <;> omega)))))).hruns)).mono ?_
  rw [HB.out]
  simp only [Bool.not_false]
  rintro e w1 ⟨rfl, hbw1⟩; obtain ⟨hcw1, hfw1⟩ := bcell hbw1; have hzw1 := hbw1.size; (try simp at hzw1)
  go_wp2_with fail
  refine (ask_any false 1 _).mono ?_
  rintro e w' ⟨q1, rfl⟩
  obtain rfl : e = .panicked [refE 1] := q1
  go_wp2
  exact ⟨rfl, rfl, Below.trans (by repeat (first | exact Below.refl _ _ | assumption | refine Below.drew ?_ | refine below_drewN ?_ _ | refine Below.alloc ?_ (by (try simp) <;> omega) _ | refine Below.setCell ?_ (by (try simp) <;> omega) _ | refine Below.trans ?_ (Below.mono (by assumption) (by (try simp) <;> omega)))) (hbw1.mono (by simp <;> omega))⟩
set_option maxRecDepth 100000 in
set_option maxHeartbeats 6400000 in
theorem open_days (v : Value) (g1 : 1 ≤ people) (g2 : people ≤ 4) (g3 : 1 ≤ rl) (g4 : rl ≤ 4) (h3 : cl ≤ 12) (g5 : 0 ≤ rate) (g6 : rate ≤ 1000) (g7 : 0 ≤ bill) (g8 : bill ≤ 10000) (h6 : (dl : Int) = people) (h7 : pl ≤ 8) (w : World) (hP : PayIn w w.heap.size people ra rl ca cl rate bill da dl pa pl p) (hruns : p.runs.all (spanB · 400) = true) (hbad : p.days.all (inB · 0 10) = false) :
    Calls Tryd.prog 42 #[payV people ra rl rc ca cl cc rate bill da dl dc pa pl pc, v] w fun e w' => e = .panicked [refE 1] ∧ Below w.heap.size w w' := by
  have HP := Lib.hid hP
  have HB := Lib.hid hbad
  have HR := Lib.hid hruns
  have HE := Lib.hid hP.erl
  have HE2 := Lib.hid hP.edl
  have h1 : inB people 1 4 = true := by simp [inB]; omega
  have h2 : inB (rl : Int) 1 4 = true := by simp [inB]; omega
  have h4 : inB rate 0 1000 = true := by simp [inB]; omega
  have h5 : inB bill 0 10000 = true := by simp [inB]; omega
  have hd : decide ((pl : Int) ≤ 8) = true := by simp; omega
  have hmm := @run_makeMap Tryd.prog
  clear hP hbad hruns
  unfold payV
  go_enter Tryd.func42, Tryd.ntmps42
  go_wp2_with (go_at_call 74; refine (within_any _ _ _ _).mono ?_; rintro e w' ⟨rfl, rfl⟩)
  refine (ask_any true 1 _).mono ?_
  rintro e w' ⟨q1, rfl⟩
  obtain rfl : e = .returned (.tuple #[]) := q1
  go_wp2_with fail
  refine (contains1_any ra rl rc (by omega) p.runs HE.out _ (by exact (HP.out.grow (by exact (by repeat (first | exact Below.refl _ _ | assumption | refine Below.drew ?_ | refine below_drewN ?_ _ | refine Below.alloc ?_ (by (try simp) <;> omega) _ | refine Below.setCell ?_ (by (try simp) <;> omega) _ | refine Below.trans ?_ (Below.mono (by assumption) (by (try simp) <;> omega)))))).hruns)).mono ?_
  rw [HR.out]
  simp only [Bool.not_true]
  rintro e w1 ⟨rfl, hbw1⟩; obtain ⟨hcw1, hfw1⟩ := bcell hbw1; have hzw1 := hbw1.size; (try simp at hzw1)
  have q0 : w.heap.size < w1.heap.size := by omega
  have HB1 : Hid (Below w.heap.size w w1) := Below.trans (by repeat (first | exact Below.refl _ _ | assumption | refine Below.drew ?_ | refine below_drewN ?_ _ | refine Below.alloc ?_ (by (try simp) <;> omega) _ | refine Below.setCell ?_ (by (try simp) <;> omega) _ | refine Below.trans ?_ (Below.mono (by assumption) (by (try simp) <;> omega)))) (hbw1.mono (by simp <;> omega))
  go_wp2_with fail
  refine (ask_any true 1 _).mono ?_
  rintro e w' ⟨q1, rfl⟩
  obtain rfl : e = .returned (.tuple #[]) := q1
  go_wp2_with fail
  refine (contains2_any da dl dc (by omega) p.days HE2.out _ (by exact (HP.out.grow HB1.out).hdays)).mono ?_
  rw [HB.out]
  simp only [Bool.not_false]
  rintro e w2 ⟨rfl, hbw2⟩; obtain ⟨hcw2, hfw2⟩ := bcell hbw2; have hzw2 := hbw2.size; (try simp at hzw2)
  go_wp2_with fail
  refine (ask_any false 1 _).mono ?_
  rintro e w' ⟨q2, rfl⟩
  obtain rfl : e = .panicked [refE 1] := q2
  go_wp2
  exact ⟨rfl, rfl, HB1.out.trans (hbw2.mono (by omega))⟩
end
end Go.Proofs.YtlcolpnniipgbaaDoor
namespace Go.Proofs.YtlcolpnniipgbaaDoor
open Go.RowKit Go.Hav
/-- The blocks that open makes first. -/
def openW (w : World) (cs : Array Value) : World :=
  (((w.alloc (.cells cs 27)).alloc (.map #[] 0)).alloc (.cells (cs.push (.map (some (w.heap.size + 1)))) 70)).alloc (.cells #[.pointer (some ⟨w.heap.size + 1 + 1, 0, none⟩)] 71)
section
variable {people rate bill : Int} {ra ca da pa : Option Addr} {rl rc cl cc dl dc pl pc : Nat} {p : PayD}
def payCs (people : Int) (ra : Option Addr) (rl rc : Nat) (ca : Option Addr) (cl cc : Nat) (rate bill : Int) (da : Option Addr) (dl dc : Nat) (pa : Option Addr) (pl pc : Nat) : Array Value :=
  #[.int .i64 people, .slice ra rl rc, .slice ca cl cc, .int .i64 rate, .int .i64 bill, .slice da dl dc, .slice pa pl pc]
theorem openW_size (w : World) (cs : Array Value) : (openW w cs).heap.size = w.heap.size + 4 := by simp [openW]
theorem openW_below (w : World) (cs : Array Value) : Below w.heap.size w (openW w cs) := by
  unfold openW
  exact ((((Below.refl w.heap.size w).alloc (by simp) _).alloc (by simp) _).alloc (by simp; omega) _).alloc (by simp; omega) _
theorem openW_desk (w wr : World) (hP : PayIn w w.heap.size people ra rl ca cl rate bill da dl pa pl p) (hb : Below (w.heap.size + 4) (openW w (payCs people ra rl rc ca cl cc rate bill da dl dc pa pl pc)) wr) :
    DeskIn wr (w.heap.size + 4) (w.heap.size + 1 + 1) (w.heap.size + 1) people ra rl rc ca cl cc rate bill da dl dc pa pl pc p := by
  have hk : Blk wr (w.heap.size + 1 + 1) 70 #[.int .i64 people, .slice ra rl rc, .slice ca cl cc, .int .i64 rate, .int .i64 bill, .slice da dl dc, .slice pa pl pc, .map (some (w.heap.size + 1))] := by
    refine Blk.below ?_ hb (by omega)
    unfold openW payCs
    exact (Blk.new_ (by simp) _ _).alloc _
  have hs := hb.size
  rw [openW_size] at hs
  exact ⟨hs, by omega, hk.cell 0, hk.cell 1, hk.cell 2, hk.cell 3, hk.cell 4, hk.cell 5, hk.cell 6, hk.cell 7, (hP.below ((openW_below w _).trans (hb.mono (by omega)))).more (by omega)⟩
set_option maxRecDepth 100000 in
set_option maxHeartbeats 6400000 in
theorem open_calls (v : Value) (g1 : 1 ≤ people) (g2 : people ≤ 4) (g3 : 1 ≤ rl) (g4 : rl ≤ 4) (h3 : cl ≤ 12) (g5 : 0 ≤ rate) (g6 : rate ≤ 1000) (g7 : 0 ≤ bill) (g8 : bill ≤ 10000) (h6 : (dl : Int) = people) (h7 : pl ≤ 8) (w : World) (hP : PayIn w w.heap.size people ra rl ca cl rate bill da dl pa pl p)
    (hruns : p.runs.all (spanB · 400) = true) (hdays : p.days.all (inB · 0 10) = true) (hbad : p.calls.all (callB p) = false) :
    Calls Tryd.prog 42 #[payV people ra rl rc ca cl cc rate bill da dl dc pa pl pc, v] w fun e w' => e = .panicked [refE 1] ∧ Below w.heap.size w w' := by
  have HP := Lib.hid hP
  have HB := Lib.hid hbad
  have HR := Lib.hid hruns
  have HDY := Lib.hid hdays
  have HE := Lib.hid hP.erl
  have HE2 := Lib.hid hP.edl
  have HE3 := Lib.hid hP.ecl
  have h1 : inB people 1 4 = true := by simp [inB]; omega
  have h2 : inB (rl : Int) 1 4 = true := by simp [inB]; omega
  have h4 : inB rate 0 1000 = true := by simp [inB]; omega
  have h5 : inB bill 0 10000 = true := by simp [inB]; omega
  have hd : decide ((pl : Int) ≤ 8) = true := by simp; omega
  have hmm := @run_makeMap Tryd.prog
  clear hP hbad hruns hdays
  unfold payV
  go_enter Tryd.func42, Tryd.ntmps42
  go_wp2_with (go_at_call 74; refine (within_any _ _ _ _).mono ?_; rintro e w' ⟨rfl, rfl⟩)
  refine (ask_any true 1 _).mono ?_
  rintro e w' ⟨q1, rfl⟩
  obtain rfl : e = .returned (.tuple #[]) := q1
  go_wp2_with fail
  refine (contains1_any ra rl rc (by omega) p.runs HE.out _ (by exact (HP.out.grow (by exact (by repeat (first | exact Below.refl _ _ | assumption | refine Below.drew ?_ | refine below_drewN ?_ _ | refine Below.alloc ?_ (by (try simp) <;> omega) _ | refine Below.setCell ?_ (by (try simp) <;> omega) _ | refine Below.trans ?_ (Below.mono (by assumption) (by (try simp) <;> omega)))))).hruns)).mono ?_
  rw [HR.out]
  simp only [Bool.not_true]
  rintro e w1 ⟨rfl, hbw1⟩; obtain ⟨hcw1, hfw1⟩ := bcell hbw1; have hzw1 := hbw1.size; (try simp at hzw1)
  have q0 : w.heap.size < w1.heap.size := by omega
  have HBX := Lib.hid (show Below (w.heap.size + 4) (openW w #[Value.int IntKind.i64 people, Value.slice ra rl rc, Value.slice ca cl cc, Value.int IntKind.i64 rate, Value.int IntKind.i64 bill, Value.slice da dl dc, Value.slice pa pl pc]) w1 from hbw1.mono (by simp))
  have HB1 : Hid (Below w.heap.size w w1) := Below.trans (by repeat (first | exact Below.refl _ _ | assumption | refine Below.drew ?_ | refine below_drewN ?_ _ | refine Below.alloc ?_ (by (try simp) <;> omega) _ | refine Below.setCell ?_ (by (try simp) <;> omega) _ | refine Below.trans ?_ (Below.mono (by assumption) (by (try simp) <;> omega)))) (hbw1.mono (by simp <;> omega))
  go_wp2_with fail
  refine (ask_any true 1 _).mono ?_
  rintro e w' ⟨q1, rfl⟩
  obtain rfl : e = .returned (.tuple #[]) := q1
  go_wp2_with fail
  refine (contains2_any da dl dc (by omega) p.days HE2.out _ (by exact (HP.out.grow HB1.out).hdays)).mono ?_
  rw [HDY.out]
  simp only [Bool.not_true]
  rintro e w2 ⟨rfl, hbw2⟩; obtain ⟨hcw2, hfw2⟩ := bcell hbw2; have hzw2 := hbw2.size; (try simp at hzw2)
  have HBY := Lib.hid (HBX.out.trans (hbw2.mono (by have := HBX.out.size; simp [openW] at this; omega)))
  go_wp2_with fail
  refine (ask_any true 1 _).mono ?_
  rintro e w' ⟨q2, rfl⟩
  obtain rfl : e = .returned (.tuple #[]) := q2
  go_wp2
  go_loopw [72] (fun i wr => ∃ k : Nat, k ≤ cl ∧ i = .int .i64 k ∧ Hid ((p.calls.take k).all (callB p) = true) ∧ Below (w.heap.size + 4) (openW w (payCs people ra rl rc ca cl cc rate bill da dl dc pa pl pc)) wr) (fun i _ => cl - (intOf i).toNat)
  case atStart => exact ⟨0, Nat.zero_le _, rfl, by show _ = _; simp, HBY.out⟩
  case round =>
    obtain ⟨k, hk, rfl, HA, hb⟩ := hrel
    have HDK := Lib.hid (openW_desk (p := p) w wr HP.out hb)
    have HBW : Hid (Below w.heap.size w wr) := (openW_below w _).trans (hb.mono (by omega))
    have hsz : w.heap.size + 4 ≤ wr.heap.size := by have := hb.size; rwa [openW_size] at this
    have t5 : wr.cell? ⟨w.heap.size + 1 + 1 + 1, 0, none⟩ = some (.pointer (some ⟨w.heap.size + 1 + 1, 0, none⟩)) :=
      ((Blk.new_ (by simp) 71 #[.pointer (some ⟨w.heap.size + 1 + 1, 0, none⟩)]).below hb (by omega)).cell 0
    have HBR := Lib.hid hb
    clear hb
    have q5 : w.heap.size + 1 + 1 + 1 < wr.heap.size := by omega
    by_cases hlt : k < cl
    · obtain ⟨c, hc⟩ : ∃ c, p.calls[k]? = some c := ⟨p.calls[k]'(by have := HE3.out; omega), by simp⟩
      have HC := Lib.hid hc
      have HS := Lib.hid (take_all_succ (callB p) p.calls k c hc)
      obtain ⟨b, off, rfl, hbl, H0, H1, H2, H3, H4⟩ := HDK.out.pay.hcalls k c hc
      obtain ⟨cw, cr, ⟨clo, chi⟩, cst⟩ := c
      simp only at H0 H1 H2 H3 H4
      clear hc
      go_wp2_with fail
      refine (isWho_any (p := p) cw _ (by exact HDK.out.grow (by repeat (first | exact Below.refl _ _ | assumption | refine Below.drew ?_ | refine below_drewN ?_ _ | refine Below.alloc ?_ (by (try simp) <;> omega) _ | refine Below.setCell ?_ (by (try simp) <;> omega) _ | refine Below.trans ?_ (Below.mono (by assumption) (by (try simp) <;> omega))))) g1 g2).mono ?_
      cases hw : whoB p cw
      · rintro e w' ⟨rfl, rfl⟩
        go_wp2_with fail
        refine (ask_any false 1 _).mono ?_
        rintro e w' ⟨q2, rfl⟩
        obtain rfl : e = .panicked [refE 1] := q2
        go_wp2
        exact ⟨rfl, rfl, HBW.out.alloc (by omega) _⟩
      · rintro e w' ⟨rfl, rfl⟩
        go_wp2_with fail
        refine (isRun_any (p := p) cr _ (by exact HDK.out.grow (by repeat (first | exact Below.refl _ _ | assumption | refine Below.drew ?_ | refine below_drewN ?_ _ | refine Below.alloc ?_ (by (try simp) <;> omega) _ | refine Below.setCell ?_ (by (try simp) <;> omega) _ | refine Below.trans ?_ (Below.mono (by assumption) (by (try simp) <;> omega)))))).mono ?_
        cases hr : runB p cr
        · rintro e w' ⟨rfl, rfl⟩
          go_wp2_with fail
          refine (ask_any false 1 _).mono ?_
          rintro e w' ⟨q2, rfl⟩
          obtain rfl : e = .panicked [refE 1] := q2
          go_wp2
          exact ⟨rfl, rfl, HBW.out.alloc (by omega) _⟩
        · rintro e w' ⟨rfl, rfl⟩
          go_wp2_with fail
          refine (isIn_any ⟨clo, chi⟩ 100 _).mono ?_
          cases hsb : spanB ⟨clo, chi⟩ 100
          · rintro e w3 ⟨rfl, hbw3⟩; obtain ⟨hcw3, hfw3⟩ := bcell hbw3; have hzw3 := hbw3.size; (try simp at hzw3)
            go_wp2_with fail
            refine (ask_any false 1 _).mono ?_
            rintro e w' ⟨q2, rfl⟩
            obtain rfl : e = .panicked [refE 1] := q2
            go_wp2
            exact ⟨rfl, rfl, (HBW.out.alloc (by omega) _).trans (hbw3.mono (by simp; omega))⟩
          · have HOK : Hid (callB p ⟨cw, cr, ⟨clo, chi⟩, cst⟩ = true) := by show _ = _; simp [callB, hw, hr, hsb]
            rintro e w3 ⟨rfl, hbw3⟩; obtain ⟨hcw3, hfw3⟩ := bcell hbw3; have hzw3 := hbw3.size; (try simp at hzw3)
            have HG3 : Hid (Below (w.heap.size + 4) (openW w (payCs people ra rl rc (some ⟨b, off, none⟩) cl cc rate bill da dl dc pa pl pc)) w3) := (HBR.out.alloc (by omega) _).trans (hbw3.mono (by simp; omega))
            go_wp2_with fail
            refine (ask_any true 1 _).mono ?_
            rintro e w' ⟨q2, rfl⟩
            obtain rfl : e = .returned (.tuple #[]) := q2
            go_wp2
            go_roundw
            case rel => exact ⟨k + 1, by omega, by go_num, by show _ = _; rw [HS.out, HA.out, HOK.out]; rfl, HG3.out⟩
            case measure => simp [intOf]; omega
    · have h := HA.out
      rw [List.take_of_length_le (by have := HE3.out; omega), HB.out] at h
      cases h
end
end Go.Proofs.YtlcolpnniipgbaaDoor
namespace Go.Proofs.YtlcolpnniipgbaaDoor
open Go.RowKit Go.Hav
section
variable {people rate bill : Int} {ra ca da pa : Option Addr} {rl rc cl cc dl dc pl pc : Nat} {p : PayD}
set_option maxRecDepth 100000 in
set_option maxHeartbeats 6400000 in
theorem open_paid (v : Value) (g1 : 1 ≤ people) (g2 : people ≤ 4) (g3 : 1 ≤ rl) (g4 : rl ≤ 4) (h3 : cl ≤ 12) (g5 : 0 ≤ rate) (g6 : rate ≤ 1000) (g7 : 0 ≤ bill) (g8 : bill ≤ 10000) (h6 : (dl : Int) = people) (h7 : pl ≤ 8) (w : World) (hP : PayIn w w.heap.size people ra rl ca cl rate bill da dl pa pl p)
    (hruns : p.runs.all (spanB · 400) = true) (hdays : p.days.all (inB · 0 10) = true) (hcalls : p.calls.all (callB p) = true) (hbad : p.paid.all (paidB p) = false) :
    Calls Tryd.prog 42 #[payV people ra rl rc ca cl cc rate bill da dl dc pa pl pc, v] w fun e w' => e = .panicked [refE 1] ∧ Below w.heap.size w w' := by
  have HP := Lib.hid hP
  have HB := Lib.hid hbad
  have HCL := Lib.hid hcalls
  have HE4 := Lib.hid hP.epl
  have HR := Lib.hid hruns
  have HDY := Lib.hid hdays
  have HE := Lib.hid hP.erl
  have HE2 := Lib.hid hP.edl
  have HE3 := Lib.hid hP.ecl
  have h1 : inB people 1 4 = true := by simp [inB]; omega
  have h2 : inB (rl : Int) 1 4 = true := by simp [inB]; omega
  have h4 : inB rate 0 1000 = true := by simp [inB]; omega
  have h5 : inB bill 0 10000 = true := by simp [inB]; omega
  have hd : decide ((pl : Int) ≤ 8) = true := by simp; omega
  have hmm := @run_makeMap Tryd.prog
  clear hP hbad hruns hdays hcalls
  unfold payV
  go_enter Tryd.func42, Tryd.ntmps42
  go_wp2_with (go_at_call 74; refine (within_any _ _ _ _).mono ?_; rintro e w' ⟨rfl, rfl⟩)
  refine (ask_any true 1 _).mono ?_
  rintro e w' ⟨q1, rfl⟩
  obtain rfl : e = .returned (.tuple #[]) := q1
  go_wp2_with fail
  refine (contains1_any ra rl rc (by omega) p.runs HE.out _ (by exact (HP.out.grow (by exact (by repeat (first | exact Below.refl _ _ | assumption | refine Below.drew ?_ | refine below_drewN ?_ _ | refine Below.alloc ?_ (by (try simp) <;> omega) _ | refine Below.setCell ?_ (by (try simp) <;> omega) _ | refine Below.trans ?_ (Below.mono (by assumption) (by (try simp) <;> omega)))))).hruns)).mono ?_
  rw [HR.out]
  simp only [Bool.not_true]
  rintro e w1 ⟨rfl, hbw1⟩; obtain ⟨hcw1, hfw1⟩ := bcell hbw1; have hzw1 := hbw1.size; (try simp at hzw1)
  have q0 : w.heap.size < w1.heap.size := by omega
  have HBX := Lib.hid (show Below (w.heap.size + 4) (openW w #[Value.int IntKind.i64 people, Value.slice ra rl rc, Value.slice ca cl cc, Value.int IntKind.i64 rate, Value.int IntKind.i64 bill, Value.slice da dl dc, Value.slice pa pl pc]) w1 from hbw1.mono (by simp))
  have HB1 : Hid (Below w.heap.size w w1) := Below.trans (by repeat (first | exact Below.refl _ _ | assumption | refine Below.drew ?_ | refine below_drewN ?_ _ | refine Below.alloc ?_ (by (try simp) <;> omega) _ | refine Below.setCell ?_ (by (try simp) <;> omega) _ | refine Below.trans ?_ (Below.mono (by assumption) (by (try simp) <;> omega)))) (hbw1.mono (by simp <;> omega))
  go_wp2_with fail
  refine (ask_any true 1 _).mono ?_
  rintro e w' ⟨q1, rfl⟩
  obtain rfl : e = .returned (.tuple #[]) := q1
  go_wp2_with fail
  refine (contains2_any da dl dc (by omega) p.days HE2.out _ (by exact (HP.out.grow HB1.out).hdays)).mono ?_
  rw [HDY.out]
  simp only [Bool.not_true]
  rintro e w2 ⟨rfl, hbw2⟩; obtain ⟨hcw2, hfw2⟩ := bcell hbw2; have hzw2 := hbw2.size; (try simp at hzw2)
  have HBY := Lib.hid (HBX.out.trans (hbw2.mono (by have := HBX.out.size; simp [openW] at this; omega)))
  go_wp2_with fail
  refine (ask_any true 1 _).mono ?_
  rintro e w' ⟨q2, rfl⟩
  obtain rfl : e = .returned (.tuple #[]) := q2
  go_wp2
  go_loopw [72] (fun i wr => ∃ k : Nat, k ≤ cl ∧ i = .int .i64 k ∧ Hid ((p.calls.take k).all (callB p) = true) ∧ Below (w.heap.size + 4) (openW w (payCs people ra rl rc ca cl cc rate bill da dl dc pa pl pc)) wr) (fun i _ => cl - (intOf i).toNat)
  case atStart => exact ⟨0, Nat.zero_le _, rfl, by show _ = _; simp, HBY.out⟩
  case round =>
    obtain ⟨k, hk, rfl, HA, hb⟩ := hrel
    have HDK := Lib.hid (openW_desk (p := p) w wr HP.out hb)
    have HBW : Hid (Below w.heap.size w wr) := (openW_below w _).trans (hb.mono (by omega))
    have hsz : w.heap.size + 4 ≤ wr.heap.size := by have := hb.size; rwa [openW_size] at this
    have t5 : wr.cell? ⟨w.heap.size + 1 + 1 + 1, 0, none⟩ = some (.pointer (some ⟨w.heap.size + 1 + 1, 0, none⟩)) :=
      ((Blk.new_ (by simp) 71 #[.pointer (some ⟨w.heap.size + 1 + 1, 0, none⟩)]).below hb (by omega)).cell 0
    have b6 : wr.cell? ⟨w.heap.size, 6, none⟩ = some (.slice pa pl pc) := (((((Blk.new_ (w := w) rfl 27 (payCs people ra rl rc ca cl cc rate bill da dl dc pa pl pc)).alloc _).alloc _).alloc _).below hb (by omega)).cell 6
    have q6 : w.heap.size < wr.heap.size := by omega
    have HBR := Lib.hid hb
    clear hb
    have q5 : w.heap.size + 1 + 1 + 1 < wr.heap.size := by omega
    by_cases hlt : k < cl
    · obtain ⟨c, hc⟩ : ∃ c, p.calls[k]? = some c := ⟨p.calls[k]'(by have := HE3.out; omega), by simp⟩
      have HC := Lib.hid hc
      have HS := Lib.hid (take_all_succ (callB p) p.calls k c hc)
      obtain ⟨b, off, rfl, hbl, H0, H1, H2, H3, H4⟩ := HDK.out.pay.hcalls k c hc
      obtain ⟨cw, cr, ⟨clo, chi⟩, cst⟩ := c
      simp only at H0 H1 H2 H3 H4
      have HOK : Hid (callB p ⟨cw, cr, ⟨clo, chi⟩, cst⟩ = true) := List.all_eq_true.1 HCL.out _ (List.mem_of_getElem? hc)
      obtain ⟨⟨hw, hr⟩, hsb⟩ : (whoB p cw = true ∧ runB p cr = true) ∧ spanB ⟨clo, chi⟩ 100 = true := by
        have h := HOK.out
        simp only [callB, Bool.and_eq_true] at h
        exact h
      clear hc
      go_wp2_with fail
      refine (isWho_any (p := p) cw _ (by exact HDK.out.grow (by repeat (first | exact Below.refl _ _ | assumption | refine Below.drew ?_ | refine below_drewN ?_ _ | refine Below.alloc ?_ (by (try simp) <;> omega) _ | refine Below.setCell ?_ (by (try simp) <;> omega) _ | refine Below.trans ?_ (Below.mono (by assumption) (by (try simp) <;> omega))))) g1 g2).mono ?_
      rw [hw]
      rintro e w' ⟨rfl, rfl⟩
      go_wp2_with fail
      refine (isRun_any (p := p) cr _ (by exact HDK.out.grow (by repeat (first | exact Below.refl _ _ | assumption | refine Below.drew ?_ | refine below_drewN ?_ _ | refine Below.alloc ?_ (by (try simp) <;> omega) _ | refine Below.setCell ?_ (by (try simp) <;> omega) _ | refine Below.trans ?_ (Below.mono (by assumption) (by (try simp) <;> omega)))))).mono ?_
      rw [hr]
      rintro e w' ⟨rfl, rfl⟩
      go_wp2_with fail
      refine (isIn_any ⟨clo, chi⟩ 100 _).mono ?_
      rw [hsb]
      rintro e w3 ⟨rfl, hbw3⟩; obtain ⟨hcw3, hfw3⟩ := bcell hbw3; have hzw3 := hbw3.size; (try simp at hzw3)
      have HG3 : Hid (Below (w.heap.size + 4) (openW w (payCs people ra rl rc (some ⟨b, off, none⟩) cl cc rate bill da dl dc pa pl pc)) w3) := (HBR.out.alloc (by omega) _).trans (hbw3.mono (by simp; omega))
      go_wp2_with fail
      refine (ask_any true 1 _).mono ?_
      rintro e w' ⟨q2, rfl⟩
      obtain rfl : e = .returned (.tuple #[]) := q2
      go_wp2
      go_roundw
      case rel => exact ⟨k + 1, by omega, by go_num, by show _ = _; rw [HS.out, HA.out, HOK.out]; rfl, HG3.out⟩
      case measure => simp [intOf]; omega
    · obtain rfl : cl = k := by omega
      go_wp2
      go_loopw [97] (fun i wq => ∃ k : Nat, k ≤ pl ∧ i = .int .i64 k ∧ Hid ((p.paid.take k).all (paidB p) = true) ∧ Below (w.heap.size + 4) (openW w (payCs people ra rl rc ca cl cc rate bill da dl dc pa pl pc)) wq) (fun i _ => pl - (intOf i).toNat)
      case atStart => exact ⟨0, Nat.zero_le _, rfl, by show _ = _; simp, HBR.out⟩
      case round =>
        clear HDK HBW hsz t5 b6 q5 q6 HBR
        obtain ⟨k, hk, rfl, HA, hb⟩ := hrel
        have HDK := Lib.hid (openW_desk (p := p) w wr HP.out hb)
        have HBW : Hid (Below w.heap.size w wr) := (openW_below w _).trans (hb.mono (by omega))
        have hsz : w.heap.size + 4 ≤ wr.heap.size := by have := hb.size; rwa [openW_size] at this
        have t5 : wr.cell? ⟨w.heap.size + 1 + 1 + 1, 0, none⟩ = some (.pointer (some ⟨w.heap.size + 1 + 1, 0, none⟩)) :=
          ((Blk.new_ (by simp) 71 #[.pointer (some ⟨w.heap.size + 1 + 1, 0, none⟩)]).below hb (by omega)).cell 0
        have HBR := Lib.hid hb
        clear hb
        have q5 : w.heap.size + 1 + 1 + 1 < wr.heap.size := by omega
        by_cases hlt : k < pl
        · obtain ⟨c, hc⟩ : ∃ c, p.paid[k]? = some c := ⟨p.paid[k]'(by have := HE4.out; omega), by simp⟩
          have HS := Lib.hid (take_all_succ (paidB p) p.paid k c hc)
          obtain ⟨b, off, rfl, hbl, H0, H1, H2⟩ := HDK.out.pay.hpaid k c hc
          obtain ⟨cw, cr, cp⟩ := c
          simp only at H0 H1 H2
          clear hc
          go_wp2_with fail
          refine (isWho_any (p := p) cw _ (by exact HDK.out.grow (by repeat (first | exact Below.refl _ _ | assumption | refine Below.drew ?_ | refine below_drewN ?_ _ | refine Below.alloc ?_ (by (try simp) <;> omega) _ | refine Below.setCell ?_ (by (try simp) <;> omega) _ | refine Below.trans ?_ (Below.mono (by assumption) (by (try simp) <;> omega))))) g1 g2).mono ?_
          cases hw : whoB p cw
          · rintro e w' ⟨rfl, rfl⟩
            go_wp2_with fail
            refine (ask_any false 1 _).mono ?_
            rintro e w' ⟨q2, rfl⟩
            obtain rfl : e = .panicked [refE 1] := q2
            go_wp2
            exact ⟨rfl, rfl, HBW.out.alloc (by omega) _⟩
          · rintro e w' ⟨rfl, rfl⟩
            go_wp2_with fail
            refine (isRun_any (p := p) cr _ (by exact HDK.out.grow (by repeat (first | exact Below.refl _ _ | assumption | refine Below.drew ?_ | refine below_drewN ?_ _ | refine Below.alloc ?_ (by (try simp) <;> omega) _ | refine Below.setCell ?_ (by (try simp) <;> omega) _ | refine Below.trans ?_ (Below.mono (by assumption) (by (try simp) <;> omega)))))).mono ?_
            cases hr : runB p cr
            · rintro e w' ⟨rfl, rfl⟩
              go_wp2_with fail
              refine (ask_any false 1 _).mono ?_
              rintro e w' ⟨q2, rfl⟩
              obtain rfl : e = .panicked [refE 1] := q2
              go_wp2
              exact ⟨rfl, rfl, HBW.out.alloc (by omega) _⟩
            · rintro e w' ⟨rfl, rfl⟩
              go_wp2_with fail
              refine (within_any cp 0 10000 _).mono ?_
              cases hsb : inB cp 0 10000
              · rintro e w' ⟨rfl, rfl⟩
                go_wp2_with fail
                refine (ask_any false 1 _).mono ?_
                rintro e w' ⟨q2, rfl⟩
                obtain rfl : e = .panicked [refE 1] := q2
                go_wp2
                exact ⟨rfl, rfl, HBW.out.alloc (by omega) _⟩
              · have HOK : Hid (paidB p ⟨cw, cr, cp⟩ = true) := by show _ = _; simp [paidB, hw, hr, hsb]
                rintro e w' ⟨rfl, rfl⟩
                go_wp2_with fail
                refine (ask_any true 1 _).mono ?_
                rintro e w' ⟨q2, rfl⟩
                obtain rfl : e = .returned (.tuple #[]) := q2
                go_wp2
                go_roundw
                case rel => exact ⟨k + 1, by omega, by go_num, by show _ = _; rw [HS.out, HA.out, HOK.out]; rfl, HBR.out.alloc (by omega) _⟩
                case measure => simp [intOf]; omega
        · have h := HA.out
          rw [List.take_of_length_le (by have := HE4.out; omega), HB.out] at h
          cases h
end
end Go.Proofs.YtlcolpnniipgbaaDoor
