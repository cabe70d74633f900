/- The data of a pay, how it lies in memory, and small laws on worlds, shared by all proofs of this seat; no condition. The walks of the reference's small functions (in, span, Who, Run, Wage, stands, called), each for every argument; no condition but that the pay is read. The walks of the reference's called, power, Wage, some; no condition but that the pay is read, and is valid where numbers are added. The walk of the reference's some, for every pay that is valid. The walk of the reference's Pay (is the pay valid?), for every pay. The walks of the reference's wrong, check and shorn. The walks of the reference's Who (for every number of people), shorn and wages. -/
import Derived.Test.YtlcolpnniipgbaaDoorProg
import Derived.WalkKit
import Derived.WalkSpells
import Derived.WalkLawsBesides
import Derived.Lib.Hide
import Derived.Deep.LoopGhost
import Derived.Deep.QuietTactic
import Derived.BigQuiet
import Derived.Deep.RegionHeld3
import Derived.Deep.DeepCutAuto
import Derived.Test.YtlcolpnniipgbaaDoorHavoc
namespace Go.Proofs.YtlcolpnniipgbaaDoor
open Go.RowKit

structure Sp where
  lo : Int
  hi : Int
structure Ca where
  who : Int
  run : Int
  sh : Sp
  struck : Bool
structure Pd where
  who : Int
  run : Int
  pence : Int
structure PayD where
  people : Int
  runs : List Sp
  calls : List Ca
  rate : Int
  bill : Int
  days : List Int
  paid : List Pd

/-- The value of a struct of type api.Pay. -/
def payV (people : Int) (ra : Option Addr) (rl rc : Nat) (ca : Option Addr) (cl cc : Nat) (rate bill : Int) (da : Option Addr) (dl dc : Nat) (pa : Option Addr) (pl pc : Nat) : Value :=
  .agg #[.int .i64 people, .slice ra rl rc, .slice ca cl cc, .int .i64 rate, .int .i64 bill, .slice da dl dc, .slice pa pl pc]
def spV (s : Sp) : Value := .agg #[.int .i64 s.lo, .int .i64 s.hi]

/-- Slices that read as lists, in blocks below B. -/
def RdSpans (w : World) (B : Nat) (A : Option Addr) (xs : List Sp) : Prop :=
  ∀ (k : Nat) (c : Sp), xs[k]? = some c → ∃ b off, A = some ⟨b, off, none⟩ ∧ b < B ∧ w.cell? ⟨b, off + k * 2, none⟩ = some (.int .i64 c.lo) ∧ w.cell? ⟨b, off + k * 2 + 1, none⟩ = some (.int .i64 c.hi)
def RdCalls (w : World) (B : Nat) (A : Option Addr) (xs : List Ca) : Prop :=
  ∀ (k : Nat) (c : Ca), xs[k]? = some c → ∃ b off, A = some ⟨b, off, none⟩ ∧ b < B ∧ w.cell? ⟨b, off + k * 5, none⟩ = some (.int .i64 c.who) ∧
    w.cell? ⟨b, off + k * 5 + 1, none⟩ = some (.int .i64 c.run) ∧ w.cell? ⟨b, off + k * 5 + 2, none⟩ = some (.int .i64 c.sh.lo) ∧
    w.cell? ⟨b, off + k * 5 + 3, none⟩ = some (.int .i64 c.sh.hi) ∧ w.cell? ⟨b, off + k * 5 + 4, none⟩ = some (.bool c.struck)
def RdInts (w : World) (B : Nat) (A : Option Addr) (xs : List Int) : Prop :=
  ∀ (k : Nat) (c : Int), xs[k]? = some c → ∃ b off, A = some ⟨b, off, none⟩ ∧ b < B ∧ w.cell? ⟨b, off + k, none⟩ = some (.int .i64 c)
def RdPaid (w : World) (B : Nat) (A : Option Addr) (xs : List Pd) : Prop :=
  ∀ (k : Nat) (c : Pd), xs[k]? = some c → ∃ b off, A = some ⟨b, off, none⟩ ∧ b < B ∧ w.cell? ⟨b, off + k * 3, none⟩ = some (.int .i64 c.who) ∧
    w.cell? ⟨b, off + k * 3 + 1, none⟩ = some (.int .i64 c.run) ∧ w.cell? ⟨b, off + k * 3 + 2, none⟩ = some (.int .i64 c.pence)

theorem RdSpans.below {w w' : World} {B : Nat} {A : Option Addr} {xs : List Sp} (h : RdSpans w B A xs) (hb : Below B w w') : RdSpans w' B A xs := fun k c hc => by
  obtain ⟨b, off, e, hl, h0, h1⟩ := h k c hc
  exact ⟨b, off, e, hl, (hb.cell (p := ⟨b, _, none⟩) hl).trans h0, (hb.cell (p := ⟨b, _, none⟩) hl).trans h1⟩
theorem RdCalls.below {w w' : World} {B : Nat} {A : Option Addr} {xs : List Ca} (h : RdCalls w B A xs) (hb : Below B w w') : RdCalls w' B A xs := fun k c hc => by
  obtain ⟨b, off, e, hl, h0, h1, h2, h3, h4⟩ := h k c hc
  exact ⟨b, off, e, hl, (hb.cell (p := ⟨b, _, none⟩) hl).trans h0, (hb.cell (p := ⟨b, _, none⟩) hl).trans h1, (hb.cell (p := ⟨b, _, none⟩) hl).trans h2, (hb.cell (p := ⟨b, _, none⟩) hl).trans h3, (hb.cell (p := ⟨b, _, none⟩) hl).trans h4⟩
theorem RdInts.below {w w' : World} {B : Nat} {A : Option Addr} {xs : List Int} (h : RdInts w B A xs) (hb : Below B w w') : RdInts w' B A xs := fun k c hc => by
  obtain ⟨b, off, e, hl, h0⟩ := h k c hc
  exact ⟨b, off, e, hl, (hb.cell (p := ⟨b, _, none⟩) hl).trans h0⟩
theorem RdPaid.below {w w' : World} {B : Nat} {A : Option Addr} {xs : List Pd} (h : RdPaid w B A xs) (hb : Below B w w') : RdPaid w' B A xs := fun k c hc => by
  obtain ⟨b, off, e, hl, h0, h1, h2⟩ := h k c hc
  exact ⟨b, off, e, hl, (hb.cell (p := ⟨b, _, none⟩) hl).trans h0, (hb.cell (p := ⟨b, _, none⟩) hl).trans h1, (hb.cell (p := ⟨b, _, none⟩) hl).trans h2⟩
theorem RdSpans.more {w : World} {B B' : Nat} {A : Option Addr} {xs : List Sp} (h : RdSpans w B A xs) (hB : B ≤ B') : RdSpans w B' A xs := fun k c hc => by
  obtain ⟨b, off, e, hl, r⟩ := h k c hc
  exact ⟨b, off, e, by omega, r⟩
theorem RdCalls.more {w : World} {B B' : Nat} {A : Option Addr} {xs : List Ca} (h : RdCalls w B A xs) (hB : B ≤ B') : RdCalls w B' A xs := fun k c hc => by
  obtain ⟨b, off, e, hl, r⟩ := h k c hc
  exact ⟨b, off, e, by omega, r⟩
theorem RdInts.more {w : World} {B B' : Nat} {A : Option Addr} {xs : List Int} (h : RdInts w B A xs) (hB : B ≤ B') : RdInts w B' A xs := fun k c hc => by
  obtain ⟨b, off, e, hl, r⟩ := h k c hc
  exact ⟨b, off, e, by omega, r⟩
theorem RdPaid.more {w : World} {B B' : Nat} {A : Option Addr} {xs : List Pd} (h : RdPaid w B A xs) (hB : B ≤ B') : RdPaid w B' A xs := fun k c hc => by
  obtain ⟨b, off, e, hl, r⟩ := h k c hc
  exact ⟨b, off, e, by omega, r⟩

/-- The value 'payV people ..' reads in w as the pay p. -/
structure PayIn (w : World) (B : Nat) (people : Int) (ra : Option Addr) (rl : Nat) (ca : Option Addr) (cl : Nat) (rate bill : Int) (da : Option Addr) (dl : Nat) (pa : Option Addr) (pl : Nat) (p : PayD) : Prop where
  epeople : p.people = people
  erate : p.rate = rate
  ebill : p.bill = bill
  erl : p.runs.length = rl
  ecl : p.calls.length = cl
  edl : p.days.length = dl
  epl : p.paid.length = pl
  mrl : rl ≤ 9223372036854775807
  mcl : cl ≤ 9223372036854775807
  mdl : dl ≤ 9223372036854775807
  mpl : pl ≤ 9223372036854775807
  hruns : RdSpans w B ra p.runs
  hcalls : RdCalls w B ca p.calls
  hdays : RdInts w B da p.days
  hpaid : RdPaid w B pa p.paid

section
variable {w w' : World} {B B' : Nat} {people rate bill : Int} {ra ca da pa : Option Addr} {rl cl dl pl : Nat} {p : PayD}
theorem PayIn.below (h : PayIn w B people ra rl ca cl rate bill da dl pa pl p) (hb : Below B w w') : PayIn w' B people ra rl ca cl rate bill da dl pa pl p :=
  { h with hruns := h.hruns.below hb, hcalls := h.hcalls.below hb, hdays := h.hdays.below hb, hpaid := h.hpaid.below hb }
theorem PayIn.more (h : PayIn w B people ra rl ca cl rate bill da dl pa pl p) (hB : B ≤ B') : PayIn w B' people ra rl ca cl rate bill da dl pa pl p :=
  { h with hruns := h.hruns.more hB, hcalls := h.hcalls.more hB, hdays := h.hdays.more hB, hpaid := h.hpaid.more hB }
theorem PayIn.grow (h : PayIn w w.heap.size people ra rl ca cl rate bill da dl pa pl p) (hb : Below w.heap.size w w') : PayIn w' w'.heap.size people ra rl ca cl rate bill da dl pa pl p :=
  (h.below hb).more hb.size
end

/-- After a call that made memory: old cells and old marks read as before. -/
theorem bcell {B : Nat} {W w1 : World} (hb : Below B W w1) : (∀ b o, b < B → w1.cell? ⟨b, o, none⟩ = W.cell? ⟨b, o, none⟩) ∧ (∀ b o, b < B → w1.frozen? ⟨b, o, none⟩ = W.frozen? ⟨b, o, none⟩) :=
  ⟨fun b o h => hb.cell (p := ⟨b, o, none⟩) h, fun b o h => hb.frozen (p := ⟨b, o, none⟩) h⟩
theorem below_drewN {B : Nat} {a w : World} (h : Below B a w) (n : Nat) : Below B a (w.drewN n) := ⟨h.os, h.tape, h.output, h.size, h.block⟩
theorem ret_int {k : IntKind} {a b : Int} (h : a = b) : Ending.returned (.int k a) = .returned (.int k b) := by rw [h]
theorem ret_bool {a b : Bool} (h : a = b) : Ending.returned (.bool a) = .returned (.bool b) := by rw [h]

/-- A block that is known whole: just the cells cs of element type t, none frozen. -/
def Blk (w : World) (g : Nat) (t : TypeId) (cs : Array Value) : Prop := w.heap[g]? = some (.cells cs t (0, 0))
section
variable {w w' : World} {g : Nat} {t : TypeId} {cs : Array Value}
theorem Blk.lt (h : Blk w g t cs) : g < w.heap.size := by
  rcases Nat.lt_or_ge g w.heap.size with hlt | hge
  · exact hlt
  · unfold Blk at h; rw [Array.getElem?_eq_none hge] at h; cases h
theorem Blk.cell (h : Blk w g t cs) (i : Nat) : w.cell? ⟨g, i, none⟩ = cs[i]? := cell_of_row w g i cs t (0, 0) h
theorem Blk.frozen (h : Blk w g t cs) (i : Nat) : w.frozen? ⟨g, i, none⟩ = false := by
  unfold Blk at h
  simp [World.frozen?, h]
theorem Blk.new (w : World) (t : TypeId) (cs : Array Value) : Blk (w.alloc (.cells cs t)) w.heap.size t cs := heap_alloc_new w _
theorem Blk.new_ {w : World} {g : Nat} (h : w.heap.size = g) (t : TypeId) (cs : Array Value) : Blk (w.alloc (.cells cs t)) g t cs := h ▸ Blk.new w t cs
theorem Blk.drew (h : Blk w g t cs) : Blk w.drew g t cs := h
theorem Blk.drewN (h : Blk w g t cs) (n : Nat) : Blk (w.drewN n) g t cs := h
theorem Blk.alloc (h : Blk w g t cs) (o : Obj) : Blk (w.alloc o) g t cs := (Below.heap_alloc w o g h.lt).trans h
theorem Blk.set_ (h : Blk w g t cs) (i : Nat) (u : Value) : Blk (w.setCell ⟨g, i, none⟩ u) g t (cs.setIfInBounds i u) := by
  unfold Blk at h ⊢
  simp [World.setCell, Array.getElem?_modify, h]
theorem Blk.far (h : Blk w g t cs) {p : Addr} (hp : g ≠ p.block) (u : Value) : Blk (w.setCell p u) g t cs := (Below.heap_setCell w p u g hp).trans h
theorem Blk.below {B : Nat} (h : Blk w g t cs) (hb : Below B w w') (hg : g < B) : Blk w' g t cs := (hb.block g hg).trans h
theorem Blk.grown {row : Option Nat} (h : Blk w g t cs) (hb : w.grownBy w' row) (hg : some g ≠ row) : Blk w' g t cs := (hb.block g h.lt hg).trans h
end

/-! Plain functions: what the checks compute. -/
def inB (n lo hi : Int) : Bool := decide (lo ≤ n) && decide (n ≤ hi)
def spanB (s : Sp) (high : Int) : Bool := decide (0 ≤ s.lo) && decide (s.lo ≤ s.hi) && decide (s.hi ≤ high)
def whoB (p : PayD) (n : Int) : Bool := inB n 0 (p.people - 1)
def runB (p : PayD) (n : Int) : Bool := inB n 0 ((p.runs.length : Int) - 1)
def headB (p : PayD) : Bool := inB p.people 1 4 && inB p.runs.length 1 4 && decide (p.calls.length ≤ 12) && inB p.rate 0 1000 && inB p.bill 0 10000 && decide ((p.days.length : Int) = p.people) && decide (p.paid.length ≤ 8)
def callB (p : PayD) (c : Ca) : Bool := whoB p c.who && runB p c.run && spanB c.sh 100
def paidB (p : PayD) (x : Pd) : Bool := whoB p x.who && runB p x.run && inB x.pence 0 10000
def payB (p : PayD) : Bool := headB p && p.runs.all (spanB · 400) && p.calls.all (callB p) && p.days.all (inB · 0 10) && p.paid.all (paidB p)
theorem inB_iff {n lo hi : Int} : inB n lo hi = true ↔ lo ≤ n ∧ n ≤ hi := by simp [inB]
theorem spanB_iff {s : Sp} {h : Int} : spanB s h = true ↔ 0 ≤ s.lo ∧ s.lo ≤ s.hi ∧ s.hi ≤ h := by simp [spanB, and_assoc]
end Go.Proofs.YtlcolpnniipgbaaDoor
namespace Go.Proofs.YtlcolpnniipgbaaDoor
open Go.RowKit

section
variable {people rate bill : Int} {ra ca da pa : Option Addr} {rl rc cl cc dl dc pl pc : Nat} {p : PayD}

set_option maxHeartbeats 400000 in
theorem in_any (n lo hi : Int) (w : World) :
    Calls Tryd.prog 70 #[.int .i64 n, .int .i64 lo, .int .i64 hi] w fun e w' => e = .returned (.bool (inB n lo hi)) ∧ w = w' := by
  go_enter Tryd.func70, Tryd.ntmps70
  go_wp2
  all_goals (go_ret; exact ⟨ret_bool (by simp [inB, *] <;> omega), rfl⟩)

set_option maxHeartbeats 400000 in
theorem span_any (s : Sp) (high : Int) (w : World) :
    Calls Tryd.prog 71 #[.agg #[.int .i64 s.lo, .int .i64 s.hi], .int .i64 high] w fun e w' => e = .returned (.bool (spanB s high)) ∧ Below w.heap.size w w' := by
  go_enter Tryd.func71, Tryd.ntmps71
  go_wp2
  all_goals (go_ret; exact ⟨ret_bool (by simp [spanB, *] <;> omega), (Below.refl _ _).alloc (Nat.le_refl _) _⟩)

set_option maxHeartbeats 400000 in
theorem Who_any (n : Int) (w : World) (hp : p.people = people) (h1 : 1 ≤ people) (h2 : people ≤ 4) :
    Calls Tryd.prog 48 #[payV people ra rl rc ca cl cc rate bill da dl dc pa pl pc, .int .i64 n] w fun e w' => e = .returned (.bool (whoB p n)) ∧ Below w.heap.size w w' := by
  have HW : Hid (whoB p n = inB n 0 (people - 1)) := by show _ = _; rw [whoB, hp]
  clear hp
  unfold payV
  go_enter Tryd.func48, Tryd.ntmps48
  go_wp2_with (go_at_call 70; refine (in_any _ _ _ _).mono ?_; rintro e w' ⟨rfl, rfl⟩)
  go_ret
  exact ⟨ret_bool (by rw [HW.out]), (Below.refl _ _).alloc (Nat.le_refl _) _⟩

set_option maxHeartbeats 400000 in
theorem Run_any (n : Int) (w : World) (hp : p.runs.length = rl) (h1 : rl ≤ 9223372036854775807) :
    Calls Tryd.prog 49 #[payV people ra rl rc ca cl cc rate bill da dl dc pa pl pc, .int .i64 n] w fun e w' => e = .returned (.bool (runB p n)) ∧ Below w.heap.size w w' := by
  have HW : Hid (runB p n = inB n 0 (rl - 1)) := by show _ = _; rw [runB, hp]
  clear hp
  unfold payV
  go_enter Tryd.func49, Tryd.ntmps49
  go_wp2_with (go_at_call 70; refine (in_any _ _ _ _).mono ?_; rintro e w' ⟨rfl, rfl⟩)
  go_ret
  exact ⟨ret_bool (by rw [HW.out]), (Below.refl _ _).alloc (Nat.le_refl _) _⟩

/-- The call that stands, of the first k calls; -1: none. -/
def standsF (cs : List Ca) (who run : Int) : Nat → Int
  | 0 => -1
  | k + 1 => match cs[k]? with
    | some c => if c.who = who ∧ c.run = run ∧ c.struck = false then (k : Int) else standsF cs who run k
    | none => standsF cs who run k
def standsI (p : PayD) (who run : Int) : Int := standsF p.calls who run p.calls.length
theorem standsF_lt (cs : List Ca) (who run : Int) : ∀ k : Nat, -1 ≤ standsF cs who run k ∧ standsF cs who run k < k ∧ (0 ≤ standsF cs who run k → ∃ c, cs[(standsF cs who run k).toNat]? = some c ∧ c.who = who ∧ c.run = run ∧ c.struck = false) := by
  intro k
  induction k with
  | zero => simp [standsF]
  | succ k ih =>
    simp only [standsF]
    split
    · rename_i c hc
      split
      · rename_i h
        exact ⟨by omega, by omega, fun _ => ⟨c, by simpa using hc, h⟩⟩
      · exact ⟨ih.1, by omega, ih.2.2⟩
    · exact ⟨ih.1, by omega, ih.2.2⟩

set_option maxHeartbeats 400000 in
theorem stands_any (who run : Int) (w : World) (hP : PayIn w w.heap.size people ra rl ca cl rate bill da dl pa pl p) :
    Calls Tryd.prog 50 #[payV people ra rl rc ca cl cc rate bill da dl dc pa pl pc, .int .i64 who, .int .i64 run] w fun e w' => e = .returned (.int .i64 (standsI p who run)) ∧ Below w.heap.size w w' := by
  have HL := Lib.hid hP.ecl
  have HC := Lib.hid hP.hcalls
  have hm := hP.mcl
  clear hP
  unfold payV
  go_enter Tryd.func50, Tryd.ntmps50
  go_wp2
  go_loopw [7, 8] (fun best i wr => ∃ k : Nat, k ≤ cl ∧ i = .int .i64 k ∧ best = .int .i64 (standsF p.calls who run k) ∧ Below (w.heap.size + 1) (w.alloc
    (Obj.cells #[Value.int IntKind.i64 people, Value.slice ra rl rc, Value.slice ca cl cc, Value.int IntKind.i64 rate, Value.int IntKind.i64 bill, Value.slice da dl dc, Value.slice pa pl pc] 27)) wr) (fun _ i _ => cl - (intOf i).toNat)
  case atStart => exact ⟨0, Nat.zero_le _, rfl, rfl, Below.refl _ _⟩
  case round =>
    obtain ⟨k, hk, rfl, rfl, hb⟩ := hrel
    have hcc : ∀ b o, b < w.heap.size + 1 → wr.cell? ⟨b, o, none⟩ = _ := fun b o h => hb.cell (p := ⟨b, o, none⟩) h
    by_cases hlt : k < cl
    · obtain ⟨c, hc⟩ : ∃ c, p.calls[k]? = some c := ⟨p.calls[k]'(by have := HL.out; omega), by simp⟩
      obtain ⟨b, off, rfl, hbl, H0, H1, H2, H3, H4⟩ := HC.out k c hc
      have HS : Hid (standsF p.calls who run (k+1) = if c.who = who ∧ c.run = run ∧ c.struck = false then (k : Int) else standsF p.calls who run k) := by
        show _ = _; simp only [standsF, hc]
      have hsz : w.heap.size + 1 ≤ wr.heap.size := by have := hb.size; simpa using this
      clear hc
      go_wp2
      all_goals go_roundw
      case rel => exact ⟨k + 1, by omega, by go_num, by rw [HS.out, if_pos ⟨by assumption, by assumption, by simpa using (by assumption : (!c.struck) = true)⟩], hb.alloc hsz _⟩
      case measure => simp [intOf]; omega
      case rel => exact ⟨k + 1, by omega, by go_num, by rw [HS.out, if_neg (by simp_all)], hb.alloc hsz _⟩
      case measure => simp [intOf]; omega
      case rel => exact ⟨k + 1, by omega, by go_num, by rw [HS.out, if_neg (by simp_all)], hb.alloc hsz _⟩
      case measure => simp [intOf]; omega
      case rel => exact ⟨k + 1, by omega, by go_num, by rw [HS.out, if_neg (by simp_all)], hb.alloc hsz _⟩
      case measure => simp [intOf]; omega
    · have : k = cl := by omega
      subst this
      go_wp2
      go_ret
      exact ⟨ret_int (by rw [standsI, HL.out]), ((Below.refl _ _).alloc (Nat.le_refl _) _).trans (hb.mono (by omega))⟩
end
end Go.Proofs.YtlcolpnniipgbaaDoor
namespace Go.Proofs.YtlcolpnniipgbaaDoor
open Go.RowKit

section
variable {people rate bill : Int} {ra ca da pa : Option Addr} {rl rc cl cc dl dc pl pc : Nat} {p : PayD}

def calledS (p : PayD) (who run : Int) : Sp :=
  if standsI p who run < 0 then ⟨0, 0⟩ else match p.calls[(standsI p who run).toNat]? with
    | some c => c.sh
    | none => ⟨0, 0⟩

set_option maxHeartbeats 400000 in
theorem called_any (who run : Int) (w : World) (hP : PayIn w w.heap.size people ra rl ca cl rate bill da dl pa pl p) :
    Calls Tryd.prog 84 #[payV people ra rl rc ca cl cc rate bill da dl dc pa pl pc, .int .i64 who, .int .i64 run] w fun e w' => e = .returned (spV (calledS p who run)) ∧ Below w.heap.size w w' := by
  have HP := Lib.hid hP
  obtain ⟨hs1, hs2, hs3⟩ := standsF_lt p.calls who run p.calls.length
  change -1 ≤ standsI p who run at hs1
  change standsI p who run < _ at hs2
  change 0 ≤ standsI p who run → ∃ c, p.calls[(standsI p who run).toNat]? = some c ∧ _ at hs3
  by_cases hneg : standsI p who run < 0
  · have HV : Hid (calledS p who run = ⟨0, 0⟩) := by show _ = _; rw [calledS, if_pos hneg]
    clear hs1 hs2 hs3 hP
    unfold payV
    go_enter Tryd.func84, Tryd.ntmps84
    go_wp2_with (go_at_call 50; refine (stands_any (p := p) _ _ _ (by exact HP.out.grow (by repeat (first | exact Below.refl _ _ | assumption | refine Below.drew ?_ | refine below_drewN ?_ _ | refine Below.alloc ?_ (by (try simp) <;> omega) _ | refine Below.setCell ?_ (by (try simp) <;> omega) _ | refine Below.trans ?_ (Below.mono (by assumption) (by (try simp) <;> omega)))))).mono ?_; rintro e w1 ⟨rfl, hbw1⟩; obtain ⟨hcw1, hfw1⟩ := bcell hbw1; have hzw1 := hbw1.size; (try simp at hzw1))
    refine bodyPost_ret (v := spV (calledS p who run)) (by rw [HV.out]; simp [results, Tryd.results84, go_sem, hcw1, spV]) rfl ⟨rfl, (by repeat (first | exact Below.refl _ _ | assumption | refine Below.drew ?_ | refine below_drewN ?_ _ | refine Below.alloc ?_ (by (try simp) <;> omega) _ | refine Below.setCell ?_ (by (try simp) <;> omega) _ | refine Below.trans ?_ (Below.mono (by assumption) (by (try simp) <;> omega))))⟩
  · obtain ⟨c, hc, _⟩ := hs3 (by omega)
    obtain ⟨k, hk⟩ : ∃ k : Nat, standsI p who run = k := ⟨(standsI p who run).toNat, by omega⟩
    have hkl : k < cl := by have := hP.ecl; omega
    have HV : Hid (calledS p who run = c.sh) := by show _ = _; rw [calledS, if_neg hneg, hc]
    rw [hk] at hc
    obtain ⟨b, off, rfl, hbl, H0, H1, H2, H3, H4⟩ := hP.hcalls k c hc
    have hm := hP.mcl
    have hbl2 : b < w.heap.size + 1 + 1 := by omega
    clear hs1 hs2 hs3 hP hneg hc
    unfold payV
    go_enter Tryd.func84, Tryd.ntmps84
    go_wp2_with (go_at_call 50; refine (stands_any (p := p) _ _ _ (by exact HP.out.grow (by repeat (first | exact Below.refl _ _ | assumption | refine Below.drew ?_ | refine below_drewN ?_ _ | refine Below.alloc ?_ (by (try simp) <;> omega) _ | refine Below.setCell ?_ (by (try simp) <;> omega) _ | refine Below.trans ?_ (Below.mono (by assumption) (by (try simp) <;> omega)))))).mono ?_; rintro e w1 ⟨rfl, hbw1⟩; obtain ⟨hcw1, hfw1⟩ := bcell hbw1; have hzw1 := hbw1.size; (try simp at hzw1))
    refine bodyPost_ret (v := spV (calledS p who run)) (by rw [HV.out]; simp [results, Tryd.results84, go_sem, hcw1, spV]) rfl ⟨rfl, (by repeat (first | exact Below.refl _ _ | assumption | refine Below.drew ?_ | refine below_drewN ?_ _ | refine Below.alloc ?_ (by (try simp) <;> omega) _ | refine Below.setCell ?_ (by (try simp) <;> omega) _ | refine Below.trans ?_ (Below.mono (by assumption) (by (try simp) <;> omega))))⟩

set_option maxHeartbeats 400000 in
theorem Wage_any (n : Int) (w : World) (hr1 : 0 ≤ rate) (hr2 : rate ≤ 1000) (h0 : 0 ≤ n) (h1 : n ≤ 1000000) :
    Calls Tryd.prog 87 #[payV people ra rl rc ca cl cc rate bill da dl dc pa pl pc, .int .i64 n] w fun e w' => e = .returned (.int .i64 (n * rate / 100)) ∧ Below w.heap.size w w' := by
  have h2 : 0 ≤ n * rate := Int.mul_nonneg h0 hr1
  have h3 : n * rate ≤ 1000000 * 1000 := Int.le_trans (Int.mul_le_mul_of_nonneg_right h1 hr1) (Int.mul_le_mul_of_nonneg_left hr2 (by omega))
  unfold payV
  go_enter Tryd.func87, Tryd.ntmps87
  go_wp2
  go_ret
  exact ⟨rfl, (by repeat (first | exact Below.refl _ _ | assumption | refine Below.drew ?_ | refine below_drewN ?_ _ | refine Below.alloc ?_ (by (try simp) <;> omega) _ | refine Below.setCell ?_ (by (try simp) <;> omega) _ | refine Below.trans ?_ (Below.mono (by assumption) (by (try simp) <;> omega))))⟩

theorem two_pow_small : ∀ k : Nat, k ≤ 60 → (2 : Int) ^ k ≤ 1152921504606846976 := fun k hk => by
  have : (2 : Nat) ^ k ≤ 2 ^ 60 := Nat.pow_le_pow_right (by omega) hk
  have h2 : ((2 ^ k : Nat) : Int) ≤ ((2 ^ 60 : Nat) : Int) := by exact_mod_cast this
  simpa using h2

set_option maxHeartbeats 400000 in
theorem power_any (n : Nat) (w : World) (hn : n ≤ 60) :
    Calls Tryd.prog 90 #[.int .i64 n] w fun e w' => e = .returned (.int .i64 (2 ^ n)) ∧ w = w' := by
  go_enter Tryd.func90, Tryd.ntmps90
  go_wp2
  go_loop [3, 4] (fun out i => ∃ k : Nat, k ≤ n ∧ i = .int .i64 k ∧ out = .int .i64 (2 ^ k)) (fun _ i => n - (intOf i).toNat)
  case atStart => exact ⟨0, Nat.zero_le _, rfl, rfl⟩
  case round =>
    obtain ⟨k, hk, rfl, rfl⟩ := hrel
    have hp := two_pow_small k (by omega)
    have hp0 : (0 : Int) ≤ 2 ^ k := Int.pow_nonneg (by omega)
    by_cases hlt : k < n
    · generalize hx : (2 : Int) ^ k = x at *
      have HX := Lib.hid hx
      clear hx
      go_wp2
      go_round
      case rel => exact ⟨k + 1, by omega, by go_num, by rw [Int.pow_succ, HX.out, Int.mul_comm]⟩
      case measure => simp [intOf]; omega
    · have : k = n := by omega
      subst this
      go_wp2
      go_ret
      exact ⟨rfl, rfl⟩

/-- Is there a number from lo to hi of which f says yes? -/
def anyIn (lo hi : Int) (f : Int → Bool) : Bool := (List.range (hi + 1 - lo).toNat).any fun i => f (lo + i)
theorem anyIn_iff {lo hi : Int} {f : Int → Bool} : anyIn lo hi f = true ↔ ∃ n, lo ≤ n ∧ n ≤ hi ∧ f n = true := by
  simp only [anyIn, List.any_eq_true, List.mem_range]
  constructor
  · rintro ⟨i, hi, hf⟩
    exact ⟨lo + i, by omega, by omega, hf⟩
  · rintro ⟨n, h1, h2, hf⟩
    exact ⟨(n - lo).toNat, by omega, by rw [show lo + ((n - lo).toNat : Int) = n by omega]; exact hf⟩
theorem anyIn_false {lo hi : Int} {f : Int → Bool} : anyIn lo hi f = false ↔ ∀ n, lo ≤ n → n ≤ hi → f n = false := by
  rw [← Bool.not_eq_true, anyIn_iff]
  constructor
  · intro h n h1 h2
    cases hf : f n
    · rfl
    · exact absurd ⟨n, h1, h2, hf⟩ h
  · rintro h ⟨n, h1, h2, hf⟩
    rw [h n h1 h2] at hf
    cases hf

/-- Is there a truth of a run in which the shearers from 'first' on bring the sum within the span? n: how many they are. -/
def someB (p : PayD) (run who sheep : Int) : Nat → Int → Int → Bool
  | 0, _, sum => match p.runs[run.toNat]? with
    | some s => inB sum s.lo s.hi
    | none => false
  | n + 1, first, sum => anyIn (calledS p first run).lo (calledS p first run).hi fun k => (decide (first ≠ who) || decide (k = sheep)) && someB p run who sheep n (first + 1) (sum + k)

theorem calledS_ok (h : payB p = true) (who run : Int) : 0 ≤ (calledS p who run).lo ∧ (calledS p who run).lo ≤ (calledS p who run).hi ∧ (calledS p who run).hi ≤ 100 := by
  unfold calledS
  split
  · simp
  · split
    · rename_i c hc
      simp only [payB, Bool.and_eq_true, List.all_eq_true] at h
      have hcc := h.1.1.2 c (List.mem_of_getElem? hc)
      simp only [callB, Bool.and_eq_true] at hcc
      exact spanB_iff.1 hcc.2
    · simp
end
end Go.Proofs.YtlcolpnniipgbaaDoor
namespace Go.Proofs.YtlcolpnniipgbaaDoor
open Go.RowKit

section
variable {people rate bill : Int} {ra ca da pa : Option Addr} {rl rc cl cc dl dc pl pc : Nat} {p : PayD}

theorem payB_people (h : payB p = true) : 1 ≤ p.people ∧ p.people ≤ 4 ∧ 1 ≤ p.runs.length ∧ p.runs.length ≤ 4 := by
  simp only [payB, headB, Bool.and_eq_true, inB_iff] at h
  omega
theorem payB_run (h : payB p = true) {k : Nat} {s : Sp} (hs : p.runs[k]? = some s) : 0 ≤ s.lo ∧ s.lo ≤ s.hi ∧ s.hi ≤ 400 := by
  simp only [payB, Bool.and_eq_true, List.all_eq_true] at h
  exact spanB_iff.1 (h.1.1.1.2 s (List.mem_of_getElem? hs))

set_option maxHeartbeats 400000 in
theorem some_zero (run who sheep sum : Int) (w : World) (hr0 : 0 ≤ run) (hr1 : run < rl) (hP : PayIn w w.heap.size people ra rl ca cl rate bill da dl pa pl p) :
    Calls Tryd.prog 57 #[payV people ra rl rc ca cl cc rate bill da dl dc pa pl pc, .int .i64 run, .int .i64 people, .int .i64 sum, .int .i64 who, .int .i64 sheep] w fun e w' => e = .returned (.bool (someB p run who sheep 0 people sum)) ∧ Below w.heap.size w w' := by
  obtain ⟨r, rfl⟩ := Int.eq_ofNat_of_zero_le hr0
  obtain ⟨c, hc⟩ : ∃ c, p.runs[r]? = some c := ⟨p.runs[r]'(by have := hP.erl; omega), by simp⟩
  have HV : Hid (someB p r who sheep 0 people sum = inB sum c.lo c.hi) := by show _ = _; simp [someB, hc]
  obtain ⟨b, off, rfl, hbl, H0, H1⟩ := hP.hruns r c hc
  have hm := hP.mrl
  clear hc hP
  unfold payV
  go_enter Tryd.func57, Tryd.ntmps57
  go_wp2
  go_quiet ((go_at_call 70; exact Calls.quiet_of_same ((in_any _ _ _ _).mono fun _ _ h => ⟨h.1, h.2.symm⟩)))
  go_wp2
  go_ret
  exact ⟨ret_bool (by rw [HV.out]), (by repeat (first | exact Below.refl _ _ | assumption | refine Below.drew ?_ | refine below_drewN ?_ _ | refine Below.alloc ?_ (by (try simp) <;> omega) _ | refine Below.setCell ?_ (by (try simp) <;> omega) _ | refine Below.trans ?_ (Below.mono (by assumption) (by (try simp) <;> omega))))⟩

set_option maxHeartbeats 1600000 in
theorem some_any (hv : payB p = true) (run who sheep : Int) (hr0 : 0 ≤ run) (hr1 : run < rl) : ∀ (n : Nat) (first sum : Int) (w : World), 0 ≤ first → first + n = people → 0 ≤ sum → sum ≤ 100 * first → PayIn w w.heap.size people ra rl ca cl rate bill da dl pa pl p →
    Calls Tryd.prog 57 #[payV people ra rl rc ca cl cc rate bill da dl dc pa pl pc, .int .i64 run, .int .i64 first, .int .i64 sum, .int .i64 who, .int .i64 sheep] w fun e w' => e = .returned (.bool (someB p run who sheep n first sum)) ∧ Below w.heap.size w w' := by
  intro n
  induction n with
  | zero =>
    intro first sum w h0 h1 _ _ hP
    obtain rfl : first = people := by omega
    exact some_zero run who sheep sum w hr0 hr1 hP
  | succ n ih =>
    intro first sum w h0 h1 h2 h3 hP
    have HP := Lib.hid hP
    have HIH := Lib.hid ih
    have hpe : people ≤ 4 := by have := payB_people hv; have := hP.epeople; omega
    obtain ⟨s, HSC⟩ : ∃ s, Hid (calledS p first run = s) := ⟨_, rfl⟩
    have hs := calledS_ok hv first run
    rw [HSC.out] at hs
    obtain ⟨hs0, hs1, hs2⟩ := hs
    have HV : Hid (someB p run who sheep (n + 1) first sum = anyIn s.lo s.hi fun k => (decide (first ≠ who) || decide (k = sheep)) && someB p run who sheep n (first + 1) (sum + k)) := by
      show _ = _; rw [someB, HSC.out]
    have HV2 := Lib.hid hv
    have hne : (first == people) = false := by simp; omega
    have hlt : first < people := by omega
    have H1 := Lib.hid h1
    clear ih hP h1 hv
    unfold payV
    go_enter Tryd.func57, Tryd.ntmps57
    go_wp2_with (go_at_call 84; refine (called_any (p := p) _ _ _ (by exact HP.out.grow (by repeat (first | exact Below.refl _ _ | assumption | refine Below.drew ?_ | refine below_drewN ?_ _ | refine Below.alloc ?_ (by (try simp) <;> omega) _ | refine Below.setCell ?_ (by (try simp) <;> omega) _ | refine Below.trans ?_ (Below.mono (by assumption) (by (try simp) <;> omega)))))).mono ?_; rw [HSC.out]; unfold spV; rintro e w1 ⟨rfl, hbw1⟩; obtain ⟨hcw1, hfw1⟩ := bcell hbw1; have hzw1 := hbw1.size; (try simp at hzw1))
    have hz' : w.heap.size < w1.heap.size := by omega
    have HB1 := Lib.hid hbw1
    clear hbw1
    go_loopw [14] (fun i wr => ∃ m : Int, s.lo ≤ m ∧ m ≤ s.hi + 1 ∧ i = .int .i64 m ∧ Hid (∀ j, s.lo ≤ j → j < m → ((decide (first ≠ who) || decide (j = sheep)) && someB p run who sheep n (first + 1) (sum + j)) = false) ∧
      Below (w1.heap.size + 1) (w1.alloc (Obj.cells #[Value.int IntKind.i64 s.lo, Value.int IntKind.i64 s.hi] 34)) wr) (fun i _ => (s.hi + 1 - intOf i).toNat)
    case atStart => exact ⟨s.lo, by omega, by omega, rfl, fun j h1 h2 => by omega, Below.refl _ _⟩
    case round =>
      obtain ⟨m, hm1, hm2, rfl, HF, hb⟩ := hrel
      have hA : ∀ o, wr.cell? ⟨w.heap.size, o, none⟩ = _ := fun o => hb.cell (p := ⟨w.heap.size, o, none⟩) (by show w.heap.size < _; omega)
      have hS : ∀ o, wr.cell? ⟨w1.heap.size, o, none⟩ = _ := fun o => hb.cell (p := ⟨w1.heap.size, o, none⟩) (by show w1.heap.size < _; omega)
      have HB2 := Lib.hid hb
      have hsz : w1.heap.size + 1 ≤ wr.heap.size := by have := hb.size; simpa using this
      clear hb
      have HBW : Hid (Below w.heap.size w wr) := (((Below.refl w.heap.size w).alloc (by simp) _).trans (HB1.out.mono (by simp))).alloc (by omega) _ |>.trans (HB2.out.mono (by omega))
      by_cases hle : m ≤ s.hi
      · by_cases hg : first = who ∧ m ≠ sheep
        · have hg1 : (first != who) = false := by simp [hg.1]
          have hg2 : (m == sheep) = false := by simp [hg.2]
          have HG : Hid (((decide (first ≠ who) || decide (m = sheep)) && someB p run who sheep n (first + 1) (sum + m)) = false) := by show _ = _; simp [hg.1, hg.2]
          clear hg
          go_wp2
          go_roundw
          case rel => exact ⟨m + 1, by omega, by omega, rfl, fun j h1 h2 => by (by_cases hj : j = m); (subst hj; exact HG.out); exact HF.out j h1 (by omega), HB2.out⟩
          case measure => simp [intOf]; omega
        · have HG0 : Hid ((decide (first ≠ who) || decide (m = sheep)) = true) := by
            show _ = _
            by_cases h : first = who
            · have : m = sheep := by omega
              simp [this]
            · simp [h]
          have hgg : (first != who) = true ∨ ((first != who) = false ∧ (m == sheep) = true) := by
            by_cases h : first = who
            · exact .inr ⟨by simp [h], by simp; omega⟩
            · exact .inl (by simp [h])
          clear hg
          cases hb : someB p run who sheep n (first + 1) (sum + m)
          · have HBV := Lib.hid hb
            clear hb
            rcases hgg with hg1 | ⟨hg1, hg2⟩
            all_goals
              go_wp2_with fail
              refine (HIH.out (first + 1) (sum + m) _ (by omega) (by have := H1.out; omega) (by omega) (by omega) (by exact HP.out.grow HBW.out)).mono ?_
              rw [HBV.out]
              rintro e w2 ⟨rfl, hbw2⟩; obtain ⟨hcw2, hfw2⟩ := bcell hbw2; have hzw2 := hbw2.size; (try simp at hzw2)
              go_wp2
              go_roundw
              case rel => exact ⟨m + 1, by omega, by omega, rfl, fun j h1 h2 => by (by_cases hj : j = m); (subst hj; rw [HBV.out]; simp); exact HF.out j h1 (by omega), HB2.out.trans (hbw2.mono (by omega))⟩
              case measure => simp [intOf]; omega
          · have HBV := Lib.hid hb
            clear hb
            rcases hgg with hg1 | ⟨hg1, hg2⟩
            all_goals
              go_wp2_with (go_at_call 57; refine (HIH.out (first + 1) (sum + m) _ (by omega) (by have := H1.out; omega) (by omega) (by omega) (by exact HP.out.grow HBW.out)).mono ?_; rw [HBV.out]; rintro e w2 ⟨rfl, hbw2⟩; obtain ⟨hcw2, hfw2⟩ := bcell hbw2; have hzw2 := hbw2.size; (try simp at hzw2))
              go_ret
              exact ⟨ret_bool (by rw [HV.out]; exact (anyIn_iff.2 ⟨m, hm1, hle, by rw [HBV.out, HG0.out]; rfl⟩).symm), HBW.out.trans (hbw2.mono (by have := HBW.out.size; omega))⟩
      · go_wp2
        go_ret
        exact ⟨ret_bool (by rw [HV.out]; exact (anyIn_false.2 fun j h1 h2 => HF.out j h1 (by omega)).symm), HBW.out⟩
end
end Go.Proofs.YtlcolpnniipgbaaDoor
namespace Go.Proofs.YtlcolpnniipgbaaDoor
open Go.RowKit

section
variable {people rate bill : Int} {ra ca da pa : Option Addr} {rl rc cl cc dl dc pl pc : Nat} {p : PayD}
variable {w : World} {B : Nat}

theorem payB_no_head (h : headB p = false) : payB p = false := by simp [payB, h]
theorem payB_no_run {k : Nat} {s : Sp} (hs : p.runs[k]? = some s) (h : spanB s 400 = false) : payB p = false := by
  have : p.runs.all (spanB · 400) = false := by
    rw [List.all_eq_false]
    exact ⟨s, List.mem_of_getElem? hs, by simp [h]⟩
  simp [payB, this]
theorem payB_no_call {k : Nat} {s : Ca} (hs : p.calls[k]? = some s) (h : callB p s = false) : payB p = false := by
  have : p.calls.all (callB p) = false := by
    rw [List.all_eq_false]
    exact ⟨s, List.mem_of_getElem? hs, by simp [h]⟩
  simp [payB, this]
theorem payB_no_day {k : Nat} {s : Int} (hs : p.days[k]? = some s) (h : inB s 0 10 = false) : payB p = false := by
  have : p.days.all (inB · 0 10) = false := by
    rw [List.all_eq_false]
    exact ⟨s, List.mem_of_getElem? hs, by simp [h]⟩
  simp [payB, this]
theorem payB_no_paid {k : Nat} {s : Pd} (hs : p.paid[k]? = some s) (h : paidB p s = false) : payB p = false := by
  have : p.paid.all (paidB p) = false := by
    rw [List.all_eq_false]
    exact ⟨s, List.mem_of_getElem? hs, by simp [h]⟩
  simp [payB, this]
theorem all_of_upto {α : Type} {l : List α} {f : α → Bool} (h : ∀ (j : Nat) x, l[j]? = some x → f x = true) : l.all f = true := by
  rw [List.all_eq_true]
  intro x hx
  obtain ⟨j, hj⟩ := List.mem_iff_getElem?.1 hx
  exact h j x hj

theorem headB_eq (hP : PayIn w B people ra rl ca cl rate bill da dl pa pl p) : headB p = (inB people 1 4 && inB rl 1 4 && decide (cl ≤ 12) && inB rate 0 1000 && inB bill 0 10000 && ((dl : Int) == people) && decide (pl ≤ 8)) := by
  rw [headB, hP.epeople, hP.erl, hP.ecl, hP.erate, hP.ebill, hP.edl, hP.epl]; simp [Bool.beq_eq_decide_eq]

set_option maxHeartbeats 1600000 in
theorem Pay_no_head (w : World) (hP : PayIn w w.heap.size people ra rl ca cl rate bill da dl pa pl p) (hh : headB p = false) :
    Calls Tryd.prog 34 #[payV people ra rl rc ca cl cc rate bill da dl dc pa pl pc] w fun e w' => e = .returned (.bool (payB p)) ∧ Below w.heap.size w w' := by
  have HV : Hid (payB p = false) := payB_no_head hh
  have HH := Lib.hid ((headB_eq hP).symm.trans hh)
  clear hP hh
  unfold payV
  go_enter Tryd.func34, Tryd.ntmps34
  go_wp2_with (go_at_call 70; refine (in_any _ _ _ _).mono ?_; rintro e w' ⟨rfl, rfl⟩)
  any_goals (go_ret; exact ⟨ret_bool (by rw [HV.out]), (by repeat (first | exact Below.refl _ _ | assumption | refine Below.drew ?_ | refine below_drewN ?_ _ | refine Below.alloc ?_ (by (try simp) <;> omega) _ | refine Below.setCell ?_ (by (try simp) <;> omega) _ | refine Below.trans ?_ (Below.mono (by assumption) (by (try simp) <;> omega))))⟩)
  all_goals
    exfalso
    have h := HH.out
    simp [*] at h
    omega

set_option maxHeartbeats 1600000 in
theorem Pay_head (w : World) (hP : PayIn w w.heap.size people ra rl ca cl rate bill da dl pa pl p) (hh : headB p = true) :
    Calls Tryd.prog 34 #[payV people ra rl rc ca cl cc rate bill da dl dc pa pl pc] w fun e w' => e = .returned (.bool (payB p)) ∧ Below w.heap.size w w' := by
  have HP := Lib.hid hP
  have HH := Lib.hid hh
  have h := (headB_eq hP).symm.trans hh
  simp only [Bool.and_eq_true] at h
  obtain ⟨⟨⟨⟨⟨⟨g1, g2⟩, g3⟩, g4⟩, g5⟩, g6⟩, g7⟩ := h
  have i1 := inB_iff.1 g1
  have g3' : decide ((12 : Int) < cl) = false := by simp at g3 ⊢; omega
  have g6' : ((dl : Int) != people) = false := by simp at g6 ⊢; omega
  have g7' : decide ((8 : Int) < pl) = false := by simp at g7 ⊢; omega
  have n1 : rl ≤ 4 := by have := inB_iff.1 g2; omega
  have n2 : cl ≤ 12 := by simpa using g3
  have n3 : dl ≤ 4 := by simp at g6; omega
  have n4 : pl ≤ 8 := by simpa using g7
  obtain ⟨i2, i3⟩ := i1
  have HE1 := Lib.hid hP.epeople
  have HE2 := Lib.hid hP.erl
  have HE3 := Lib.hid hP.ecl
  have HE4 := Lib.hid hP.edl
  have HE5 := Lib.hid hP.epl
  have m1 := hP.mrl
  clear hP hh g3 g6 g7
  unfold payV
  go_enter Tryd.func34, Tryd.ntmps34
  go_wp2_with (go_at_call 70; refine (in_any _ _ _ _).mono ?_; rintro e w' ⟨rfl, rfl⟩)
  clear g1 g2 g3' g4 g5 g6' g7'
  go_loopw [3] (fun i wr => ∃ k : Nat, k ≤ rl ∧ i = .int .i64 k ∧ Hid (∀ (j : Nat) x, j < k → p.runs[j]? = some x → spanB x 400 = true) ∧ Below (w.heap.size + 1) (w.alloc (Obj.cells #[Value.int IntKind.i64 people, Value.slice ra rl rc, Value.slice ca cl cc, Value.int IntKind.i64 rate, Value.int IntKind.i64 bill, Value.slice da dl dc, Value.slice pa pl pc] 27)) wr) (fun i _ => rl - (intOf i).toNat)
  case atStart => exact ⟨0, Nat.zero_le _, rfl, fun j x h => by omega, Below.refl _ _⟩
  case round =>
    obtain ⟨k, hk, rfl, HF, hb⟩ := hrel
    have hA : ∀ o, wr.cell? ⟨w.heap.size, o, none⟩ = _ := fun o => hb.cell (p := ⟨w.heap.size, o, none⟩) (by show w.heap.size < _; omega)
    have HB := Lib.hid hb
    have hsz : w.heap.size + 1 ≤ wr.heap.size := by have := hb.size; simpa using this
    clear hb
    have HBW : Hid (Below w.heap.size w wr) := ((Below.refl w.heap.size w).alloc (by simp) _).trans (HB.out.mono (by simp))
    by_cases hlt : k < rl
    · obtain ⟨c, hc⟩ : ∃ c, p.runs[k]? = some c := ⟨p.runs[k]'(by have := HE2.out; omega), by simp⟩
      have HC := Lib.hid hc
      obtain ⟨b, off, rfl, hbl, H0, H1⟩ := (HP.out.grow HBW.out).hruns k c hc
      clear hc
      cases hv : spanB c 400
      · have HV := Lib.hid hv
        clear hv
        go_wp2_with fail
        refine (span_any c 400 _).mono ?_
        rw [HV.out]
        rintro e w1 ⟨rfl, hbw1⟩; obtain ⟨hcw1, hfw1⟩ := bcell hbw1; have hzw1 := hbw1.size; (try simp at hzw1)
        go_wp2
        go_ret
        exact ⟨ret_bool (by rw [payB_no_run HC.out HV.out]), HBW.out.trans (hbw1.mono (by omega))⟩
      · have HV := Lib.hid hv
        clear hv
        go_wp2_with fail
        refine (span_any c 400 _).mono ?_
        rw [HV.out]
        rintro e w1 ⟨rfl, hbw1⟩; obtain ⟨hcw1, hfw1⟩ := bcell hbw1; have hzw1 := hbw1.size; (try simp at hzw1)
        go_wp2
        go_roundw
        case rel => exact ⟨k + 1, by omega, by go_num, fun j x h1 h2 => by (by_cases hj : j = k); (subst hj; obtain rfl := Option.some.inj (HC.out.symm.trans h2); exact HV.out); exact HF.out j x (by omega) h2, HB.out.trans (hbw1.mono (by omega))⟩
        case measure => simp [intOf]; omega
    · have HF1 : Hid (p.runs.all (spanB · 400) = true) := all_of_upto fun j x hj => HF.out j x (by have := (List.getElem?_eq_some_iff.1 hj).1; have := HE2.out; omega) hj
      obtain rfl : rl = k := by omega
      go_wp2
      clear HF hlt hk hsz hA HBW
      go_loopw [4, 5] (fun i _ wr => ∃ k : Nat, k ≤ cl ∧ i = .int .i64 k ∧ Hid (∀ (j : Nat) x, j < k → p.calls[j]? = some x → callB p x = true) ∧ Below (w.heap.size + 1) (w.alloc (Obj.cells #[Value.int IntKind.i64 people, Value.slice ra rl rc, Value.slice ca cl cc, Value.int IntKind.i64 rate, Value.int IntKind.i64 bill, Value.slice da dl dc, Value.slice pa pl pc] 27)) wr) (fun i _ _ => cl - (intOf i).toNat)
      case atStart => exact ⟨0, Nat.zero_le _, rfl, fun j x h => by omega, HB.out⟩
      case round =>
        clear HB
        obtain ⟨k, hk, rfl, HF, hb⟩ := hrel
        have hA : ∀ o, wr.cell? ⟨w.heap.size, o, none⟩ = _ := fun o => hb.cell (p := ⟨w.heap.size, o, none⟩) (by show w.heap.size < _; omega)
        have HB := Lib.hid hb
        have hsz : w.heap.size + 1 ≤ wr.heap.size := by have := hb.size; simpa using this
        have q0 : w.heap.size < wr.heap.size := by omega
        have q1 : w.heap.size < wr.heap.size + 1 := by omega
        clear hb
        have HBW : Hid (Below w.heap.size w wr) := ((Below.refl w.heap.size w).alloc (by simp) _).trans (HB.out.mono (by simp))
        by_cases hlt : k < cl
        · obtain ⟨c, hc⟩ : ∃ c, p.calls[k]? = some c := ⟨p.calls[k]'(by have := HE3.out; omega), by simp⟩
          have HC := Lib.hid hc
          obtain ⟨b, off, rfl, hbl, H0, H1, H2, H3, H4⟩ := (HP.out.grow HBW.out).hcalls k c hc
          clear hc
          cases hv1 : whoB p c.who
          · have HV : Hid (callB p c = false) := by show _ = _; simp [callB, hv1]
            have HV1 := Lib.hid hv1
            clear hv1
            go_wp2_with fail
            refine (Who_any (p := p) c.who _ HE1.out i2 i3).mono ?_
            rw [HV1.out]
            rintro e w1 ⟨rfl, hbw1⟩; obtain ⟨hcw1, hfw1⟩ := bcell hbw1; have hzw1 := hbw1.size; (try simp at hzw1)
            go_wp2
            go_ret
            exact ⟨ret_bool (by rw [payB_no_call HC.out HV.out]), (HBW.out.alloc (by omega) _).trans (hbw1.mono (by simp; omega))⟩
          cases hv2 : runB p c.run
          · have HV : Hid (callB p c = false) := by show _ = _; simp [callB, hv2]
            have HV1 := Lib.hid hv1
            have HV2 := Lib.hid hv2
            clear hv1 hv2
            go_wp2_with fail
            refine (Who_any (p := p) c.who _ HE1.out i2 i3).mono ?_
            rw [HV1.out]
            rintro e w1 ⟨rfl, hbw1⟩; obtain ⟨hcw1, hfw1⟩ := bcell hbw1; have hzw1 := hbw1.size; (try simp at hzw1)
            have q2 : w.heap.size < w1.heap.size := by omega
            have q3 : wr.heap.size < w1.heap.size := by omega
            go_wp2_with fail
            refine (Run_any (p := p) c.run _ HE2.out m1).mono ?_
            rw [HV2.out]
            rintro e w2 ⟨rfl, hbw2⟩; obtain ⟨hcw2, hfw2⟩ := bcell hbw2; have hzw2 := hbw2.size; (try simp at hzw2)
            go_wp2
            go_ret
            exact ⟨ret_bool (by rw [payB_no_call HC.out HV.out]), ((HBW.out.alloc (by omega) _).trans (hbw1.mono (by simp; omega))).trans (hbw2.mono (by omega))⟩
          have HV : Hid (callB p c = spanB c.sh 100) := by show _ = _; rw [callB, hv1, hv2]; rfl
          cases hv3 : spanB c.sh 100
          all_goals
            have HV1 := Lib.hid hv1
            have HV2 := Lib.hid hv2
            have HV3 := Lib.hid hv3
            clear hv1 hv2 hv3
            go_wp2_with fail
            refine (Who_any (p := p) c.who _ HE1.out i2 i3).mono ?_
            rw [HV1.out]
            rintro e w1 ⟨rfl, hbw1⟩; obtain ⟨hcw1, hfw1⟩ := bcell hbw1; have hzw1 := hbw1.size; (try simp at hzw1)
            have q2 : w.heap.size < w1.heap.size := by omega
            have q3 : wr.heap.size < w1.heap.size := by omega
            go_wp2_with fail
            refine (Run_any (p := p) c.run _ HE2.out m1).mono ?_
            rw [HV2.out]
            rintro e w2 ⟨rfl, hbw2⟩; obtain ⟨hcw2, hfw2⟩ := bcell hbw2; have hzw2 := hbw2.size; (try simp at hzw2)
            have q4 : w.heap.size < w2.heap.size := by omega
            have q5 : wr.heap.size < w2.heap.size := by omega
            go_wp2_with fail
            refine (span_any c.sh 100 _).mono ?_
            rw [HV3.out]
            rintro e w3 ⟨rfl, hbw3⟩; obtain ⟨hcw3, hfw3⟩ := bcell hbw3; have hzw3 := hbw3.size; (try simp at hzw3)
            go_wp2
          · go_ret
            exact ⟨ret_bool (by rw [payB_no_call HC.out (HV.out.trans HV3.out)]), (((HBW.out.alloc (by omega) _).trans (hbw1.mono (by simp; omega))).trans (hbw2.mono (by omega))).trans (hbw3.mono (by omega))⟩
          · go_roundw
            case rel => exact ⟨k + 1, by omega, by go_num, fun j x h1 h2 => by (by_cases hj : j = k); (subst hj; obtain rfl := Option.some.inj (HC.out.symm.trans h2); exact HV.out.trans HV3.out); exact HF.out j x (by omega) h2, (((HB.out.alloc (by omega) _).trans (hbw1.mono (by simp; omega))).trans (hbw2.mono (by omega))).trans (hbw3.mono (by omega))⟩
            case measure => simp [intOf]; omega
        · have HF2 : Hid (p.calls.all (callB p) = true) := all_of_upto fun j x hj => HF.out j x (by have := (List.getElem?_eq_some_iff.1 hj).1; have := HE3.out; omega) hj
          obtain rfl : cl = k := by omega
          go_wp2
          clear HF hlt hk hsz hA HBW q0 q1
          go_loopw [6] (fun i wr => ∃ k : Nat, k ≤ dl ∧ i = .int .i64 k ∧ Hid (∀ (j : Nat) x, j < k → p.days[j]? = some x → inB x 0 10 = true) ∧ Below (w.heap.size + 1) (w.alloc (Obj.cells #[Value.int IntKind.i64 people, Value.slice ra rl rc, Value.slice ca cl cc, Value.int IntKind.i64 rate, Value.int IntKind.i64 bill, Value.slice da dl dc, Value.slice pa pl pc] 27)) wr) (fun i _ => dl - (intOf i).toNat)
          case atStart => exact ⟨0, Nat.zero_le _, rfl, fun j x h => by omega, HB.out⟩
          case round =>
            clear HB
            obtain ⟨k, hk, rfl, HF, hb⟩ := hrel
            have hA : ∀ o, wr.cell? ⟨w.heap.size, o, none⟩ = _ := fun o => hb.cell (p := ⟨w.heap.size, o, none⟩) (by show w.heap.size < _; omega)
            have HB := Lib.hid hb
            have hsz : w.heap.size + 1 ≤ wr.heap.size := by have := hb.size; simpa using this
            clear hb
            have HBW : Hid (Below w.heap.size w wr) := ((Below.refl w.heap.size w).alloc (by simp) _).trans (HB.out.mono (by simp))
            by_cases hlt : k < dl
            · obtain ⟨c, hc⟩ : ∃ c, p.days[k]? = some c := ⟨p.days[k]'(by have := HE4.out; omega), by simp⟩
              have HC := Lib.hid hc
              obtain ⟨b, off, rfl, hbl, H0⟩ := (HP.out.grow HBW.out).hdays k c hc
              clear hc
              cases hv : inB c 0 10
              all_goals
                have HV := Lib.hid hv
                clear hv
                go_wp2_with fail
                refine (in_any c 0 10 _).mono ?_
                rw [HV.out]
                rintro e w' ⟨rfl, rfl⟩
                go_wp2
              · go_ret
                exact ⟨ret_bool (by rw [payB_no_day HC.out HV.out]), HBW.out⟩
              · go_roundw
                case rel => exact ⟨k + 1, by omega, by go_num, fun j x h1 h2 => by (by_cases hj : j = k); (subst hj; obtain rfl := Option.some.inj (HC.out.symm.trans h2); exact HV.out); exact HF.out j x (by omega) h2, HB.out⟩
                case measure => simp [intOf]; omega
            · have HF3 : Hid (p.days.all (inB · 0 10) = true) := all_of_upto fun j x hj => HF.out j x (by have := (List.getElem?_eq_some_iff.1 hj).1; have := HE4.out; omega) hj
              obtain rfl : dl = k := by omega
              go_wp2
              clear HF hlt hk hsz hA HBW
              go_loopw [7, 8] (fun i _ wr => ∃ k : Nat, k ≤ pl ∧ i = .int .i64 k ∧ Hid (∀ (j : Nat) x, j < k → p.paid[j]? = some x → paidB p x = true) ∧ Below (w.heap.size + 1) (w.alloc (Obj.cells #[Value.int IntKind.i64 people, Value.slice ra rl rc, Value.slice ca cl cc, Value.int IntKind.i64 rate, Value.int IntKind.i64 bill, Value.slice da dl dc, Value.slice pa pl pc] 27)) wr) (fun i _ _ => pl - (intOf i).toNat)
              case atStart => exact ⟨0, Nat.zero_le _, rfl, fun j x h => by omega, HB.out⟩
              case round =>
                clear HB
                obtain ⟨k, hk, rfl, HF, hb⟩ := hrel
                have hA : ∀ o, wr.cell? ⟨w.heap.size, o, none⟩ = _ := fun o => hb.cell (p := ⟨w.heap.size, o, none⟩) (by show w.heap.size < _; omega)
                have HB := Lib.hid hb
                have hsz : w.heap.size + 1 ≤ wr.heap.size := by have := hb.size; simpa using this
                have q0 : w.heap.size < wr.heap.size := by omega
                have q1 : w.heap.size < wr.heap.size + 1 := by omega
                clear hb
                have HBW : Hid (Below w.heap.size w wr) := ((Below.refl w.heap.size w).alloc (by simp) _).trans (HB.out.mono (by simp))
                by_cases hlt : k < pl
                · obtain ⟨c, hc⟩ : ∃ c, p.paid[k]? = some c := ⟨p.paid[k]'(by have := HE5.out; omega), by simp⟩
                  have HC := Lib.hid hc
                  obtain ⟨b, off, rfl, hbl, H0, H1, H2⟩ := (HP.out.grow HBW.out).hpaid k c hc
                  clear hc
                  cases hv1 : whoB p c.who
                  · have HV : Hid (paidB p c = false) := by show _ = _; simp [paidB, hv1]
                    have HV1 := Lib.hid hv1
                    clear hv1
                    go_wp2_with fail
                    refine (Who_any (p := p) c.who _ HE1.out i2 i3).mono ?_
                    rw [HV1.out]
                    rintro e w1 ⟨rfl, hbw1⟩; obtain ⟨hcw1, hfw1⟩ := bcell hbw1; have hzw1 := hbw1.size; (try simp at hzw1)
                    go_wp2
                    go_ret
                    exact ⟨ret_bool (by rw [payB_no_paid HC.out HV.out]), (HBW.out.alloc (by omega) _).trans (hbw1.mono (by simp; omega))⟩
                  cases hv2 : runB p c.run
                  · have HV : Hid (paidB p c = false) := by show _ = _; simp [paidB, hv2]
                    have HV1 := Lib.hid hv1
                    have HV2 := Lib.hid hv2
                    clear hv1 hv2
                    go_wp2_with fail
                    refine (Who_any (p := p) c.who _ HE1.out i2 i3).mono ?_
                    rw [HV1.out]
                    rintro e w1 ⟨rfl, hbw1⟩; obtain ⟨hcw1, hfw1⟩ := bcell hbw1; have hzw1 := hbw1.size; (try simp at hzw1)
                    have q2 : w.heap.size < w1.heap.size := by omega
                    have q3 : wr.heap.size < w1.heap.size := by omega
                    go_wp2_with fail
                    refine (Run_any (p := p) c.run _ HE2.out m1).mono ?_
                    rw [HV2.out]
                    rintro e w2 ⟨rfl, hbw2⟩; obtain ⟨hcw2, hfw2⟩ := bcell hbw2; have hzw2 := hbw2.size; (try simp at hzw2)
                    go_wp2
                    go_ret
                    exact ⟨ret_bool (by rw [payB_no_paid HC.out HV.out]), ((HBW.out.alloc (by omega) _).trans (hbw1.mono (by simp; omega))).trans (hbw2.mono (by omega))⟩
                  have HV : Hid (paidB p c = inB c.pence 0 10000) := by show _ = _; rw [paidB, hv1, hv2]; rfl
                  cases hv3 : inB c.pence 0 10000
                  all_goals
                    have HV1 := Lib.hid hv1
                    have HV2 := Lib.hid hv2
                    have HV3 := Lib.hid hv3
                    clear hv1 hv2 hv3
                    go_wp2_with fail
                    refine (Who_any (p := p) c.who _ HE1.out i2 i3).mono ?_
                    rw [HV1.out]
                    rintro e w1 ⟨rfl, hbw1⟩; obtain ⟨hcw1, hfw1⟩ := bcell hbw1; have hzw1 := hbw1.size; (try simp at hzw1)
                    have q2 : w.heap.size < w1.heap.size := by omega
                    have q3 : wr.heap.size < w1.heap.size := by omega
                    go_wp2_with fail
                    refine (Run_any (p := p) c.run _ HE2.out m1).mono ?_
                    rw [HV2.out]
                    rintro e w2 ⟨rfl, hbw2⟩; obtain ⟨hcw2, hfw2⟩ := bcell hbw2; have hzw2 := hbw2.size; (try simp at hzw2)
                    have q4 : w.heap.size < w2.heap.size := by omega
                    have q5 : wr.heap.size < w2.heap.size := by omega
                    go_wp2_with fail
                    refine (in_any c.pence 0 10000 _).mono ?_
                    rw [HV3.out]
                    rintro e w' ⟨rfl, rfl⟩
                    go_wp2
                  · go_ret
                    exact ⟨ret_bool (by rw [payB_no_paid HC.out (HV.out.trans HV3.out)]), ((HBW.out.alloc (by omega) _).trans (hbw1.mono (by simp; omega))).trans (hbw2.mono (by omega))⟩
                  · go_roundw
                    case rel => exact ⟨k + 1, by omega, by go_num, fun j x h1 h2 => by (by_cases hj : j = k); (subst hj; obtain rfl := Option.some.inj (HC.out.symm.trans h2); exact HV.out.trans HV3.out); exact HF.out j x (by omega) h2, ((HB.out.alloc (by omega) _).trans (hbw1.mono (by simp; omega))).trans (hbw2.mono (by omega))⟩
                    case measure => simp [intOf]; omega
                · have HF4 : Hid (p.paid.all (paidB p) = true) := all_of_upto fun j x hj => HF.out j x (by have := (List.getElem?_eq_some_iff.1 hj).1; have := HE5.out; omega) hj
                  go_wp2
                  go_ret
                  exact ⟨ret_bool (by rw [payB, HH.out, HF1.out, HF2.out, HF3.out, HF4.out]; rfl), HBW.out⟩

theorem Pay_any (w : World) (hP : PayIn w w.heap.size people ra rl ca cl rate bill da dl pa pl p) :
    Calls Tryd.prog 34 #[payV people ra rl rc ca cl cc rate bill da dl dc pa pl pc] w fun e w' => e = .returned (.bool (payB p)) ∧ Below w.heap.size w w' := by
  cases hh : headB p
  · exact Pay_no_head w hP hh
  · exact Pay_head w hP hh
end
end Go.Proofs.YtlcolpnniipgbaaDoor
namespace Go.Proofs.YtlcolpnniipgbaaDoor
open Go.RowKit

section
variable {people rate bill : Int} {ra ca da pa : Option Addr} {rl rc cl cc dl dc pl pc : Nat} {p : PayD}

/-- Is there a truth of run r? -/
def okRun (p : PayD) (r : Nat) : Bool := someB p r (-1) 0 p.people.toNat 0 0
def wrongF (p : PayD) : Nat → Int
  | 0 => 0
  | r + 1 => wrongF p r + (if okRun p r then 0 else 2 ^ r)
def wrongI (p : PayD) : Int := wrongF p p.runs.length
theorem wrongF_bd (p : PayD) : ∀ r : Nat, 0 ≤ wrongF p r ∧ wrongF p r < 2 ^ r := by
  intro r
  induction r with
  | zero => simp [wrongF]
  | succ r ih =>
    have hp : (0 : Int) ≤ 2 ^ r := Int.pow_nonneg (by omega)
    rw [wrongF, Int.pow_succ]
    split <;> omega

set_option maxHeartbeats 1600000 in
theorem wrong_any (hv : payB p = true) (w : World) (hP : PayIn w w.heap.size people ra rl ca cl rate bill da dl pa pl p) :
    Calls Tryd.prog 69 #[payV people ra rl rc ca cl cc rate bill da dl dc pa pl pc] w fun e w' => e = .returned (.int .i64 (wrongI p)) ∧ Below w.heap.size w w' := by
  have HP := Lib.hid hP
  have HV := Lib.hid hv
  have HE2 := Lib.hid hP.erl
  have hb := payB_people hv
  have n1 : rl ≤ 4 := by have := hP.erl; omega
  have hpe := hP.epeople
  have i2 : 1 ≤ people := by omega
  have i3 : people ≤ 4 := by omega
  have HPE := Lib.hid hP.epeople
  clear hP hv hb hpe
  unfold payV
  go_enter Tryd.func69, Tryd.ntmps69
  go_wp2
  go_loopw [3, 4] (fun out i wr => ∃ k : Nat, k ≤ rl ∧ i = .int .i64 k ∧ out = .int .i64 (wrongF p k) ∧ Below (w.heap.size + 1) (w.alloc (Obj.cells #[Value.int IntKind.i64 people, Value.slice ra rl rc, Value.slice ca cl cc, Value.int IntKind.i64 rate, Value.int IntKind.i64 bill, Value.slice da dl dc, Value.slice pa pl pc] 27)) wr) (fun _ i _ => rl - (intOf i).toNat)
  case atStart => exact ⟨0, Nat.zero_le _, rfl, rfl, Below.refl _ _⟩
  case round =>
    obtain ⟨k, hk, rfl, rfl, hb⟩ := hrel
    have hA : ∀ o, wr.cell? ⟨w.heap.size, o, none⟩ = _ := fun o => hb.cell (p := ⟨w.heap.size, o, none⟩) (by show w.heap.size < _; omega)
    have HB := Lib.hid hb
    have hsz : w.heap.size + 1 ≤ wr.heap.size := by have := hb.size; simpa using this
    clear hb
    have HBW : Hid (Below w.heap.size w wr) := ((Below.refl w.heap.size w).alloc (by simp) _).trans (HB.out.mono (by simp))
    by_cases hlt : k < rl
    · have HW : Hid (wrongF p (k + 1) = wrongF p k + (if okRun p k then 0 else 2 ^ k)) := rfl
      have HO : Hid (okRun p k = someB p k (-1) 0 people.toNat 0 0) := by show _ = _; rw [okRun, HPE.out]
      obtain ⟨b0, b1⟩ := wrongF_bd p k
      have b2 := two_pow_small k (by omega)
      have b4 : (0 : Int) ≤ 2 ^ k := Int.pow_nonneg (by omega)
      have b3 : wrongF p k ≤ 1152921504606846976 := by omega
      clear b1
      generalize hx : wrongF p k = x at *
      have HX := Lib.hid hx
      clear hx
      cases hv : okRun p k
      all_goals
        have HV1 := Lib.hid hv
        clear hv
        go_wp2_with fail
        refine (some_any (p := p) HV.out k (-1) 0 (by omega) (by omega) people.toNat 0 0 _ (by omega) (by omega) (by omega) (by omega) (by exact HP.out.grow HBW.out)).mono ?_
        rw [← HO.out, HV1.out]
        rintro e w1 ⟨rfl, hbw1⟩; obtain ⟨hcw1, hfw1⟩ := bcell hbw1; have hzw1 := hbw1.size; (try simp at hzw1)
        have hlen : w.heap.size < w1.heap.size := by omega
      · go_wp2_with fail
        refine (power_any k _ (by omega)).mono ?_
        generalize hy : (2 : Int) ^ k = y at *
        clear hy
        rintro e w' ⟨rfl, rfl⟩
        go_wp2
        go_roundw
        case rel => exact ⟨k + 1, by omega, by go_num, by rw [HW.out, HV1.out]; simp, HB.out.trans (hbw1.mono (by omega))⟩
        case measure => simp [intOf]; omega
      · go_wp2
        go_roundw
        case rel => exact ⟨k + 1, by omega, by go_num, by rw [HW.out, HV1.out]; simp, HB.out.trans (hbw1.mono (by omega))⟩
        case measure => simp [intOf]; omega
    · obtain rfl : rl = k := by omega
      go_wp2
      go_ret
      exact ⟨ret_int (by rw [wrongI, HE2.out]), HBW.out⟩

def checkE (p : PayD) (valid truth : Bool) : Int := if payB p then (if valid then (if truth && wrongI p != 0 then 10 else 0) else 2) else 1

set_option maxHeartbeats 1600000 in
theorem check_any (valid truth : Bool) (w : World) (hP : PayIn w w.heap.size people ra rl ca cl rate bill da dl pa pl p) :
    Calls Tryd.prog 47 #[payV people ra rl rc ca cl cc rate bill da dl dc pa pl pc, .bool valid, .bool truth] w fun e w' => e = .returned (.int .i64 (checkE p valid truth)) ∧ Below w.heap.size w w' := by
  have HP := Lib.hid hP
  clear hP
  unfold payV
  cases hv : payB p
  · have HV : Hid (checkE p valid truth = 1) := by show _ = _; rw [checkE, hv]; rfl
    have HV1 := Lib.hid hv
    clear hv
    go_enter Tryd.func47, Tryd.ntmps47
    go_wp2_with fail
    refine (Pay_any (p := p) _ (by exact HP.out.grow (by repeat (first | exact Below.refl _ _ | assumption | refine Below.drew ?_ | refine below_drewN ?_ _ | refine Below.alloc ?_ (by (try simp) <;> omega) _ | refine Below.setCell ?_ (by (try simp) <;> omega) _ | refine Below.trans ?_ (Below.mono (by assumption) (by (try simp) <;> omega)))))).mono ?_
    rw [HV1.out]
    rintro e w1 ⟨rfl, hbw1⟩; obtain ⟨hcw1, hfw1⟩ := bcell hbw1; have hzw1 := hbw1.size; (try simp at hzw1)
    go_wp2
    go_ret
    exact ⟨ret_int (by rw [HV.out]), (by repeat (first | exact Below.refl _ _ | assumption | refine Below.drew ?_ | refine below_drewN ?_ _ | refine Below.alloc ?_ (by (try simp) <;> omega) _ | refine Below.setCell ?_ (by (try simp) <;> omega) _ | refine Below.trans ?_ (Below.mono (by assumption) (by (try simp) <;> omega))))⟩
  have HV1 := Lib.hid hv
  cases valid
  · have HV : Hid (checkE p false truth = 2) := by show _ = _; rw [checkE, hv]; rfl
    clear hv
    go_enter Tryd.func47, Tryd.ntmps47
    go_wp2_with fail
    refine (Pay_any (p := p) _ (by exact HP.out.grow (by repeat (first | exact Below.refl _ _ | assumption | refine Below.drew ?_ | refine below_drewN ?_ _ | refine Below.alloc ?_ (by (try simp) <;> omega) _ | refine Below.setCell ?_ (by (try simp) <;> omega) _ | refine Below.trans ?_ (Below.mono (by assumption) (by (try simp) <;> omega)))))).mono ?_
    rw [HV1.out]
    rintro e w1 ⟨rfl, hbw1⟩; obtain ⟨hcw1, hfw1⟩ := bcell hbw1; have hzw1 := hbw1.size; (try simp at hzw1)
    go_wp2
    go_ret
    exact ⟨ret_int (by rw [HV.out]), (by repeat (first | exact Below.refl _ _ | assumption | refine Below.drew ?_ | refine below_drewN ?_ _ | refine Below.alloc ?_ (by (try simp) <;> omega) _ | refine Below.setCell ?_ (by (try simp) <;> omega) _ | refine Below.trans ?_ (Below.mono (by assumption) (by (try simp) <;> omega))))⟩
  cases truth
  · have HV : Hid (checkE p true false = 0) := by show _ = _; rw [checkE, hv]; rfl
    clear hv
    go_enter Tryd.func47, Tryd.ntmps47
    go_wp2_with fail
    refine (Pay_any (p := p) _ (by exact HP.out.grow (by repeat (first | exact Below.refl _ _ | assumption | refine Below.drew ?_ | refine below_drewN ?_ _ | refine Below.alloc ?_ (by (try simp) <;> omega) _ | refine Below.setCell ?_ (by (try simp) <;> omega) _ | refine Below.trans ?_ (Below.mono (by assumption) (by (try simp) <;> omega)))))).mono ?_
    rw [HV1.out]
    rintro e w1 ⟨rfl, hbw1⟩; obtain ⟨hcw1, hfw1⟩ := bcell hbw1; have hzw1 := hbw1.size; (try simp at hzw1)
    go_wp2
    go_ret
    exact ⟨ret_int (by rw [HV.out]), (by repeat (first | exact Below.refl _ _ | assumption | refine Below.drew ?_ | refine below_drewN ?_ _ | refine Below.alloc ?_ (by (try simp) <;> omega) _ | refine Below.setCell ?_ (by (try simp) <;> omega) _ | refine Below.trans ?_ (Below.mono (by assumption) (by (try simp) <;> omega))))⟩
  have HV : Hid (checkE p true true = if wrongI p != 0 then 10 else 0) := by show _ = _; rw [checkE, hv]; rfl
  cases hw : (wrongI p != 0)
  all_goals
    have HW := Lib.hid hw
    clear hv
    go_enter Tryd.func47, Tryd.ntmps47
    go_wp2_with fail
    refine (Pay_any (p := p) _ (by exact HP.out.grow (by repeat (first | exact Below.refl _ _ | assumption | refine Below.drew ?_ | refine below_drewN ?_ _ | refine Below.alloc ?_ (by (try simp) <;> omega) _ | refine Below.setCell ?_ (by (try simp) <;> omega) _ | refine Below.trans ?_ (Below.mono (by assumption) (by (try simp) <;> omega)))))).mono ?_
    rw [HV1.out]
    rintro e w1 ⟨rfl, hbw1⟩; obtain ⟨hcw1, hfw1⟩ := bcell hbw1; have hzw1 := hbw1.size; (try simp at hzw1)
    have q1 : w.heap.size < w1.heap.size := by omega
    go_wp2_with fail
    refine (wrong_any (p := p) HV1.out _ (by exact HP.out.grow (by repeat (first | exact Below.refl _ _ | assumption | refine Below.drew ?_ | refine below_drewN ?_ _ | refine Below.alloc ?_ (by (try simp) <;> omega) _ | refine Below.setCell ?_ (by (try simp) <;> omega) _ | refine Below.trans ?_ (Below.mono (by assumption) (by (try simp) <;> omega)))))).mono ?_
    rintro e w2 ⟨rfl, hbw2⟩; obtain ⟨hcw2, hfw2⟩ := bcell hbw2; have hzw2 := hbw2.size; (try simp at hzw2)
    go_wp2
    go_ret
    exact ⟨ret_int (by rw [HV.out, HW.out]; rfl), (by repeat (first | exact Below.refl _ _ | assumption | refine Below.drew ?_ | refine below_drewN ?_ _ | refine Below.alloc ?_ (by (try simp) <;> omega) _ | refine Below.setCell ?_ (by (try simp) <;> omega) _ | refine Below.trans ?_ (Below.mono (by assumption) (by (try simp) <;> omega))))⟩
end
end Go.Proofs.YtlcolpnniipgbaaDoor
namespace Go.Proofs.YtlcolpnniipgbaaDoor
open Go.RowKit Go.Hav

section
variable {people rate bill : Int} {ra ca da pa : Option Addr} {rl rc cl cc dl dc pl pc : Nat} {p : PayD}

set_option maxHeartbeats 400000 in
theorem Who_gen (n : Int) (w : World) :
    Calls Tryd.prog 48 #[payV people ra rl rc ca cl cc rate bill da dl dc pa pl pc, .int .i64 n] w fun e w' => e = .returned (.bool (inB n 0 (wrap64 (people - 1)))) ∧ Below w.heap.size w w' := by
  unfold payV
  go_enter Tryd.func48, Tryd.ntmps48
  go_wp2_with (go_at_call 70; refine (in_any _ _ _ _).mono ?_; rintro e w' ⟨rfl, rfl⟩)
  go_ret
  exact ⟨rfl, (by repeat (first | exact Below.refl _ _ | assumption | refine Below.drew ?_ | refine below_drewN ?_ _ | refine Below.alloc ?_ (by (try simp) <;> omega) _ | refine Below.setCell ?_ (by (try simp) <;> omega) _ | refine Below.trans ?_ (Below.mono (by assumption) (by (try simp) <;> omega))))⟩

/-- The least and the greatest number from lo on, of the first k, of which f says yes; before: what it is if there is none. -/
def hullF (f : Int → Bool) (lo : Int) (before : Sp) : Nat → Sp
  | 0 => before
  | k + 1 => if f (lo + k) then ⟨if lo + k < (hullF f lo before k).lo then lo + k else (hullF f lo before k).lo, if (hullF f lo before k).hi < lo + k then lo + k else (hullF f lo before k).hi⟩ else hullF f lo before k
def hullS (f : Int → Bool) (lo hi : Int) (before : Sp) : Sp := hullF f lo before (hi + 1 - lo).toNat
def shornS (p : PayD) (who run : Int) : Sp :=
  hullS (fun n => someB p run who n p.people.toNat 0 0) (calledS p who run).lo (calledS p who run).hi ⟨101, -1⟩

theorem hullF_step (f : Int → Bool) (lo : Int) (before : Sp) (m : Int) (h : lo ≤ m) :
    hullF f lo before (m + 1 - lo).toNat = if f m then ⟨if m < (hullF f lo before (m - lo).toNat).lo then m else (hullF f lo before (m - lo).toNat).lo, if (hullF f lo before (m - lo).toNat).hi < m then m else (hullF f lo before (m - lo).toNat).hi⟩ else hullF f lo before (m - lo).toNat := by
  rw [show (m + 1 - lo).toNat = (m - lo).toNat + 1 by omega, hullF, show lo + ((m - lo).toNat : Int) = m by omega]

set_option maxHeartbeats 1600000 in
theorem shorn_any (hv : payB p = true) (who run : Int) (hr0 : 0 ≤ run) (hr1 : run < rl) (w : World) (hP : PayIn w w.heap.size people ra rl ca cl rate bill da dl pa pl p) :
    Calls Tryd.prog 54 #[payV people ra rl rc ca cl cc rate bill da dl dc pa pl pc, .int .i64 who, .int .i64 run] w fun e w' => e = .returned (spV (shornS p who run)) ∧ Below w.heap.size w w' := by
  have HP := Lib.hid hP
  have HV := Lib.hid hv
  have hb := payB_people hv
  have hpe := hP.epeople
  have i2 : 1 ≤ people := by omega
  have i3 : people ≤ 4 := by omega
  have HPE := Lib.hid hP.epeople
  obtain ⟨s, HSC⟩ : ∃ s, Hid (calledS p who run = s) := ⟨_, rfl⟩
  have hs := calledS_ok hv who run
  rw [HSC.out] at hs
  obtain ⟨hs0, hs1, hs2⟩ := hs
  have HR : Hid (shornS p who run = hullF (fun n => someB p run who n people.toNat 0 0) s.lo ⟨101, -1⟩ (s.hi + 1 - s.lo).toNat) := by
    show _ = _; rw [shornS, HSC.out, HPE.out]; rfl
  clear hP hv hb hpe
  unfold payV
  go_enter Tryd.func54, Tryd.ntmps54
  go_wp2_with fail
  refine (called_any (p := p) _ _ _ (by exact HP.out.grow (by repeat (first | exact Below.refl _ _ | assumption | refine Below.drew ?_ | refine below_drewN ?_ _ | refine Below.alloc ?_ (by (try simp) <;> omega) _ | refine Below.setCell ?_ (by (try simp) <;> omega) _ | refine Below.trans ?_ (Below.mono (by assumption) (by (try simp) <;> omega)))))).mono ?_
  rw [HSC.out]
  unfold spV
  rintro e w1 ⟨rfl, hbw1⟩; obtain ⟨hcw1, hfw1⟩ := bcell hbw1; have hzw1 := hbw1.size; (try simp at hzw1)
  have q1 : w.heap.size < w1.heap.size := by omega
  have q2 : w.heap.size + 1 < w1.heap.size := by omega
  go_wp2
  have HB1 := Lib.hid hbw1
  clear hbw1
  go_loopw [9] (fun i wr => ∃ (m : Int) (o : Sp), s.lo ≤ m ∧ m ≤ s.hi + 1 ∧ i = .int .i64 m ∧ Hid (hullF (fun n => someB p run who n people.toNat 0 0) s.lo ⟨101, -1⟩ (m - s.lo).toNat = o) ∧
      Blk wr (w1.heap.size + 1) 34 #[.int .i64 o.lo, .int .i64 o.hi] ∧ Below (w1.heap.size + 1) (w1.alloc (Obj.cells #[Value.int IntKind.i64 s.lo, Value.int IntKind.i64 s.hi] 34)) wr) (fun i _ => (s.hi + 1 - intOf i).toNat)
  case atStart => exact ⟨s.lo, ⟨101, -1⟩, by omega, by omega, rfl, by show _ = _; rw [Int.sub_self]; rfl, Blk.new_ (by simp) _ _, (Below.refl _ _).alloc (by simp) _⟩
  case round =>
    obtain ⟨m, o, hm1, hm2, rfl, HF, hk, hb⟩ := hrel
    have hA : ∀ o, wr.cell? ⟨w.heap.size, o, none⟩ = _ := fun o => hb.cell (p := ⟨w.heap.size, o, none⟩) (by show w.heap.size < _; omega)
    have hS : ∀ o, wr.cell? ⟨w1.heap.size, o, none⟩ = _ := fun o => hb.cell (p := ⟨w1.heap.size, o, none⟩) (by show w1.heap.size < _; omega)
    have c0 : wr.cell? ⟨w1.heap.size + 1, 0, none⟩ = some (.int .i64 o.lo) := hk.cell 0
    have c1 : wr.cell? ⟨w1.heap.size + 1, 1, none⟩ = some (.int .i64 o.hi) := hk.cell 1
    have f0 : wr.frozen? ⟨w1.heap.size + 1, 0, none⟩ = false := hk.frozen 0
    have f1 : wr.frozen? ⟨w1.heap.size + 1, 1, none⟩ = false := hk.frozen 1
    have q3 := hk.lt
    have HB2 := Lib.hid hb
    have HK := Lib.hid hk
    have HRB : Hid (Blk wr (w.heap.size + 1) 34 #[.int .i64 0, .int .i64 0]) := (((Blk.new_ (by simp) _ _).below HB1.out (by simp)).alloc _).below HB2.out (by omega)
    have r0 : wr.cell? ⟨w.heap.size + 1, 0, none⟩ = some (.int .i64 0) := HRB.out.cell 0
    have r1 : wr.cell? ⟨w.heap.size + 1, 1, none⟩ = some (.int .i64 0) := HRB.out.cell 1
    have g0 : wr.frozen? ⟨w.heap.size + 1, 0, none⟩ = false := HRB.out.frozen 0
    have g1 : wr.frozen? ⟨w.heap.size + 1, 1, none⟩ = false := HRB.out.frozen 1
    clear hb hk
    have HBW : Hid (Below w.heap.size w wr) := ((((Below.refl w.heap.size w).alloc (by simp) _).alloc (by simp) _).trans (HB1.out.mono (by simp; omega))).alloc (by omega) _ |>.trans (HB2.out.mono (by omega))
    by_cases hle : m ≤ s.hi
    · have HST := Lib.hid (hullF_step (fun n => someB p run who n people.toNat 0 0) s.lo ⟨101, -1⟩ m hm1)
      cases hv : someB p run who m people.toNat 0 0
      all_goals
        have HV1 := Lib.hid hv
        clear hv
        go_wp2_with fail
        refine (some_any (p := p) HV.out run who m hr0 hr1 people.toNat 0 0 _ (by omega) (by omega) (by omega) (by omega) (by exact HP.out.grow HBW.out)).mono ?_
        rw [HV1.out]
        rintro e w2 ⟨rfl, hbw2⟩; obtain ⟨hcw2, hfw2⟩ := bcell hbw2; have hzw2 := hbw2.size; (try simp at hzw2)
        go_wp2
        go_roundw
      case rel => exact ⟨m + 1, o, by omega, by omega, rfl, by show _ = _; rw [HST.out, HV1.out, HF.out]; rfl, HK.out.below hbw2 (by omega), HB2.out.trans (hbw2.mono (by omega))⟩
      case measure => simp [intOf]; omega
      case rel => exact ⟨m + 1, ⟨if m < o.lo then m else o.lo, if o.hi < m then m else o.hi⟩, by omega, by omega, rfl, by show _ = _; rw [HST.out, HV1.out, HF.out]; rfl, ((HK.out.below hbw2 (by omega)).set_ 0 _).set_ 1 _, ((HB2.out.trans (hbw2.mono (by omega))).setCell (by simp) _).setCell (by simp) _⟩
      case measure => simp [intOf]; omega
    · obtain rfl : s.hi + 1 = m := by omega
      go_wp2
      have e0 := ((HRB.out.set_ 0 (.int .i64 o.lo)).set_ 1 (.int .i64 o.hi)).cell 0
      have e1 := ((HRB.out.set_ 0 (.int .i64 o.lo)).set_ 1 (.int .i64 o.hi)).cell 1
      refine bodyPost_ret (v := spV (shornS p who run)) (by rw [HR.out, HF.out]; simp [results, Tryd.results54, go_sem, e0, e1, spV]) rfl ⟨rfl, ?_⟩
      exact (HBW.out.setCell (by simp) _).setCell (by simp) _
end
end Go.Proofs.YtlcolpnniipgbaaDoor
