/- The walks of the program's small functions. The desk; the walks of ask, isWho, isRun, of, wage. The desk's map of stints: what it holds, what a lookup gives. The walks of called and all. -/
import Derived.Test.YtlcolpnniipgbaaDoorBase
import Derived.RegionTactic
import Derived.BigRegion
import Derived.Maps.Own
import Derived.Maps.OwnSet
import Derived.DeepKeys4
import Derived.BigQuiet
namespace Go.Proofs.YtlcolpnniipgbaaDoor
open Go.RowKit Go.Hav

section
variable {people rate bill : Int} {ra ca da pa : Option Addr} {rl rc cl cc dl dc pl pc : Nat} {p : PayD}

theorem within_any (n lo hi : Int) (w : World) :
    Calls Tryd.prog 74 #[.int .i64 n, .int .i64 lo, .int .i64 hi] w fun e w' => e = .returned (.bool (inB n lo hi)) ∧ w' = w := by
  by_cases h1 : lo ≤ n
  · have hl : decide (lo ≤ n) = true := by simp [h1]
    go_enter Tryd.func74, Tryd.ntmps74
    go_wp2
    go_ret
    exact ⟨ret_bool (by simp [inB, h1]), rfl⟩
  · have hl : decide (lo ≤ n) = false := by simp [h1]
    go_enter Tryd.func74, Tryd.ntmps74
    go_wp2
    go_ret
    exact ⟨ret_bool (by simp [inB]; omega), rfl⟩

theorem isIn_any (s : Sp) (high : Int) (w : World) :
    Calls Tryd.prog 77 #[spV s, .int .i64 high] w fun e w' => e = .returned (.bool (spanB s high)) ∧ Below w.heap.size w w' := by
  obtain ⟨lo, hi⟩ := s
  unfold spV
  by_cases h0 : 0 ≤ lo
  · have hl0 : decide (0 ≤ lo) = true := by simp [h0]
    by_cases h1 : lo ≤ hi
    · have hl : decide (lo ≤ hi) = true := by simp [h1]
      go_enter Tryd.func77, Tryd.ntmps77
      go_wp2
      go_ret
      exact ⟨ret_bool (by simp [spanB, h0, h1]), (by repeat (first | exact Below.refl _ _ | assumption | refine Below.drew ?_ | refine below_drewN ?_ _ | refine Below.alloc ?_ (by (try simp) <;> omega) _ | refine Below.setCell ?_ (by (try simp) <;> omega) _ | refine Below.trans ?_ (Below.mono (by assumption) (by (try simp) <;> omega))))⟩
    · have hl : decide (lo ≤ hi) = false := by simp [h1]
      go_enter Tryd.func77, Tryd.ntmps77
      go_wp2
      go_ret
      exact ⟨ret_bool (by simp [spanB, h0]; omega), (by repeat (first | exact Below.refl _ _ | assumption | refine Below.drew ?_ | refine below_drewN ?_ _ | refine Below.alloc ?_ (by (try simp) <;> omega) _ | refine Below.setCell ?_ (by (try simp) <;> omega) _ | refine Below.trans ?_ (Below.mono (by assumption) (by (try simp) <;> omega))))⟩
  · have hl0 : decide (0 ≤ lo) = false := by simp [h0]
    go_enter Tryd.func77, Tryd.ntmps77
    go_wp2
    go_ret
    exact ⟨ret_bool (by simp [spanB]; omega), (by repeat (first | exact Below.refl _ _ | assumption | refine Below.drew ?_ | refine below_drewN ?_ _ | refine Below.alloc ?_ (by (try simp) <;> omega) _ | refine Below.setCell ?_ (by (try simp) <;> omega) _ | refine Below.trans ?_ (Below.mono (by assumption) (by (try simp) <;> omega))))⟩

def plusS (a b : Sp) : Sp := ⟨a.lo + b.lo, a.hi + b.hi⟩
def commonS (a b : Sp) : Sp := ⟨max a.lo b.lo, min a.hi b.hi⟩
def lessS (a b : Sp) : Sp := ⟨a.lo - b.hi, a.hi - b.lo⟩
/-- Numbers that are far from where a sum wraps. -/
def midS (m : Int) (s : Sp) : Prop := -m ≤ s.lo ∧ s.lo ≤ m ∧ -m ≤ s.hi ∧ s.hi ≤ m

theorem plus_any (a b : Sp) (ha : midS 1000000000 a) (hb : midS 1000000000 b) (w : World) :
    Calls Tryd.prog 95 #[spV a, spV b] w fun e w' => e = .returned (spV (plusS a b)) ∧ Below w.heap.size w w' := by
  obtain ⟨a0, a1⟩ := a
  obtain ⟨b0, b1⟩ := b
  obtain ⟨x0, x1, x2, x3⟩ := ha
  obtain ⟨y0, y1, y2, y3⟩ := hb
  simp only at x0 x1 x2 x3 y0 y1 y2 y3
  unfold spV
  go_enter Tryd.func95, Tryd.ntmps95
  go_wp2
  refine bodyPost_ret (v := spV (plusS ⟨a0, a1⟩ ⟨b0, b1⟩)) (by simp [results, Tryd.results95, go_sem, spV, plusS]) rfl ⟨by simp [spV], (by repeat (first | exact Below.refl _ _ | assumption | refine Below.drew ?_ | refine below_drewN ?_ _ | refine Below.alloc ?_ (by (try simp) <;> omega) _ | refine Below.setCell ?_ (by (try simp) <;> omega) _ | refine Below.trans ?_ (Below.mono (by assumption) (by (try simp) <;> omega))))⟩
theorem common_any (a b : Sp) (w : World) :
    Calls Tryd.prog 82 #[spV a, spV b] w fun e w' => e = .returned (spV (commonS a b)) ∧ Below w.heap.size w w' := by
  obtain ⟨a0, a1⟩ := a
  obtain ⟨b0, b1⟩ := b
  unfold spV
  go_enter Tryd.func82, Tryd.ntmps82
  go_wp2
  all_goals refine bodyPost_ret (v := spV (commonS ⟨a0, a1⟩ ⟨b0, b1⟩)) (by simp [results, Tryd.results82, go_sem, spV, commonS]; omega) rfl ⟨by simp [spV], (by repeat (first | exact Below.refl _ _ | assumption | refine Below.drew ?_ | refine below_drewN ?_ _ | refine Below.alloc ?_ (by (try simp) <;> omega) _ | refine Below.setCell ?_ (by (try simp) <;> omega) _ | refine Below.trans ?_ (Below.mono (by assumption) (by (try simp) <;> omega))))⟩
theorem less_any (a b : Sp) (ha : midS 1000000000 a) (hb : midS 1000000000 b) (w : World) :
    Calls Tryd.prog 65 #[spV a, spV b] w fun e w' => e = .returned (spV (lessS a b)) ∧ Below w.heap.size w w' := by
  obtain ⟨a0, a1⟩ := a
  obtain ⟨b0, b1⟩ := b
  obtain ⟨x0, x1, x2, x3⟩ := ha
  obtain ⟨y0, y1, y2, y3⟩ := hb
  simp only at x0 x1 x2 x3 y0 y1 y2 y3
  unfold spV
  go_enter Tryd.func65, Tryd.ntmps65
  go_wp2
  refine bodyPost_ret (v := spV (lessS ⟨a0, a1⟩ ⟨b0, b1⟩)) (by simp [results, Tryd.results65, go_sem, spV, lessS]) rfl ⟨by simp [spV], (by repeat (first | exact Below.refl _ _ | assumption | refine Below.drew ?_ | refine below_drewN ?_ _ | refine Below.alloc ?_ (by (try simp) <;> omega) _ | refine Below.setCell ?_ (by (try simp) <;> omega) _ | refine Below.trans ?_ (Below.mono (by assumption) (by (try simp) <;> omega))))⟩

def sumK (l : List Sp) : Nat → Sp
  | 0 => ⟨0, 0⟩
  | k + 1 => plusS (sumK l k) ((l[k]?).getD ⟨0, 0⟩)
theorem midS_plus {a b : Sp} {m n : Int} (ha : midS m a) (hb : midS n b) : midS (m + n) (plusS a b) := by
  obtain ⟨x0, x1, x2, x3⟩ := ha
  obtain ⟨y0, y1, y2, y3⟩ := hb
  exact ⟨by simp only [plusS]; omega, by simp only [plusS]; omega, by simp only [plusS]; omega, by simp only [plusS]; omega⟩

theorem sum_any (A : Option Addr) (n cp : Nat) (hn : n ≤ 100) (xs : List Sp) (hl : xs.length = n) (hx : ∀ x ∈ xs, midS 1000000 x) (w : World) (hr : RdSpans w w.heap.size A xs) :
    Calls Tryd.prog 86 #[.slice A n cp] w fun e w' => e = .returned (spV (sumK xs n)) ∧ Below w.heap.size w w' := by
  have HR := Lib.hid hr
  have HX := Lib.hid hx
  clear hr hx
  go_enter Tryd.func86, Tryd.ntmps86
  go_wp2
  go_loopw [8] (fun i wr => ∃ (k : Nat) (o : Sp), k ≤ n ∧ i = .int .i64 k ∧ Hid (sumK xs k = o) ∧ midS (1000000 * k) o ∧ Blk wr w.heap.size 80 #[.int .i64 o.lo, .int .i64 o.hi] ∧
      Below w.heap.size w wr) (fun i _ => n - (intOf i).toNat)
  case atStart => exact ⟨0, ⟨0, 0⟩, Nat.zero_le _, rfl, rfl, by simp [midS], Blk.new_ (by simp) _ _, (Below.refl w.heap.size w).alloc (by simp) _⟩
  case round =>
    obtain ⟨k, o, hk, rfl, HF, hm, hbk, hb⟩ := hrel
    have HB := Lib.hid hb
    have HK := Lib.hid hbk
    have HM := Lib.hid hm
    have hlt0 := hbk.lt
    have r0 : wr.cell? ⟨w.heap.size, 0, none⟩ = some (.int .i64 o.lo) := hbk.cell 0
    have r1 : wr.cell? ⟨w.heap.size, 1, none⟩ = some (.int .i64 o.hi) := hbk.cell 1
    have f0 : wr.frozen? ⟨w.heap.size, 0, none⟩ = false := hbk.frozen 0
    have f1 : wr.frozen? ⟨w.heap.size, 1, none⟩ = false := hbk.frozen 1
    clear hb hbk hm
    have HBW := HB
    by_cases hlt : k < n
    · obtain ⟨c, hc⟩ : ∃ c, xs[k]? = some c := ⟨xs[k]'(by omega), by simp⟩
      have HST : Hid (sumK xs (k + 1) = plusS o c) := by show _ = _; rw [sumK, HF.out, hc]; rfl
      have HC := Lib.hid (HX.out c (List.mem_of_getElem? hc))
      obtain ⟨b, off, rfl, hbl, H0, H1⟩ := HR.out.below HBW.out k c hc
      clear hc
      go_wp2_with fail
      refine (plus_any o c ?_ ?_ _).mono ?_
      · have := HM.out; unfold midS at this ⊢; omega
      · have := HC.out; unfold midS at this ⊢; omega
      unfold spV
      rintro e w1 ⟨rfl, hbw1⟩; obtain ⟨hcw1, hfw1⟩ := bcell hbw1; have hzw1 := hbw1.size; (try simp at hzw1)
      go_wp2
      go_roundw
      case rel =>
        have HB1 : Hid (Below (w.heap.size + 1) wr w1) := ((Below.refl (w.heap.size + 1) wr).alloc (by omega) _).trans (hbw1.mono (by simp; omega))
        refine ⟨k + 1, plusS o c, by omega, by go_num, HST, ?_, ((HK.out.below HB1.out (by omega)).set_ 0 _).set_ 1 _, ((HB.out.trans (HB1.out.mono (by omega))).setCell (by simp) _).setCell (by simp) _⟩
        have h := midS_plus HM.out HC.out
        rwa [show (1000000 : Int) * (k : Nat) + 1000000 = 1000000 * ((k + 1 : Nat) : Int) by omega] at h
      case measure => simp [intOf]; omega
    · obtain rfl : n = k := by omega
      go_wp2
      have e0 := ((HK.out.set_ 0 (.int .i64 o.lo)).set_ 1 (.int .i64 o.hi)).cell 0
      have e1 := ((HK.out.set_ 0 (.int .i64 o.lo)).set_ 1 (.int .i64 o.hi)).cell 1
      refine bodyPost_ret (v := spV o) (by simp [results, Tryd.results86, go_sem, e0, e1, spV]) rfl ⟨by rw [HF.out], ?_⟩
      exact (HBW.out.setCell (by simp) _).setCell (by simp) _
end
end Go.Proofs.YtlcolpnniipgbaaDoor
namespace Go.Proofs.YtlcolpnniipgbaaDoor
open Go.RowKit Go.Hav

/-- The desk at block d reads as the pay p, its map at block r; all lies below B. -/
structure DeskIn (w : World) (B d r : Nat) (people : Int) (ra : Option Addr) (rl rc : Nat) (ca : Option Addr) (cl cc : Nat) (rate bill : Int) (da : Option Addr) (dl dc : Nat) (pa : Option Addr) (pl pc : Nat) (p : PayD) : Prop where
  hB : B ≤ w.heap.size
  hd : d < B
  c0 : w.cell? ⟨d, 0, none⟩ = some (.int .i64 people)
  c1 : w.cell? ⟨d, 1, none⟩ = some (.slice ra rl rc)
  c2 : w.cell? ⟨d, 2, none⟩ = some (.slice ca cl cc)
  c3 : w.cell? ⟨d, 3, none⟩ = some (.int .i64 rate)
  c4 : w.cell? ⟨d, 4, none⟩ = some (.int .i64 bill)
  c5 : w.cell? ⟨d, 5, none⟩ = some (.slice da dl dc)
  c6 : w.cell? ⟨d, 6, none⟩ = some (.slice pa pl pc)
  c7 : w.cell? ⟨d, 7, none⟩ = some (.map (some r))
  pay : PayIn w B people ra rl ca cl rate bill da dl pa pl p

section
variable {B d r : Nat} {people rate bill : Int} {ra ca da pa : Option Addr} {rl rc cl cc dl dc pl pc : Nat} {p : PayD}
theorem DeskIn.grow {w w' : World} (h : DeskIn w B d r people ra rl rc ca cl cc rate bill da dl dc pa pl pc p) (hb : Below w.heap.size w w') : DeskIn w' B d r people ra rl rc ca cl cc rate bill da dl dc pa pl pc p := by
  have hb1 : Below B w w' := hb.mono h.hB
  have e : ∀ o, w'.cell? ⟨d, o, none⟩ = w.cell? ⟨d, o, none⟩ := fun o => hb1.cell (p := ⟨d, o, none⟩) h.hd
  exact ⟨Nat.le_trans h.hB hb.size, h.hd, by rw [e]; exact h.c0, by rw [e]; exact h.c1, by rw [e]; exact h.c2, by rw [e]; exact h.c3, by rw [e]; exact h.c4, by rw [e]; exact h.c5, by rw [e]; exact h.c6, by rw [e]; exact h.c7, h.pay.below hb1⟩

def refE (e : Int) : PanicEntry := { v := .iface 102 (.int .i64 e), recovered := false }
def askE (b : Bool) (e : Int) : Ending := if b then .returned (.tuple #[]) else .panicked [refE e]

theorem ask_any (b : Bool) (e : Int) (w : World) : Calls Tryd.prog 46 #[.bool b, .int .i64 e] w fun en w' => en = askE b e ∧ w' = w := by
  cases b
  · go_enter Tryd.func46, Tryd.ntmps46
    go_wp2
    exact ⟨rfl, rfl, rfl⟩
  · go_enter Tryd.func46, Tryd.ntmps46
    go_wp2
    go_end0
    exact ⟨rfl, rfl⟩

theorem isWho_any (n : Int) (w : World) (hD : DeskIn w B d r people ra rl rc ca cl cc rate bill da dl dc pa pl pc p) (h1 : 1 ≤ people) (h2 : people ≤ 4) :
    Calls Tryd.prog 44 #[(.pointer (some ⟨d, 0, none⟩)), .int .i64 n] w fun e w' => e = .returned (.bool (whoB p n)) ∧ w' = w := by
  have HW : Hid (whoB p n = inB n 0 (people - 1)) := by show _ = _; rw [whoB, hD.pay.epeople]
  have H0 := hD.c0
  clear hD
  go_enter Tryd.func44, Tryd.ntmps44
  go_wp2_with (go_at_call 74; refine (within_any _ _ _ _).mono ?_; rintro e w' ⟨rfl, rfl⟩)
  go_ret
  exact ⟨ret_bool (by rw [HW.out]), rfl⟩
theorem isRun_any (n : Int) (w : World) (hD : DeskIn w B d r people ra rl rc ca cl cc rate bill da dl dc pa pl pc p) :
    Calls Tryd.prog 45 #[(.pointer (some ⟨d, 0, none⟩)), .int .i64 n] w fun e w' => e = .returned (.bool (runB p n)) ∧ w' = w := by
  have HW : Hid (runB p n = inB n 0 (rl - 1)) := by show _ = _; rw [runB, hD.pay.erl]
  have H0 := hD.c1
  have m1 := hD.pay.mrl
  clear hD
  go_enter Tryd.func45, Tryd.ntmps45
  go_wp2_with (go_at_call 74; refine (within_any _ _ _ _).mono ?_; rintro e w' ⟨rfl, rfl⟩)
  go_ret
  exact ⟨ret_bool (by rw [HW.out]), rfl⟩

theorem wage1_any (q : Nat) (n : Int) (w : World) (hD : DeskIn w B d r people ra rl rc ca cl cc rate bill da dl dc pa pl pc p) (hq : w.cell? ⟨q, 0, none⟩ = some (.pointer (some ⟨d, 0, none⟩))) (hr1 : 0 ≤ rate) (hr2 : rate ≤ 1000) (h0 : 0 ≤ n) (h1 : n ≤ 1000000) :
    Calls Tryd.prog 94 #[.int .i64 n, .pointer (some ⟨q, 0, none⟩)] w fun e w' => e = .returned (.int .i64 (n * rate / 100)) ∧ w' = w := by
  have H0 := hD.c3
  have hm : 0 ≤ n * rate ∧ n * rate ≤ 1000000000 := by
    refine ⟨Int.mul_nonneg h0 hr1, ?_⟩
    exact Int.le_trans (Int.mul_le_mul_of_nonneg_right h1 hr1) (by omega)
  obtain ⟨m0, m1⟩ := hm
  clear hD
  go_enter Tryd.func94, Tryd.ntmps94
  go_wp2
  go_ret
  exact ⟨ret_int rfl, rfl⟩

def wageS (s : Sp) (rate : Int) : Sp := ⟨s.lo * rate / 100, s.hi * rate / 100⟩
set_option maxHeartbeats 1600000 in
theorem wage_any (s : Sp) (w : World) (hD : DeskIn w B d r people ra rl rc ca cl cc rate bill da dl dc pa pl pc p) (hr1 : 0 ≤ rate) (hr2 : rate ≤ 1000) (h0 : 0 ≤ s.lo) (h1 : s.lo ≤ 1000000) (h2 : 0 ≤ s.hi) (h3 : s.hi ≤ 1000000) :
    Calls Tryd.prog 85 #[(.pointer (some ⟨d, 0, none⟩)), spV s] w fun e w' => e = .returned (spV (wageS s rate)) ∧ Below w.heap.size w w' := by
  obtain ⟨lo, hi⟩ := s
  simp only at h0 h1 h2 h3
  have HD := Lib.hid hD
  clear hD
  have hmf : ∀ (fn : Fn) (first cap : Array Value) (w : World), (Instr.makeFunc fn first cap).run Tryd.prog w = .ok (.func fn first cap) w := fun _ _ _ _ => rfl
  unfold spV
  go_enter Tryd.func85, Tryd.ntmps85
  go_wp2
  refine wp_region_havoc [(0,false),(1,false),(2,false),(3,false),(4,false),(5,false),(6,false),(7,false),(8,false),(9,false)] [10,11,12] (fun _ _ => False) (by kernel_rfl) (by kernel_rfl) (fun _ _ _ _ h => h.elim) ?_
  iterate 4 (apply hav_same (by simp only [List.getElem?_toArray, List.getElem?_cons_succ, List.getElem?_cons_zero]; rfl) (by kernel_rfl); (focus (intro wv hgv _; have hcv : ∀ b o, b < _ → wv.cell? ⟨b, o, none⟩ = _ := fun b o hb => Below.cell hgv (p := ⟨b, o, none⟩) hb; go_simp; try rfl; done)); simp only [Act.put, List.setIfInBounds_toArray, List.set_cons_succ, List.set_cons_zero])
  (apply hav_call (by simp only [List.getElem?_toArray, List.getElem?_cons_succ, List.getElem?_cons_zero]; rfl) (by kernel_rfl); (focus (intro wv; go_simp; try exact ⟨rfl, rfl⟩; done)); (focus (intro wv hgv _; exact (wage1_any (B := B) (d := d) (r := r) (p := p) w.heap.size _ _ (by exact HD.out.grow (Below.trans (by repeat (first | exact Below.refl _ _ | assumption | refine Below.drew ?_ | refine below_drewN ?_ _ | refine Below.alloc ?_ (by (try simp) <;> omega) _ | refine Below.setCell ?_ (by (try simp) <;> omega) _ | refine Below.trans ?_ (Below.mono (by assumption) (by (try simp) <;> omega)))) (Below.mono hgv (by simp <;> omega)))) (by rw [Below.cell hgv (p := ⟨w.heap.size, 0, none⟩) (by simp <;> omega)]; go_simp) hr1 hr2 h0 h1).mono fun e w' h => ⟨h.1, by rw [h.2]; exact Below.refl _ _⟩; done)); simp only [Act.put, List.setIfInBounds_toArray, List.set_cons_succ, List.set_cons_zero])
  iterate 4 (apply hav_same (by simp only [List.getElem?_toArray, List.getElem?_cons_succ, List.getElem?_cons_zero]; rfl) (by kernel_rfl); (focus (intro wv hgv _; have hcv : ∀ b o, b < _ → wv.cell? ⟨b, o, none⟩ = _ := fun b o hb => Below.cell hgv (p := ⟨b, o, none⟩) hb; go_simp; try rfl; done)); simp only [Act.put, List.setIfInBounds_toArray, List.set_cons_succ, List.set_cons_zero])
  (apply hav_call (by simp only [List.getElem?_toArray, List.getElem?_cons_succ, List.getElem?_cons_zero]; rfl) (by kernel_rfl); (focus (intro wv; go_simp; try exact ⟨rfl, rfl⟩; done)); (focus (intro wv hgv _; exact (wage1_any (B := B) (d := d) (r := r) (p := p) w.heap.size _ _ (by exact HD.out.grow (Below.trans (by repeat (first | exact Below.refl _ _ | assumption | refine Below.drew ?_ | refine below_drewN ?_ _ | refine Below.alloc ?_ (by (try simp) <;> omega) _ | refine Below.setCell ?_ (by (try simp) <;> omega) _ | refine Below.trans ?_ (Below.mono (by assumption) (by (try simp) <;> omega)))) (Below.mono hgv (by simp <;> omega)))) (by rw [Below.cell hgv (p := ⟨w.heap.size, 0, none⟩) (by simp <;> omega)]; go_simp) hr1 hr2 h2 h3).mono fun e w' h => ⟨h.1, by rw [h.2]; exact Below.refl _ _⟩; done)); simp only [Act.put, List.setIfInBounds_toArray, List.set_cons_succ, List.set_cons_zero])
  refine hav_end (fun w1 hgw1 _ => ?_); simp only [List.filterMap]; have hcw1 : ∀ b o, b < _ → w1.cell? ⟨b, o, none⟩ = _ := fun b o hb => Below.cell hgw1 (p := ⟨b, o, none⟩) hb; have hfw1 : ∀ b o, b < _ → w1.frozen? ⟨b, o, none⟩ = _ := fun b o hb => Below.frozen hgw1 (p := ⟨b, o, none⟩) hb; have hzw1 := Below.size hgw1; (try simp at hzw1)
  have HRB1 : Hid (Blk w1 (w.heap.size + 1 + 1) 80 #[.int .i64 0, .int .i64 0]) := (Blk.new_ (by simp) _ _).below hgw1 (by simp)
  have r0 : w1.cell? ⟨w.heap.size + 1 + 1, 0, none⟩ = some (.int .i64 0) := HRB1.out.cell 0
  have r1 : w1.cell? ⟨w.heap.size + 1 + 1, 1, none⟩ = some (.int .i64 0) := HRB1.out.cell 1
  have g0 : w1.frozen? ⟨w.heap.size + 1 + 1, 0, none⟩ = false := HRB1.out.frozen 0
  have g1 : w1.frozen? ⟨w.heap.size + 1 + 1, 1, none⟩ = false := HRB1.out.frozen 1
  have HG1 := Lib.hid hgw1
  clear hgw1
  have HBW : Hid (Below w.heap.size w w1) := Below.trans ((((Below.refl w.heap.size w).alloc (by simp) _).alloc (by simp) _).alloc (by simp; omega) _) (Below.mono HG1.out (by simp <;> omega))
  go_wp2
  have e0 := ((HRB1.out.set_ 0 (.int .i64 (lo * rate / 100))).set_ 1 (.int .i64 (hi * rate / 100))).cell 0
  have e1 := ((HRB1.out.set_ 0 (.int .i64 (lo * rate / 100))).set_ 1 (.int .i64 (hi * rate / 100))).cell 1
  refine bodyPost_ret (v := spV (wageS ⟨lo, hi⟩ rate)) (by simp [results, Tryd.results85, go_sem, e0, e1, spV, wageS]) rfl ⟨rfl, ?_⟩
  exact (HBW.out.setCell (by simp <;> omega) _).setCell (by simp <;> omega) _

set_option maxHeartbeats 800000 in
/-- The stint of a payment. -/
theorem of_any (n : Nat) (x : Pd) (hx : p.paid[n]? = some x) (w : World) (hD : DeskIn w B d r people ra rl rc ca cl cc rate bill da dl dc pa pl pc p) :
    Calls Tryd.prog 120 #[(.pointer (some ⟨d, 0, none⟩)), .int .i64 n] w fun e w' => e = .returned (.agg #[.int .i64 x.who, .int .i64 x.run]) ∧ Below w.heap.size w w' := by
  have HD := Lib.hid hD
  have hlt : n < pl := by
    have := (List.getElem?_eq_some_iff.1 hx).1
    have := hD.pay.epl
    omega
  have mpl := hD.pay.mpl
  have hdw : d < w.heap.size := Nat.lt_of_lt_of_le hD.hd hD.hB
  have p6 := hD.c6
  obtain ⟨b, off, rfl, hbl, H0, H1, H2⟩ := hD.pay.hpaid n x hx
  have hbw : b < w.heap.size := Nat.lt_of_lt_of_le hbl hD.hB
  obtain ⟨xw, xr, xp⟩ := x
  simp only at H0 H1 H2
  clear hD hx H2
  have hn : (n : Int) < (pl : Int) := by omega
  go_enter Tryd.func120, Tryd.ntmps120
  go_wp2
  go_region
  simp only [Exit.then]
  go_wp2
  refine bodyPost_ret (v := .agg #[.int .i64 xw, .int .i64 xr]) (by simp [results, Tryd.results120, go_sem]) rfl ⟨rfl, (by repeat (first | exact Below.refl _ _ | assumption | refine Below.drew ?_ | refine below_drewN ?_ _ | refine Below.alloc ?_ (by (try simp) <;> omega) _ | refine Below.setCell ?_ (by (try simp) <;> omega) _ | refine Below.trans ?_ (Below.mono (by assumption) (by (try simp) <;> omega))))⟩
end
end Go.Proofs.YtlcolpnniipgbaaDoor
namespace Go.Proofs.YtlcolpnniipgbaaDoor
open Go.RowKit Go.Hav
open Go.Maps (Keyed)

theorem Tryd.laidOut : laidOutB Tryd.prog = true := by kernel_rfl
theorem Tryd.row76 : (76 : TypeId) < Tryd.prog.types.size := of_decide_eq_true (by kernel_rfl)
theorem Tryd.wide76 : (match Tryd.prog.underlying 76 with | some (.array _ _) | some (.struct _) => true | _ => false) = true := by rw [Tryd.underlying76]
set_option maxRecDepth 100000 in
theorem Tryd.keyed76 : Keyed Tryd.prog 76 := Keyed.of_law (deep_law_laid Tryd.laidOut (m := 2) (by omega) Tryd.row76 (by kernel_rfl) Tryd.wide76)
set_option maxRecDepth 100000 in
theorem Tryd.zero3 (w : World) : (zeroValue 3).run Tryd.prog w = .ok (.int .i64 0) w := by kernel_rfl
def stV (who run : Int) : Value := .agg #[.int .i64 who, .int .i64 run]
theorem wf64 (n : Int) (h0 : 0 ≤ n) (h1 : n ≤ 1000) : (Lit.int .i64 n).wf = true := by
  have m : IntKind.i64.min = -9223372036854775808 := by decide
  have M : IntKind.i64.max = 9223372036854775807 := by decide
  simp [Lit.wf, m, M]; omega
theorem lits76 (d : Nat) (who run : Int) (h0 : 0 ≤ who) (h1 : who ≤ 1000) (h2 : 0 ≤ run) (h3 : run ≤ 1000) : Tryd.prog.keyLits (d + 2) 76 [.int .i64 who, .int .i64 run] = some [.int .i64 who, .int .i64 run] := by
  have w0 := wf64 who (by omega) (by omega)
  have w1 := wf64 run (by omega) (by omega)
  have c76 : Tryd.prog.cellsOf 76 = 2 := by kernel_rfl
  have c3 : Tryd.prog.cellsOf 3 = 1 := by kernel_rfl
  simp [Program.keyLits, Tryd.underlying76, Tryd.underlying3, c76, c3, w0, w1]
theorem key_mk (who run : Int) (h0 : 0 ≤ who) (h1 : who ≤ 1000) (h2 : 0 ≤ run) (h3 : run ≤ 1000) : ∃ kl, keyOf Tryd.prog 76 (stV who run) = some kl := by
  have hk : Tryd.prog.keyType 76 = true := by kernel_rfl
  have c76 : Tryd.prog.cellsOf 76 = 2 := by kernel_rfl
  have hf : (stV who run).formed Tryd.prog 76 = true := by simp [stV, Value.formed, Tryd.underlying76, c76]
  have hs : Tryd.prog.types.size + 1 = (Tryd.prog.types.size - 1) + 2 := by have h76 : 76 < Tryd.prog.types.size := Tryd.row76; omega
  refine ⟨.string (keyBytes [.int .i64 who, .int .i64 run]), ?_⟩
  unfold keyOf
  rw [Tryd.underlying76]
  simp only [hk, hf, Bool.and_self, if_true]
  rw [hs, show (stV who run).cells.toList = [.int .i64 who, .int .i64 run] from rfl, lits76 _ who run h0 h1 h2 h3]
  rfl

/-- Block r is a map of stints: f says for each which number it has; below 0: none. -/
def MapF (w : World) (r N : Nat) (f : Int → Int → Int) : Prop :=
  ∃ D : DataW Unit, w.ownsMap Tryd.prog 76 (plainElem Tryd.prog 3) r N D ∧
    ∀ who run kl, 0 ≤ who → who ≤ 1000 → 0 ≤ run → run ≤ 1000 → keyOf Tryd.prog 76 (stV who run) = some kl →
      Maps.has D kl = decide (0 ≤ f who run) ∧ D.atKey kl (.lit (.int .i64 0)) = .lit (.int .i64 (if 0 ≤ f who run then f who run else 0))
def setF (f : Int → Int → Int) (a b i : Int) : Int → Int → Int := fun x y => if x = a ∧ y = b then i else f x y
theorem MapF.made (w : World) : MapF (w.alloc (.map #[] 0)) w.heap.size 0 (fun _ _ => -1) :=
  ⟨.map [], World.ownsMap_made w _ _ _, fun who run kl _ _ _ _ _ => by simp [Maps.has_eq, DataW.atKey]⟩
theorem MapF.grow {w w' : World} {r N : Nat} {f : Int → Int → Int} (h : MapF w r N f) {B : Nat} (hb : Below B w w') (hB : r < B) : MapF w' r N f := by
  obtain ⟨D, ⟨es, clock, hh, hF, hs, hD⟩, hl⟩ := h
  exact ⟨D, ⟨es, clock, (hb.block r hB).trans hh, hF, hs, hD⟩, hl⟩
theorem MapF.lt {w : World} {r N : Nat} {f : Int → Int → Int} (h : MapF w r N f) : r < w.heap.size := by
  obtain ⟨D, h, _⟩ := h
  exact h.lt
theorem MapF.look {w : World} {r N : Nat} {f : Int → Int → Int} (h : MapF w r N f) (who run : Int) (h0 : 0 ≤ who) (h1 : who ≤ 1000) (h2 : 0 ≤ run) (h3 : run ≤ 1000) :
    (Instr.lookup 68 (.map (some r)) (.agg #[.int .i64 who, .int .i64 run]) true).run Tryd.prog w = .ok (.tuple #[.int .i64 (if 0 ≤ f who run then f who run else 0), .bool (decide (0 ≤ f who run))]) w := by
  obtain ⟨D, hown, hl⟩ := h
  obtain ⟨kl, hk⟩ := key_mk who run h0 h1 h2 h3
  obtain ⟨e0, e1⟩ := hl who run kl h0 h1 h2 h3 hk
  obtain ⟨v, ps, hrun, hv⟩ := hown.look_ok Tryd.keyed76 Tryd.underlying68 (Tryd.zero3 w) (plainElem_int Tryd.underlying3 (by decide)) hk
  obtain ⟨c, rfl, hc, _⟩ := plainElem_int_inv Tryd.underlying3 hv
  simp only [Prod.mk.injEq, e1] at hc
  have hc1 := hc.1
  simp only [DataW.lit.injEq, Lit.int.injEq, true_and] at hc1
  rw [e0, ← hc1] at hrun
  exact hrun
theorem MapF.store {w : World} {r N : Nat} {f : Int → Int → Int} (h : MapF w r N f) (hN : N ≤ 1000) (who run i : Int) (h0 : 0 ≤ who) (h1 : who ≤ 1000) (h2 : 0 ≤ run) (h3 : run ≤ 1000) (i0 : 0 ≤ i) (i1 : i ≤ 1000) :
    ∃ w', (Instr.mapUpdate 68 (.map (some r)) (.agg #[.int .i64 who, .int .i64 run]) (.int .i64 i)).run Tryd.prog w = .ok () w' ∧ MapF w' r (N + 1) (setF f who run i) ∧ w.grownBy w' (some r) := by
  obtain ⟨D, hown, hl⟩ := h
  obtain ⟨kl, hk⟩ := key_mk who run h0 h1 h2 h3
  obtain ⟨w', hrun, hown', hg⟩ := hown.update Tryd.keyed76 Tryd.underlying68 (by unfold maxLen; omega) hk (plainElem_int (a := i) Tryd.underlying3 (wf64 i i0 i1))
  refine ⟨w', hrun, ⟨_, hown', ?_⟩, hg⟩
  intro a b kl' a0 a1 b0 b1 hk'
  unfold setF
  by_cases hab : a = who ∧ b = run
  · obtain ⟨rfl, rfl⟩ := hab
    obtain rfl : kl = kl' := Option.some.inj (hk.symm.trans hk')
    rw [Maps.has_put_same hown.isMap (Tryd.keyed76.key hk), Maps.atKey_put_same hown.isMap (Tryd.keyed76.key hk)]
    simp [i0]
  · have hne : kl' ≠ kl := by
      rintro rfl
      have := Tryd.keyed76.inj hk' hk
      simp [stV] at this
      exact hab this
    rw [Maps.has_put_other hne, Maps.atKey_put_other hne, if_neg hab]
    exact hl a b kl' a0 a1 b0 b1 hk'
end Go.Proofs.YtlcolpnniipgbaaDoor
namespace Go.Proofs.YtlcolpnniipgbaaDoor
open Go.RowKit Go.Hav

section
variable {B d r : Nat} {people rate bill : Int} {ra ca da pa : Option Addr} {rl rc cl cc dl dc pl pc : Nat} {p : PayD}
/-- The desk, with its map filled. -/
structure DeskM (w : World) (B d r : Nat) (people : Int) (ra : Option Addr) (rl rc : Nat) (ca : Option Addr) (cl cc : Nat) (rate bill : Int) (da : Option Addr) (dl dc : Nat) (pa : Option Addr) (pl pc : Nat) (p : PayD) : Prop where
  desk : DeskIn w B d r people ra rl rc ca cl cc rate bill da dl dc pa pl pc p
  hr : r < B
  map : ∃ N, N ≤ 100 ∧ MapF w r N (standsI p)
theorem DeskM.grow {w w' : World} (h : DeskM w B d r people ra rl rc ca cl cc rate bill da dl dc pa pl pc p) (hb : Below w.heap.size w w') : DeskM w' B d r people ra rl rc ca cl cc rate bill da dl dc pa pl pc p := by
  obtain ⟨N, hN, hm⟩ := h.map
  exact ⟨h.desk.grow hb, h.hr, N, hN, hm.grow hb (Nat.lt_of_lt_of_le h.hr h.desk.hB)⟩
theorem DeskM.look {w : World} (h : DeskM w B d r people ra rl rc ca cl cc rate bill da dl dc pa pl pc p) (who run : Int) (h0 : 0 ≤ who) (h1 : who ≤ 1000) (h2 : 0 ≤ run) (h3 : run ≤ 1000) :
    (Instr.lookup 68 (.map (some r)) (.agg #[.int .i64 who, .int .i64 run]) true).run Tryd.prog w = .ok (.tuple #[.int .i64 (if 0 ≤ standsI p who run then standsI p who run else 0), .bool (decide (0 ≤ standsI p who run))]) w := by
  obtain ⟨N, _, hm⟩ := h.map
  exact hm.look who run h0 h1 h2 h3

set_option maxHeartbeats 800000 in
theorem dcalled_any (who run : Int) (h0 : 0 ≤ who) (h1 : who ≤ 1000) (h2 : 0 ≤ run) (h3 : run ≤ 1000) (w : World) (hD : DeskM w B d r people ra rl rc ca cl cc rate bill da dl dc pa pl pc p) :
    Calls Tryd.prog 81 #[(.pointer (some ⟨d, 0, none⟩)), .agg #[.int .i64 who, .int .i64 run]] w fun e w' => e = .returned (spV (calledS p who run)) ∧ Below w.heap.size w w' := by
  have HD := Lib.hid hD
  have p7 := hD.desk.c7
  have p2 := hD.desk.c2
  have hdw : d < w.heap.size := Nat.lt_of_lt_of_le hD.desk.hd hD.desk.hB
  have hd1 : d < w.heap.size + 1 + 1 := by omega
  obtain ⟨hs1, hs2, hs3⟩ := standsF_lt p.calls who run p.calls.length
  change -1 ≤ standsI p who run at hs1
  change standsI p who run < _ at hs2
  change 0 ≤ standsI p who run → ∃ c, p.calls[(standsI p who run).toNat]? = some c ∧ _ at hs3
  by_cases hneg : standsI p who run < 0
  · have HV : Hid (calledS p who run = ⟨0, 0⟩) := by show _ = _; rw [calledS, if_pos hneg]
    have hd0 : decide (0 ≤ standsI p who run) = false := by simp; omega
    have HK : Hid (∀ wv : World, Below w.heap.size w wv → (Instr.lookup 68 (.map (some r)) (.agg #[.int .i64 who, .int .i64 run]) true).run Tryd.prog wv = .ok (.tuple #[.int .i64 0, .bool false]) wv) := fun wv hb => by
      have := (hD.grow hb).look who run h0 h1 h2 h3
      rwa [if_neg (by omega), hd0] at this
    clear hs1 hs2 hs3 hD hd0
    go_enter Tryd.func81, Tryd.ntmps81
    go_wp2
    refine wp_region_havoc [(0,false),(1,false),(2,false),(3,false),(4,false),(5,false),(6,false),(7,false),(8,false),(9,false),(10,false)] [] (fun _ _ => False) (by kernel_rfl) (by kernel_rfl) (fun _ _ _ _ h => h.elim) ?_
    iterate 5 (apply hav_same (by simp only [List.getElem?_toArray, List.getElem?_cons_succ, List.getElem?_cons_zero]; rfl) (by kernel_rfl); (focus (intro wv hgv _; have hcv : ∀ b o, b < _ → wv.cell? ⟨b, o, none⟩ = _ := fun b o hb => Below.cell hgv (p := ⟨b, o, none⟩) hb; go_simp; try rfl; done)); simp only [Act.put, List.setIfInBounds_toArray, List.set_cons_succ, List.set_cons_zero])
    (apply hav_same (by simp only [List.getElem?_toArray, List.getElem?_cons_succ, List.getElem?_cons_zero]; rfl) (by kernel_rfl); (focus (intro wv hgv _; have hcv : ∀ b o, b < _ → wv.cell? ⟨b, o, none⟩ = _ := fun b o hb => Below.cell hgv (p := ⟨b, o, none⟩) hb; have hlk := HK.out wv (Below.trans (by repeat (first | exact Below.refl _ _ | assumption | refine Below.drew ?_ | refine below_drewN ?_ _ | refine Below.alloc ?_ (by (try simp) <;> omega) _ | refine Below.setCell ?_ (by (try simp) <;> omega) _ | refine Below.trans ?_ (Below.mono (by assumption) (by (try simp) <;> omega)))) (Below.mono hgv (by simp <;> omega))); go_simp; try rfl; done)); simp only [Act.put, List.setIfInBounds_toArray, List.set_cons_succ, List.set_cons_zero])
    iterate 5 (apply hav_same (by simp only [List.getElem?_toArray, List.getElem?_cons_succ, List.getElem?_cons_zero]; rfl) (by kernel_rfl); (focus (intro wv hgv _; have hcv : ∀ b o, b < _ → wv.cell? ⟨b, o, none⟩ = _ := fun b o hb => Below.cell hgv (p := ⟨b, o, none⟩) hb; go_simp; try rfl; done)); simp only [Act.put, List.setIfInBounds_toArray, List.set_cons_succ, List.set_cons_zero])
    refine hav_end (fun w1 hgw1 _ => ?_); simp only [List.filterMap]; have hcw1 : ∀ b o, b < _ → w1.cell? ⟨b, o, none⟩ = _ := fun b o hb => Below.cell hgw1 (p := ⟨b, o, none⟩) hb; have hfw1 : ∀ b o, b < _ → w1.frozen? ⟨b, o, none⟩ = _ := fun b o hb => Below.frozen hgw1 (p := ⟨b, o, none⟩) hb; have hzw1 := Below.size hgw1; (try simp at hzw1)
    have HRB1 : Hid (Blk w1 (w.heap.size + 1) 80 #[.int .i64 0, .int .i64 0]) := (Blk.new_ (by simp) _ _).below hgw1 (by simp)
    have r0 : w1.cell? ⟨w.heap.size + 1, 0, none⟩ = some (.int .i64 0) := HRB1.out.cell 0
    have r1 : w1.cell? ⟨w.heap.size + 1, 1, none⟩ = some (.int .i64 0) := HRB1.out.cell 1
    have g0 : w1.frozen? ⟨w.heap.size + 1, 0, none⟩ = false := HRB1.out.frozen 0
    have g1 : w1.frozen? ⟨w.heap.size + 1, 1, none⟩ = false := HRB1.out.frozen 1
    have HBW : Hid (Below w.heap.size w w1) := Below.trans (((Below.refl w.heap.size w).alloc (by simp) _).alloc (by simp) _) (Below.mono hgw1 (by simp <;> omega))
    clear hgw1
    go_wp2
    have e0 := ((HRB1.out.set_ 0 (.int .i64 0)).set_ 1 (.int .i64 0)).cell 0
    have e1 := ((HRB1.out.set_ 0 (.int .i64 0)).set_ 1 (.int .i64 0)).cell 1
    refine bodyPost_ret (v := spV (calledS p who run)) (by rw [HV.out]; simp [results, Tryd.results81, go_sem, e0, e1, spV]) rfl ⟨rfl, (HBW.out.setCell (by simp) _).setCell (by simp) _⟩
  · obtain ⟨c, hc, _⟩ := hs3 (by omega)
    have hd0 : decide (0 ≤ standsI p who run) = true := by simp; omega
    have HK : Hid (∀ wv : World, Below w.heap.size w wv → (Instr.lookup 68 (.map (some r)) (.agg #[.int .i64 who, .int .i64 run]) true).run Tryd.prog wv = .ok (.tuple #[.int .i64 (standsI p who run), .bool true]) wv) := fun wv hb => by
      have := (hD.grow hb).look who run h0 h1 h2 h3
      rwa [if_pos (by omega), hd0] at this
    clear hd0
    obtain ⟨k, hk⟩ : ∃ k : Nat, standsI p who run = k := ⟨(standsI p who run).toNat, by omega⟩
    have hkl : k < cl := by have := hD.desk.pay.ecl; omega
    have HV : Hid (calledS p who run = c.sh) := by show _ = _; rw [calledS, if_neg hneg, hc]
    rw [hk] at hc HK
    obtain ⟨b, off, rfl, hbl, H0, H1, H2, H3, H4⟩ := hD.desk.pay.hcalls k c hc
    have hm := hD.desk.pay.mcl
    have hbw : b < w.heap.size := Nat.lt_of_lt_of_le hbl hD.desk.hB
    have hbw1 : b < w.heap.size + 1 + 1 := by omega
    obtain ⟨cw, cr, ⟨clo, chi⟩, cst⟩ := c
    simp only at H0 H1 H2 H3 H4 HV
    clear hs1 hs2 hs3 hD hneg hc H0 H1 H4
    go_enter Tryd.func81, Tryd.ntmps81
    go_wp2
    refine wp_region_havoc [(0,false),(1,false),(2,false),(3,false),(4,false),(5,false),(6,false),(7,false),(8,false),(9,false),(10,false)] [] (fun _ _ => False) (by kernel_rfl) (by kernel_rfl) (fun _ _ _ _ h => h.elim) ?_
    iterate 5 (apply hav_same (by simp only [List.getElem?_toArray, List.getElem?_cons_succ, List.getElem?_cons_zero]; rfl) (by kernel_rfl); (focus (intro wv hgv _; have hcv : ∀ b o, b < _ → wv.cell? ⟨b, o, none⟩ = _ := fun b o hb => Below.cell hgv (p := ⟨b, o, none⟩) hb; go_simp; try rfl; done)); simp only [Act.put, List.setIfInBounds_toArray, List.set_cons_succ, List.set_cons_zero])
    (apply hav_same (by simp only [List.getElem?_toArray, List.getElem?_cons_succ, List.getElem?_cons_zero]; rfl) (by kernel_rfl); (focus (intro wv hgv _; have hcv : ∀ b o, b < _ → wv.cell? ⟨b, o, none⟩ = _ := fun b o hb => Below.cell hgv (p := ⟨b, o, none⟩) hb; have hlk := HK.out wv (Below.trans (by repeat (first | exact Below.refl _ _ | assumption | refine Below.drew ?_ | refine below_drewN ?_ _ | refine Below.alloc ?_ (by (try simp) <;> omega) _ | refine Below.setCell ?_ (by (try simp) <;> omega) _ | refine Below.trans ?_ (Below.mono (by assumption) (by (try simp) <;> omega)))) (Below.mono hgv (by simp <;> omega))); go_simp; try rfl; done)); simp only [Act.put, List.setIfInBounds_toArray, List.set_cons_succ, List.set_cons_zero])
    iterate 5 (apply hav_same (by simp only [List.getElem?_toArray, List.getElem?_cons_succ, List.getElem?_cons_zero]; rfl) (by kernel_rfl); (focus (intro wv hgv _; have hcv : ∀ b o, b < _ → wv.cell? ⟨b, o, none⟩ = _ := fun b o hb => Below.cell hgv (p := ⟨b, o, none⟩) hb; go_simp; try rfl; done)); simp only [Act.put, List.setIfInBounds_toArray, List.set_cons_succ, List.set_cons_zero])
    refine hav_end (fun w1 hgw1 _ => ?_); simp only [List.filterMap]; have hcw1 : ∀ b o, b < _ → w1.cell? ⟨b, o, none⟩ = _ := fun b o hb => Below.cell hgw1 (p := ⟨b, o, none⟩) hb; have hfw1 : ∀ b o, b < _ → w1.frozen? ⟨b, o, none⟩ = _ := fun b o hb => Below.frozen hgw1 (p := ⟨b, o, none⟩) hb; have hzw1 := Below.size hgw1; (try simp at hzw1)
    have HRB1 : Hid (Blk w1 (w.heap.size + 1) 80 #[.int .i64 0, .int .i64 0]) := (Blk.new_ (by simp) _ _).below hgw1 (by simp)
    have r0 : w1.cell? ⟨w.heap.size + 1, 0, none⟩ = some (.int .i64 0) := HRB1.out.cell 0
    have r1 : w1.cell? ⟨w.heap.size + 1, 1, none⟩ = some (.int .i64 0) := HRB1.out.cell 1
    have g0 : w1.frozen? ⟨w.heap.size + 1, 0, none⟩ = false := HRB1.out.frozen 0
    have g1 : w1.frozen? ⟨w.heap.size + 1, 1, none⟩ = false := HRB1.out.frozen 1
    have HBW : Hid (Below w.heap.size w w1) := Below.trans (((Below.refl w.heap.size w).alloc (by simp) _).alloc (by simp) _) (Below.mono hgw1 (by simp <;> omega))
    clear hgw1
    go_wp2
    have e0 := ((HRB1.out.set_ 0 (.int .i64 clo)).set_ 1 (.int .i64 chi)).cell 0
    have e1 := ((HRB1.out.set_ 0 (.int .i64 clo)).set_ 1 (.int .i64 chi)).cell 1
    refine bodyPost_ret (v := spV (calledS p who run)) (by rw [HV.out]; simp [results, Tryd.results81, go_sem, e0, e1, spV]) rfl ⟨rfl, (HBW.out.setCell (by simp) _).setCell (by simp) _⟩
end
end Go.Proofs.YtlcolpnniipgbaaDoor
