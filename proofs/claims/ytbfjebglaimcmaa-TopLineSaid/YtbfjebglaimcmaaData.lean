/- The data of a press, how it lies in memory; the shed; the walks of the program's and the reference's smallest functions; no condition but bounds. -/
import Derived.Test.YtbfjebglaimcmaaCore
import Derived.Test.YtbfjebglaimcmaaSpec
namespace Go.Proofs.Ytbfjebglaimcmaa
open Go.RowKit Go.Hav
def spF (s : Sp) : List Value := [.int .i64 s.lo, .int .i64 s.hi]
def flF (f : Fl) : List Value := [.int .i64 f.w.lo, .int .i64 f.w.hi, .int .i64 f.line]
def baF (b : Ba) : List Value := [.int .i64 b.set, .int .i64 b.w.lo, .int .i64 b.w.hi]
def inF (n : Int) : List Value := [.int .i64 n]
def unF (n : Nat) : List Value := [.int .u64 n]
theorem spF_len (s : Sp) : (spF s).length = 2 := rfl
theorem flF_len (s : Fl) : (flF s).length = 3 := rfl
theorem baF_len (s : Ba) : (baF s).length = 3 := rfl
theorem inF_len (s : Int) : (inF s).length = 1 := rfl
theorem unF_len (s : Nat) : (unF s).length = 1 := rfl
def spV (s : Sp) : Value := .agg #[.int .i64 s.lo, .int .i64 s.hi]
def pressV (fa : Option Addr) (fl fc : Nat) (low top bales : Int) (wa : Option Addr) (wl wc : Nat) : Value :=
  .agg #[.slice fa fl fc, .int .i64 low, .int .i64 top, .int .i64 bales, .slice wa wl wc]
section
variable {w : World} {B : Nat} {A : Option Addr}
theorem rd_sp {l : List Sp} (h : RdG spF 2 w B A l) (k : Nat) (c : Sp) (hc : l[k]? = some c) : ∃ b off, A = some ⟨b, off, none⟩ ∧ b < B ∧ w.cell? ⟨b, off + k * 2, none⟩ = some (.int .i64 c.lo) ∧ w.cell? ⟨b, off + k * 2 + 1, none⟩ = some (.int .i64 c.hi) := by
  obtain ⟨b, off, e, hb, hx⟩ := h k c hc
  exact ⟨b, off, e, hb, hx 0 _ rfl, by rw [Nat.add_assoc]; exact hx 1 _ rfl⟩
theorem rd_fl {l : List Fl} (h : RdG flF 3 w B A l) (k : Nat) (c : Fl) (hc : l[k]? = some c) : ∃ b off, A = some ⟨b, off, none⟩ ∧ b < B ∧ w.cell? ⟨b, off + k * 3, none⟩ = some (.int .i64 c.w.lo) ∧ w.cell? ⟨b, off + k * 3 + 1, none⟩ = some (.int .i64 c.w.hi) ∧ w.cell? ⟨b, off + k * 3 + 2, none⟩ = some (.int .i64 c.line) := by
  obtain ⟨b, off, e, hb, hx⟩ := h k c hc
  exact ⟨b, off, e, hb, hx 0 _ rfl, by rw [Nat.add_assoc]; exact hx 1 _ rfl, by rw [Nat.add_assoc]; exact hx 2 _ rfl⟩
theorem rd_ba {l : List Ba} (h : RdG baF 3 w B A l) (k : Nat) (c : Ba) (hc : l[k]? = some c) : ∃ b off, A = some ⟨b, off, none⟩ ∧ b < B ∧ w.cell? ⟨b, off + k * 3, none⟩ = some (.int .i64 c.set) ∧ w.cell? ⟨b, off + k * 3 + 1, none⟩ = some (.int .i64 c.w.lo) ∧ w.cell? ⟨b, off + k * 3 + 2, none⟩ = some (.int .i64 c.w.hi) := by
  obtain ⟨b, off, e, hb, hx⟩ := h k c hc
  exact ⟨b, off, e, hb, hx 0 _ rfl, by rw [Nat.add_assoc]; exact hx 1 _ rfl, by rw [Nat.add_assoc]; exact hx 2 _ rfl⟩
theorem rd_in {l : List Int} (h : RdG inF 1 w B A l) (k : Nat) (c : Int) (hc : l[k]? = some c) : ∃ b off, A = some ⟨b, off, none⟩ ∧ b < B ∧ w.cell? ⟨b, off + k, none⟩ = some (.int .i64 c) := by
  obtain ⟨b, off, e, hb, hx⟩ := h k c hc
  exact ⟨b, off, e, hb, by have := hx 0 _ rfl; rwa [Nat.mul_one] at this⟩
theorem rd_un {l : List Nat} (h : RdG unF 1 w B A l) (k : Nat) (c : Nat) (hc : l[k]? = some c) : ∃ b off, A = some ⟨b, off, none⟩ ∧ b < B ∧ w.cell? ⟨b, off + k, none⟩ = some (.int .u64 c) := by
  obtain ⟨b, off, e, hb, hx⟩ := h k c hc
  exact ⟨b, off, e, hb, by have := hx 0 _ rfl; rwa [Nat.mul_one] at this⟩
end
/-- The value 'pressV ..' reads in w as the press p. -/
structure PressIn (w : World) (B : Nat) (fa : Option Addr) (fl : Nat) (low top bales : Int) (wa : Option Addr) (wl : Nat) (p : PressD) : Prop where
  elow : p.low = low
  etop : p.top = top
  ebales : p.bales = bales
  efl : p.fl.length = fl
  ewl : p.weighed.length = wl
  mfl : fl ≤ 9223372036854775807
  mwl : wl ≤ 9223372036854775807
  hfl : RdG flF 3 w B fa p.fl
  hwl : RdG baF 3 w B wa p.weighed
section
variable {w w' : World} {B B' : Nat} {low top bales : Int} {fa wa : Option Addr} {fl wl : Nat} {p : PressD}
theorem PressIn.below (h : PressIn w B fa fl low top bales wa wl p) (hb : Below B w w') : PressIn w' B fa fl low top bales wa wl p := { h with hfl := h.hfl.below hb, hwl := h.hwl.below hb }
theorem PressIn.more (h : PressIn w B fa fl low top bales wa wl p) (hB : B ≤ B') : PressIn w B' fa fl low top bales wa wl p := { h with hfl := h.hfl.more hB, hwl := h.hwl.more hB }
theorem PressIn.grow (h : PressIn w w.heap.size fa fl low top bales wa wl p) (hb : Below w.heap.size w w') : PressIn w' w'.heap.size fa fl low top bales wa wl p := (h.below hb).more hb.size
end
/-- The shed at block d reads as the press p; all lies below B. -/
structure ShedIn (w : World) (B d : Nat) (fa : Option Addr) (fl fc : Nat) (low top bales : Int) (wa : Option Addr) (wl wc : Nat) (p : PressD) : Prop where
  hB : B ≤ w.heap.size
  hd : d < B
  c0 : w.cell? ⟨d, 0, none⟩ = some (.slice fa fl fc)
  c1 : w.cell? ⟨d, 1, none⟩ = some (.int .i64 low)
  c2 : w.cell? ⟨d, 2, none⟩ = some (.int .i64 top)
  c3 : w.cell? ⟨d, 3, none⟩ = some (.int .i64 bales)
  c4 : w.cell? ⟨d, 4, none⟩ = some (.slice wa wl wc)
  rd : PressIn w B fa fl low top bales wa wl p
section
variable {B d : Nat} {low top bales : Int} {fa wa : Option Addr} {fl fc wl wc : Nat} {p : PressD}
theorem ShedIn.grow {w w' : World} (h : ShedIn w B d fa fl fc low top bales wa wl wc p) (hb : Below w.heap.size w w') : ShedIn w' B d fa fl fc low top bales wa wl wc p := by
  have hb1 : Below B w w' := hb.mono h.hB
  have e : ∀ o, w'.cell? ⟨d, o, none⟩ = w.cell? ⟨d, o, none⟩ := fun o => hb1.cell (p := ⟨d, o, none⟩) h.hd
  exact ⟨Nat.le_trans h.hB hb.size, h.hd, by rw [e]; exact h.c0, by rw [e]; exact h.c1, by rw [e]; exact h.c2, by rw [e]; exact h.c3, by rw [e]; exact h.c4, h.rd.below hb1⟩

theorem within_any (n lo hi : Int) (w : World) :
    Calls Try.prog 104 #[.int .i64 n, .int .i64 lo, .int .i64 hi] w fun e w' => e = .returned (.bool (inB n lo hi)) ∧ w' = w := by
  by_cases h1 : lo ≤ n
  · have hl : decide (lo ≤ n) = true := by simp [h1]
    go_enter Try.func104, Try.ntmps104
    go_wp2
    go_ret
    exact ⟨ret_bool (by simp [inB, h1]), rfl⟩
  · have hl : decide (lo ≤ n) = false := by simp [h1]
    go_enter Try.func104, Try.ntmps104
    go_wp2
    go_ret
    exact ⟨ret_bool (by simp [inB]; omega), rfl⟩
theorem isIn_any (s : Sp) (low high : Int) (w : World) :
    Calls Try.prog 105 #[spV s, .int .i64 low, .int .i64 high] w fun e w' => e = .returned (.bool (spanB s low high)) ∧ Below w.heap.size w w' := by
  obtain ⟨lo, hi⟩ := s
  unfold spV
  by_cases h0 : low ≤ lo
  · have hl0 : decide (low ≤ lo) = true := by simp [h0]
    by_cases h1 : lo ≤ hi
    · have hl : decide (lo ≤ hi) = true := by simp [h1]
      go_enter Try.func105, Try.ntmps105
      go_wp2
      go_ret
      exact ⟨ret_bool (by simp [spanB, h0, h1]), (by repeat (first | exact Below.refl _ _ | assumption | refine Below.drew ?_ | refine below_drewN ?_ _ | refine Below.alloc ?_ (by (try simp) <;> omega) _ | refine Below.setCell ?_ (by (try simp) <;> omega) _ | refine Below.trans ?_ (Below.mono (by assumption) (by (try simp) <;> omega))))⟩
    · have hl : decide (lo ≤ hi) = false := by simp [h1]
      go_enter Try.func105, Try.ntmps105
      go_wp2
      go_ret
      exact ⟨ret_bool (by simp [spanB, h0]; omega), (by repeat (first | exact Below.refl _ _ | assumption | refine Below.drew ?_ | refine below_drewN ?_ _ | refine Below.alloc ?_ (by (try simp) <;> omega) _ | refine Below.setCell ?_ (by (try simp) <;> omega) _ | refine Below.trans ?_ (Below.mono (by assumption) (by (try simp) <;> omega))))⟩
  · have hl0 : decide (low ≤ lo) = false := by simp [h0]
    go_enter Try.func105, Try.ntmps105
    go_wp2
    go_ret
    exact ⟨ret_bool (by simp [spanB]; omega), (by repeat (first | exact Below.refl _ _ | assumption | refine Below.drew ?_ | refine below_drewN ?_ _ | refine Below.alloc ?_ (by (try simp) <;> omega) _ | refine Below.setCell ?_ (by (try simp) <;> omega) _ | refine Below.trans ?_ (Below.mono (by assumption) (by (try simp) <;> omega))))⟩
theorem plus_any (a b : Sp) (ha : midS 1000000000 a) (hb : midS 1000000000 b) (w : World) :
    Calls Try.prog 138 #[spV a, spV b] w fun e w' => e = .returned (spV (plusS a b)) ∧ Below w.heap.size w w' := by
  obtain ⟨a0, a1⟩ := a
  obtain ⟨b0, b1⟩ := b
  obtain ⟨x0, x1, x2, x3⟩ := ha
  obtain ⟨y0, y1, y2, y3⟩ := hb
  simp only at x0 x1 x2 x3 y0 y1 y2 y3
  unfold spV
  go_enter Try.func138, Try.ntmps138
  go_wp2
  refine bodyPost_ret (v := spV (plusS ⟨a0, a1⟩ ⟨b0, b1⟩)) (by simp [results, Try.results138, go_sem, spV, plusS]) rfl ⟨by simp [spV], (by repeat (first | exact Below.refl _ _ | assumption | refine Below.drew ?_ | refine below_drewN ?_ _ | refine Below.alloc ?_ (by (try simp) <;> omega) _ | refine Below.setCell ?_ (by (try simp) <;> omega) _ | refine Below.trans ?_ (Below.mono (by assumption) (by (try simp) <;> omega))))⟩
theorem known_any (a o b : Sp) (ha : midS 1000000000 o) (hb : midS 1000000000 b) (w : World) :
    Calls Try.prog 107 #[spV a, spV o, spV b] w fun e w' => e = .returned (spV (knownS a o b)) ∧ Below w.heap.size w w' := by
  obtain ⟨a0, a1⟩ := a
  obtain ⟨o0, o1⟩ := o
  obtain ⟨b0, b1⟩ := b
  obtain ⟨x0, x1, x2, x3⟩ := ha
  obtain ⟨y0, y1, y2, y3⟩ := hb
  simp only at x0 x1 x2 x3 y0 y1 y2 y3
  unfold spV
  go_enter Try.func107, Try.ntmps107
  go_wp2
  all_goals refine bodyPost_ret (v := spV (knownS ⟨a0, a1⟩ ⟨o0, o1⟩ ⟨b0, b1⟩)) (by simp [results, Try.results107, go_sem, spV, knownS]; omega) rfl ⟨by simp [spV], (by repeat (first | exact Below.refl _ _ | assumption | refine Below.drew ?_ | refine below_drewN ?_ _ | refine Below.alloc ?_ (by (try simp) <;> omega) _ | refine Below.setCell ?_ (by (try simp) <;> omega) _ | refine Below.trans ?_ (Below.mono (by assumption) (by (try simp) <;> omega))))⟩
def refE (e : Int) : PanicEntry := { v := .iface 128 (.int .i64 e), recovered := false }
def askE (b : Bool) (e : Int) : Ending := if b then .returned (.tuple #[]) else .panicked [refE e]
theorem ask_any (b : Bool) (e : Int) (w : World) : Calls Try.prog 71 #[.bool b, .int .i64 e] w fun en w' => en = askE b e ∧ w' = w := by
  cases b
  · go_enter Try.func71, Try.ntmps71
    go_wp2
    exact ⟨rfl, rfl, rfl⟩
  · go_enter Try.func71, Try.ntmps71
    go_wp2
    go_end0
    exact ⟨rfl, rfl⟩
theorem two_pow_small : ∀ k : Nat, k ≤ 60 → (2 : Int) ^ k ≤ 1152921504606846976 := fun k hk => by
  have : (2 : Nat) ^ k ≤ 2 ^ 60 := Nat.pow_le_pow_right (by omega) hk
  have h2 : ((2 ^ k : Nat) : Int) ≤ ((2 ^ 60 : Nat) : Int) := by exact_mod_cast this
  simpa using h2
theorem full_int (n : Nat) : ((full n : Nat) : Int) = 2 ^ n - 1 := by
  have h := Nat.two_pow_pos n
  have h2 : ((2 ^ n : Nat) : Int) = 2 ^ n := by simp
  unfold full; omega
theorem isSet_any (hn : p.n ≤ 60) (n : Int) (w : World) (hD : ShedIn w B d fa fl fc low top bales wa wl wc p) :
    Calls Try.prog 57 #[(.pointer (some ⟨d, 0, none⟩)), .int .i64 n] w fun e w' => e = .returned (.bool (p.setB n)) ∧ w' = w := by
  have HW : Hid (p.setB n = inB n 0 (2 ^ fl - 1)) := by show _ = _; rw [PressD.setB, full_int]; unfold PressD.n; rw [hD.rd.efl]
  have H0 := hD.c0
  have hf : fl ≤ 60 := by have := hD.rd.efl; unfold PressD.n at hn; omega
  have hp := two_pow_small fl hf
  have hp0 : (0 : Int) ≤ 2 ^ fl := Int.pow_nonneg (by omega)
  clear hD hn
  go_enter Try.func57, Try.ntmps57
  go_wp2_with fail
  refine (within_any _ _ _ _).mono ?_
  rintro e w' ⟨rfl, rfl⟩
  go_wp2
  go_ret
  exact ⟨ret_bool (by rw [HW.out]), rfl⟩
end
end Go.Proofs.Ytbfjebglaimcmaa
