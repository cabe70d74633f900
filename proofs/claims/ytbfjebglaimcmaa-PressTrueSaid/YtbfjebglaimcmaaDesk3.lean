/- The walks of alike, wrong, told, and of both questions (sure, may); conditions: the shed is read, its press is valid, the set is one of fleeces. -/
import Derived.Test.YtbfjebglaimcmaaDesk2
namespace Go.Proofs.Ytbfjebglaimcmaa
open Go.RowKit Go.Hav
/-- The line of the first fleece of a set, of the first k; -1: none is of it. -/
def lineF (p : PressD) (s : Nat) : Nat → Int
  | 0 => -1
  | k + 1 => if s.testBit k = true then (if lineF p s k < 0 then p.line k else lineF p s k) else lineF p s k
theorem lineF_neg {p : PressD} (h : p.ok = true) (s : Nat) : ∀ {k}, k ≤ p.n → -1 ≤ lineF p s k ∧ lineF p s k ≤ 2 ∧ (lineF p s k < 0 ↔ ∀ i, i < k → s.testBit i = false) := by
  intro k
  induction k with
  | zero => intro _; simp [lineF]
  | succ k ih =>
    intro hk
    obtain ⟨h1, h2, h3⟩ := ih (by omega)
    have hl := PressD.ok_fl h (i := k) (by omega)
    rw [lineF]
    by_cases hb : s.testBit k = true
    · rw [if_pos hb]
      refine ⟨by split <;> omega, by split <;> omega, ⟨fun h4 => ?_, fun h4 => ?_⟩⟩
      · split at h4 <;> omega
      · have := h4 k (by omega); rw [hb] at this; cases this
    · rw [if_neg hb]
      refine ⟨h1, h2, h3.trans ⟨fun h4 i hi => ?_, fun h4 i hi => h4 i (by omega)⟩⟩
      by_cases e : i = k
      · subst e; simpa using hb
      · exact h4 i (by omega)
theorem alike_iff {p : PressD} (h : p.ok = true) (s : Nat) (hs : ∀ i, i < p.n → s.testBit i = true → p.line i = lineF p s p.n) : p.alike s = decide (0 ≤ lineF p s p.n) := by
  have h3 := (lineF_neg h s (Nat.le_refl p.n)).2.2
  have h5 : (List.range p.n).all (fun i => (List.range p.n).all fun j => !s.testBit i || !s.testBit j || decide (p.line i = p.line j)) = true := by
    simp only [List.all_eq_true, List.mem_range, Bool.or_eq_true, Bool.not_eq_true', decide_eq_true_eq]
    intro i hi j hj
    by_cases hb : s.testBit i = true
    · by_cases hc : s.testBit j = true
      · right; rw [hs i hi hb, hs j hj hc]
      · left; right; simpa using hc
    · left; left; simpa using hb
  rw [PressD.alike, h5, Bool.and_true, Bool.eq_iff_iff, decide_eq_true_eq]
  simp only [List.any_eq_true, List.mem_range]
  constructor
  · rintro ⟨i, hi, hb⟩
    rcases Int.lt_or_le (lineF p s p.n) 0 with h6 | h6
    · have := (h3.1 h6) i hi; rw [hb] at this; cases this
    · exact h6
  · intro h6
    apply Classical.byContradiction
    intro h7
    have : lineF p s p.n < 0 := h3.2 fun i hi => by
      cases hb : s.testBit i
      · rfl
      · exact absurd ⟨i, hi, hb⟩ h7
    omega
theorem lineF_at {p : PressD} {s : Nat} : ∀ {k : Nat}, 0 ≤ lineF p s k → ∃ i, i < k ∧ s.testBit i = true ∧ p.line i = lineF p s k := by
  intro k
  induction k with
  | zero => intro h; simp [lineF] at h
  | succ k ih =>
    intro h
    rw [lineF] at h ⊢
    by_cases hb : s.testBit k = true
    · rw [if_pos hb] at h ⊢
      by_cases hn : lineF p s k < 0
      · rw [if_pos hn]; exact ⟨k, by omega, hb, rfl⟩
      · rw [if_neg hn]
        obtain ⟨i, h1, h2, h3⟩ := ih (by omega)
        exact ⟨i, by omega, h2, h3⟩
    · rw [if_neg hb] at h ⊢
      obtain ⟨i, h1, h2, h3⟩ := ih h
      exact ⟨i, by omega, h2, h3⟩
theorem alike_no {p : PressD} {s i j : Nat} (hi : i < p.n) (hj : j < p.n) (hb : s.testBit i = true) (hc : s.testBit j = true) (hne : p.line i ≠ p.line j) : p.alike s = false := by
  cases h : p.alike s
  · rfl
  · simp only [PressD.alike, Bool.and_eq_true, List.all_eq_true, List.mem_range, Bool.or_eq_true, Bool.not_eq_true', decide_eq_true_eq] at h
    rcases h.2 i hi j hj with (h1 | h1) | h1
    · rw [hb] at h1; cases h1
    · rw [hc] at h1; cases h1
    · exact absurd h1 hne
section
variable {B d : Nat} {low top bales : Int} {fa wa : Option Addr} {fl fc wl wc : Nat} {p : PressD}
set_option maxRecDepth 100000 in
set_option maxHeartbeats 1600000 in
theorem alike_any (hv : p.ok = true) (s : Nat) (hs : s < 1024) (w : World) (hD : ShedIn w B d fa fl fc low top bales wa wl wc p) :
    Calls Try.prog 112 #[(.pointer (some ⟨d, 0, none⟩)), .int .u64 s] w fun e w' => e = .returned (.bool (p.alike s)) ∧ Below w.heap.size w w' := by
  have HD := Lib.hid hD
  have HV := Lib.hid hv
  have p0 := hD.c0
  have hdw : d < w.heap.size := Nat.lt_of_lt_of_le hD.hd hD.hB
  have hn := (PressD.ok_head hv).1
  have HE : Hid (p.n = fl) := hD.rd.efl
  have hfl : fl ≤ 10 := by have := HE.out; omega
  clear hv hD hn
  go_enter Try.func112, Try.ntmps112
  go_wp2
  go_loopw [5, 14] (fun l i wr => ∃ (k : Nat) (L : Int), k ≤ fl ∧ i = .int .i64 k ∧ l = .int .i64 L ∧ Hid (lineF p s k = L) ∧ -1 ≤ L ∧ L ≤ 2 ∧ Hid (∀ i, i < k → s.testBit i = true → p.line i = L) ∧ Below w.heap.size w wr) (fun _ i _ => fl - (intOf i).toNat)
  case atStart => exact ⟨0, -1, Nat.zero_le _, rfl, rfl, rfl, by omega, by omega, fun i hi => by omega, Below.refl _ _⟩
  case round =>
    obtain ⟨k, L, hk, rfl, rfl, HL, hl1, hl2, HS, hbw⟩ := hrel
    have HB := Lib.hid hbw
    have hsz := hbw.size
    clear hbw
    by_cases hlt : k < fl
    · obtain ⟨c, hc⟩ : ∃ c, p.fl[k]? = some c := ⟨p.fl[k]'(by have := HE.out; unfold PressD.n at this; omega), by simp⟩
      have HC := Lib.hid (fw_of hc)
      have hcl : 0 ≤ c.line ∧ c.line ≤ 2 := by
        have := PressD.ok_fl HV.out (i := k) (by rw [HE.out]; exact hlt)
        rw [HC.out.2] at this; omega
      obtain ⟨hcl0, hcl1⟩ := hcl
      obtain ⟨b, off, rfl, hbl, H0, H1, H2⟩ := rd_fl ((HD.out.grow HB.out).rd.hfl) k c hc
      have hbw : b < wr.heap.size := Nat.lt_of_lt_of_le hbl (HD.out.grow HB.out).hB
      have htb := tb0_u64 s k (by omega)
      obtain ⟨⟨c0, c1⟩, cl⟩ := c
      simp only at H0 H1 H2 hcl0 hcl1 HC
      clear hc
      cases hbit : s.testBit k
      · have HL2 : Hid (lineF p s (k + 1) = L) := by show _ = _; rw [lineF, if_neg (by rw [hbit]; simp), HL.out]
        have HS2 : Hid (∀ i, i < k + 1 → s.testBit i = true → p.line i = L) := fun i hi hb => by
          by_cases e : i = k
          · subst e; rw [hbit] at hb; cases hb
          · exact HS.out i (by omega) hb
        rw [hbit] at htb
        simp only [Bool.not_false] at htb
        clear hbit
        go_wp2
        go_roundw
        case rel => exact ⟨k + 1, L, by omega, by go_num, rfl, HL2, by omega, by omega, HS2, HB.out.alloc (by omega) _⟩
        case measure => simp [intOf]; omega
      · rw [hbit] at htb
        simp only [Bool.not_true] at htb
        by_cases hL : L < 0
        · have HL2 : Hid (lineF p s (k + 1) = cl) := by show _ = _; rw [lineF, if_pos hbit, HL.out, if_pos hL, HC.out.2]
          have HS2 : Hid (∀ i, i < k + 1 → s.testBit i = true → p.line i = cl) := fun i hi hb => by
            by_cases e : i = k
            · subst e; exact HC.out.2
            · have h0 := (lineF_neg HV.out s (k := k) (by rw [HE.out]; omega)).2.2.1 (by rw [HL.out]; exact hL) i (by omega)
              rw [hb] at h0; cases h0
          clear hbit
          go_wp2
          go_roundw
          case rel => exact ⟨k + 1, cl, by omega, by go_num, rfl, HL2, by omega, by omega, HS2, HB.out.alloc (by omega) _⟩
          case measure => simp [intOf]; omega
        · by_cases hne : L = cl
          · have HL2 : Hid (lineF p s (k + 1) = L) := by show _ = _; rw [lineF, if_pos hbit, HL.out, if_neg hL]
            have HS2 : Hid (∀ i, i < k + 1 → s.testBit i = true → p.line i = L) := fun i hi hb => by
              by_cases e : i = k
              · subst e; rw [hne]; exact HC.out.2
              · exact HS.out i (by omega) hb
            have hbn : (L != cl) = false := by simp [hne]
            clear hbit hne
            go_wp2
            go_roundw
            case rel => exact ⟨k + 1, L, by omega, by go_num, rfl, HL2, by omega, by omega, HS2, HB.out.alloc (by omega) _⟩
            case measure => simp [intOf]; omega
          · have HF : Hid (p.alike s = false) := by
              obtain ⟨i, h1, h2, h3⟩ := lineF_at (p := p) (s := s) (k := k) (by rw [HL.out]; omega)
              exact alike_no (by have := HE.out; omega) (by rw [HE.out]; exact hlt) h2 hbit (by rw [h3, HL.out, HC.out.2]; exact hne)
            have hbn : (L != cl) = true := by simp [hne]
            clear hbit hne
            go_wp2
            go_ret
            exact ⟨ret_bool HF.out.symm, HB.out.alloc (by omega) _⟩
    · obtain rfl : fl = k := by omega
      have HF : Hid (p.alike s = decide (0 ≤ L)) := by
        have h := alike_iff HV.out s (fun i hi hb => by rw [HE.out] at hi ⊢; rw [HL.out]; exact HS.out i hi hb)
        rw [HE.out, HL.out] at h
        exact h
      go_wp2
      go_ret
      exact ⟨ret_bool (by rw [HF.out]), HB.out⟩
end
end Go.Proofs.Ytbfjebglaimcmaa
