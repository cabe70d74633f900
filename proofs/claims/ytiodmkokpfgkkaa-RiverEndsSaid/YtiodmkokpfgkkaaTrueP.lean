/- What the law RiverTrue asks, in plain Lean: a truth whose looks are right is one of the river that it makes. -/
import Derived.Test.YtiodmkokpfgkkaaOkR
import Derived.Test.YtiodmkokpfgkkaaBearsP
namespace Go.Proofs.Ytiodmkokpfgkkaa
/-- How much all freshes have brought until a day. -/
def comeS (ds rs : Nat → Nat) (day : Nat) : Nat → Nat
 | 0 => 0
 | n + 1 => comeS ds rs day n + if ds n ≤ day then rs n else 0
theorem comeS_step (ds rs : Nat → Nat) (day : Nat) : ∀ n, comeS ds rs day n + riseN ds rs (day + 1) n = comeS ds rs (day + 1) n
 | 0 => rfl
 | n + 1 => by
  have h := comeS_step ds rs day n
  have e1 : comeS ds rs day (n + 1) = comeS ds rs day n + if ds n ≤ day then rs n else 0 := rfl
  have e2 : comeS ds rs (day + 1) (n + 1) = comeS ds rs (day + 1) n + if ds n ≤ day + 1 then rs n else 0 := rfl
  have e3 : riseN ds rs (day + 1) (n + 1) = riseN ds rs (day + 1) n + if ds n = day + 1 then rs n else 0 := rfl
  rw [e1, e2, e3]
  by_cases h1 : ds n ≤ day
  ·rw [if_pos h1, if_pos (show ds n ≤ day + 1 by omega), if_neg (show ¬ ds n = day + 1 by omega)]; omega
  ·by_cases h2 : ds n = day + 1
   ·rw [if_neg h1, if_pos h2, if_pos (show ds n ≤ day + 1 by omega)]; omega
   ·rw [if_neg h1, if_neg h2, if_neg (show ¬ ds n ≤ day + 1 by omega)]; omega
theorem at_come (d b n : Nat) (ds rs : Nat → Nat) : ∀ day, atF d b n ds rs day ≤ d + comeS ds rs day n
 | 0 => by rw [atF]; omega
 | k + 1 => by
  have h := at_come d b n ds rs k
  have h2 := comeS_step ds rs k n
  rw [atF]; omega
theorem comeS_le {ds rs : Nat → Nat} {day : Nat} : ∀ n, (∀ i, i < n → rs i ≤ 20) → comeS ds rs day n ≤ 20 * n
 | 0, _ => by simp [comeS]
 | n + 1, h => by
  have h1 := comeS_le n (fun i hi => h i (by omega)) (ds := ds) (day := day)
  have h2 := h n (by omega)
  rw [comeS]
  split <;> omega
theorem run_all {f : Nat → Bool} : ∀ n d, d < runN f n → f d = true
 | 0, d, h => by simp [runN] at h
 | n + 1, d, h => by
  rw [runN] at h
  split at h
  ·rename_i hh
   by_cases e : d = n
   ·rw [e]; exact hh.2
   ·exact run_all n d (by omega)
  ·exact run_all n d h
theorem last_all {f : Nat → Bool} : ∀ n d, d < n → f d = true → d < lastN f n
 | 0, d, h, _ => by omega
 | n + 1, d, h, hf => by
  rw [lastN]
  split
  ·omega
  ·rename_i hh
   by_cases e : d = n
   ·rw [e] at hf; exact absurd hf hh
   ·exact last_all n d (by omega) hf
/-- A truth, and looks that are right. -/
structure TrueIn (r : IRiv) (t : Tr) (lk : List ILk) : Prop where
 b1 : r.nat.fall.lo ≤ t.by_
 b2 : t.by_ ≤ r.nat.fall.hi
 d1 : r.nat.depth.lo ≤ t.d
 d2 : t.d ≤ r.nat.depth.hi
 sp : InSp r.nat.fr t.dsF t.rsF
 nds : t.ds.length = r.fr.length
 nrs : t.rs.length = r.fr.length
 len : lk.length = r.lk.length
 ok : ∀ (k : Nat) (l : ILk), lk[k]? = some l → ∃ l0 : ILk, r.lk[k]? = some l0 ∧ l.day = l0.day ∧ ∃ a c : Nat, a ≤ 3 ∧ c ≤ 3 ∧ l.dep.lo = ((t.at_ l0.day.toNat - a : Nat) : Int) ∧ l.dep.hi = ((t.at_ l0.day.toNat + c : Nat) : Int)
/-- The river with other looks. -/
def lR (r : IRiv) (lk : List ILk) : IRiv := { r with lk := lk }
section
variable {r : IRiv} {t : Tr} {lk : List ILk}
theorem TrueIn.at_le (hv : okR r = true) (h : TrueIn r t lk) (day : Nat) : t.at_ day ≤ 120 := by
 obtain ⟨⟨h1, h2, h3, h4, h5⟩, h6, h7⟩ := okR_pts hv
 have a := at_come t.d t.by_ t.ds.length t.dsF t.rsF day
 have b := comeS_le (ds := t.dsF) (rs := t.rsF) (day := day) t.ds.length (fun i hi => by
  rw [h.nds] at hi
  have hf : r.fr[i]? = some r.fr[i] := List.getElem?_eq_getElem hi
  have hs := (h.sp i (r.fr[i]).nat (by show (r.fr.map _)[i]? = _; rw [List.getElem?_map, hf]; rfl)).2.2.2
  have := (up_ok hv hf (m := 0) (by omega)).2.2.2.1
  have e : (r.fr[i]).nat.rise.hi = (r.fr[i]).rise.hi.toNat := rfl
  omega)
 have hd := h.d2
 have e : r.nat.depth.hi = r.depth.hi.toNat := rfl
 have := (okR_sp hv).2.2.1
 have hn := h.nds
 unfold Tr.at_
 omega
theorem TrueIn.ok_ (hv : okR r = true) (h : TrueIn r t lk) : okR (lR r lk) = true := by
 obtain ⟨⟨h1, h2, h3, h4, h5⟩, h6, h7⟩ := okR_pts hv
 refine okR_mk h1 h2 h3 h4 (by show lk.length ≤ 5; rw [h.len]; exact h5) (fun f hf => List.all_eq_true.1 h6 f hf) (fun l hl => ?_)
 obtain ⟨k, hk⟩ := List.getElem?_of_mem hl
 obtain ⟨l0, e0, e1, a, c, ha, hc, e2, e3⟩ := h.ok k l hk
 have hl0 := List.all_eq_true.1 h7 l0 (List.mem_of_getElem? e0)
 have hat := h.at_le hv l0.day.toNat
 unfold lkB at hl0 ⊢
 rw [Bool.and_eq_true] at hl0 ⊢
 refine ⟨by rw [e1]; exact hl0.1, spB_iff.2 ⟨by omega, by omega, by omega, by omega⟩⟩
theorem TrueIn.mem (hv : okR r = true) (h : TrueIn r t lk) : t ∈ truthsA (lR r lk).nat := by
 obtain ⟨⟨h1, h2, h3, h4, h5⟩, h6, h7⟩ := okR_pts (h.ok_ hv)
 have hday : ∀ (k : Nat) (l : ILk), lk[k]? = some l → inB l.day 0 r.days = true := fun k l hk => by
  have := List.all_eq_true.1 h7 l (List.mem_of_getElem? hk)
  unfold lkB at this
  rw [Bool.and_eq_true] at this
  exact this.1
 refine (mem_truthsP (r := (lR r lk).nat) (fun l hl => ?_)).2 ⟨by rw [h.nds]; show _ = (r.fr.map _).length; rw [List.length_map], by rw [h.nrs]; show _ = (r.fr.map _).length; rw [List.length_map], h.b1, h.b2, ⟨h.d1, h.d2, h.sp, fun day _ => fits_iff.2 fun k l hk _ hd => ?_⟩⟩
 ·obtain ⟨g, hg, rfl⟩ := List.mem_map.1 hl
  obtain ⟨k, hk⟩ := List.getElem?_of_mem hg
  have := inB_iff.1 (hday k g hk)
  show g.day.toNat ≤ r.days.toNat
  omega
 ·have hk' : (lk.map (·.nat))[k]? = some l := hk
  rw [List.getElem?_map] at hk'
  obtain ⟨g, hg, rfl⟩ := Option.map_eq_some_iff.1 hk'
  obtain ⟨l0, e0, e1, a, c, ha, hc, e2, e3⟩ := h.ok k g hg
  have hat : t.at_ l0.day.toNat = atF t.d t.by_ (lR r lk).nat.fr.length t.dsF t.rsF day := by
   have hn : (lR r lk).nat.fr.length = t.ds.length := by rw [h.nds]; show (r.fr.map _).length = _; rw [List.length_map]
   rw [hn, ← hd]
   show atF _ _ _ _ _ _ = atF _ _ _ _ _ g.day.toNat
   rw [e1]
  rw [← hat]
  show g.dep.lo.toNat ≤ _ ∧ _ ≤ g.dep.hi.toNat
  omega
theorem TrueIn.ne (hv : okR r = true) (h : TrueIn r t lk) : truthsA (lR r lk).nat ≠ [] := fun e => by have := h.mem hv; rw [e] at this; cases this
theorem TrueIn.in_ (hv : okR r = true) (h : TrueIn r t lk) (d : Nat) : (depthP (lR r lk).nat d).1 ≤ t.at_ d ∧ t.at_ d ≤ (depthP (lR r lk).nat d).2 := by
 have H := depthP_hull (h.ne hv) d
 have hm := List.mem_map_of_mem (f := fun t : Tr => t.at_ d) (h.mem hv)
 exact ⟨H.le _ hm, H.ge _ hm⟩
theorem TrueIn.fall (hv : okR r = true) (h : TrueIn r t lk) : (fallQ (lR r lk).nat).1 ≤ t.by_ ∧ t.by_ ≤ (fallQ (lR r lk).nat).2 := by
 have H : IsHull ((truthsA (lR r lk).nat).map (·.by_)) (fallQ (lR r lk).nat) := hullP_is (fun e => h.ne hv (List.map_eq_nil_iff.1 e))
 have hm := List.mem_map_of_mem (f := fun t : Tr => t.by_) (h.mem hv)
 exact ⟨H.le _ hm, H.ge _ hm⟩
theorem TrueIn.fresh (hv : okR r = true) (h : TrueIn r t lk) (k : Nat) : (freshP (lR r lk).nat k).testBit (t.dsF k) = true := by
 unfold freshP
 rw [tb_orP]
 exact decide_eq_true (List.mem_map_of_mem (f := fun t : Tr => t.dsF k) (h.mem hv))
/-- What a boat's answers say of the truth. -/
theorem TrueIn.boat (hv : okR r = true) (h : TrueIn r t lk) (n d : Nat) (hd : d ≤ r.nat.days) :
  (bearsP (lR r lk).nat n d = 2 → n ≤ t.at_ d) ∧ (bearsP (lR r lk).nat n d = 0 → ¬ n ≤ t.at_ d) ∧ ((surelyP (lR r lk).nat n).testBit d = true → n ≤ t.at_ d) ∧ ((perhapsP (lR r lk).nat n).testBit d = false → ¬ n ≤ t.at_ d) ∧
  (d < untilP (lR r lk).nat n → n ≤ t.at_ d) ∧ (lastP (lR r lk).nat n ≤ d → ¬ n ≤ t.at_ d) := by
 obtain ⟨h1, h2⟩ := h.in_ hv d
 have ht := h.ne hv
 have hlo : ∀ {x}, loB (lR r lk).nat n x = true → n ≤ (depthP (lR r lk).nat x).1 := fun hx => of_decide_eq_true hx
 have hdd : d < (lR r lk).nat.days + 1 := by show d < r.nat.days + 1; omega
 refine ⟨fun e => ?_, fun e => ?_, fun e => ?_, fun e => ?_, fun e => ?_, fun e => ?_⟩
 ·have := bears_two (lR r lk).nat n d
  rw [e] at this
  have := of_decide_eq_true this.symm
  omega
 ·have := bears_zero ht n d
  rw [e] at this
  have := of_decide_eq_false this.symm
  omega
 ·rw [surely_lo, tb_setN, Bool.and_eq_true] at e
  have := hlo e.2
  omega
 ·rw [perhaps_hi ht, tb_setN, decide_eq_true hdd, Bool.true_and] at e
  have := of_decide_eq_false e
  omega
 ·rw [until_lo] at e
  have := hlo (run_all _ _ e)
  omega
 ·rw [last_hi ht] at e
  intro hn
  have := last_all (f := hiB (lR r lk).nat n) ((lR r lk).nat.days + 1) d hdd (show hiB (lR r lk).nat n d = true from decide_eq_true (Nat.le_trans hn h2))
  omega
theorem TrueIn.sub (hv : okR r = true) (h : TrueIn r t lk) (n j : Nat) (hj : (surelyP (lR r lk).nat n).testBit j = true) : (perhapsP (lR r lk).nat n).testBit j = true := by
 have ht := h.ne hv
 rw [surely_lo] at hj
 rw [perhaps_hi ht]
 refine setN_sub (fun i hi => ?_) _ _ hj
 have h1 := of_decide_eq_true hi
 have h2 := depthP_le ht i
 exact decide_eq_true (by omega)
end
end Go.Proofs.Ytiodmkokpfgkkaa
