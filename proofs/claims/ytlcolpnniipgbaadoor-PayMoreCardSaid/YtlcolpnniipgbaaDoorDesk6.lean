/- The walks of wrong, told, wages. The walk of wages. The walks of the closures that open hands to slices.ContainsFunc, and of that. What the range over backwards leaves in the map: the calls that stand. -/
import Derived.Test.YtlcolpnniipgbaaDoorDesk4
import Derived.Test.YtlcolpnniipgbaaDoorRef14
namespace Go.Proofs.YtlcolpnniipgbaaDoor
open Go.RowKit Go.Hav
section
variable {B d r : Nat} {people rate bill : Int} {ra ca da pa : Option Addr} {rl rc cl cc dl dc pl pc : Nat} {p : PayD}
theorem or_any (k : Nat) (hk : k ≤ 3) (x : Int) (h0 : 0 ≤ x) (h1 : x < 2 ^ k) : bits BinOp.or IntKind.i64 x (wrap64 (2 ^ k)) = x + 2 ^ k := by
  have h : k = 0 ∨ k = 1 ∨ k = 2 ∨ k = 3 := by omega
  rcases h with rfl | rfl | rfl | rfl
  · obtain rfl : x = 0 := by omega
    show _ = _; kernel_rfl
  · have hx : x = 0 ∨ x = 1 := by omega
    rcases hx with rfl | rfl
    all_goals (show _ = _; kernel_rfl)
  · have hx : x = 0 ∨ x = 1 ∨ x = 2 ∨ x = 3 := by omega
    rcases hx with rfl | rfl | rfl | rfl
    all_goals (show _ = _; kernel_rfl)
  · have hx : x = 0 ∨ x = 1 ∨ x = 2 ∨ x = 3 ∨ x = 4 ∨ x = 5 ∨ x = 6 ∨ x = 7 := by omega
    rcases hx with rfl | rfl | rfl | rfl | rfl | rfl | rfl | rfl
    all_goals (show _ = _; kernel_rfl)

set_option maxRecDepth 100000 in
set_option maxHeartbeats 1600000 in
theorem dwrong_any (hv : payB p = true) (w : World) (hD : DeskM w B d r people ra rl rc ca cl cc rate bill da dl dc pa pl pc p) :
    Calls Tryd.prog 68 #[(.pointer (some ⟨d, 0, none⟩))] w fun e w' => e = .returned (.int .i64 (wrongI p)) ∧ Below w.heap.size w w' := by
  have HD := Lib.hid hD
  have HV := Lib.hid hv
  have p1 := hD.desk.c1
  have hdw : d < w.heap.size := Nat.lt_of_lt_of_le hD.desk.hd hD.desk.hB
  have hrl := hD.desk.pay.erl
  have mrl := hD.desk.pay.mrl
  have hb := payB_people hv
  have hn : rl ≤ 4 := by omega
  have HE2 := Lib.hid hrl
  clear hD hv hb hrl
  go_enter Tryd.func68, Tryd.ntmps68
  go_wp2
  go_loopw [2, 11] (fun out i wr => ∃ k : Nat, k ≤ rl ∧ i = .int .i64 k ∧ out = .int .i64 (wrongF p k) ∧ Below w.heap.size w wr) (fun _ i _ => rl - (intOf i).toNat)
  case atStart => exact ⟨0, Nat.zero_le _, rfl, rfl, Below.refl _ _⟩
  case round =>
    obtain ⟨k, hk, rfl, rfl, hb⟩ := hrel
    have HB := Lib.hid hb
    have hq := hb.size
    clear hb
    by_cases hlt : k < rl
    · have HW : Hid (wrongF p (k + 1) = wrongF p k + (if okRun p k then 0 else 2 ^ k)) := rfl
      obtain ⟨b0, b1⟩ := wrongF_bd p k
      have HO := Lib.hid (outS_iff HV.out k (by have := HE2.out; omega))
      have HOR := Lib.hid (or_any k (by omega) (wrongF p k) b0 b1)
      clear b1
      generalize wrongF p k = x at *
      go_wp2_with fail
      refine (out_any (p := p) (rl := rl) HV.out k (by omega) (by omega) _ (by exact HD.out.grow HB.out)).mono ?_
      obtain ⟨c, HC⟩ : ∃ c, Hid (outS p k = c) := ⟨_, rfl⟩
      rw [HC.out] at HO ⊢
      unfold spV
      rintro e w1 ⟨rfl, hbw1⟩; obtain ⟨hcw1, hfw1⟩ := bcell hbw1; have hzw1 := hbw1.size; (try simp at hzw1)
      by_cases hc : c.lo ≤ c.hi
      · have HW1 : Hid (wrongF p (k + 1) = x) := by show _ = _; rw [HW.out, HO.out.2 hc]; simp
        go_wp2
        go_roundw
        case rel => exact ⟨k + 1, by omega, by go_num, by rw [HW1.out], (HB.out.trans (hbw1.mono (by omega))).alloc (by omega) _⟩
        case measure => simp [intOf]; omega
      · have HW1 : Hid (wrongF p (k + 1) = x + 2 ^ k) := by
          show _ = _; rw [HW.out, if_neg]
          intro h; exact hc (HO.out.1 h)
        go_wp2
        go_roundw
        case rel => exact ⟨k + 1, by omega, by go_num, by rw [HW1.out, HOR.out], (HB.out.trans (hbw1.mono (by omega))).alloc (by omega) _⟩
        case measure => simp [intOf]; omega
    · obtain rfl : rl = k := by omega
      go_wp2
      go_ret
      exact ⟨ret_int (by rw [wrongI, HE2.out]), HB.out⟩

theorem told_any (hv : payB p = true) (w : World) (hD : DeskM w B d r people ra rl rc ca cl cc rate bill da dl dc pa pl pc p) :
    Calls Tryd.prog 52 #[(.pointer (some ⟨d, 0, none⟩))] w fun e w' => e = (if wrongI p = 0 then .returned (.pointer (some ⟨d, 0, none⟩)) else .panicked [refE 10]) ∧ Below w.heap.size w w' := by
  have HD := Lib.hid hD
  have HV := Lib.hid hv
  clear hD hv
  by_cases hz : wrongI p = 0
  · have hz1 : (wrongI p == 0) = true := by simp [hz]
    rw [if_pos hz]
    go_enter Tryd.func52, Tryd.ntmps52
    go_wp2_with fail
    refine (dwrong_any (p := p) HV.out _ (by exact HD.out)).mono ?_
    rintro e w1 ⟨rfl, hbw1⟩; obtain ⟨hcw1, hfw1⟩ := bcell hbw1; have hzw1 := hbw1.size; (try simp at hzw1)
    go_wp2_with fail
    refine (ask_any true 10 _).mono ?_
    rintro e w' ⟨h1, rfl⟩
    obtain rfl : e = .returned (.tuple #[]) := h1
    go_wp2
    go_ret
    exact ⟨rfl, hbw1⟩
  · rw [if_neg hz]
    have hz1 : (wrongI p == 0) = false := by simp [hz]
    go_enter Tryd.func52, Tryd.ntmps52
    go_wp2_with fail
    refine (dwrong_any (p := p) HV.out _ (by exact HD.out)).mono ?_
    rintro e w1 ⟨rfl, hbw1⟩; obtain ⟨hcw1, hfw1⟩ := bcell hbw1; have hzw1 := hbw1.size; (try simp at hzw1)
    go_wp2_with fail
    refine (ask_any false 10 _).mono ?_
    rintro e w' ⟨h1, rfl⟩
    obtain rfl : e = .panicked [refE 10] := h1
    go_wp2
    exact ⟨rfl, rfl, hbw1⟩
end
end Go.Proofs.YtlcolpnniipgbaaDoor
namespace Go.Proofs.YtlcolpnniipgbaaDoor
open Go.RowKit Go.Hav
def wagesL (p : PayD) (who rate : Int) : Nat → List Sp
  | 0 => []
  | k + 1 => wagesL p who rate k ++ [wageS (sheepS p who k) rate]
theorem wagesL_len (p : PayD) (who rate : Int) : ∀ k, (wagesL p who rate k).length = k := by
  intro k
  induction k with
  | zero => rfl
  | succ k ih => rw [wagesL, List.length_append, ih]; rfl
theorem wagesL_sum (p : PayD) (who rate : Int) : ∀ k : Nat, sumK (wagesL p who rate k) (wagesL p who rate k).length = wagesF (fun r => sheepS p who r) rate k := by
  intro k
  induction k with
  | zero => rfl
  | succ k ih => rw [wagesL, sumK_snoc, ih]; rfl
theorem wageS_mid {s : Sp} {rate : Int} (hr1 : 0 ≤ rate) (hr2 : rate ≤ 1000) (h0 : 0 ≤ s.lo) (h1 : s.lo ≤ 100) (h2 : 0 ≤ s.hi) (h3 : s.hi ≤ 100) : midS 1000000 (wageS s rate) := by
  obtain ⟨a0, a1⟩ := wage_bd h0 h1 hr1 hr2
  obtain ⟨b0, b1⟩ := wage_bd h2 h3 hr1 hr2
  unfold midS wageS
  simp only
  omega
section
variable {B d r : Nat} {people rate bill : Int} {ra ca da pa : Option Addr} {rl rc cl cc dl dc pl pc : Nat} {p : PayD}
set_option maxRecDepth 100000 in
set_option maxHeartbeats 1600000 in
theorem dwages_any (hv : payB p = true) (ht : wrongI p = 0) (who : Int) (h0 : 0 ≤ who) (h1 : who < people) (w : World) (hD : DeskM w B d r people ra rl rc ca cl cc rate bill da dl dc pa pl pc p) :
    Calls Tryd.prog 59 #[(.pointer (some ⟨d, 0, none⟩)), .int .i64 who] w fun e w' => e = .returned (spV (wagesF (fun r => sheepS p who r) rate rl)) ∧ Below w.heap.size w w' := by
  have HD := Lib.hid hD
  have HV := Lib.hid hv
  have p1 := hD.desk.c1
  have hdw : d < w.heap.size := Nat.lt_of_lt_of_le hD.desk.hd hD.desk.hB
  have hb := payB_people hv
  have hra := payB_rate hv
  have hpe := hD.desk.pay.epeople
  have hrt := hD.desk.pay.erate
  have hrl := hD.desk.pay.erl
  have mrl := hD.desk.pay.mrl
  have hn : rl ≤ 4 := by omega
  have hr1 : 0 ≤ rate := by omega
  have hr2 : rate ≤ 1000 := by omega
  have hw3 : who ≤ 1000 := by omega
  have HF : Hid (wagesF (fun r => sheepS p who r) rate rl = sumK (wagesL p who rate rl) (wagesL p who rate rl).length) := (wagesL_sum p who rate rl).symm
  have HS : Hid (∀ k : Nat, k < rl → 0 ≤ (sheepS p who k).lo ∧ (sheepS p who k).lo ≤ 100 ∧ 0 ≤ (sheepS p who k).hi ∧ (sheepS p who k).hi ≤ 100) := fun k hk => by
    have ho : okRun p k = true := (wrongI_zero p).1 ht k (by omega)
    have := sheepS_ok hv who k h0 (by omega) (by omega) (by omega) ho
    omega
  obtain ⟨i0, hi, hz0, hz1, hz2⟩ := info_parts Tryd.infoE80
  have HI := Lib.hid hi
  have HI0 := Lib.hid hz0
  have HI1 := Lib.hid hz1
  have HI2 := Lib.hid hz2
  clear hv hD hb hra hpe hrt hrl hi hz0 hz1 hz2 ht
  go_enter Tryd.func59, Tryd.ntmps59
  go_wp2
  go_loopw [5, 13] (fun l i wr => ∃ k : Nat, k ≤ rl ∧ i = .int .i64 k ∧ wr.ownsRow (w.heap.size + 1) 80 2 l (wagesL p who rate k).length ((wagesL p who rate k).flatMap spF) ∧
      Blk wr w.heap.size 80 #[.int .i64 0, .int .i64 0] ∧ Below w.heap.size w wr) (fun _ i _ => rl - (intOf i).toNat)
  case atStart => exact ⟨0, Nat.zero_le _, rfl, World.ownsRow_nil _ _ _ _, Blk.new_ (by simp) _ _, (Below.refl w.heap.size w).alloc (by simp) _⟩
  case round =>
    obtain ⟨k, hk, rfl, hown, hblk, hbw⟩ := hrel
    have HO := Lib.hid hown
    have HB := Lib.hid hbw
    have HK := Lib.hid hblk
    have hlt0 := hblk.lt
    clear hown hblk hbw
    by_cases hlt : k < rl
    · obtain ⟨x0, x1, x2, x3⟩ := HS.out k hlt
      have HL : Hid (wagesL p who rate (k + 1) = wagesL p who rate k ++ [wageS (sheepS p who k) rate]) := rfl
      go_wp2_with fail
      refine (sheep_any (p := p) (rl := rl) HV.out who k h0 hw3 (by omega) (by omega) _ (by exact HD.out.grow HB.out)).mono ?_
      obtain ⟨s, HSS⟩ : ∃ s, Hid (sheepS p who k = s) := ⟨_, rfl⟩
      rw [HSS.out] at HL x0 x1 x2 x3 ⊢
      unfold spV
      rintro e w1 ⟨rfl, hbw1⟩; obtain ⟨hcw1, hfw1⟩ := bcell hbw1; have hzw1 := hbw1.size; (try simp at hzw1)
      have HB1 : Hid (Below w.heap.size w w1) := HB.out.trans (hbw1.mono (by omega))
      go_wp2_with fail
      refine (wage_any (p := p) (d := d) s _ (by exact (HD.out.grow HB1.out).desk) hr1 hr2 x0 (by omega) x2 (by omega)).mono ?_
      obtain ⟨c, HC⟩ : ∃ c, Hid (wageS s rate = c) := ⟨_, rfl⟩
      rw [HC.out] at HL ⊢
      unfold spV
      rintro e w2 ⟨rfl, hbw2⟩; obtain ⟨hcw2, hfw2⟩ := bcell hbw2; have hzw2 := hbw2.size; (try simp at hzw2)
      have HB3 : Hid (Below w.heap.size w w2) := HB1.out.trans (hbw2.mono (by omega))
      have HOWN := Lib.hid ((own_below (own_below HO.out hbw1) hbw2).alloc (.cells #[.int .i64 c.lo, .int .i64 c.hi] 80))
      have HLEN := Lib.hid (wagesL_len p who rate k)
      go_wp2_with (at_builtin; go_loud (refine wpList_append_own _ rfl _ _ 111 rfl (w.heap.size + 1) 80 i0 _ 2 16 Tryd.underlying111 HI.out HI0.out HI1.out HI2.out rfl (by decide) _ _ _ rfl HOWN.out ⟨w2.heap.size, 0, none⟩ 1 1 (spF c) rfl rfl (news2 w2 c) (by simp [spF, Value.oneCell']) (by have := HLEN.out; unfold maxLen; omega) (by have := HLEN.out; omega) (by simp; omega) ?_))
      intro v' w3 hown2 hgrow2 _
      have HO2 := Lib.hid hown2
      have HG2 : Hid (Below w.heap.size w w3) := Below.grown (HB3.out.alloc (by omega) _) hgrow2 (by simp; omega) (fun k' hk' => by have := (HOWN.out.lt k' hk').1; omega)
      have HK2 : Hid (Blk w3 w.heap.size 80 #[.int .i64 0, .int .i64 0]) := (((HK.out.below hbw1 (by omega)).below hbw2 (by omega)).alloc _).grown hgrow2 (by intro e; have := (HOWN.out.lt _ e.symm).1; omega)
      clear hown2 hgrow2
      go_wp2
      go_roundw
      case rel => exact ⟨k + 1, by omega, by go_num, by rw [HL.out, List.length_append, List.flatMap_append, List.flatMap_singleton]; exact HO2.out, HK2.out, HG2.out⟩
      case measure => simp [intOf]; omega
    · obtain rfl : rl = k := by omega
      obtain ⟨A, cp, rfl, hrs⟩ := own_spans HO.out
      have HRS := Lib.hid hrs
      have HLEN := Lib.hid (wagesL_len p who rate rl)
      have HMID : Hid (∀ x ∈ wagesL p who rate rl, midS 1000000 x) := by
        have : ∀ k : Nat, k ≤ rl → ∀ x ∈ wagesL p who rate k, midS 1000000 x := by
          intro k
          induction k with
          | zero => intro _ x hx; simp [wagesL] at hx
          | succ k ih =>
            intro hk x hx
            rw [wagesL] at hx
            rcases List.mem_append.1 hx with hx | hx
            · exact ih (by omega) x hx
            · simp only [List.mem_singleton] at hx
              subst hx
              obtain ⟨a, b, c, d⟩ := HS.out k (by omega)
              exact wageS_mid hr1 hr2 a b c d
        exact this rl (Nat.le_refl _)
      have r0 : wr.cell? ⟨w.heap.size, 0, none⟩ = some (.int .i64 0) := HK.out.cell 0
      have r1 : wr.cell? ⟨w.heap.size, 1, none⟩ = some (.int .i64 0) := HK.out.cell 1
      have f0 : wr.frozen? ⟨w.heap.size, 0, none⟩ = false := HK.out.frozen 0
      have f1 : wr.frozen? ⟨w.heap.size, 1, none⟩ = false := HK.out.frozen 1
      clear hrs
      go_wp2_with fail
      refine (sum_any A _ cp (by have := HLEN.out; omega) (wagesL p who rate rl) rfl HMID.out _ (by exact HRS.out)).mono ?_
      obtain ⟨c, HC⟩ : ∃ c, Hid (wagesF (fun r => sheepS p who r) rate rl = c) := ⟨_, rfl⟩
      rw [← HF.out, HC.out]
      unfold spV
      rintro e w1 ⟨rfl, hbw1⟩; obtain ⟨hcw1, hfw1⟩ := bcell hbw1; have hzw1 := hbw1.size; (try simp at hzw1)
      go_wp2
      have e0 := (((HK.out.below hbw1 (by omega)).set_ 0 (.int .i64 c.lo)).set_ 1 (.int .i64 c.hi)).cell 0
      have e1 := (((HK.out.below hbw1 (by omega)).set_ 0 (.int .i64 c.lo)).set_ 1 (.int .i64 c.hi)).cell 1
      refine bodyPost_ret (v := spV c) (by simp [results, Tryd.results59, go_sem, e0, e1, spV]) rfl ⟨by rw [HC.out], ?_⟩
      exact ((HB.out.trans (hbw1.mono (by omega))).setCell (by simp) _).setCell (by simp) _
end
end Go.Proofs.YtlcolpnniipgbaaDoor
namespace Go.Proofs.YtlcolpnniipgbaaDoor
open Go.RowKit Go.Hav
theorem take_all_succ {α : Type} (f : α → Bool) (l : List α) (k : Nat) (x : α) (hx : l[k]? = some x) : (l.take (k + 1)).all f = ((l.take k).all f && f x) := by
  rw [List.take_add_one, hx]
  simp
theorem all_false {α : Type} (f : α → Bool) (l : List α) (k : Nat) (x : α) (hx : l[k]? = some x) (h : f x = false) : l.all f = false := by
  rw [List.all_eq_false]
  exact ⟨x, List.mem_of_getElem? hx, by simp [h]⟩

theorem open1_any (s : Sp) (w : World) : Calls Tryd.prog 76 #[spV s] w fun e w' => e = .returned (.bool (!spanB s 400)) ∧ Below w.heap.size w w' := by
  unfold spV
  go_enter Tryd.func76, Tryd.ntmps76
  go_wp2_with (go_at_call 77; refine (isIn_any s 400 _).mono ?_; rintro e w1 ⟨rfl, hbw1⟩; obtain ⟨hcw1, hfw1⟩ := bcell hbw1; have hzw1 := hbw1.size; (try simp at hzw1))
  go_ret
  exact ⟨rfl, (by repeat (first | exact Below.refl _ _ | assumption | refine Below.drew ?_ | refine below_drewN ?_ _ | refine Below.alloc ?_ (by (try simp) <;> omega) _ | refine Below.setCell ?_ (by (try simp) <;> omega) _ | refine Below.trans ?_ (Below.mono (by assumption) (by (try simp) <;> omega))))⟩
theorem open2_any (n : Int) (w : World) : Calls Tryd.prog 79 #[.int .i64 n] w fun e w' => e = .returned (.bool (!inB n 0 10)) ∧ Below w.heap.size w w' := by
  go_enter Tryd.func79, Tryd.ntmps79
  go_wp2_with (go_at_call 74; refine (within_any _ _ _ _).mono ?_; rintro e w' ⟨rfl, rfl⟩)
  go_ret
  exact ⟨rfl, (by repeat (first | exact Below.refl _ _ | assumption | refine Below.drew ?_ | refine below_drewN ?_ _ | refine Below.alloc ?_ (by (try simp) <;> omega) _ | refine Below.setCell ?_ (by (try simp) <;> omega) _ | refine Below.trans ?_ (Below.mono (by assumption) (by (try simp) <;> omega))))⟩

theorem index1_any (A : Option Addr) (n cp : Nat) (hn : n ≤ 9223372036854775807) (xs : List Sp) (hl : xs.length = n) (w : World) (hr : RdSpans w w.heap.size A xs) :
    Calls Tryd.prog 91 #[.slice A n cp, .func (.func 76) #[] #[]] w fun e w' => ∃ i : Int, e = .returned (.int .i64 i) ∧ decide (0 ≤ i) = (!xs.all (spanB · 400)) ∧ Below w.heap.size w w' := by
  have HR := Lib.hid hr
  have HL := Lib.hid hl
  clear hr hl
  go_enter Tryd.func91, Tryd.ntmps91
  go_wp2
  go_loopw [8] (fun i wr => ∃ k : Nat, k ≤ n ∧ i = .int .i64 k ∧ (xs.take k).all (spanB · 400) = true ∧ Below w.heap.size w wr) (fun i _ => n - (intOf i).toNat)
  case atStart => exact ⟨0, Nat.zero_le _, rfl, by simp, Below.refl _ _⟩
  case round =>
    obtain ⟨k, hk, rfl, hall, hb⟩ := hrel
    have HA := Lib.hid hall
    have HB := Lib.hid hb
    have hsz := hb.size
    clear hall hb
    by_cases hlt : k < n
    · obtain ⟨c, hc⟩ : ∃ c, xs[k]? = some c := ⟨xs[k]'(by have := HL.out; omega), by simp⟩
      have HC := Lib.hid hc
      obtain ⟨b, off, rfl, hbl, H0, H1⟩ := HR.out.below HB.out k c hc
      clear hc
      go_wp2_with fail
      refine (open1_any c _).mono ?_
      cases hs : spanB c 400
      · have HS := Lib.hid hs
        clear hs
        simp only [Bool.not_false]
        rintro e w1 ⟨rfl, hbw1⟩; obtain ⟨hcw1, hfw1⟩ := bcell hbw1; have hzw1 := hbw1.size; (try simp at hzw1)
        go_wp2
        go_ret
        exact ⟨k, rfl, by rw [all_false _ xs k c HC.out HS.out]; simp, HB.out.trans (hbw1.mono (by omega))⟩
      · have HS := Lib.hid hs
        clear hs
        simp only [Bool.not_true]
        rintro e w1 ⟨rfl, hbw1⟩; obtain ⟨hcw1, hfw1⟩ := bcell hbw1; have hzw1 := hbw1.size; (try simp at hzw1)
        go_wp2
        go_roundw
        case rel => exact ⟨k + 1, by omega, by go_num, by rw [take_all_succ _ xs k c HC.out, HA.out, HS.out]; rfl, HB.out.trans (hbw1.mono (by omega))⟩
        case measure => simp [intOf]; omega
    · obtain rfl : n = k := by omega
      go_wp2
      go_ret
      refine ⟨-1, rfl, ?_, HB.out⟩
      have h := HA.out
      rw [List.take_of_length_le (by have := HL.out; omega)] at h
      rw [h]; rfl
theorem contains1_any (A : Option Addr) (n cp : Nat) (hn : n ≤ 9223372036854775807) (xs : List Sp) (hl : xs.length = n) (w : World) (hr : RdSpans w w.heap.size A xs) :
    Calls Tryd.prog 75 #[.slice A n cp, .func (.func 76) #[] #[]] w fun e w' => e = .returned (.bool (!xs.all (spanB · 400))) ∧ Below w.heap.size w w' := by
  have HR := Lib.hid hr
  have HL := Lib.hid hl
  clear hr hl
  go_enter Tryd.func75, Tryd.ntmps75
  go_wp2_with fail
  refine (index1_any A n cp hn xs HL.out _ HR.out).mono ?_
  rintro e w1 ⟨i, rfl, hi, hb⟩
  have HI := Lib.hid hi
  have HB := Lib.hid hb
  clear hi hb
  go_wp2
  all_goals (go_ret; exact ⟨by rw [← HI.out]; rfl, HB.out⟩)
theorem index2_any (A : Option Addr) (n cp : Nat) (hn : n ≤ 9223372036854775807) (xs : List Int) (hl : xs.length = n) (w : World) (hr : RdInts w w.heap.size A xs) :
    Calls Tryd.prog 92 #[.slice A n cp, .func (.func 79) #[] #[]] w fun e w' => ∃ i : Int, e = .returned (.int .i64 i) ∧ decide (0 ≤ i) = (!xs.all (inB · 0 10)) ∧ Below w.heap.size w w' := by
  have HR := Lib.hid hr
  have HL := Lib.hid hl
  clear hr hl
  go_enter Tryd.func92, Tryd.ntmps92
  go_wp2
  go_loopw [8] (fun i wr => ∃ k : Nat, k ≤ n ∧ i = .int .i64 k ∧ (xs.take k).all (inB · 0 10) = true ∧ Below w.heap.size w wr) (fun i _ => n - (intOf i).toNat)
  case atStart => exact ⟨0, Nat.zero_le _, rfl, by simp, Below.refl _ _⟩
  case round =>
    obtain ⟨k, hk, rfl, hall, hb⟩ := hrel
    have HA := Lib.hid hall
    have HB := Lib.hid hb
    have hsz := hb.size
    clear hall hb
    by_cases hlt : k < n
    · obtain ⟨c, hc⟩ : ∃ c, xs[k]? = some c := ⟨xs[k]'(by have := HL.out; omega), by simp⟩
      have HC := Lib.hid hc
      obtain ⟨b, off, rfl, hbl, H0⟩ := HR.out.below HB.out k c hc
      clear hc
      go_wp2_with fail
      refine (open2_any c _).mono ?_
      cases hs : inB c 0 10
      · have HS := Lib.hid hs
        clear hs
        simp only [Bool.not_false]
        rintro e w1 ⟨rfl, hbw1⟩; obtain ⟨hcw1, hfw1⟩ := bcell hbw1; have hzw1 := hbw1.size; (try simp at hzw1)
        go_wp2
        go_ret
        exact ⟨k, rfl, by rw [all_false _ xs k c HC.out HS.out]; simp, HB.out.trans (hbw1.mono (by omega))⟩
      · have HS := Lib.hid hs
        clear hs
        simp only [Bool.not_true]
        rintro e w1 ⟨rfl, hbw1⟩; obtain ⟨hcw1, hfw1⟩ := bcell hbw1; have hzw1 := hbw1.size; (try simp at hzw1)
        go_wp2
        go_roundw
        case rel => exact ⟨k + 1, by omega, by go_num, by rw [take_all_succ _ xs k c HC.out, HA.out, HS.out]; rfl, HB.out.trans (hbw1.mono (by omega))⟩
        case measure => simp [intOf]; omega
    · obtain rfl : n = k := by omega
      go_wp2
      go_ret
      refine ⟨-1, rfl, ?_, HB.out⟩
      have h := HA.out
      rw [List.take_of_length_le (by have := HL.out; omega)] at h
      rw [h]; rfl
theorem contains2_any (A : Option Addr) (n cp : Nat) (hn : n ≤ 9223372036854775807) (xs : List Int) (hl : xs.length = n) (w : World) (hr : RdInts w w.heap.size A xs) :
    Calls Tryd.prog 78 #[.slice A n cp, .func (.func 79) #[] #[]] w fun e w' => e = .returned (.bool (!xs.all (inB · 0 10))) ∧ Below w.heap.size w w' := by
  have HR := Lib.hid hr
  have HL := Lib.hid hl
  clear hr hl
  go_enter Tryd.func78, Tryd.ntmps78
  go_wp2_with fail
  refine (index2_any A n cp hn xs HL.out _ HR.out).mono ?_
  rintro e w1 ⟨i, rfl, hi, hb⟩
  have HI := Lib.hid hi
  have HB := Lib.hid hb
  clear hi hb
  go_wp2
  all_goals (go_ret; exact ⟨by rw [← HI.out]; rfl, HB.out⟩)
end Go.Proofs.YtlcolpnniipgbaaDoor
namespace Go.Proofs.YtlcolpnniipgbaaDoor
open Go.RowKit Go.Hav
/-- A call that is yielded: its number and itself, all small. -/
abbrev It := { x : Nat × Ca // x.1 ≤ 100 ∧ 0 ≤ x.2.who ∧ x.2.who ≤ 1000 ∧ 0 ≤ x.2.run ∧ x.2.run ≤ 1000 }
theorem payB_callIt {p : PayD} (hv : payB p = true) {k : Nat} {c : Ca} (hc : p.calls[k]? = some c) : k ≤ 100 ∧ 0 ≤ c.who ∧ c.who ≤ 1000 ∧ 0 ≤ c.run ∧ c.run ≤ 1000 := by
  have hk := (List.getElem?_eq_some_iff.1 hc).1
  have hra := payB_rate hv
  have hb := payB_people hv
  simp only [payB, Bool.and_eq_true, List.all_eq_true] at hv
  have h1 := hv.1.1.2 c (List.mem_of_getElem? hc)
  simp only [callB, whoB, runB, Bool.and_eq_true, inB_iff] at h1
  omega
/-- The calls before k that were not struck, the last first. -/
def backL (p : PayD) (hv : payB p = true) : Nat → List It
  | 0 => []
  | k + 1 => match hc : p.calls[k]? with
    | some c => if c.struck then backL p hv k else ⟨(k, c), payB_callIt hv hc⟩ :: backL p hv k
    | none => backL p hv k
def stepF (f : Int → Int → Int) (x : It) : Int → Int → Int := if 0 ≤ f x.1.2.who x.1.2.run then f else setF f x.1.2.who x.1.2.run x.1.1
def foldF (l : List It) : Int → Int → Int := l.foldl stepF (fun _ _ => -1)
theorem foldF_snoc (l : List It) (x : It) : foldF (l ++ [x]) = stepF (foldF l) x := by simp [foldF]
theorem backL_some {p : PayD} {hv : payB p = true} {k : Nat} {c : Ca} (hc : p.calls[k]? = some c) : backL p hv (k + 1) = if c.struck then backL p hv k else ⟨(k, c), payB_callIt hv hc⟩ :: backL p hv k := by
  rw [backL]
  split
  · rename_i c' hc'
    obtain rfl : c' = c := Option.some.inj (hc'.symm.trans hc)
    rfl
  · rename_i h; rw [hc] at h; cases h
theorem foldl_stands (p : PayD) (hv : payB p = true) (who run : Int) : ∀ (k : Nat) (f : Int → Int → Int), (backL p hv k).foldl stepF f who run = if 0 ≤ f who run then f who run else if 0 ≤ standsF p.calls who run k then standsF p.calls who run k else f who run := by
  intro k
  induction k with
  | zero =>
    intro f
    simp [backL, standsF]
  | succ k ih =>
    intro f
    cases hc : p.calls[k]? with
    | none =>
      have e : backL p hv (k + 1) = backL p hv k := by
        rw [backL]
        split
        · rename_i c' hc'; rw [hc] at hc'; cases hc'
        · rfl
      rw [e, ih, standsF, hc]
    | some c =>
      have hS : standsF p.calls who run (k + 1) = if c.who = who ∧ c.run = run ∧ c.struck = false then (k : Int) else standsF p.calls who run k := by rw [standsF, hc]
      rw [backL_some hc]
      by_cases hs : c.struck = true
      · rw [if_neg (by rintro ⟨_, _, h⟩; rw [hs] at h; cases h)] at hS
        rw [if_pos hs, ih, hS]
      · rw [if_neg hs, List.foldl_cons, ih]
        have hs1 : c.struck = false := by simpa using hs
        by_cases hm : c.who = who ∧ c.run = run
        · rw [if_pos ⟨hm.1, hm.2, hs1⟩] at hS
          rw [hS]
          obtain ⟨rfl, rfl⟩ := hm
          unfold stepF
          simp only
          by_cases h0 : 0 ≤ f c.who c.run
          · rw [if_pos h0, if_pos h0, if_pos h0]
          · rw [if_neg h0, if_neg h0]
            have : setF f c.who c.run k c.who c.run = k := by simp [setF]
            rw [this, if_pos (by omega), if_pos (by omega)]
        · rw [if_neg (fun h => hm ⟨h.1, h.2.1⟩)] at hS
          rw [hS]
          unfold stepF
          simp only
          by_cases h0 : 0 ≤ f c.who c.run
          · rw [if_pos h0]
          · rw [if_neg h0]
            have : setF f c.who c.run k who run = f who run := by
              unfold setF
              rw [if_neg (fun h => hm ⟨h.1.symm, h.2.symm⟩)]
            rw [this]
theorem foldF_stands (p : PayD) (hv : payB p = true) : foldF (backL p hv p.calls.length) = standsI p := by
  funext who run
  have h := foldl_stands p hv who run p.calls.length (fun _ _ => -1)
  have hs := standsF_lt p.calls who run p.calls.length
  rw [foldF, h, standsI, if_neg (by omega)]
  split
  · rfl
  · omega
theorem backL_len (p : PayD) (hv : payB p = true) : ∀ k, (backL p hv k).length ≤ k := by
  intro k
  induction k with
  | zero => simp [backL]
  | succ k ih =>
    rw [backL]
    split
    · split
      · omega
      · rw [List.length_cons]; omega
    · omega
end Go.Proofs.YtlcolpnniipgbaaDoor
