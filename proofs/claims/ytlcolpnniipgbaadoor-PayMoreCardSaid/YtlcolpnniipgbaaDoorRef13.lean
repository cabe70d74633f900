/- The walk of the reference's Shares. -/
import Derived.Test.YtlcolpnniipgbaaDoorRef10
import Derived.Test.YtlcolpnniipgbaaDoorMem
import Derived.RegionTactic
import Derived.BigRegion
import Derived.Laws.MakeOwn
namespace Go.Proofs.YtlcolpnniipgbaaDoor
open Go.RowKit Go.Hav
section
variable {people rate bill : Int} {ra ca da pa : Option Addr} {rl rc cl cc dl dc pl pc : Nat} {p : PayD}
def intsA (l : List Int) : Array Value := (l.map (Value.int .i64)).toArray
theorem intsA_size (l : List Int) : (intsA l).size = l.length := by simp [intsA]
theorem intsA_get (l : List Int) (k : Nat) : (intsA l)[k]? = (l[k]?).map (Value.int .i64) := by simp [intsA]
theorem intsA_set (l : List Int) (k : Nat) (n : Int) : (intsA l).setIfInBounds k (.int .i64 n) = intsA (l.set k n) := by
  simp [intsA, List.map_set]
theorem intsA_zero (n : Nat) : madeCells #[.int .i64 0] n = intsA (List.replicate n 0) := by
  apply Array.ext'
  rw [toList_madeCells_one]
  simp [intsA]
theorem Tryd.infoE3 : (Tryd.prog.info? 3).map (fun i => (i.zero, i.size, i.bytes)) = some (some (.int .i64 0), 1, 8) := by kernel_rfl
theorem make_ints (n : Nat) (hn : n ≤ 1000) (w : World) : (Instr.makeSlice 24 (.int .i64 (n : Int)) (.int .i64 (n : Int))).run Tryd.prog w = .ok (.slice (some ⟨w.heap.size, 0, none⟩) n n) (w.alloc (.cells (intsA (List.replicate n 0)) 3)) := by
  obtain ⟨i, hi, hz0, hz1, hz2⟩ := info_parts Tryd.infoE3
  have hr := run_make (P := Tryd.prog) w 24 3 i (.int .i64 0) Tryd.underlying24 hi hz0 .i64 .i64 n n (by omega) (by omega) (by rw [hz2]; omega) (by omega)
  simp only [Int.toNat_natCast, hz1, Nat.mul_one] at hr
  rw [hr, show Value.cells (.int .i64 0) = #[.int .i64 0] from rfl, intsA_zero]

def sumF (l : List Int) : Nat → Int
  | 0 => 0
  | k + 1 => sumF l k + (l[k]?).getD 0
theorem sumF_bd {l : List Int} (h : ∀ (k : Nat) x, l[k]? = some x → 0 ≤ x ∧ x ≤ 10) : ∀ k : Nat, 0 ≤ sumF l k ∧ sumF l k ≤ 10 * k := by
  intro k
  induction k with
  | zero => simp [sumF]
  | succ k ih =>
    rw [sumF]
    cases hx : l[k]? with
    | none => simp; omega
    | some x => have := h k x hx; simp; omega
theorem payB_day (hv : payB p = true) {k : Nat} {x : Int} (hx : p.days[k]? = some x) : 0 ≤ x ∧ x ≤ 10 := by
  simp only [payB, Bool.and_eq_true, List.all_eq_true] at hv
  exact inB_iff.1 (hv.1.2 x (List.mem_of_getElem? hx))
/-- The first k shares, rounded down, and rests; the others are 0. -/
def partF (bill all : Int) (days : List Int) (f : Int → Int → Int) (n k : Nat) : List Int := (List.range n).map fun i => if i < k then f (bill * (days[i]?).getD 0) all else 0
/-- The first greatest of the first k + 1. -/
def bestF (R : List Int) : Nat → Nat
  | 0 => 0
  | k + 1 => if (R[bestF R k]?).getD 0 < (R[k + 1]?).getD 0 then k + 1 else bestF R k
theorem bestF_le (R : List Int) : ∀ k, bestF R k ≤ k := by
  intro k
  induction k with
  | zero => simp [bestF]
  | succ k ih => rw [bestF]; split <;> omega
def giveF (n : Nat) : Nat → List Int × List Int → List Int
  | 0, s => s.1
  | k + 1, s => giveF n k (s.1.set (bestF s.2 (n - 1)) ((s.1[bestF s.2 (n - 1)]?).getD 0 + 1), s.2.set (bestF s.2 (n - 1)) (-1))
def sharesR (p : PayD) : List Int :=
  if sumF p.days p.days.length = 0 then List.replicate p.days.length 0
  else giveF p.days.length (p.bill - sumF (partF p.bill (sumF p.days p.days.length) p.days (· / ·) p.days.length p.days.length) p.days.length).toNat
    (partF p.bill (sumF p.days p.days.length) p.days (· / ·) p.days.length p.days.length, partF p.bill (sumF p.days p.days.length) p.days (· % ·) p.days.length p.days.length)

theorem gen_w {K : Act → World → Prop} {a : Act} {w : World} (F : World → Prop) (hF : F w) (h : ∀ W, F W → K a W) : K a w := h w hF
theorem partF_zero (bill all : Int) (days : List Int) (f : Int → Int → Int) (n : Nat) : partF bill all days f n 0 = List.replicate n 0 := by
  apply List.ext_getElem?
  intro i
  by_cases h : i < n
  · simp [partF, h]
  · simp [partF, h]
theorem partF_get {bill all : Int} {days : List Int} {f : Int → Int → Int} {n k i : Nat} (_hk : k ≤ n) (hi : i < n) : (partF bill all days f n k)[i]? = some (if i < k then f (bill * (days[i]?).getD 0) all else 0) := by
  simp [partF, List.getElem?_range hi]
theorem partF_len (bill all : Int) (days : List Int) (f : Int → Int → Int) (n k : Nat) : (partF bill all days f n k).length = n := by simp [partF]
theorem partF_set {bill all : Int} {days : List Int} {f : Int → Int → Int} {n k : Nat} {c : Int} (hk : k < n) (hc : days[k]? = some c) : partF bill all days f n (k + 1) = (partF bill all days f n k).set k (f (bill * c) all) := by
  apply List.ext_getElem?
  intro i
  by_cases hi : i < n
  · rw [partF_get (by omega) hi]
    by_cases hik : i = k
    · subst hik
      rw [List.getElem?_set_self (by rw [partF_len]; exact hk), if_pos (by omega), hc]; rfl
    · rw [List.getElem?_set_ne (Ne.symm hik), partF_get (by omega) hi]
      by_cases h : i < k
      · rw [if_pos (by omega), if_pos h]
      · rw [if_neg (by omega), if_neg h]
  · rw [List.getElem?_eq_none (by rw [partF_len]; omega), List.getElem?_eq_none (by rw [List.length_set, partF_len]; omega)]
theorem share_bd {bill c : Int} (h0 : 0 ≤ bill) (h1 : bill ≤ 10000) (c0 : 0 ≤ c) (c1 : c ≤ 10) : 0 ≤ bill * c ∧ bill * c ≤ 100000 := by
  refine ⟨Int.mul_nonneg h0 c0, Int.le_trans (Int.mul_le_mul_of_nonneg_right h1 c0) (by omega)⟩
theorem sumP_bd {bill all : Int} {days : List Int} {n : Nat} (h0 : 0 ≤ bill) (h1 : bill ≤ 10000) (ha : 1 ≤ all) (hd : ∀ (k : Nat) x, days[k]? = some x → 0 ≤ x ∧ x ≤ 10) : ∀ k : Nat, k ≤ n →
    0 ≤ sumF (partF bill all days (· / ·) n n) k ∧ sumF (partF bill all days (· / ·) n n) k ≤ 100000 * k ∧ True := by
  intro k
  induction k with
  | zero => intro _; simp [sumF]
  | succ k ih =>
    intro hk
    obtain ⟨a, b, _⟩ := ih (by omega)
    rw [sumF, partF_get (Nat.le_refl _) (by omega), if_pos (by omega)]
    have hc : 0 ≤ (days[k]?).getD 0 ∧ (days[k]?).getD 0 ≤ 10 := by
      cases hx : days[k]? with
      | none => simp
      | some x => exact hd k x hx
    obtain ⟨v0, v1⟩ := share_bd h0 h1 hc.1 hc.2
    have e0 := Int.ediv_nonneg v0 (by omega : 0 ≤ all)
    have e1 := Int.le_trans (Int.ediv_le_self all v0) v1
    show 0 ≤ _ + bill * (days[k]?).getD 0 / all ∧ _ + bill * (days[k]?).getD 0 / all ≤ _ ∧ True
    refine ⟨by omega, by omega, trivial⟩
theorem partS_bd {bill all : Int} {days : List Int} {n : Nat} (h0 : 0 ≤ bill) (h1 : bill ≤ 10000) (ha : 1 ≤ all) (hd : ∀ (k : Nat) x, days[k]? = some x → 0 ≤ x ∧ x ≤ 10) : ∀ x ∈ partF bill all days (· / ·) n n, 0 ≤ x ∧ x ≤ 100000 := by
  intro x hx
  simp only [partF, List.mem_map] at hx
  obtain ⟨i, _, rfl⟩ := hx
  have hc : 0 ≤ (days[i]?).getD 0 ∧ (days[i]?).getD 0 ≤ 10 := by
    cases hx : days[i]? with
    | none => simp
    | some x => exact hd i x hx
  obtain ⟨v0, v1⟩ := share_bd h0 h1 hc.1 hc.2
  have e0 := Int.ediv_nonneg v0 (by omega : 0 ≤ all)
  have e1 := Int.le_trans (Int.ediv_le_self all v0) v1
  split
  · exact ⟨e0, e1⟩
  · omega
theorem bestF_step {R : List Int} {k : Nat} {x y : Int} (hk : 1 ≤ k) (hx : R[k]? = some x) (hy : R[bestF R (k - 1)]? = some y) : bestF R k = if y < x then k else bestF R (k - 1) := by
  obtain ⟨m, rfl⟩ : ∃ m, k = m + 1 := ⟨k - 1, by omega⟩
  rw [show m + 1 - 1 = m from rfl] at hy ⊢
  rw [bestF, hy, hx]; rfl

set_option maxRecDepth 100000 in
set_option maxHeartbeats 6400000 in
theorem Shares_any (hv : payB p = true) (w : World) (hP : PayIn w w.heap.size people ra rl ca cl rate bill da dl pa pl p) :
    Calls Tryd.prog 63 #[payV people ra rl rc ca cl cc rate bill da dl dc pa pl pc] w fun e w' => (∃ g, e = .returned (.slice (some ⟨g, 0, none⟩) dl dl) ∧ w.heap.size ≤ g ∧ Blk w' g 3 (intsA (sharesR p)) ∧ (sharesR p).length = dl ∧ ∀ x ∈ sharesR p, 0 ≤ x ∧ x ≤ 600000) ∧ Below w.heap.size w w' := by
  have HP := Lib.hid hP
  have HV := Lib.hid hv
  have HDL := Lib.hid hP.edl
  have hb := payB_people hv
  have hra := payB_rate hv
  have hbe := hP.ebill
  have hpd : people = dl := by have := hP.epeople; have := hP.edl; omega
  have n1 : dl ≤ 4 := by have := hP.edl; omega
  have n0 : 1 ≤ dl := by have := hP.edl; omega
  have b0 : 0 ≤ bill := by omega
  have b1 : bill ≤ 10000 := by omega
  have HBE := Lib.hid hP.ebill
  have HDB : Hid (∀ (k : Nat) x, p.days[k]? = some x → 0 ≤ x ∧ x ≤ 10) := fun k x hx => payB_day hv hx
  clear hP hv hb hra hbe
  subst hpd
  unfold payV
  go_enter Tryd.func63, Tryd.ntmps63
  go_wp2
  go_loop [3, 4] (fun all i => ∃ k : Nat, k ≤ dl ∧ i = .int .i64 k ∧ all = .int .i64 (sumF p.days k)) (fun _ i => dl - (intOf i).toNat)
  case atStart => exact ⟨0, Nat.zero_le _, rfl, rfl⟩
  case round =>
    obtain ⟨k, hk, rfl, rfl⟩ := hrel
    obtain ⟨s0, s1⟩ := sumF_bd HDB.out k
    by_cases hlt : k < dl
    · obtain ⟨c, hc⟩ : ∃ c, p.days[k]? = some c := ⟨p.days[k]'(by have := HDL.out; omega), by simp⟩
      obtain ⟨d0, d1⟩ := HDB.out k c hc
      have HST : Hid (sumF p.days (k + 1) = sumF p.days k + c) := by show _ = _; rw [sumF, hc]; rfl
      obtain ⟨b, off, rfl, hbl, H0⟩ := HP.out.hdays k c hc
      clear hc
      go_wp2
      go_round
      case rel => exact ⟨k + 1, by omega, by go_num, by rw [HST.out]⟩
      case measure => simp [intOf]; omega
    · obtain rfl : dl = k := by omega
      have hmk := make_ints dl (by omega)
      go_wp2
      go_region
      · simp only [Exit.then]
        refine gen_w (fun W => Blk W (w.heap.size + 1) 3 (intsA (List.replicate dl 0)) ∧ Blk W (w.heap.size + 1 + 1) 3 (intsA (List.replicate dl 0)) ∧ Below (w.heap.size + 1) (w.alloc (Obj.cells #[Value.int IntKind.i64 dl, Value.slice ra rl rc, Value.slice ca cl cc, Value.int IntKind.i64 rate, Value.int IntKind.i64 bill, Value.slice da dl dc, Value.slice pa pl pc] 27)) W) ⟨(Blk.new_ (by simp) _ _).alloc _, Blk.new_ (by simp) _ _, (by repeat (first | exact Below.refl _ _ | assumption | refine Below.drew ?_ | refine below_drewN ?_ _ | refine Below.alloc ?_ (by (try simp) <;> omega) _ | refine Below.setCell ?_ (by (try simp) <;> omega) _ | refine Below.trans ?_ (Below.mono (by assumption) (by (try simp) <;> omega))))⟩ ?_
        rintro W ⟨hWS, hWR, hWB⟩
        generalize hx2 : w.heap.size + 1 + 1 = r at *
        generalize hx1 : w.heap.size + 1 = s at hWS ⊢
        have hsn : w.heap.size < s := by omega
        have hrn : w.heap.size < r := by omega
        have hsr : ¬ s = r := by omega
        have hrs : ¬ r = s := by omega
        clear hx1 hx2

        have hb0 : ∀ o, W.cell? ⟨w.heap.size, o, none⟩ = _ := fun o => hWB.cell (p := ⟨w.heap.size, o, none⟩) (by show w.heap.size < _; omega)
        have HWB := Lib.hid hWB
        have HWS := Lib.hid hWS
        have HWR := Lib.hid hWR
        clear hWB hWS hWR
        obtain ⟨all, HALL⟩ : ∃ all, Hid (sumF p.days dl = all) := ⟨_, rfl⟩
        rw [HALL.out] at s0 s1
        by_cases ha : all = 0
        · have haz : (sumF p.days dl == 0) = true := by simp [HALL.out, ha]
          have HR : Hid (sharesR p = List.replicate dl 0) := by show _ = _; rw [sharesR, HDL.out, if_pos (by rw [HALL.out]; exact ha)]
          clear ha
          go_wp2
          go_ret
          exact ⟨⟨s, rfl, by omega, by rw [HR.out]; exact HWS.out, by rw [HR.out]; simp, by rw [HR.out]; intro x hx; have := List.eq_of_mem_replicate hx; omega⟩, ((Below.refl w.heap.size w).alloc (by simp) _).trans (HWB.out.mono (by omega))⟩
        · have haz : (sumF p.days dl == 0) = false := by simp [HALL.out, ha]
          have hall1 : 1 ≤ all := by omega
          have hall0 : ¬ all = 0 := ha
          have hallb : (all == 0) = false := by simp [ha]
          have HR : Hid (sharesR p = giveF dl (bill - sumF (partF bill all p.days (· / ·) dl dl) dl).toNat (partF bill all p.days (· / ·) dl dl, partF bill all p.days (· % ·) dl dl)) := by
            show _ = _; rw [sharesR, HDL.out, HALL.out, HBE.out, if_neg ha]
          clear ha
          go_wp2
          rw [HALL.out]
          clear haz hb0
          go_loopw [7, 8] (fun l i wr => ∃ k : Nat, k ≤ dl ∧ i = .int .i64 k ∧ l = .int .i64 (bill - sumF (partF bill all p.days (· / ·) dl dl) k) ∧
              Blk wr s 3 (intsA (partF bill all p.days (· / ·) dl k)) ∧ Blk wr r 3 (intsA (partF bill all p.days (· % ·) dl k)) ∧ Below (w.heap.size + 1) (w.alloc (Obj.cells #[Value.int IntKind.i64 dl, Value.slice ra rl rc, Value.slice ca cl cc, Value.int IntKind.i64 rate, Value.int IntKind.i64 bill, Value.slice da dl dc, Value.slice pa pl pc] 27)) wr) (fun _ i _ => dl - (intOf i).toNat)
          case atStart => exact ⟨0, Nat.zero_le _, rfl, by simp [sumF], by rw [partF_zero]; exact HWS.out, by rw [partF_zero]; exact HWR.out, HWB.out⟩
          case round =>
            obtain ⟨k, hk, rfl, rfl, hkS, hkR, hb⟩ := hrel
            have hb0 : ∀ o, wr.cell? ⟨w.heap.size, o, none⟩ = _ := fun o => hb.cell (p := ⟨w.heap.size, o, none⟩) (by show w.heap.size < _; omega)
            have HB := Lib.hid hb
            have hS0 := hkS.lt
            have hR0 := hkR.lt
            have HKS := Lib.hid hkS
            have HKR := Lib.hid hkR
            clear hb hkS hkR
            have HBW : Hid (Below w.heap.size w wr) := ((Below.refl w.heap.size w).alloc (by simp) _).trans (HB.out.mono (by omega))
            by_cases hlt : k < dl
            · obtain ⟨c, hc⟩ : ∃ c, p.days[k]? = some c := ⟨p.days[k]'(by have := HDL.out; omega), by simp⟩
              obtain ⟨d0, d1⟩ := HDB.out k c hc
              obtain ⟨v0, v1⟩ := share_bd b0 b1 d0 d1
              obtain ⟨P0, P1, P2⟩ := sumP_bd (days := p.days) (n := dl) b0 b1 hall1 HDB.out k (by omega)
              have HST : Hid (sumF (partF bill all p.days (· / ·) dl dl) (k + 1) = sumF (partF bill all p.days (· / ·) dl dl) k + bill * c / all) := by
                show _ = _; rw [sumF, partF_get (by omega) hlt, if_pos hlt, hc]; rfl
              have HS1 : Hid (partF bill all p.days (· / ·) dl (k + 1) = (partF bill all p.days (· / ·) dl k).set k (bill * c / all)) := by show _ = _; rw [partF_set hlt hc]
              have HS2 : Hid (partF bill all p.days (· % ·) dl (k + 1) = (partF bill all p.days (· % ·) dl k).set k (bill * c % all)) := by show _ = _; rw [partF_set hlt hc]
              obtain ⟨b, off, rfl, hbl, H0⟩ := (HP.out.grow HBW.out).hdays k c hc
              have u0 : wr.cell? ⟨s, k, none⟩ = some (.int .i64 0) := by rw [HKS.out.cell, intsA_get, partF_get (by omega) hlt, if_neg (by omega)]; rfl
              have u1 : wr.cell? ⟨r, k, none⟩ = some (.int .i64 0) := by rw [HKR.out.cell, intsA_get, partF_get (by omega) hlt, if_neg (by omega)]; rfl
              have u2 : wr.frozen? ⟨s, k, none⟩ = false := HKS.out.frozen k
              have u3 : wr.frozen? ⟨r, k, none⟩ = false := HKR.out.frozen k
              have hkd : (k : Int) < (dl : Int) := by omega
              have hq0 : w.heap.size < wr.heap.size := by omega
              have hdb : 0 ≤ bill * c / all ∧ bill * c / all ≤ 100000 := ⟨Int.ediv_nonneg v0 (by omega), Int.le_trans (Int.ediv_le_self _ v0) v1⟩
              obtain ⟨e0, e1⟩ := hdb
              have pb4 : wr.cell? ⟨w.heap.size, 4, none⟩ = some (.int .i64 bill) := by rw [hb0]; go_simp
              have pb5 : wr.cell? ⟨w.heap.size, 5, none⟩ = some (.slice (some ⟨b, off, none⟩) dl dc) := by rw [hb0]; go_simp
              clear hc
              go_wp2
              clear hb0
              go_region
              simp only [Exit.then]
              go_wp2
              go_roundw
              case rel =>
                have HB1 := HB.out
                have K1 := HKS.out
                have K2 := HKR.out
                exact ⟨k + 1, by omega, by go_num, by rw [HST.out]; go_num, by rw [HS1.out, ← intsA_set]; exact (K1.set_ k _).far (by omega) _, by rw [HS2.out, ← intsA_set]; exact (K2.far (by omega) _).set_ k _, ((HB1.setCell (by show w.heap.size + 1 ≤ s; omega) _).setCell (by show w.heap.size + 1 ≤ r; omega) _).drew⟩
              case measure => simp [intOf]; omega
            · obtain rfl : dl = k := by omega
              obtain ⟨P0, P1, P2⟩ := sumP_bd (days := p.days) (n := dl) b0 b1 hall1 HDB.out dl (Nat.le_refl _)
              have HSB := Lib.hid (partS_bd (days := p.days) (n := dl) b0 b1 hall1 HDB.out)
              go_wp2
              clear hb0
              go_loopw [7] (fun l wq => ∃ (z : Int) (S R : List Int), l = .int .i64 z ∧ -400000 ≤ z ∧ z ≤ 10000 ∧ S.length = dl ∧ R.length = dl ∧ (∀ x ∈ S, 0 ≤ x ∧ x + z ≤ 110000) ∧
                  Blk wq s 3 (intsA S) ∧ Blk wq r 3 (intsA R) ∧ giveF dl z.toNat (S, R) = sharesR p ∧ Below (w.heap.size + 1) (w.alloc (Obj.cells #[Value.int IntKind.i64 dl, Value.slice ra rl rc, Value.slice ca cl cc, Value.int IntKind.i64 rate, Value.int IntKind.i64 bill, Value.slice da dl dc, Value.slice pa pl pc] 27)) wq) (fun l _ => (intOf l).toNat)
              case atStart =>
                refine ⟨_, _, _, rfl, by omega, by omega, partF_len .., partF_len .., ?_, HKS.out, HKR.out, HR.out.symm, HB.out⟩
                intro x hx
                have := HSB.out x hx
                omega
              case round =>
                obtain ⟨z, S, R, rfl, z0, z1, hSl, hRl, hSb, hkS2, hkR2, hG, hb⟩ := hrel
                have hb0 : ∀ o, wr.cell? ⟨w.heap.size, o, none⟩ = _ := fun o => hb.cell (p := ⟨w.heap.size, o, none⟩) (by show w.heap.size < _; omega)
                have HB2 := Lib.hid hb
                have hS2 := hkS2.lt
                have hR2 := hkR2.lt
                have HKS2 := Lib.hid hkS2
                have HKR2 := Lib.hid hkR2
                have HG := Lib.hid hG
                have HSB2 := Lib.hid hSb
                clear hb hkS2 hkR2 hG hSb
                by_cases hz : 0 < z
                · go_wp2
                  clear hb0
                  go_loopw [9, 10] (fun b i wq => (∃ k : Nat, 1 ≤ k ∧ k ≤ dl ∧ i = .int .i64 k ∧ b = .int .i64 (bestF R (k - 1))) ∧ Blk wq s 3 (intsA S) ∧ Blk wq r 3 (intsA R) ∧ Below (w.heap.size + 1) (w.alloc (Obj.cells #[Value.int IntKind.i64 dl, Value.slice ra rl rc, Value.slice ca cl cc, Value.int IntKind.i64 rate, Value.int IntKind.i64 bill, Value.slice da dl dc, Value.slice pa pl pc] 27)) wq) (fun _ i _ => dl - (intOf i).toNat)
                  case atStart => exact ⟨⟨1, Nat.le_refl _, n0, rfl, rfl⟩, HKS2.out, HKR2.out, HB2.out⟩
                  case round =>
                    obtain ⟨⟨k, k1, hk, rfl, rfl⟩, hkS3, hkR3, hb⟩ := hrel
                    clear HKS2 HKR2 HB2 hS2 hR2
                    have hb0 : ∀ o, wr.cell? ⟨w.heap.size, o, none⟩ = _ := fun o => hb.cell (p := ⟨w.heap.size, o, none⟩) (by show w.heap.size < _; omega)
                    have HB2 := Lib.hid hb
                    have hS2 := hkS3.lt
                    have hR2 := hkR3.lt
                    have HKS2 := Lib.hid hkS3
                    have HKR2 := Lib.hid hkR3
                    clear hb hkS3 hkR3
                    have hle := bestF_le R (k - 1)
                    obtain ⟨y, hy⟩ : ∃ y, R[bestF R (k - 1)]? = some y := ⟨R[bestF R (k - 1)]'(by omega), by simp⟩
                    by_cases hlt : k < dl
                    · obtain ⟨x, hx⟩ : ∃ x, R[k]? = some x := ⟨R[k]'(by omega), by simp⟩
                      have HBS := Lib.hid (bestF_step k1 hx hy)
                      have u1 : wr.cell? ⟨r, k, none⟩ = some (.int .i64 x) := by rw [HKR2.out.cell, intsA_get, hx]; rfl
                      have u2 : wr.cell? ⟨r, bestF R (k - 1), none⟩ = some (.int .i64 y) := by rw [HKR2.out.cell, intsA_get, hy]; rfl
                      clear hx hy
                      generalize bestF R (k - 1) = be at *
                      by_cases hxy : y < x
                      · go_wp2
                        go_quiet (fail)
                        go_wp2
                        go_roundw
                        case rel => exact ⟨⟨k + 1, by omega, by omega, by go_num, by rw [show k + 1 - 1 = k from rfl, HBS.out, if_pos hxy]⟩, HKS2.out, HKR2.out, HB2.out.trans (below_drewN (Below.refl _ _) _)⟩
                        case measure => simp [intOf]; omega
                      · go_wp2
                        go_quiet (fail)
                        go_wp2
                        go_roundw
                        case rel => exact ⟨⟨k + 1, by omega, by omega, by go_num, by rw [show k + 1 - 1 = k from rfl, HBS.out, if_neg (by omega)]⟩, HKS2.out, HKR2.out, HB2.out.trans (below_drewN (Below.refl _ _) _)⟩
                        case measure => simp [intOf]; omega
                    · obtain rfl : dl = k := by omega
                      obtain ⟨x, hx⟩ : ∃ x, S[bestF R (dl - 1)]? = some x := ⟨S[bestF R (dl - 1)]'(by omega), by simp⟩
                      have HGS : Hid (giveF dl (z - 1).toNat (S.set (bestF R (dl - 1)) (x + 1), R.set (bestF R (dl - 1)) (-1)) = sharesR p) := by
                        show _ = _
                        rw [← HG.out, show z.toNat = (z - 1).toNat + 1 by omega, giveF, hx]; rfl
                      have hxb := HSB2.out x (List.mem_of_getElem? hx)
                      obtain ⟨x0, x1⟩ := hxb
                      have HX := Lib.hid hx
                      have u1 : wr.cell? ⟨s, bestF R (dl - 1), none⟩ = some (.int .i64 x) := by rw [HKS2.out.cell, intsA_get, hx]; rfl
                      have u2 : wr.cell? ⟨r, bestF R (dl - 1), none⟩ = some (.int .i64 y) := by rw [HKR2.out.cell, intsA_get, hy]; rfl
                      have u3 : wr.frozen? ⟨s, bestF R (dl - 1), none⟩ = false := HKS2.out.frozen _
                      have u4 : wr.frozen? ⟨r, bestF R (dl - 1), none⟩ = false := HKR2.out.frozen _
                      clear hx hy
                      generalize bestF R (dl - 1) = be at *
                      have hbd : (be : Int) < (dl : Int) := by omega
                      go_wp2
                      go_roundw
                      case rel =>
                        refine ⟨z - 1, S.set be (x + 1), R.set be (-1), by go_num, by omega, by omega, by simpa using hSl, by simpa using hRl, ?_, by rw [← intsA_set]; exact (HKS2.out.set_ be _).far (by show s ≠ r; omega) _, by rw [← intsA_set]; exact (HKR2.out.far (by show r ≠ s; omega) _).set_ be _, HGS.out, (HB2.out.setCell (by show w.heap.size + 1 ≤ s; omega) _).setCell (by show w.heap.size + 1 ≤ r; omega) _⟩
                        intro u hu
                        rcases List.mem_or_eq_of_mem_set hu with hu | rfl
                        · have := HSB2.out u hu; omega
                        · omega
                      case measure => simp [intOf]; omega
                · have hz0 : z.toNat = 0 := by omega
                  have HGS : Hid (S = sharesR p) := by show _ = _; rw [← HG.out, hz0]; rfl
                  go_wp2
                  go_ret
                  exact ⟨⟨s, rfl, by omega, by rw [← HGS.out]; exact HKS2.out, by rw [← HGS.out]; exact hSl, by rw [← HGS.out]; intro x hx; have := HSB2.out x hx; omega⟩, ((Below.refl w.heap.size w).alloc (by simp) _).trans (HB2.out.mono (by omega))⟩
      · simp only [Exit.then]
        refine gen_w (fun W => Blk W (w.heap.size + 1) 3 (intsA (List.replicate dl 0)) ∧ Blk W (w.heap.size + 1 + 1) 3 (intsA (List.replicate dl 0)) ∧ Below (w.heap.size + 1) (w.alloc (Obj.cells #[Value.int IntKind.i64 dl, Value.slice ra rl rc, Value.slice ca cl cc, Value.int IntKind.i64 rate, Value.int IntKind.i64 bill, Value.slice da dl dc, Value.slice pa pl pc] 27)) W) ⟨(Blk.new_ (by simp) _ _).alloc _, Blk.new_ (by simp) _ _, (by repeat (first | exact Below.refl _ _ | assumption | refine Below.drew ?_ | refine below_drewN ?_ _ | refine Below.alloc ?_ (by (try simp) <;> omega) _ | refine Below.setCell ?_ (by (try simp) <;> omega) _ | refine Below.trans ?_ (Below.mono (by assumption) (by (try simp) <;> omega))))⟩ ?_
        rintro W ⟨hWR, hWS, hWB⟩
        generalize hx2 : w.heap.size + 1 + 1 = s at *
        generalize hx1 : w.heap.size + 1 = r at hWR ⊢
        have hsn : w.heap.size < s := by omega
        have hrn : w.heap.size < r := by omega
        have hsr : ¬ s = r := by omega
        have hrs : ¬ r = s := by omega
        clear hx1 hx2

        have hb0 : ∀ o, W.cell? ⟨w.heap.size, o, none⟩ = _ := fun o => hWB.cell (p := ⟨w.heap.size, o, none⟩) (by show w.heap.size < _; omega)
        have HWB := Lib.hid hWB
        have HWS := Lib.hid hWS
        have HWR := Lib.hid hWR
        clear hWB hWS hWR
        obtain ⟨all, HALL⟩ : ∃ all, Hid (sumF p.days dl = all) := ⟨_, rfl⟩
        rw [HALL.out] at s0 s1
        by_cases ha : all = 0
        · have haz : (sumF p.days dl == 0) = true := by simp [HALL.out, ha]
          have HR : Hid (sharesR p = List.replicate dl 0) := by show _ = _; rw [sharesR, HDL.out, if_pos (by rw [HALL.out]; exact ha)]
          clear ha
          go_wp2
          go_ret
          exact ⟨⟨s, rfl, by omega, by rw [HR.out]; exact HWS.out, by rw [HR.out]; simp, by rw [HR.out]; intro x hx; have := List.eq_of_mem_replicate hx; omega⟩, ((Below.refl w.heap.size w).alloc (by simp) _).trans (HWB.out.mono (by omega))⟩
        · have haz : (sumF p.days dl == 0) = false := by simp [HALL.out, ha]
          have hall1 : 1 ≤ all := by omega
          have hall0 : ¬ all = 0 := ha
          have hallb : (all == 0) = false := by simp [ha]
          have HR : Hid (sharesR p = giveF dl (bill - sumF (partF bill all p.days (· / ·) dl dl) dl).toNat (partF bill all p.days (· / ·) dl dl, partF bill all p.days (· % ·) dl dl)) := by
            show _ = _; rw [sharesR, HDL.out, HALL.out, HBE.out, if_neg ha]
          clear ha
          go_wp2
          rw [HALL.out]
          clear haz hb0
          go_loopw [7, 8] (fun l i wr => ∃ k : Nat, k ≤ dl ∧ i = .int .i64 k ∧ l = .int .i64 (bill - sumF (partF bill all p.days (· / ·) dl dl) k) ∧
              Blk wr s 3 (intsA (partF bill all p.days (· / ·) dl k)) ∧ Blk wr r 3 (intsA (partF bill all p.days (· % ·) dl k)) ∧ Below (w.heap.size + 1) (w.alloc (Obj.cells #[Value.int IntKind.i64 dl, Value.slice ra rl rc, Value.slice ca cl cc, Value.int IntKind.i64 rate, Value.int IntKind.i64 bill, Value.slice da dl dc, Value.slice pa pl pc] 27)) wr) (fun _ i _ => dl - (intOf i).toNat)
          case atStart => exact ⟨0, Nat.zero_le _, rfl, by simp [sumF], by rw [partF_zero]; exact HWS.out, by rw [partF_zero]; exact HWR.out, HWB.out⟩
          case round =>
            obtain ⟨k, hk, rfl, rfl, hkS, hkR, hb⟩ := hrel
            have hb0 : ∀ o, wr.cell? ⟨w.heap.size, o, none⟩ = _ := fun o => hb.cell (p := ⟨w.heap.size, o, none⟩) (by show w.heap.size < _; omega)
            have HB := Lib.hid hb
            have hS0 := hkS.lt
            have hR0 := hkR.lt
            have HKS := Lib.hid hkS
            have HKR := Lib.hid hkR
            clear hb hkS hkR
            have HBW : Hid (Below w.heap.size w wr) := ((Below.refl w.heap.size w).alloc (by simp) _).trans (HB.out.mono (by omega))
            by_cases hlt : k < dl
            · obtain ⟨c, hc⟩ : ∃ c, p.days[k]? = some c := ⟨p.days[k]'(by have := HDL.out; omega), by simp⟩
              obtain ⟨d0, d1⟩ := HDB.out k c hc
              obtain ⟨v0, v1⟩ := share_bd b0 b1 d0 d1
              obtain ⟨P0, P1, P2⟩ := sumP_bd (days := p.days) (n := dl) b0 b1 hall1 HDB.out k (by omega)
              have HST : Hid (sumF (partF bill all p.days (· / ·) dl dl) (k + 1) = sumF (partF bill all p.days (· / ·) dl dl) k + bill * c / all) := by
                show _ = _; rw [sumF, partF_get (by omega) hlt, if_pos hlt, hc]; rfl
              have HS1 : Hid (partF bill all p.days (· / ·) dl (k + 1) = (partF bill all p.days (· / ·) dl k).set k (bill * c / all)) := by show _ = _; rw [partF_set hlt hc]
              have HS2 : Hid (partF bill all p.days (· % ·) dl (k + 1) = (partF bill all p.days (· % ·) dl k).set k (bill * c % all)) := by show _ = _; rw [partF_set hlt hc]
              obtain ⟨b, off, rfl, hbl, H0⟩ := (HP.out.grow HBW.out).hdays k c hc
              have u0 : wr.cell? ⟨s, k, none⟩ = some (.int .i64 0) := by rw [HKS.out.cell, intsA_get, partF_get (by omega) hlt, if_neg (by omega)]; rfl
              have u1 : wr.cell? ⟨r, k, none⟩ = some (.int .i64 0) := by rw [HKR.out.cell, intsA_get, partF_get (by omega) hlt, if_neg (by omega)]; rfl
              have u2 : wr.frozen? ⟨s, k, none⟩ = false := HKS.out.frozen k
              have u3 : wr.frozen? ⟨r, k, none⟩ = false := HKR.out.frozen k
              have hkd : (k : Int) < (dl : Int) := by omega
              have hq0 : w.heap.size < wr.heap.size := by omega
              have hdb : 0 ≤ bill * c / all ∧ bill * c / all ≤ 100000 := ⟨Int.ediv_nonneg v0 (by omega), Int.le_trans (Int.ediv_le_self _ v0) v1⟩
              obtain ⟨e0, e1⟩ := hdb
              have pb4 : wr.cell? ⟨w.heap.size, 4, none⟩ = some (.int .i64 bill) := by rw [hb0]; go_simp
              have pb5 : wr.cell? ⟨w.heap.size, 5, none⟩ = some (.slice (some ⟨b, off, none⟩) dl dc) := by rw [hb0]; go_simp
              clear hc
              go_wp2
              clear hb0
              go_region
              simp only [Exit.then]
              go_wp2
              go_roundw
              case rel =>
                have HB1 := HB.out
                have K1 := HKS.out
                have K2 := HKR.out
                exact ⟨k + 1, by omega, by go_num, by rw [HST.out]; go_num, by rw [HS1.out, ← intsA_set]; exact (K1.set_ k _).far (by omega) _, by rw [HS2.out, ← intsA_set]; exact (K2.far (by omega) _).set_ k _, ((HB1.setCell (by show w.heap.size + 1 ≤ s; omega) _).setCell (by show w.heap.size + 1 ≤ r; omega) _).drew⟩
              case measure => simp [intOf]; omega
            · obtain rfl : dl = k := by omega
              obtain ⟨P0, P1, P2⟩ := sumP_bd (days := p.days) (n := dl) b0 b1 hall1 HDB.out dl (Nat.le_refl _)
              have HSB := Lib.hid (partS_bd (days := p.days) (n := dl) b0 b1 hall1 HDB.out)
              go_wp2
              clear hb0
              go_loopw [7] (fun l wq => ∃ (z : Int) (S R : List Int), l = .int .i64 z ∧ -400000 ≤ z ∧ z ≤ 10000 ∧ S.length = dl ∧ R.length = dl ∧ (∀ x ∈ S, 0 ≤ x ∧ x + z ≤ 110000) ∧
                  Blk wq s 3 (intsA S) ∧ Blk wq r 3 (intsA R) ∧ giveF dl z.toNat (S, R) = sharesR p ∧ Below (w.heap.size + 1) (w.alloc (Obj.cells #[Value.int IntKind.i64 dl, Value.slice ra rl rc, Value.slice ca cl cc, Value.int IntKind.i64 rate, Value.int IntKind.i64 bill, Value.slice da dl dc, Value.slice pa pl pc] 27)) wq) (fun l _ => (intOf l).toNat)
              case atStart =>
                refine ⟨_, _, _, rfl, by omega, by omega, partF_len .., partF_len .., ?_, HKS.out, HKR.out, HR.out.symm, HB.out⟩
                intro x hx
                have := HSB.out x hx
                omega
              case round =>
                obtain ⟨z, S, R, rfl, z0, z1, hSl, hRl, hSb, hkS2, hkR2, hG, hb⟩ := hrel
                have hb0 : ∀ o, wr.cell? ⟨w.heap.size, o, none⟩ = _ := fun o => hb.cell (p := ⟨w.heap.size, o, none⟩) (by show w.heap.size < _; omega)
                have HB2 := Lib.hid hb
                have hS2 := hkS2.lt
                have hR2 := hkR2.lt
                have HKS2 := Lib.hid hkS2
                have HKR2 := Lib.hid hkR2
                have HG := Lib.hid hG
                have HSB2 := Lib.hid hSb
                clear hb hkS2 hkR2 hG hSb
                by_cases hz : 0 < z
                · go_wp2
                  clear hb0
                  go_loopw [9, 10] (fun b i wq => (∃ k : Nat, 1 ≤ k ∧ k ≤ dl ∧ i = .int .i64 k ∧ b = .int .i64 (bestF R (k - 1))) ∧ Blk wq s 3 (intsA S) ∧ Blk wq r 3 (intsA R) ∧ Below (w.heap.size + 1) (w.alloc (Obj.cells #[Value.int IntKind.i64 dl, Value.slice ra rl rc, Value.slice ca cl cc, Value.int IntKind.i64 rate, Value.int IntKind.i64 bill, Value.slice da dl dc, Value.slice pa pl pc] 27)) wq) (fun _ i _ => dl - (intOf i).toNat)
                  case atStart => exact ⟨⟨1, Nat.le_refl _, n0, rfl, rfl⟩, HKS2.out, HKR2.out, HB2.out⟩
                  case round =>
                    obtain ⟨⟨k, k1, hk, rfl, rfl⟩, hkS3, hkR3, hb⟩ := hrel
                    clear HKS2 HKR2 HB2 hS2 hR2
                    have hb0 : ∀ o, wr.cell? ⟨w.heap.size, o, none⟩ = _ := fun o => hb.cell (p := ⟨w.heap.size, o, none⟩) (by show w.heap.size < _; omega)
                    have HB2 := Lib.hid hb
                    have hS2 := hkS3.lt
                    have hR2 := hkR3.lt
                    have HKS2 := Lib.hid hkS3
                    have HKR2 := Lib.hid hkR3
                    clear hb hkS3 hkR3
                    have hle := bestF_le R (k - 1)
                    obtain ⟨y, hy⟩ : ∃ y, R[bestF R (k - 1)]? = some y := ⟨R[bestF R (k - 1)]'(by omega), by simp⟩
                    by_cases hlt : k < dl
                    · obtain ⟨x, hx⟩ : ∃ x, R[k]? = some x := ⟨R[k]'(by omega), by simp⟩
                      have HBS := Lib.hid (bestF_step k1 hx hy)
                      have u1 : wr.cell? ⟨r, k, none⟩ = some (.int .i64 x) := by rw [HKR2.out.cell, intsA_get, hx]; rfl
                      have u2 : wr.cell? ⟨r, bestF R (k - 1), none⟩ = some (.int .i64 y) := by rw [HKR2.out.cell, intsA_get, hy]; rfl
                      clear hx hy
                      generalize bestF R (k - 1) = be at *
                      by_cases hxy : y < x
                      · go_wp2
                        go_quiet (fail)
                        go_wp2
                        go_roundw
                        case rel => exact ⟨⟨k + 1, by omega, by omega, by go_num, by rw [show k + 1 - 1 = k from rfl, HBS.out, if_pos hxy]⟩, HKS2.out, HKR2.out, HB2.out.trans (below_drewN (Below.refl _ _) _)⟩
                        case measure => simp [intOf]; omega
                      · go_wp2
                        go_quiet (fail)
                        go_wp2
                        go_roundw
                        case rel => exact ⟨⟨k + 1, by omega, by omega, by go_num, by rw [show k + 1 - 1 = k from rfl, HBS.out, if_neg (by omega)]⟩, HKS2.out, HKR2.out, HB2.out.trans (below_drewN (Below.refl _ _) _)⟩
                        case measure => simp [intOf]; omega
                    · obtain rfl : dl = k := by omega
                      obtain ⟨x, hx⟩ : ∃ x, S[bestF R (dl - 1)]? = some x := ⟨S[bestF R (dl - 1)]'(by omega), by simp⟩
                      have HGS : Hid (giveF dl (z - 1).toNat (S.set (bestF R (dl - 1)) (x + 1), R.set (bestF R (dl - 1)) (-1)) = sharesR p) := by
                        show _ = _
                        rw [← HG.out, show z.toNat = (z - 1).toNat + 1 by omega, giveF, hx]; rfl
                      have hxb := HSB2.out x (List.mem_of_getElem? hx)
                      obtain ⟨x0, x1⟩ := hxb
                      have HX := Lib.hid hx
                      have u1 : wr.cell? ⟨s, bestF R (dl - 1), none⟩ = some (.int .i64 x) := by rw [HKS2.out.cell, intsA_get, hx]; rfl
                      have u2 : wr.cell? ⟨r, bestF R (dl - 1), none⟩ = some (.int .i64 y) := by rw [HKR2.out.cell, intsA_get, hy]; rfl
                      have u3 : wr.frozen? ⟨s, bestF R (dl - 1), none⟩ = false := HKS2.out.frozen _
                      have u4 : wr.frozen? ⟨r, bestF R (dl - 1), none⟩ = false := HKR2.out.frozen _
                      clear hx hy
                      generalize bestF R (dl - 1) = be at *
                      have hbd : (be : Int) < (dl : Int) := by omega
                      go_wp2
                      go_roundw
                      case rel =>
                        refine ⟨z - 1, S.set be (x + 1), R.set be (-1), by go_num, by omega, by omega, by simpa using hSl, by simpa using hRl, ?_, by rw [← intsA_set]; exact (HKS2.out.set_ be _).far (by show s ≠ r; omega) _, by rw [← intsA_set]; exact (HKR2.out.far (by show r ≠ s; omega) _).set_ be _, HGS.out, (HB2.out.setCell (by show w.heap.size + 1 ≤ s; omega) _).setCell (by show w.heap.size + 1 ≤ r; omega) _⟩
                        intro u hu
                        rcases List.mem_or_eq_of_mem_set hu with hu | rfl
                        · have := HSB2.out u hu; omega
                        · omega
                      case measure => simp [intOf]; omega
                · have hz0 : z.toNat = 0 := by omega
                  have HGS : Hid (S = sharesR p) := by show _ = _; rw [← HG.out, hz0]; rfl
                  go_wp2
                  go_ret
                  exact ⟨⟨s, rfl, by omega, by rw [← HGS.out]; exact HKS2.out, by rw [← HGS.out]; exact hSl, by rw [← HGS.out]; intro x hx; have := HSB2.out x hx; omega⟩, ((Below.refl w.heap.size w).alloc (by simp) _).trans (HB2.out.mono (by omega))⟩
end
end Go.Proofs.YtlcolpnniipgbaaDoor
