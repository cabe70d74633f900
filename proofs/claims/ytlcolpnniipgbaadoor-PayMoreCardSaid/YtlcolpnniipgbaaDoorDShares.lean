/- The walk of the program's shares. -/
import Derived.Test.YtlcolpnniipgbaaDoorSort2
import Derived.Test.YtlcolpnniipgbaaDoorSort0
import Derived.Laws.CopyOwn
namespace Go.Proofs.YtlcolpnniipgbaaDoor
open Go.RowKit Go.Hav
theorem splice_all {xs ys : List Value} (h : xs.length = ys.length) : splice xs 0 ys = ys := by
  unfold splice
  simp [h]
/-- The first k are rests; the others are still days. -/
def mixF (bill all : Int) (days : List Int) (n k : Nat) : List Int := (List.range n).map fun i => if i < k then bill * (days[i]?).getD 0 % all else (days[i]?).getD 0
theorem mixF_zero (bill all : Int) (days : List Int) : mixF bill all days days.length 0 = days := by
  apply List.ext_getElem
  · simp [mixF]
  · intro i h1 h2
    simp only [mixF, List.getElem_map, List.getElem_range, Nat.not_lt_zero, if_false]
    rw [List.getElem?_eq_getElem h2]; rfl
theorem mixF_all (bill all : Int) (days : List Int) (n : Nat) : mixF bill all days n n = partF bill all days (· % ·) n n := by
  apply List.ext_getElem
  · simp [mixF, partF]
  · intro i h1 h2
    simp [mixF] at h1
    simp [mixF, partF, h1]
theorem mixF_get {bill all : Int} {days : List Int} {n k i : Nat} (hi : i < n) : (mixF bill all days n k)[i]? = some (if i < k then bill * (days[i]?).getD 0 % all else (days[i]?).getD 0) := by
  simp [mixF, hi]
theorem mixF_set {bill all : Int} {days : List Int} {n k : Nat} {c : Int} (hc : days[k]? = some c) : mixF bill all days n (k + 1) = (mixF bill all days n k).set k (bill * c % all) := by
  apply List.ext_getElem
  · simp [mixF]
  · intro i h1 h2
    simp only [mixF, List.getElem_set, List.getElem_map, List.getElem_range]
    by_cases e : k = i
    · subst e; simp [hc]
    · rw [if_neg e]
      by_cases h : i < k
      · rw [if_pos h, if_pos (by omega)]
      · rw [if_neg h, if_neg (by omega)]
theorem giveO_bd (O : List Nat) {S : List Int} {m : Int} (h : ∀ x ∈ S, 0 ≤ x ∧ x ≤ m) (hm : 0 ≤ m) : ∀ k, ∀ x ∈ giveO O S k, 0 ≤ x ∧ x ≤ m + k := by
  intro k
  induction k with
  | zero => intro x hx; have := h x hx; simpa using this
  | succ k ih =>
    intro x hx
    rw [giveO] at hx
    rcases List.mem_or_eq_of_mem_set hx with h1 | h1
    · have := ih x h1; omega
    · rw [h1]
      cases e : (giveO O S k)[og O k]? with
      | none => simp; omega
      | some y => have := ih y (List.mem_of_getElem? e); simp; omega
theorem copy_days {W : World} {g n cap : Nat} {A : Option Addr} {days old : List Int} (hl : days.length = n) (hn : 1 ≤ n) (ho : old.length = n) (hb : Blk W g 3 (intsA old)) (hr : RdInts W g A days) :
    ∃ w1, (Builtin.copy_ #[24, 24] 3 #[.slice (some ⟨g, 0, none⟩) n n, .slice A n cap]).run Tryd.prog W = .ok (.int .i64 n) w1 ∧ Blk w1 g 3 (intsA days) ∧ Below g W w1 := by
  obtain ⟨b, off, rfl, _, _⟩ := hr 0 (days[0]'(by omega)) (by simp)
  have h := run_copy_row (P := Tryd.prog) W 24 24 3 3 g 0 n n ⟨b, off, none⟩ n cap (intsA old) 3 (days.map (Value.int .i64)) Tryd.underlying24 (by kernel_rfl) hb (by simp [hl])
    (fun j v hv => by
      rw [List.getElem?_map] at hv
      cases e : days[j]? with
      | none => rw [e] at hv; cases hv
      | some x =>
        rw [e] at hv
        obtain rfl := Option.some.inj hv
        obtain ⟨b', off', he, _, hc⟩ := hr j x e
        obtain ⟨rfl, rfl⟩ : b = b' ∧ off = off' := by injection he with he; injection he with e1 e2; exact ⟨e1, e2⟩
        rw [← hc]
        unfold Addr.add
        split
        · rename_i hz; subst hz; rfl
        · rfl) (by simp [intsA_size, hl, ho]) (by
      intro v hv
      obtain ⟨x, _, rfl⟩ := List.mem_map.1 hv
      rfl)
  have e : ((intsA old).toList.take 0 ++ days.map (Value.int .i64) ++ (intsA old).toList.drop (0 + (days.map (Value.int .i64)).length)).toArray = intsA days := by
    simp [intsA, hl, ho]
  rw [e] at h
  exact ⟨_, by rw [h, List.length_map, hl]; rfl, setRow_heap W g (intsA old) (intsA days) 3 (0, 0) hb, below_setRow (Below.refl _ _) (Nat.le_refl _) _⟩
section
variable {B d r : Nat} {people rate bill : Int} {ra ca da pa : Option Addr} {rl rc cl cc dl dc pl pc : Nat} {p : PayD}
set_option maxRecDepth 100000 in
set_option maxHeartbeats 6400000 in
theorem dshares_any (hv : payB p = true) (w : World) (hD : DeskIn w B d r people ra rl rc ca cl cc rate bill da dl dc pa pl pc p) :
    Calls Tryd.prog 62 #[(.pointer (some ⟨d, 0, none⟩))] w fun e w' => (∃ g, e = .returned (.slice (some ⟨g, 0, none⟩) dl dl) ∧ w.heap.size ≤ g ∧ Blk w' g 3 (intsA (sharesR p)) ∧ (sharesR p).length = dl ∧ ∀ x ∈ sharesR p, 0 ≤ x ∧ x ≤ 600000) ∧ Below w.heap.size w w' := by
  have HD := Lib.hid hD
  have HV := Lib.hid hv
  have HDL := Lib.hid hD.pay.edl
  have hb := payB_people hv
  have hra := payB_rate hv
  have hbe := hD.pay.ebill
  have hpd : people = dl := by have := hD.pay.epeople; have := hD.pay.edl; omega
  have n1 : dl ≤ 4 := by have := hD.pay.edl; omega
  have n0 : 1 ≤ dl := by have := hD.pay.edl; omega
  have b0 : 0 ≤ bill := by omega
  have b1 : bill ≤ 10000 := by omega
  have HBE := Lib.hid hD.pay.ebill
  have HDB : Hid (∀ (k : Nat) x, p.days[k]? = some x → 0 ≤ x ∧ x ≤ 10) := fun k x hx => payB_day hv hx
  have hdw : d < w.heap.size := Nat.lt_of_lt_of_le hD.hd hD.hB
  have p4 := hD.c4
  have p5 := hD.c5
  have hmk := make_ints dl (by omega)
  have hdw1 : d < w.heap.size + 1 := by omega
  subst hpd
  clear hD hv hb hra hbe
  go_enter Tryd.func62, Tryd.ntmps62
  have HBK0 : Hid (Blk (w.alloc (.cells (intsA (List.replicate dl 0)) 3)) w.heap.size 3 (intsA (List.replicate dl 0))) := Blk.new _ _ _
  obtain ⟨w1, hcp, hb1, hw1⟩ := copy_days (cap := dc) HDL.out n0 (by simp) HBK0.out ((HD.out.pay.hdays.below ((Below.refl w.heap.size w).alloc (Nat.le_refl _) _ |>.mono HD.out.hB)).more HD.out.hB)
  have HB1 : Hid (Below w.heap.size w w1) := ((Below.refl w.heap.size w).alloc (Nat.le_refl _) _).trans hw1
  have HK1 := Lib.hid hb1
  have l1 := hb1.lt
  clear hb1 hw1 HBK0
  go_wp2
  clear hcp
  go_loop [4, 6, 29] (fun all _ i => ∃ k : Nat, k ≤ dl ∧ i = .int .i64 k ∧ all = .int .i64 (sumF p.days k)) (fun _ _ i => dl - (intOf i).toNat)
  case atStart => exact ⟨0, Nat.zero_le _, rfl, rfl⟩
  case round =>
    obtain ⟨k, hk, rfl, rfl⟩ := hrel
    obtain ⟨s0, s1⟩ := sumF_bd HDB.out k
    by_cases hlt : k < dl
    · obtain ⟨c, hc⟩ : ∃ c, p.days[k]? = some c := ⟨p.days[k]'(by have := HDL.out; omega), by simp⟩
      obtain ⟨d0, d1⟩ := HDB.out k c hc
      have HST : Hid (sumF p.days (k + 1) = sumF p.days k + c) := by show _ = _; rw [sumF, hc]; rfl
      have H0 : w1.cell? ⟨w.heap.size, k, none⟩ = some (.int .i64 c) := by rw [HK1.out.cell, intsA_get, hc]; rfl
      clear hc
      go_wp2
      go_round
      case rel => exact ⟨k + 1, by omega, by go_num, by rw [HST.out]⟩
      case measure => simp [intOf]; omega
    · obtain rfl : dl = k := by omega
      have p4' : w1.cell? ⟨d, 4, none⟩ = some (.int .i64 bill) := (HB1.out.cell (p := ⟨d, 4, none⟩) hdw).trans p4
      have hd1 : d < w1.heap.size := by have := HB1.out.size; omega
      have hs1 : w.heap.size < w1.heap.size := l1
      obtain ⟨all, HALL⟩ : ∃ all, Hid (sumF p.days dl = all) := ⟨_, rfl⟩
      rw [HALL.out] at s0 s1
      by_cases ha : all = 0
      · have haz : (sumF p.days dl == 0) = true := by simp [HALL.out, ha]
        have HR : Hid (sharesR p = List.replicate dl 0) := by show _ = _; rw [sharesR, HDL.out, if_pos (by rw [HALL.out]; exact ha)]
        clear ha
        go_wp2
        go_ret
        exact ⟨⟨_, rfl, by omega, by rw [HR.out]; exact Blk.new _ _ _, by rw [HR.out]; simp, by rw [HR.out]; intro x hx; have := List.eq_of_mem_replicate hx; omega⟩, HB1.out.alloc (by omega) _⟩
      · have haz : (sumF p.days dl == 0) = false := by simp [HALL.out, ha]
        have hall1 : 1 ≤ all := by omega
        have hall0 : ¬ all = 0 := ha
        have hallb : (all == 0) = false := by simp [ha]
        have HR : Hid (sharesR p = giveF dl (bill - sumF (partF bill all p.days (· / ·) dl dl) dl).toNat (partF bill all p.days (· / ·) dl dl, partF bill all p.days (· % ·) dl dl)) := by
          show _ = _; rw [sharesR, HDL.out, HALL.out, HBE.out, if_neg ha]
        have HMZ : Hid (mixF bill all p.days dl 0 = p.days) := by show _ = _; rw [← HDL.out]; exact mixF_zero _ _ _
        clear ha
        go_wp2
        rw [HALL.out]
        clear haz
        go_loopw [8, 9, 10, 50] (fun l _ _ i wr => ∃ k : Nat, k ≤ dl ∧ i = .int .i64 k ∧ l = .int .i64 (bill - sumF (partF bill all p.days (· / ·) dl dl) k) ∧
            Hid (Blk wr w1.heap.size 3 (intsA (partF bill all p.days (· / ·) dl k))) ∧ Hid (Blk wr w.heap.size 3 (intsA (mixF bill all p.days dl k))) ∧ Hid (Below w.heap.size w wr)) (fun _ _ _ i _ => dl - (intOf i).toNat)
        case atStart => exact ⟨0, Nat.zero_le _, rfl, by simp [sumF], by show Blk _ _ _ _; rw [partF_zero]; exact Blk.new _ _ _, by show Blk _ _ _ _; rw [HMZ.out]; exact HK1.out.alloc _, HB1.out.alloc (by omega) _⟩
        case round =>
          obtain ⟨k, hk, rfl, rfl, HKS, HKR, HB⟩ := hrel
          have hS0 := HKS.out.lt
          have hR0 := HKR.out.lt
          by_cases hlt : k < dl
          · obtain ⟨c, hc⟩ : ∃ c, p.days[k]? = some c := ⟨p.days[k]'(by have := HDL.out; omega), by simp⟩
            obtain ⟨d0, d1⟩ := HDB.out k c hc
            obtain ⟨v0, v1⟩ := share_bd b0 b1 d0 d1
            obtain ⟨P0, P1, P2⟩ := sumP_bd (days := p.days) (n := dl) b0 b1 hall1 HDB.out k (by omega)
            have HST : Hid (sumF (partF bill all p.days (· / ·) dl dl) (k + 1) = sumF (partF bill all p.days (· / ·) dl dl) k + bill * c / all) := by
              show _ = _; rw [sumF, partF_get (by omega) hlt, if_pos hlt, hc]; rfl
            have HS1 : Hid (partF bill all p.days (· / ·) dl (k + 1) = (partF bill all p.days (· / ·) dl k).set k (bill * c / all)) := by show _ = _; rw [partF_set hlt hc]
            have HS2 : Hid (mixF bill all p.days dl (k + 1) = (mixF bill all p.days dl k).set k (bill * c % all)) := by show _ = _; rw [mixF_set hc]
            have u0 : wr.cell? ⟨w1.heap.size, k, none⟩ = some (.int .i64 0) := by rw [HKS.out.cell, intsA_get, partF_get (by omega) hlt, if_neg (by omega)]; rfl
            have u1 : wr.cell? ⟨w.heap.size, k, none⟩ = some (.int .i64 c) := by rw [HKR.out.cell, intsA_get, mixF_get hlt, if_neg (by omega), hc]; rfl
            have u2 : wr.frozen? ⟨w1.heap.size, k, none⟩ = false := HKS.out.frozen k
            have u3 : wr.frozen? ⟨w.heap.size, k, none⟩ = false := HKR.out.frozen k
            have pb4 : wr.cell? ⟨d, 4, none⟩ = some (.int .i64 bill) := (HB.out.cell (p := ⟨d, 4, none⟩) hdw).trans p4
            have hkd : (k : Int) < (dl : Int) := by omega
            have hdb : 0 ≤ bill * c / all ∧ bill * c / all ≤ 100000 := ⟨Int.ediv_nonneg v0 (by omega), Int.le_trans (Int.ediv_le_self _ v0) v1⟩
            obtain ⟨e0, e1⟩ := hdb
            have hne : ¬ w1.heap.size = w.heap.size := by omega
            have hne2 : ¬ w.heap.size = w1.heap.size := by omega
            have hne3 : ¬ d = w.heap.size := by omega
            have hne4 : ¬ d = w1.heap.size := by omega
            clear hc
            go_wp2
            go_region
            simp only [Exit.then]
            go_wp2
            go_roundw
            case rel =>
              refine ⟨k + 1, by omega, by go_num, by rw [HST.out]; go_num, ?_, ?_, ((HB.out.setCell (by show w.heap.size ≤ w1.heap.size; omega) _).setCell (Nat.le_refl _) _).drew⟩
              · show Blk _ _ _ _
                rw [HS1.out, ← intsA_set]; exact (HKS.out.set_ k _).far hne _
              · show Blk _ _ _ _
                rw [HS2.out, ← intsA_set]; exact (HKR.out.far hne2 _).set_ k _
            case measure => simp [intOf]; omega
          · obtain rfl : dl = k := by omega
            obtain ⟨L0, L1⟩ := left_bd (bill := bill) (days := p.days) hall1 n0 HALL.out
            obtain ⟨left, HL⟩ : ∃ left : Nat, Hid (bill - sumF (partF bill all p.days (· / ·) dl dl) dl = (left : Int)) := ⟨(bill - sumF (partF bill all p.days (· / ·) dl dl) dl).toNat, by show _ = _; omega⟩
            rw [HL.out] at L0 L1 HR ⊢
            have HRB : Hid (∀ (k : Nat) x, (partF bill all p.days (· % ·) dl dl)[k]? = some x → 0 ≤ x ∧ x ≤ 1000000) := fun k x hx => by
              have hk : k < dl := by have := (List.getElem?_eq_some_iff.1 hx).1; rw [partF_len] at this; exact this
              rw [partF_get (Nat.le_refl _) hk, if_pos hk] at hx
              obtain rfl := Option.some.inj hx
              have h1 := Int.emod_nonneg (bill * (p.days[k]?.getD 0)) (b := all) (by omega)
              have h2 := Int.emod_lt_of_pos (bill * (p.days[k]?.getD 0)) (b := all) (by omega)
              omega
            have HOR := Lib.hid (ordered88_any w.heap.size (partF bill all p.days (· % ·) dl dl) (by rw [partF_len]; exact n0) (by rw [partF_len]; omega) HRB.out wr (by rw [← mixF_all]; exact HKR.out))
            rw [partF_len] at HOR
            clear p4 p4' p5
            go_wp2_with fail
            refine HOR.out.mono ?_
            rintro e w2 ⟨⟨go, O, rfl, hgo, hS, hO⟩, hb2⟩
            have HS := Lib.hid hS
            have HO := Lib.hid hO
            have lo := hO.lt
            have HKS2 : Hid (Blk w2 w1.heap.size 3 (intsA (partF bill all p.days (· / ·) dl dl))) := HKS.out.below hb2 hS0
            have HB2 : Hid (Below w.heap.size w w2) := HB.out.trans (hb2.mono (by omega))
            have lw := HKS2.out.lt
            clear hS hO hb2 HOR
            go_wp2
            obtain ⟨S, HSS⟩ : ∃ S, Hid (partF bill all p.days (· / ·) dl dl = S) := ⟨_, rfl⟩
            have HSL : Hid (S.length = dl) := by show _ = _; rw [← HSS.out, partF_len]
            have HSB : Hid (∀ x ∈ S, 0 ≤ x ∧ x ≤ 100000) := by
              have := partS_bd (days := p.days) (n := dl) b0 b1 hall1 HDB.out
              rw [HSS.out] at this
              exact this
            have HFIN : Hid (giveO O S left = sharesR p) := by
              have h1 := giveF_giveO HS.out (partF_len ..) (fun i hi => by
                have := HRB.out i _ (rv_get (by rw [partF_len]; exact hi))
                exact this.1) S left 0 (by omega)
              rw [Nat.zero_add] at h1
              show _ = _
              rw [← h1, HR.out, HSS.out]
              rfl
            rw [HSS.out] at HKS2
            clear HR
            go_loopw [12, 92] (fun _ i wq => ∃ k : Nat, i = .int .i64 k ∧ k ≤ left ∧ Hid (Blk wq w1.heap.size 3 (intsA (giveO O S k))) ∧ Hid (Blk wq go 3 (natsA O)) ∧ Hid (Below w.heap.size w wq)) (fun _ i _ => left - (intOf i).toNat)
            case atStart => exact ⟨0, rfl, Nat.zero_le _, HKS2.out, HO.out, HB2.out⟩
            case round =>
              obtain ⟨k, rfl, hk, HK3, HO3, HB3⟩ := hrel
              have l3 := HK3.out.lt
              have l4 := HO3.out.lt
              by_cases hlt : k < left
              · obtain ⟨m0, m1⟩ := og_lt HS.out (j := k) (by omega)
                obtain ⟨m, HM⟩ : ∃ m, Hid (og O k = m) := ⟨_, rfl⟩
                rw [HM.out] at m0 m1
                have q1 : wr.cell? ⟨go, k, none⟩ = some (.int .i64 (m : Int)) := by rw [HO3.out.cell, natsA_get, m1]; rfl
                obtain ⟨x, hx⟩ : ∃ x, (giveO O S k)[m]? = some x := ⟨(giveO O S k)[m]'(by rw [giveO_len, HSL.out]; exact m0), by simp⟩
                have hxb := giveO_bd O HSB.out (by omega) k x (List.mem_of_getElem? hx)
                have hx0 : 0 ≤ x := hxb.1
                have hx1 : x ≤ 100004 := by omega
                have q2 : wr.cell? ⟨w1.heap.size, m, none⟩ = some (.int .i64 x) := by rw [HK3.out.cell, intsA_get, hx]; rfl
                have q3 : wr.frozen? ⟨w1.heap.size, m, none⟩ = false := HK3.out.frozen m
                have HG : Hid (giveO O S (k + 1) = (giveO O S k).set m (x + 1)) := by show _ = _; rw [giveO, HM.out, hx]; rfl
                clear hx hxb m1
                go_wp2
                go_roundw
                case rel =>
                  refine ⟨k + 1, by go_num, by omega, ?_, HO3.out.far (by show go ≠ w1.heap.size; omega) _, setK_below HB3.out (by omega) _ _⟩
                  show Blk _ _ _ _
                  rw [HG.out, ← intsA_set]
                  exact HK3.out.set_ m _
                case measure => simp [intOf]; omega
              · obtain rfl : left = k := by omega
                go_wp2
                go_ret
                refine ⟨⟨_, rfl, by omega, by rw [← HFIN.out]; exact HK3.out, by rw [← HFIN.out, giveO_len]; exact HSL.out, fun x hx => ?_⟩, HB3.out⟩
                rw [← HFIN.out] at hx
                have := giveO_bd O HSB.out (by omega) left x hx
                omega
end
end Go.Proofs.YtlcolpnniipgbaaDoor
