/- The walks of the law's fine and inside; what spans, shares and numbers are where a pay is valid. -/
import Derived.Test.YtlcolpnniipgbaaDoorLaw2
namespace Go.Proofs.YtlcolpnniipgbaaDoor
open Go.RowKit Go.Hav
section
variable {people rate bill : Int} {ra ca da pa : Option Addr} {rl rc cl cc dl dc pl pc : Nat} {p : PayD}
theorem fine_any (w : World) (hP : PayIn w w.heap.size people ra rl ca cl rate bill da dl pa pl p) :
    Calls Tryd.prog 30 #[payV people ra rl rc ca cl cc rate bill da dl dc pa pl pc] w fun e w' => (∃ b, e = .returned (.bool b) ∧ (b = true → payB p = true)) ∧ Below w.heap.size w w' := by
  have HP := Lib.hid hP
  have m1 := hP.mrl
  have m2 := hP.mcl
  have m3 := hP.mdl
  have m4 := hP.mpl
  clear hP
  unfold payV
  go_enter Tryd.func30, Tryd.ntmps30
  go_wp2_with fail
  refine (far_any _ m1 m2 m3 m4).mono ?_
  rintro e w1 ⟨⟨b, rfl, _⟩, hb1⟩
  have HX1 : Hid (Blk w1 w.heap.size 27 (payCs people ra rl rc ca cl cc rate bill da dl dc pa pl pc)) := (Blk.new _ _ _).below hb1 (by simp)
  have HB1 : Hid (Below w.heap.size w w1) := ((Below.refl w.heap.size w).alloc (Nat.le_refl _) _).trans (hb1.mono (by simp))
  have hx1 : w.heap.size < w1.heap.size := HX1.out.lt
  clear hb1
  have x10 : w1.cell? ⟨w.heap.size, 0, none⟩ = some (.int .i64 people) := HX1.out.cell 0
  have x11 : w1.cell? ⟨w.heap.size, 1, none⟩ = some (.slice ra rl rc) := HX1.out.cell 1
  have x12 : w1.cell? ⟨w.heap.size, 2, none⟩ = some (.slice ca cl cc) := HX1.out.cell 2
  have x13 : w1.cell? ⟨w.heap.size, 3, none⟩ = some (.int .i64 rate) := HX1.out.cell 3
  have x14 : w1.cell? ⟨w.heap.size, 4, none⟩ = some (.int .i64 bill) := HX1.out.cell 4
  have x15 : w1.cell? ⟨w.heap.size, 5, none⟩ = some (.slice da dl dc) := HX1.out.cell 5
  have x16 : w1.cell? ⟨w.heap.size, 6, none⟩ = some (.slice pa pl pc) := HX1.out.cell 6
  cases b
  · go_wp2_with fail
    refine (Pay_any (p := p) _ (by exact HP.out.grow HB1.out)).mono ?_
    rintro e w2 ⟨rfl, hb2⟩
    go_wp2
    go_ret
    exact ⟨⟨_, rfl, fun h => h⟩, HB1.out.trans (hb2.mono HB1.out.size)⟩
  · go_wp2
    go_ret
    exact ⟨⟨_, rfl, fun h => by cases h⟩, HB1.out⟩
theorem inside_any (n lo hi : Int) (w : World) : Calls Tryd.prog 32 #[.int .i64 n, spV ⟨lo, hi⟩] w fun e w' => e = .returned (.bool (decide (lo ≤ n) && decide (n ≤ hi))) ∧ Below w.heap.size w w' := by
  unfold spV
  by_cases h : lo ≤ n
  · have hd : decide (lo ≤ n) = true := by simpa using h
    go_enter Tryd.func32, Tryd.ntmps32
    go_wp2
    go_ret
    exact ⟨by simp [h], (by repeat (first | exact Below.refl _ _ | assumption | refine Below.drew ?_ | refine below_drewN ?_ _ | refine Below.alloc ?_ (by (try simp) <;> omega) _ | refine Below.setCell ?_ (by (try simp) <;> omega) _ | refine Below.trans ?_ (Below.mono (by assumption) (by (try simp) <;> omega))))⟩
  · have hd : decide (lo ≤ n) = false := by simpa using h
    go_enter Tryd.func32, Tryd.ntmps32
    go_wp2
    go_ret
    exact ⟨by simp, (by repeat (first | exact Below.refl _ _ | assumption | refine Below.drew ?_ | refine below_drewN ?_ _ | refine Below.alloc ?_ (by (try simp) <;> omega) _ | refine Below.setCell ?_ (by (try simp) <;> omega) _ | refine Below.trans ?_ (Below.mono (by assumption) (by (try simp) <;> omega))))⟩
end
theorem whoB_in {p : PayD} {k : Int} (h0 : 0 ≤ k) (h1 : k < p.people) : whoB p k = true := by
  rw [whoB, inB_iff]; omega
theorem runB_in {p : PayD} {k : Int} (h0 : 0 ≤ k) (h1 : k < p.runs.length) : runB p k = true := by
  rw [runB, inB_iff]; omega
theorem spanR_ok {p : PayD} {b : Bool} (hv : payB p = true) (ht : wrongI p = 0) (hb : b = true) (s : Sp) : spanR (checkE p b true) s = (s, 0) := by
  rw [checkE_fine hv hb]; simp [ht, spanR]
theorem spanR_clash {p : PayD} {b : Bool} (hv : payB p = true) (ht : wrongI p ≠ 0) (hb : b = true) (s : Sp) : spanR (checkE p b true) s = (⟨0, 0⟩, 10) := by
  rw [checkE_fine hv hb]; simp [ht, spanR]
theorem messR_ok {p : PayD} {k : Int} (hv : payB p = true) (hb : whoB p k = true) : messR p k = (((sharesR p)[k.toNat]?).getD 0, 0) := by
  have e0 : checkE p (whoB p k) false = 0 := by rw [checkE_fine hv hb]; simp
  rw [messR, if_pos e0]
theorem giveF_bd (n : Nat) : ∀ (k : Nat) (S R : List Int) (m : Int), 0 ≤ m → (∀ x ∈ S, 0 ≤ x ∧ x ≤ m) → (giveF n k (S, R)).length = S.length ∧ ∀ x ∈ giveF n k (S, R), 0 ≤ x ∧ x ≤ m + k := by
  intro k
  induction k with
  | zero => intro S R m _ h; exact ⟨rfl, fun x hx => by have := h x hx; simpa using this⟩
  | succ k ih =>
    intro S R m hm h
    have := ih (S.set (bestF R (n - 1)) ((S[bestF R (n - 1)]?).getD 0 + 1)) (R.set (bestF R (n - 1)) (-1)) (m + 1) (by omega) (fun x hx => by
      rcases List.mem_or_eq_of_mem_set hx with h1 | h1
      · have := h x h1; omega
      · rw [h1]
        cases e : S[bestF R (n - 1)]? with
        | none => simp; omega
        | some y => have := h y (List.mem_of_getElem? e); simp; omega)
    rw [giveF]
    refine ⟨by rw [this.1]; simp, fun x hx => ?_⟩
    have := this.2 x hx
    omega
theorem sharesR_bd {p : PayD} (hv : payB p = true) : (sharesR p).length = p.days.length ∧ ∀ x ∈ sharesR p, 0 ≤ x ∧ x ≤ 100004 := by
  have hb := payB_people hv
  have hr := payB_rate hv
  have hs := sumF_bd (l := p.days) (fun k x h => payB_day hv h) p.days.length
  rw [sharesR]
  split
  · exact ⟨by simp, fun x hx => by rw [List.mem_replicate] at hx; omega⟩
  · rename_i hne
    have hl := left_bd (bill := p.bill) (days := p.days) (n := p.days.length) (all := sumF p.days p.days.length) (by omega) (by omega) rfl
    have hp := partS_bd (bill := p.bill) (all := sumF p.days p.days.length) (days := p.days) (n := p.days.length) (by omega) (by omega) (by omega) (fun k x h => payB_day hv h)
    obtain ⟨h1, h2⟩ := giveF_bd p.days.length (p.bill - sumF (partF p.bill (sumF p.days p.days.length) p.days (· / ·) p.days.length p.days.length) p.days.length).toNat _ (partF p.bill (sumF p.days p.days.length) p.days (· % ·) p.days.length p.days.length) 100000 (by omega) hp
    refine ⟨by rw [h1, partF_len], fun x hx => ?_⟩
    have := h2 x hx
    omega
theorem share_in {p : PayD} (hv : payB p = true) (k : Nat) : 0 ≤ ((sharesR p)[k]?).getD 0 ∧ ((sharesR p)[k]?).getD 0 ≤ 100004 := by
  cases e : (sharesR p)[k]? with
  | none => simp
  | some x => exact (sharesR_bd hv).2 x (List.mem_of_getElem? e)
theorem sheep_in {p : PayD} (hv : payB p = true) (ht : wrongI p = 0) {who run : Int} (h0 : 0 ≤ who) (h1 : who < p.people) (r0 : 0 ≤ run) (r1 : run < p.runs.length) :
    0 ≤ (sheepS p who run).lo ∧ (sheepS p who run).lo ≤ (sheepS p who run).hi ∧ (sheepS p who run).hi ≤ 100 :=
  sheepS_ok hv who run h0 h1 r0 r1 ((wrongI_zero p).1 ht run.toNat (by omega))
theorem wagesP_in {p : PayD} (hv : payB p = true) (ht : wrongI p = 0) {who : Int} (h0 : 0 ≤ who) (h1 : who < p.people) : ∀ k : Nat, k ≤ p.runs.length →
    0 ≤ (wagesF (fun r => sheepS p who r) p.rate k).lo ∧ (wagesF (fun r => sheepS p who r) p.rate k).lo ≤ 1000 * k ∧ 0 ≤ (wagesF (fun r => sheepS p who r) p.rate k).hi ∧ (wagesF (fun r => sheepS p who r) p.rate k).hi ≤ 1000 * k := by
  have hr := payB_rate hv
  exact wagesF_bd (g := fun r => sheepS p who r) (rate := p.rate) (n := p.runs.length) (by omega) (by omega) (fun r hlt => by
    have := sheep_in hv ht h0 h1 (run := r) (by omega) (by omega)
    show 0 ≤ (sheepS p who r).lo ∧ _
    omega)
end Go.Proofs.YtlcolpnniipgbaaDoor
