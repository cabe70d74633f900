/- The walk of Wait: for every press. -/
import Derived.Test.YtbfjebglaimcmaaApi6
namespace Go.Proofs.Ytbfjebglaimcmaa
open Go.RowKit Go.Hav Go.Shelf
/-- No set holds a fleece. -/
def waits (L : List Nat) (i : Nat) : Bool := !(L.any fun s => s.testBit i)
/-- How many of the first fleeces wait of a line. -/
def waitK (p : PressD) (L : List Nat) : Nat → Int → Int
  | 0, _ => 0
  | k + 1, j => waitK p L k j + if waits L k = true ∧ p.line k = j then 1 else 0
theorem waitK_bd (p : PressD) (L : List Nat) (j : Int) : ∀ k : Nat, 0 ≤ waitK p L k j ∧ waitK p L k j ≤ k := by
  intro k
  induction k with
  | zero => simp [waitK]
  | succ k ih => rw [waitK]; split <;> omega
def waitV (p : PressD) (L : List Nat) (k : Nat) : Value := .agg #[.int .i64 (waitK p L k 0), .int .i64 (waitK p L k 1), .int .i64 (waitK p L k 2)]
/-- What Wait returns. -/
def waitR (p : PressD) : Value := if planE p = 0 then .tuple #[waitV p (planP p) p.n, .int .i64 0] else .tuple #[.agg #[.int .i64 0, .int .i64 0, .int .i64 0], .int .i64 (planE p)]
section
variable {A : Option Addr} {n c : Nat} {L : List Nat}
set_option maxRecDepth 100000 in
set_option maxHeartbeats 6400000 in
theorem index_any (g : Nat) (cap : Array Value) (P : Nat → Bool) (eg : ∀ args w, (callFunc g args).run Try.prog w = .ok (.enter g args) w) (w : World) (hn : n ≤ 1024) (hl : L.length = n) (hD : RdG unF 1 w w.heap.size A L)
    (hP : ∀ s ∈ L, ∀ wq, Below w.heap.size w wq → Calls Try.prog g (#[.int .u64 s] ++ cap) wq fun e w' => e = .returned (.bool (P s)) ∧ Below wq.heap.size wq w') :
    Calls Try.prog 123 #[.slice A n c, .func (.func g) #[] cap] w fun e w' => (∃ r, e = .returned (.int .i64 r) ∧ decide (0 ≤ r) = L.any P) ∧ Below w.heap.size w w' := by
  have HD := Lib.hid hD
  have HPP := Lib.hid hP
  have HLN := Lib.hid hl
  clear hD hP hl
  go_enter Try.func123, Try.ntmps123
  go_wp2
  go_loopw [8] (fun i wr => ∃ k : Nat, k ≤ n ∧ i = .int .i64 k ∧ Hid (∀ x ∈ L.take k, P x = false) ∧ Below w.heap.size w wr) (fun i _ => n - (intOf i).toNat)
  case atStart => exact ⟨0, Nat.zero_le _, rfl, by show ∀ x ∈ _, _ = _; simp, Below.refl _ _⟩
  case round =>
    obtain ⟨k, hk, rfl, HA, hb⟩ := hrel
    have HB := Lib.hid hb
    clear hb
    by_cases hlt : k < n
    · obtain ⟨s, hs⟩ : ∃ s, L[k]? = some s := ⟨L[k]'(by have := HLN.out; omega), by simp⟩
      have HS := Lib.hid hs
      have HM := Lib.hid (List.mem_of_getElem? hs)
      obtain ⟨gb, off, hsa, hbl, H0⟩ := rd_un (HD.out.grow HB.out) k s hs
      subst hsa
      clear hs
      go_wp2_with fail
      refine (HPP.out s HM.out _ HB.out).mono ?_
      cases hp : P s
      · have HA2 : Hid (∀ x ∈ L.take (k + 1), P x = false) := by
          show ∀ x ∈ _, _ = _
          rw [List.take_add_one, HS.out]
          intro x hx
          rcases List.mem_append.1 hx with hx | hx
          · exact HA.out x hx
          · simp only [Option.toList_some, List.mem_singleton] at hx
            rw [hx]; exact hp
        rintro e w3 ⟨rfl, hg3⟩
        have HG3 : Hid (Below w.heap.size w w3) := HB.out.trans (hg3.mono HB.out.size)
        clear hg3 hp
        go_wp2
        go_roundw
        case rel => exact ⟨k + 1, by omega, by go_num, HA2, HG3.out⟩
        case measure => simp [intOf]; omega
      · have HF : Hid (L.any P = true) := List.any_eq_true.2 ⟨s, HM.out, hp⟩
        rintro e w3 ⟨rfl, hg3⟩
        have HG3 : Hid (Below w.heap.size w w3) := HB.out.trans (hg3.mono HB.out.size)
        clear hg3 hp
        go_wp2
        go_ret
        exact ⟨⟨_, rfl, by rw [HF.out]; simp⟩, HG3.out⟩
    · obtain rfl : n = k := by omega
      have HF : Hid (L.any P = false) := by
        show _ = _
        rw [List.any_eq_false]
        intro x hx
        rw [HA.out x (by rw [List.take_of_length_le (by have := HLN.out; omega)]; exact hx)]
        simp
      go_wp2
      go_ret
      exact ⟨⟨_, rfl, by rw [HF.out]; simp⟩, HB.out⟩
set_option maxRecDepth 100000 in
set_option maxHeartbeats 1600000 in
theorem contains_any (g : Nat) (cap : Array Value) (P : Nat → Bool) (eg : ∀ args w, (callFunc g args).run Try.prog w = .ok (.enter g args) w) (w : World) (hn : n ≤ 1024) (hl : L.length = n) (hD : RdG unF 1 w w.heap.size A L)
    (hP : ∀ s ∈ L, ∀ wq, Below w.heap.size w wq → Calls Try.prog g (#[.int .u64 s] ++ cap) wq fun e w' => e = .returned (.bool (P s)) ∧ Below wq.heap.size wq w') :
    Calls Try.prog 77 #[.slice A n c, .func (.func g) #[] cap] w fun e w' => e = .returned (.bool (L.any P)) ∧ Below w.heap.size w w' := by
  have HI := Lib.hid (index_any (c := c) g cap P eg w hn hl hD hP)
  clear hD hP hl
  go_enter Try.func77, Try.ntmps77
  go_wp2_with fail
  refine HI.out.mono ?_
  rintro e w' ⟨⟨r, rfl, hr⟩, hb⟩
  go_wp2
  go_ret
  exact ⟨by rw [← hr]; rfl, hb⟩
set_option maxRecDepth 100000 in
set_option maxHeartbeats 1600000 in
theorem bit_any (s k b : Nat) (w : World) (hs : s < 1024) (hk : k < 10) (hb : w.cell? ⟨b, 0, none⟩ = some (.int .i64 k)) :
    Calls Try.prog 78 #[.int .u64 s, .pointer (some ⟨b, 0, none⟩)] w fun e w' => e = .returned (.bool (s.testBit k)) ∧ Below w.heap.size w w' := by
  have htb := tb_u64 s k (by omega)
  go_enter Try.func78, Try.ntmps78
  go_wp2
  go_ret
  exact ⟨rfl, Below.refl _ _⟩
end
end Go.Proofs.Ytbfjebglaimcmaa
