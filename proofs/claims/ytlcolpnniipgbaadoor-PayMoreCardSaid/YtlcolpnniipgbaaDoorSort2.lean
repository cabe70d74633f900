/- The walks of the stable sort, and of ordered. -/
import Derived.Test.YtlcolpnniipgbaaDoorSort1
namespace Go.Proofs.YtlcolpnniipgbaaDoor
open Go.RowKit Go.Hav
set_option maxRecDepth 100000 in
set_option maxHeartbeats 800000 in
theorem stable98_any (bo bl g go : Nat) (R : List Int) (hn1 : 1 ≤ R.length) (hn4 : R.length ≤ 10) (w : World) (h : OrdIn w bo bl g R) (hO : Blk w go 3 (natsA (List.range R.length))) (h0 : bo < go) (h1 : bl < go) (h2 : g < go) :
    Calls Tryd.prog 98 #[.slice (some ⟨go, 0, none⟩) R.length R.length, .int .i64 (R.length : Int), .func (.func 97) #[] #[.pointer (some ⟨bo, 0, none⟩), .pointer (some ⟨bl, 0, none⟩)]] w fun e w' =>
      e = .returned (.tuple #[]) ∧ (∃ O, Sorted R R.length R.length O ∧ Blk w' go 3 (natsA O)) ∧ Below go w w' := by
  have HI := Lib.hid (ins99_any bo bl g go R hn1 w h hO h0 h1 h2)
  clear h hO
  obtain ⟨n, hn⟩ : ∃ n, n = R.length := ⟨_, rfl⟩
  rw [← hn] at HI hn1 hn4 ⊢
  clear hn
  go_enter Tryd.func98, Tryd.ntmps98
  go_wp2
  refine wp_loop_rounds 1 ?_
  rw [rounds_succ]
  go_wp2_with fail
  refine HI.out.mono ?_
  rintro e w1 ⟨rfl, hS, hb1⟩
  have HS := Lib.hid hS
  have HB := Lib.hid hb1
  clear hS hb1 HI
  go_wp2
  refine wp_loop_rounds 1 ?_
  rw [rounds_succ]
  go_wp2
  go_end0
  exact ⟨rfl, HS.out, HB.out⟩
theorem sortS96_any (bo bl g go : Nat) (R : List Int) (hn1 : 1 ≤ R.length) (hn4 : R.length ≤ 10) (w : World) (h : OrdIn w bo bl g R) (hO : Blk w go 3 (natsA (List.range R.length))) (h0 : bo < go) (h1 : bl < go) (h2 : g < go) :
    Calls Tryd.prog 96 #[.slice (some ⟨go, 0, none⟩) R.length R.length, .func (.func 97) #[] #[.pointer (some ⟨bo, 0, none⟩), .pointer (some ⟨bl, 0, none⟩)]] w fun e w' =>
      e = .returned (.tuple #[]) ∧ (∃ O, Sorted R R.length R.length O ∧ Blk w' go 3 (natsA O)) ∧ Below go w w' := by
  have HI := Lib.hid (stable98_any bo bl g go R hn1 hn4 w h hO h0 h1 h2)
  clear h hO
  obtain ⟨n, hn⟩ : ∃ n, n = R.length := ⟨_, rfl⟩
  rw [← hn] at HI hn1 hn4 ⊢
  clear hn
  go_enter Tryd.func96, Tryd.ntmps96
  go_wp2_with fail
  refine HI.out.mono ?_
  rintro e w1 ⟨rfl, hS, hb1⟩
  have HS := Lib.hid hS
  have HB := Lib.hid hb1
  clear hS hb1 HI
  go_wp2
  go_end0
  exact ⟨rfl, HS.out, HB.out⟩
/-- The first k numbers, then zeros. -/
def fillN (n k : Nat) : List Nat := (List.range n).map fun i => if i < k then i else 0
theorem fillN_zero (n : Nat) : fillN n 0 = List.replicate n 0 := by
  apply List.ext_getElem <;> simp [fillN]
theorem fillN_all (n : Nat) : fillN n n = List.range n := by
  apply List.ext_getElem
  · simp [fillN]
  · intro i h1 h2
    simp [fillN] at h1 ⊢
    omega
theorem fillN_set (n k : Nat) : (fillN n k).set k k = fillN n (k + 1) := by
  apply List.ext_getElem
  · simp [fillN]
  · intro i h1 h2
    simp only [fillN, List.getElem_set, List.getElem_map, List.getElem_range]
    by_cases e : k = i
    · subst e; simp
    · rw [if_neg e]
      by_cases h : i < k
      · rw [if_pos h, if_pos (by omega)]
      · rw [if_neg h, if_neg (by omega)]
theorem fillN_made (n : Nat) : intsA (List.replicate n 0) = natsA (fillN n 0) := by
  rw [fillN_zero, natsA, List.map_replicate]; rfl
set_option maxRecDepth 100000 in
set_option maxHeartbeats 1600000 in
theorem ordered88_any (g : Nat) (R : List Int) (hn1 : 1 ≤ R.length) (hn4 : R.length ≤ 10) (hR : ∀ (k : Nat) x, R[k]? = some x → 0 ≤ x ∧ x ≤ 1000000) (w : World) (hg : Blk w g 3 (intsA R)) :
    Calls Tryd.prog 88 #[.slice (some ⟨g, 0, none⟩) R.length R.length, .agg #[.func (.func 89) #[] #[]]] w fun e w' =>
      (∃ go O, e = .returned (.slice (some ⟨go, 0, none⟩) R.length R.length) ∧ w.heap.size ≤ go ∧ Sorted R R.length R.length O ∧ Blk w' go 3 (natsA O)) ∧ Below w.heap.size w w' := by
  have HR := Lib.hid hR
  have HG := Lib.hid hg
  have lg := hg.lt
  have hmf : ∀ (fn : Fn) (first cap : Array Value) (w : World), (Instr.makeFunc fn first cap).run Tryd.prog w = .ok (.func fn first cap) w := fun _ _ _ _ => rfl
  have hmk := make_ints R.length (by omega)
  have HFM := Lib.hid (fillN_made R.length)
  obtain ⟨n, hn⟩ : ∃ n, n = R.length := ⟨_, rfl⟩
  have HN := Lib.hid hn
  rw [← hn] at hn1 hn4 hmk HFM ⊢
  clear hg hR hn
  go_enter Tryd.func88, Tryd.ntmps88
  go_wp2
  go_loopw [6, 12] (fun _ v wr => ∃ k : Nat, v = .int .i64 k ∧ k ≤ n ∧ Blk wr (w.heap.size + 1 + 1) 3 (natsA (fillN n k)) ∧ Blk wr w.heap.size 24 #[.slice (some ⟨g, 0, none⟩) n n] ∧ Blk wr (w.heap.size + 1) 116 #[.func (.func 89) #[] #[]] ∧ Below w.heap.size w wr) (fun _ v _ => n - (intOf v).toNat)
  case atStart =>
    refine ⟨0, rfl, Nat.zero_le _, ?_, ((Blk.new_ (by simp) _ _).alloc _).alloc _, (Blk.new_ (by simp) _ _).alloc _, (by repeat (first | exact Below.refl _ _ | assumption | refine Below.drew ?_ | refine below_drewN ?_ _ | refine Below.alloc ?_ (by (try simp) <;> omega) _ | refine Below.setCell ?_ (by (try simp) <;> omega) _ | refine Below.trans ?_ (Below.mono (by assumption) (by (try simp) <;> omega))))⟩
    rw [← HFM.out]
    exact Blk.new_ (by simp) _ _
  case round =>
    obtain ⟨k, rfl, hk, b2, b0, b1, hb⟩ := hrel
    have H0 := Lib.hid b0
    have H1 := Lib.hid b1
    have H2 := Lib.hid b2
    have HB := Lib.hid hb
    have l2 := b2.lt
    have f2 : wr.frozen? ⟨w.heap.size + 1 + 1, k, none⟩ = false := b2.frozen k
    have c0 : wr.cell? ⟨w.heap.size, 0, none⟩ = some (.slice (some ⟨g, 0, none⟩) n n) := b0.cell 0
    by_cases hlt : k < n
    · have c2 : wr.cell? ⟨w.heap.size + 1 + 1, k, none⟩ = some (.int .i64 (((fillN n k)[k]'(by simp [fillN]; omega) : Nat) : Int)) := by
        rw [b2.cell, natsA_get, List.getElem?_eq_getElem (by simp [fillN]; omega)]; rfl
      have HS := Lib.hid (fillN_set n k)
      generalize ((fillN n k)[k]'(by simp [fillN]; omega) : Nat) = z at c2
      clear b0 b1 b2 hb
      go_wp2
      go_roundw
      case rel =>
        refine ⟨k + 1, by go_num, by omega, ?_, H0.out.far (by show _ ≠ w.heap.size + 1 + 1; omega) _, H1.out.far (by show _ ≠ w.heap.size + 1 + 1; omega) _, setK_below HB.out (by omega) _ _⟩
        have h := H2.out.set_ k (.int .i64 (k : Int))
        rw [natsA_set, HS.out] at h
        exact h
      case measure => simp [intOf]; omega
    · obtain rfl : n = k := by omega
      clear b0 b1 b2 hb
      go_wp2_with fail
      have HO : Hid (OrdIn wr (w.heap.size + 1) w.heap.size g R) := ⟨H1.out.cell 0, by rw [← HN.out]; exact c0, HG.out.below HB.out lg, by omega, by omega, HR.out, by have := HN.out; omega⟩
      have HC := Lib.hid (sortS96_any (w.heap.size + 1) w.heap.size g (w.heap.size + 1 + 1) R (by have := HN.out; omega) (by have := HN.out; omega) wr HO.out (by have := H2.out; rw [fillN_all] at this; rw [← HN.out]; exact this) (by omega) (by omega) (by omega))
      rw [← HN.out] at HC
      refine HC.out.mono ?_
      rintro e w1 ⟨rfl, ⟨O, hS, hO⟩, hb1⟩
      have HS := Lib.hid hS
      have HOO := Lib.hid hO
      have HB1 := Lib.hid hb1
      clear hS hO hb1 HC
      go_wp2
      go_ret
      exact ⟨⟨_, O, rfl, by omega, HS.out, HOO.out⟩, HB.out.trans (HB1.out.mono (by omega))⟩
end Go.Proofs.YtlcolpnniipgbaaDoor
