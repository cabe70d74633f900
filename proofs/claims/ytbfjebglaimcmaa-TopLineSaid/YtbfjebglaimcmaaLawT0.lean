/- The laws' numbers, drawn by remainders: draws, and the closure that it returns; spans. Conditions: the numbers are of 16 bits, the counter is small, the span is small. -/
import Derived.Test.YtbfjebglaimcmaaClsQR
import Derived.BigRegion
namespace Go.Proofs.Ytbfjebglaimcmaa
open Go.RowKit Go.Hav Go.Sq
attribute [local go_sem] Oper.semAt_some
/-- Numbers of 16 bits. -/
def uV (x : Nat) : List Value := [.int .u16 x]
structure UIn (w : World) (B : Nat) (ua : Option Addr) (ul : Nat) (U : List Nat) : Prop where
  el : U.length = ul
  ml : ul ≤ 9223372036854775807
  rd : RdG uV 1 w B ua U
  bd : ∀ x ∈ U, x ≤ 65535
theorem UIn.grow {w w' : World} {ua : Option Addr} {ul : Nat} {U : List Nat} (h : UIn w w.heap.size ua ul U) (hb : Below w.heap.size w w') : UIn w' w'.heap.size ua ul U := { h with rd := h.rd.grow hb }
theorem UIn.turn {w w' : World} {ua : Option Addr} {ul B : Nat} {U : List Nat} {S : Nat → Prop} (h : UIn w B ua ul U) (hB : B ≤ w.heap.size) (t : Turn S w w') (hs : ∀ b, b < B → ¬ S b) : UIn w' B ua ul U :=
  { h with rd := h.rd.keep fun b hb _ => t.block b (by omega) (hs b hb) }
/-- The counter: it is small. -/
def Cnt (c M : Nat) (w : World) : Prop := ∃ n : Nat, n ≤ M ∧ Blk w c 3 #[.int .i64 n]
theorem Cnt.below {c M : Nat} {w w' : World} (h : Cnt c M w) (hb : Below w.heap.size w w') : Cnt c M w' := by
  obtain ⟨n, h1, h2⟩ := h; exact ⟨n, h1, h2.below hb h2.lt⟩
theorem Cnt.turn {c M : Nat} {w w' : World} {S : Nat → Prop} (h : Cnt c M w) (t : Turn S w w') (hs : ¬ S c) : Cnt c M w' := by
  obtain ⟨n, h1, h2⟩ := h; exact ⟨n, h1, h2.turn t hs⟩
theorem Cnt.lt {c M : Nat} {w : World} (h : Cnt c M w) : c < w.heap.size := h.choose_spec.2.lt
theorem Cnt.mono {c M M' : Nat} {w : World} (h : Cnt c M w) (hm : M ≤ M') : Cnt c M' w := by
  obtain ⟨n, h1, h2⟩ := h; exact ⟨n, Nat.le_trans h1 hm, h2⟩
/-- What a draw leaves. -/
def DrawPost (c M lo hi : Nat) (w : World) (e : Ending) (w' : World) : Prop := (∃ v : Nat, e = .returned (.int .i64 v) ∧ lo ≤ v ∧ v ≤ hi) ∧ Cnt c (M + 1) w' ∧ Turn (fun x => x = c) w w'
section
variable {c s M B lo hi ul uc : Nat} {ua : Option Addr} {U : List Nat} {w : World}
set_option maxRecDepth 100000 in
set_option maxHeartbeats 1600000 in
theorem draw86_any (hM : M ≤ 1000) (hlo : lo ≤ hi) (hhi : hi ≤ 1000) (w : World) (hs : Blk w s 47 #[.slice ua ul uc]) (hc : Cnt c M w) (hB : B ≤ w.heap.size) (hcB : B ≤ c) (hU : UIn w B ua ul U) :
    Calls Try.prog 86 #[.agg #[.int .i64 lo, .int .i64 hi], .pointer (some ⟨c, 0, none⟩), .pointer (some ⟨s, 0, none⟩)] w (DrawPost c M lo hi w) := by
  obtain ⟨n, hn, hk⟩ := hc
  have hsc : s ≠ c := fun e => by subst e; have h1 : w.heap[s]? = _ := hs; have h2 : w.heap[s]? = _ := hk; rw [h1] at h2; injection h2 with h2; injection h2 with _ h2; cases h2
  have HU := Lib.hid hU
  have HE := Lib.hid hU.el
  have hml := hU.ml
  obtain ⟨w0, hw0⟩ : ∃ x, x = w := ⟨_, rfl⟩
  obtain ⟨W, hW⟩ : ∃ W, W = w.alloc (.cells #[.int .i64 lo, .int .i64 hi] 29) := ⟨_, rfl⟩
  obtain ⟨g, hg⟩ : ∃ g, g = w.heap.size := ⟨_, rfl⟩
  have HX : Hid (Blk W g 29 #[.int .i64 lo, .int .i64 hi]) := by rw [hW, hg]; exact Blk.new w 29 _
  have HS : Hid (Blk W s 47 #[.slice ua ul uc]) := by rw [hW]; exact hs.alloc _
  have HK : Hid (Blk W c 3 #[.int .i64 n]) := by rw [hW]; exact hk.alloc _
  have HT : Hid (Turn (fun x => x = c) w W) := by rw [hW]; exact (Turn.refl _ _).alloc _
  have HCG : Hid (c < w.heap.size) := hk.lt
  have hgc : g ≠ c := by rw [hg]; have := hk.lt; omega
  have wn : IntKind.i64.wrap ((n : Int) + 1) = ((n + 1 : Nat) : Int) := (IntWalk.i64_in _ (by omega)).trans (by omega)
  clear hs hk hU
  go_enter Try.func86, Try.ntmps86
  have k0 := HK.out.cell 0
  have kf := HK.out.frozen 0
  have kl := HK.out.lt
  simp at k0
  go_upto_region 1 with (fail)
  rw [← hW, ← hg]
  clear hW hg
  go_upto_region 2 with (fail)
  obtain ⟨W2, hW2⟩ : ∃ x, x = W.setCell ⟨c, 0, none⟩ (.int .i64 ((n : Int) + 1)) := ⟨_, rfl⟩
  have t2 : Turn (fun x => x = c) W W2 := by rw [hW2]; exact Turn.set _ _ (fun _ => rfl)
  have HK2 : Hid (Blk W2 c 3 #[.int .i64 ((n : Int) + 1)]) := by
    show Blk _ _ _ _
    rw [hW2]
    have h := HK.out.set_ 0 (.int .i64 ((n : Int) + 1)); simpa using h
  have HS2 : Hid (Blk W2 s 47 #[.slice ua ul uc]) := HS.out.turn t2 hsc
  have HX2 : Hid (Blk W2 g 29 #[.int .i64 lo, .int .i64 hi]) := HX.out.turn t2 hgc
  have HT2 : Hid (Turn (fun x => x = c) w W2) := HT.out.trans t2
  have HU2 : Hid (UIn W2 B ua ul U) := HU.out.turn hB (HT.out.trans t2) (fun b hb e => by have e' : b = c := e; omega)
  have HC2 : Hid (Cnt c (M + 1) W2) := ⟨n + 1, by omega, HK2.out⟩
  rw [← hW2]
  clear hW2 t2 k0 kf kl
  have k0 := HK2.out.cell 0
  have kl := HK2.out.lt
  have s0 := HS2.out.cell 0
  have sl := HS2.out.lt
  have x0 := HX2.out.cell 0
  have x1 := HX2.out.cell 1
  have xl := HX2.out.lt
  simp at k0 s0 x0 x1
  by_cases h0 : ul = 0
  · have he : ((ul : Int) == 0) = true := by simp; omega
    subst h0
    clear wn
    go_wp2
    go_ret
    exact ⟨⟨lo, rfl, Nat.le_refl _, hlo⟩, HC2.out, HT2.out⟩
  · have he : ((ul : Int) == 0) = false := by simp; omega
    obtain ⟨k, hke⟩ : ∃ k, k = (n + 1) % ul := ⟨_, rfl⟩
    have hk : k < ul := by rw [hke]; exact Nat.mod_lt _ (by omega)
    have tm : ((n : Int) + 1).tmod (ul : Int) = (k : Int) := by rw [Int.tmod_eq_emod_of_nonneg (by omega), hke]; push_cast; rfl
    obtain ⟨x, hx⟩ : ∃ x, U[k]? = some x := ⟨U[k]'(by rw [HE.out]; exact hk), by simp⟩
    have hx6 := HU2.out.bd x (List.mem_of_getElem? hx)
    obtain ⟨ub, uo, rfl, hub, hcell⟩ := HU2.out.rd k x hx
    have u0 : W2.cell? ⟨ub, uo + k, none⟩ = some (.int .u16 x) := by have h := hcell 0 (.int .u16 x) rfl; simpa using h
    have ul2 : ub < W2.heap.size := by have := HT2.out.size; omega
    have m1 : IntKind.i64.wrap (61 * ((n : Int) + 1)) = 61 * ((n : Int) + 1) := IntWalk.i64_in _ (by omega)
    have m2 : IntKind.i64.wrap ((x : Int) + 61 * ((n : Int) + 1)) = (x : Int) + 61 * ((n : Int) + 1) := IntWalk.i64_in _ (by omega)
    have m3 : IntKind.i64.wrap ((hi : Int) - lo) = (hi : Int) - lo := IntWalk.i64_in _ (by omega)
    have m4 : IntKind.i64.wrap ((hi : Int) - lo + 1) = (hi : Int) - lo + 1 := IntWalk.i64_in _ (by omega)
    obtain ⟨q, hq⟩ : ∃ q, q = (x + 61 * (n + 1)) % (hi - lo + 1) := ⟨_, rfl⟩
    have hq2 : q < hi - lo + 1 := by rw [hq]; exact Nat.mod_lt _ (by omega)
    have m5 : ((x : Int) + 61 * ((n : Int) + 1)).tmod ((hi : Int) - lo + 1) = (q : Int) := by
      rw [Int.tmod_eq_emod_of_nonneg (by omega), hq]
      have e : ((hi : Int) - lo + 1) = ((hi - lo + 1 : Nat) : Int) := by omega
      rw [e]; push_cast; rfl
    have m6 : IntKind.i64.wrap ((lo : Int) + q) = (lo : Int) + q := IntWalk.i64_in _ (by omega)
    have m7 : ((hi : Int) - lo + 1 == 0) = false := by simp; omega
    have hki : (k : Int) < (ul : Int) := by omega
    clear hq hke wn hx hcell h0
    go_upto_region 4 with (fail)
    go_region
    go_wp2
    go_ret
    refine ⟨⟨lo + q, by push_cast; rfl, by omega, by omega⟩, HC2.out.below (Below.drew (Below.refl _ _)), HT2.out.trans (Turn.of_below (Below.drew (Below.refl _ _)))⟩
set_option maxRecDepth 100000 in
set_option maxHeartbeats 1600000 in
theorem draws45_any (w : World) : Calls Try.prog 45 #[.slice ua ul uc] w fun e w' => (∃ c s, w.heap.size ≤ c ∧ w.heap.size ≤ s ∧ e = .returned (.func (.func 86) #[] #[.pointer (some ⟨c, 0, none⟩), .pointer (some ⟨s, 0, none⟩)]) ∧ Blk w' c 3 #[.int .i64 0] ∧ Blk w' s 47 #[.slice ua ul uc]) ∧ Below w.heap.size w w' := by
  have hmf : ∀ (fn : Fn) (first cap : Array Value) (w : World), (Instr.makeFunc fn first cap).run Try.prog w = .ok (.func fn first cap) w := fun _ _ _ _ => rfl
  obtain ⟨W, hW⟩ : ∃ W, W = (w.alloc (.cells #[.slice ua ul uc] 47)).alloc (.cells #[.int .i64 0] 3) := ⟨_, rfl⟩
  have HS : Hid (Blk W w.heap.size 47 #[.slice ua ul uc]) := by rw [hW]; exact (Blk.new w 47 _).alloc _
  have HC : Hid (Blk W (w.heap.size + 1) 3 #[.int .i64 0]) := by rw [hW]; exact Blk.new_ (by simp) 3 _
  have HB : Hid (Below w.heap.size w W) := by rw [hW]; exact ((Below.refl _ _).alloc (Nat.le_refl _) _).alloc (by simp) _
  go_enter Try.func45, Try.ntmps45
  go_wp2
  go_ret
  rw [← hW]
  exact ⟨⟨w.heap.size + 1, w.heap.size, by omega, Nat.le_refl _, by simp, HC.out, HS.out⟩, HB.out⟩
theorem span46_any (a b : Int) (w : World) : Calls Try.prog 46 #[.int .i64 a, .int .i64 b] w fun e w' => e = .returned (.agg #[.int .i64 a, .int .i64 b]) ∧ Below w.heap.size w w' := by
  go_enter Try.func46, Try.ntmps46
  go_wp2
  refine bodyPost_ret (v := .agg #[.int .i64 a, .int .i64 b]) (by simp [results, Try.results46, go_sem]) rfl ⟨rfl, (by repeat (first | exact Below.refl _ _ | assumption | refine Below.drew ?_ | refine below_drewN ?_ _ | refine Below.alloc ?_ (by (try simp) <;> omega) _ | refine Below.setCell ?_ (by (try simp) <;> omega) _ | refine Below.trans ?_ (Below.mono (by assumption) (by (try simp) <;> omega))))⟩
theorem inside04_any (n lo hi : Int) (w : World) : Calls Try.prog 50 #[.int .i64 n, .agg #[.int .i64 lo, .int .i64 hi]] w fun e w' => e = .returned (.bool (decide (lo ≤ n ∧ n ≤ hi))) ∧ Below w.heap.size w w' := by
  by_cases h1 : lo ≤ n
  · have hd : decide (lo ≤ n) = true := by simp [h1]
    go_enter Try.func50, Try.ntmps50
    go_wp2
    go_ret
    exact ⟨ret_bool (by simp [h1]), (by repeat (first | exact Below.refl _ _ | assumption | refine Below.drew ?_ | refine below_drewN ?_ _ | refine Below.alloc ?_ (by (try simp) <;> omega) _ | refine Below.setCell ?_ (by (try simp) <;> omega) _ | refine Below.trans ?_ (Below.mono (by assumption) (by (try simp) <;> omega))))⟩
  · have hd : decide (lo ≤ n) = false := by simp [h1]
    go_enter Try.func50, Try.ntmps50
    go_wp2
    go_ret
    exact ⟨ret_bool (by simp), (by repeat (first | exact Below.refl _ _ | assumption | refine Below.drew ?_ | refine below_drewN ?_ _ | refine Below.alloc ?_ (by (try simp) <;> omega) _ | refine Below.setCell ?_ (by (try simp) <;> omega) _ | refine Below.trans ?_ (Below.mono (by assumption) (by (try simp) <;> omega))))⟩
end
end Go.Proofs.Ytbfjebglaimcmaa
