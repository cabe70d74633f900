/- The iterator backwards: for every body that keeps what it reads. -/
import Derived.Test.YtlcolpnniipgbaaDoorDesk6
import Derived.Test.YtlcolpnniipgbaaDoorHavIn
import Derived.RangeFuncNested
import Derived.RangeFuncBound
import Derived.RangeFuncCalls
import Derived.RangeFuncLeaves
import Derived.RangeFuncWrites
import Derived.Shelf.Abstract
import Derived.WalkKit
import Derived.OwnWalkIn
import Derived.TacticsInMore
import Derived.LoopNIn
import Derived.LoopIn
namespace Go.Proofs.YtlcolpnniipgbaaDoor
open Go.RowKit Go.Hav Go.Shelf
attribute [local go_sem] Oper.semAt_some

/-- All blocks below n₁ but r are kept. -/
def KpR (r n₁ : Nat) (W W' : World) : Prop := ∀ b, b < n₁ → b ≠ r → W'.heap[b]? = W.heap[b]?
theorem KpR.trans {r n₁ : Nat} {A B C : World} (h : KpR r n₁ A B) (k : KpR r n₁ B C) : KpR r n₁ A C := fun b h1 h2 => (k b h1 h2).trans (h b h1 h2)
theorem KpR.cell {r n₁ : Nat} {W W' : World} (h : KpR r n₁ W W') {b : Nat} (h1 : b < n₁) (h2 : b ≠ r) (o : Nat) : W'.cell? ⟨b, o, none⟩ = W.cell? ⟨b, o, none⟩ := by
  unfold World.cell?
  simp [h b h1 h2]
def caV (c : Ca) : Value := .agg #[.int .i64 c.who, .int .i64 c.run, .int .i64 c.sh.lo, .int .i64 c.sh.hi, .bool c.struck]
def encI (x : It) : Array Value := #[.int .i64 x.1.1, caV x.1.2]
theorem RdCalls.keep {r n₁ B : Nat} {W W' : World} {A : Option Addr} {xs : List Ca} (h : RdCalls W B A xs) (hk : KpR r n₁ W W') (h1 : B ≤ n₁) (h2 : B ≤ r) : RdCalls W' B A xs := fun k c hc => by
  obtain ⟨b, off, e, hl, c0, c1, c2, c3, c4⟩ := h k c hc
  have hb := fun o => hk.cell (b := b) (by omega) (by omega) o
  exact ⟨b, off, e, hl, by rw [hb]; exact c0, by rw [hb]; exact c1, by rw [hb]; exact c2, by rw [hb]; exact c3, by rw [hb]; exact c4⟩

section
variable {B d r : Nat} {people rate bill : Int} {ra ca da pa : Option Addr} {rl rc cl cc dl dc pl pc : Nat} {p : PayD}
set_option maxRecDepth 100000 in
set_option maxHeartbeats 1000000 in
theorem back1_in (hv : payB p = true) (n : Nat) (hn : 1 ≤ n) (l Bn n₁ : Nat) (J Jx : List It → World → Prop)
    (hY : ∀ pre x W, J pre W → pre.length < (backL p hv cl).length → YieldAt Fence.wide (n - 1) Tryd.prog l (encI x) W fun e W' =>
      (e = .returned (.bool true) ∧ J (pre ++ [x]) W' ∧ KpR r n₁ W W') ∨ (e = .returned (.bool false) ∧ Jx (pre ++ [x]) W'))
    (W : World) (hBn : W.cell? ⟨Bn, 0, none⟩ = some (.pointer (some ⟨d, 0, none⟩))) (hd2 : W.cell? ⟨d, 2, none⟩ = some (.slice ca cl cc)) (hcs : RdCalls W B ca p.calls) (hcl : p.calls.length = cl) (hm : cl ≤ 100)
    (q0 : Bn < n₁) (q1 : Bn ≠ r) (q2 : d < n₁) (q3 : d ≠ r) (q4 : B ≤ n₁) (q5 : B ≤ r) (h0 : J [] W) :
    CallsIn Fence.wide n Tryd.prog 93 #[.func (.yield l) #[] #[], .pointer (some ⟨Bn, 0, none⟩)] W fun e W' => (∃ v, e = .returned v) ∧
      ((∃ ys, ys = backL p hv cl ∧ J ys W') ∨ (∃ pre, True ∧ Jx pre W')) := by
  refine callsIn_of_wp Tryd.func93 rfl trivial ?_ rfl
  simp only [Tryd.ntmps93, List.size_toArray, List.length_cons, List.length_nil, Nat.reduceAdd, Nat.reduceSub, Array.replicate_succ, Array.replicate_zero, List.push_toArray, List.append_toArray, List.nil_append, List.cons_append]
  gi_wp2
  refine wpIn_scope_straight (wpIn_seq (wpIn_label ?_))
  simp only [Exit.then]
  gi_wp2
  have HCS := Lib.hid hcs
  clear hcs
  gi_loopw [3] (fun v wr => ∃ (k : Nat) (z : Int) (pre : List It), k ≤ cl ∧ v = .int .i64 z ∧ z = (k : Int) - 1 ∧ Hid (backL p hv cl = pre ++ backL p hv k) ∧ Hid (J pre wr) ∧ Hid (KpR r n₁ W wr)) (fun v _ => (intOf v + 1).toNat)
  case atStart => exact ⟨cl, _, [], Nat.le_refl _, rfl, rfl, rfl, h0, fun _ _ _ => rfl⟩
  case round =>
    obtain ⟨k, z, pre, hk, rfl, hz, HL, HJ, HK⟩ := hrel
    have hBn' := (HK.out.cell q0 q1 0).trans hBn
    have hd2' := (HK.out.cell q2 q3 2).trans hd2
    cases k with
    | zero =>
      obtain rfl : z = -1 := by omega
      clear hz
      gi_wp2
      simp only [Exit.noGoto]
      go_end0
      exact ⟨⟨_, rfl⟩, .inl ⟨pre, by rw [HL.out]; simp [backL], HJ.out⟩⟩
    | succ k =>
      obtain rfl : z = k := by omega
      clear hz
      obtain ⟨c, hc⟩ : ∃ c, p.calls[k]? = some c := ⟨p.calls[k]'(by omega), by simp⟩
      have HS := Lib.hid (backL_some (hv := hv) hc)
      obtain ⟨b, off, rfl, hbl, H0, H1, H2, H3, H4⟩ := (HCS.out.keep HK.out q4 q5) k c hc
      cases hs : c.struck
      · rw [hs] at H4
        have HL2 : Hid (backL p hv cl = (pre ++ [⟨(k, c), payB_callIt hv hc⟩]) ++ backL p hv k) := by show _ = _; rw [HL.out, HS.out, if_neg (by rw [hs]; simp)]; simp
        obtain ⟨fn, tmps, assign, body, hy, hR⟩ := hY pre ⟨(k, c), payB_callIt hv hc⟩ wr HJ.out (by rw [HL2.out]; simp)
        dsimp only [encI, caV] at hy
        rw [hs] at hy
        gi_wp2
        refine hR.mono ?_
        rintro e W3 (⟨rfl, hJ3, hk3⟩ | ⟨rfl, hJx3⟩)
        · have HK3 : Hid (KpR r n₁ W W3) := HK.out.trans hk3
          have HJ3 := Lib.hid hJ3
          clear hJ3 hk3
          gi_wp2
          go_roundw
          case rel => exact ⟨k, _, _, by omega, rfl, by go_num, HL2, HJ3, HK3⟩
          case measure => simp [intOf]
        · gi_wp2
          simp only [Exit.noGoto]
          refine bodyPost_ret (results_none rfl _ _ _) rfl ?_
          exact ⟨⟨_, rfl⟩, .inr ⟨_, trivial, hJx3⟩⟩
      · rw [hs] at H4
        clear H0 H1 H2 H3
        gi_wp2
        go_roundw
        case rel => exact ⟨k, _, pre, by omega, rfl, by omega, by show _ = _; rw [HL.out, HS.out, if_pos hs], HJ, HK⟩
        case measure => simp [intOf]

theorem backwards_any (w : World) : Calls Tryd.prog 80 #[(.pointer (some ⟨d, 0, none⟩))] w fun e w' => e = .returned (.func (.func 93) #[] #[.pointer (some ⟨w.heap.size, 0, none⟩)]) ∧ w' = w.alloc (.cells #[(.pointer (some ⟨d, 0, none⟩))] 71) := by
  have hmf : ∀ (fn : Fn) (first cap : Array Value) (w : World), (Instr.makeFunc fn first cap).run Tryd.prog w = .ok (.func fn first cap) w := fun _ _ _ _ => rfl
  go_enter Tryd.func80, Tryd.ntmps80
  go_wp2
  go_ret
  exact ⟨rfl, rfl⟩
theorem back_stops (hv : payB p = true) (n : Nat) (hn : 1 ≤ n) (Bn n₁ : Nat) (w : World) (hBn : w.cell? ⟨Bn, 0, none⟩ = some (.pointer (some ⟨d, 0, none⟩))) (hd2 : w.cell? ⟨d, 2, none⟩ = some (.slice ca cl cc)) (hcs : RdCalls w B ca p.calls) (hcl : p.calls.length = cl) (hm : cl ≤ 100)
    (q0 : Bn < n₁) (q1 : Bn ≠ r) (q2 : d < n₁) (q3 : d ≠ r) (q4 : B ≤ n₁) (q5 : B ≤ r) (q6 : n₁ ≤ w.heap.size) :
    SeqStopsK Fence.wide n Tryd.prog 93 #[.pointer (some ⟨Bn, 0, none⟩)] encI (KpR r n₁) (fun ys => ys = backL p hv cl) (fun _ => True) (backL p hv cl).length w := fun l J Jx W hW _ _ hY h0 =>
  back1_in hv n hn l Bn n₁ J Jx hY W ((hW.cell (p := ⟨Bn, 0, none⟩) (by show Bn < _; omega)).trans hBn) ((hW.cell (p := ⟨d, 2, none⟩) (by show d < _; omega)).trans hd2) (hcs.below (hW.mono (by omega))) hcl hm q0 q1 q2 q3 q4 q5 h0
theorem KpR.putObj {r n₁ : Nat} {w : World} (hn : n₁ ≤ w.heap.size) (W : World) (l : Nat) (o o' : Obj) (hl : w.heap.size ≤ l) (_h : W.heap[l]? = some o) (_ : o.isCells = false) (_ : o.isWalk = false) : KpR r n₁ W (W.putObj l o') :=
  fun _ h1 _ => World.putObj_heap_other (by omega)
end
end Go.Proofs.YtlcolpnniipgbaaDoor
