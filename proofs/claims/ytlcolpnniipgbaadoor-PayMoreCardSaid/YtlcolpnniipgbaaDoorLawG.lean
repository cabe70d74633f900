/- The walk of the law's last: the call that stands, or -1. -/
import Derived.Test.YtlcolpnniipgbaaDoorCopiedA
namespace Go.Proofs.YtlcolpnniipgbaaDoor
open Go.RowKit Go.Hav
section
variable {people rate bill : Int} {ra ca da pa : Option Addr} {rl rc cl cc dl dc pl pc : Nat} {p : PayD}
set_option maxHeartbeats 1600000 in
theorem last_any (who run : Int) (w : World) (hP : PayIn w w.heap.size people ra rl ca cl rate bill da dl pa pl p) :
    Calls Tryd.prog 35 #[payV people ra rl rc ca cl cc rate bill da dl dc pa pl pc, .int .i64 who, .int .i64 run] w fun e w' => e = .returned (.int .i64 (standsI p who run)) ∧ Below w.heap.size w w' := by
  have HL := Lib.hid hP.ecl
  have HC := Lib.hid hP.hcalls
  have hm := hP.mcl
  clear hP
  unfold payV
  go_enter Tryd.func35, Tryd.ntmps35
  go_wp2
  go_loopw [7] (fun i wr => ∃ k : Nat, k ≤ cl ∧ i = .int .i64 ((k : Int) - 1) ∧ Hid (standsF p.calls who run cl = standsF p.calls who run k) ∧ Hid (Below (w.heap.size + 1) (w.alloc (Obj.cells #[Value.int IntKind.i64 people, Value.slice ra rl rc, Value.slice ca cl cc, Value.int IntKind.i64 rate, Value.int IntKind.i64 bill, Value.slice da dl dc, Value.slice pa pl pc] 27)) wr)) (fun i _ => (intOf i + 1).toNat)
  case atStart => exact ⟨cl, Nat.le_refl _, by go_num, rfl, Below.refl _ _⟩
  case round =>
    obtain ⟨k, hk, rfl, HS, HB⟩ := hrel
    have hcc : ∀ b o, b < w.heap.size + 1 → wr.cell? ⟨b, o, none⟩ = _ := fun b o h => HB.out.cell (p := ⟨b, o, none⟩) h
    have hsz : w.heap.size + 1 ≤ wr.heap.size := by have := HB.out.size; simpa using this
    cases k with
    | zero =>
      have hlt : ¬ (0 : Int) ≤ ((0 : Nat) : Int) - 1 := by omega
      go_wp2
      go_ret
      exact ⟨ret_int (by rw [standsI, HL.out, HS.out]; rfl), ((Below.refl _ _).alloc (Nat.le_refl _) _).trans (HB.out.mono (by omega))⟩
    | succ m =>
      obtain ⟨c, hc⟩ : ∃ c, p.calls[m]? = some c := ⟨p.calls[m]'(by have := HL.out; omega), by simp⟩
      obtain ⟨b, off, rfl, hbl, H0, H1, H2, H3, H4⟩ := HC.out m c hc
      have HST : Hid (standsF p.calls who run (m + 1) = if c.who = who ∧ c.run = run ∧ c.struck = false then (m : Int) else standsF p.calls who run m) := by
        show _ = _; simp only [standsF, hc]
      clear hc
      rw [show (((m + 1 : Nat) : Int) - 1) = (m : Int) by omega]
      go_wp2
      · go_ret
        exact ⟨ret_int (by rw [standsI, HL.out, HS.out, HST.out, if_pos ⟨by assumption, by assumption, by simpa using (by assumption : (!c.struck) = true)⟩]), ((Below.refl _ _).alloc (Nat.le_refl _) _).trans ((HB.out.alloc hsz _).mono (by omega))⟩
      all_goals go_roundw
      case rel => exact ⟨m, by omega, rfl, by show _ = _; rw [HS.out, HST.out, if_neg (by simp_all)], HB.out.alloc hsz _⟩
      case measure => simp [intOf]
      case rel => exact ⟨m, by omega, rfl, by show _ = _; rw [HS.out, HST.out, if_neg (by simp_all)], HB.out.alloc hsz _⟩
      case measure => simp [intOf]
      case rel => exact ⟨m, by omega, rfl, by show _ = _; rw [HS.out, HST.out, if_neg (by simp_all)], HB.out.alloc hsz _⟩
      case measure => simp [intOf]
end
end Go.Proofs.YtlcolpnniipgbaaDoor
