/- The walk of the library's OnesCount; condition: the number is less than 1024. -/
import Derived.Test.YtbfjebglaimcmaaData
import Derived.Test.YtbfjebglaimcmaaBits
namespace Go.Proofs.Ytbfjebglaimcmaa
open Go.RowKit Go.Hav
theorem of_fin {P : Nat → Prop} (h : ∀ s : Fin 1024, P s.val) : ∀ s, s < 1024 → P s := fun s hs => h ⟨s, hs⟩
set_option maxHeartbeats 800000 in
theorem ones64_any (s : Nat) (hs : s < 1024) (w : World) :
    Calls Try.prog 119 #[.int .u64 s] w fun e w' => e = .returned (.int .i64 (pop s 10)) ∧ w = w' := by
  go_enter Try.func119, Try.ntmps119
  go_wp2
  go_ret
  refine ⟨ret_int ?_, rfl⟩
  clear w
  revert hs
  revert s
  refine of_fin ?_
  decide +kernel
theorem ones_any (s : Nat) (hs : s < 1024) (w : World) :
    Calls Try.prog 75 #[.int .u64 s] w fun e w' => e = .returned (.int .i64 (pop s 10)) ∧ w = w' := by
  go_enter Try.func75, Try.ntmps75
  go_wp2_with (go_at_call 119; refine (ones64_any s hs _).mono ?_; rintro e w' ⟨rfl, rfl⟩)
  go_ret
  exact ⟨rfl, rfl⟩
end Go.Proofs.Ytbfjebglaimcmaa
