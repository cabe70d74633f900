/-
  No cell of these rows narrows 'for every input' (looked for: loops, veiled, ifaces, maps, wideKeys, modest, calm, conditions, laid).
  DERIVED. THE GIVEN ROWS OF THIS SEAT. 9 by the template 'for every input the law returns true; each argument reads behind the call as it read before'; 0 by the template 'total and deterministic' (their statements: YtgmfhngcehkibaaGreatTotals.lean).
  GIVEN WITH THE SEED: the statements are not yours to turn. If you find one false, say at which input.
  Laid BY PROGRAM, IN A SANDBOX (cutbox-rows.mjs): the forced cells as the released guide's own fill.sh prints them over the translation 30608e120f9930e0… (all of the seat's roots in one cut). By AI agents, Wed Nov 11 2026. No macro, syntax, notation, axiom, sorry.
-/
import Derived.Test.YtgmfhngcehkibaaGreatChecked
import GoSem.Claim
import GoSem.ClaimJoined
import GoSem.ClaimMapViews
import Derived.JoinedTies
import Derived.KernelRfl
namespace Go.Proofs.YtgmfhngcehkibaaGreat
/- THE CELL 'sum', in the pinned program and in every row, IS THE sha256 OF THE DUMP (.gsa) THAT YtgmfhngcehkibaaGreatProg.lean LOADS. Nothing in Lean hashes anything: it is a label: what it is worth is what the hold of that sum in a sandbox is worth. -/
noncomputable def Tryz.pinned : Pinned := { name := "ytgmfhngcehkibaagreat", sum := "30608e120f9930e017e8ad8144259967487eb32e722ef6bb63878fa586f95d6f", checked := Tryz.checked }
namespace Rows
def none {H : Type} : Left H := { results := [], args := [] }

/-- 'shearworkslaw13.CartTells': WHATEVER THE INPUT: true; the input reads as it did. -/
def cartTellsSpec : ChangeSpec := { name := "cartTells", fn := fun _ => fun
  | [d1, d2, d3] => { results := [.lit (.bool true)], args := [d1, d2, d3] }
  | _ => none }
def cartTellsRow : OpenClaim := { program := "ytgmfhngcehkibaagreat", sum := "30608e120f9930e017e8ad8144259967487eb32e722ef6bb63878fa586f95d6f", func := "shearworks/shearworkslaw13.CartTells", spec := "cartTells", unfollowed := true, recurses := true, plainKeys := false, apart := false }
def CartTellsSaid : Prop := cartTellsRow.holds Tryz.pinned (OpenSpec.ofChange cartTellsSpec)

/-- ITS FALSE NEIGHBOUR: 'it returns false'. Refute it at one input. -/
def cartTellsWrong : ChangeSpec := { name := "cartTells", fn := fun _ => fun
  | [d1, d2, d3] => { results := [.lit (.bool false)], args := [d1, d2, d3] }
  | _ => none }
def CartTellsWrongFalsely : Prop := cartTellsRow.holds Tryz.pinned (OpenSpec.ofChange cartTellsWrong)

/-- 'shearworkslaw13.CartPlans': WHATEVER THE INPUT: true; the input reads as it did. -/
def cartPlansSpec : ChangeSpec := { name := "cartPlans", fn := fun _ => fun
  | [d] => { results := [.lit (.bool true)], args := [d] }
  | _ => none }
def cartPlansRow : OpenClaim := { program := "ytgmfhngcehkibaagreat", sum := "30608e120f9930e017e8ad8144259967487eb32e722ef6bb63878fa586f95d6f", func := "shearworks/shearworkslaw13.CartPlans", spec := "cartPlans", unfollowed := true, recurses := true, plainKeys := false, apart := false }
def CartPlansSaid : Prop := cartPlansRow.holds Tryz.pinned (OpenSpec.ofChange cartPlansSpec)

/-- ITS FALSE NEIGHBOUR: 'it returns false'. Refute it at one input. -/
def cartPlansWrong : ChangeSpec := { name := "cartPlans", fn := fun _ => fun
  | [d] => { results := [.lit (.bool false)], args := [d] }
  | _ => none }
def CartPlansWrongFalsely : Prop := cartPlansRow.holds Tryz.pinned (OpenSpec.ofChange cartPlansWrong)

/-- 'shearworkslaw13.CartNames': WHATEVER THE INPUT: true; the input reads as it did. -/
def cartNamesSpec : ChangeSpec := { name := "cartNames", fn := fun _ => fun
  | [] => { results := [.lit (.bool true)], args := [] }
  | _ => none }
def cartNamesRow : OpenClaim := { program := "ytgmfhngcehkibaagreat", sum := "30608e120f9930e017e8ad8144259967487eb32e722ef6bb63878fa586f95d6f", func := "shearworks/shearworkslaw13.CartNames", spec := "cartNames", unfollowed := true, recurses := true, plainKeys := false, apart := false }
def CartNamesSaid : Prop := cartNamesRow.holds Tryz.pinned (OpenSpec.ofChange cartNamesSpec)

/-- ITS FALSE NEIGHBOUR: 'it returns false'. Refute it at one input. -/
def cartNamesWrong : ChangeSpec := { name := "cartNames", fn := fun _ => fun
  | [] => { results := [.lit (.bool false)], args := [] }
  | _ => none }
def CartNamesWrongFalsely : Prop := cartNamesRow.holds Tryz.pinned (OpenSpec.ofChange cartNamesWrong)

/-- 'shearworkslaw13.CartTrue': WHATEVER THE INPUT: true; the input reads as it did. -/
def cartTrueSpec : ChangeSpec := { name := "cartTrue", fn := fun _ => fun
  | [d1, d2, d3] => { results := [.lit (.bool true)], args := [d1, d2, d3] }
  | _ => none }
def cartTrueRow : OpenClaim := { program := "ytgmfhngcehkibaagreat", sum := "30608e120f9930e017e8ad8144259967487eb32e722ef6bb63878fa586f95d6f", func := "shearworks/shearworkslaw13.CartTrue", spec := "cartTrue", unfollowed := true, recurses := true, plainKeys := false, apart := false }
def CartTrueSaid : Prop := cartTrueRow.holds Tryz.pinned (OpenSpec.ofChange cartTrueSpec)

/-- ITS FALSE NEIGHBOUR: 'it returns false'. Refute it at one input. -/
def cartTrueWrong : ChangeSpec := { name := "cartTrue", fn := fun _ => fun
  | [d1, d2, d3] => { results := [.lit (.bool false)], args := [d1, d2, d3] }
  | _ => none }
def CartTrueWrongFalsely : Prop := cartTrueRow.holds Tryz.pinned (OpenSpec.ofChange cartTrueWrong)

/-- 'shearworkslaw13.CartTimes': WHATEVER THE INPUT: true; the input reads as it did. -/
def cartTimesSpec : ChangeSpec := { name := "cartTimes", fn := fun _ => fun
  | [d1, d2] => { results := [.lit (.bool true)], args := [d1, d2] }
  | _ => none }
def cartTimesRow : OpenClaim := { program := "ytgmfhngcehkibaagreat", sum := "30608e120f9930e017e8ad8144259967487eb32e722ef6bb63878fa586f95d6f", func := "shearworks/shearworkslaw13.CartTimes", spec := "cartTimes", unfollowed := true, recurses := true, plainKeys := false, apart := false }
def CartTimesSaid : Prop := cartTimesRow.holds Tryz.pinned (OpenSpec.ofChange cartTimesSpec)

/-- ITS FALSE NEIGHBOUR: 'it returns false'. Refute it at one input. -/
def cartTimesWrong : ChangeSpec := { name := "cartTimes", fn := fun _ => fun
  | [d1, d2] => { results := [.lit (.bool false)], args := [d1, d2] }
  | _ => none }
def CartTimesWrongFalsely : Prop := cartTimesRow.holds Tryz.pinned (OpenSpec.ofChange cartTimesWrong)

/-- 'shearworkslaw13.CartCheck': WHATEVER THE INPUT: true; the input reads as it did. -/
def cartCheckSpec : ChangeSpec := { name := "cartCheck", fn := fun _ => fun
  | [d1, d2] => { results := [.lit (.bool true)], args := [d1, d2] }
  | _ => none }
def cartCheckRow : OpenClaim := { program := "ytgmfhngcehkibaagreat", sum := "30608e120f9930e017e8ad8144259967487eb32e722ef6bb63878fa586f95d6f", func := "shearworks/shearworkslaw13.CartCheck", spec := "cartCheck", unfollowed := true, recurses := true, plainKeys := false, apart := false }
def CartCheckSaid : Prop := cartCheckRow.holds Tryz.pinned (OpenSpec.ofChange cartCheckSpec)

/-- ITS FALSE NEIGHBOUR: 'it returns false'. Refute it at one input. -/
def cartCheckWrong : ChangeSpec := { name := "cartCheck", fn := fun _ => fun
  | [d1, d2] => { results := [.lit (.bool false)], args := [d1, d2] }
  | _ => none }
def CartCheckWrongFalsely : Prop := cartCheckRow.holds Tryz.pinned (OpenSpec.ofChange cartCheckWrong)

/-- 'shearworkslaw13.CartMost': WHATEVER THE INPUT: true; the input reads as it did. -/
def cartMostSpec : ChangeSpec := { name := "cartMost", fn := fun _ => fun
  | [d1, d2] => { results := [.lit (.bool true)], args := [d1, d2] }
  | _ => none }
def cartMostRow : OpenClaim := { program := "ytgmfhngcehkibaagreat", sum := "30608e120f9930e017e8ad8144259967487eb32e722ef6bb63878fa586f95d6f", func := "shearworks/shearworkslaw13.CartMost", spec := "cartMost", unfollowed := true, recurses := true, plainKeys := false, apart := false }
def CartMostSaid : Prop := cartMostRow.holds Tryz.pinned (OpenSpec.ofChange cartMostSpec)

/-- ITS FALSE NEIGHBOUR: 'it returns false'. Refute it at one input. -/
def cartMostWrong : ChangeSpec := { name := "cartMost", fn := fun _ => fun
  | [d1, d2] => { results := [.lit (.bool false)], args := [d1, d2] }
  | _ => none }
def CartMostWrongFalsely : Prop := cartMostRow.holds Tryz.pinned (OpenSpec.ofChange cartMostWrong)

/-- 'shearworkslaw13.CartStay': WHATEVER THE INPUT: true; the input reads as it did. -/
def cartStaySpec : ChangeSpec := { name := "cartStay", fn := fun _ => fun
  | [d] => { results := [.lit (.bool true)], args := [d] }
  | _ => none }
def cartStayRow : OpenClaim := { program := "ytgmfhngcehkibaagreat", sum := "30608e120f9930e017e8ad8144259967487eb32e722ef6bb63878fa586f95d6f", func := "shearworks/shearworkslaw13.CartStay", spec := "cartStay", unfollowed := true, recurses := true, plainKeys := false, apart := false }
def CartStaySaid : Prop := cartStayRow.holds Tryz.pinned (OpenSpec.ofChange cartStaySpec)

/-- ITS FALSE NEIGHBOUR: 'it returns false'. Refute it at one input. -/
def cartStayWrong : ChangeSpec := { name := "cartStay", fn := fun _ => fun
  | [d] => { results := [.lit (.bool false)], args := [d] }
  | _ => none }
def CartStayWrongFalsely : Prop := cartStayRow.holds Tryz.pinned (OpenSpec.ofChange cartStayWrong)

/-- 'shearworkslaw13.CartMore': WHATEVER THE INPUT: true; the input reads as it did. -/
def cartMoreSpec : ChangeSpec := { name := "cartMore", fn := fun _ => fun
  | [d1, d2, d3, d4, d5] => { results := [.lit (.bool true)], args := [d1, d2, d3, d4, d5] }
  | _ => none }
def cartMoreRow : OpenClaim := { program := "ytgmfhngcehkibaagreat", sum := "30608e120f9930e017e8ad8144259967487eb32e722ef6bb63878fa586f95d6f", func := "shearworks/shearworkslaw13.CartMore", spec := "cartMore", unfollowed := true, recurses := true, plainKeys := false, apart := false }
def CartMoreSaid : Prop := cartMoreRow.holds Tryz.pinned (OpenSpec.ofChange cartMoreSpec)

/-- ITS FALSE NEIGHBOUR: 'it returns false'. Refute it at one input. -/
def cartMoreWrong : ChangeSpec := { name := "cartMore", fn := fun _ => fun
  | [d1, d2, d3, d4, d5] => { results := [.lit (.bool false)], args := [d1, d2, d3, d4, d5] }
  | _ => none }
def CartMoreWrongFalsely : Prop := cartMoreRow.holds Tryz.pinned (OpenSpec.ofChange cartMoreWrong)

/- THE SECOND FORM. 'bulk': how many values and letters a reading holds, each counted each time it is reached (what is shared counts as often as it is met; a slice's spare places count too). A statement '..UptoSaid' is the law's where the arguments, and the package variables that the reading takes, are together of bulk at most 1048576: NARROWER than '..Said'. Prove '..Said' where nothing that the law and all that it calls make is longer than what came in: it says more and counts as full. Else prove '..UptoSaid'. A law counts once. -/
mutual
def uptoBulk {H : Type} : DataW H → Nat
  | .lit (.string bytes) => bytes.length + 1
  | .lit _ => 1
  | .nil => 1
  | .ptr d => uptoBulk d + 1
  | .slice elems spare => uptoBulkAll elems + uptoBulkAll spare + 1
  | .agg parts => uptoBulkAll parts + 1
  | .iface _ d => uptoBulk d + 1
  | .map entries => uptoBulkEntries entries + 1
  | .held _ => 1
def uptoBulkAll {H : Type} : List (DataW H) → Nat
  | [] => 0
  | d :: r => uptoBulk d + uptoBulkAll r
def uptoBulkEntries {H : Type} : List (Lit × DataW H) → Nat
  | [] => 0
  | x :: r => uptoBulkEntry x + uptoBulkEntries r
def uptoBulkEntry {H : Type} : Lit × DataW H → Nat
  | (.string bytes, d) => bytes.length + uptoBulk d + 1
  | (_, d) => uptoBulk d + 1
 end
def uptoSmall : (H : Type) → List (DataW H) → Bool := fun _ ds => decide (uptoBulkAll ds ≤ 1048576)
def OpenSpec.upto (s : _root_.Go.ChangeSpec) : _root_.Go.OpenSpec := { _root_.Go.OpenSpec.ofChange s with cond := some uptoSmall }

/-- 'shearworkslaw13.CartTells', WHERE WHAT IT READS IS OF BULK AT MOST 1048576: true; the input reads as it did. -/
def cartTellsUptoRow : OpenClaim := { program := "ytgmfhngcehkibaagreat", sum := "30608e120f9930e017e8ad8144259967487eb32e722ef6bb63878fa586f95d6f", func := "shearworks/shearworkslaw13.CartTells", spec := "cartTells", unfollowed := true, recurses := true, plainKeys := false, apart := false, narrowed := true }
def CartTellsUptoSaid : Prop := cartTellsUptoRow.holds Tryz.pinned (OpenSpec.upto cartTellsSpec)

/-- 'shearworkslaw13.CartPlans', WHERE WHAT IT READS IS OF BULK AT MOST 1048576: true; the input reads as it did. -/
def cartPlansUptoRow : OpenClaim := { program := "ytgmfhngcehkibaagreat", sum := "30608e120f9930e017e8ad8144259967487eb32e722ef6bb63878fa586f95d6f", func := "shearworks/shearworkslaw13.CartPlans", spec := "cartPlans", unfollowed := true, recurses := true, plainKeys := false, apart := false, narrowed := true }
def CartPlansUptoSaid : Prop := cartPlansUptoRow.holds Tryz.pinned (OpenSpec.upto cartPlansSpec)

/-- 'shearworkslaw13.CartNames', WHERE WHAT IT READS IS OF BULK AT MOST 1048576: true; the input reads as it did. -/
def cartNamesUptoRow : OpenClaim := { program := "ytgmfhngcehkibaagreat", sum := "30608e120f9930e017e8ad8144259967487eb32e722ef6bb63878fa586f95d6f", func := "shearworks/shearworkslaw13.CartNames", spec := "cartNames", unfollowed := true, recurses := true, plainKeys := false, apart := false, narrowed := true }
def CartNamesUptoSaid : Prop := cartNamesUptoRow.holds Tryz.pinned (OpenSpec.upto cartNamesSpec)

/-- 'shearworkslaw13.CartTrue', WHERE WHAT IT READS IS OF BULK AT MOST 1048576: true; the input reads as it did. -/
def cartTrueUptoRow : OpenClaim := { program := "ytgmfhngcehkibaagreat", sum := "30608e120f9930e017e8ad8144259967487eb32e722ef6bb63878fa586f95d6f", func := "shearworks/shearworkslaw13.CartTrue", spec := "cartTrue", unfollowed := true, recurses := true, plainKeys := false, apart := false, narrowed := true }
def CartTrueUptoSaid : Prop := cartTrueUptoRow.holds Tryz.pinned (OpenSpec.upto cartTrueSpec)

/-- 'shearworkslaw13.CartTimes', WHERE WHAT IT READS IS OF BULK AT MOST 1048576: true; the input reads as it did. -/
def cartTimesUptoRow : OpenClaim := { program := "ytgmfhngcehkibaagreat", sum := "30608e120f9930e017e8ad8144259967487eb32e722ef6bb63878fa586f95d6f", func := "shearworks/shearworkslaw13.CartTimes", spec := "cartTimes", unfollowed := true, recurses := true, plainKeys := false, apart := false, narrowed := true }
def CartTimesUptoSaid : Prop := cartTimesUptoRow.holds Tryz.pinned (OpenSpec.upto cartTimesSpec)

/-- 'shearworkslaw13.CartCheck', WHERE WHAT IT READS IS OF BULK AT MOST 1048576: true; the input reads as it did. -/
def cartCheckUptoRow : OpenClaim := { program := "ytgmfhngcehkibaagreat", sum := "30608e120f9930e017e8ad8144259967487eb32e722ef6bb63878fa586f95d6f", func := "shearworks/shearworkslaw13.CartCheck", spec := "cartCheck", unfollowed := true, recurses := true, plainKeys := false, apart := false, narrowed := true }
def CartCheckUptoSaid : Prop := cartCheckUptoRow.holds Tryz.pinned (OpenSpec.upto cartCheckSpec)

/-- 'shearworkslaw13.CartMost', WHERE WHAT IT READS IS OF BULK AT MOST 1048576: true; the input reads as it did. -/
def cartMostUptoRow : OpenClaim := { program := "ytgmfhngcehkibaagreat", sum := "30608e120f9930e017e8ad8144259967487eb32e722ef6bb63878fa586f95d6f", func := "shearworks/shearworkslaw13.CartMost", spec := "cartMost", unfollowed := true, recurses := true, plainKeys := false, apart := false, narrowed := true }
def CartMostUptoSaid : Prop := cartMostUptoRow.holds Tryz.pinned (OpenSpec.upto cartMostSpec)

/-- 'shearworkslaw13.CartStay', WHERE WHAT IT READS IS OF BULK AT MOST 1048576: true; the input reads as it did. -/
def cartStayUptoRow : OpenClaim := { program := "ytgmfhngcehkibaagreat", sum := "30608e120f9930e017e8ad8144259967487eb32e722ef6bb63878fa586f95d6f", func := "shearworks/shearworkslaw13.CartStay", spec := "cartStay", unfollowed := true, recurses := true, plainKeys := false, apart := false, narrowed := true }
def CartStayUptoSaid : Prop := cartStayUptoRow.holds Tryz.pinned (OpenSpec.upto cartStaySpec)

/-- 'shearworkslaw13.CartMore', WHERE WHAT IT READS IS OF BULK AT MOST 1048576: true; the input reads as it did. -/
def cartMoreUptoRow : OpenClaim := { program := "ytgmfhngcehkibaagreat", sum := "30608e120f9930e017e8ad8144259967487eb32e722ef6bb63878fa586f95d6f", func := "shearworks/shearworkslaw13.CartMore", spec := "cartMore", unfollowed := true, recurses := true, plainKeys := false, apart := false, narrowed := true }
def CartMoreUptoSaid : Prop := cartMoreUptoRow.holds Tryz.pinned (OpenSpec.upto cartMoreSpec)

end Rows
end Go.Proofs.YtgmfhngcehkibaaGreat
