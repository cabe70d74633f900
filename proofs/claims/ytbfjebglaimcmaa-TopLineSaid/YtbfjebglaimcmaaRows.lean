/-
  No cell of these rows narrows 'for every input' (looked for: loops, veiled, ifaces, maps, wideKeys, modest, calm, conditions, laid).
  DERIVED. THE GIVEN ROWS OF THIS SEAT. 9 by the template 'for every input the law returns true; each argument reads behind the call as it read before'; 0 by the template 'total and deterministic' (their statements: YtbfjebglaimcmaaTotals.lean).
  GIVEN WITH THE SEED: the statements are not yours to turn. If you find one false, say at which input.
  Laid BY PROGRAM, IN A SANDBOX (cutbox-rows.mjs): the forced cells as the released guide's own fill.sh prints them over the translation 59c081400a4f6ac3… (all of the seat's roots in one cut). By AI agents, Wed Nov 11 2026. No macro, syntax, notation, axiom, sorry.
-/
import Derived.Test.YtbfjebglaimcmaaChecked
import GoSem.Claim
import GoSem.ClaimJoined
import GoSem.ClaimMapViews
import Derived.JoinedTies
import Derived.KernelRfl
namespace Go.Proofs.Ytbfjebglaimcmaa
/- THE CELL 'sum', in the pinned program and in every row, IS THE sha256 OF THE DUMP (.gsa) THAT YtbfjebglaimcmaaProg.lean LOADS. Nothing in Lean hashes anything: it is a label: what it is worth is what the hold of that sum in a sandbox is worth. -/
noncomputable def Try.pinned : Pinned := { name := "ytbfjebglaimcmaa", sum := "59c081400a4f6ac3d8f06e2278355b003e8972a1e4b3c4dc4506c4bd374b788d", checked := Try.checked }
namespace Rows
def none {H : Type} : Left H := { results := [], args := [] }

/-- 'shearworkslaw08.PressReads': WHATEVER THE INPUT: true; the input reads as it did. -/
def pressReadsSpec : ChangeSpec := { name := "pressReads", fn := fun _ => fun
  | [d1, d2] => { results := [.lit (.bool true)], args := [d1, d2] }
  | _ => none }
def pressReadsRow : OpenClaim := { program := "ytbfjebglaimcmaa", sum := "59c081400a4f6ac3d8f06e2278355b003e8972a1e4b3c4dc4506c4bd374b788d", func := "shearworks/shearworkslaw08.PressReads", spec := "pressReads", unfollowed := true, recurses := true, plainKeys := false, apart := false }
def PressReadsSaid : Prop := pressReadsRow.holds Try.pinned (OpenSpec.ofChange pressReadsSpec)

/-- ITS FALSE NEIGHBOUR: 'it returns false'. Refute it at one input. -/
def pressReadsWrong : ChangeSpec := { name := "pressReads", fn := fun _ => fun
  | [d1, d2] => { results := [.lit (.bool false)], args := [d1, d2] }
  | _ => none }
def PressReadsWrongFalsely : Prop := pressReadsRow.holds Try.pinned (OpenSpec.ofChange pressReadsWrong)

/-- 'shearworkslaw08.PressPlans': WHATEVER THE INPUT: true; the input reads as it did. -/
def pressPlansSpec : ChangeSpec := { name := "pressPlans", fn := fun _ => fun
  | [d] => { results := [.lit (.bool true)], args := [d] }
  | _ => none }
def pressPlansRow : OpenClaim := { program := "ytbfjebglaimcmaa", sum := "59c081400a4f6ac3d8f06e2278355b003e8972a1e4b3c4dc4506c4bd374b788d", func := "shearworks/shearworkslaw08.PressPlans", spec := "pressPlans", unfollowed := true, recurses := true, plainKeys := false, apart := false }
def PressPlansSaid : Prop := pressPlansRow.holds Try.pinned (OpenSpec.ofChange pressPlansSpec)

/-- ITS FALSE NEIGHBOUR: 'it returns false'. Refute it at one input. -/
def pressPlansWrong : ChangeSpec := { name := "pressPlans", fn := fun _ => fun
  | [d] => { results := [.lit (.bool false)], args := [d] }
  | _ => none }
def PressPlansWrongFalsely : Prop := pressPlansRow.holds Try.pinned (OpenSpec.ofChange pressPlansWrong)

/-- 'shearworkslaw08.PressTrue': WHATEVER THE INPUT: true; the input reads as it did. -/
def pressTrueSpec : ChangeSpec := { name := "pressTrue", fn := fun _ => fun
  | [d1, d2, d3] => { results := [.lit (.bool true)], args := [d1, d2, d3] }
  | _ => none }
def pressTrueRow : OpenClaim := { program := "ytbfjebglaimcmaa", sum := "59c081400a4f6ac3d8f06e2278355b003e8972a1e4b3c4dc4506c4bd374b788d", func := "shearworks/shearworkslaw08.PressTrue", spec := "pressTrue", unfollowed := true, recurses := true, plainKeys := false, apart := false }
def PressTrueSaid : Prop := pressTrueRow.holds Try.pinned (OpenSpec.ofChange pressTrueSpec)

/-- ITS FALSE NEIGHBOUR: 'it returns false'. Refute it at one input. -/
def pressTrueWrong : ChangeSpec := { name := "pressTrue", fn := fun _ => fun
  | [d1, d2, d3] => { results := [.lit (.bool false)], args := [d1, d2, d3] }
  | _ => none }
def PressTrueWrongFalsely : Prop := pressTrueRow.holds Try.pinned (OpenSpec.ofChange pressTrueWrong)

/-- 'shearworkslaw08.PressEnds': WHATEVER THE INPUT: true; the input reads as it did. -/
def pressEndsSpec : ChangeSpec := { name := "pressEnds", fn := fun _ => fun
  | [d1, d2] => { results := [.lit (.bool true)], args := [d1, d2] }
  | _ => none }
def pressEndsRow : OpenClaim := { program := "ytbfjebglaimcmaa", sum := "59c081400a4f6ac3d8f06e2278355b003e8972a1e4b3c4dc4506c4bd374b788d", func := "shearworks/shearworkslaw08.PressEnds", spec := "pressEnds", unfollowed := true, recurses := true, plainKeys := false, apart := false }
def PressEndsSaid : Prop := pressEndsRow.holds Try.pinned (OpenSpec.ofChange pressEndsSpec)

/-- ITS FALSE NEIGHBOUR: 'it returns false'. Refute it at one input. -/
def pressEndsWrong : ChangeSpec := { name := "pressEnds", fn := fun _ => fun
  | [d1, d2] => { results := [.lit (.bool false)], args := [d1, d2] }
  | _ => none }
def PressEndsWrongFalsely : Prop := pressEndsRow.holds Try.pinned (OpenSpec.ofChange pressEndsWrong)

/-- 'shearworkslaw08.PressParts': WHATEVER THE INPUT: true; the input reads as it did. -/
def pressPartsSpec : ChangeSpec := { name := "pressParts", fn := fun _ => fun
  | [d1, d2, d3] => { results := [.lit (.bool true)], args := [d1, d2, d3] }
  | _ => none }
def pressPartsRow : OpenClaim := { program := "ytbfjebglaimcmaa", sum := "59c081400a4f6ac3d8f06e2278355b003e8972a1e4b3c4dc4506c4bd374b788d", func := "shearworks/shearworkslaw08.PressParts", spec := "pressParts", unfollowed := true, recurses := true, plainKeys := false, apart := false }
def PressPartsSaid : Prop := pressPartsRow.holds Try.pinned (OpenSpec.ofChange pressPartsSpec)

/-- ITS FALSE NEIGHBOUR: 'it returns false'. Refute it at one input. -/
def pressPartsWrong : ChangeSpec := { name := "pressParts", fn := fun _ => fun
  | [d1, d2, d3] => { results := [.lit (.bool false)], args := [d1, d2, d3] }
  | _ => none }
def PressPartsWrongFalsely : Prop := pressPartsRow.holds Try.pinned (OpenSpec.ofChange pressPartsWrong)

/-- 'shearworkslaw08.PressFits': WHATEVER THE INPUT: true; the input reads as it did. -/
def pressFitsSpec : ChangeSpec := { name := "pressFits", fn := fun _ => fun
  | [d1, d2] => { results := [.lit (.bool true)], args := [d1, d2] }
  | _ => none }
def pressFitsRow : OpenClaim := { program := "ytbfjebglaimcmaa", sum := "59c081400a4f6ac3d8f06e2278355b003e8972a1e4b3c4dc4506c4bd374b788d", func := "shearworks/shearworkslaw08.PressFits", spec := "pressFits", unfollowed := true, recurses := true, plainKeys := false, apart := false }
def PressFitsSaid : Prop := pressFitsRow.holds Try.pinned (OpenSpec.ofChange pressFitsSpec)

/-- ITS FALSE NEIGHBOUR: 'it returns false'. Refute it at one input. -/
def pressFitsWrong : ChangeSpec := { name := "pressFits", fn := fun _ => fun
  | [d1, d2] => { results := [.lit (.bool false)], args := [d1, d2] }
  | _ => none }
def PressFitsWrongFalsely : Prop := pressFitsRow.holds Try.pinned (OpenSpec.ofChange pressFitsWrong)

/-- 'shearworkslaw08.PressPlan': WHATEVER THE INPUT: true; the input reads as it did. -/
def pressPlanSpec : ChangeSpec := { name := "pressPlan", fn := fun _ => fun
  | [d1, d2] => { results := [.lit (.bool true)], args := [d1, d2] }
  | _ => none }
def pressPlanRow : OpenClaim := { program := "ytbfjebglaimcmaa", sum := "59c081400a4f6ac3d8f06e2278355b003e8972a1e4b3c4dc4506c4bd374b788d", func := "shearworks/shearworkslaw08.PressPlan", spec := "pressPlan", unfollowed := true, recurses := true, plainKeys := false, apart := false }
def PressPlanSaid : Prop := pressPlanRow.holds Try.pinned (OpenSpec.ofChange pressPlanSpec)

/-- ITS FALSE NEIGHBOUR: 'it returns false'. Refute it at one input. -/
def pressPlanWrong : ChangeSpec := { name := "pressPlan", fn := fun _ => fun
  | [d1, d2] => { results := [.lit (.bool false)], args := [d1, d2] }
  | _ => none }
def PressPlanWrongFalsely : Prop := pressPlanRow.holds Try.pinned (OpenSpec.ofChange pressPlanWrong)

/-- 'shearworkslaw08.PressMore': WHATEVER THE INPUT: true; the input reads as it did. -/
def pressMoreSpec : ChangeSpec := { name := "pressMore", fn := fun _ => fun
  | [d1, d2, d3, d4] => { results := [.lit (.bool true)], args := [d1, d2, d3, d4] }
  | _ => none }
def pressMoreRow : OpenClaim := { program := "ytbfjebglaimcmaa", sum := "59c081400a4f6ac3d8f06e2278355b003e8972a1e4b3c4dc4506c4bd374b788d", func := "shearworks/shearworkslaw08.PressMore", spec := "pressMore", unfollowed := true, recurses := true, plainKeys := false, apart := false }
def PressMoreSaid : Prop := pressMoreRow.holds Try.pinned (OpenSpec.ofChange pressMoreSpec)

/-- ITS FALSE NEIGHBOUR: 'it returns false'. Refute it at one input. -/
def pressMoreWrong : ChangeSpec := { name := "pressMore", fn := fun _ => fun
  | [d1, d2, d3, d4] => { results := [.lit (.bool false)], args := [d1, d2, d3, d4] }
  | _ => none }
def PressMoreWrongFalsely : Prop := pressMoreRow.holds Try.pinned (OpenSpec.ofChange pressMoreWrong)

/-- 'shearworkstop.TopLine': WHATEVER THE INPUT: true; the input reads as it did. -/
def topLineSpec : ChangeSpec := { name := "topLine", fn := fun _ => fun
  | [d1, d2, d3, d4] => { results := [.lit (.bool true)], args := [d1, d2, d3, d4] }
  | _ => none }
def topLineRow : OpenClaim := { program := "ytbfjebglaimcmaa", sum := "59c081400a4f6ac3d8f06e2278355b003e8972a1e4b3c4dc4506c4bd374b788d", func := "shearworks/shearworkstop.TopLine", spec := "topLine", unfollowed := true, recurses := true, plainKeys := false, apart := false }
def TopLineSaid : Prop := topLineRow.holds Try.pinned (OpenSpec.ofChange topLineSpec)

/-- ITS FALSE NEIGHBOUR: 'it returns false'. Refute it at one input. -/
def topLineWrong : ChangeSpec := { name := "topLine", fn := fun _ => fun
  | [d1, d2, d3, d4] => { results := [.lit (.bool false)], args := [d1, d2, d3, d4] }
  | _ => none }
def TopLineWrongFalsely : Prop := topLineRow.holds Try.pinned (OpenSpec.ofChange topLineWrong)

/- THE SECOND FORM. 'bulk': how many values and letters a reading holds, each counted each time it is reached (what is shared counts as often as it is met; a slice's spare places count too). A statement '..UptoSaid' is the law's where the arguments, and the package variables that the reading takes, are together of bulk at most 1048576: NARROWER than '..Said'. Prove '..Said' where nothing that the law and all that it calls make is longer than what came in: it says more and counts as full. Else prove '..UptoSaid'. A law counts once. -/
mutual
def uptoBulk {H : Type} : DataW H → Nat
  | .lit (.string bytes) => bytes.length + 1
  | .lit _ => 1
  | .nil => 1
  | .ptr d => uptoBulk d + 1
  | .slice elems spare => uptoBulkAll elems + uptoBulkAll spare + 1
  | .agg parts => uptoBulkAll parts + 1
  | .iface _ d => uptoBulk d + 1
  | .map entries => uptoBulkEntries entries + 1
  | .held _ => 1
def uptoBulkAll {H : Type} : List (DataW H) → Nat
  | [] => 0
  | d :: r => uptoBulk d + uptoBulkAll r
def uptoBulkEntries {H : Type} : List (Lit × DataW H) → Nat
  | [] => 0
  | x :: r => uptoBulkEntry x + uptoBulkEntries r
def uptoBulkEntry {H : Type} : Lit × DataW H → Nat
  | (.string bytes, d) => bytes.length + uptoBulk d + 1
  | (_, d) => uptoBulk d + 1
 end
def uptoSmall : (H : Type) → List (DataW H) → Bool := fun _ ds => decide (uptoBulkAll ds ≤ 1048576)
def OpenSpec.upto (s : _root_.Go.ChangeSpec) : _root_.Go.OpenSpec := { _root_.Go.OpenSpec.ofChange s with cond := some uptoSmall }

/-- 'shearworkslaw08.PressReads', WHERE WHAT IT READS IS OF BULK AT MOST 1048576: true; the input reads as it did. -/
def pressReadsUptoRow : OpenClaim := { program := "ytbfjebglaimcmaa", sum := "59c081400a4f6ac3d8f06e2278355b003e8972a1e4b3c4dc4506c4bd374b788d", func := "shearworks/shearworkslaw08.PressReads", spec := "pressReads", unfollowed := true, recurses := true, plainKeys := false, apart := false, narrowed := true }
def PressReadsUptoSaid : Prop := pressReadsUptoRow.holds Try.pinned (OpenSpec.upto pressReadsSpec)

/-- 'shearworkslaw08.PressPlans', WHERE WHAT IT READS IS OF BULK AT MOST 1048576: true; the input reads as it did. -/
def pressPlansUptoRow : OpenClaim := { program := "ytbfjebglaimcmaa", sum := "59c081400a4f6ac3d8f06e2278355b003e8972a1e4b3c4dc4506c4bd374b788d", func := "shearworks/shearworkslaw08.PressPlans", spec := "pressPlans", unfollowed := true, recurses := true, plainKeys := false, apart := false, narrowed := true }
def PressPlansUptoSaid : Prop := pressPlansUptoRow.holds Try.pinned (OpenSpec.upto pressPlansSpec)

/-- 'shearworkslaw08.PressTrue', WHERE WHAT IT READS IS OF BULK AT MOST 1048576: true; the input reads as it did. -/
def pressTrueUptoRow : OpenClaim := { program := "ytbfjebglaimcmaa", sum := "59c081400a4f6ac3d8f06e2278355b003e8972a1e4b3c4dc4506c4bd374b788d", func := "shearworks/shearworkslaw08.PressTrue", spec := "pressTrue", unfollowed := true, recurses := true, plainKeys := false, apart := false, narrowed := true }
def PressTrueUptoSaid : Prop := pressTrueUptoRow.holds Try.pinned (OpenSpec.upto pressTrueSpec)

/-- 'shearworkslaw08.PressEnds', WHERE WHAT IT READS IS OF BULK AT MOST 1048576: true; the input reads as it did. -/
def pressEndsUptoRow : OpenClaim := { program := "ytbfjebglaimcmaa", sum := "59c081400a4f6ac3d8f06e2278355b003e8972a1e4b3c4dc4506c4bd374b788d", func := "shearworks/shearworkslaw08.PressEnds", spec := "pressEnds", unfollowed := true, recurses := true, plainKeys := false, apart := false, narrowed := true }
def PressEndsUptoSaid : Prop := pressEndsUptoRow.holds Try.pinned (OpenSpec.upto pressEndsSpec)

/-- 'shearworkslaw08.PressParts', WHERE WHAT IT READS IS OF BULK AT MOST 1048576: true; the input reads as it did. -/
def pressPartsUptoRow : OpenClaim := { program := "ytbfjebglaimcmaa", sum := "59c081400a4f6ac3d8f06e2278355b003e8972a1e4b3c4dc4506c4bd374b788d", func := "shearworks/shearworkslaw08.PressParts", spec := "pressParts", unfollowed := true, recurses := true, plainKeys := false, apart := false, narrowed := true }
def PressPartsUptoSaid : Prop := pressPartsUptoRow.holds Try.pinned (OpenSpec.upto pressPartsSpec)

/-- 'shearworkslaw08.PressFits', WHERE WHAT IT READS IS OF BULK AT MOST 1048576: true; the input reads as it did. -/
def pressFitsUptoRow : OpenClaim := { program := "ytbfjebglaimcmaa", sum := "59c081400a4f6ac3d8f06e2278355b003e8972a1e4b3c4dc4506c4bd374b788d", func := "shearworks/shearworkslaw08.PressFits", spec := "pressFits", unfollowed := true, recurses := true, plainKeys := false, apart := false, narrowed := true }
def PressFitsUptoSaid : Prop := pressFitsUptoRow.holds Try.pinned (OpenSpec.upto pressFitsSpec)

/-- 'shearworkslaw08.PressPlan', WHERE WHAT IT READS IS OF BULK AT MOST 1048576: true; the input reads as it did. -/
def pressPlanUptoRow : OpenClaim := { program := "ytbfjebglaimcmaa", sum := "59c081400a4f6ac3d8f06e2278355b003e8972a1e4b3c4dc4506c4bd374b788d", func := "shearworks/shearworkslaw08.PressPlan", spec := "pressPlan", unfollowed := true, recurses := true, plainKeys := false, apart := false, narrowed := true }
def PressPlanUptoSaid : Prop := pressPlanUptoRow.holds Try.pinned (OpenSpec.upto pressPlanSpec)

/-- 'shearworkslaw08.PressMore', WHERE WHAT IT READS IS OF BULK AT MOST 1048576: true; the input reads as it did. -/
def pressMoreUptoRow : OpenClaim := { program := "ytbfjebglaimcmaa", sum := "59c081400a4f6ac3d8f06e2278355b003e8972a1e4b3c4dc4506c4bd374b788d", func := "shearworks/shearworkslaw08.PressMore", spec := "pressMore", unfollowed := true, recurses := true, plainKeys := false, apart := false, narrowed := true }
def PressMoreUptoSaid : Prop := pressMoreUptoRow.holds Try.pinned (OpenSpec.upto pressMoreSpec)

/-- 'shearworkstop.TopLine', WHERE WHAT IT READS IS OF BULK AT MOST 1048576: true; the input reads as it did. -/
def topLineUptoRow : OpenClaim := { program := "ytbfjebglaimcmaa", sum := "59c081400a4f6ac3d8f06e2278355b003e8972a1e4b3c4dc4506c4bd374b788d", func := "shearworks/shearworkstop.TopLine", spec := "topLine", unfollowed := true, recurses := true, plainKeys := false, apart := false, narrowed := true }
def TopLineUptoSaid : Prop := topLineUptoRow.holds Try.pinned (OpenSpec.upto topLineSpec)

end Rows
end Go.Proofs.Ytbfjebglaimcmaa
