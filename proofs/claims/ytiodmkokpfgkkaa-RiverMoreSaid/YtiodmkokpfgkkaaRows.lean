/-
  No cell of these rows narrows 'for every input' (looked for: loops, veiled, ifaces, maps, wideKeys, modest, calm, conditions, laid).
  DERIVED. THE GIVEN ROWS OF THIS SEAT. 9 by the template 'for every input the law returns true; each argument reads behind the call as it read before'; 0 by the template 'total and deterministic' (their statements: YtiodmkokpfgkkaaTotals.lean).
  GIVEN WITH THE SEED: the statements are not yours to turn. If you find one false, say at which input.
  Laid BY PROGRAM, IN A SANDBOX (cutbox-rows.mjs): the forced cells as the released guide's own fill.sh prints them over the translation 27c7bf3c022c9fed… (all of the seat's roots in one cut). By AI agents, Wed Nov 11 2026. No macro, syntax, notation, axiom, sorry.
-/
import Derived.Test.YtiodmkokpfgkkaaChecked
import GoSem.Claim
import GoSem.ClaimJoined
import GoSem.ClaimMapViews
import Derived.JoinedTies
import Derived.KernelRfl
namespace Go.Proofs.Ytiodmkokpfgkkaa
/- THE CELL 'sum', in the pinned program and in every row, IS THE sha256 OF THE DUMP (.gsa) THAT YtiodmkokpfgkkaaProg.lean LOADS. Nothing in Lean hashes anything: it is a label: what it is worth is what the hold of that sum in a sandbox is worth. -/
noncomputable def Try.pinned : Pinned := { name := "ytiodmkokpfgkkaa", sum := "27c7bf3c022c9fed005c99bfc7b29065ee2ed54c77f02c5b39d832a276668577", checked := Try.checked }
namespace Rows
def none {H : Type} : Left H := { results := [], args := [] }

/-- 'shearworkslaw09.RiverTells': WHATEVER THE INPUT: true; the input reads as it did. -/
def riverTellsSpec : ChangeSpec := { name := "riverTells", fn := fun _ => fun
  | [d1, d2, d3, d4] => { results := [.lit (.bool true)], args := [d1, d2, d3, d4] }
  | _ => none }
def riverTellsRow : OpenClaim := { program := "ytiodmkokpfgkkaa", sum := "27c7bf3c022c9fed005c99bfc7b29065ee2ed54c77f02c5b39d832a276668577", func := "shearworks/shearworkslaw09.RiverTells", spec := "riverTells", unfollowed := true, recurses := true, plainKeys := false, apart := false }
def RiverTellsSaid : Prop := riverTellsRow.holds Try.pinned (OpenSpec.ofChange riverTellsSpec)

/-- ITS FALSE NEIGHBOUR: 'it returns false'. Refute it at one input. -/
def riverTellsWrong : ChangeSpec := { name := "riverTells", fn := fun _ => fun
  | [d1, d2, d3, d4] => { results := [.lit (.bool false)], args := [d1, d2, d3, d4] }
  | _ => none }
def RiverTellsWrongFalsely : Prop := riverTellsRow.holds Try.pinned (OpenSpec.ofChange riverTellsWrong)

/-- 'shearworkslaw09.RiverSets': WHATEVER THE INPUT: true; the input reads as it did. -/
def riverSetsSpec : ChangeSpec := { name := "riverSets", fn := fun _ => fun
  | [d1, d2] => { results := [.lit (.bool true)], args := [d1, d2] }
  | _ => none }
def riverSetsRow : OpenClaim := { program := "ytiodmkokpfgkkaa", sum := "27c7bf3c022c9fed005c99bfc7b29065ee2ed54c77f02c5b39d832a276668577", func := "shearworks/shearworkslaw09.RiverSets", spec := "riverSets", unfollowed := true, recurses := true, plainKeys := false, apart := false }
def RiverSetsSaid : Prop := riverSetsRow.holds Try.pinned (OpenSpec.ofChange riverSetsSpec)

/-- ITS FALSE NEIGHBOUR: 'it returns false'. Refute it at one input. -/
def riverSetsWrong : ChangeSpec := { name := "riverSets", fn := fun _ => fun
  | [d1, d2] => { results := [.lit (.bool false)], args := [d1, d2] }
  | _ => none }
def RiverSetsWrongFalsely : Prop := riverSetsRow.holds Try.pinned (OpenSpec.ofChange riverSetsWrong)

/-- 'shearworkslaw09.RiverNames': WHATEVER THE INPUT: true; the input reads as it did. -/
def riverNamesSpec : ChangeSpec := { name := "riverNames", fn := fun _ => fun
  | [] => { results := [.lit (.bool true)], args := [] }
  | _ => none }
def riverNamesRow : OpenClaim := { program := "ytiodmkokpfgkkaa", sum := "27c7bf3c022c9fed005c99bfc7b29065ee2ed54c77f02c5b39d832a276668577", func := "shearworks/shearworkslaw09.RiverNames", spec := "riverNames", unfollowed := true, recurses := true, plainKeys := false, apart := false }
def RiverNamesSaid : Prop := riverNamesRow.holds Try.pinned (OpenSpec.ofChange riverNamesSpec)

/-- ITS FALSE NEIGHBOUR: 'it returns false'. Refute it at one input. -/
def riverNamesWrong : ChangeSpec := { name := "riverNames", fn := fun _ => fun
  | [] => { results := [.lit (.bool false)], args := [] }
  | _ => none }
def RiverNamesWrongFalsely : Prop := riverNamesRow.holds Try.pinned (OpenSpec.ofChange riverNamesWrong)

/-- 'shearworkslaw09.RiverTrue': WHATEVER THE INPUT: true; the input reads as it did. -/
def riverTrueSpec : ChangeSpec := { name := "riverTrue", fn := fun _ => fun
  | [d1, d2, d3] => { results := [.lit (.bool true)], args := [d1, d2, d3] }
  | _ => none }
def riverTrueRow : OpenClaim := { program := "ytiodmkokpfgkkaa", sum := "27c7bf3c022c9fed005c99bfc7b29065ee2ed54c77f02c5b39d832a276668577", func := "shearworks/shearworkslaw09.RiverTrue", spec := "riverTrue", unfollowed := true, recurses := true, plainKeys := false, apart := false }
def RiverTrueSaid : Prop := riverTrueRow.holds Try.pinned (OpenSpec.ofChange riverTrueSpec)

/-- ITS FALSE NEIGHBOUR: 'it returns false'. Refute it at one input. -/
def riverTrueWrong : ChangeSpec := { name := "riverTrue", fn := fun _ => fun
  | [d1, d2, d3] => { results := [.lit (.bool false)], args := [d1, d2, d3] }
  | _ => none }
def RiverTrueWrongFalsely : Prop := riverTrueRow.holds Try.pinned (OpenSpec.ofChange riverTrueWrong)

/-- 'shearworkslaw09.RiverEnds': WHATEVER THE INPUT: true; the input reads as it did. -/
def riverEndsSpec : ChangeSpec := { name := "riverEnds", fn := fun _ => fun
  | [d1, d2, d3] => { results := [.lit (.bool true)], args := [d1, d2, d3] }
  | _ => none }
def riverEndsRow : OpenClaim := { program := "ytiodmkokpfgkkaa", sum := "27c7bf3c022c9fed005c99bfc7b29065ee2ed54c77f02c5b39d832a276668577", func := "shearworks/shearworkslaw09.RiverEnds", spec := "riverEnds", unfollowed := true, recurses := true, plainKeys := false, apart := false }
def RiverEndsSaid : Prop := riverEndsRow.holds Try.pinned (OpenSpec.ofChange riverEndsSpec)

/-- ITS FALSE NEIGHBOUR: 'it returns false'. Refute it at one input. -/
def riverEndsWrong : ChangeSpec := { name := "riverEnds", fn := fun _ => fun
  | [d1, d2, d3] => { results := [.lit (.bool false)], args := [d1, d2, d3] }
  | _ => none }
def RiverEndsWrongFalsely : Prop := riverEndsRow.holds Try.pinned (OpenSpec.ofChange riverEndsWrong)

/-- 'shearworkslaw09.RiverBears': WHATEVER THE INPUT: true; the input reads as it did. -/
def riverBearsSpec : ChangeSpec := { name := "riverBears", fn := fun _ => fun
  | [d1, d2] => { results := [.lit (.bool true)], args := [d1, d2] }
  | _ => none }
def riverBearsRow : OpenClaim := { program := "ytiodmkokpfgkkaa", sum := "27c7bf3c022c9fed005c99bfc7b29065ee2ed54c77f02c5b39d832a276668577", func := "shearworks/shearworkslaw09.RiverBears", spec := "riverBears", unfollowed := true, recurses := true, plainKeys := false, apart := false }
def RiverBearsSaid : Prop := riverBearsRow.holds Try.pinned (OpenSpec.ofChange riverBearsSpec)

/-- ITS FALSE NEIGHBOUR: 'it returns false'. Refute it at one input. -/
def riverBearsWrong : ChangeSpec := { name := "riverBears", fn := fun _ => fun
  | [d1, d2] => { results := [.lit (.bool false)], args := [d1, d2] }
  | _ => none }
def RiverBearsWrongFalsely : Prop := riverBearsRow.holds Try.pinned (OpenSpec.ofChange riverBearsWrong)

/-- 'shearworkslaw09.RiverFalls': WHATEVER THE INPUT: true; the input reads as it did. -/
def riverFallsSpec : ChangeSpec := { name := "riverFalls", fn := fun _ => fun
  | [d1, d2, d3] => { results := [.lit (.bool true)], args := [d1, d2, d3] }
  | _ => none }
def riverFallsRow : OpenClaim := { program := "ytiodmkokpfgkkaa", sum := "27c7bf3c022c9fed005c99bfc7b29065ee2ed54c77f02c5b39d832a276668577", func := "shearworks/shearworkslaw09.RiverFalls", spec := "riverFalls", unfollowed := true, recurses := true, plainKeys := false, apart := false }
def RiverFallsSaid : Prop := riverFallsRow.holds Try.pinned (OpenSpec.ofChange riverFallsSpec)

/-- ITS FALSE NEIGHBOUR: 'it returns false'. Refute it at one input. -/
def riverFallsWrong : ChangeSpec := { name := "riverFalls", fn := fun _ => fun
  | [d1, d2, d3] => { results := [.lit (.bool false)], args := [d1, d2, d3] }
  | _ => none }
def RiverFallsWrongFalsely : Prop := riverFallsRow.holds Try.pinned (OpenSpec.ofChange riverFallsWrong)

/-- 'shearworkslaw09.RiverClash': WHATEVER THE INPUT: true; the input reads as it did. -/
def riverClashSpec : ChangeSpec := { name := "riverClash", fn := fun _ => fun
  | [d1, d2] => { results := [.lit (.bool true)], args := [d1, d2] }
  | _ => none }
def riverClashRow : OpenClaim := { program := "ytiodmkokpfgkkaa", sum := "27c7bf3c022c9fed005c99bfc7b29065ee2ed54c77f02c5b39d832a276668577", func := "shearworks/shearworkslaw09.RiverClash", spec := "riverClash", unfollowed := true, recurses := true, plainKeys := false, apart := false }
def RiverClashSaid : Prop := riverClashRow.holds Try.pinned (OpenSpec.ofChange riverClashSpec)

/-- ITS FALSE NEIGHBOUR: 'it returns false'. Refute it at one input. -/
def riverClashWrong : ChangeSpec := { name := "riverClash", fn := fun _ => fun
  | [d1, d2] => { results := [.lit (.bool false)], args := [d1, d2] }
  | _ => none }
def RiverClashWrongFalsely : Prop := riverClashRow.holds Try.pinned (OpenSpec.ofChange riverClashWrong)

/-- 'shearworkslaw09.RiverMore': WHATEVER THE INPUT: true; the input reads as it did. -/
def riverMoreSpec : ChangeSpec := { name := "riverMore", fn := fun _ => fun
  | [d1, d2, d3, d4, d5] => { results := [.lit (.bool true)], args := [d1, d2, d3, d4, d5] }
  | _ => none }
def riverMoreRow : OpenClaim := { program := "ytiodmkokpfgkkaa", sum := "27c7bf3c022c9fed005c99bfc7b29065ee2ed54c77f02c5b39d832a276668577", func := "shearworks/shearworkslaw09.RiverMore", spec := "riverMore", unfollowed := true, recurses := true, plainKeys := false, apart := false }
def RiverMoreSaid : Prop := riverMoreRow.holds Try.pinned (OpenSpec.ofChange riverMoreSpec)

/-- ITS FALSE NEIGHBOUR: 'it returns false'. Refute it at one input. -/
def riverMoreWrong : ChangeSpec := { name := "riverMore", fn := fun _ => fun
  | [d1, d2, d3, d4, d5] => { results := [.lit (.bool false)], args := [d1, d2, d3, d4, d5] }
  | _ => none }
def RiverMoreWrongFalsely : Prop := riverMoreRow.holds Try.pinned (OpenSpec.ofChange riverMoreWrong)

/- THE SECOND FORM. 'bulk': how many values and letters a reading holds, each counted each time it is reached (what is shared counts as often as it is met; a slice's spare places count too). A statement '..UptoSaid' is the law's where the arguments, and the package variables that the reading takes, are together of bulk at most 1048576: NARROWER than '..Said'. Prove '..Said' where nothing that the law and all that it calls make is longer than what came in: it says more and counts as full. Else prove '..UptoSaid'. A law counts once. -/
mutual
def uptoBulk {H : Type} : DataW H → Nat
  | .lit (.string bytes) => bytes.length + 1
  | .lit _ => 1
  | .nil => 1
  | .ptr d => uptoBulk d + 1
  | .slice elems spare => uptoBulkAll elems + uptoBulkAll spare + 1
  | .agg parts => uptoBulkAll parts + 1
  | .iface _ d => uptoBulk d + 1
  | .map entries => uptoBulkEntries entries + 1
  | .held _ => 1
def uptoBulkAll {H : Type} : List (DataW H) → Nat
  | [] => 0
  | d :: r => uptoBulk d + uptoBulkAll r
def uptoBulkEntries {H : Type} : List (Lit × DataW H) → Nat
  | [] => 0
  | x :: r => uptoBulkEntry x + uptoBulkEntries r
def uptoBulkEntry {H : Type} : Lit × DataW H → Nat
  | (.string bytes, d) => bytes.length + uptoBulk d + 1
  | (_, d) => uptoBulk d + 1
 end
def uptoSmall : (H : Type) → List (DataW H) → Bool := fun _ ds => decide (uptoBulkAll ds ≤ 1048576)
def OpenSpec.upto (s : _root_.Go.ChangeSpec) : _root_.Go.OpenSpec := { _root_.Go.OpenSpec.ofChange s with cond := some uptoSmall }

/-- 'shearworkslaw09.RiverTells', WHERE WHAT IT READS IS OF BULK AT MOST 1048576: true; the input reads as it did. -/
def riverTellsUptoRow : OpenClaim := { program := "ytiodmkokpfgkkaa", sum := "27c7bf3c022c9fed005c99bfc7b29065ee2ed54c77f02c5b39d832a276668577", func := "shearworks/shearworkslaw09.RiverTells", spec := "riverTells", unfollowed := true, recurses := true, plainKeys := false, apart := false, narrowed := true }
def RiverTellsUptoSaid : Prop := riverTellsUptoRow.holds Try.pinned (OpenSpec.upto riverTellsSpec)

/-- 'shearworkslaw09.RiverSets', WHERE WHAT IT READS IS OF BULK AT MOST 1048576: true; the input reads as it did. -/
def riverSetsUptoRow : OpenClaim := { program := "ytiodmkokpfgkkaa", sum := "27c7bf3c022c9fed005c99bfc7b29065ee2ed54c77f02c5b39d832a276668577", func := "shearworks/shearworkslaw09.RiverSets", spec := "riverSets", unfollowed := true, recurses := true, plainKeys := false, apart := false, narrowed := true }
def RiverSetsUptoSaid : Prop := riverSetsUptoRow.holds Try.pinned (OpenSpec.upto riverSetsSpec)

/-- 'shearworkslaw09.RiverNames', WHERE WHAT IT READS IS OF BULK AT MOST 1048576: true; the input reads as it did. -/
def riverNamesUptoRow : OpenClaim := { program := "ytiodmkokpfgkkaa", sum := "27c7bf3c022c9fed005c99bfc7b29065ee2ed54c77f02c5b39d832a276668577", func := "shearworks/shearworkslaw09.RiverNames", spec := "riverNames", unfollowed := true, recurses := true, plainKeys := false, apart := false, narrowed := true }
def RiverNamesUptoSaid : Prop := riverNamesUptoRow.holds Try.pinned (OpenSpec.upto riverNamesSpec)

/-- 'shearworkslaw09.RiverTrue', WHERE WHAT IT READS IS OF BULK AT MOST 1048576: true; the input reads as it did. -/
def riverTrueUptoRow : OpenClaim := { program := "ytiodmkokpfgkkaa", sum := "27c7bf3c022c9fed005c99bfc7b29065ee2ed54c77f02c5b39d832a276668577", func := "shearworks/shearworkslaw09.RiverTrue", spec := "riverTrue", unfollowed := true, recurses := true, plainKeys := false, apart := false, narrowed := true }
def RiverTrueUptoSaid : Prop := riverTrueUptoRow.holds Try.pinned (OpenSpec.upto riverTrueSpec)

/-- 'shearworkslaw09.RiverEnds', WHERE WHAT IT READS IS OF BULK AT MOST 1048576: true; the input reads as it did. -/
def riverEndsUptoRow : OpenClaim := { program := "ytiodmkokpfgkkaa", sum := "27c7bf3c022c9fed005c99bfc7b29065ee2ed54c77f02c5b39d832a276668577", func := "shearworks/shearworkslaw09.RiverEnds", spec := "riverEnds", unfollowed := true, recurses := true, plainKeys := false, apart := false, narrowed := true }
def RiverEndsUptoSaid : Prop := riverEndsUptoRow.holds Try.pinned (OpenSpec.upto riverEndsSpec)

/-- 'shearworkslaw09.RiverBears', WHERE WHAT IT READS IS OF BULK AT MOST 1048576: true; the input reads as it did. -/
def riverBearsUptoRow : OpenClaim := { program := "ytiodmkokpfgkkaa", sum := "27c7bf3c022c9fed005c99bfc7b29065ee2ed54c77f02c5b39d832a276668577", func := "shearworks/shearworkslaw09.RiverBears", spec := "riverBears", unfollowed := true, recurses := true, plainKeys := false, apart := false, narrowed := true }
def RiverBearsUptoSaid : Prop := riverBearsUptoRow.holds Try.pinned (OpenSpec.upto riverBearsSpec)

/-- 'shearworkslaw09.RiverFalls', WHERE WHAT IT READS IS OF BULK AT MOST 1048576: true; the input reads as it did. -/
def riverFallsUptoRow : OpenClaim := { program := "ytiodmkokpfgkkaa", sum := "27c7bf3c022c9fed005c99bfc7b29065ee2ed54c77f02c5b39d832a276668577", func := "shearworks/shearworkslaw09.RiverFalls", spec := "riverFalls", unfollowed := true, recurses := true, plainKeys := false, apart := false, narrowed := true }
def RiverFallsUptoSaid : Prop := riverFallsUptoRow.holds Try.pinned (OpenSpec.upto riverFallsSpec)

/-- 'shearworkslaw09.RiverClash', WHERE WHAT IT READS IS OF BULK AT MOST 1048576: true; the input reads as it did. -/
def riverClashUptoRow : OpenClaim := { program := "ytiodmkokpfgkkaa", sum := "27c7bf3c022c9fed005c99bfc7b29065ee2ed54c77f02c5b39d832a276668577", func := "shearworks/shearworkslaw09.RiverClash", spec := "riverClash", unfollowed := true, recurses := true, plainKeys := false, apart := false, narrowed := true }
def RiverClashUptoSaid : Prop := riverClashUptoRow.holds Try.pinned (OpenSpec.upto riverClashSpec)

/-- 'shearworkslaw09.RiverMore', WHERE WHAT IT READS IS OF BULK AT MOST 1048576: true; the input reads as it did. -/
def riverMoreUptoRow : OpenClaim := { program := "ytiodmkokpfgkkaa", sum := "27c7bf3c022c9fed005c99bfc7b29065ee2ed54c77f02c5b39d832a276668577", func := "shearworks/shearworkslaw09.RiverMore", spec := "riverMore", unfollowed := true, recurses := true, plainKeys := false, apart := false, narrowed := true }
def RiverMoreUptoSaid : Prop := riverMoreUptoRow.holds Try.pinned (OpenSpec.upto riverMoreSpec)

end Rows
end Go.Proofs.Ytiodmkokpfgkkaa
