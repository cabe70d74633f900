/-
  NARROWER THAN 'FOR EVERY INPUT', by the rows' own cells (each row's printed sentence says how): PayReads: laid · PayLooks: laid · PayTrue: laid · PayStands: laid · PayEnds: laid · PayWages: laid · PayShares: laid · PayCheck: laid · PayMore: laid.
  DERIVED. THE GIVEN ROWS OF THIS SEAT. 9 by the template 'for every input the law returns true; each argument reads behind the call as it read before'; 0 by the template 'total and deterministic' (their statements: YtlcolpnniipgbaaDoorTotals.lean).
  GIVEN WITH THE SEED: the statements are not yours to turn. If you find one false, say at which input.
  Laid BY PROGRAM, IN A SANDBOX (cutbox-rows.mjs): the forced cells as the released guide's own fill.sh prints them over the translation 8a01caeb69a6cc83… (all of the seat's roots in one cut). By AI agents, Wed Nov 11 2026. No macro, syntax, notation, axiom, sorry.
-/
import Derived.Test.YtlcolpnniipgbaaDoorChecked
import GoSem.Claim
import GoSem.ClaimJoined
import GoSem.ClaimMapViews
import Derived.JoinedTies
import Derived.KernelRfl
namespace Go.Proofs.YtlcolpnniipgbaaDoor
/- THE CELL 'sum', in the pinned program and in every row, IS THE sha256 OF THE DUMP (.gsa) THAT YtlcolpnniipgbaaDoorProg.lean LOADS. Nothing in Lean hashes anything: it is a label: what it is worth is what the hold of that sum in a sandbox is worth. -/
noncomputable def Tryd.pinned : Pinned := { name := "ytlcolpnniipgbaadoor", sum := "8a01caeb69a6cc83fb40d4c31b3c248cf1d014e9dee0d3fc34c071469eefca9c", checked := Tryd.checked }
namespace Rows
def none {H : Type} : Left H := { results := [], args := [] }

/- WHAT THE LISTED PACKAGE-LEVEL VARIABLES READ AS WHEN THE CALL BEGINS. Each datum BY PROGRAM (the guide's laid-datum.mjs) off the statement by which the dump's own 'gosem.cut.vars' lays the variable. In a bare row this is a premise. The card (YtlcolpnniipgbaaDoorCards.lean) ties it to the program's text. -/
def laid_shearworks_pay_rules {H : Type} : DataW H := .agg [.nil, .iface "shearworks/pay.twice" (.agg []), .iface "shearworks/pay.none" (.agg []), .iface "shearworks/pay.much" (.agg [])]

/-- 'shearworkslaw10.PayReads': WHATEVER THE INPUT: true; the input reads as it did. -/
def payReadsSpec : ChangeSpec := { name := "payReads", fn := fun _ => fun
  | [d1, d2, d3] => { results := [.lit (.bool true)], args := [d1, d2, d3] }
  | _ => none }
def payReadsRow : OpenClaim := { program := "ytlcolpnniipgbaadoor", sum := "8a01caeb69a6cc83fb40d4c31b3c248cf1d014e9dee0d3fc34c071469eefca9c", func := "shearworks/shearworkslaw10.PayReads", spec := "payReads", unfollowed := true, recurses := true, named := ["shearworks/pay.rules"], plainKeys := false, apart := false, laid := [("shearworks/pay.rules", laid_shearworks_pay_rules)] }
def PayReadsSaid : Prop := payReadsRow.holds Tryd.pinned (OpenSpec.ofChange payReadsSpec)

/-- ITS FALSE NEIGHBOUR: 'it returns false'. Refute it at one input. -/
def payReadsWrong : ChangeSpec := { name := "payReads", fn := fun _ => fun
  | [d1, d2, d3] => { results := [.lit (.bool false)], args := [d1, d2, d3] }
  | _ => none }
def PayReadsWrongFalsely : Prop := payReadsRow.holds Tryd.pinned (OpenSpec.ofChange payReadsWrong)

/-- 'shearworkslaw10.PayLooks': WHATEVER THE INPUT: true; the input reads as it did. -/
def payLooksSpec : ChangeSpec := { name := "payLooks", fn := fun _ => fun
  | [d1, d2] => { results := [.lit (.bool true)], args := [d1, d2] }
  | _ => none }
def payLooksRow : OpenClaim := { program := "ytlcolpnniipgbaadoor", sum := "8a01caeb69a6cc83fb40d4c31b3c248cf1d014e9dee0d3fc34c071469eefca9c", func := "shearworks/shearworkslaw10.PayLooks", spec := "payLooks", unfollowed := true, recurses := true, named := ["shearworks/pay.rules"], plainKeys := false, apart := false, laid := [("shearworks/pay.rules", laid_shearworks_pay_rules)] }
def PayLooksSaid : Prop := payLooksRow.holds Tryd.pinned (OpenSpec.ofChange payLooksSpec)

/-- ITS FALSE NEIGHBOUR: 'it returns false'. Refute it at one input. -/
def payLooksWrong : ChangeSpec := { name := "payLooks", fn := fun _ => fun
  | [d1, d2] => { results := [.lit (.bool false)], args := [d1, d2] }
  | _ => none }
def PayLooksWrongFalsely : Prop := payLooksRow.holds Tryd.pinned (OpenSpec.ofChange payLooksWrong)

/-- 'shearworkslaw10.PayTrue': WHATEVER THE INPUT: true; the input reads as it did. -/
def payTrueSpec : ChangeSpec := { name := "payTrue", fn := fun _ => fun
  | [d1, d2] => { results := [.lit (.bool true)], args := [d1, d2] }
  | _ => none }
def payTrueRow : OpenClaim := { program := "ytlcolpnniipgbaadoor", sum := "8a01caeb69a6cc83fb40d4c31b3c248cf1d014e9dee0d3fc34c071469eefca9c", func := "shearworks/shearworkslaw10.PayTrue", spec := "payTrue", unfollowed := true, recurses := true, named := ["shearworks/pay.rules"], plainKeys := false, apart := false, laid := [("shearworks/pay.rules", laid_shearworks_pay_rules)] }
def PayTrueSaid : Prop := payTrueRow.holds Tryd.pinned (OpenSpec.ofChange payTrueSpec)

/-- ITS FALSE NEIGHBOUR: 'it returns false'. Refute it at one input. -/
def payTrueWrong : ChangeSpec := { name := "payTrue", fn := fun _ => fun
  | [d1, d2] => { results := [.lit (.bool false)], args := [d1, d2] }
  | _ => none }
def PayTrueWrongFalsely : Prop := payTrueRow.holds Tryd.pinned (OpenSpec.ofChange payTrueWrong)

/-- 'shearworkslaw10.PayStands': WHATEVER THE INPUT: true; the input reads as it did. -/
def payStandsSpec : ChangeSpec := { name := "payStands", fn := fun _ => fun
  | [d1, d2, d3] => { results := [.lit (.bool true)], args := [d1, d2, d3] }
  | _ => none }
def payStandsRow : OpenClaim := { program := "ytlcolpnniipgbaadoor", sum := "8a01caeb69a6cc83fb40d4c31b3c248cf1d014e9dee0d3fc34c071469eefca9c", func := "shearworks/shearworkslaw10.PayStands", spec := "payStands", unfollowed := true, recurses := true, named := ["shearworks/pay.rules"], plainKeys := false, apart := false, laid := [("shearworks/pay.rules", laid_shearworks_pay_rules)] }
def PayStandsSaid : Prop := payStandsRow.holds Tryd.pinned (OpenSpec.ofChange payStandsSpec)

/-- ITS FALSE NEIGHBOUR: 'it returns false'. Refute it at one input. -/
def payStandsWrong : ChangeSpec := { name := "payStands", fn := fun _ => fun
  | [d1, d2, d3] => { results := [.lit (.bool false)], args := [d1, d2, d3] }
  | _ => none }
def PayStandsWrongFalsely : Prop := payStandsRow.holds Tryd.pinned (OpenSpec.ofChange payStandsWrong)

/-- 'shearworkslaw10.PayEnds': WHATEVER THE INPUT: true; the input reads as it did. -/
def payEndsSpec : ChangeSpec := { name := "payEnds", fn := fun _ => fun
  | [d1, d2, d3] => { results := [.lit (.bool true)], args := [d1, d2, d3] }
  | _ => none }
def payEndsRow : OpenClaim := { program := "ytlcolpnniipgbaadoor", sum := "8a01caeb69a6cc83fb40d4c31b3c248cf1d014e9dee0d3fc34c071469eefca9c", func := "shearworks/shearworkslaw10.PayEnds", spec := "payEnds", unfollowed := true, recurses := true, named := ["shearworks/pay.rules"], plainKeys := false, apart := false, laid := [("shearworks/pay.rules", laid_shearworks_pay_rules)] }
def PayEndsSaid : Prop := payEndsRow.holds Tryd.pinned (OpenSpec.ofChange payEndsSpec)

/-- ITS FALSE NEIGHBOUR: 'it returns false'. Refute it at one input. -/
def payEndsWrong : ChangeSpec := { name := "payEnds", fn := fun _ => fun
  | [d1, d2, d3] => { results := [.lit (.bool false)], args := [d1, d2, d3] }
  | _ => none }
def PayEndsWrongFalsely : Prop := payEndsRow.holds Tryd.pinned (OpenSpec.ofChange payEndsWrong)

/-- 'shearworkslaw10.PayWages': WHATEVER THE INPUT: true; the input reads as it did. -/
def payWagesSpec : ChangeSpec := { name := "payWages", fn := fun _ => fun
  | [d] => { results := [.lit (.bool true)], args := [d] }
  | _ => none }
def payWagesRow : OpenClaim := { program := "ytlcolpnniipgbaadoor", sum := "8a01caeb69a6cc83fb40d4c31b3c248cf1d014e9dee0d3fc34c071469eefca9c", func := "shearworks/shearworkslaw10.PayWages", spec := "payWages", unfollowed := true, recurses := true, named := ["shearworks/pay.rules"], plainKeys := false, apart := false, laid := [("shearworks/pay.rules", laid_shearworks_pay_rules)] }
def PayWagesSaid : Prop := payWagesRow.holds Tryd.pinned (OpenSpec.ofChange payWagesSpec)

/-- ITS FALSE NEIGHBOUR: 'it returns false'. Refute it at one input. -/
def payWagesWrong : ChangeSpec := { name := "payWages", fn := fun _ => fun
  | [d] => { results := [.lit (.bool false)], args := [d] }
  | _ => none }
def PayWagesWrongFalsely : Prop := payWagesRow.holds Tryd.pinned (OpenSpec.ofChange payWagesWrong)

/-- 'shearworkslaw10.PayShares': WHATEVER THE INPUT: true; the input reads as it did. -/
def paySharesSpec : ChangeSpec := { name := "payShares", fn := fun _ => fun
  | [d] => { results := [.lit (.bool true)], args := [d] }
  | _ => none }
def paySharesRow : OpenClaim := { program := "ytlcolpnniipgbaadoor", sum := "8a01caeb69a6cc83fb40d4c31b3c248cf1d014e9dee0d3fc34c071469eefca9c", func := "shearworks/shearworkslaw10.PayShares", spec := "payShares", unfollowed := true, recurses := true, named := ["shearworks/pay.rules"], plainKeys := false, apart := false, laid := [("shearworks/pay.rules", laid_shearworks_pay_rules)] }
def PaySharesSaid : Prop := paySharesRow.holds Tryd.pinned (OpenSpec.ofChange paySharesSpec)

/-- ITS FALSE NEIGHBOUR: 'it returns false'. Refute it at one input. -/
def paySharesWrong : ChangeSpec := { name := "payShares", fn := fun _ => fun
  | [d] => { results := [.lit (.bool false)], args := [d] }
  | _ => none }
def PaySharesWrongFalsely : Prop := paySharesRow.holds Tryd.pinned (OpenSpec.ofChange paySharesWrong)

/-- 'shearworkslaw10.PayCheck': WHATEVER THE INPUT: true; the input reads as it did. -/
def payCheckSpec : ChangeSpec := { name := "payCheck", fn := fun _ => fun
  | [d] => { results := [.lit (.bool true)], args := [d] }
  | _ => none }
def payCheckRow : OpenClaim := { program := "ytlcolpnniipgbaadoor", sum := "8a01caeb69a6cc83fb40d4c31b3c248cf1d014e9dee0d3fc34c071469eefca9c", func := "shearworks/shearworkslaw10.PayCheck", spec := "payCheck", unfollowed := true, recurses := true, named := ["shearworks/pay.rules"], plainKeys := false, apart := false, laid := [("shearworks/pay.rules", laid_shearworks_pay_rules)] }
def PayCheckSaid : Prop := payCheckRow.holds Tryd.pinned (OpenSpec.ofChange payCheckSpec)

/-- ITS FALSE NEIGHBOUR: 'it returns false'. Refute it at one input. -/
def payCheckWrong : ChangeSpec := { name := "payCheck", fn := fun _ => fun
  | [d] => { results := [.lit (.bool false)], args := [d] }
  | _ => none }
def PayCheckWrongFalsely : Prop := payCheckRow.holds Tryd.pinned (OpenSpec.ofChange payCheckWrong)

/-- 'shearworkslaw10.PayMore': WHATEVER THE INPUT: true; the input reads as it did. -/
def payMoreSpec : ChangeSpec := { name := "payMore", fn := fun _ => fun
  | [d1, d2, d3, d4] => { results := [.lit (.bool true)], args := [d1, d2, d3, d4] }
  | _ => none }
def payMoreRow : OpenClaim := { program := "ytlcolpnniipgbaadoor", sum := "8a01caeb69a6cc83fb40d4c31b3c248cf1d014e9dee0d3fc34c071469eefca9c", func := "shearworks/shearworkslaw10.PayMore", spec := "payMore", unfollowed := true, recurses := true, named := ["shearworks/pay.rules"], plainKeys := false, apart := false, laid := [("shearworks/pay.rules", laid_shearworks_pay_rules)] }
def PayMoreSaid : Prop := payMoreRow.holds Tryd.pinned (OpenSpec.ofChange payMoreSpec)

/-- ITS FALSE NEIGHBOUR: 'it returns false'. Refute it at one input. -/
def payMoreWrong : ChangeSpec := { name := "payMore", fn := fun _ => fun
  | [d1, d2, d3, d4] => { results := [.lit (.bool false)], args := [d1, d2, d3, d4] }
  | _ => none }
def PayMoreWrongFalsely : Prop := payMoreRow.holds Tryd.pinned (OpenSpec.ofChange payMoreWrong)

/- THE SECOND FORM. 'bulk': how many values and letters a reading holds, each counted each time it is reached (what is shared counts as often as it is met; a slice's spare places count too). A statement '..UptoSaid' is the law's where the arguments, and the package variables that the reading takes, are together of bulk at most 1048576: NARROWER than '..Said'. Prove '..Said' where nothing that the law and all that it calls make is longer than what came in: it says more and counts as full. Else prove '..UptoSaid'. A law counts once. -/
mutual
def uptoBulk {H : Type} : DataW H → Nat
  | .lit (.string bytes) => bytes.length + 1
  | .lit _ => 1
  | .nil => 1
  | .ptr d => uptoBulk d + 1
  | .slice elems spare => uptoBulkAll elems + uptoBulkAll spare + 1
  | .agg parts => uptoBulkAll parts + 1
  | .iface _ d => uptoBulk d + 1
  | .map entries => uptoBulkEntries entries + 1
  | .held _ => 1
def uptoBulkAll {H : Type} : List (DataW H) → Nat
  | [] => 0
  | d :: r => uptoBulk d + uptoBulkAll r
def uptoBulkEntries {H : Type} : List (Lit × DataW H) → Nat
  | [] => 0
  | x :: r => uptoBulkEntry x + uptoBulkEntries r
def uptoBulkEntry {H : Type} : Lit × DataW H → Nat
  | (.string bytes, d) => bytes.length + uptoBulk d + 1
  | (_, d) => uptoBulk d + 1
 end
def uptoSmall : (H : Type) → List (DataW H) → Bool := fun _ ds => decide (uptoBulkAll ds ≤ 1048576)
def OpenSpec.upto (s : _root_.Go.ChangeSpec) : _root_.Go.OpenSpec := { _root_.Go.OpenSpec.ofChange s with cond := some uptoSmall }

/-- 'shearworkslaw10.PayReads', WHERE WHAT IT READS IS OF BULK AT MOST 1048576: true; the input reads as it did. -/
def payReadsUptoRow : OpenClaim := { program := "ytlcolpnniipgbaadoor", sum := "8a01caeb69a6cc83fb40d4c31b3c248cf1d014e9dee0d3fc34c071469eefca9c", func := "shearworks/shearworkslaw10.PayReads", spec := "payReads", unfollowed := true, recurses := true, named := ["shearworks/pay.rules"], plainKeys := false, apart := false, laid := [("shearworks/pay.rules", laid_shearworks_pay_rules)], narrowed := true }
def PayReadsUptoSaid : Prop := payReadsUptoRow.holds Tryd.pinned (OpenSpec.upto payReadsSpec)

/-- 'shearworkslaw10.PayLooks', WHERE WHAT IT READS IS OF BULK AT MOST 1048576: true; the input reads as it did. -/
def payLooksUptoRow : OpenClaim := { program := "ytlcolpnniipgbaadoor", sum := "8a01caeb69a6cc83fb40d4c31b3c248cf1d014e9dee0d3fc34c071469eefca9c", func := "shearworks/shearworkslaw10.PayLooks", spec := "payLooks", unfollowed := true, recurses := true, named := ["shearworks/pay.rules"], plainKeys := false, apart := false, laid := [("shearworks/pay.rules", laid_shearworks_pay_rules)], narrowed := true }
def PayLooksUptoSaid : Prop := payLooksUptoRow.holds Tryd.pinned (OpenSpec.upto payLooksSpec)

/-- 'shearworkslaw10.PayTrue', WHERE WHAT IT READS IS OF BULK AT MOST 1048576: true; the input reads as it did. -/
def payTrueUptoRow : OpenClaim := { program := "ytlcolpnniipgbaadoor", sum := "8a01caeb69a6cc83fb40d4c31b3c248cf1d014e9dee0d3fc34c071469eefca9c", func := "shearworks/shearworkslaw10.PayTrue", spec := "payTrue", unfollowed := true, recurses := true, named := ["shearworks/pay.rules"], plainKeys := false, apart := false, laid := [("shearworks/pay.rules", laid_shearworks_pay_rules)], narrowed := true }
def PayTrueUptoSaid : Prop := payTrueUptoRow.holds Tryd.pinned (OpenSpec.upto payTrueSpec)

/-- 'shearworkslaw10.PayStands', WHERE WHAT IT READS IS OF BULK AT MOST 1048576: true; the input reads as it did. -/
def payStandsUptoRow : OpenClaim := { program := "ytlcolpnniipgbaadoor", sum := "8a01caeb69a6cc83fb40d4c31b3c248cf1d014e9dee0d3fc34c071469eefca9c", func := "shearworks/shearworkslaw10.PayStands", spec := "payStands", unfollowed := true, recurses := true, named := ["shearworks/pay.rules"], plainKeys := false, apart := false, laid := [("shearworks/pay.rules", laid_shearworks_pay_rules)], narrowed := true }
def PayStandsUptoSaid : Prop := payStandsUptoRow.holds Tryd.pinned (OpenSpec.upto payStandsSpec)

/-- 'shearworkslaw10.PayEnds', WHERE WHAT IT READS IS OF BULK AT MOST 1048576: true; the input reads as it did. -/
def payEndsUptoRow : OpenClaim := { program := "ytlcolpnniipgbaadoor", sum := "8a01caeb69a6cc83fb40d4c31b3c248cf1d014e9dee0d3fc34c071469eefca9c", func := "shearworks/shearworkslaw10.PayEnds", spec := "payEnds", unfollowed := true, recurses := true, named := ["shearworks/pay.rules"], plainKeys := false, apart := false, laid := [("shearworks/pay.rules", laid_shearworks_pay_rules)], narrowed := true }
def PayEndsUptoSaid : Prop := payEndsUptoRow.holds Tryd.pinned (OpenSpec.upto payEndsSpec)

/-- 'shearworkslaw10.PayWages', WHERE WHAT IT READS IS OF BULK AT MOST 1048576: true; the input reads as it did. -/
def payWagesUptoRow : OpenClaim := { program := "ytlcolpnniipgbaadoor", sum := "8a01caeb69a6cc83fb40d4c31b3c248cf1d014e9dee0d3fc34c071469eefca9c", func := "shearworks/shearworkslaw10.PayWages", spec := "payWages", unfollowed := true, recurses := true, named := ["shearworks/pay.rules"], plainKeys := false, apart := false, laid := [("shearworks/pay.rules", laid_shearworks_pay_rules)], narrowed := true }
def PayWagesUptoSaid : Prop := payWagesUptoRow.holds Tryd.pinned (OpenSpec.upto payWagesSpec)

/-- 'shearworkslaw10.PayShares', WHERE WHAT IT READS IS OF BULK AT MOST 1048576: true; the input reads as it did. -/
def paySharesUptoRow : OpenClaim := { program := "ytlcolpnniipgbaadoor", sum := "8a01caeb69a6cc83fb40d4c31b3c248cf1d014e9dee0d3fc34c071469eefca9c", func := "shearworks/shearworkslaw10.PayShares", spec := "payShares", unfollowed := true, recurses := true, named := ["shearworks/pay.rules"], plainKeys := false, apart := false, laid := [("shearworks/pay.rules", laid_shearworks_pay_rules)], narrowed := true }
def PaySharesUptoSaid : Prop := paySharesUptoRow.holds Tryd.pinned (OpenSpec.upto paySharesSpec)

/-- 'shearworkslaw10.PayCheck', WHERE WHAT IT READS IS OF BULK AT MOST 1048576: true; the input reads as it did. -/
def payCheckUptoRow : OpenClaim := { program := "ytlcolpnniipgbaadoor", sum := "8a01caeb69a6cc83fb40d4c31b3c248cf1d014e9dee0d3fc34c071469eefca9c", func := "shearworks/shearworkslaw10.PayCheck", spec := "payCheck", unfollowed := true, recurses := true, named := ["shearworks/pay.rules"], plainKeys := false, apart := false, laid := [("shearworks/pay.rules", laid_shearworks_pay_rules)], narrowed := true }
def PayCheckUptoSaid : Prop := payCheckUptoRow.holds Tryd.pinned (OpenSpec.upto payCheckSpec)

/-- 'shearworkslaw10.PayMore', WHERE WHAT IT READS IS OF BULK AT MOST 1048576: true; the input reads as it did. -/
def payMoreUptoRow : OpenClaim := { program := "ytlcolpnniipgbaadoor", sum := "8a01caeb69a6cc83fb40d4c31b3c248cf1d014e9dee0d3fc34c071469eefca9c", func := "shearworks/shearworkslaw10.PayMore", spec := "payMore", unfollowed := true, recurses := true, named := ["shearworks/pay.rules"], plainKeys := false, apart := false, laid := [("shearworks/pay.rules", laid_shearworks_pay_rules)], narrowed := true }
def PayMoreUptoSaid : Prop := payMoreUptoRow.holds Tryd.pinned (OpenSpec.upto payMoreSpec)

end Rows
end Go.Proofs.YtlcolpnniipgbaaDoor
