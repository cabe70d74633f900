/- Names for the table rules: slots, values, blocks; the closed check. -/
import Derived.Test.YtiodmkokpfgkkaaHavTab
namespace Go.HavG
open Go.RowKit
section
variable {R : Rel} {P : Program} {ops : Array Oper}
def valS (a : Act) : Option Nat → Value
 | some d => slot a d
 | none => undef
def fvalS (f : Nat → Value) : Option Nat → Value
 | some d => f d
 | none => undef
def tabSOk (ops : Array Oper) (sl : List (Option Nat)) : Bool :=
 genOk ops (List.range sl.length) [] && ((List.range sl.length).all (fun i => match ops[i]? with | some o => sl[i]? == some o.dst | none => false) && (List.range sl.length).all fun i => (List.range sl.length).all fun k => i == k || (sl[i]? != sl[k]? || sl[i]? == some none))
end
end Go.HavG
namespace Go.HavG
open Go.RowKit
section
variable {R : Rel} {P : Program} {ops : Array Oper}
/-- The value of the j-th operation. -/
def valV (sl : List (Option Nat)) (f : Nat → Value) (j : Nat) : Value := fvalS f ((sl[j]?).getD none)
/-- The block that a pointer or a slice shows. -/
def bkV : Value → Nat
 | .pointer (some a) => a.block
 | .slice (some a) _ _ => a.block
 | _ => 0
end
end Go.HavG
