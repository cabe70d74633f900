/-
  DERIVED. GIVEN WITH THE SEED: THE CARDS: each row of YtlcolpnniipgbaaDoorRows.lean that lists a variable, with what it lists TIED to the program's text (the seventh form; the later family's looks); each row that meets fmt, with fmt's text TOLD by the authors' own Lean function (tested against real Go, not proved from fmt's source: count such statements apart). THE CARD IS WHAT COUNTS. Prove the row's statement (the work); the ties are given (YtlcolpnniipgbaaDoorTie.lean); close each card by the builder's one call (the guide's Derived/Test/ToyasCard.lean, 'card_holds'). Laid BY PROGRAM, IN A SANDBOX (cutbox-door.mjs). By AI agents, Wed Nov 11 2026. No macro, syntax, notation, axiom, sorry.
-/
import Derived.Test.YtlcolpnniipgbaaDoorRows
import GoSem.ClaimSeven
namespace Go.Proofs.YtlcolpnniipgbaaDoor
namespace Rows

/-- THE TIED CARD OF 'shearworkslaw10.PayReads'. -/
def payReadsCard : Claim7 := { stood := { row := payReadsRow, standIns := [], harness := (true, "0a61b0a30ba40fb7dc5b6575dce9b659471c6d4a3b13a2273345ba291fc201b3"), looks := true }, kinds := [], alts := [], laidByText := true, laidKinds := [.wider], laidTests := true, laidLooks := .later }
def PayReadsCardSaid : Prop := Claim7.holds Tryd.pinned (.plain (OpenSpec.ofChange payReadsSpec)) payReadsCard

/-- THE TIED CARD OF 'shearworkslaw10.PayLooks'. -/
def payLooksCard : Claim7 := { stood := { row := payLooksRow, standIns := [], harness := (true, "0a61b0a30ba40fb7dc5b6575dce9b659471c6d4a3b13a2273345ba291fc201b3"), looks := true }, kinds := [], alts := [], laidByText := true, laidKinds := [.wider], laidTests := true, laidLooks := .later }
def PayLooksCardSaid : Prop := Claim7.holds Tryd.pinned (.plain (OpenSpec.ofChange payLooksSpec)) payLooksCard

/-- THE TIED CARD OF 'shearworkslaw10.PayTrue'. -/
def payTrueCard : Claim7 := { stood := { row := payTrueRow, standIns := [], harness := (true, "0a61b0a30ba40fb7dc5b6575dce9b659471c6d4a3b13a2273345ba291fc201b3"), looks := true }, kinds := [], alts := [], laidByText := true, laidKinds := [.wider], laidTests := true, laidLooks := .later }
def PayTrueCardSaid : Prop := Claim7.holds Tryd.pinned (.plain (OpenSpec.ofChange payTrueSpec)) payTrueCard

/-- THE TIED CARD OF 'shearworkslaw10.PayStands'. -/
def payStandsCard : Claim7 := { stood := { row := payStandsRow, standIns := [], harness := (true, "0a61b0a30ba40fb7dc5b6575dce9b659471c6d4a3b13a2273345ba291fc201b3"), looks := true }, kinds := [], alts := [], laidByText := true, laidKinds := [.wider], laidTests := true, laidLooks := .later }
def PayStandsCardSaid : Prop := Claim7.holds Tryd.pinned (.plain (OpenSpec.ofChange payStandsSpec)) payStandsCard

/-- THE TIED CARD OF 'shearworkslaw10.PayEnds'. -/
def payEndsCard : Claim7 := { stood := { row := payEndsRow, standIns := [], harness := (true, "0a61b0a30ba40fb7dc5b6575dce9b659471c6d4a3b13a2273345ba291fc201b3"), looks := true }, kinds := [], alts := [], laidByText := true, laidKinds := [.wider], laidTests := true, laidLooks := .later }
def PayEndsCardSaid : Prop := Claim7.holds Tryd.pinned (.plain (OpenSpec.ofChange payEndsSpec)) payEndsCard

/-- THE TIED CARD OF 'shearworkslaw10.PayWages'. -/
def payWagesCard : Claim7 := { stood := { row := payWagesRow, standIns := [], harness := (true, "0a61b0a30ba40fb7dc5b6575dce9b659471c6d4a3b13a2273345ba291fc201b3"), looks := true }, kinds := [], alts := [], laidByText := true, laidKinds := [.wider], laidTests := true, laidLooks := .later }
def PayWagesCardSaid : Prop := Claim7.holds Tryd.pinned (.plain (OpenSpec.ofChange payWagesSpec)) payWagesCard

/-- THE TIED CARD OF 'shearworkslaw10.PayShares'. -/
def paySharesCard : Claim7 := { stood := { row := paySharesRow, standIns := [], harness := (true, "0a61b0a30ba40fb7dc5b6575dce9b659471c6d4a3b13a2273345ba291fc201b3"), looks := true }, kinds := [], alts := [], laidByText := true, laidKinds := [.wider], laidTests := true, laidLooks := .later }
def PaySharesCardSaid : Prop := Claim7.holds Tryd.pinned (.plain (OpenSpec.ofChange paySharesSpec)) paySharesCard

/-- THE TIED CARD OF 'shearworkslaw10.PayCheck'. -/
def payCheckCard : Claim7 := { stood := { row := payCheckRow, standIns := [], harness := (true, "0a61b0a30ba40fb7dc5b6575dce9b659471c6d4a3b13a2273345ba291fc201b3"), looks := true }, kinds := [], alts := [], laidByText := true, laidKinds := [.wider], laidTests := true, laidLooks := .later }
def PayCheckCardSaid : Prop := Claim7.holds Tryd.pinned (.plain (OpenSpec.ofChange payCheckSpec)) payCheckCard

/-- THE TIED CARD OF 'shearworkslaw10.PayMore'. -/
def payMoreCard : Claim7 := { stood := { row := payMoreRow, standIns := [], harness := (true, "0a61b0a30ba40fb7dc5b6575dce9b659471c6d4a3b13a2273345ba291fc201b3"), looks := true }, kinds := [], alts := [], laidByText := true, laidKinds := [.wider], laidTests := true, laidLooks := .later }
def PayMoreCardSaid : Prop := Claim7.holds Tryd.pinned (.plain (OpenSpec.ofChange payMoreSpec)) payMoreCard

/-- THE SECOND FORM's CARD OF 'shearworkslaw10.PayReads'. -/
def payReadsUptoCard : Claim7 := { stood := { row := payReadsUptoRow, standIns := [], harness := (true, "0a61b0a30ba40fb7dc5b6575dce9b659471c6d4a3b13a2273345ba291fc201b3"), looks := true }, kinds := [], alts := [], laidByText := true, laidKinds := [.wider], laidTests := true, laidLooks := .later }
def PayReadsUptoCardSaid : Prop := Claim7.holds Tryd.pinned (.plain (OpenSpec.upto payReadsSpec)) payReadsUptoCard

/-- THE SECOND FORM's CARD OF 'shearworkslaw10.PayLooks'. -/
def payLooksUptoCard : Claim7 := { stood := { row := payLooksUptoRow, standIns := [], harness := (true, "0a61b0a30ba40fb7dc5b6575dce9b659471c6d4a3b13a2273345ba291fc201b3"), looks := true }, kinds := [], alts := [], laidByText := true, laidKinds := [.wider], laidTests := true, laidLooks := .later }
def PayLooksUptoCardSaid : Prop := Claim7.holds Tryd.pinned (.plain (OpenSpec.upto payLooksSpec)) payLooksUptoCard

/-- THE SECOND FORM's CARD OF 'shearworkslaw10.PayTrue'. -/
def payTrueUptoCard : Claim7 := { stood := { row := payTrueUptoRow, standIns := [], harness := (true, "0a61b0a30ba40fb7dc5b6575dce9b659471c6d4a3b13a2273345ba291fc201b3"), looks := true }, kinds := [], alts := [], laidByText := true, laidKinds := [.wider], laidTests := true, laidLooks := .later }
def PayTrueUptoCardSaid : Prop := Claim7.holds Tryd.pinned (.plain (OpenSpec.upto payTrueSpec)) payTrueUptoCard

/-- THE SECOND FORM's CARD OF 'shearworkslaw10.PayStands'. -/
def payStandsUptoCard : Claim7 := { stood := { row := payStandsUptoRow, standIns := [], harness := (true, "0a61b0a30ba40fb7dc5b6575dce9b659471c6d4a3b13a2273345ba291fc201b3"), looks := true }, kinds := [], alts := [], laidByText := true, laidKinds := [.wider], laidTests := true, laidLooks := .later }
def PayStandsUptoCardSaid : Prop := Claim7.holds Tryd.pinned (.plain (OpenSpec.upto payStandsSpec)) payStandsUptoCard

/-- THE SECOND FORM's CARD OF 'shearworkslaw10.PayEnds'. -/
def payEndsUptoCard : Claim7 := { stood := { row := payEndsUptoRow, standIns := [], harness := (true, "0a61b0a30ba40fb7dc5b6575dce9b659471c6d4a3b13a2273345ba291fc201b3"), looks := true }, kinds := [], alts := [], laidByText := true, laidKinds := [.wider], laidTests := true, laidLooks := .later }
def PayEndsUptoCardSaid : Prop := Claim7.holds Tryd.pinned (.plain (OpenSpec.upto payEndsSpec)) payEndsUptoCard

/-- THE SECOND FORM's CARD OF 'shearworkslaw10.PayWages'. -/
def payWagesUptoCard : Claim7 := { stood := { row := payWagesUptoRow, standIns := [], harness := (true, "0a61b0a30ba40fb7dc5b6575dce9b659471c6d4a3b13a2273345ba291fc201b3"), looks := true }, kinds := [], alts := [], laidByText := true, laidKinds := [.wider], laidTests := true, laidLooks := .later }
def PayWagesUptoCardSaid : Prop := Claim7.holds Tryd.pinned (.plain (OpenSpec.upto payWagesSpec)) payWagesUptoCard

/-- THE SECOND FORM's CARD OF 'shearworkslaw10.PayShares'. -/
def paySharesUptoCard : Claim7 := { stood := { row := paySharesUptoRow, standIns := [], harness := (true, "0a61b0a30ba40fb7dc5b6575dce9b659471c6d4a3b13a2273345ba291fc201b3"), looks := true }, kinds := [], alts := [], laidByText := true, laidKinds := [.wider], laidTests := true, laidLooks := .later }
def PaySharesUptoCardSaid : Prop := Claim7.holds Tryd.pinned (.plain (OpenSpec.upto paySharesSpec)) paySharesUptoCard

/-- THE SECOND FORM's CARD OF 'shearworkslaw10.PayCheck'. -/
def payCheckUptoCard : Claim7 := { stood := { row := payCheckUptoRow, standIns := [], harness := (true, "0a61b0a30ba40fb7dc5b6575dce9b659471c6d4a3b13a2273345ba291fc201b3"), looks := true }, kinds := [], alts := [], laidByText := true, laidKinds := [.wider], laidTests := true, laidLooks := .later }
def PayCheckUptoCardSaid : Prop := Claim7.holds Tryd.pinned (.plain (OpenSpec.upto payCheckSpec)) payCheckUptoCard

/-- THE SECOND FORM's CARD OF 'shearworkslaw10.PayMore'. -/
def payMoreUptoCard : Claim7 := { stood := { row := payMoreUptoRow, standIns := [], harness := (true, "0a61b0a30ba40fb7dc5b6575dce9b659471c6d4a3b13a2273345ba291fc201b3"), looks := true }, kinds := [], alts := [], laidByText := true, laidKinds := [.wider], laidTests := true, laidLooks := .later }
def PayMoreUptoCardSaid : Prop := Claim7.holds Tryd.pinned (.plain (OpenSpec.upto payMoreSpec)) payMoreUptoCard
end Rows
end Go.Proofs.YtlcolpnniipgbaaDoor
