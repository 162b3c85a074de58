/-
  DERIVED. GIVEN WITH THE SEED: THE CARDS: each row of YtbcicbiphgeghaaDoorRows.lean that lists a variable, with what it lists TIED to the program's text (the seventh form; the later family's looks); each row that meets fmt, with fmt's text TOLD by the authors' own Lean function (tested against real Go, not proved from fmt's source: count such statements apart). THE CARD IS WHAT COUNTS. Prove the row's statement (the work); the ties are given (YtbcicbiphgeghaaDoorTie.lean); close each card by the builder's one call (the guide's Derived/Test/ToyasCard.lean, 'card_holds'). Laid BY PROGRAM, IN A SANDBOX (cutbox-door.mjs). By AI agents, Wed Nov 11 2026. No macro, syntax, notation, axiom, sorry.
-/
import Derived.Test.YtbcicbiphgeghaaDoorRows
import GoSem.ClaimSeven
namespace Go.Proofs.YtbcicbiphgeghaaDoor
namespace Rows

/-- THE TIED CARD OF 'distributarylaw45.LimitFull'. -/
def limitFullCard : Claim7 := { stood := { row := limitFullRow, standIns := [], harness := (true, "f4975c7c0a994cde2ab747941d30682f129e877fc6f80a396c534d3a1011bacd"), looks := false }, kinds := [], alts := [], laidByText := true, laidKinds := [.data, .pinned], laidTests := true, laidLooks := .later }
def LimitFullCardSaid : Prop := Claim7.holds Tryd.pinned (.plain (OpenSpec.ofChange limitFullSpec)) limitFullCard

/-- THE TIED CARD OF 'distributarylaw45.LimitNews'. -/
def limitNewsCard : Claim7 := { stood := { row := limitNewsRow, standIns := [], harness := (true, "f4975c7c0a994cde2ab747941d30682f129e877fc6f80a396c534d3a1011bacd"), looks := false }, kinds := [], alts := [], laidByText := true, laidKinds := [.data, .pinned], laidTests := true, laidLooks := .later }
def LimitNewsCardSaid : Prop := Claim7.holds Tryd.pinned (.plain (OpenSpec.ofChange limitNewsSpec)) limitNewsCard

/-- THE TIED CARD OF 'distributarylaw45.LimitPlays'. -/
def limitPlaysCard : Claim7 := { stood := { row := limitPlaysRow, standIns := [], harness := (true, "f4975c7c0a994cde2ab747941d30682f129e877fc6f80a396c534d3a1011bacd"), looks := false }, kinds := [], alts := [], laidByText := true, laidKinds := [.data, .pinned], laidTests := true, laidLooks := .later }
def LimitPlaysCardSaid : Prop := Claim7.holds Tryd.pinned (.plain (OpenSpec.ofChange limitPlaysSpec)) limitPlaysCard

/-- THE TIED CARD OF 'distributarylaw45.LimitShares'. -/
def limitSharesCard : Claim7 := { stood := { row := limitSharesRow, standIns := [], harness := (true, "f4975c7c0a994cde2ab747941d30682f129e877fc6f80a396c534d3a1011bacd"), looks := false }, kinds := [], alts := [], laidByText := true, laidKinds := [.data, .pinned], laidTests := true, laidLooks := .later }
def LimitSharesCardSaid : Prop := Claim7.holds Tryd.pinned (.plain (OpenSpec.ofChange limitSharesSpec)) limitSharesCard

/-- THE TIED CARD OF 'distributarylaw18.ConfParses'. -/
def confParsesCard : Claim7 := { stood := { row := confParsesRow, standIns := [], harness := (true, "f4975c7c0a994cde2ab747941d30682f129e877fc6f80a396c534d3a1011bacd"), looks := false }, kinds := [], alts := [], laidByText := true, laidKinds := [.data, .pinned], laidTests := true, laidLooks := .later }
def ConfParsesCardSaid : Prop := Claim7.holds Tryd.pinned (.plain (OpenSpec.ofChange confParsesSpec)) confParsesCard

/-- THE TIED CARD OF 'distributarylaw18.ConfRemarks'. -/
def confRemarksCard : Claim7 := { stood := { row := confRemarksRow, standIns := [], harness := (true, "f4975c7c0a994cde2ab747941d30682f129e877fc6f80a396c534d3a1011bacd"), looks := false }, kinds := [], alts := [], laidByText := true, laidKinds := [.data, .pinned], laidTests := true, laidLooks := .later }
def ConfRemarksCardSaid : Prop := Claim7.holds Tryd.pinned (.plain (OpenSpec.ofChange confRemarksSpec)) confRemarksCard

/-- THE TIED CARD OF 'distributarylaw20.StoreNobody'. -/
def storeNobodyCard : Claim7 := { stood := { row := storeNobodyRow, standIns := [], harness := (true, "f4975c7c0a994cde2ab747941d30682f129e877fc6f80a396c534d3a1011bacd"), looks := false }, kinds := [], alts := [], laidByText := true, laidKinds := [.data, .pinned], laidTests := true, laidLooks := .later }
def StoreNobodyCardSaid : Prop := Claim7.holds Tryd.pinned (.plain (OpenSpec.ofChange storeNobodySpec)) storeNobodyCard

/-- THE TIED CARD OF 'distributarylaw20.StoreRefuses'. -/
def storeRefusesCard : Claim7 := { stood := { row := storeRefusesRow, standIns := [], harness := (true, "f4975c7c0a994cde2ab747941d30682f129e877fc6f80a396c534d3a1011bacd"), looks := false }, kinds := [], alts := [], laidByText := true, laidKinds := [.data, .pinned], laidTests := true, laidLooks := .later }
def StoreRefusesCardSaid : Prop := Claim7.holds Tryd.pinned (.plain (OpenSpec.ofChange storeRefusesSpec)) storeRefusesCard

/-- THE SECOND FORM's CARD OF 'distributarylaw45.LimitFull'. -/
def limitFullUptoCard : Claim7 := { stood := { row := limitFullUptoRow, standIns := [], harness := (true, "f4975c7c0a994cde2ab747941d30682f129e877fc6f80a396c534d3a1011bacd"), looks := false }, kinds := [], alts := [], laidByText := true, laidKinds := [.data, .pinned], laidTests := true, laidLooks := .later }
def LimitFullUptoCardSaid : Prop := Claim7.holds Tryd.pinned (.plain (OpenSpec.upto limitFullSpec)) limitFullUptoCard

/-- THE SECOND FORM's CARD OF 'distributarylaw45.LimitNews'. -/
def limitNewsUptoCard : Claim7 := { stood := { row := limitNewsUptoRow, standIns := [], harness := (true, "f4975c7c0a994cde2ab747941d30682f129e877fc6f80a396c534d3a1011bacd"), looks := false }, kinds := [], alts := [], laidByText := true, laidKinds := [.data, .pinned], laidTests := true, laidLooks := .later }
def LimitNewsUptoCardSaid : Prop := Claim7.holds Tryd.pinned (.plain (OpenSpec.upto limitNewsSpec)) limitNewsUptoCard

/-- THE SECOND FORM's CARD OF 'distributarylaw45.LimitPlays'. -/
def limitPlaysUptoCard : Claim7 := { stood := { row := limitPlaysUptoRow, standIns := [], harness := (true, "f4975c7c0a994cde2ab747941d30682f129e877fc6f80a396c534d3a1011bacd"), looks := false }, kinds := [], alts := [], laidByText := true, laidKinds := [.data, .pinned], laidTests := true, laidLooks := .later }
def LimitPlaysUptoCardSaid : Prop := Claim7.holds Tryd.pinned (.plain (OpenSpec.upto limitPlaysSpec)) limitPlaysUptoCard

/-- THE SECOND FORM's CARD OF 'distributarylaw45.LimitShares'. -/
def limitSharesUptoCard : Claim7 := { stood := { row := limitSharesUptoRow, standIns := [], harness := (true, "f4975c7c0a994cde2ab747941d30682f129e877fc6f80a396c534d3a1011bacd"), looks := false }, kinds := [], alts := [], laidByText := true, laidKinds := [.data, .pinned], laidTests := true, laidLooks := .later }
def LimitSharesUptoCardSaid : Prop := Claim7.holds Tryd.pinned (.plain (OpenSpec.upto limitSharesSpec)) limitSharesUptoCard

/-- THE SECOND FORM's CARD OF 'distributarylaw18.ConfParses'. -/
def confParsesUptoCard : Claim7 := { stood := { row := confParsesUptoRow, standIns := [], harness := (true, "f4975c7c0a994cde2ab747941d30682f129e877fc6f80a396c534d3a1011bacd"), looks := false }, kinds := [], alts := [], laidByText := true, laidKinds := [.data, .pinned], laidTests := true, laidLooks := .later }
def ConfParsesUptoCardSaid : Prop := Claim7.holds Tryd.pinned (.plain (OpenSpec.upto confParsesSpec)) confParsesUptoCard

/-- THE SECOND FORM's CARD OF 'distributarylaw18.ConfRemarks'. -/
def confRemarksUptoCard : Claim7 := { stood := { row := confRemarksUptoRow, standIns := [], harness := (true, "f4975c7c0a994cde2ab747941d30682f129e877fc6f80a396c534d3a1011bacd"), looks := false }, kinds := [], alts := [], laidByText := true, laidKinds := [.data, .pinned], laidTests := true, laidLooks := .later }
def ConfRemarksUptoCardSaid : Prop := Claim7.holds Tryd.pinned (.plain (OpenSpec.upto confRemarksSpec)) confRemarksUptoCard

/-- THE SECOND FORM's CARD OF 'distributarylaw20.StoreNobody'. -/
def storeNobodyUptoCard : Claim7 := { stood := { row := storeNobodyUptoRow, standIns := [], harness := (true, "f4975c7c0a994cde2ab747941d30682f129e877fc6f80a396c534d3a1011bacd"), looks := false }, kinds := [], alts := [], laidByText := true, laidKinds := [.data, .pinned], laidTests := true, laidLooks := .later }
def StoreNobodyUptoCardSaid : Prop := Claim7.holds Tryd.pinned (.plain (OpenSpec.upto storeNobodySpec)) storeNobodyUptoCard

/-- THE SECOND FORM's CARD OF 'distributarylaw20.StoreRefuses'. -/
def storeRefusesUptoCard : Claim7 := { stood := { row := storeRefusesUptoRow, standIns := [], harness := (true, "f4975c7c0a994cde2ab747941d30682f129e877fc6f80a396c534d3a1011bacd"), looks := false }, kinds := [], alts := [], laidByText := true, laidKinds := [.data, .pinned], laidTests := true, laidLooks := .later }
def StoreRefusesUptoCardSaid : Prop := Claim7.holds Tryd.pinned (.plain (OpenSpec.upto storeRefusesSpec)) storeRefusesUptoCard
end Rows
end Go.Proofs.YtbcicbiphgeghaaDoor
