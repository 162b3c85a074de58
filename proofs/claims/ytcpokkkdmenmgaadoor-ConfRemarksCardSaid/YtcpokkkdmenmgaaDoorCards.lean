/-
  DERIVED. GIVEN WITH THE SEED: THE CARDS: each row of YtcpokkkdmenmgaaDoorRows.lean that lists a variable, with what it lists TIED to the program's text (the seventh form; the later family's looks); each row that meets fmt, with fmt's text TOLD by the authors' own Lean function (tested against real Go, not proved from fmt's source: count such statements apart). THE CARD IS WHAT COUNTS. Prove the row's statement (the work); the ties are given (YtcpokkkdmenmgaaDoorTie.lean); close each card by the builder's one call (the guide's Derived/Test/ToyasCard.lean, 'card_holds'). Laid BY PROGRAM, IN A SANDBOX (cutbox-door.mjs). By AI agents, Wed Nov 11 2026. No macro, syntax, notation, axiom, sorry.
-/
import Derived.Test.YtcpokkkdmenmgaaDoorRows
import GoSem.ClaimSeven
namespace Go.Proofs.YtcpokkkdmenmgaaDoor
namespace Rows

/-- THE TIED CARD OF 'distributarylaw18.ConfRemarks'. -/
def confRemarksCard : Claim7 := { stood := { row := confRemarksRow, standIns := [], harness := (true, "c4970d1aa56c1cc6fba227822e21455acf58e8d4962d3a69b072fd4dd8561484"), looks := false }, kinds := [], alts := [], laidByText := true, laidKinds := [.data, .pinned], laidTests := true, laidLooks := .later }
def ConfRemarksCardSaid : Prop := Claim7.holds Tryd.pinned (.plain (OpenSpec.ofChange confRemarksSpec)) confRemarksCard

/-- THE TIED CARD OF 'distributarylaw20.StoreNobody'. -/
def storeNobodyCard : Claim7 := { stood := { row := storeNobodyRow, standIns := [], harness := (true, "c4970d1aa56c1cc6fba227822e21455acf58e8d4962d3a69b072fd4dd8561484"), looks := false }, kinds := [], alts := [], laidByText := true, laidKinds := [.data, .pinned], laidTests := true, laidLooks := .later }
def StoreNobodyCardSaid : Prop := Claim7.holds Tryd.pinned (.plain (OpenSpec.ofChange storeNobodySpec)) storeNobodyCard

/-- THE TIED CARD OF 'distributarylaw20.StoreRefuses'. -/
def storeRefusesCard : Claim7 := { stood := { row := storeRefusesRow, standIns := [], harness := (true, "c4970d1aa56c1cc6fba227822e21455acf58e8d4962d3a69b072fd4dd8561484"), looks := false }, kinds := [], alts := [], laidByText := true, laidKinds := [.data, .pinned], laidTests := true, laidLooks := .later }
def StoreRefusesCardSaid : Prop := Claim7.holds Tryd.pinned (.plain (OpenSpec.ofChange storeRefusesSpec)) storeRefusesCard

/-- THE SECOND FORM's CARD OF 'distributarylaw18.ConfRemarks'. -/
def confRemarksUptoCard : Claim7 := { stood := { row := confRemarksUptoRow, standIns := [], harness := (true, "c4970d1aa56c1cc6fba227822e21455acf58e8d4962d3a69b072fd4dd8561484"), looks := false }, kinds := [], alts := [], laidByText := true, laidKinds := [.data, .pinned], laidTests := true, laidLooks := .later }
def ConfRemarksUptoCardSaid : Prop := Claim7.holds Tryd.pinned (.plain (OpenSpec.upto confRemarksSpec)) confRemarksUptoCard

/-- THE SECOND FORM's CARD OF 'distributarylaw20.StoreNobody'. -/
def storeNobodyUptoCard : Claim7 := { stood := { row := storeNobodyUptoRow, standIns := [], harness := (true, "c4970d1aa56c1cc6fba227822e21455acf58e8d4962d3a69b072fd4dd8561484"), looks := false }, kinds := [], alts := [], laidByText := true, laidKinds := [.data, .pinned], laidTests := true, laidLooks := .later }
def StoreNobodyUptoCardSaid : Prop := Claim7.holds Tryd.pinned (.plain (OpenSpec.upto storeNobodySpec)) storeNobodyUptoCard

/-- THE SECOND FORM's CARD OF 'distributarylaw20.StoreRefuses'. -/
def storeRefusesUptoCard : Claim7 := { stood := { row := storeRefusesUptoRow, standIns := [], harness := (true, "c4970d1aa56c1cc6fba227822e21455acf58e8d4962d3a69b072fd4dd8561484"), looks := false }, kinds := [], alts := [], laidByText := true, laidKinds := [.data, .pinned], laidTests := true, laidLooks := .later }
def StoreRefusesUptoCardSaid : Prop := Claim7.holds Tryd.pinned (.plain (OpenSpec.upto storeRefusesSpec)) storeRefusesUptoCard
end Rows
end Go.Proofs.YtcpokkkdmenmgaaDoor
