/-
  DERIVED. GIVEN WITH THE SEED: THE CARDS: each row of YtccmbnaakdffaaaDoorRows.lean that lists a variable, with what it lists TIED to the program's text (the seventh form; the later family's looks); each row that meets fmt, with fmt's text TOLD by the authors' own Lean function (tested against real Go, not proved from fmt's source: count such statements apart). THE CARD IS WHAT COUNTS. Prove the row's statement (the work); the ties are given (YtccmbnaakdffaaaDoorTie.lean); close each card by the builder's one call (the guide's Derived/Test/ToyasCard.lean, 'card_holds'). Laid BY PROGRAM, IN A SANDBOX (cutbox-door.mjs). By AI agents, Wed Nov 11 2026. No macro, syntax, notation, axiom, sorry.
-/
import Derived.Test.YtccmbnaakdffaaaDoorRows
import GoSem.ClaimSeven
namespace Go.Proofs.YtccmbnaakdffaaaDoor
namespace Rows

/-- THE TIED CARD OF 'distributarylaw05.AddrParses'. -/
def addrParsesCard : Claim7 := { stood := { row := addrParsesRow, standIns := [], harness := (true, "33059ae32647840d910dedc8cf651d4f72f2057bfef8bf10fe5814f62e04c3f7"), looks := false }, kinds := [], alts := [], laidByText := true, laidKinds := [.data, .pinned], laidTests := true, laidLooks := .later }
def AddrParsesCardSaid : Prop := Claim7.holds Tryd.pinned (.plain (OpenSpec.ofChange addrParsesSpec)) addrParsesCard

/-- THE TIED CARD OF 'distributarylaw05.AddrTexts'. -/
def addrTextsCard : Claim7 := { stood := { row := addrTextsRow, standIns := [], harness := (true, "33059ae32647840d910dedc8cf651d4f72f2057bfef8bf10fe5814f62e04c3f7"), looks := false }, kinds := [], alts := [], laidByText := true, laidKinds := [.data, .pinned], laidTests := true, laidLooks := .later }
def AddrTextsCardSaid : Prop := Claim7.holds Tryd.pinned (.plain (OpenSpec.ofChange addrTextsSpec)) addrTextsCard

/-- THE TIED CARD OF 'distributarylaw05.AddrOrders'. -/
def addrOrdersCard : Claim7 := { stood := { row := addrOrdersRow, standIns := [], harness := (true, "33059ae32647840d910dedc8cf651d4f72f2057bfef8bf10fe5814f62e04c3f7"), looks := false }, kinds := [], alts := [], laidByText := true, laidKinds := [.data, .pinned], laidTests := true, laidLooks := .later }
def AddrOrdersCardSaid : Prop := Claim7.holds Tryd.pinned (.plain (OpenSpec.ofChange addrOrdersSpec)) addrOrdersCard

/-- THE TIED CARD OF 'distributarylaw05.AddrBytes'. -/
def addrBytesCard : Claim7 := { stood := { row := addrBytesRow, standIns := [], harness := (true, "33059ae32647840d910dedc8cf651d4f72f2057bfef8bf10fe5814f62e04c3f7"), looks := false }, kinds := [], alts := [], laidByText := true, laidKinds := [.data, .pinned], laidTests := true, laidLooks := .later }
def AddrBytesCardSaid : Prop := Claim7.holds Tryd.pinned (.plain (OpenSpec.ofChange addrBytesSpec)) addrBytesCard

/-- THE TIED CARD OF 'distributarylaw06.PfxTexts'. -/
def pfxTextsCard : Claim7 := { stood := { row := pfxTextsRow, standIns := [], harness := (true, "33059ae32647840d910dedc8cf651d4f72f2057bfef8bf10fe5814f62e04c3f7"), looks := false }, kinds := [], alts := [], laidByText := true, laidKinds := [.data, .pinned], laidTests := true, laidLooks := .later }
def PfxTextsCardSaid : Prop := Claim7.holds Tryd.pinned (.plain (OpenSpec.ofChange pfxTextsSpec)) pfxTextsCard

/-- THE TIED CARD OF 'distributarylaw06.PfxMasks'. -/
def pfxMasksCard : Claim7 := { stood := { row := pfxMasksRow, standIns := [], harness := (true, "33059ae32647840d910dedc8cf651d4f72f2057bfef8bf10fe5814f62e04c3f7"), looks := false }, kinds := [], alts := [], laidByText := true, laidKinds := [.data, .pinned], laidTests := true, laidLooks := .later }
def PfxMasksCardSaid : Prop := Claim7.holds Tryd.pinned (.plain (OpenSpec.ofChange pfxMasksSpec)) pfxMasksCard

/-- THE TIED CARD OF 'distributarylaw06.PfxFinds'. -/
def pfxFindsCard : Claim7 := { stood := { row := pfxFindsRow, standIns := [], harness := (true, "33059ae32647840d910dedc8cf651d4f72f2057bfef8bf10fe5814f62e04c3f7"), looks := false }, kinds := [], alts := [], laidByText := true, laidKinds := [.data, .pinned], laidTests := true, laidLooks := .later }
def PfxFindsCardSaid : Prop := Claim7.holds Tryd.pinned (.plain (OpenSpec.ofChange pfxFindsSpec)) pfxFindsCard

/-- THE TIED CARD OF 'distributarylaw06.PfxSorts'. -/
def pfxSortsCard : Claim7 := { stood := { row := pfxSortsRow, standIns := [], harness := (true, "33059ae32647840d910dedc8cf651d4f72f2057bfef8bf10fe5814f62e04c3f7"), looks := false }, kinds := [], alts := [], laidByText := true, laidKinds := [.data, .pinned], laidTests := true, laidLooks := .later }
def PfxSortsCardSaid : Prop := Claim7.holds Tryd.pinned (.plain (OpenSpec.ofChange pfxSortsSpec)) pfxSortsCard

/-- THE SECOND FORM's CARD OF 'distributarylaw05.AddrParses'. -/
def addrParsesUptoCard : Claim7 := { stood := { row := addrParsesUptoRow, standIns := [], harness := (true, "33059ae32647840d910dedc8cf651d4f72f2057bfef8bf10fe5814f62e04c3f7"), looks := false }, kinds := [], alts := [], laidByText := true, laidKinds := [.data, .pinned], laidTests := true, laidLooks := .later }
def AddrParsesUptoCardSaid : Prop := Claim7.holds Tryd.pinned (.plain (OpenSpec.upto addrParsesSpec)) addrParsesUptoCard

/-- THE SECOND FORM's CARD OF 'distributarylaw05.AddrTexts'. -/
def addrTextsUptoCard : Claim7 := { stood := { row := addrTextsUptoRow, standIns := [], harness := (true, "33059ae32647840d910dedc8cf651d4f72f2057bfef8bf10fe5814f62e04c3f7"), looks := false }, kinds := [], alts := [], laidByText := true, laidKinds := [.data, .pinned], laidTests := true, laidLooks := .later }
def AddrTextsUptoCardSaid : Prop := Claim7.holds Tryd.pinned (.plain (OpenSpec.upto addrTextsSpec)) addrTextsUptoCard

/-- THE SECOND FORM's CARD OF 'distributarylaw05.AddrOrders'. -/
def addrOrdersUptoCard : Claim7 := { stood := { row := addrOrdersUptoRow, standIns := [], harness := (true, "33059ae32647840d910dedc8cf651d4f72f2057bfef8bf10fe5814f62e04c3f7"), looks := false }, kinds := [], alts := [], laidByText := true, laidKinds := [.data, .pinned], laidTests := true, laidLooks := .later }
def AddrOrdersUptoCardSaid : Prop := Claim7.holds Tryd.pinned (.plain (OpenSpec.upto addrOrdersSpec)) addrOrdersUptoCard

/-- THE SECOND FORM's CARD OF 'distributarylaw05.AddrBytes'. -/
def addrBytesUptoCard : Claim7 := { stood := { row := addrBytesUptoRow, standIns := [], harness := (true, "33059ae32647840d910dedc8cf651d4f72f2057bfef8bf10fe5814f62e04c3f7"), looks := false }, kinds := [], alts := [], laidByText := true, laidKinds := [.data, .pinned], laidTests := true, laidLooks := .later }
def AddrBytesUptoCardSaid : Prop := Claim7.holds Tryd.pinned (.plain (OpenSpec.upto addrBytesSpec)) addrBytesUptoCard

/-- THE SECOND FORM's CARD OF 'distributarylaw06.PfxTexts'. -/
def pfxTextsUptoCard : Claim7 := { stood := { row := pfxTextsUptoRow, standIns := [], harness := (true, "33059ae32647840d910dedc8cf651d4f72f2057bfef8bf10fe5814f62e04c3f7"), looks := false }, kinds := [], alts := [], laidByText := true, laidKinds := [.data, .pinned], laidTests := true, laidLooks := .later }
def PfxTextsUptoCardSaid : Prop := Claim7.holds Tryd.pinned (.plain (OpenSpec.upto pfxTextsSpec)) pfxTextsUptoCard

/-- THE SECOND FORM's CARD OF 'distributarylaw06.PfxMasks'. -/
def pfxMasksUptoCard : Claim7 := { stood := { row := pfxMasksUptoRow, standIns := [], harness := (true, "33059ae32647840d910dedc8cf651d4f72f2057bfef8bf10fe5814f62e04c3f7"), looks := false }, kinds := [], alts := [], laidByText := true, laidKinds := [.data, .pinned], laidTests := true, laidLooks := .later }
def PfxMasksUptoCardSaid : Prop := Claim7.holds Tryd.pinned (.plain (OpenSpec.upto pfxMasksSpec)) pfxMasksUptoCard

/-- THE SECOND FORM's CARD OF 'distributarylaw06.PfxFinds'. -/
def pfxFindsUptoCard : Claim7 := { stood := { row := pfxFindsUptoRow, standIns := [], harness := (true, "33059ae32647840d910dedc8cf651d4f72f2057bfef8bf10fe5814f62e04c3f7"), looks := false }, kinds := [], alts := [], laidByText := true, laidKinds := [.data, .pinned], laidTests := true, laidLooks := .later }
def PfxFindsUptoCardSaid : Prop := Claim7.holds Tryd.pinned (.plain (OpenSpec.upto pfxFindsSpec)) pfxFindsUptoCard

/-- THE SECOND FORM's CARD OF 'distributarylaw06.PfxSorts'. -/
def pfxSortsUptoCard : Claim7 := { stood := { row := pfxSortsUptoRow, standIns := [], harness := (true, "33059ae32647840d910dedc8cf651d4f72f2057bfef8bf10fe5814f62e04c3f7"), looks := false }, kinds := [], alts := [], laidByText := true, laidKinds := [.data, .pinned], laidTests := true, laidLooks := .later }
def PfxSortsUptoCardSaid : Prop := Claim7.holds Tryd.pinned (.plain (OpenSpec.upto pfxSortsSpec)) pfxSortsUptoCard
end Rows
end Go.Proofs.YtccmbnaakdffaaaDoor
