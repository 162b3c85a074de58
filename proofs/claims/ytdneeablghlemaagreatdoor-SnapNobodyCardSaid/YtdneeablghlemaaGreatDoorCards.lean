/-
  DERIVED. GIVEN WITH THE SEED: THE CARDS: each row of YtdneeablghlemaaGreatDoorRows.lean that lists a variable, with what it lists TIED to the program's text (the seventh form; the later family's looks); each row that meets fmt, with fmt's text TOLD by the authors' own Lean function (tested against real Go, not proved from fmt's source: count such statements apart). THE CARD IS WHAT COUNTS. Prove the row's statement (the work); the ties are given (YtdneeablghlemaaGreatDoorTie.lean); close each card by the builder's one call (the guide's Derived/Test/ToyasCard.lean, 'card_holds'). Laid BY PROGRAM, IN A SANDBOX (cutbox-door.mjs). By AI agents, Wed Nov 11 2026. No macro, syntax, notation, axiom, sorry.
-/
import Derived.Test.YtdneeablghlemaaGreatDoorRows
import GoSem.ClaimSeven
namespace Go.Proofs.YtdneeablghlemaaGreatDoor
namespace Rows

/-- THE TIED CARD OF 'distributarylaw44.SnapNobody'. -/
def snapNobodyCard : Claim7 := { stood := { row := snapNobodyRow, standIns := [], harness := (true, "fe441f3f55b03ce922c110a9a261b827aca11e49a0d55d8979bbc78d24f7d75b"), looks := false }, kinds := [], alts := [], laidByText := true, laidKinds := [.data, .pinned], laidTests := true, laidLooks := .later }
def SnapNobodyCardSaid : Prop := Claim7.holds Tryz.pinned (.plain (OpenSpec.ofChange snapNobodySpec)) snapNobodyCard

/-- THE TIED CARD OF 'distributarylaw40.AuditNobody'. -/
def auditNobodyCard : Claim7 := { stood := { row := auditNobodyRow, standIns := [], harness := (true, "fe441f3f55b03ce922c110a9a261b827aca11e49a0d55d8979bbc78d24f7d75b"), looks := false }, kinds := [], alts := [], laidByText := true, laidKinds := [.data, .pinned], laidTests := true, laidLooks := .later }
def AuditNobodyCardSaid : Prop := Claim7.holds Tryz.pinned (.plain (OpenSpec.ofChange auditNobodySpec)) auditNobodyCard

/-- THE SECOND FORM's CARD OF 'distributarylaw44.SnapNobody'. -/
def snapNobodyUptoCard : Claim7 := { stood := { row := snapNobodyUptoRow, standIns := [], harness := (true, "fe441f3f55b03ce922c110a9a261b827aca11e49a0d55d8979bbc78d24f7d75b"), looks := false }, kinds := [], alts := [], laidByText := true, laidKinds := [.data, .pinned], laidTests := true, laidLooks := .later }
def SnapNobodyUptoCardSaid : Prop := Claim7.holds Tryz.pinned (.plain (OpenSpec.upto snapNobodySpec)) snapNobodyUptoCard

/-- THE SECOND FORM's CARD OF 'distributarylaw40.AuditNobody'. -/
def auditNobodyUptoCard : Claim7 := { stood := { row := auditNobodyUptoRow, standIns := [], harness := (true, "fe441f3f55b03ce922c110a9a261b827aca11e49a0d55d8979bbc78d24f7d75b"), looks := false }, kinds := [], alts := [], laidByText := true, laidKinds := [.data, .pinned], laidTests := true, laidLooks := .later }
def AuditNobodyUptoCardSaid : Prop := Claim7.holds Tryz.pinned (.plain (OpenSpec.upto auditNobodySpec)) auditNobodyUptoCard
end Rows
end Go.Proofs.YtdneeablghlemaaGreatDoor
