/-
  No cell of these rows narrows 'for every input' (looked for: loops, veiled, ifaces, maps, wideKeys, modest, calm, conditions, laid).
  DERIVED. THE GIVEN ROWS OF THIS SEAT. 7 by the template 'for every input the law returns true; each argument reads behind the call as it read before'; 0 by the template 'total and deterministic' (their statements: YtfmmmjaficbchaaTotals.lean).
  GIVEN WITH THE SEED: the statements are not yours to turn. If you find one false, say at which input.
  Laid BY PROGRAM, IN A SANDBOX (cutbox-rows.mjs): the forced cells as the released guide's own fill.sh prints them over the translation 5fad26f721d48763… (all of the seat's roots in one cut). By AI agents, Wed Nov 11 2026. No macro, syntax, notation, axiom, sorry.
-/
import Derived.Test.YtfmmmjaficbchaaChecked
import GoSem.Claim
import GoSem.ClaimJoined
import GoSem.ClaimMapViews
import Derived.JoinedTies
import Derived.KernelRfl
namespace Go.Proofs.Ytfmmmjaficbchaa
/- THE CELL 'sum', in the pinned program and in every row, IS THE sha256 OF THE DUMP (.gsa) THAT YtfmmmjaficbchaaProg.lean LOADS. Nothing in Lean hashes anything: it is a label: what it is worth is what the hold of that sum in a sandbox is worth. -/
noncomputable def Try.pinned : Pinned := { name := "ytfmmmjaficbchaa", sum := "5fad26f721d48763f77b3d73fdb3a4b7439d3f67bca3e303cc91ecaf24d1eb54", checked := Try.checked }
namespace Rows
def none {H : Type} : Left H := { results := [], args := [] }

/-- 'distributarylaw15.NatTurns': WHATEVER THE INPUT: true; the input reads as it did. -/
def natTurnsSpec : ChangeSpec := { name := "natTurns", fn := fun _ => fun
  | [d1, d2, d3, d4] => { results := [.lit (.bool true)], args := [d1, d2, d3, d4] }
  | _ => none }
def natTurnsRow : OpenClaim := { program := "ytfmmmjaficbchaa", sum := "5fad26f721d48763f77b3d73fdb3a4b7439d3f67bca3e303cc91ecaf24d1eb54", func := "distributary/distributarylaw15.NatTurns", spec := "natTurns", unfollowed := true, recurses := true, apart := false }
def NatTurnsSaid : Prop := natTurnsRow.holds Try.pinned (OpenSpec.ofChange natTurnsSpec)

/-- ITS FALSE NEIGHBOUR: 'it returns false'. Refute it at one input. -/
def natTurnsWrong : ChangeSpec := { name := "natTurns", fn := fun _ => fun
  | [d1, d2, d3, d4] => { results := [.lit (.bool false)], args := [d1, d2, d3, d4] }
  | _ => none }
def NatTurnsWrongFalsely : Prop := natTurnsRow.holds Try.pinned (OpenSpec.ofChange natTurnsWrong)

/-- 'distributarylaw15.NatBare': WHATEVER THE INPUT: true; the input reads as it did. -/
def natBareSpec : ChangeSpec := { name := "natBare", fn := fun _ => fun
  | [d1, d2, d3, d4] => { results := [.lit (.bool true)], args := [d1, d2, d3, d4] }
  | _ => none }
def natBareRow : OpenClaim := { program := "ytfmmmjaficbchaa", sum := "5fad26f721d48763f77b3d73fdb3a4b7439d3f67bca3e303cc91ecaf24d1eb54", func := "distributary/distributarylaw15.NatBare", spec := "natBare", unfollowed := true, recurses := true, apart := false }
def NatBareSaid : Prop := natBareRow.holds Try.pinned (OpenSpec.ofChange natBareSpec)

/-- ITS FALSE NEIGHBOUR: 'it returns false'. Refute it at one input. -/
def natBareWrong : ChangeSpec := { name := "natBare", fn := fun _ => fun
  | [d1, d2, d3, d4] => { results := [.lit (.bool false)], args := [d1, d2, d3, d4] }
  | _ => none }
def NatBareWrongFalsely : Prop := natBareRow.holds Try.pinned (OpenSpec.ofChange natBareWrong)

/-- 'distributarylaw15.NatFlows': WHATEVER THE INPUT: true; the input reads as it did. -/
def natFlowsSpec : ChangeSpec := { name := "natFlows", fn := fun _ => fun
  | [d1, d2, d3, d4] => { results := [.lit (.bool true)], args := [d1, d2, d3, d4] }
  | _ => none }
def natFlowsRow : OpenClaim := { program := "ytfmmmjaficbchaa", sum := "5fad26f721d48763f77b3d73fdb3a4b7439d3f67bca3e303cc91ecaf24d1eb54", func := "distributary/distributarylaw15.NatFlows", spec := "natFlows", unfollowed := true, recurses := true, apart := false }
def NatFlowsSaid : Prop := natFlowsRow.holds Try.pinned (OpenSpec.ofChange natFlowsSpec)

/-- ITS FALSE NEIGHBOUR: 'it returns false'. Refute it at one input. -/
def natFlowsWrong : ChangeSpec := { name := "natFlows", fn := fun _ => fun
  | [d1, d2, d3, d4] => { results := [.lit (.bool false)], args := [d1, d2, d3, d4] }
  | _ => none }
def NatFlowsWrongFalsely : Prop := natFlowsRow.holds Try.pinned (OpenSpec.ofChange natFlowsWrong)

/-- 'distributarylaw15.NatKeeps': WHATEVER THE INPUT: true; the input reads as it did. -/
def natKeepsSpec : ChangeSpec := { name := "natKeeps", fn := fun _ => fun
  | [d1, d2, d3, d4, d5, d6] => { results := [.lit (.bool true)], args := [d1, d2, d3, d4, d5, d6] }
  | _ => none }
def natKeepsRow : OpenClaim := { program := "ytfmmmjaficbchaa", sum := "5fad26f721d48763f77b3d73fdb3a4b7439d3f67bca3e303cc91ecaf24d1eb54", func := "distributary/distributarylaw15.NatKeeps", spec := "natKeeps", unfollowed := true, recurses := true, apart := false }
def NatKeepsSaid : Prop := natKeepsRow.holds Try.pinned (OpenSpec.ofChange natKeepsSpec)

/-- ITS FALSE NEIGHBOUR: 'it returns false'. Refute it at one input. -/
def natKeepsWrong : ChangeSpec := { name := "natKeeps", fn := fun _ => fun
  | [d1, d2, d3, d4, d5, d6] => { results := [.lit (.bool false)], args := [d1, d2, d3, d4, d5, d6] }
  | _ => none }
def NatKeepsWrongFalsely : Prop := natKeepsRow.holds Try.pinned (OpenSpec.ofChange natKeepsWrong)

/-- 'distributarylaw35.GenPackets': WHATEVER THE INPUT: true; the input reads as it did. -/
def genPacketsSpec : ChangeSpec := { name := "genPackets", fn := fun _ => fun
  | [d1, d2] => { results := [.lit (.bool true)], args := [d1, d2] }
  | _ => none }
def genPacketsRow : OpenClaim := { program := "ytfmmmjaficbchaa", sum := "5fad26f721d48763f77b3d73fdb3a4b7439d3f67bca3e303cc91ecaf24d1eb54", func := "distributary/distributarylaw35.GenPackets", spec := "genPackets", unfollowed := true, recurses := true, apart := false }
def GenPacketsSaid : Prop := genPacketsRow.holds Try.pinned (OpenSpec.ofChange genPacketsSpec)

/-- ITS FALSE NEIGHBOUR: 'it returns false'. Refute it at one input. -/
def genPacketsWrong : ChangeSpec := { name := "genPackets", fn := fun _ => fun
  | [d1, d2] => { results := [.lit (.bool false)], args := [d1, d2] }
  | _ => none }
def GenPacketsWrongFalsely : Prop := genPacketsRow.holds Try.pinned (OpenSpec.ofChange genPacketsWrong)

/-- 'distributarylaw35.GenFlows': WHATEVER THE INPUT: true; the input reads as it did. -/
def genFlowsSpec : ChangeSpec := { name := "genFlows", fn := fun _ => fun
  | [d1, d2] => { results := [.lit (.bool true)], args := [d1, d2] }
  | _ => none }
def genFlowsRow : OpenClaim := { program := "ytfmmmjaficbchaa", sum := "5fad26f721d48763f77b3d73fdb3a4b7439d3f67bca3e303cc91ecaf24d1eb54", func := "distributary/distributarylaw35.GenFlows", spec := "genFlows", unfollowed := true, recurses := true, apart := false }
def GenFlowsSaid : Prop := genFlowsRow.holds Try.pinned (OpenSpec.ofChange genFlowsSpec)

/-- ITS FALSE NEIGHBOUR: 'it returns false'. Refute it at one input. -/
def genFlowsWrong : ChangeSpec := { name := "genFlows", fn := fun _ => fun
  | [d1, d2] => { results := [.lit (.bool false)], args := [d1, d2] }
  | _ => none }
def GenFlowsWrongFalsely : Prop := genFlowsRow.holds Try.pinned (OpenSpec.ofChange genFlowsWrong)

/-- 'distributarylaw35.GenTakes': WHATEVER THE INPUT: true; the input reads as it did. -/
def genTakesSpec : ChangeSpec := { name := "genTakes", fn := fun _ => fun
  | [d1, d2] => { results := [.lit (.bool true)], args := [d1, d2] }
  | _ => none }
def genTakesRow : OpenClaim := { program := "ytfmmmjaficbchaa", sum := "5fad26f721d48763f77b3d73fdb3a4b7439d3f67bca3e303cc91ecaf24d1eb54", func := "distributary/distributarylaw35.GenTakes", spec := "genTakes", unfollowed := true, recurses := true, apart := false }
def GenTakesSaid : Prop := genTakesRow.holds Try.pinned (OpenSpec.ofChange genTakesSpec)

/-- ITS FALSE NEIGHBOUR: 'it returns false'. Refute it at one input. -/
def genTakesWrong : ChangeSpec := { name := "genTakes", fn := fun _ => fun
  | [d1, d2] => { results := [.lit (.bool false)], args := [d1, d2] }
  | _ => none }
def GenTakesWrongFalsely : Prop := genTakesRow.holds Try.pinned (OpenSpec.ofChange genTakesWrong)

/- THE SECOND FORM. 'bulk': how many values and letters a reading holds, each counted each time it is reached (what is shared counts as often as it is met; a slice's spare places count too). A statement '..UptoSaid' is the law's where the arguments, and the package variables that the reading takes, are together of bulk at most 1048576: NARROWER than '..Said'. Prove '..Said' where nothing that the law and all that it calls make is longer than what came in: it says more and counts as full. Else prove '..UptoSaid'. A law counts once. -/
mutual
def uptoBulk {H : Type} : DataW H → Nat
  | .lit (.string bytes) => bytes.length + 1
  | .lit _ => 1
  | .nil => 1
  | .ptr d => uptoBulk d + 1
  | .slice elems spare => uptoBulkAll elems + uptoBulkAll spare + 1
  | .agg parts => uptoBulkAll parts + 1
  | .iface _ d => uptoBulk d + 1
  | .map entries => uptoBulkEntries entries + 1
  | .held _ => 1
def uptoBulkAll {H : Type} : List (DataW H) → Nat
  | [] => 0
  | d :: r => uptoBulk d + uptoBulkAll r
def uptoBulkEntries {H : Type} : List (Lit × DataW H) → Nat
  | [] => 0
  | x :: r => uptoBulkEntry x + uptoBulkEntries r
def uptoBulkEntry {H : Type} : Lit × DataW H → Nat
  | (.string bytes, d) => bytes.length + uptoBulk d + 1
  | (_, d) => uptoBulk d + 1
 end
def uptoSmall : (H : Type) → List (DataW H) → Bool := fun _ ds => decide (uptoBulkAll ds ≤ 1048576)
def OpenSpec.upto (s : _root_.Go.ChangeSpec) : _root_.Go.OpenSpec := { _root_.Go.OpenSpec.ofChange s with cond := some uptoSmall }

/-- 'distributarylaw15.NatTurns', WHERE WHAT IT READS IS OF BULK AT MOST 1048576: true; the input reads as it did. -/
def natTurnsUptoRow : OpenClaim := { program := "ytfmmmjaficbchaa", sum := "5fad26f721d48763f77b3d73fdb3a4b7439d3f67bca3e303cc91ecaf24d1eb54", func := "distributary/distributarylaw15.NatTurns", spec := "natTurns", unfollowed := true, recurses := true, apart := false, narrowed := true }
def NatTurnsUptoSaid : Prop := natTurnsUptoRow.holds Try.pinned (OpenSpec.upto natTurnsSpec)

/-- 'distributarylaw15.NatBare', WHERE WHAT IT READS IS OF BULK AT MOST 1048576: true; the input reads as it did. -/
def natBareUptoRow : OpenClaim := { program := "ytfmmmjaficbchaa", sum := "5fad26f721d48763f77b3d73fdb3a4b7439d3f67bca3e303cc91ecaf24d1eb54", func := "distributary/distributarylaw15.NatBare", spec := "natBare", unfollowed := true, recurses := true, apart := false, narrowed := true }
def NatBareUptoSaid : Prop := natBareUptoRow.holds Try.pinned (OpenSpec.upto natBareSpec)

/-- 'distributarylaw15.NatFlows', WHERE WHAT IT READS IS OF BULK AT MOST 1048576: true; the input reads as it did. -/
def natFlowsUptoRow : OpenClaim := { program := "ytfmmmjaficbchaa", sum := "5fad26f721d48763f77b3d73fdb3a4b7439d3f67bca3e303cc91ecaf24d1eb54", func := "distributary/distributarylaw15.NatFlows", spec := "natFlows", unfollowed := true, recurses := true, apart := false, narrowed := true }
def NatFlowsUptoSaid : Prop := natFlowsUptoRow.holds Try.pinned (OpenSpec.upto natFlowsSpec)

/-- 'distributarylaw15.NatKeeps', WHERE WHAT IT READS IS OF BULK AT MOST 1048576: true; the input reads as it did. -/
def natKeepsUptoRow : OpenClaim := { program := "ytfmmmjaficbchaa", sum := "5fad26f721d48763f77b3d73fdb3a4b7439d3f67bca3e303cc91ecaf24d1eb54", func := "distributary/distributarylaw15.NatKeeps", spec := "natKeeps", unfollowed := true, recurses := true, apart := false, narrowed := true }
def NatKeepsUptoSaid : Prop := natKeepsUptoRow.holds Try.pinned (OpenSpec.upto natKeepsSpec)

/-- 'distributarylaw35.GenPackets', WHERE WHAT IT READS IS OF BULK AT MOST 1048576: true; the input reads as it did. -/
def genPacketsUptoRow : OpenClaim := { program := "ytfmmmjaficbchaa", sum := "5fad26f721d48763f77b3d73fdb3a4b7439d3f67bca3e303cc91ecaf24d1eb54", func := "distributary/distributarylaw35.GenPackets", spec := "genPackets", unfollowed := true, recurses := true, apart := false, narrowed := true }
def GenPacketsUptoSaid : Prop := genPacketsUptoRow.holds Try.pinned (OpenSpec.upto genPacketsSpec)

/-- 'distributarylaw35.GenFlows', WHERE WHAT IT READS IS OF BULK AT MOST 1048576: true; the input reads as it did. -/
def genFlowsUptoRow : OpenClaim := { program := "ytfmmmjaficbchaa", sum := "5fad26f721d48763f77b3d73fdb3a4b7439d3f67bca3e303cc91ecaf24d1eb54", func := "distributary/distributarylaw35.GenFlows", spec := "genFlows", unfollowed := true, recurses := true, apart := false, narrowed := true }
def GenFlowsUptoSaid : Prop := genFlowsUptoRow.holds Try.pinned (OpenSpec.upto genFlowsSpec)

/-- 'distributarylaw35.GenTakes', WHERE WHAT IT READS IS OF BULK AT MOST 1048576: true; the input reads as it did. -/
def genTakesUptoRow : OpenClaim := { program := "ytfmmmjaficbchaa", sum := "5fad26f721d48763f77b3d73fdb3a4b7439d3f67bca3e303cc91ecaf24d1eb54", func := "distributary/distributarylaw35.GenTakes", spec := "genTakes", unfollowed := true, recurses := true, apart := false, narrowed := true }
def GenTakesUptoSaid : Prop := genTakesUptoRow.holds Try.pinned (OpenSpec.upto genTakesSpec)

end Rows
end Go.Proofs.Ytfmmmjaficbchaa
