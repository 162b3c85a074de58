/-
  NARROWER THAN 'FOR EVERY INPUT', by the rows' own cells (each row's printed sentence says how): AddrParses: laid · AddrTexts: laid · AddrOrders: laid · AddrBytes: laid · PfxTexts: laid · PfxMasks: laid · PfxFinds: laid · PfxSorts: laid.
  DERIVED. THE GIVEN ROWS OF THIS SEAT. 8 by the template 'for every input the law returns true; each argument reads behind the call as it read before'; 0 by the template 'total and deterministic' (their statements: YtccmbnaakdffaaaDoorTotals.lean).
  GIVEN WITH THE SEED: the statements are not yours to turn. If you find one false, say at which input.
  Laid BY PROGRAM, IN A SANDBOX (cutbox-rows.mjs): the forced cells as the released guide's own fill.sh prints them over the translation 0dcb9aa4e9f5603b… (all of the seat's roots in one cut). By AI agents, Wed Nov 11 2026. No macro, syntax, notation, axiom, sorry.
-/
import Derived.Test.YtccmbnaakdffaaaDoorChecked
import GoSem.PinnedTables
import GoSem.Claim
import GoSem.ClaimJoined
import GoSem.ClaimMapViews
import Derived.JoinedTies
import Derived.KernelRfl
namespace Go.Proofs.YtccmbnaakdffaaaDoor
/- THE CELL 'sum', in the pinned program and in every row, IS THE sha256 OF THE DUMP (.gsa) THAT YtccmbnaakdffaaaDoorProg.lean LOADS. Nothing in Lean hashes anything: it is a label: what it is worth is what the hold of that sum in a sandbox is worth. -/
noncomputable def Tryd.pinned : Pinned := { name := "ytccmbnaakdffaaadoor", sum := "0dcb9aa4e9f5603bc6cd699416f3936f4620f5340c7ee81fe9573929c938cfbb", checked := Tryd.checked }
namespace Rows
def none {H : Type} : Left H := { results := [], args := [] }

/- WHAT THE LISTED PACKAGE-LEVEL VARIABLES READ AS WHEN THE CALL BEGINS. Each datum BY PROGRAM (the guide's laid-datum.mjs) off the statement by which the dump's own 'gosem.cut.vars' lays the variable. In a bare row this is a premise. The card (YtccmbnaakdffaaaDoorCards.lean) ties it to the program's text. -/
def laid_unicode_utf8_acceptRanges {H : Type} : DataW H := .agg [.agg [.lit (.int .u8 128), .lit (.int .u8 191)], .agg [.lit (.int .u8 160), .lit (.int .u8 191)], .agg [.lit (.int .u8 128), .lit (.int .u8 159)], .agg [.lit (.int .u8 144), .lit (.int .u8 191)], .agg [.lit (.int .u8 128), .lit (.int .u8 143)], .agg [.lit (.int .u8 0), .lit (.int .u8 0)], .agg [.lit (.int .u8 0), .lit (.int .u8 0)], .agg [.lit (.int .u8 0), .lit (.int .u8 0)], .agg [.lit (.int .u8 0), .lit (.int .u8 0)], .agg [.lit (.int .u8 0), .lit (.int .u8 0)], .agg [.lit (.int .u8 0), .lit (.int .u8 0)], .agg [.lit (.int .u8 0), .lit (.int .u8 0)], .agg [.lit (.int .u8 0), .lit (.int .u8 0)], .agg [.lit (.int .u8 0), .lit (.int .u8 0)], .agg [.lit (.int .u8 0), .lit (.int .u8 0)], .agg [.lit (.int .u8 0), .lit (.int .u8 0)]]
/-- One of Go's own tables, pinned by name: the form's constant. -/
def laid_unicode_utf8_first : DataW Unit := Go.Pinned.utf8First

/-- 'distributarylaw05.AddrParses': WHATEVER THE INPUT: true; the input reads as it did. -/
def addrParsesSpec : ChangeSpec := { name := "addrParses", fn := fun _ => fun
  | [d1, d2] => { results := [.lit (.bool true)], args := [d1, d2] }
  | _ => none }
def addrParsesRow : OpenClaim := { program := "ytccmbnaakdffaaadoor", sum := "0dcb9aa4e9f5603bc6cd699416f3936f4620f5340c7ee81fe9573929c938cfbb", func := "distributary/distributarylaw05.AddrParses", spec := "addrParses", inPlace := ["internal/bytealg.CountString", "internal/bytealg.IndexByteString", "internal/bytealg.IndexString", "internal/abi.NoEscape", "internal/bytealg.MakeNoZero"], named := ["unicode/utf8.first", "unicode/utf8.acceptRanges", "internal/bytealg.MaxLen"], apart := false, laid := [("unicode/utf8.acceptRanges", laid_unicode_utf8_acceptRanges), ("unicode/utf8.first", laid_unicode_utf8_first)] }
def AddrParsesSaid : Prop := addrParsesRow.holds Tryd.pinned (OpenSpec.ofChange addrParsesSpec)

/-- ITS FALSE NEIGHBOUR: 'it returns false'. Refute it at one input. -/
def addrParsesWrong : ChangeSpec := { name := "addrParses", fn := fun _ => fun
  | [d1, d2] => { results := [.lit (.bool false)], args := [d1, d2] }
  | _ => none }
def AddrParsesWrongFalsely : Prop := addrParsesRow.holds Tryd.pinned (OpenSpec.ofChange addrParsesWrong)

/-- 'distributarylaw05.AddrTexts': WHATEVER THE INPUT: true; the input reads as it did. -/
def addrTextsSpec : ChangeSpec := { name := "addrTexts", fn := fun _ => fun
  | [d] => { results := [.lit (.bool true)], args := [d] }
  | _ => none }
def addrTextsRow : OpenClaim := { program := "ytccmbnaakdffaaadoor", sum := "0dcb9aa4e9f5603bc6cd699416f3936f4620f5340c7ee81fe9573929c938cfbb", func := "distributary/distributarylaw05.AddrTexts", spec := "addrTexts", inPlace := ["internal/abi.NoEscape", "internal/bytealg.MakeNoZero", "internal/bytealg.CountString", "internal/bytealg.IndexByteString", "internal/bytealg.IndexString"], named := ["unicode/utf8.first", "unicode/utf8.acceptRanges", "internal/bytealg.MaxLen"], apart := false, laid := [("unicode/utf8.acceptRanges", laid_unicode_utf8_acceptRanges), ("unicode/utf8.first", laid_unicode_utf8_first)] }
def AddrTextsSaid : Prop := addrTextsRow.holds Tryd.pinned (OpenSpec.ofChange addrTextsSpec)

/-- ITS FALSE NEIGHBOUR: 'it returns false'. Refute it at one input. -/
def addrTextsWrong : ChangeSpec := { name := "addrTexts", fn := fun _ => fun
  | [d] => { results := [.lit (.bool false)], args := [d] }
  | _ => none }
def AddrTextsWrongFalsely : Prop := addrTextsRow.holds Tryd.pinned (OpenSpec.ofChange addrTextsWrong)

/-- 'distributarylaw05.AddrOrders': WHATEVER THE INPUT: true; the input reads as it did. -/
def addrOrdersSpec : ChangeSpec := { name := "addrOrders", fn := fun _ => fun
  | [d1, d2, d3] => { results := [.lit (.bool true)], args := [d1, d2, d3] }
  | _ => none }
def addrOrdersRow : OpenClaim := { program := "ytccmbnaakdffaaadoor", sum := "0dcb9aa4e9f5603bc6cd699416f3936f4620f5340c7ee81fe9573929c938cfbb", func := "distributary/distributarylaw05.AddrOrders", spec := "addrOrders", inPlace := ["internal/bytealg.CountString", "internal/bytealg.IndexByteString", "internal/bytealg.IndexString", "internal/abi.NoEscape", "internal/bytealg.MakeNoZero"], named := ["unicode/utf8.first", "unicode/utf8.acceptRanges", "internal/bytealg.MaxLen"], apart := false, laid := [("unicode/utf8.acceptRanges", laid_unicode_utf8_acceptRanges), ("unicode/utf8.first", laid_unicode_utf8_first)] }
def AddrOrdersSaid : Prop := addrOrdersRow.holds Tryd.pinned (OpenSpec.ofChange addrOrdersSpec)

/-- ITS FALSE NEIGHBOUR: 'it returns false'. Refute it at one input. -/
def addrOrdersWrong : ChangeSpec := { name := "addrOrders", fn := fun _ => fun
  | [d1, d2, d3] => { results := [.lit (.bool false)], args := [d1, d2, d3] }
  | _ => none }
def AddrOrdersWrongFalsely : Prop := addrOrdersRow.holds Tryd.pinned (OpenSpec.ofChange addrOrdersWrong)

/-- 'distributarylaw05.AddrBytes': WHATEVER THE INPUT: true; the input reads as it did. -/
def addrBytesSpec : ChangeSpec := { name := "addrBytes", fn := fun _ => fun
  | [d1, d2, d3] => { results := [.lit (.bool true)], args := [d1, d2, d3] }
  | _ => none }
def addrBytesRow : OpenClaim := { program := "ytccmbnaakdffaaadoor", sum := "0dcb9aa4e9f5603bc6cd699416f3936f4620f5340c7ee81fe9573929c938cfbb", func := "distributary/distributarylaw05.AddrBytes", spec := "addrBytes", inPlace := ["internal/bytealg.CountString", "internal/bytealg.IndexByteString", "internal/bytealg.IndexString", "internal/abi.NoEscape", "internal/bytealg.MakeNoZero"], named := ["unicode/utf8.first", "unicode/utf8.acceptRanges", "internal/bytealg.MaxLen"], apart := false, laid := [("unicode/utf8.acceptRanges", laid_unicode_utf8_acceptRanges), ("unicode/utf8.first", laid_unicode_utf8_first)] }
def AddrBytesSaid : Prop := addrBytesRow.holds Tryd.pinned (OpenSpec.ofChange addrBytesSpec)

/-- ITS FALSE NEIGHBOUR: 'it returns false'. Refute it at one input. -/
def addrBytesWrong : ChangeSpec := { name := "addrBytes", fn := fun _ => fun
  | [d1, d2, d3] => { results := [.lit (.bool false)], args := [d1, d2, d3] }
  | _ => none }
def AddrBytesWrongFalsely : Prop := addrBytesRow.holds Tryd.pinned (OpenSpec.ofChange addrBytesWrong)

/-- 'distributarylaw06.PfxTexts': WHATEVER THE INPUT: true; the input reads as it did. -/
def pfxTextsSpec : ChangeSpec := { name := "pfxTexts", fn := fun _ => fun
  | [d1, d2] => { results := [.lit (.bool true)], args := [d1, d2] }
  | _ => none }
def pfxTextsRow : OpenClaim := { program := "ytccmbnaakdffaaadoor", sum := "0dcb9aa4e9f5603bc6cd699416f3936f4620f5340c7ee81fe9573929c938cfbb", func := "distributary/distributarylaw06.PfxTexts", spec := "pfxTexts", inPlace := ["internal/abi.NoEscape", "internal/bytealg.MakeNoZero", "internal/bytealg.IndexByteString", "internal/bytealg.IndexString", "internal/bytealg.CountString"], named := ["internal/bytealg.MaxLen", "unicode/utf8.first", "unicode/utf8.acceptRanges"], apart := false, laid := [("unicode/utf8.acceptRanges", laid_unicode_utf8_acceptRanges), ("unicode/utf8.first", laid_unicode_utf8_first)] }
def PfxTextsSaid : Prop := pfxTextsRow.holds Tryd.pinned (OpenSpec.ofChange pfxTextsSpec)

/-- ITS FALSE NEIGHBOUR: 'it returns false'. Refute it at one input. -/
def pfxTextsWrong : ChangeSpec := { name := "pfxTexts", fn := fun _ => fun
  | [d1, d2] => { results := [.lit (.bool false)], args := [d1, d2] }
  | _ => none }
def PfxTextsWrongFalsely : Prop := pfxTextsRow.holds Tryd.pinned (OpenSpec.ofChange pfxTextsWrong)

/-- 'distributarylaw06.PfxMasks': WHATEVER THE INPUT: true; the input reads as it did. -/
def pfxMasksSpec : ChangeSpec := { name := "pfxMasks", fn := fun _ => fun
  | [d1, d2, d3] => { results := [.lit (.bool true)], args := [d1, d2, d3] }
  | _ => none }
def pfxMasksRow : OpenClaim := { program := "ytccmbnaakdffaaadoor", sum := "0dcb9aa4e9f5603bc6cd699416f3936f4620f5340c7ee81fe9573929c938cfbb", func := "distributary/distributarylaw06.PfxMasks", spec := "pfxMasks", inPlace := ["internal/bytealg.IndexByteString", "internal/bytealg.IndexString", "internal/bytealg.CountString", "internal/abi.NoEscape", "internal/bytealg.MakeNoZero"], named := ["internal/bytealg.MaxLen", "unicode/utf8.first", "unicode/utf8.acceptRanges"], apart := false, laid := [("unicode/utf8.acceptRanges", laid_unicode_utf8_acceptRanges), ("unicode/utf8.first", laid_unicode_utf8_first)] }
def PfxMasksSaid : Prop := pfxMasksRow.holds Tryd.pinned (OpenSpec.ofChange pfxMasksSpec)

/-- ITS FALSE NEIGHBOUR: 'it returns false'. Refute it at one input. -/
def pfxMasksWrong : ChangeSpec := { name := "pfxMasks", fn := fun _ => fun
  | [d1, d2, d3] => { results := [.lit (.bool false)], args := [d1, d2, d3] }
  | _ => none }
def PfxMasksWrongFalsely : Prop := pfxMasksRow.holds Tryd.pinned (OpenSpec.ofChange pfxMasksWrong)

/-- 'distributarylaw06.PfxFinds': WHATEVER THE INPUT: true; the input reads as it did. -/
def pfxFindsSpec : ChangeSpec := { name := "pfxFinds", fn := fun _ => fun
  | [d1, d2] => { results := [.lit (.bool true)], args := [d1, d2] }
  | _ => none }
def pfxFindsRow : OpenClaim := { program := "ytccmbnaakdffaaadoor", sum := "0dcb9aa4e9f5603bc6cd699416f3936f4620f5340c7ee81fe9573929c938cfbb", func := "distributary/distributarylaw06.PfxFinds", spec := "pfxFinds", inPlace := ["internal/bytealg.IndexByteString", "internal/bytealg.IndexString", "internal/bytealg.CountString", "internal/abi.NoEscape", "internal/bytealg.MakeNoZero"], named := ["internal/bytealg.MaxLen", "unicode/utf8.first", "unicode/utf8.acceptRanges"], apart := false, laid := [("unicode/utf8.acceptRanges", laid_unicode_utf8_acceptRanges), ("unicode/utf8.first", laid_unicode_utf8_first)] }
def PfxFindsSaid : Prop := pfxFindsRow.holds Tryd.pinned (OpenSpec.ofChange pfxFindsSpec)

/-- ITS FALSE NEIGHBOUR: 'it returns false'. Refute it at one input. -/
def pfxFindsWrong : ChangeSpec := { name := "pfxFinds", fn := fun _ => fun
  | [d1, d2] => { results := [.lit (.bool false)], args := [d1, d2] }
  | _ => none }
def PfxFindsWrongFalsely : Prop := pfxFindsRow.holds Tryd.pinned (OpenSpec.ofChange pfxFindsWrong)

/-- 'distributarylaw06.PfxSorts': WHATEVER THE INPUT: true; the input reads as it did. -/
def pfxSortsSpec : ChangeSpec := { name := "pfxSorts", fn := fun _ => fun
  | [d] => { results := [.lit (.bool true)], args := [d] }
  | _ => none }
def pfxSortsRow : OpenClaim := { program := "ytccmbnaakdffaaadoor", sum := "0dcb9aa4e9f5603bc6cd699416f3936f4620f5340c7ee81fe9573929c938cfbb", func := "distributary/distributarylaw06.PfxSorts", spec := "pfxSorts", inPlace := ["internal/bytealg.IndexByteString", "internal/bytealg.IndexString", "internal/bytealg.CountString", "internal/abi.NoEscape", "internal/bytealg.MakeNoZero"], unfollowed := true, recurses := true, named := ["internal/bytealg.MaxLen", "unicode/utf8.first", "unicode/utf8.acceptRanges"], apart := false, laid := [("unicode/utf8.acceptRanges", laid_unicode_utf8_acceptRanges), ("unicode/utf8.first", laid_unicode_utf8_first)] }
def PfxSortsSaid : Prop := pfxSortsRow.holds Tryd.pinned (OpenSpec.ofChange pfxSortsSpec)

/-- ITS FALSE NEIGHBOUR: 'it returns false'. Refute it at one input. -/
def pfxSortsWrong : ChangeSpec := { name := "pfxSorts", fn := fun _ => fun
  | [d] => { results := [.lit (.bool false)], args := [d] }
  | _ => none }
def PfxSortsWrongFalsely : Prop := pfxSortsRow.holds Tryd.pinned (OpenSpec.ofChange pfxSortsWrong)

/- THE SECOND FORM. 'bulk': how many values and letters a reading holds, each counted each time it is reached (what is shared counts as often as it is met; a slice's spare places count too). A statement '..UptoSaid' is the law's where the arguments, and the package variables that the reading takes, are together of bulk at most 1048576: NARROWER than '..Said'. Prove '..Said' where nothing that the law and all that it calls make is longer than what came in: it says more and counts as full. Else prove '..UptoSaid'. A law counts once. -/
mutual
def uptoBulk {H : Type} : DataW H → Nat
  | .lit (.string bytes) => bytes.length + 1
  | .lit _ => 1
  | .nil => 1
  | .ptr d => uptoBulk d + 1
  | .slice elems spare => uptoBulkAll elems + uptoBulkAll spare + 1
  | .agg parts => uptoBulkAll parts + 1
  | .iface _ d => uptoBulk d + 1
  | .map entries => uptoBulkEntries entries + 1
  | .held _ => 1
def uptoBulkAll {H : Type} : List (DataW H) → Nat
  | [] => 0
  | d :: r => uptoBulk d + uptoBulkAll r
def uptoBulkEntries {H : Type} : List (Lit × DataW H) → Nat
  | [] => 0
  | x :: r => uptoBulkEntry x + uptoBulkEntries r
def uptoBulkEntry {H : Type} : Lit × DataW H → Nat
  | (.string bytes, d) => bytes.length + uptoBulk d + 1
  | (_, d) => uptoBulk d + 1
 end
def uptoSmall : (H : Type) → List (DataW H) → Bool := fun _ ds => decide (uptoBulkAll ds ≤ 1048576)
def OpenSpec.upto (s : _root_.Go.ChangeSpec) : _root_.Go.OpenSpec := { _root_.Go.OpenSpec.ofChange s with cond := some uptoSmall }

/-- 'distributarylaw05.AddrParses', WHERE WHAT IT READS IS OF BULK AT MOST 1048576: true; the input reads as it did. -/
def addrParsesUptoRow : OpenClaim := { program := "ytccmbnaakdffaaadoor", sum := "0dcb9aa4e9f5603bc6cd699416f3936f4620f5340c7ee81fe9573929c938cfbb", func := "distributary/distributarylaw05.AddrParses", spec := "addrParses", inPlace := ["internal/bytealg.CountString", "internal/bytealg.IndexByteString", "internal/bytealg.IndexString", "internal/abi.NoEscape", "internal/bytealg.MakeNoZero"], named := ["unicode/utf8.first", "unicode/utf8.acceptRanges", "internal/bytealg.MaxLen"], apart := false, laid := [("unicode/utf8.acceptRanges", laid_unicode_utf8_acceptRanges), ("unicode/utf8.first", laid_unicode_utf8_first)], narrowed := true }
def AddrParsesUptoSaid : Prop := addrParsesUptoRow.holds Tryd.pinned (OpenSpec.upto addrParsesSpec)

/-- 'distributarylaw05.AddrTexts', WHERE WHAT IT READS IS OF BULK AT MOST 1048576: true; the input reads as it did. -/
def addrTextsUptoRow : OpenClaim := { program := "ytccmbnaakdffaaadoor", sum := "0dcb9aa4e9f5603bc6cd699416f3936f4620f5340c7ee81fe9573929c938cfbb", func := "distributary/distributarylaw05.AddrTexts", spec := "addrTexts", inPlace := ["internal/abi.NoEscape", "internal/bytealg.MakeNoZero", "internal/bytealg.CountString", "internal/bytealg.IndexByteString", "internal/bytealg.IndexString"], named := ["unicode/utf8.first", "unicode/utf8.acceptRanges", "internal/bytealg.MaxLen"], apart := false, laid := [("unicode/utf8.acceptRanges", laid_unicode_utf8_acceptRanges), ("unicode/utf8.first", laid_unicode_utf8_first)], narrowed := true }
def AddrTextsUptoSaid : Prop := addrTextsUptoRow.holds Tryd.pinned (OpenSpec.upto addrTextsSpec)

/-- 'distributarylaw05.AddrOrders', WHERE WHAT IT READS IS OF BULK AT MOST 1048576: true; the input reads as it did. -/
def addrOrdersUptoRow : OpenClaim := { program := "ytccmbnaakdffaaadoor", sum := "0dcb9aa4e9f5603bc6cd699416f3936f4620f5340c7ee81fe9573929c938cfbb", func := "distributary/distributarylaw05.AddrOrders", spec := "addrOrders", inPlace := ["internal/bytealg.CountString", "internal/bytealg.IndexByteString", "internal/bytealg.IndexString", "internal/abi.NoEscape", "internal/bytealg.MakeNoZero"], named := ["unicode/utf8.first", "unicode/utf8.acceptRanges", "internal/bytealg.MaxLen"], apart := false, laid := [("unicode/utf8.acceptRanges", laid_unicode_utf8_acceptRanges), ("unicode/utf8.first", laid_unicode_utf8_first)], narrowed := true }
def AddrOrdersUptoSaid : Prop := addrOrdersUptoRow.holds Tryd.pinned (OpenSpec.upto addrOrdersSpec)

/-- 'distributarylaw05.AddrBytes', WHERE WHAT IT READS IS OF BULK AT MOST 1048576: true; the input reads as it did. -/
def addrBytesUptoRow : OpenClaim := { program := "ytccmbnaakdffaaadoor", sum := "0dcb9aa4e9f5603bc6cd699416f3936f4620f5340c7ee81fe9573929c938cfbb", func := "distributary/distributarylaw05.AddrBytes", spec := "addrBytes", inPlace := ["internal/bytealg.CountString", "internal/bytealg.IndexByteString", "internal/bytealg.IndexString", "internal/abi.NoEscape", "internal/bytealg.MakeNoZero"], named := ["unicode/utf8.first", "unicode/utf8.acceptRanges", "internal/bytealg.MaxLen"], apart := false, laid := [("unicode/utf8.acceptRanges", laid_unicode_utf8_acceptRanges), ("unicode/utf8.first", laid_unicode_utf8_first)], narrowed := true }
def AddrBytesUptoSaid : Prop := addrBytesUptoRow.holds Tryd.pinned (OpenSpec.upto addrBytesSpec)

/-- 'distributarylaw06.PfxTexts', WHERE WHAT IT READS IS OF BULK AT MOST 1048576: true; the input reads as it did. -/
def pfxTextsUptoRow : OpenClaim := { program := "ytccmbnaakdffaaadoor", sum := "0dcb9aa4e9f5603bc6cd699416f3936f4620f5340c7ee81fe9573929c938cfbb", func := "distributary/distributarylaw06.PfxTexts", spec := "pfxTexts", inPlace := ["internal/abi.NoEscape", "internal/bytealg.MakeNoZero", "internal/bytealg.IndexByteString", "internal/bytealg.IndexString", "internal/bytealg.CountString"], named := ["internal/bytealg.MaxLen", "unicode/utf8.first", "unicode/utf8.acceptRanges"], apart := false, laid := [("unicode/utf8.acceptRanges", laid_unicode_utf8_acceptRanges), ("unicode/utf8.first", laid_unicode_utf8_first)], narrowed := true }
def PfxTextsUptoSaid : Prop := pfxTextsUptoRow.holds Tryd.pinned (OpenSpec.upto pfxTextsSpec)

/-- 'distributarylaw06.PfxMasks', WHERE WHAT IT READS IS OF BULK AT MOST 1048576: true; the input reads as it did. -/
def pfxMasksUptoRow : OpenClaim := { program := "ytccmbnaakdffaaadoor", sum := "0dcb9aa4e9f5603bc6cd699416f3936f4620f5340c7ee81fe9573929c938cfbb", func := "distributary/distributarylaw06.PfxMasks", spec := "pfxMasks", inPlace := ["internal/bytealg.IndexByteString", "internal/bytealg.IndexString", "internal/bytealg.CountString", "internal/abi.NoEscape", "internal/bytealg.MakeNoZero"], named := ["internal/bytealg.MaxLen", "unicode/utf8.first", "unicode/utf8.acceptRanges"], apart := false, laid := [("unicode/utf8.acceptRanges", laid_unicode_utf8_acceptRanges), ("unicode/utf8.first", laid_unicode_utf8_first)], narrowed := true }
def PfxMasksUptoSaid : Prop := pfxMasksUptoRow.holds Tryd.pinned (OpenSpec.upto pfxMasksSpec)

/-- 'distributarylaw06.PfxFinds', WHERE WHAT IT READS IS OF BULK AT MOST 1048576: true; the input reads as it did. -/
def pfxFindsUptoRow : OpenClaim := { program := "ytccmbnaakdffaaadoor", sum := "0dcb9aa4e9f5603bc6cd699416f3936f4620f5340c7ee81fe9573929c938cfbb", func := "distributary/distributarylaw06.PfxFinds", spec := "pfxFinds", inPlace := ["internal/bytealg.IndexByteString", "internal/bytealg.IndexString", "internal/bytealg.CountString", "internal/abi.NoEscape", "internal/bytealg.MakeNoZero"], named := ["internal/bytealg.MaxLen", "unicode/utf8.first", "unicode/utf8.acceptRanges"], apart := false, laid := [("unicode/utf8.acceptRanges", laid_unicode_utf8_acceptRanges), ("unicode/utf8.first", laid_unicode_utf8_first)], narrowed := true }
def PfxFindsUptoSaid : Prop := pfxFindsUptoRow.holds Tryd.pinned (OpenSpec.upto pfxFindsSpec)

/-- 'distributarylaw06.PfxSorts', WHERE WHAT IT READS IS OF BULK AT MOST 1048576: true; the input reads as it did. -/
def pfxSortsUptoRow : OpenClaim := { program := "ytccmbnaakdffaaadoor", sum := "0dcb9aa4e9f5603bc6cd699416f3936f4620f5340c7ee81fe9573929c938cfbb", func := "distributary/distributarylaw06.PfxSorts", spec := "pfxSorts", inPlace := ["internal/bytealg.IndexByteString", "internal/bytealg.IndexString", "internal/bytealg.CountString", "internal/abi.NoEscape", "internal/bytealg.MakeNoZero"], unfollowed := true, recurses := true, named := ["internal/bytealg.MaxLen", "unicode/utf8.first", "unicode/utf8.acceptRanges"], apart := false, laid := [("unicode/utf8.acceptRanges", laid_unicode_utf8_acceptRanges), ("unicode/utf8.first", laid_unicode_utf8_first)], narrowed := true }
def PfxSortsUptoSaid : Prop := pfxSortsUptoRow.holds Tryd.pinned (OpenSpec.upto pfxSortsSpec)

end Rows
end Go.Proofs.YtccmbnaakdffaaaDoor
