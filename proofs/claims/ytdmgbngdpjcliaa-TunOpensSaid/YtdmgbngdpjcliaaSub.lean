/- Pieces of a function's code, found by a region's number: so that a walk can be cut into several theorems. No condition. -/
import Derived.Test.YtdmgbngdpjcliaaCore
namespace Go.Proofs.Ytdmgbngdpjcliaa
/-- The region with which a piece of code begins. -/
def leftmost : Code → Option Nat
  | .region id _ _ => some id
  | .seq a _ => leftmost a
  | _ => none
/-- The code from region number N on, as far as it stands in one row. -/
def fromRegion (N : Nat) : Code → Option Code
  | .seq a b => if leftmost a = some N then some (.seq a b) else
    match fromRegion N a with
      | some c => some c
      | none => fromRegion N b
  | .block _ c => fromRegion N c
  | .scope c => fromRegion N c
  | .loop c => fromRegion N c
  | .cond _ a b => match fromRegion N a with
    | some c => some c
    | none => fromRegion N b
  | .region id l d => if id = N then some (.region id l d) else none
  | _ => none
/-- What begins with region number N alone. -/
def onlyRegion (N : Nat) (c : Option Code) : Code := match c.bind (fromRegion N) with
  | some (.seq a _) => a
  | some a => a
  | none => .skip
def restFrom (N : Nat) (c : Option Code) : Code := (c.bind (fromRegion N)).getD .skip
end Go.Proofs.Ytdmgbngdpjcliaa
