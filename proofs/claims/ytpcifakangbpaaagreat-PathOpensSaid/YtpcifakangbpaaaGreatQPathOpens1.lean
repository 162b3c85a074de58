/- Parts of the proof of PathOpens: contracts of functions of the program. No condition but those that each theorem names. -/
import Derived.Test.YtpcifakangbpaaaGreatProg
import Derived.Shelf.Small.Bits
set_option linter.unusedVariables false
set_option linter.unusedSimpArgs false
set_option maxRecDepth 100000
set_option maxHeartbeats 16000000
namespace Go.Proofs.YtpcifakangbpaaaGreat
open Go.Proofs.Tryz
section
open Go.Shelf
def aPh:Go.Shelf.Ren:=⟨fun|129=>198|n=>n,fun|53=>25|3=>3|4=>4|46=>126|5=>5|9=>9|n=>n,fun|n=>n⟩
theorem lays129:Go.Proofs.Lays.n129 prog aPh:={
 mixed:=by kernel_rfl
 f129:=func198.trans (congrArg some (by kernel_rfl))
 t3:=underlying3
 a3:=isAgg3
 z3:=sizeOf3
 v3:=zeroValue3
 t4:=underlying4
 a4:=isAgg4
 z4:=sizeOf4
 v4:=zeroValue4
 t5:=underlying5
 a5:=isAgg5
 z5:=sizeOf5
 v5:=zeroValue5
 t9:=underlying9
 a9:=isAgg9
 z9:=sizeOf9
 v9:=zeroValue9
 t46:=underlying126
 a46:=isAgg126
 z46:=sizeOf126
 v46:=zeroValue126
 t53:=underlying25
 a53:=isAgg25
 z53:=sizeOf25
 v53:=zeroValue25 }
theorem bits_Len64 (x:Int) (w:World) (j:0<=x) (A:x<=18446744073709551615) :
 Calls prog 198 #[.int .u64 x] w fun e w'=>e=.returned (.int .i64 (Lib.bitLen x.toNat))/\w'=w:=Any.bits_Len64 lays129 x w j A
end
end Go.Proofs.YtpcifakangbpaaaGreat
