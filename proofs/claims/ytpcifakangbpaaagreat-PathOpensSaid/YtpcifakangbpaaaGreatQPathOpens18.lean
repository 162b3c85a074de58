/- Parts of the proof of PathOpens: contracts of functions of the program. No condition but those that each theorem names. -/
import Derived.Test.YtpcifakangbpaaaGreatQPathOpens3
import Derived.Test.YtpcifakangbpaaaGreatQPathOpens16
import Derived.Test.YtpcifakangbpaaaGreatQPathOpens17
set_option linter.unusedVariables false
set_option linter.unusedSimpArgs false
set_option maxRecDepth 100000
set_option maxHeartbeats 16000000
namespace Go.Proofs.YtpcifakangbpaaaGreat
open Go.RowKit Go.ChangeShapes Go.WideShapes Go.ChangeAt Go.Deep Go.Proofs.Tryz
variable {R xs:List UInt8}{B E J N O S V b base' c f fuel g i j k m n s sd sz:Nat}{Q:Exit->Act->World->Prop}{d w' w0:World}{u v z:Value}{T e t:TypeId}{A:Option Addr}{h os:List Nat}{F:List UInt8->Option Nat}{p:List Nat×List Bool}{a:Act}{α:Type}{H l:List Int}{o:Oper}{G:Array Oper}{K:Act->World->Prop}{y:Array Value}{vs:List Value}{L:List Oper}{I:Bool}{U W Y aa:List (Int×List UInt8)}{P:Program}
structure Tu where
 pr:Int
 sv:Bool
 sh:Nat
 sl:Nat
 dv:Bool
 dh:Nat
 dl:Nat
 sp:Int
 dp:Int
 deriving DecidableEq
def tuL (t:Tu):List Value:=[.int .i64 t.pr,.bool t.sv,.int .u64 (t.sh:Int),.int .u64 (t.sl:Int),.bool t.dv,.int .u64 (t.dh:Int),.int .u64 (t.dl:Int),.int .i64 t.sp,.int .i64 t.dp]
abbrev eB (t:Tu):Array Value:=#[.int .i64 t.pr,.bool t.sv,.int .u64 (t.sh:Int),.int .u64 (t.sl:Int),.bool t.dv,.int .u64 (t.dh:Int),.int .u64 (t.dl:Int),.int .i64 t.sp,.int .i64 t.dp]
theorem eq_tu{A:Oper}(s u:Tu)(j:Operand->Value)(x y:Operand)(E:A.op=.binOp .eql 46 x y 46)(G:j x=.agg (eB s))(I:j y=.agg (eB u))(w:World) :
 (execOp j A).run prog w=.ok (.value (.bool (decide (s=u)))) w:=by
 unfold execOp;simp only[E,G,I];clear G I E;obtain⟨J,L,N,O,U,V,W,X,Y⟩:=s;obtain⟨Z,aa,ab,ac,ad,ae,af,ag,ah⟩:=u;simp[go_sem];simp only[Int.natCast_inj]
 repeat' split
 all_goals simp_all
end Go.Proofs.YtpcifakangbpaaaGreat
