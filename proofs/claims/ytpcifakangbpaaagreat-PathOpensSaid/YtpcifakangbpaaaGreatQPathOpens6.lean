/- Parts of the proof of PathOpens: contracts of functions of the program. No condition but those that each theorem names. -/
import Derived.Test.YtpcifakangbpaaaGreatQPathOpens2
import Derived.Lib.LazyBuf
import Derived.WalkSpells
set_option linter.unusedVariables false
set_option linter.unusedSimpArgs false
set_option maxRecDepth 100000
set_option maxHeartbeats 16000000
namespace Go.Proofs.YtpcifakangbpaaaGreat
open Go.RowKit Go.ChangeShapes Go.WideShapes Go.ChangeAt Go.Deep Go.Proofs.Tryz
variable {R xs:List UInt8}{B E J N O S V b base' c f fuel g i j k m n s sd sz:Nat}{Q:Exit->Act->World->Prop}{d w' w0:World}{u v z:Value}{T e t:TypeId}{A:Option Addr}{h os:List Nat}{F:List UInt8->Option Nat}{p:List Nat×List Bool}{a:Act}{α:Type}{H l:List Int}{o:Oper}{G:Array Oper}{K:Act->World->Prop}{y:Array Value}{vs:List Value}{L:List Oper}{I:Bool}{U W Y aa:List (Int×List UInt8)}{P:Program}
def str (xs:List UInt8):ByteArray:=⟨xs.toArray⟩
theorem nM(A:Option Addr)(n c:Nat)(xs:List UInt8)(w:World)(E:IsB w w.heap.size A n xs)(L:n<=1099511627776) :
 Cl 118 #[.slice A n c] w fun e w'=>∃v,e=.returned v/\aZ w' w.heap.size v xs/\Below w.heap.size w w':=by
 have G:=fun W=>Lib.run_eql_slice_nil (P:=prog) W 43 5 A n c 0 0 gGa
 rcases A with _|O
 .have j:n=0:=by
   rcases fRa n with j|j
   .exact j
   .obtain⟨_,_,e,_⟩:=E.2 j
    cases e
  obtain rfl:xs=[]:=eGa (by rw[E.1,j]);subst j;simp only[Option.isNone_none]at G;clear E;go_enter func118,ntmps118;go_wp2;go_ret;exact⟨_,rfl,aZ.nil _ _,bLa _ _⟩
 .go_enter func118,ntmps118;go_wp2_with (at_builtin;refine aVc rfl (.tmp 5) (.tmp 6) rfl w.heap.size _ [] xs _ _ _ (w.heap.size+1) rfl rfl ?_ ?_ ?_ ?_ ?_)
  .exact aZ.empty w w.heap.size (aZa _)
  .exact(E.on bC).more (by simp)
  .simp
  .simp;omega
  intro N w' I J _ _;go_wp2;go_ret;exact⟨_,rfl,I,bC.trans J⟩
end Go.Proofs.YtpcifakangbpaaaGreat
