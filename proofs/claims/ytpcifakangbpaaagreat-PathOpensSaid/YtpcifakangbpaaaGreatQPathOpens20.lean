/- Parts of the proof of PathOpens: contracts of functions of the program. No condition but those that each theorem names. -/
import Derived.Test.YtpcifakangbpaaaGreatQPathOpens19
set_option linter.unusedVariables false
set_option linter.unusedSimpArgs false
set_option maxRecDepth 100000
set_option maxHeartbeats 16000000
namespace Go.Proofs.YtpcifakangbpaaaGreat
open Go.RowKit Go.ChangeShapes Go.WideShapes Go.ChangeAt Go.Deep Go.Proofs.Tryz
variable {R xs:List UInt8}{B E J N O S V b base' c f fuel g i j k m n s sd sz:Nat}{Q:Exit->Act->World->Prop}{d w' w0:World}{u v z:Value}{T e t:TypeId}{A:Option Addr}{h os:List Nat}{F:List UInt8->Option Nat}{p:List Nat×List Bool}{a:Act}{α:Type}{H l:List Int}{o:Oper}{G:Array Oper}{K:Act->World->Prop}{y:Array Value}{vs:List Value}{L:List Oper}{I:Bool}{U W Y aa:List (Int×List UInt8)}{P:Program}
def PxA (n:Nat) (xs:List UInt8) (K:Nat) (x:Px):Prop:=PIs n xs K (gP x)
def LessA (n:Nat) (xs:List UInt8) (K:Nat) (U:List UInt8):Prop :=
 ∀(A:Option Addr) (c:Nat) (w:World),IsB w w.heap.size A n xs->n<=c->c<=maxLen->Cl 85 #[.slice A n c] w fun e w'=>dE K U w w' e
def TurnA (tv:Bool) (thi tlo:Nat) (port:Int) (n:Nat) (xs:List UInt8) (K:Nat) (U:List UInt8):Prop :=
 ∀(A:Option Addr) (c:Nat) (w:World),IsB w w.heap.size A n xs->n<=c->c<=maxLen->Cl 86 #[.slice A n c,.int .i64 1,.agg #[.bool tv,.int .u64 (thi:Int),.int .u64 (tlo:Int)],.int .i64 port] w fun e w'=>dE K U w w' e
def WrapA (sv:Bool) (shi slo:Nat) (dv:Bool) (dhi dlo:Nat) (n:Nat) (xs:List UInt8) (K:Nat) (U:List UInt8):Prop :=
 ∀(A:Option Addr) (c:Nat) (w:World),IsB w w.heap.size A n xs->n<=c->c<=maxLen->Cl 87 #[.agg #[.bool sv,.int .u64 (shi:Int),.int .u64 (slo:Int)],.agg #[.bool dv,.int .u64 (dhi:Int),.int .u64 (dlo:Int)],.slice A n c] w fun e w'=>dE K U w w' e
theorem aJm{e:Nat}{A:Bool}{G I L:Nat}(h:wE n xs j e A R E G I J L N)(O:n<=4000) :
 PxA n xs 0 ⟨false,⟨(prN A:Int),false,0,E,false,0,G,(I:Int),(J:Int)⟩,(L:Int),(N:Int),false,⟨0,false,0,0,false,0,0,0,0⟩,(j:Int)⟩:=h.pis O
theorem aX1{e:Nat}{j:Bool}{A G I L:Nat}(h:wF n xs U e j R A E G I J L N O)(V:n<=4000) :
 PxA n xs 0 ⟨true,⟨(prN j:Int),true,A,E,true,G,I,(J:Int),(L:Int)⟩,(N:Int),(O:Int),false,⟨0,false,0,0,false,0,0,0,0⟩,((e+R.length:Nat):Int)⟩:=h.pis V
theorem px_ex(n:Nat)(xs:List UInt8)(E:xs.length=n)(j:n<=4000):∃K x,PxA n xs K x/\xG x:=by
 have G:xG pxZ:=⟨uK _ _,uK _ _,by decide⟩
 rcases aNk n xs E j with⟨K,Z,h⟩|⟨x,h,hb,_⟩|⟨al,e,A,R,ab,ac,sp,dp,af,fl,h⟩|⟨ai,e,A,R,aj,ab,ak,ac,sp,dp,af,fl,h⟩
 .exact⟨K,pxZ,rJ h Z,G⟩
 .exact⟨0,x,h,hb⟩
 .obtain⟨J,L,N,O,U,V,W,X,Y⟩:=h.sizes;obtain⟨u1,u2⟩:=h.up.aE6;have I:prN A<=255:=by unfold prN;split<;>omega
  exact⟨0,_,aJm h j,⟨⟨by dsimp only;omega,by dsimp only;omega,by dsimp only;omega,by dsimp only;omega,by dsimp only;omega,by dsimp only;omega,by dsimp only;omega⟩,uK _ _,by dsimp only;omega⟩⟩
 .obtain⟨J,L,N,O,U,V,W,X,Y⟩:=h.sizes;obtain⟨u1,u2⟩:=h.up.aE6;have I:prN A<=255:=by unfold prN;split<;>omega
  exact⟨0,_,aX1 h j,⟨⟨by dsimp only;omega,by dsimp only;omega,by dsimp only;omega,by dsimp only;omega,by dsimp only;omega,by dsimp only;omega,by dsimp only;omega⟩,uK _ _,by dsimp only;omega⟩⟩
end Go.Proofs.YtpcifakangbpaaaGreat
