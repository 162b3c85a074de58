/- Parts of the proof of PathOpens: contracts of functions of the program. No condition but those that each theorem names. -/
import Derived.Test.YtpcifakangbpaaaGreatQPathOpens1
import Derived.Test.YtpcifakangbpaaaGreatQPathOpens13
set_option linter.unusedVariables false
set_option linter.unusedSimpArgs false
set_option maxRecDepth 100000
set_option maxHeartbeats 16000000
namespace Go.Proofs.YtpcifakangbpaaaGreat
open Go.RowKit Go.ChangeShapes Go.WideShapes Go.ChangeAt Go.Deep Go.Proofs.Tryz
variable {R xs:List UInt8}{B E J N O S V b base' c f fuel g i j k m n s sd sz:Nat}{Q:Exit->Act->World->Prop}{d w' w0:World}{u v z:Value}{T e t:TypeId}{A:Option Addr}{h os:List Nat}{F:List UInt8->Option Nat}{p:List Nat×List Bool}{a:Act}{α:Type}{H l:List Int}{o:Oper}{G:Array Oper}{K:Act->World->Prop}{y:Array Value}{vs:List Value}{L:List Oper}{I:Bool}{U W Y aa:List (Int×List UInt8)}{P:Program}
theorem aL2:∀f x,x<2 ^ f->x<2 ^ Lib.bitLenAux f x/\(x≠0->1<=Lib.bitLenAux f x/\2 ^ (Lib.bitLenAux f x - 1)<=x)
 | 0,x,h=>by
  have:x=0:=by simpa using h
  subst this;exact⟨by decide,fun h=>absurd rfl h⟩
 | f+1,x,h=>by
  unfold Lib.bitLenAux;by_cases j:x=0
  ·rw[bBa j,j];exact⟨by decide,fun h=>absurd rfl h⟩
  ·rw[bAa j];rw[gUa]at h;obtain⟨L,G⟩:=aL2 f (x / 2) (by omega);have e:2 ^ (1+Lib.bitLenAux f (x / 2))=2*2 ^ Lib.bitLenAux f (x / 2):=by rw[Nat.pow_add,Nat.pow_one]
   refine⟨by rw[e];omega,fun _=>⟨by omega,?_⟩⟩;rw[fSa];by_cases E:x / 2=0
   ·rw[E];have:Lib.bitLenAux f 0=0:=by cases f<;>rfl
    rw[this];omega
   ·obtain⟨I,A⟩:=G E;obtain⟨k,J⟩:∃k,Lib.bitLenAux f (x / 2)=k+1:=⟨_,(Nat.sub_add_cancel I).symm⟩
    rw[J]at A ⊢;rw[Nat.add_sub_cancel]at A;rw[gUa];omega
theorem aM2(n:Nat)(G:1<=n)(I:n<=65536):1<=Lib.bitLen n/\Lib.bitLen n<=17/\n<2 ^ Lib.bitLen n:=by
 obtain⟨j,A⟩:=aL2 64 n (by omega);obtain⟨E,J⟩:=A (by omega);refine⟨E,?_,j⟩;unfold Lib.bitLen;rcases eMa 17 (Lib.bitLenAux 64 n)with h|h
 ·have:=gBa (n:=2) (by omega) (show 17<=Lib.bitLenAux 64 n - 1 by omega);omega
 ·exact h
def aE3 (p:Nat×Nat):Nat×Nat:=if 4294967296<=p.1*p.1 / 2147483648 then(p.1*p.1 / 2147483648 / 2,2*p.2+1)else(p.1*p.1 / 2147483648,2*p.2)
def aA7 (n:Nat):Nat->Nat×Nat
 | 0=>(n*2 ^ (32 - Lib.bitLen n),Lib.bitLen n - 1)
 | k+1=>aE3 (aA7 n k)
def logN (n:Nat):Nat:=(aA7 n 24).2
theorem log_any(n:Nat)(Y:1<=n)(Z:n<=65536)(w:World):Cl 192 #[.int .u64 (n:Int)] w fun e w'=>e=.returned (.int .u64 (logN n:Int))/\w=w':=by
 have q:=bits_Len64 (n:Int) w (by omega) (by omega);rw[bMa]at q;obtain⟨l1,l2,N⟩:=aM2 n Y Z;have G:aA7 n 0=(n*2 ^ (32 - Lib.bitLen n),Lib.bitLen n - 1):=rfl;obtain⟨L,hL⟩:=eX (Lib.bitLen n);rw[hL]at q l1 l2 N G;have av:((n:Int) == 0)=false:=by rw[bDa];omega
 obtain⟨W,hW⟩:∃W,L - 1=W:=⟨_,rfl⟩
 have wL:IntKind.i64.wrap ((L:Int) - 1)=(W:Int):=by rw[wO _];omega
 have ax:decide ((31:Int)<(W:Int))=false:=by simp;omega
 obtain⟨s,hs⟩:∃s,31 - W=s:=⟨_,rfl⟩
 have ws:IntKind.i64.wrap (31 - (W:Int))=(s:Int):=by rw[wO _];omega
 have es:32 - L=s:=by omega
 rw[hW,es]at G;obtain⟨x0,J⟩:∃x,n*2 ^ s=x:=⟨_,rfl⟩
 have az:W<=16:=by omega
 rw[J]at G;have an:x0<4294967296:=by
  have:n*2 ^ s<2 ^ L*2 ^ s:=Nat.mul_lt_mul_of_pos_right N (Nat.pow_pos (by omega));rw[<-Nat.pow_add,show L+s=32 by omega,J]at this;omega
 have a0:IntKind.u64.wrap ((n:Int)*2 ^ min s 64)=(x0:Int):=by
  rw[fCa (by omega)];have e:((n:Int)*2 ^ s)=((n*2 ^ s:Nat):Int):=by push_cast;rfl
  rw[e,J];exact fU _ (by omega) (by omega)
 have a1:IntKind.u64.wrap (W:Int)=(W:Int):=fU _ (by omega) (by omega);replace ⟨q,G,hL,Z,Y,N,J,es,hs,hW⟩:=q_10 q G hL Z Y N J es hs hW;go_enter func192,ntmps192;go_wp2_with fail
 refine q.mono ?_;rintro e w' ⟨rfl,rfl⟩;go_wp2_with fail
 go_loopw [4,5,24] (fun xv ov iv wr=>∃(i x o:Nat),i<=24/\iv=.int .i64 (i:Int)/\xv=.int .u64 (x:Int)/\ov=.int .u64 (o:Int)/\aA7 n i=(x,o)/\x<4294967296/\o<32*2 ^ i/\w'=wr) (fun _ _ iv _=>24 - (intOf iv).toNat)
 case atStart=>exact⟨0,x0,W,by omega,rfl,rfl,rfl,G,an,by omega,rfl⟩
 case round =>
  obtain⟨i,x,o,hi,rfl,rfl,rfl,X,hx,ho,rfl⟩:=hrel;by_cases bc:i<24
  ·have a2:(i:Int)<24:=by omega
   have a3:=wJ i;have j:aA7 n (i+1)=aE3 (x,o):=by rw[aA7,X]
   unfold aE3 at j;dsimp only at j;have a4:o<32*2 ^ 23:=bKa ho (Nat.mul_le_mul_left 32 (gBa (by omega) (by omega)));have O:32*2 ^ (i+1)=2*(32*2 ^ i):=by rw[gUa];omega
   have ag:x*x<=4294967295*4294967295:=hPa (by omega) (by omega);obtain⟨p,hp⟩:∃p,x*x=p:=⟨_,rfl⟩
   have wp:IntKind.u64.wrap ((x:Int)*(x:Int))=(p:Int):=by
    rw[<-Int.natCast_mul,hp];exact fU _ (by omega) (by omega)
   rw[hp]at j ag;obtain⟨y,hy⟩:∃y,p / 2147483648=y:=⟨_,rfl⟩
   have ey:(p:Int) / 2147483648=(y:Int):=by omega
   rw[hy]at j;obtain⟨A,I⟩:∃A,2*o=A:=⟨_,rfl⟩
   have wo:IntKind.u64.wrap ((o:Int)*2)=(A:Int):=by rw[fU _ (by omega) (by omega)];omega
   rw[I]at j;have ao:bits .or .u64 (A:Int) 1=((A+1:Nat):Int):=by
    have:=bits_or_u64_nat A 1 (by omega) (by omega);have e:A ||| 1=A+1:=by
     rw[<-I];exact(gEa (i:=1) (show 1<2 ^ 1 by omega) o).symm
    rw[e]at this;exact this
   obtain⟨o3,V⟩:∃o3,A+1=o3:=⟨_,rfl⟩
   rw[V]at ao j;obtain⟨z,U⟩:∃z,y / 2=z:=⟨_,rfl⟩
   have ez:(y:Int) / 2=(z:Int):=by omega
   rw[U]at j;have a9:y<8589934592:=by omega
   clear X hp;replace ⟨j,hy,I,U,V,O,ag⟩:=q_7 j hy I U V O ag;by_cases ak:4294967296<=y
   ·have t:decide ((4294967296:Int)<=(y:Int))=true:=by rw[cBa];omega
    have E:=j.out;rw[bBa ak]at E;replace E:=q_ E;go_wp2_with fail
    exact⟨⟨i+1,z,o3,by omega,by first|rfl|go_num,rfl,rfl,E,by have:=U.out;omega,by have:=O.out;have:=V.out;have:=I.out;omega,by first|rfl|trivial⟩,by simp only[intOf];omega⟩
   ·have t:decide ((4294967296:Int)<=(y:Int))=false:=by rw[bEa];omega
    have E:=j.out;rw[bAa ak]at E;replace E:=q_ E;go_wp2_with fail
    exact⟨⟨i+1,y,A,by omega,by first|rfl|go_num,rfl,rfl,E,by omega,by have:=O.out;have:=I.out;omega,by first|rfl|trivial⟩,by simp only[intOf];omega⟩
  ·obtain rfl:i=24:=by omega
   have ap:Hid (logN n=o):=q_ (by unfold logN;rw[X]);clear X;go_wp2_with fail
   go_ret;exact⟨by rw[ap.out];first|rfl|trivial,rfl⟩
theorem aM7(n:Nat)(j:1<=n)(A:n<=65536):∀i,(aA7 n i).2<32*2 ^ i
 | 0=>by
  obtain⟨E,G,I⟩:=aM2 n j A
  show Lib.bitLen n - 1<32*2 ^ 0
  omega
 | i+1=>by
  have:=aM7 n j A i;rw[aA7];unfold aE3;rw[gUa];split<;>(dsimp only;omega)
end Go.Proofs.YtpcifakangbpaaaGreat
