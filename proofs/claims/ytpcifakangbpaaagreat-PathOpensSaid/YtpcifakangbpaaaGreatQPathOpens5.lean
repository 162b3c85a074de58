/- Parts of the proof of PathOpens: contracts of functions of the program. No condition but those that each theorem names. -/
import Derived.Test.YtpcifakangbpaaaGreatQPathOpens2
import Derived.Shelf.Bits.Mul64
set_option linter.unusedVariables false
set_option linter.unusedSimpArgs false
set_option maxRecDepth 100000
set_option maxHeartbeats 16000000
namespace Go.Proofs.YtpcifakangbpaaaGreat
open Go.RowKit Go.ChangeShapes Go.WideShapes Go.ChangeAt Go.Deep Go.Proofs.Tryz
variable {R xs:List UInt8}{B E J N O S V b base' c f fuel g i j k m n s sd sz:Nat}{Q:Exit->Act->World->Prop}{d w' w0:World}{u v z:Value}{T e t:TypeId}{A:Option Addr}{h os:List Nat}{F:List UInt8->Option Nat}{p:List Nat×List Bool}{a:Act}{α:Type}{H l:List Int}{o:Oper}{G:Array Oper}{K:Act->World->Prop}{y:Array Value}{vs:List Value}{L:List Oper}{I:Bool}{U W Y aa:List (Int×List UInt8)}{P:Program}
def shN (x:Nat):Nat:=x ^^^ x / 8589934592
def aAj (x:Nat):Nat:=shN (shN (shN x*18397679294719823053 % 18446744073709551616)*14181476777654086739 % 18446744073709551616)
theorem shN_lt(x:Nat)(j:x<18446744073709551616):shN x<18446744073709551616:=by
 have h:=jCa x 8589934592;have:=Nat.xor_lt_two_pow (n:=64) (show x<2 ^ 64 by omega) (show x / 8589934592<2 ^ 64 by omega);unfold shN;omega
theorem aB1(x:Nat):aAj x<18446744073709551616:=shN_lt _ (eKa _ (by omega))
theorem aD3(x:Nat)(j:x<18446744073709551616):bits .xor .u64 (x:Int) ((x:Int) / 8589934592)=((shN x:Nat):Int):=xorShift_u64 x 8589934592 j
theorem aJe(x:Nat)(I:x<18446744073709551616)(w:World):Cl 124 #[.int .u64 (x:Int)] w fun e w'=>e=.returned (.int .u64 ((aAj x:Nat):Int))/\w=w':=by
 obtain⟨a,j⟩:=eX (shN x);obtain⟨b,E⟩:∃b,a*18397679294719823053 % 18446744073709551616=b:=⟨_,rfl⟩
 obtain⟨c,A⟩:=eX (shN b);obtain⟨d,G⟩:∃d,c*14181476777654086739 % 18446744073709551616=d:=⟨_,rfl⟩
 have J:=aD3 x I;have O:IntKind.u64.wrap ((a:Int)*18397679294719823053)=(b:Int):=by rw[cTa];omega
 have L:=aD3 b (by omega);have U:IntKind.u64.wrap ((c:Int)*14181476777654086739)=(d:Int):=by rw[cTa];omega
 have V:=aD3 d (by omega);have N:aAj x=shN d:=by unfold aAj;rw[j,E,A,G]
 rw[j]at J;rw[A]at L;rw[N];replace ⟨j,E,A,G⟩:=q_4 j E A G;go_enter func124,ntmps124;go_wp2_with fail
 go_ret;exact⟨rfl,rfl⟩
theorem aKh(x y:Nat)(j:x<18446744073709551616)(A:y<18446744073709551616)(w:World) :
 Cl 172 #[.int .u64 (x:Int),.int .u64 (y:Int)] w fun e w'=>e=.returned (.tuple #[.int .u64 ((x*y / 18446744073709551616:Nat):Int),.int .u64 ((x*y % 18446744073709551616:Nat):Int)])/\w=w':=by
 obtain⟨J,E,L,N⟩:=Lib.mul64_hi x y j A;have O:=Lib.half_mul_le (a:=x / 4294967296) (b:=y / 4294967296) (by omega) (by omega);have U:=Lib.half_mul_le (a:=x / 4294967296) (b:=y % 4294967296) (by omega) (by omega);have V:=Lib.half_mul_le (a:=x % 4294967296) (b:=y / 4294967296) (by omega) (by omega);have ba':x / 4294967296*(y / 4294967296)<18446744073709551616:=by omega
 have bb':x / 4294967296*(y % 4294967296)<18446744073709551616:=by omega
 have bc':x % 4294967296*(y / 4294967296)<18446744073709551616:=by omega
 have G:x / 4294967296*(y / 4294967296)+(x / 4294967296*(y % 4294967296)+x % 4294967296*(y % 4294967296) / 4294967296) / 4294967296<18446744073709551616:=by omega
 have I:x / 4294967296*(y / 4294967296)+(x / 4294967296*(y % 4294967296)+x % 4294967296*(y % 4294967296) / 4294967296) / 4294967296+((x / 4294967296*(y % 4294967296)+x % 4294967296*(y % 4294967296) / 4294967296) % 4294967296+x % 4294967296*(y / 4294967296)) / 4294967296<18446744073709551616:=by omega
 go_enter func172,ntmps172;go_wp2;simp only[Mul64.maskN x j,Mul64.maskN y A,Mul64.divN,Mul64.mulN,Mul64.addN,Mul64.wrapN _ J,Mul64.wrapN _ bb',Mul64.wrapN _ E,Mul64.maskN _ E,Mul64.wrapN _ bc',Mul64.wrapN _ L,Mul64.wrapN _ ba',Mul64.wrapN _ G,Mul64.wrapN _ I,Mul64.wrapM (x*y)];rw[N];go_ret2;exact⟨rfl,rfl⟩
def vS (x n:Nat):Nat:=x*n / 18446744073709551616
theorem belN_lt(x n:Nat)(j:x<18446744073709551616)(A:1<=n):vS x n<n:=by
 unfold vS;rw[Nat.div_lt_iff_lt_mul (by omega),hAa];exact Nat.mul_lt_mul_of_pos_left j A
theorem aP7(x n:Nat)(j:x<18446744073709551616):vS x n<=n:=by
 rcases fRa n with rfl|h
 ·simp[vS]
 ·have:=belN_lt x n j h;omega
theorem aS2(x:Nat)(n:Int)(E:x<18446744073709551616)(J:n<9223372036854775808)(w:World) :
 Cl 161 #[.int .u64 (x:Int),.int .i64 n] w fun e w'=>e=.returned (.int .i64 ((vS x n.toNat:Nat):Int))/\w=w':=by
 by_cases h:n<1
 ·have I:vS x n.toNat=0:=by rw[show n.toNat=0 by omega];simp[vS]
  rw[I];go_enter func161,ntmps161;go_wp2_with fail
  go_ret;exact⟨rfl,rfl⟩
 ·obtain⟨m,rfl⟩:∃m:Nat,n=(m:Int):=⟨n.toNat,by omega⟩
  rw[bMa];have A:=aKh x m E (by omega);have G:=aP7 x m E;have L:IntKind.u64.wrap (m:Int)=(m:Int):=by rw[cTa];omega
  obtain⟨b,j⟩:=eX (vS x m);have N:IntKind.i64.wrap (b:Int)=(b:Int):=by rw[fEa];omega
  unfold vS at j;rw[j]at A;rw[show vS x m=b from j];replace ⟨A,G,j⟩:=q_3 A G j;go_enter func161,ntmps161;go_wp2_with fail
  refine(A _).mono ?_;rintro e w' ⟨rfl,rfl⟩;go_wp2_with fail
  go_ret;exact⟨rfl,rfl⟩
end Go.Proofs.YtpcifakangbpaaaGreat
