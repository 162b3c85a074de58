/- Parts of the proof of PathOpens: contracts of functions of the program. No condition but those that each theorem names. -/
import Derived.Test.YtpcifakangbpaaaGreatQPathOpens15
import Derived.Test.YtpcifakangbpaaaGreatQPathOpens22
import Derived.Lib.ConvBytes
set_option linter.unusedVariables false
set_option linter.unusedSimpArgs false
set_option maxRecDepth 100000
set_option maxHeartbeats 16000000
namespace Go.Proofs.YtpcifakangbpaaaGreat
open Go.RowKit Go.ChangeShapes Go.WideShapes Go.ChangeAt Go.Deep Go.Proofs.Tryz
variable {R xs:List UInt8}{B E J N O S V b base' c f fuel g i j k m n s sd sz:Nat}{Q:Exit->Act->World->Prop}{d w' w0:World}{u v z:Value}{T e t:TypeId}{A:Option Addr}{h os:List Nat}{F:List UInt8->Option Nat}{p:List Nat×List Bool}{a:Act}{α:Type}{H l:List Int}{o:Oper}{G:Array Oper}{K:Act->World->Prop}{y:Array Value}{vs:List Value}{L:List Oper}{I:Bool}{U W Y aa:List (Int×List UInt8)}{P:Program}
theorem size_str(s:List UInt8):(str s).size=s.length:=List.size_toArray
theorem str_get(s:List UInt8)(k:Nat)(c:UInt8)(h:s[k]?=some c)(j:k<(str s).size):(str s)[k]'j=c:=by
 obtain⟨A,rfl⟩:=List.getElem?_eq_some_iff.1 h
 rfl
theorem aBt(A:Bool)(E G:Int):(#[.bool A,.int .u64 E,.int .u64 G]:Array Value).all (·.oneCell')=true:=all_oneCell_toArray (by
 intro v j;simp only[bXa,bVa,dTa]at j;rcases j with rfl|rfl|rfl<;>rfl)
structure Adr where
 v6:Bool
 hi:Nat
 lo:Nat
def Adr.right (a:Adr):Prop:=a.v6=true\/(a.hi=0/\a.lo<4294967296)
def Adr.ok (a:Adr):Prop:=a.hi<18446744073709551616/\a.lo<18446744073709551616
def mkB (x k:Nat):Nat:=x / 2 ^ k*2 ^ k
theorem aPs(x k j:Nat):(mkB x k).testBit j=(decide (k<=j) && x.testBit j):=by
 unfold mkB;rw[<-Nat.shiftRight_eq_div_pow,<-Nat.shiftLeft_eq,Nat.testBit_shiftLeft,Nat.testBit_shiftRight];by_cases h:k<=j
 .simp[h]
 .simp[h]
def Adr.w (a:Adr):Nat:=if a.v6 then 128 else 32
def Adr.bit (a:Adr) (i:Nat):Nat:=if i<a.w then(if a.v6 then(if i<64 then a.hi / 2 ^ (63 - i) % 2 else a.lo / 2 ^ (127 - i) % 2)else a.lo / 2 ^ (31 - i) % 2)else 0
def Adr.mask (a:Adr) (b:Nat):Adr:=if a.v6 then⟨true,mkB a.hi (64 - min b 64),mkB a.lo (64 - (b - 64))⟩else⟨false,a.hi,mkB a.lo (32 - b)⟩
theorem Adr.mask_v6(a:Adr)(b:Nat):(a.mask b).v6=a.v6:=by
 unfold Adr.mask
 cases h:a.v6<;>simp
instance (a:Adr):Decidable a.right:=by unfold Adr.right;infer_instance
deriving instance DecidableEq for Adr
def Adr.aCa (a:Adr) (n:Nat):Bool:=decide (a.right/\n<=a.w/\a.mask n=a)
theorem Adr.w_le(a:Adr):a.w<=128:=by unfold Adr.w;split<;>omega
theorem rightP_w(a:Adr)(n:Nat)(h:a.aCa n=true):a.right/\n<=a.w/\a.mask n=a:=cHa h
abbrev Keys:=List Nat->Option Int
def upd (M:Keys) (k:List Nat) (v:Int):Keys:=fun q=>if q=k then some v else M q
theorem aDt(o:Oper)(h:o.op=.alloc 27)(ρ:Operand->Value)(w:World):(execOp ρ o).run prog w=.ok (.value (.pointer (some ⟨w.heap.size,0,none⟩))) (w.alloc (.cells #[.bool false,.int .u64 0,.int .u64 0] 27)):=by
 obtain⟨d,j,t,A,E,g⟩:=o;dsimp only at h;subst h
 kernel_rfl
def Adr.arr (a:Adr):Array Value:=#[.bool a.v6,.int .u64 (a.hi:Int),.int .u64 (a.lo:Int)]
def gU (v6:Bool) (hi lo:Nat):Bool:=v6 || (decide (hi=0) && decide (lo<4294967296))
theorem aC8(a:Adr):gU a.v6 a.hi a.lo=true↔a.right:=by
 unfold gU Adr.right;simp
theorem vY(E:Bool)(j A:Nat)(w:World) :
 Cl 104 #[.agg #[.bool E,.int .u64 (j:Int),.int .u64 (A:Int)]] w fun e w'=>e=.returned (.bool (gU E j A))/\Below w.heap.size w w':=by
 have J:((j:Int) == 0)=decide (j=0):=by rw[gCa];simp
 have L:decide ((A:Int)<4294967296)=decide (A<4294967296):=by rw[gCa];simp;omega
 unfold gU;obtain⟨N,G⟩:∃b,decide (j=0)=b:=⟨_,rfl⟩
 obtain⟨O,I⟩:∃b,decide (A<4294967296)=b:=⟨_,rfl⟩
 rw[G]at J ⊢;rw[I]at L ⊢;clear G I
 cases E
 .cases N
  .go_enter func104,ntmps104;go_wp2_with fail
   go_ret;exact⟨rfl,bC⟩
  .go_enter func104,ntmps104;go_wp2_with fail
   go_ret;exact⟨rfl,bC⟩
 .go_enter func104,ntmps104;go_wp2_with fail
  go_ret;exact⟨rfl,bC⟩
theorem zV{i:Int}(h:(Lit.int .u64 i).wf=true):∃n:Nat,i=(n:Int)/\n<18446744073709551616:=by
 have j:=u64_wf h;exact⟨i.toNat,by omega,by omega⟩
theorem zX(j:Bool)(A E:Int)(w:World) :
 Cl 139 #[.agg #[.bool j,.int .u64 A,.int .u64 E]] w fun e w'=>e=.returned (.int .i64 (if j then 128 else 32))/\Below w.heap.size w w':=by
 cases j
 .go_enter func139,ntmps139;go_wp2_with fail
  go_ret;exact⟨rfl,bC⟩
 .go_enter func139,ntmps139;go_wp2_with fail
  go_ret;exact⟨rfl,bC⟩
theorem nL{j:Oper}{w:World}(ty:TypeId)(x y:Operand)(G:j.op=.store ty x y)(g o:Nat)(I:a.eval x=.pointer (some ⟨g,o,none⟩))(vs:Array Value)(J:a.eval y=.agg vs)
 {cs:Array Value} {t:TypeId} (A:w.heap[g]?=some (.cells cs t (0,0))) (E:o+vs.size<=cs.size) (L:(P.info? ty).map (·.size)=some vs.size) (N:vs.all (·.oneCell')=true)
 (h:∀w',w'.heap[g]?=some (.cells (pE cs o vs.toList) t (0,0))->w.grownBy w' (some g)->K (a.put j.dst undef) w'):j.wp P a w K Q:=by
 obtain⟨w',e,O,U⟩:=aBe (o:=o) A vs.toList (by simpa using E);refine wp_store_mid ty x y G g o vs I J (aAz A E) L N ?_;rw[e];exact h w' O U
theorem u64_and1(n:Nat)(E:n<18446744073709551616)(s:Nat):bits .and .u64 ((n:Int) / 2 ^ s) 1=((n / 2 ^ s % 2:Nat):Int):=by
 have e:(n:Int) / 2 ^ s=((n / 2 ^ s:Nat):Int):=by push_cast;rfl
 have j:n / 2 ^ s<=n:=jCa _ _;rw[e];obtain⟨q,A⟩:∃q,n / 2 ^ s=q:=⟨_,rfl⟩
 rw[A]at j ⊢;exact bits_mask .u64 64 (by decide) fU 1 (by decide) _ (by omega) (by omega)
def tQ (a:Adr) (i:Int):Int:=if 0<=i then(a.bit i.toNat:Int)else 0
theorem aPy(a:Adr)(ho:a.ok)(i:Int)(h1:-9223372036854775808<=i)(h2:i<=9223372036854775807)(w:World) :
 Cl 109 #[.agg #[.bool a.v6,.int .u64 (a.hi:Int),.int .u64 (a.lo:Int)],.int .i64 i] w fun e w'=>e=.returned (.int .i64 (tQ a i))/\Below w.heap.size w w':=by
 obtain⟨v,N,J⟩:=a;obtain⟨an,ah⟩:=ho;dsimp only at an ah ⊢;obtain⟨U,Y⟩:=eX (w.alloc (.cells #[.bool v,.int .u64 (N:Int),.int .u64 (J:Int)] 27));have j:Below w.heap.size w U:=Y▸bC;have A:=bN Y;have af:w.heap.size<U.heap.size:=by rw[<-Y];simp
 by_cases hn:i<0
 .have t1:decide (i<0)=true:=by rw[cBa];omega
  have E:tQ ⟨v,N,J⟩ i=0:=by unfold tQ;rw[bAa (by omega)]
  rw[E];clear E;replace ⟨A,j,hn⟩:=q_3 A j hn;go_enter func109,ntmps109;go_wp2_with fail
  go_ret;exact⟨rfl,j⟩
 have t1:decide (i<0)=false:=by rw[bEa];omega
 obtain⟨k,rfl⟩:∃k:Nat,i=(k:Int):=⟨i.toNat,by omega⟩
 have ae:=zX v (N:Int) (J:Int) U;have X:=aA A;have aq:∀W:Int,(if v=true then(128:Int)else 32)=W->(∀Z:World,Below U.heap.size U Z->True):=fun _ _ _ _=>trivial
 clear aq
 cases v
 .have hbits':Cl 139 #[.agg #[.bool false,.int .u64 (N:Int),.int .u64 (J:Int)]] U fun e w'=>e=.returned (.int .i64 32)/\Below U.heap.size U w':=ae
  clear ae;by_cases I:k<32
  .have t2:decide ((32:Int)<=(k:Int))=false:=by rw[bEa];omega
   have i1:(0:Int)<=(k:Int):=by omega
   obtain⟨s,O⟩:∃s,31 - k=s:=⟨_,rfl⟩
   have ws:IntKind.i64.wrap (31 - (k:Int))=(s:Int):=by rw[wO _];omega
   have i2:(0:Int)<=(s:Int):=by omega
   have al:min s 64=s:=by omega
   have ha:=u64_and1 J ah s;obtain⟨y,L⟩:∃y,J / 2 ^ s % 2=y:=⟨_,rfl⟩
   rw[L]at ha;have wy:IntKind.i64.wrap (y:Int)=(y:Int):=wO _;have E:tQ ⟨false,N,J⟩ (k:Int)=(y:Int):=by
    unfold tQ Adr.bit Adr.w;simp only[bMa,i1,jEa,eAa,hYa,show k<32 from I];rw[O,L]
   rw[E];clear E;replace ⟨O,L,A,j,I,hbits'⟩:=q_6 O L A j I hbits';go_enter func109,ntmps109;go_wp2_with fail
   clear Y;refine hbits'.mono ?_;rintro e Z ⟨rfl,G⟩;have ad:=q_ (aC G af A);have V:=q_ (j.trans (G.mono j.size));clear X A j G hbits';have X:=aA ad;go_wp2_with fail
   go_ret;exact⟨rfl,V⟩
  .have t2:decide ((32:Int)<=(k:Int))=true:=by rw[cBa];omega
   have E:tQ ⟨false,N,J⟩ (k:Int)=0:=by
    unfold tQ Adr.bit Adr.w;rw[bBa (by omega),bMa,bAa (by simpa using I)]
    rfl
   rw[E];clear E;replace ⟨I,hbits',A,j⟩:=q_4 I hbits' A j;go_enter func109,ntmps109;go_wp2_with fail
   clear Y;refine hbits'.mono ?_;rintro e Z ⟨rfl,G⟩;have V:=q_ (j.trans (G.mono j.size));clear X A j G hbits';go_wp2_with fail
   go_ret;exact⟨rfl,V⟩
 .have hbits':Cl 139 #[.agg #[.bool true,.int .u64 (N:Int),.int .u64 (J:Int)]] U fun e w'=>e=.returned (.int .i64 128)/\Below U.heap.size U w':=ae
  clear ae;by_cases I:k<128
  .have t2:decide ((128:Int)<=(k:Int))=false:=by rw[bEa];omega
   by_cases aa:k<64
   .have t3:decide ((k:Int)<64)=true:=by rw[cBa];omega
    have i1:(0:Int)<=(k:Int):=by omega
    obtain⟨s,O⟩:∃s,63 - k=s:=⟨_,rfl⟩
    have ws:IntKind.i64.wrap (63 - (k:Int))=(s:Int):=by rw[wO _];omega
    have i2:(0:Int)<=(s:Int):=by omega
    have al:min s 64=s:=by omega
    have ha:=u64_and1 N an s;obtain⟨y,L⟩:∃y,N / 2 ^ s % 2=y:=⟨_,rfl⟩
    rw[L]at ha;have wy:IntKind.i64.wrap (y:Int)=(y:Int):=wO _;have E:tQ ⟨true,N,J⟩ (k:Int)=(y:Int):=by
     unfold tQ Adr.bit Adr.w;simp only[bMa,i1,jEa,eAa,hYa,show k<128 from I,aa];rw[O,L]
    rw[E];clear E;replace ⟨O,L,A,j,I,aa,hbits'⟩:=q_7 O L A j I aa hbits';go_enter func109,ntmps109;go_wp2_with fail
    clear Y;refine hbits'.mono ?_;rintro e Z ⟨rfl,G⟩;have ad:=q_ (aC G af A);have V:=q_ (j.trans (G.mono j.size));clear X A j G hbits';have X:=aA ad;go_wp2_with fail
    go_ret;exact⟨rfl,V⟩
   .have t3:decide ((k:Int)<64)=false:=by rw[bEa];omega
    have i1:(0:Int)<=(k:Int):=by omega
    obtain⟨s,O⟩:∃s,127 - k=s:=⟨_,rfl⟩
    have ws:IntKind.i64.wrap (127 - (k:Int))=(s:Int):=by rw[wO _];omega
    have i2:(0:Int)<=(s:Int):=by omega
    have al:min s 64=s:=by omega
    have ha:=u64_and1 J ah s;obtain⟨y,L⟩:∃y,J / 2 ^ s % 2=y:=⟨_,rfl⟩
    rw[L]at ha;have wy:IntKind.i64.wrap (y:Int)=(y:Int):=wO _;have E:tQ ⟨true,N,J⟩ (k:Int)=(y:Int):=by
     unfold tQ Adr.bit Adr.w;simp only[bMa,i1,jEa,eAa,hYa,show k<128 from I,aa];rw[O,L]
    rw[E];clear E;replace ⟨O,L,A,j,I,aa,hbits'⟩:=q_7 O L A j I aa hbits';go_enter func109,ntmps109;go_wp2_with fail
    clear Y;refine hbits'.mono ?_;rintro e Z ⟨rfl,G⟩;have ad:=q_ (aC G af A);have V:=q_ (j.trans (G.mono j.size));clear X A j G hbits';have X:=aA ad;go_wp2_with fail
    go_ret;exact⟨rfl,V⟩
  .have t2:decide ((128:Int)<=(k:Int))=true:=by rw[cBa];omega
   have E:tQ ⟨true,N,J⟩ (k:Int)=0:=by
    unfold tQ Adr.bit Adr.w;rw[bBa (by omega),bMa,bAa (by simpa using I)]
    rfl
   rw[E];clear E;replace ⟨I,hbits',A,j⟩:=q_4 I hbits' A j;go_enter func109,ntmps109;go_wp2_with fail
   clear Y;refine hbits'.mono ?_;rintro e Z ⟨rfl,G⟩;have V:=q_ (j.trans (G.mono j.size));clear X A j G hbits';go_wp2_with fail
   go_ret;exact⟨rfl,V⟩
theorem high_eq(k:Nat)(j:k<=64):18446744073709551616 - 2 ^ k=(2 ^ (64 - k) - 1)*2 ^ k:=by
 rw[Nat.sub_mul,Nat.one_mul,<-Nat.pow_add,show 64 - k+k=64 by omega]
theorem and_high(a k:Nat)(E:a<18446744073709551616)(G:k<=64):a &&& (18446744073709551616 - 2 ^ k)=mkB a k:=by
 apply Nat.eq_of_testBit_eq;intro j;rw[Nat.testBit_and,aPs,high_eq k G,<-Nat.shiftLeft_eq,Nat.testBit_shiftLeft,Nat.testBit_two_pow_sub_one];by_cases A:k<=j
 .by_cases I:j<64
  .simp[A,show j - k<64 - k by omega]
  .rw[Nat.testBit_lt_two_pow (bKa E (show 2 ^ 64<=2 ^ j from gBa (by omega) (by omega)))];simp
 .simp[A]
theorem aGe(a k:Nat)(j:a<18446744073709551616)(A:k<=64):bits .and .u64 (a:Int) ((18446744073709551616 - 2 ^ k:Nat):Int)=((mkB a k:Nat):Int):=by
 have E:0<2 ^ k:=Nat.two_pow_pos k;rw[(bits_nat .u64 64 (by decide) fU a (18446744073709551616 - 2 ^ k) j (by omega)).1,and_high a k j A]
theorem pcut_any(b:Nat)(L:b<=64)(w:World) :
 Cl 158 #[.int .i64 (b:Int)] w fun e w'=>e=.returned (.int .u64 ((18446744073709551616 - 2 ^ (64 - b):Nat):Int))/\w'=w:=by
 by_cases E:b=0
 .subst E;go_enter func158,ntmps158;go_wp2_with fail
  go_ret;exact⟨rfl,rfl⟩
 .have N:((b:Int) == 0)=false:=by rw[bDa];omega
  obtain⟨s,A⟩:∃s,64 - b=s:=⟨_,rfl⟩
  have O:IntKind.i64.wrap (64 - (b:Int))=(s:Int):=by rw[wO _];omega
  have U:(0:Int)<=(s:Int):=by omega
  have V:min s 64=s:=by omega
  have j:IntKind.u64.wrap (18446744073709551615*2 ^ s)=((18446744073709551616 - 2 ^ s:Nat):Int):=by
   have G:0<2 ^ s:=Nat.two_pow_pos s;have I:2 ^ s<=2 ^ 64:=gBa (by omega) (by omega);have e:((2:Int) ^ s)=((2 ^ s:Nat):Int):=by push_cast;rfl
   rw[cTa,e];obtain⟨P,J⟩:=eX (2 ^ s);rw[J]at G I ⊢;omega
  rw[A,<-j];replace ⟨A,E,j⟩:=q_3 A E j;go_enter func158,ntmps158;go_wp2_with fail
  go_ret;exact⟨rfl,rfl⟩
def yM (a:Adr) (i:Int):Nat:=(min (max i 0) (a.w:Int)).toNat
theorem aF4(b:Nat)(j:b<=64)(w:World) :
 Cl 158 #[.int .i64 (b:Int)] w fun e w'=>e=.returned (.int .u64 ((18446744073709551616 - 2 ^ (64 - b):Nat):Int))/\Below w.heap.size w w' :=
 (pcut_any b j w).mono fun _ _ h=>⟨h.1,h.2▸bLa _ _⟩
theorem Mask_any(a:Adr)(ho:a.ok)(i:Int)(w:World) :
 Cl 140 #[.agg #[.bool a.v6,.int .u64 (a.hi:Int),.int .u64 (a.lo:Int)],.int .i64 i] w fun e w'=>e=.returned (.agg (a.mask (yM a i)).arr)/\Below w.heap.size w w':=by
 obtain⟨v,A,E⟩:=a;obtain⟨bp,bf⟩:=ho;dsimp only at bp bf ⊢;obtain⟨w1,ap⟩:=eX (w.alloc (.cells #[.bool v,.int .u64 (A:Int),.int .u64 (E:Int)] 27));have I:=bN ap;have bs:w1.heap.size=w.heap.size+1:=by rw[<-ap];simp
 have a1:Below w.heap.size w w1:=ap▸bC;obtain⟨w2,ar⟩:=eX (w1.alloc (.cells #[.bool false,.int .u64 0,.int .u64 0] 27));have U:=bN ar;have hB2':Below w1.heap.size w1 w2:=ar▸bC;have b3:w1.heap.size<w2.heap.size:=by rw[<-ar];simp
 rw[bs]at U;have I:=kB hB2' I;have N:=a1.trans (hB2'.mono a1.size);clear a1 hB2';have hz:w.heap.size+1<w2.heap.size:=by omega
 obtain⟨m,hm⟩:∃m:Nat,max i 0=(m:Int):=⟨(max i 0).toNat,by omega⟩
 have Y:yM ⟨v,A,E⟩ i=min m (Adr.w ⟨v,A,E⟩):=by unfold yM;rw[hm];omega
 rw[Y];clear Y
 cases v
 .obtain⟨B,ab⟩:∃B,min m 32=B:=⟨_,rfl⟩
  have bt:min (m:Int) 32=(B:Int):=by omega
  have ai:(Adr.mask ⟨false,A,E⟩ (min m (Adr.w ⟨false,A,E⟩)))=⟨false,A,mkB E (32 - B)⟩:=by
   show Adr.mask ⟨false,A,E⟩ (min m 32)=_
   rw[ab];rfl
  rw[ai];unfold Adr.arr;dsimp only;obtain⟨c,hc⟩:∃c,B+32=c:=⟨_,rfl⟩
  have wc':IntKind.i64.wrap ((B:Int)+32)=(c:Int):=by rw[wO _];omega
  have aj:=q_ (fun w=>zX false (A:Int) (E:Int) w);have q1:=fun l=>aF4 c (by omega) l
  have a2:=aGe E (64 - c) bf (by omega);rw[show 64 - c=32 - B by omega]at a2;have e1:∀w:World,Cl 158 #[.int .i64 (c:Int)] w fun e w'=>e=.returned (.int .u64 ((18446744073709551616 - 2 ^ (32 - B):Nat):Int))/\Below w.heap.size w w':=by
   intro w;have:=q1 w
   rwa[show 64 - c=32 - B by omega]at this
  obtain⟨H,hH⟩:∃H,18446744073709551616 - 2 ^ (32 - B)=H:=⟨_,rfl⟩
  obtain⟨R,hR⟩:∃R,mkB E (32 - B)=R:=⟨_,rfl⟩
  rw[hH]at a2 e1;rw[hR]at a2 ⊢;have aa:=aA I;clear q1 ai;replace ⟨I,U,N,e1,hH,hR,ab,hc⟩:=q_8 I U N e1 hH hR ab hc;go_enter func140,ntmps140;go_wp2_with fail
  clear ap ar;refine(aj w2).mono ?_;rintro e w3 ⟨rfl,L⟩;have V:=q_ (kB L I);have al:=q_ (aC L hz U);have ac:=q_ (N.trans (L.mono N.size));have bu:=L.size;clear L aa I U N aj;have aa:=aA V;simp only[eAa,hYa];go_upto_region 4 with fail
  have Y:=fun l:Later w3=>aA (kB l.hb V)
  have q:=fun l:Later w3=>e1 l.w
  clear aa;refine rL ?_;refine eS 0 3 4 ?_;simp only[dA,dC,dD];iterate 3 refine qE ?_
  refine aT ?_;refine eS 3 2 2 ?_;simp only[dB,dA,dC,dD]
  (refine aD (fun K X=>?_);go_simp;apply bSa;refine⟨fun l=>?_,X _ ?_⟩;(go_at_call 158;refine(q l).mono ?_;rintro e w' ⟨rfl,hb⟩;exact⟨rfl,hb⟩);clear X K)
  refine qE ?_;refine aT ?_;clear Y q;refine eE fun O=>?_;have W:=q_ (kB O.hb V);have am:=q_ (kB O.hb al);have an:=q_ (ac.trans (O.hb.mono ac.size));have bv:=O.hb.size;obtain⟨J,e9,G,j⟩:=eY W 2 (.int .u64 (R:Int));have G:Hid (J.heap[w.heap.size]?=some (.cells #[.bool false,.int .u64 (A:Int),.int .u64 (R:Int)] 27 (0,0))):=q_ (G);have c9:=aA W 2;have f9:=bD W 2;replace j:=q_ j;refine tM 5 rfl ?_;refine tM 6 rfl ?_;refine tD ?_;have az:=q_ (fC j (by omega) (by omega) am);have ad:Hid (Below w.heap.size w J):=q_ (an.trans (below_grown j (by omega) (aZa _)));have bw:=j.size;clear e9 c9 f9 j am an V al ac W;go_upto_region 5 with fail
  apply aWa;refine uH rfl 27 (.tmp 2) rfl w.heap.size rfl _ _ G dSa rfl (by kernel_rfl) ?_;refine sW 27 (.tmp 4) (.tmp 21) (w.heap.size+1) (#[.bool false,.int .u64 (A:Int),.int .u64 (R:Int)]) az (aBt _ _ _) dSa fun J G j Z=>?_;have a7:Hid (Below (w.heap.size) w J):=q_ ((ad).trans (below_grown j (by have:=(ad).size;omega) (by omega)));clear G j;replace Z:=q_ Z;refine bCa ?_;go_simp;go_wp2_with fail
  exact aYa (v:=.agg #[.bool false,.int .u64 (A:Int),.int .u64 (R:Int)]) (by simp[results,results140,asAddr,Z.out]) rfl ⟨rfl,a7⟩
 .obtain⟨B,ab⟩:∃B,min m 128=B:=⟨_,rfl⟩
  have bt:min (m:Int) 128=(B:Int):=by omega
  have ai:(Adr.mask ⟨true,A,E⟩ (min m (Adr.w ⟨true,A,E⟩)))=⟨true,mkB A (64 - min B 64),mkB E (64 - (B - 64))⟩:=by
   show Adr.mask ⟨true,A,E⟩ (min m 128)=_
   rw[ab];rfl
  rw[ai];unfold Adr.arr;dsimp only;obtain⟨c1,bc⟩:∃c,min B 64=c:=⟨_,rfl⟩
  obtain⟨c2,bd⟩:∃c,B - 64=c:=⟨_,rfl⟩
  have b4:min (B:Int) 64=(c1:Int):=by omega
  have b5:IntKind.i64.wrap ((B:Int) - 64)=(B:Int) - 64:=by rw[fEa];omega
  have b6:max ((B:Int) - 64) 0=(c2:Int):=by omega
  rw[bc,bd];have aj:=q_ (fun w=>zX true (A:Int) (E:Int) w);have q1:=q_ (fun w=>aF4 c1 (by omega) w);have q2:=q_ (fun w=>aF4 c2 (by omega) w);have bk:=aGe A (64 - c1) bp (by omega);have bl:=aGe E (64 - c2) bf (by omega);obtain⟨H1,a8⟩:∃H,18446744073709551616 - 2 ^ (64 - c1)=H:=⟨_,rfl⟩
  obtain⟨H2,a9⟩:∃H,18446744073709551616 - 2 ^ (64 - c2)=H:=⟨_,rfl⟩
  obtain⟨R1,ba⟩:∃R,mkB A (64 - c1)=R:=⟨_,rfl⟩
  obtain⟨R2,bb⟩:∃R,mkB E (64 - c2)=R:=⟨_,rfl⟩
  rw[a8]at bk q1;rw[a9]at bl q2;rw[ba]at bk ⊢;rw[bb]at bl ⊢;have aa:=aA I;clear ai;replace ⟨I,U,N,a8,a9,ba,bb,ab,bc,bd⟩:=q_10 I U N a8 a9 ba bb ab bc bd;go_enter func140,ntmps140;go_wp2_with fail
  clear ap ar;refine(aj w2).mono ?_;rintro e w3 ⟨rfl,L⟩;have V:=q_ (kB L I);have al:=q_ (aC L hz U);have ac:=q_ (N.trans (L.mono N.size));have bu:=L.size;clear L aa I U N aj;have aa:=aA V;simp only[jEa];go_upto_region 6 with fail
  have Y:=fun l:Later w3=>aA (kB l.hb V)
  have q:=fun l:Later w3=>q1 l.w
  clear aa;refine rL ?_;refine eS 0 4 4 ?_;simp only[dA,dC,dD];iterate 4 refine qE ?_
  refine aT ?_;refine eS 4 2 2 ?_;simp only[dB,dA,dC,dD]
  (refine aD (fun K X=>?_);go_simp;apply bSa;refine⟨fun l=>?_,X _ ?_⟩;(go_at_call 158;refine(q l).mono ?_;rintro e w' ⟨rfl,hb⟩;exact⟨rfl,hb⟩);clear X K)
  refine qE ?_;refine aT ?_;clear Y q;refine eE fun O=>?_;have W:=q_ (kB O.hb V);have am:=q_ (kB O.hb al);have an:=q_ (ac.trans (O.hb.mono ac.size));have bv:=O.hb.size;obtain⟨J,e9,G,j⟩:=eY W 1 (.int .u64 (R1:Int));have G:Hid (J.heap[w.heap.size]?=some (.cells #[.bool true,.int .u64 (R1:Int),.int .u64 (E:Int)] 27 (0,0))):=q_ (G);have c9:=aA W 1;have f9:=bD W 1;replace j:=q_ j;refine tM 6 rfl ?_;refine tM 7 rfl ?_;refine tD ?_;have az:=q_ (fC j (by omega) (by omega) am);have ad:Hid (Below w.heap.size w J):=q_ (an.trans (below_grown j (by omega) (aZa _)));have bw:=j.size;clear e9 c9 f9 j am an V al ac W;go_upto_region 7 with fail
  have Y:=fun l:Later J=>aA (kB l.hb G)
  have q:=fun l:Later J=>q2 l.w
  refine rL ?_;refine eS 0 5 4 ?_;simp only[dA,dC,dD];iterate 5 refine qE ?_
  refine aT ?_;refine eS 5 2 2 ?_;simp only[dB,dA,dC,dD]
  (refine aD (fun K X=>?_);go_simp;apply bSa;refine⟨fun l=>?_,X _ ?_⟩;(go_at_call 158;refine(q l).mono ?_;rintro e w' ⟨rfl,hb⟩;exact⟨rfl,hb⟩);clear X K)
  refine qE ?_;refine aT ?_;clear Y q;refine eE fun l3=>?_;have a0:=q_ (kB l3.hb G);have bm:=q_ (kB l3.hb az);have bn:=q_ (ad.trans (l3.hb.mono ad.size));have b7:=l3.hb.size;obtain⟨bq,b2,be,ao⟩:=eY a0 2 (.int .u64 (R2:Int));have be:Hid (bq.heap[w.heap.size]?=some (.cells #[.bool true,.int .u64 (R1:Int),.int .u64 (R2:Int)] 27 (0,0))):=q_ (be);have bx:=aA a0 2;have bz:=bD a0 2;replace ao:=q_ ao;refine tM 7 rfl ?_;refine tM 8 rfl ?_;refine tD ?_;have b0:=q_ (fC ao (by omega) (by omega) bm);have bo:Hid (Below w.heap.size w bq):=q_ (bn.trans (below_grown ao (by omega) (aZa _)));clear b2 bx bz ao bm bn az ad G a0;go_upto_region 8 with fail
  apply aWa;refine uH rfl 27 (.tmp 2) rfl w.heap.size rfl _ _ be dSa rfl (by kernel_rfl) ?_;refine sW 27 (.tmp 4) (.tmp 37) (w.heap.size+1) (#[.bool true,.int .u64 (R1:Int),.int .u64 (R2:Int)]) b0 (aBt _ _ _) dSa fun J G j Z=>?_;have a7:Hid (Below (w.heap.size) w J):=q_ ((bo).trans (below_grown j (by have:=(bo).size;omega) (by omega)));clear G j;replace Z:=q_ Z;refine bCa ?_;go_simp;go_wp2_with fail
  exact aYa (v:=.agg #[.bool true,.int .u64 (R1:Int),.int .u64 (R2:Int)]) (by simp[results,results140,asAddr,Z.out]) rfl ⟨rfl,a7⟩
def dL (a:Adr) (i:Int):Bool:=decide (0<=i) && a.aCa i.toNat
theorem aUk(a:Adr)(i:Int)(h:gU a.v6 a.hi a.lo=false):dL a i=false:=by
 unfold dL Adr.aCa;rw[Bool.and_eq_false_iff];right;rw[bEa];rintro⟨j,-⟩;rw[(aC8 a).2 j]at h
 cases h
theorem aKs(a:Adr)(i:Int)(h:i<0):dL a i=false:=by
 unfold dL;rw[bWa (by omega)]
 rfl
theorem aUm(a:Adr)(i:Int)(j:0<=i)(h:(a.w:Int)<i):dL a i=false:=by
 unfold dL Adr.aCa;rw[Bool.and_eq_false_iff];right;rw[bEa];rintro⟨-,A,-⟩;omega
theorem right_is(a:Adr)(i:Int)(j:gU a.v6 a.hi a.lo=true)(A:0<=i)(h:i<=(a.w:Int)):dL a i=decide (a.mask (yM a i)=a):=by
 have e:yM a i=i.toNat:=by unfold yM;omega
 unfold dL Adr.aCa;rw[bYa A,gWa,e,decide_eq_decide];exact⟨fun h=>h.2.2,fun E=>⟨(aC8 a).1 j,by omega,E⟩⟩
def pArr (a:Adr) (i:Int):Array Value:=#[.bool a.v6,.int .u64 (a.hi:Int),.int .u64 (a.lo:Int),.int .i64 i]
theorem aC5(a:Adr)(ho:a.ok)(i:Int)(w:World) :
 Cl 107 #[.agg (pArr a i)] w fun e w'=>e=.returned (.bool (dL a i))/\Below w.heap.size w w':=by
 have U:=aUk a i;have X:=aKs a i;have V:=aUm a i;have L:=right_is a i;have Z:=Mask_any a ho i;have aj:=a.mask_v6 (yM a i);have az:=a.w_le;have hR:=fun w=>vY a.v6 a.hi a.lo w
 have ah:∀w:World,Cl 139 #[.agg #[.bool a.v6,.int .u64 (a.hi:Int),.int .u64 (a.lo:Int)]] w fun e w'=>e=.returned (.int .i64 (a.w:Int))/\Below w.heap.size w w':=by
  intro w;have h:=zX a.v6 (a.hi:Int) (a.lo:Int) w;have e:(if a.v6=true then(128:Int)else 32)=(a.w:Int):=by unfold Adr.w;split<;>rfl
  rwa[e]at h
 obtain⟨W,hW⟩:=eX a.w;rw[hW]at V L ah az;obtain⟨⟨mv,mh,ml⟩,hM⟩:∃M,a.mask (yM a i)=M:=⟨_,rfl⟩
 rw[hM]at Z L aj;obtain⟨RP,av⟩:∃x,dL a i=x:=⟨_,rfl⟩
 rw[av]at U X V L ⊢;unfold pArr;obtain⟨v,hi,lo⟩:=a;clear hW hM av ho;dsimp only at U X V L Z aj hR ah ⊢;subst aj;unfold Adr.arr at Z;dsimp only at Z;obtain⟨Y,O⟩:=eX (w.alloc (.cells #[.bool mv,.int .u64 (hi:Int),.int .u64 (lo:Int),.int .i64 i] 181));have G:Hid (Below w.heap.size w Y):=q_ (O▸bC);have hg:Hid (Y.heap[w.heap.size]?=some (.cells #[.bool mv,.int .u64 (hi:Int),.int .u64 (lo:Int),.int .i64 i] 181 (0,0))):=q_ (O▸aJ _ _ _);have a1:w.heap.size<Y.heap.size:=by rw[<-O];simp
 have aa:=fun l:Later Y=>aA (aC l.hb a1 hg)
 obtain⟨RB,aw⟩:∃x,gU mv hi lo=x:=⟨_,rfl⟩
 rw[aw]at U L hR;have q1:=q_ (fun l:Later Y=>hR l.w);have q2:=q_ (fun l:Later Y=>ah l.w);have q3:=q_ (fun l:Later Y=>Z l.w);clear aw hR ah Z
 cases RB
 .obtain rfl:RP=false:=U rfl;clear U X V L;go_enter func107,ntmps107;go_upto_region 1 with fail
  clear O;refine rL ?_;refine eS 0 27 0 ?_;simp only[dA,dC,dD];iterate 2 refine qE ?_
  (refine aD (fun K j=>?_);go_simp;apply bSa;refine⟨fun l=>?_,j _ ?_⟩;(go_at_call 104;refine(q1 l).mono ?_;rintro e w' ⟨rfl,A⟩;exact⟨rfl,A⟩);clear j K)
  refine jD (.bool false) 3 rfl (fun l=>rfl) (by as_aux_lemma=>kernel_rfl) ?_;dsimp only[wW,List.take_succ_cons,List.take_zero,List.drop_succ_cons,List.drop_zero,Act.put];refine qE ?_;refine jD (.bool false) 6 rfl (fun l=>rfl) (by as_aux_lemma=>kernel_rfl) ?_;dsimp only[wW,List.take_succ_cons,List.take_zero,List.drop_succ_cons,List.drop_zero,Act.put];refine qE ?_;refine jD (.bool false) 8 rfl (fun l=>rfl) (by as_aux_lemma=>kernel_rfl) ?_;dsimp only[wW,List.take_succ_cons,List.take_zero,List.drop_succ_cons,List.drop_zero,Act.put];iterate 2 refine qE ?_
  refine aT ?_;refine eD fun w2 E=>?_;clear aa;have I:=q_ (G.trans (E.mono G.size));clear E;go_wp2_with fail
  go_ret;exact⟨rfl,I⟩
 by_cases J:i<0
 .obtain rfl:RP=false:=X J;have t1:decide (0<=i)=false:=by rw[bEa];omega
  have t2:¬ 0<=i:=by omega
  clear U X V L;replace J:=q_ J;go_enter func107,ntmps107;go_upto_region 1 with fail
  clear O;refine rL ?_;refine eS 0 27 0 ?_;simp only[dA,dC,dD];iterate 2 refine qE ?_
  (refine aD (fun K j=>?_);go_simp;apply bSa;refine⟨fun l=>?_,j _ ?_⟩;(go_at_call 104;refine(q1 l).mono ?_;rintro e w' ⟨rfl,A⟩;exact⟨rfl,A⟩);clear j K)
  iterate 4 refine qE ?_
  refine qE ?_;refine jD (.bool false) 6 rfl (fun l=>rfl) (by as_aux_lemma=>kernel_rfl) ?_;dsimp only[wW,List.take_succ_cons,List.take_zero,List.drop_succ_cons,List.drop_zero,Act.put];refine qE ?_;refine jD (.bool false) 8 rfl (fun l=>rfl) (by as_aux_lemma=>kernel_rfl) ?_;dsimp only[wW,List.take_succ_cons,List.take_zero,List.drop_succ_cons,List.drop_zero,Act.put];iterate 2 refine qE ?_
  refine aT ?_;refine eD fun w2 E=>?_;clear aa;have I:=q_ (G.trans (E.mono G.size));clear E;go_wp2_with fail
  go_ret;exact⟨rfl,I⟩
 have h0':0<=i:=by omega
 have t1:decide (0<=i)=true:=bYa h0';by_cases N:(W:Int)<i
 .obtain rfl:RP=false:=V h0' N;have t2:decide (i<=(W:Int))=false:=by rw[bEa];omega
  have t3:¬ i<=(W:Int):=by omega
  clear U X V L;replace ⟨J,N⟩:=q_2 J N;go_enter func107,ntmps107;go_upto_region 1 with fail
  clear O;refine rL ?_;refine eS 0 27 0 ?_;simp only[dA,dC,dD];iterate 2 refine qE ?_
  (refine aD (fun K j=>?_);go_simp;apply bSa;refine⟨fun l=>?_,j _ ?_⟩;(go_at_call 104;refine(q1 l).mono ?_;rintro e w' ⟨rfl,A⟩;exact⟨rfl,A⟩);clear j K)
  iterate 4 refine qE ?_
  refine qE ?_;iterate 5 refine qE ?_
  (refine aD (fun K j=>?_);go_simp;apply bSa;refine⟨fun l=>?_,j _ ?_⟩;(go_at_call 139;refine(q2 l).mono ?_;rintro e w' ⟨rfl,A⟩;exact⟨rfl,A⟩);clear j K)
  iterate 2 refine qE ?_
  refine jD (.bool false) 8 rfl (fun l=>rfl) (by as_aux_lemma=>kernel_rfl) ?_;dsimp only[wW,List.take_succ_cons,List.take_zero,List.drop_succ_cons,List.drop_zero,Act.put];iterate 2 refine qE ?_
  refine aT ?_;refine eD fun w2 E=>?_;clear aa;have I:=q_ (G.trans (E.mono G.size));clear E;go_wp2_with fail
  go_ret;exact⟨rfl,I⟩
 have hw':i<=(W:Int):=by omega
 have t2:decide (i<=(W:Int))=true:=bYa hw';have ac:=L rfl h0' hw';clear U X V L;by_cases e1:mh=hi
 .subst e1;by_cases e2:ml=lo
  .subst e2;rw[bYa rfl]at ac;subst ac;replace ⟨J,N⟩:=q_2 J N;go_enter func107,ntmps107;go_upto_region 1 with fail
   clear O;refine rL ?_;refine eS 0 27 0 ?_;simp only[dA,dC,dD];iterate 2 refine qE ?_
   (refine aD (fun K j=>?_);go_simp;apply bSa;refine⟨fun l=>?_,j _ ?_⟩;(go_at_call 104;refine(q1 l).mono ?_;rintro e w' ⟨rfl,A⟩;exact⟨rfl,A⟩);clear j K)
   iterate 4 refine qE ?_
   refine qE ?_;iterate 5 refine qE ?_
   (refine aD (fun K j=>?_);go_simp;apply bSa;refine⟨fun l=>?_,j _ ?_⟩;(go_at_call 139;refine(q2 l).mono ?_;rintro e w' ⟨rfl,A⟩;exact⟨rfl,A⟩);clear j K)
   iterate 2 refine qE ?_
   iterate 5 refine qE ?_
   (refine aD (fun K j=>?_);go_simp;apply bSa;refine⟨fun l=>?_,j _ ?_⟩;(go_at_call 140;refine(q3 l).mono ?_;rintro e w' ⟨rfl,A⟩;exact⟨rfl,A⟩);clear j K)
   iterate 5 refine qE ?_
   refine aT ?_;refine eD fun w2 E=>?_;clear aa;have I:=q_ (G.trans (E.mono G.size));clear E;go_wp2_with fail
   go_ret;exact⟨rfl,I⟩
  .have n2:¬ (ml:Int)=(lo:Int):=by omega
   rw[bWa (fun h=>e2 (Adr.mk.inj h).2.2)]at ac;subst ac;replace ⟨J,N⟩:=q_2 J N;go_enter func107,ntmps107;go_upto_region 1 with fail
   clear O;refine rL ?_;refine eS 0 27 0 ?_;simp only[dA,dC,dD];iterate 2 refine qE ?_
   (refine aD (fun K j=>?_);go_simp;apply bSa;refine⟨fun l=>?_,j _ ?_⟩;(go_at_call 104;refine(q1 l).mono ?_;rintro e w' ⟨rfl,A⟩;exact⟨rfl,A⟩);clear j K)
   iterate 4 refine qE ?_
   refine qE ?_;iterate 5 refine qE ?_
   (refine aD (fun K j=>?_);go_simp;apply bSa;refine⟨fun l=>?_,j _ ?_⟩;(go_at_call 139;refine(q2 l).mono ?_;rintro e w' ⟨rfl,A⟩;exact⟨rfl,A⟩);clear j K)
   iterate 2 refine qE ?_
   iterate 5 refine qE ?_
   (refine aD (fun K j=>?_);go_simp;apply bSa;refine⟨fun l=>?_,j _ ?_⟩;(go_at_call 140;refine(q3 l).mono ?_;rintro e w' ⟨rfl,A⟩;exact⟨rfl,A⟩);clear j K)
   iterate 5 refine qE ?_
   refine aT ?_;refine eD fun w2 E=>?_;clear aa;have I:=q_ (G.trans (E.mono G.size));clear E;go_wp2_with fail
   go_ret;exact⟨rfl,I⟩
 .have n1:¬ (mh:Int)=(hi:Int):=by omega
  rw[bWa (fun h=>e1 (Adr.mk.inj h).2.1)]at ac;subst ac;replace ⟨J,N⟩:=q_2 J N;go_enter func107,ntmps107;go_upto_region 1 with fail
  clear O;refine rL ?_;refine eS 0 27 0 ?_;simp only[dA,dC,dD];iterate 2 refine qE ?_
  (refine aD (fun K j=>?_);go_simp;apply bSa;refine⟨fun l=>?_,j _ ?_⟩;(go_at_call 104;refine(q1 l).mono ?_;rintro e w' ⟨rfl,A⟩;exact⟨rfl,A⟩);clear j K)
  iterate 4 refine qE ?_
  refine qE ?_;iterate 5 refine qE ?_
  (refine aD (fun K j=>?_);go_simp;apply bSa;refine⟨fun l=>?_,j _ ?_⟩;(go_at_call 139;refine(q2 l).mono ?_;rintro e w' ⟨rfl,A⟩;exact⟨rfl,A⟩);clear j K)
  iterate 2 refine qE ?_
  iterate 5 refine qE ?_
  (refine aD (fun K j=>?_);go_simp;apply bSa;refine⟨fun l=>?_,j _ ?_⟩;(go_at_call 140;refine(q3 l).mono ?_;rintro e w' ⟨rfl,A⟩;exact⟨rfl,A⟩);clear j K)
  iterate 5 refine qE ?_
  refine aT ?_;refine eD fun w2 E=>?_;clear aa;have I:=q_ (G.trans (E.mono G.size));clear E;go_wp2_with fail
  go_ret;exact⟨rfl,I⟩
theorem aSd(a:Adr)(m:Nat):dL a (m:Int)=a.aCa m:=by
 unfold dL;rw[bYa (by omega),gWa,bMa]
structure Nd where
 name:List UInt8
 kind:Int
 above:Int
 weight:Int
 a:Adr
structure Vp where
 a:Adr
 proto:Int
 port:Int
 copies:Int
 nat:Bool
structure Vw where
 a:Adr
 bits:Int
 level:Int
structure Cfg where
 nodes:List Nd
 vips:List Vp
 views:List Vw
 factor:Int
 domain:Int
 s0:Adr
 s1:Adr
 fs:Bool
 ds:Bool
abbrev zA:Adr:=⟨false,0,0⟩
def Cfg.small (c:Cfg) (k:Nat):Prop:=c.nodes.length<=k/\c.vips.length<=k/\c.views.length<=k
theorem eqw(y l:List UInt8):((str y).toList == l)=decide (y=l):=by
 rw[show(str y).toList=y by simp[str,ByteArray.toList_eq]];by_cases h:y=l
 .subst h;simp
 .rw[bWa h,bDa];exact h
section
theorem aL{w:World}{o:Obj}(h:w.heap[g]?=some o):g<w.heap.size:=by
 rcases eMa g w.heap.size with j|j
 .exact j
 .rw[eZa j]at h;cases h
def ndC (n:Nd):List Value:=[.string (str n.name),.int .i64 n.kind,.int .i64 n.above,.int .i64 n.weight,.bool n.a.v6,.int .u64 (n.a.hi:Int),.int .u64 (n.a.lo:Int)]
def vpC (v:Vp):List Value:=[.bool v.a.v6,.int .u64 (v.a.hi:Int),.int .u64 (v.a.lo:Int),.int .i64 v.proto,.int .i64 v.port,.int .i64 v.copies,.bool v.nat]
def vwC (v:Vw):List Value:=[.bool v.a.v6,.int .u64 (v.a.hi:Int),.int .u64 (v.a.lo:Int),.int .i64 v.bits,.int .i64 v.level]
theorem aQe:(prog.info? 93).map (fun i=>(i.zero,i.size,i.bytes))=some (some (.agg #[.string ⟨#[]⟩,.int .i64 0,.int .i64 0,.int .i64 0,.bool false,.int .u64 0,.int .u64 0]),7,64):=by kernel_rfl
theorem info_vp:(prog.info? 52).map (fun i=>(i.zero,i.size,i.bytes))=some (some (.agg #[.bool false,.int .u64 0,.int .u64 0,.int .i64 0,.int .i64 0,.int .i64 0,.bool false]),7,56):=by kernel_rfl
theorem info_vw:(prog.info? 183).map (fun i=>(i.zero,i.size,i.bytes))=some (some (.agg #[.bool false,.int .u64 0,.int .u64 0,.int .i64 0,.int .i64 0]),5,40):=by kernel_rfl
section
variable {w w':World} {base x size n:Nat} {e T:TypeId} {v:Value} {xs:List Value} {cs:Array Value}
theorem kU(h:w.ownsRow base e size v n xs){A:Nat×Nat}(j:w.heap[x]?=some (.cells cs T A))(E:T≠e):v.ownBlock=none\/v.ownBlock≠some x:=by
 rcases h.2 with⟨rfl,_⟩|⟨g,cap,I,rfl,J,G,_⟩
 .exact .inl rfl
 .right;intro e2;have:g=x:=by simpa[Value.ownBlock]using e2
  subst this;rw[G]at j;simp at j;exact E j.2.1.symm
theorem gK(h:w.ownsRow base e size v n xs)(j:w.heap[x]?=some (.cells cs T (0,0)))(A:T≠e)(i:Nat)(u:Value):(w.setCell ⟨x,i,none⟩ u).ownsRow base e size v n xs:=by
 obtain⟨I,E,J,G⟩:=eY j i u;rw[E];exact cDa h G (kU h j A)
end
section
variable {w w':World} {base x:Nat} {T:TypeId} {e1 e2 e1' e2' nv vv wv nv':Value} {c c':Cfg}
end
section
variable {w w':World} {base x mb ma:Nat} {nv vv wv nv':Value} {c c':Cfg}
end
end
section
open Go.Maps (Keyed)
section
theorem aT0(d:Nat)(b:Bool):prog.keyLits (d+1) 4 [.bool b]=some [.bool b]:=by simp[Program.keyLits,underlying4]
theorem aM5(d n:Nat)(h:n<18446744073709551616):prog.keyLits (d+1) 25 [.int .u64 (n:Int)]=some [.int .u64 (n:Int)]:=by
 have j:(Lit.int .u64 (n:Int)).wf=true:=WalkArith.wf_u64 ⟨by omega,by omega⟩;simp[Program.keyLits,hFa,j]
theorem aM4(d:Nat)(n:Int)(j:-9223372036854775808<=n)(A:n<=9223372036854775807):prog.keyLits (d+1) 3 [.int .i64 n]=some [.int .i64 n]:=by
 have E:(Lit.int .i64 n).wf=true:=WalkArith.wf_i64 ⟨j,A⟩;simp[Program.keyLits,hTa,E]
theorem aRj:prog.cellsOf 4=1:=by kernel_rfl
theorem aS6:prog.cellsOf 25=1:=by kernel_rfl
theorem aGm:prog.cellsOf 3=1:=by kernel_rfl
theorem aDw:prog.cellsOf 27=3:=by kernel_rfl
theorem aJ3:prog.cellsOf 198=5:=by kernel_rfl
theorem aFh{d:Nat}{j:Array Field}{cs:List Value}(A:P.underlying t=some (.struct j)):P.keyLits (d+1) t cs=if cs.length=P.cellsOf t/\j.all (·.name != "_")=true then(j.toList.mapM fun f=>P.keyLits d f.type ((cs.drop f.offset).take (P.cellsOf f.type))).map List.flatten else none:=by
 conv=>lhs;unfold Program.keyLits
 rw[A]
theorem aM3(d:Nat)(E:Bool)(j A:Nat)(G:j<18446744073709551616)(I:A<18446744073709551616):prog.keyLits (d+2) 27 [.bool E,.int .u64 (j:Int),.int .u64 (A:Int)]=some [.bool E,.int .u64 (j:Int),.int .u64 (A:Int)]:=by
 rw[aFh dSa];simp[aDw,aRj,aS6,aT0,aM5 _ _ G,aM5 _ _ I]
theorem lits_key(d:Nat)(I:Bool)(E G:Nat)(j A:Int)(J:E<18446744073709551616)(L:G<18446744073709551616)(N:-9223372036854775808<=j)(O:j<=9223372036854775807)(U:-9223372036854775808<=A)(V:A<=9223372036854775807) :
 prog.keyLits (d+3) 198 [.bool I,.int .u64 (E:Int),.int .u64 (G:Int),.int .i64 j,.int .i64 A]=some [.bool I,.int .u64 (E:Int),.int .u64 (G:Int),.int .i64 j,.int .i64 A]:=by
 rw[aFh underlying198];simp[aJ3,aDw,aGm,aM3 _ _ _ _ J L,aM4 _ _ N O,aM4 _ _ U V]
def kV (v6:Bool) (hi lo:Nat) (pr po:Int):List UInt8:=keyBytes [.bool v6,.int .u64 (hi:Int),.int .u64 (lo:Int),.int .i64 pr,.int .i64 po]
def kA (v6:Bool) (hi lo:Nat):List UInt8:=keyBytes [.bool v6,.int .u64 (hi:Int),.int .u64 (lo:Int)]
theorem aFn:∃d,prog.types.size+1=d+3:=by
 have h:(3:Nat)<=prog.types.size+1:=cHa (by kernel_rfl);exact⟨prog.types.size+1 - 3,by omega⟩
theorem key_is(I:Bool)(E G:Nat)(j A:Int)(J:E<18446744073709551616)(L:G<18446744073709551616)(N:-9223372036854775808<=j)(O:j<=9223372036854775807)(U:-9223372036854775808<=A)(V:A<=9223372036854775807) :
 keyOf prog 198 (.agg #[.bool I,.int .u64 (E:Int),.int .u64 (G:Int),.int .i64 j,.int .i64 A])=some (.string (kV I E G j A)):=by
 obtain⟨d,Z⟩:=aFn;have W:prog.keyType 198=true:=by kernel_rfl
 have X:(Value.agg #[.bool I,.int .u64 (E:Int),.int .u64 (G:Int),.int .i64 j,.int .i64 A]).formed prog 198=true:=by simp[Value.formed,underlying198,aJ3]
 have Y:(Value.agg #[.bool I,.int .u64 (E:Int),.int .u64 (G:Int),.int .i64 j,.int .i64 A]).cells.toList=[.bool I,.int .u64 (E:Int),.int .u64 (G:Int),.int .i64 j,.int .i64 A]:=rfl;unfold keyOf kV;rw[underlying198];dsimp only;rw[bBa (by rw[W,X];rfl),Z,Y,lits_key d I E G j A J L N O U V]
 rfl
theorem key_adr(E:Bool)(j A:Nat)(G:j<18446744073709551616)(I:A<18446744073709551616) :
 keyOf prog 27 (.agg #[.bool E,.int .u64 (j:Int),.int .u64 (A:Int)])=some (.string (kA E j A)):=by
 obtain⟨d,O⟩:=aFn;have J:prog.keyType 27=true:=by kernel_rfl
 have L:(Value.agg #[.bool E,.int .u64 (j:Int),.int .u64 (A:Int)]).formed prog 27=true:=by simp[Value.formed,dSa,aDw]
 have N:(Value.agg #[.bool E,.int .u64 (j:Int),.int .u64 (A:Int)]).cells.toList=[.bool E,.int .u64 (j:Int),.int .u64 (A:Int)]:=rfl;unfold keyOf kA;rw[dSa];dsimp only;rw[bBa (by rw[J,L];rfl),O,N,aM3 (d+1) E j A G I]
 rfl
theorem lawV:Keyed prog 198:=Keyed.of_law (deep_law_laid laidOut (m:=4) (by omega) (cHa (by kernel_rfl)) (by kernel_rfl) (by kernel_rfl))
theorem lawA:Keyed prog 27:=Keyed.of_law (deep_law_laid laidOut (m:=3) (by omega) (cHa (by kernel_rfl)) (by kernel_rfl) (by kernel_rfl))
theorem zeroI(w:World):(zeroValue 3).run prog w=.ok (.int .i64 0) w:=by kernel_rfl
def mE (w:World) (B n:Nat) (F:List UInt8->Option Nat):Prop :=
 ∃D:DataW Unit,w.ownsMap prog 198 (plainElem prog 3) B n D/\∀k,Maps.has D (.string k)=(F k).isSome/\∀v,F k=some v->∀z,D.atKey (.string k) z=.lit (.int .i64 (v:Int))
def nQ (w:World) (B n:Nat) (G:List UInt8->Bool):Prop :=
 ∃D:DataW Unit,w.ownsMap prog 27 (plainElem prog 4) B n D/\∀k,D.atKey (.string k) (.lit (.bool false))=.lit (.bool (G k))
theorem mE.made(w:World):mE (w.alloc (.map #[] 0)) w.heap.size 0 (fun _=>none):=⟨.map [],World.ownsMap_made _ _ _ _,fun s=>⟨rfl,fun v h=>by cases h⟩⟩
theorem nQ.made(w:World):nQ (w.alloc (.map #[] 0)) w.heap.size 0 (fun _=>false):=⟨.map [],World.ownsMap_made _ _ _ _,fun _s=>rfl⟩
theorem mE.kept{w:World}{row:Option Nat}(h:mE w B n F)(j:w.grownBy w' row)(A:some B≠row):mE w' B n F:=by
 obtain⟨D,E,G⟩:=h;exact⟨D,E.kept j A,G⟩
theorem nQ.kept{w:World}{row:Option Nat}{G:List UInt8->Bool}(h:nQ w B n G)(j:w.grownBy w' row)(A:some B≠row):nQ w' B n G:=by
 obtain⟨D,E,I⟩:=h;exact⟨D,E.kept j A,I⟩
theorem wH{w:World}(h:Below w.heap.size w w'):w.grownBy w' none:=⟨h.os,h.tape,h.output,h.size,fun k j _=>h.block k j⟩
theorem mE.on{w:World}(h:mE w B n F)(j:Below w.heap.size w w'):mE w' B n F:=h.kept (wH j) (by simp)
theorem nQ.on{w:World}{G:List UInt8->Bool}(h:nQ w B n G)(j:Below w.heap.size w w'):nQ w' B n G:=h.kept (wH j) (by simp)
theorem mE.blk{w:World}(h:mE w B n F):∃j k,w.heap[B]?=some (.map j k):=by
 obtain⟨D,⟨j,k,A,_⟩,_⟩:=h;exact⟨j,k,A⟩
theorem nQ.blk{w:World}{G:List UInt8->Bool}(h:nQ w B n G):∃j k,w.heap[B]?=some (.map j k):=by
 obtain⟨D,⟨j,k,A,_⟩,_⟩:=h;exact⟨j,k,A⟩
theorem mE.look{w:World}(h:mE w B n F){E:Value}{k:List UInt8}(G:keyOf prog 198 E=some (.string k)) :
 (Instr.lookup 193 (.map (some B)) E true).run prog w=.ok (.tuple #[.int .i64 (((F k).getD 0:Nat):Int),.bool (F k).isSome]) w:=by
 obtain⟨D,J,A⟩:=h;obtain⟨v,U,L,N⟩:=J.look_ok lawV underlying193 (zeroI w) (plainElem_int hTa (a:=0) (by decide)) G;obtain⟨c,rfl,O,_⟩:=plainElem_int_inv hTa N;rw[L,(A k).1];have j:=fFa Prod.fst O;dsimp only at j;have:c=(((F k).getD 0:Nat):Int):=by
  rcases hf:F k with _|u
  .have I:=Maps.atKey_of_not_has (D:=D) (k:=.string k) (by rw[(A k).1,hf];rfl) (.lit (.int .i64 0));rw[I]at j;simpa using j.symm
  .rw[(A k).2 u hf]at j;simpa using j.symm
 rw[this]
section
variable {w:World} {o:Oper} {a:Act} {Q:Exit->Act->World->Prop}
theorem wp_putV(m x u:Operand)(L:o.op=Op.mapUpdate 193 m x u)(B n:Nat)(F:List UInt8->Option Nat){I:Value}{k:List UInt8}(j:keyOf prog 198 I=some (.string k))(v:Nat)(hn:n<1099511627776)(hv:v<1099511627776)
 (N:a.eval m=.map (some B)) (O:a.eval x=I) (U:a.eval u=.int .i64 (v:Int)) (V:mE w B n F) (W:∀w',mE w' B (n+1) (fun y=>if y=k then some v else F y)->w.grownBy w' (some B)->∀v,K (a.put o.dst v) w'):o.wp prog a w K Q:=by
 obtain⟨D,G,J⟩:=V;obtain⟨w',aa,h3,h4⟩:=G.update lawV underlying193 (by unfold maxLen;omega) j (plainElem_int hTa (a:=(v:Int)) (WalkArith.wf_i64 (by omega)));have Y:mE w' B (n+1) (fun y=>if y=k then some v else F y):=by
  refine⟨_,h3,fun y=>?_⟩;by_cases e:y=k
  .subst e;refine⟨?_,fun A E z=>?_⟩
   .rw[Maps.has_put_same G.isMap (lawV.key j)];simp
   .have Z:some v=some A:=by simpa using E
    cases Z
    rw[Maps.atKey_put_same G.isMap (lawV.key j)]
  .have e':(Lit.string y)≠.string k:=fun X=>e (by injection X)
   refine⟨?_,fun A E z=>?_⟩
   .rw[Maps.has_put_other e',(J y).1];simp[e]
   .rw[Maps.atKey_put_other e'];exact(J y).2 A (by simpa[e]using E) z
 unfold Oper.wp;simp[execOp,L,N,O,U,aa,Result.andThen];exact W w' Y h4 _
theorem wp_putA(m x u:Operand)(I:o.op=Op.mapUpdate 194 m x u)(B n:Nat)(G:List UInt8->Bool){j:Value}{k:List UInt8}(A:keyOf prog 27 j=some (.string k))(b:Bool)(hn:n<1099511627776)
 (J:a.eval m=.map (some B)) (L:a.eval x=j) (N:a.eval u=.bool b) (O:nQ w B n G) (U:∀w',nQ w' B (n+1) (fun y=>if y=k then b else G y)->w.grownBy w' (some B)->∀v,K (a.put o.dst v) w'):o.wp prog a w K Q:=by
 obtain⟨D,E,X⟩:=O;obtain⟨w',Y,Z,h4⟩:=E.update lawA underlying194 (by unfold maxLen;omega) A (plainElem_bool underlying4 b);have W:nQ w' B (n+1) (fun y=>if y=k then b else G y):=by
  refine⟨_,Z,fun y=>?_⟩;by_cases e:y=k
  .subst e;rw[Maps.atKey_put_same E.isMap (lawA.key A)];simp
  .rw[Maps.atKey_put_other (fun V=>e (by injection V)),X];simp[e]
 unfold Oper.wp;simp[execOp,I,J,L,N,Y,Result.andThen];exact U w' W h4 _
end
end
end
theorem aNs(p:Adr)(k:Nat)(h:dL p (k:Int)=true):p.right/\k<=p.w/\p.mask k=p:=by
 rw[aSd]at h;exact rightP_w p k h
abbrev kL:=List Nat->Option Addr
def sG (w:World) (N:kL) (M:Keys) (p:List Nat) (a:Addr):Prop :=
 a.spot=none/\∃cs t,w.heap[a.block]?=some (.cells cs t (0,0))/\a.off+4<=cs.size /\
  cs[a.off]?=some (.pointer (N (p++[0])))/\cs[a.off+1]?=some (.pointer (N (p++[1])))/\cs[a.off+2]?=some (.int .i64 ((M p).getD 0))/\cs[a.off+3]?=some (.bool (M p).isSome)
structure fJ (w:World) (g:Nat) (N:kL) (M:Keys) (n:Int):Prop where
 root:∀v,v<2->N [v]=some ⟨g,4*v,none⟩
 up:∀p b,p≠[]->N p=none->N (p++[b])=none
 clean:∀p,N p=none->M p=none
 shape:∀p a,N p=some a->sG w N M p a
 apart:∀p q a c,N p=some a->N q=some c->p≠q->a.block=c.block->a.off+4<=c.off\/c.off+4<=a.off
 inTrie:∀p a,N p=some a->a.block=g->a.off+4<=8
 ge:∀p a,N p=some a->g<=a.block
 trie:∃cs,w.heap[g]?=some (.cells cs 192 (0,0))/\cs.size=9/\cs[8]?=some (.int .i64 n)
def gN (N:kL) (k:Nat):Prop:=∃p a,N p=some a/\a.block=k
theorem sG.on{w:World}{N:kL}{M:Keys}{p:List Nat}{a:Addr}(h:sG w N M p a)(e:w'.heap[a.block]?=w.heap[a.block]?):sG w' N M p a:=by
 obtain⟨j,cs,t,A,E⟩:=h;exact⟨j,cs,t,e.trans A,E⟩
theorem sG.lt{w:World}{N:kL}{M:Keys}{p:List Nat}{a:Addr}(h:sG w N M p a):a.block<w.heap.size:=by
 obtain⟨-,cs,t,j,-⟩:=h;rcases eMa a.block w.heap.size with h|h
 .exact h
 .rw[eZa h]at j
  cases j
theorem fJ.gLt{w:World}{N:kL}{M:Keys}{n:Int}(h:fJ w g N M n):g<w.heap.size:=(h.shape _ _ (h.root 0 (by omega))).lt
theorem fJ.on{w:World}{N:kL}{M:Keys}{n:Int}(h:fJ w g N M n)(j:∀k,gN N k->w'.heap[k]?=w.heap[k]?):fJ w' g N M n:=by
 obtain⟨cs,E,G,I⟩:=h.trie;exact⟨h.root,h.up,h.clean,fun p a A=>(h.shape p a A).on (j _ ⟨p,a,A,rfl⟩),h.apart,h.inTrie,h.ge,cs,(j g ⟨_,_,h.root 0 (by omega),rfl⟩).trans E,G,I⟩
theorem fJ.below{w:World}{N:kL}{M:Keys}{n:Int}(h:fJ w g N M n)(j:Below w.heap.size w w'):fJ w' g N M n :=
 h.on fun k A=>by
  obtain⟨p,a,E,rfl⟩:=A;exact j.block _ (h.shape p a E).lt
theorem sG.next{w:World}{N:kL}{M:Keys}{p:List Nat}{a:Addr}(h:sG w N M p a)(G:b<2):w.cell? ⟨a.block,a.off+b,none⟩=some (.pointer (N (p++[b]))):=by
 obtain⟨-,cs,t,j,-,A,E,-⟩:=h;rw[aA j];have:b=0\/b=1:=by omega
 rcases this with rfl|rfl
 .exact A
 .exact E
theorem sG.val{w:World}{N:kL}{M:Keys}{p:List Nat}{a:Addr}(h:sG w N M p a):w.cell? ⟨a.block,a.off+2,none⟩=some (.int .i64 ((M p).getD 0))/\w.cell? ⟨a.block,a.off+3,none⟩=some (.bool (M p).isSome):=by
 obtain⟨-,cs,t,j,-,-,-,A,E⟩:=h;rw[aA j,aA j];exact⟨A,E⟩
theorem sG.free{w:World}{N:kL}{M:Keys}{p:List Nat}{a:Addr}(h:sG w N M p a)(o:Nat):w.frozen? ⟨a.block,o,none⟩=false:=by
 obtain⟨-,cs,t,j,-⟩:=h;rw[bD j]
def addN (N:kL) (q:List Nat) (c:Addr):kL:=fun r=>if r=q then some c else N r
theorem aDa{p q:List Nat}(h:p++[b]=q++[c]):p=q/\b=c:=by
 have:=List.append_inj' h rfl;exact⟨this.1,by simpa using this.2⟩
theorem aHg{w:World}{o:Nat}{cs:Array Value}(h:w.heap[k]?=some (.cells cs t (0,0))) :
 ∃w',w.setCell ⟨k,o,none⟩ u=w'/\w'.heap[k]?=some (.cells (cs.setIfInBounds o u) t (0,0))/\w.grownBy w' (some k):=eY h o u
theorem fJ.grow{w:World}{N:kL}{M:Keys}{n:Int}(h:fJ w g N M n){p:List Nat}{a:Addr}(V:N p=some a)(av:p≠[])(hb:b<2)(hn:N (p++[b])=none) :
 ∃w',(w.alloc (.cells #[.pointer none,.pointer none,.int .i64 0,.bool false] T)).setCell ⟨a.block,a.off+b,none⟩ (.pointer (some ⟨w.heap.size,0,none⟩))=w' /\
  fJ w' g (addN N (p++[b]) ⟨w.heap.size,0,none⟩) M n/\aV w.heap.size (fun k=>k=a.block) w w'/\w.heap.size<w'.heap.size:=by
 have ah:=h.shape p a V;have ax:=ah.lt;obtain⟨a3,cs,t,hh,a4,a5,a6,a7,a8⟩:=ah;have ai:=kE (Obj.cells #[.pointer none,.pointer none,.int .i64 0,.bool false] T (0,0)) ax hh;have aj:=aJ w T #[.pointer none,.pointer none,.int .i64 0,.bool false];have ay:(w.alloc (.cells #[.pointer none,.pointer none,.int .i64 0,.bool false] T)).heap.size=w.heap.size+1:=by simp
 have ak:∀k,k<w.heap.size->(w.alloc (.cells #[.pointer none,.pointer none,.int .i64 0,.bool false] T)).heap[k]?=w.heap[k]?:=fun k W=>((bLa w.heap.size w).alloc (aZa _) _).block k W
 have Y:Below w.heap.size w (w.alloc (.cells #[.pointer none,.pointer none,.int .i64 0,.bool false] T)):=bC;obtain⟨w1,a9⟩:=eX (w.alloc (.cells #[.pointer none,.pointer none,.int .i64 0,.bool false] T));rw[a9]at ai aj ay ak Y ⊢;obtain⟨w2,e2,ae,O⟩:=aHg (o:=a.off+b) (u:=.pointer (some ⟨w.heap.size,0,none⟩)) ai;have bf:=O.size;have ab:∀k,k<w.heap.size->k≠a.block->w2.heap[k]?=w.heap[k]?:=fun k W G=>(O.block k (by omega) (fun e=>G (by cases e;rfl))).trans (ak k W)
 have az:w2.heap[w.heap.size]?=some (.cells #[.pointer none,.pointer none,.int .i64 0,.bool false] T (0,0)):=(O.block _ (by omega) (fun e=>by have:=bFa e;omega)).trans aj;have L:∀j,j≠a.off+b->(cs.setIfInBounds (a.off+b) (Value.pointer (some ⟨w.heap.size,0,none⟩)))[j]?=cs[j]?:=fun j hj=>by rw[cPa (fVa hj)]
 have a0:(cs.setIfInBounds (a.off+b) (Value.pointer (some ⟨w.heap.size,0,none⟩)))[a.off+b]?=some (Value.pointer (some ⟨w.heap.size,0,none⟩)):=by rw[dJa (by omega)]
 have hN:∀q c,q++[c]≠p++[b]->addN N (p++[b]) ⟨w.heap.size,0,none⟩ (q++[c])=N (q++[c]):=fun q c G=>by unfold addN;rw[bAa G]
 refine⟨w2,e2,⟨?_,?_,?_,?_,?_,?_,?_,?_⟩,⟨O.os.trans Y.os,O.tape.trans Y.tape,O.output.trans Y.output,by omega,fun k W G=>ab k W G⟩,by omega⟩
 .intro v hv;unfold addN;rw[bAa]
  .exact h.root v hv
  .intro e;have:=fFa List.length e;simp at this;exact av this
 .intro q c bd A;unfold addN at A ⊢;split at A
  .cases A
  .rename_i G;rw[bAa]
   .exact h.up q c bd A
   .intro e;obtain⟨rfl,rfl⟩:=aDa e;rw[V]at A
    cases A
 .intro q A;unfold addN at A;split at A
  .cases A
  .exact h.clean q A
 .intro q c A;by_cases ar:q=p++[b]
  .subst ar;have hc:(⟨w.heap.size,0,none⟩:Addr)=c:=by
    unfold addN at A;rw[bBa rfl]at A;exact bFa A
   subst hc;have G:∀d,p++[b]++[d]≠p++[b]:=fun d e=>by
    have:=fFa List.length e;simp at this
   have al:∀d,addN N (p++[b]) ⟨w.heap.size,0,none⟩ (p++[b]++[d])=none:=fun d=>by
    unfold addN;rw[bAa (G d)];exact h.up _ d (by simp) hn
   refine⟨rfl,_,T,az,by simp,?_,?_,?_,?_⟩
   .rw[al 0];rfl
   .rw[al 1];rfl
   .rw[h.clean _ hn];rfl
   .rw[h.clean _ hn];rfl
  .have hq':N q=some c:=by
    unfold addN at A
    rwa[bAa ar]at A
   have a2:=(h.shape q c hq').lt;by_cases Z:q=p
   .subst Z;obtain rfl:a=c:=bFa (V.symm.trans hq');have am:∀d,d<2->(cs.setIfInBounds (a.off+b) (Value.pointer (some ⟨w.heap.size,0,none⟩)))[a.off+d]?=some (.pointer (addN N (q++[b]) ⟨w.heap.size,0,none⟩ (q++[d]))):=by
     intro d hd;by_cases au:d=b
     .subst au;rw[a0];unfold addN;rw[bBa rfl]
     .rw[L _ (by omega),hN q d (fun e=>au (aDa e).2)];have:d=0\/d=1:=by omega
      rcases this with rfl|rfl
      .exact a5
      .exact a6
    exact⟨a3,_,t,ae,by rw[bQa];exact a4,am 0 (by omega),am 1 (by omega),by rw[L _ (by omega)];exact a7,by rw[L _ (by omega)];exact a8⟩
   .obtain⟨I,an,t',J,X,h4,h5,h6,h7⟩:=h.shape q c hq';rw[<-hN q 0 (fun e=>Z (aDa e).1)]at h4;rw[<-hN q 1 (fun e=>Z (aDa e).1)]at h5;by_cases E:c.block=a.block
    .have bg:=h.apart q p c a hq' V Z E;have e:an=cs:=by
      rw[E,hh]at J;simp at J;exact J.1.symm
     subst e;exact⟨I,_,t,by rw[E];exact ae,by rw[bQa];exact X,by rw[L _ (by omega)];exact h4,by rw[L _ (by omega)];exact h5,by rw[L _ (by omega)];exact h6,by rw[L _ (by omega)];exact h7⟩
    .exact⟨I,an,t',(ab _ a2 E).trans J,X,h4,h5,h6,h7⟩
 .intro q r c d A U G E;unfold addN at A U;split at A
  .cases A
   split at U
   .rename_i I J;exact absurd (I.trans J.symm) G
   .have:=(h.shape r d U).lt;dsimp only at E;omega
  .split at U
   .cases U
    have:=(h.shape q c A).lt;dsimp only at E;omega
   .exact h.apart q r c d A U G E
 .intro q c A E;unfold addN at A;split at A
  .cases A
   have:=h.gLt;dsimp only at E;omega
  .exact h.inTrie q c A E
 .intro q c A;unfold addN at A;split at A
  .cases A
   have:=h.gLt;dsimp only;omega
  .exact h.ge q c A
 .obtain⟨ct,I,J,X⟩:=h.trie;by_cases E:g=a.block
  .have bh:=h.inTrie p a V E.symm;have e:ct=cs/\192=t:=by
    rw[E,hh]at I;simp at I;exact⟨I.1.symm,I.2.symm⟩
   obtain⟨rfl,rfl⟩:=e;exact⟨_,by rw[E];exact ae,by rw[bQa];exact J,by rw[L _ (by omega)];exact X⟩
  .exact⟨ct,(ab g h.gLt E).trans I,J,X⟩
theorem fJ.count{w:World}{N:kL}{M:Keys}{n:Int}(h:fJ w g N M n)(m:Int) :
 ∃w',w.setCell ⟨g,8,none⟩ (.int .i64 m)=w'/\fJ w' g N M m/\aV w.heap.size (fun k=>k=g) w w':=by
 obtain⟨ct,W,hs,hc⟩:=h.trie;obtain⟨X,e2,Y,A⟩:=aHg (o:=8) (u:=.int .i64 m) W;have V:∀k,k<w.heap.size->k≠g->X.heap[k]?=w.heap[k]?:=fun k L O=>A.block k L (fun e=>O (by cases e;rfl))
 refine⟨X,e2,⟨h.root,h.up,h.clean,?_,h.apart,h.inTrie,h.ge,_,Y,by rw[bQa];exact hs,by rw[dJa (by omega)]⟩,⟨A.os,A.tape,A.output,A.size,fun k L O=>V k L O⟩⟩;intro q c I;have Z:=(h.shape q c I).lt;by_cases J:c.block=g
 .obtain⟨h1,U,t',G,h3,h4,h5,h6,h7⟩:=h.shape q c I;have al:=h.inTrie q c I J;have e:U=ct/\t'=192:=by
   rw[J,W]at G;simp at G;exact⟨G.1.symm,G.2.symm⟩
  obtain⟨rfl,rfl⟩:=e;have E:∀j,j<8->(U.setIfInBounds 8 (Value.int .i64 m))[j]?=U[j]?:=fun j hj=>by rw[cPa (by omega)]
  exact⟨h1,_,_,by rw[J];exact Y,by rw[bQa];exact h3,by rw[E _ (by omega)];exact h4,by rw[E _ (by omega)];exact h5,by rw[E _ (by omega)];exact h6,by rw[E _ (by omega)];exact h7⟩
 .exact(h.shape q c I).on (V _ Z J)
theorem fJ.mark{w:World}{N:kL}{M:Keys}{n:Int}(h:fJ w g N M n){p:List Nat}{a:Addr}(W:N p=some a)(v:Int) :
 ∃J w',w.setCell ⟨a.block,a.off+2,none⟩ (.int .i64 v)=J/\J.setCell ⟨a.block,a.off+3,none⟩ (.bool true)=w'/\(∃x,J.cell? ⟨a.block,a.off+3,none⟩=some x)/\J.frozen? ⟨a.block,a.off+3,none⟩=false /\
  fJ w' g N (upd M p v) n/\aV w.heap.size (fun k=>k=a.block) w w'/\aV w.heap.size (fun k=>k=a.block) w J:=by
 have ag:=h.shape p a W;have a0:=ag.lt;obtain⟨aq,cs,t,hh,ar,au,av,a4,aw⟩:=ag;obtain⟨J,e1,ab,O⟩:=aHg (o:=a.off+2) (u:=.int .i64 v) hh;obtain⟨w2,e2,ac,X⟩:=aHg (o:=a.off+3) (u:=.bool true) ab;have ao:=O.size;have a1:=X.size;have ah:∀k,k<w.heap.size->k≠a.block->J.heap[k]?=w.heap[k]?:=fun k U L=>O.block k U (fun e=>L (by cases e;rfl))
 have Z:∀k,k<w.heap.size->k≠a.block->w2.heap[k]?=w.heap[k]?:=fun k U L=>(X.block k (by omega) (fun e=>L (by cases e;rfl))).trans (ah k U L)
 have V:∀j,j≠a.off+2->j≠a.off+3->((cs.setIfInBounds (a.off+2) (Value.int .i64 v)).setIfInBounds (a.off+3) (.bool true))[j]?=cs[j]?:=fun j A G=>by
  rw[cPa (fVa G),cPa (fVa A)]
 have hM:∀q,q≠p->upd M p v q=M q:=fun q E=>by unfold upd;rw[bAa E]
 refine⟨J,w2,e1,e2,?_,by rw[bD ab],⟨h.root,h.up,?_,?_,h.apart,h.inTrie,h.ge,?_⟩,⟨X.os.trans O.os,X.tape.trans O.tape,X.output.trans O.output,by omega,fun k U L=>Z k U L⟩,⟨O.os,O.tape,O.output,ao,fun k U L=>ah k U L⟩⟩
 .rw[aA ab,cPa (by omega)];exact⟨_,aw⟩
 .intro q E;rw[hM q (fun e=>by rw[e,W]at E;cases E)];exact h.clean q E
 .intro q c E;have ap:=(h.shape q c E).lt;by_cases af:q=p
  .subst af;obtain rfl:a=c:=bFa (W.symm.trans E);have e:upd M q v q=some v:=by unfold upd;rw[bBa rfl]
   refine⟨aq,_,t,ac,by rw[bQa,bQa];exact ar,by rw[V _ (by omega) (by omega)];exact au,by rw[V _ (by omega) (by omega)];exact av,?_,?_⟩
   .rw[cPa (by omega),dJa (by omega),e]
    rfl
   .rw[dJa (by rw[bQa];omega),e]
    rfl
  .obtain⟨A,ak,t',G,Y,h4,h5,h6,h7⟩:=h.shape q c E;rw[<-hM q af]at h6 h7;by_cases I:c.block=a.block
   .have a2:=h.apart q p c a E W af I;have e:ak=cs:=by
     rw[I,hh]at G;simp at G;exact G.1.symm
    subst e;exact⟨A,_,t,by rw[I];exact ac,by rw[bQa,bQa];exact Y,by rw[V _ (by omega) (by omega)];exact h4,by rw[V _ (by omega) (by omega)];exact h5,by rw[V _ (by omega) (by omega)];exact h6,by rw[V _ (by omega) (by omega)];exact h7⟩
   .exact⟨A,ak,t',(Z _ ap I).trans G,Y,h4,h5,h6,h7⟩
 .obtain⟨ct,A,G,Y⟩:=h.trie;by_cases I:g=a.block
  .have a3:=h.inTrie p a W I.symm;have e:ct=cs/\192=t:=by
    rw[I,hh]at A;simp at A;exact⟨A.1.symm,A.2.symm⟩
   obtain⟨rfl,rfl⟩:=e;exact⟨_,by rw[I];exact ac,by rw[bQa,bQa];exact G,by rw[V _ (by omega) (by omega)];exact Y⟩
  .exact⟨ct,(Z g h.gLt I).trans A,G,Y⟩
def vbit (v6:Bool):Nat:=if v6 then 1 else 0
theorem aQ5(j:Bool):vbit j<2:=by unfold vbit;split<;>omega
def rV (a:Adr) (k:Nat):List Nat:=vbit a.v6 :: (List.range k).map a.bit
theorem aD5(a:Adr)(k:Nat):rV a (k+1)=rV a k++[a.bit k]:=by
 unfold rV;rw[List.range_succ,cWa]
 rfl
theorem bit_lt(a:Adr)(k:Nat):a.bit k<2:=by
 unfold Adr.bit
 repeat' split
 all_goals omega
theorem aQ1(g:Nat)(j:Bool)(A E:Int)(w:World) :
 Cl 108 #[.pointer (some ⟨g,0,none⟩),.agg #[.bool j,.int .u64 A,.int .u64 E]] w fun e w'=>e=.returned (.pointer (some ⟨g,4*vbit j,none⟩))/\Below w.heap.size w w':=by
 cases j
 .go_enter func108,ntmps108;go_wp2_with fail
  go_ret;exact⟨rfl,bC⟩
 .go_enter func108,ntmps108;go_wp2_with fail
  go_ret;exact⟨rfl,bC⟩
theorem aLu(g:Nat)(a:Adr)(J:a.ok)(i v:Int)(L:dL a i=false)(w:World) :
 Cl 69 #[.pointer (some ⟨g,0,none⟩),.agg (pArr a i),.int .i64 v] w fun e w'=>e=.returned (.int .i64 1)/\Below w.heap.size w w':=by
 have j:=q_ (fun w=>aC5 a J i w);rw[L]at j;unfold pArr at j ⊢;obtain⟨A,E⟩:=eX (w.alloc (.cells #[.bool a.v6,.int .u64 (a.hi:Int),.int .u64 (a.lo:Int),.int .i64 i] 181));have G:Hid (Below w.heap.size w A):=q_ (E▸bC);have N:Hid (A.heap[w.heap.size]?=some (.cells #[.bool a.v6,.int .u64 (a.hi:Int),.int .u64 (a.lo:Int),.int .i64 i] 181 (0,0))):=q_ (E▸aJ _ _ _);have O:=aA N;go_enter func69,ntmps69;go_wp2_with fail
 clear E;refine(j A).mono ?_;rintro e V ⟨rfl,I⟩;have U:=q_ (G.trans (I.mono G.size));clear I O;go_wp2_with fail
 go_ret;exact⟨rfl,U⟩
def PutEnd (g:Nat) (N:kL) (M:Keys) (key:List Nat) (v n:Int) (w w':World):Prop :=
 ∃N',fJ w' g N' (upd M key v) (if(M key).isSome=true then n else n+1)/\aV w.heap.size (gN N) w w'/\∀k,gN N' k->gN N k\/w.heap.size<=k
theorem put_yes(g:Nat)(a:Adr)(ho:a.ok)(k:Nat)(v:Int)(hr:dL a (k:Int)=true)(w:World)(N:kL)(M:Keys)(n:Int)(ci:0<=n)(hn:n<1099511627776)(hT:fJ w g N M n) :
 Cl 69 #[.pointer (some ⟨g,0,none⟩),.agg (pArr a (k:Int)),.int .i64 v] w fun e w'=>e=.returned (.int .i64 0)/\PutEnd g N M (rV a k) v n w w':=by
 have hR:=q_ (fun w=>aC5 a ho (k:Int) w);rw[hr]at hR;have ck:k<=128:=bJa (aNs a k hr).2.1 a.w_le;have ao:∀(j:Nat) (w:World),j<128->Cl 109 #[.agg #[.bool a.v6,.int .u64 (a.hi:Int),.int .u64 (a.lo:Int)],.int .i64 (j:Int)] w fun e w'=>e=.returned (.int .i64 (a.bit j:Int))/\Below w.heap.size w w':=by
  intro j w hj;have h:=aPy a ho (j:Int) (by omega) (by omega) w;have e:tQ a (j:Int)=(a.bit j:Int):=by unfold tQ;rw[bBa (by omega),bMa]
  rwa[e]at h
 have bb:=q_ (fun w=>aQ1 g a.v6 (a.hi:Int) (a.lo:Int) w);have bt:=q_ (bit_lt a);have bc:=q_ (aD5 a);have bd:Hid (rV a 0=[vbit a.v6]):=q_ (rfl);have bu:Hid (∀j,rV a j≠[]):=q_ (fun j=>by unfold rV;simp);obtain⟨f,hf⟩:=eX a.bit;obtain⟨K,hK⟩:=eX (rV a);rw[hf]at ao bt bc;rw[hK]at bc bd bu ⊢;have bv:=aQ5 a.v6;clear hf hK ho hr;unfold pArr at hR ⊢;obtain⟨av,ah,al⟩:=a;dsimp only at hR ao bb bd bv ⊢;obtain⟨w1,bm⟩:=eX (w.alloc (.cells #[.bool av,.int .u64 (ah:Int),.int .u64 (al:Int),.int .i64 (k:Int)] 181));have Y:Hid (Below w.heap.size w w1):=q_ (bm▸bC);have Z:Hid (w1.heap[w.heap.size]?=some (.cells #[.bool av,.int .u64 (ah:Int),.int .u64 (al:Int),.int .i64 (k:Int)] 181 (0,0))):=q_ (bm▸aJ _ _ _);have aa:=aA Z;have am:=q_ (hT.below Y);replace ao:=q_ ao;go_enter func69,ntmps69;go_wp2_with fail
 clear bm;refine(hR w1).mono ?_;rintro e w2 ⟨rfl,X⟩;replace Y:=q_ (Y.trans (X.mono Y.size));replace Z:=q_ (aG X Z);replace am:=q_ (am.below X);clear X;clear aa hR;have aa:=aA Z;go_wp2_with fail
 refine(bb w2).mono ?_;rintro e w3 ⟨rfl,X⟩;replace Y:=q_ (Y.trans (X.mono Y.size));replace Z:=q_ (aG X Z);replace am:=q_ (am.below X);clear X;clear aa bb;have aa:=aA Z;go_wp2_with fail
 have bw:=Y.out;have cl:=bw.size;have bx:=dUa w3 _ (aa 0);dsimp only at bx;have ap:∀p c,N p=some c->c.block≠w.heap.size:=fun p c h e=>by have:=(hT.shape p c h).lt;omega
 clear aa;go_loopw [7,8,9,23] (fun xv _ _ cv wr=>∃(j:Nat) (O:kL) (ad:Addr),j<=k/\cv=.int .i64 (j:Int)/\xv=.pointer (some ad)/\O (K j)=some ad/\fJ wr g O M n/\aV w3.heap.size (gN N) w3 wr/\(∀q c,O q=some c->gN N c.block\/w3.heap.size<=c.block)) (fun _ _ _ cv _=>k - (intOf cv).toNat)
 case atStart=>exact⟨0,N,_,by omega,rfl,rfl,by rw[bd.out];exact am.root _ bv,am,gQ _ _ _,fun q c h=>.inl ⟨q,c,h,rfl⟩⟩
 case round =>
  obtain⟨j,O,ad,hj,rfl,rfl,A,I,G,U⟩:=hrel;have ac:wr.heap[w.heap.size]?=some (.cells #[.bool av,.int .u64 (ah:Int),.int .u64 (al:Int),.int .i64 (k:Int)] 181 (0,0)):=(G.block _ bx (fun⟨p,c,h,e⟩=>ap p c h e)).trans Z;have b7:=G.size;have bz:=(I.shape _ _ A).1;obtain⟨blk,au,cx⟩:=ad;dsimp only at bz;subst bz;by_cases c4:j<k
  .have i1:(j:Int)<(k:Int):=by omega
   have aa:=aA ac;have be:=q_ (ao j wr (by omega));have ay:=bt j;have az:=q_ (bc j);obtain⟨b,bf⟩:=eX (f j);rw[bf]at be ay az;have cm:(0:Int)<=(b:Int):=by omega
   have cn:(b:Int)<2:=by omega
   have b9:=q_ (bu j);replace ⟨I,G,U,A,ac,bf⟩:=q_6 I G U A ac bf;go_wp2_with fail
   refine be.mono ?_;rintro e W ⟨rfl,a4⟩;have J:=I.below a4;have co:=a4.size;have L:=eQ _ _ _ _ _ G (bT (P:=gN N) a4 b7);have a0:=(J.shape _ _ A).next ay;dsimp only at a0;rw[<-az.out]at a0;clear a4 aa be;obtain⟨r,ae⟩:∃r,O (K (j+1))=r:=⟨_,rfl⟩
   rw[ae]at a0
   cases r with
   | none =>
    obtain⟨w6,e6,aq,aj,cy⟩:=J.grow A b9 ay (by rw[<-az.out];exact ae) (T:=189);have bg:=(J.shape _ _ A).lt;dsimp only at bg e6 aj;have c1:(W.alloc (.cells #[.pointer none,.pointer none,.int .i64 0,.bool false] 189)).cell? ⟨blk,au+b,none⟩=some (.pointer none):=(dFa (((bLa W.heap.size W).alloc (aZa _) _).block blk bg)).trans a0;have f1:(W.alloc (.cells #[.pointer none,.pointer none,.int .i64 0,.bool false] 189)).frozen? ⟨blk,au+b,none⟩=false:=by
     obtain⟨-,cs,t,h2,-⟩:=J.shape _ _ A;rw[bD (kE (Obj.cells #[.pointer none,.pointer none,.int .i64 0,.bool false] 189 (0,0)) bg h2)]
    have b0:addN O (K j++[b]) ⟨W.heap.size,0,none⟩ (K j)=some ⟨blk,au,none⟩:=by
     unfold addN;rw[bAa]
     .exact A
     .intro e;have:=fFa List.length e;simp at this
    have b1:=(aq.shape _ _ b0).next ay;dsimp only at b1;have eN:Hid (addN O (K j++[b]) ⟨W.heap.size,0,none⟩ (K j++[b])=some ⟨W.heap.size,0,none⟩):=q_ (by unfold addN;rw[bBa rfl]);rw[eN]at b1;have E:aV w3.heap.size (gN N) w3 w6:=by
     refine eQ _ _ _ _ _ L ⟨aj.os,aj.tape,aj.output,aj.size,fun q hq V=>aj.block q (by omega) (fun e=>V ?_)⟩;rcases U _ _ A with h|h
     .rw[e];exact h
     .dsimp only at h;omega
    have a1:∀q c,addN O (K j++[b]) ⟨W.heap.size,0,none⟩ q=some c->gN N c.block\/w3.heap.size<=c.block:=by
     intro q c h;unfold addN at h;split at h
     .cases h;exact .inr (by dsimp only;omega)
     .exact U q c h
    rw[<-az.out]at aq a1 eN;clear aj J L I G U b0;replace ⟨aq,E,a1,ae,A⟩:=q_5 aq E a1 ae A;go_wp2_with fail
    refine⟨⟨j+1,_,_,by omega,by first|rfl|go_num,rfl,eN,aq,E,a1⟩,by simp only[intOf];omega⟩
   | some c =>
    clear I G;replace ⟨J,L,ae⟩:=q_3 J L ae;go_wp2_with fail
    refine⟨⟨j+1,O,c,by omega,by first|rfl|go_num,rfl,ae,J,L,U⟩,by simp only[intOf];omega⟩
  .obtain rfl:j=k:=by omega
   have i1:((j:Int)<(j:Int))=False:=by simp
   have b2:=(I.shape _ _ A).val.2;dsimp only at b2;obtain⟨hs,ai⟩:∃b,(M (K j)).isSome=b:=⟨_,rfl⟩
   rw[ai]at b2;have af:aV w.heap.size (gN N) w wr:=eQ _ _ _ _ _ (bT bw (aZa _)) ⟨G.os,G.tape,G.output,G.size,fun q hq V=>G.block q (by omega) V⟩;have a2:∀q,q<w.heap.size->q=blk->gN N q:=fun q hq e=>by
    rcases U _ _ A with h|h
    .rw[e];exact h
    .dsimp only at h;omega
   have a3:∀k,gN O k->gN N k\/w.heap.size<=k:=by
    rintro k ⟨p,c,h,rfl⟩;rcases U _ _ h with h|h
    .exact .inl h
    .exact .inr (by omega)
   replace a3:=q_ a3
   cases hs
   .obtain⟨W,e5,J,L⟩:=I.count (n+1);obtain⟨w6,w7,e6,e7,⟨x3,c3⟩,f3,ag,E,-⟩:=J.mark A v;dsimp only at e6 e7 c3 f3 E;obtain⟨ct,bs,cg,b5⟩:=I.trie;have c8:=(aA bs 8).trans b5;have f8:=bD bs 8;have c2:=((J.shape _ _ A).val).1;have f2:=(J.shape _ _ A).free (au+2);dsimp only at c2 f2;have wn:IntKind.i64.wrap (n+1)=n+1:=wO _;have ar:aV w.heap.size (gN N) w w7:=by
     refine eQ _ _ _ _ _ af (eQ _ _ _ _ _ ⟨L.os,L.tape,L.output,L.size,fun q hq V=>L.block q (by have:=af.size;omega) (fun e=>V ⟨_,_,hT.root 0 (by omega),e.symm⟩)⟩ ⟨E.os,E.tape,E.output,E.size,fun q hq V=>E.block q (by have:=af.size;have:=L.size;omega) (fun e=>V (a2 q hq e))⟩)
    clear I J L E bs cg b5 U a2 af;replace ⟨ag,ar,A,G,ac,ai,ap⟩:=q_7 ag ar A G ac ai ap;go_wp2_with fail
    go_ret;exact⟨rfl,O,by rw[ai.out,bAa (by simp)];exact ag,ar,a3⟩
   .obtain⟨w6,w7,e6,e7,⟨x3,c3⟩,f3,ag,E,-⟩:=I.mark A v;dsimp only at e6 e7 c3 f3 E;have c2:=((I.shape _ _ A).val).1;have f2:=(I.shape _ _ A).free (au+2);dsimp only at c2 f2;have ar:Hid (aV w.heap.size (gN N) w w7):=q_ (eQ _ _ _ _ _ af ⟨E.os,E.tape,E.output,E.size,fun q hq V=>E.block q (by have:=af.size;omega) (fun e=>V (a2 q hq e))⟩);clear I E U a2 af;replace ⟨ag,A,G,ac,ai,ap⟩:=q_6 ag A G ac ai ap;go_wp2_with fail
    go_ret;exact⟨rfl,O,by rw[ai.out,bBa rfl];exact ag,ar,a3⟩
def N0 (g:Nat):kL:=fun p=>if p=[0]then some ⟨g,0,none⟩else if p=[1]then some ⟨g,4,none⟩else none
theorem trie_new(w:World)(g:Nat)(h:w.heap[g]?=some (.cells #[.pointer none,.pointer none,.int .i64 0,.bool false,.pointer none,.pointer none,.int .i64 0,.bool false,.int .i64 0] 192 (0,0))):fJ w g (N0 g) (fun _=>none) 0:=by
 have hN:∀p a,N0 g p=some a->(p=[0]/\a=⟨g,0,none⟩)\/(p=[1]/\a=⟨g,4,none⟩):=by
  intro p a j;unfold N0 at j;split at j
  .cases j;exact .inl ⟨by assumption,rfl⟩
  .split at j
   .cases j;exact .inr ⟨by assumption,rfl⟩
   .cases j
 have A:∀p b,p≠[]->N0 g (p++[b])=none:=by
  intro p b j;unfold N0;have E:∀c:Nat,p++[b]≠[c]:=fun c e=>by
   have:=fFa List.length e;simp at this;exact j this
  rw[bAa (E 0),bAa (E 1)]
 refine⟨?_,fun p b j _=>A p b j,fun _ _=>rfl,?_,?_,?_,?_,⟨_,h,rfl,rfl⟩⟩
 .intro v J;have:v=0\/v=1:=by omega
  rcases this with rfl|rfl<;>rfl
 .intro p a j;rcases hN p a j with⟨rfl,rfl⟩|⟨rfl,rfl⟩
  .exact⟨rfl,_,_,h,by simp,by rw[A _ _ (by simp)];rfl,by rw[A _ _ (by simp)];rfl,rfl,rfl⟩
  .exact⟨rfl,_,_,h,by simp,by rw[A _ _ (by simp)];rfl,by rw[A _ _ (by simp)];rfl,rfl,rfl⟩
 .intro p q a c j I G _;rcases hN p a j with⟨rfl,rfl⟩|⟨rfl,rfl⟩<;>rcases hN q c I with⟨rfl,rfl⟩|⟨rfl,rfl⟩
  .exact absurd rfl G
  .left;exact aZa 4
  .right;exact aZa 4
  .exact absurd rfl G
 .intro p a j _;rcases hN p a j with⟨rfl,rfl⟩|⟨rfl,rfl⟩
  .exact(by omega:0+4<=8)
  .exact aZa 8
 .intro p a j;rcases hN p a j with⟨rfl,rfl⟩|⟨rfl,rfl⟩<;>exact aZa _
def uW (m:Nat->Option Int):Nat->Option (Int×Nat)
 | 0=>none
 | i+1=>match m i with
  | some v=>some (v,i)
  | none=>uW m i
theorem aJ0(m:Nat->Option Int)(i:Nat):∀d,(∀j,i<=j->m j=none)->uW m (i+d)=uW m i
 | 0,_=>rfl
 | d+1,h=>by
  rw[<-eVa,uW,h (i+d) (by omega)];exact aJ0 m i d h
def fV (r:Option (Int×Nat)):Int:=match r with|none=>0|some p=>p.1
def fN (r:Option (Int×Nat)):Int:=match r with|none=>0|some p=>(p.2:Int)
theorem fJ.gone{w:World}{N:kL}{M:Keys}{n:Int}(h:fJ w g N M n)(a:Adr)(j:Nat)(A:N (rV a j)=none):∀d,N (rV a (j+d))=none
 | 0=>A
 | d+1=>by
  rw[<-eVa,aD5];exact h.up _ _ (by unfold rV;simp) (fJ.gone h a j A d)
theorem find_no(g:Nat)(a:Adr)(J:gU a.v6 a.hi a.lo=false)(w:World) :
 Cl 114 #[.pointer (some ⟨g,0,none⟩),.agg #[.bool a.v6,.int .u64 (a.hi:Int),.int .u64 (a.lo:Int)]] w fun e w'=>e=.returned (.tuple #[.int .i64 0,.int .i64 0,.bool false])/\Below w.heap.size w w':=by
 have E:=q_ (fun w=>vY a.v6 a.hi a.lo w);rw[J]at E;obtain⟨j,A⟩:=eX (w.alloc (.cells #[.bool a.v6,.int .u64 (a.hi:Int),.int .u64 (a.lo:Int)] 27));have G:Hid (Below w.heap.size w j):=q_ (A▸bC);have L:Hid (j.heap[w.heap.size]?=some (.cells #[.bool a.v6,.int .u64 (a.hi:Int),.int .u64 (a.lo:Int)] 27 (0,0))):=q_ (A▸aJ _ _ _);have N:=aA L;go_enter func114,ntmps114;go_wp2_with fail
 clear A;refine(E j).mono ?_;rintro e U ⟨rfl,I⟩;have O:=q_ (G.trans (I.mono G.size));clear I N;go_wp2_with fail
 refine aYa (v:=.tuple #[.int .i64 0,.int .i64 0,.bool false]) (by simp[results,results114,go_sem]) rfl ⟨rfl,O⟩
theorem find_yes(g:Nat)(a:Adr)(ho:a.ok)(hr:gU a.v6 a.hi a.lo=true)(w:World)(N:kL)(M:Keys)(n:Int)(hT:fJ w g N M n) :
 Cl 114 #[.pointer (some ⟨g,0,none⟩),.agg #[.bool a.v6,.int .u64 (a.hi:Int),.int .u64 (a.lo:Int)]] w fun e w'=>e=.returned (.tuple #[.int .i64 (fV (uW (fun j=>M (rV a j)) (a.w+1))),.int .i64 (fN (uW (fun j=>M (rV a j)) (a.w+1))),.bool (uW (fun j=>M (rV a j)) (a.w+1)).isSome])/\Below w.heap.size w w':=by
 have hR:=q_ (fun w=>vY a.v6 a.hi a.lo w);rw[hr]at hR;have bp:=a.w_le;have ac:∀w:World,Cl 139 #[.agg #[.bool a.v6,.int .u64 (a.hi:Int),.int .u64 (a.lo:Int)]] w fun e w'=>e=.returned (.int .i64 (a.w:Int))/\Below w.heap.size w w':=by
  intro w;have h:=zX a.v6 (a.hi:Int) (a.lo:Int) w;have e:(if a.v6=true then(128:Int)else 32)=(a.w:Int):=by unfold Adr.w;split<;>rfl
  rwa[e]at h
 have ae:∀(j:Nat) (w:World),j<128->Cl 109 #[.agg #[.bool a.v6,.int .u64 (a.hi:Int),.int .u64 (a.lo:Int)],.int .i64 (j:Int)] w fun e w'=>e=.returned (.int .i64 (a.bit j:Int))/\Below w.heap.size w w':=by
  intro j w hj;have h:=aPy a ho (j:Int) (by omega) (by omega) w;have e:tQ a (j:Int)=(a.bit j:Int):=by unfold tQ;rw[bBa (by omega),bMa]
  rwa[e]at h
 have ay:=q_ (fun w=>aQ1 g a.v6 (a.hi:Int) (a.lo:Int) w);have az:=q_ (bit_lt a);have a0:=q_ (aD5 a);have a1:Hid (rV a 0=[vbit a.v6]):=q_ (rfl);have ak:=q_ (fun(w:World) (h:fJ w g N M n) j hj d=>fJ.gone h a j hj d);obtain⟨f,hf⟩:=eX a.bit;obtain⟨K,hK⟩:=eX (rV a);obtain⟨W,hW⟩:=eX a.w;rw[hf]at ae az a0;rw[hK]at a0 a1 ak ⊢;rw[hW]at ac bp ⊢;obtain⟨m,hm⟩:∃m,(fun j=>M (K j))=m:=⟨_,rfl⟩
 have bg:Hid (∀j,M (K j)=m j):=q_ (fun j=>by rw[<-hm]);rw[hm];obtain⟨U,V⟩:∃r,uW m (W+1)=r:=⟨_,rfl⟩
 rw[V];have bh:=aQ5 a.v6;clear hf hK hW hm ho hr;obtain⟨av,ah,al⟩:=a;dsimp only at hR ac ae ay a1 bh ⊢;obtain⟨w1,a7⟩:=eX (w.alloc (.cells #[.bool av,.int .u64 (ah:Int),.int .u64 (al:Int)] 27));have A:Hid (Below w.heap.size w w1):=q_ (a7▸bC);have E:Hid (w1.heap[w.heap.size]?=some (.cells #[.bool av,.int .u64 (ah:Int),.int .u64 (al:Int)] 27 (0,0))):=q_ (a7▸aJ _ _ _);have af:=aA E;have G:=q_ (hT.below A);clear hT;replace ⟨ac,ae,V⟩:=q_3 ac ae V;go_enter func114,ntmps114;go_wp2_with fail
 clear a7;refine(hR w1).mono ?_;rintro e w2 ⟨rfl,J⟩;replace A:=q_ (A.trans (J.mono A.size));replace E:=q_ (aG J E);replace G:=q_ (G.below J);clear J;clear af hR;have af:=aA E;go_wp2_with fail
 refine(ay w2).mono ?_;rintro e w3 ⟨rfl,J⟩;replace A:=q_ (A.trans (J.mono A.size));replace E:=q_ (aG J E);replace G:=q_ (G.below J);clear J;clear af ay;go_wp2_with fail
 go_loopw [7,8,9,10,11] (fun vv lv fv xv iv wr=>∃j:Nat,j<=W/\iv=.int .i64 (j:Int)/\xv=.pointer (N (K j))/\vv=.int .i64 (fV (uW m j))/\lv=.int .i64 (fN (uW m j))/\fv=.bool (uW m j).isSome/\Below w3.heap.size w3 wr) (fun _ _ _ _ iv _=>W+1 - (intOf iv).toNat)
 case atStart=>exact⟨0,by omega,rfl,by rw[a1.out,G.out.root _ bh],rfl,rfl,rfl,bLa _ _⟩
 case round =>
  obtain⟨j,hj,rfl,rfl,rfl,rfl,rfl,X⟩:=hrel;have bq:=X.size;replace A:=q_ (A.trans (X.mono A.size));replace E:=q_ (aG X E);replace G:=q_ (G.below X);replace X:=q_ X;obtain⟨r,O⟩:=eX (N (K j));rw[O];obtain⟨BJ,Y⟩:∃r,uW m j=r:=⟨_,rfl⟩
  rw[Y]
  cases r with
  | none =>
   have br:U=BJ:=by
    rw[<-V.out,<-Y,show W+1=j+(W+1 - j) by omega];refine aJ0 m j _ fun q hq=>?_;rw[<-bg.out q];have:=ak _ G j O (q - j);rw[show j+(q - j)=q by omega]at this;exact G.clean _ this
   subst br;clear V O Y ak;go_wp2_with fail
   refine aYa (v:=.tuple #[.int .i64 (fV U),.int .i64 (fN U),.bool U.isSome]) (by simp[results,results114,go_sem]) rfl ⟨rfl,A⟩
  | some ad =>
   have ag:=G.shape _ _ O;have bi:=ag.1;obtain⟨blk,bz,b9⟩:=ad;dsimp only at bi;subst bi;obtain⟨Z,ap⟩:=ag.val;dsimp only at Z ap;rw[bg.out j]at Z ap;have ai:=q_ (ag.next (az j));dsimp only at ai;rw[<-a0.out j]at ai;have a2:=ag.lt;dsimp only at a2;have am:Hid (uW m (j+1)=match m j with|some v=>some (v,j)|none=>BJ):=q_ (by rw[uW,Y]);obtain⟨B2,L⟩:∃r,uW m (j+1)=r:=⟨_,rfl⟩
   rw[L]at am;clear ag;obtain⟨mj,an⟩:∃r,m j=r:=⟨_,rfl⟩
   rw[an]at Z ap am;replace ⟨O,L,Y,an⟩:=q_4 O L Y an;go_upto_if 29 with fail
   go_cut [7,8,9] from 22 to 46 (fun vv lv fv wx=>vv=.int .i64 (fV B2)/\lv=.int .i64 (fN B2)/\fv=.bool B2.isSome/\wr=wx)
   case first =>
    have hBn':=am.out
    cases mj with
    | none =>
     obtain rfl:B2=BJ:=hBn';go_wp2_with fail
     go_meet;exact⟨rfl,rfl,rfl,rfl⟩
    | some v =>
     obtain rfl:B2=some (v,j):=hBn';have hv2':wr.cell? ⟨blk,bz+2,none⟩=some (.int .i64 v):=Z;clear Z;go_wp2_with fail
     go_meet;exact⟨rfl,rfl,rfl,rfl⟩
   case rest =>
    obtain⟨rfl,rfl,rfl,rfl⟩:=hcut;clear Z ap am Y an;have af:=aA E;go_wp2_with fail
    refine(ac wr).mono ?_;rintro e w5 ⟨rfl,I⟩;have ao:=(dFa (I.block blk a2)).trans ai;have bs:blk<w5.heap.size:=bKa a2 I.size;clear af;have bt:=I.size;replace A:=q_ (A.trans (I.mono A.size));replace E:=q_ (aG I E);replace G:=q_ (G.below I);replace I:=q_ I;by_cases bn:j=W
    .subst bn;have t0:((j:Int) == (j:Int))=true:=by simp
     obtain rfl:U=B2:=by rw[<-V.out,<-L.out]
     clear ai ao V L ak O I;go_wp2_with fail
     refine aYa (v:=.tuple #[.int .i64 (fV U),.int .i64 (fN U),.bool U.isSome]) (by simp[results,results114,go_sem]) rfl ⟨rfl,A⟩
    .have t0:((j:Int) == (W:Int))=false:=by rw[bDa];omega
     have t1:¬ j=W:=bn;have J:=az j;have q1:=q_ (fun l:Later w5=>ae j l.w (by omega));obtain⟨b,a4⟩:=eX (f j);rw[a4]at ao J q1;have b7:(0:Int)<=(b:Int):=by omega
     have b8:(b:Int)<2:=by omega
     have hl:=fun l:Later w5=>(dFa (l.hb.block blk bs)).trans ao
     have bw:=fun l:Later w5=>aA (aG l.hb E)
     clear ai ao O;replace a4:=q_ a4;go_upto_region 11 with fail
     refine rL ?_;refine eS 0 9 0 ?_;simp only[dA,dC,dD];iterate 3 refine qE ?_
     (refine aD (fun K hK=>?_);go_simp;apply bSa;refine⟨fun l=>?_,hK _ ?_⟩;(go_at_call 109;refine(q1 l).mono ?_;rintro e w' ⟨rfl,hb⟩;exact⟨rfl,hb⟩);clear hK K)
     iterate 5 refine qE ?_
     refine aT ?_;refine eD fun w6 bf=>?_;clear hl bw q1;have bx:=q_ (X.trans ((I.trans (bf.mono bt)).mono bq));clear bf I;have hB2':=L.out;go_wp2_with fail
     refine⟨⟨j+1,by omega,by first|rfl|go_num,rfl,by rw[L.out],by rw[L.out],by rw[L.out],bx⟩,by simp only[intOf];omega⟩
end Go.Proofs.YtpcifakangbpaaaGreat
