/- Parts of the proof of PathOpens: contracts of functions of the program. No condition but those that each theorem names. -/
import Derived.Test.YtpcifakangbpaaaGreatQPathOpens24
set_option linter.unusedVariables false
set_option linter.unusedSimpArgs false
set_option maxRecDepth 100000
set_option maxHeartbeats 16000000
namespace Go.Proofs.YtpcifakangbpaaaGreat
open Go.RowKit Go.ChangeShapes Go.WideShapes Go.ChangeAt Go.Deep Go.Proofs.Tryz
variable {R xs:List UInt8}{B E J N O S V b base' c f fuel g i j k m n s sd sz:Nat}{Q:Exit->Act->World->Prop}{d w' w0:World}{u v z:Value}{T e t:TypeId}{A:Option Addr}{h os:List Nat}{F:List UInt8->Option Nat}{p:List Nat×List Bool}{a:Act}{α:Type}{H l:List Int}{o:Oper}{G:Array Oper}{K:Act->World->Prop}{y:Array Value}{vs:List Value}{L:List Oper}{I:Bool}{U W Y aa:List (Int×List UInt8)}{P:Program}
def wP (v:Nat):Prop:=(97<=v/\v<=122)\/(65<=v/\v<=90)\/(48<=v/\v<=57)\/v=45\/v=95\/v=46
instance (v:Nat):Decidable (wP v):=by unfold wP;infer_instance
def yF (s:List UInt8):Bool:=decide (1<=s.length/\s.length<=32) && s.all fun c=>decide (wP c.toNat)
def clash (n x:Nd):Bool:=decide (x.name=n.name\/(n.kind=4/\x.kind=4/\x.a=n.a))
def kZ (a:Adr):Bool:=decide a.right
def sJ (n:Nd) (l:List Nd):Nat :=
 if yF n.name=false\/n.kind<1\/4<n.kind then 1
 else if n.weight<0\/65535<n.weight\/(n.kind=1/\n.weight≠0)then 17
 else if(n.kind=1/\n.above≠-1)\/(1<n.kind/\(n.above<0\/(l.length:Int)<=n.above))then 16
 else if 1<n.kind/\(l.getD n.above.toNat n).kind≠n.kind - 1 then 16
 else if kZ n.a=false\/(n.kind≠4/\n.a≠zA)then 18
 else if(l.any (clash n))=true then 8 else 0
def jP (p:Nd->Bool) (ns:List Nd):List Nat:=(List.range ns.length).filter fun i=>(ns[i]?).any p
def jA (p:Nd->Bool) (ns:List Nd):List Int:=(jP p ns).map fun(i:Nat)=>(i:Int)
def dM (ns:List Nd):List Int:=jA (fun n=>decide (n.kind=1)) ns
def fM (ns:List Nd):List Int:=jA (fun n=>decide (n.kind=4)) ns
def gJ (ns:List Nd) (i:Nat):List Int:=jA (fun n=>decide (n.above=(i:Int))) ns
theorem aNi(p:Nd->Bool)(ns:List Nd)(n:Nd):jP p (ns++[n])=if p n=true then jP p ns++[ns.length]else jP p ns:=by
 unfold jP;rw[bHa,cZa,List.range_succ,jDa];have e:(List.range ns.length).filter (fun i=>((ns++[n])[i]?).any p)=(List.range ns.length).filter (fun i=>(ns[i]?).any p):=by
  apply List.filter_congr;intro i j;have:=List.mem_range.1 j;rw[cEa this]
 rw[e];by_cases h:p n=true
 .simp[h]
 .simp[h]
theorem wS(p:Nd->Bool)(ns:List Nd)(n:Nd):jA p (ns++[n])=if p n=true then jA p ns++[(ns.length:Int)]else jA p ns:=by
 unfold jA;rw[aNi];split
 .rw[cWa];rfl
 .rfl
def xJ (n:Nd) (l:List Nd):Nat:=if sJ n l≠0 then sJ n l else if 1024<=l.length\/(n.kind=1/\4<=(dM l).length)\/(n.kind=4/\512<=(fM l).length)then 6 else 0
def qD (l:List Nd):Nat->Option (Nat×Nat)
 | 0=>none
 | i+1=>match qD l i with
  | some p=>some p
  | none=>match l[i]? with
   | none=>none
   | some n=>if xJ n (l.take i)≠0 then some (i,xJ n (l.take i))else none
def zN (l:List Nd):Option (Nat×Nat):=qD l l.length
theorem aSm{l:List Nd}{n:Nd}(h:qD l i=none)(j:l[i]?=some n)(A:xJ n (l.take i)≠0):zN l=some (i,xJ n (l.take i)):=by
 have E:qD l (i+1)=some (i,xJ n (l.take i)):=by
  rw[qD,h,j];exact bBa A
 have G:∀k,qD l (i+1+k)=some (i,xJ n (l.take i)):=by
  intro k
  induction k with
  | zero=>exact E
  | succ k ih=>rw[<-eVa,qD,ih]
 have I:=(List.getElem?_eq_some_iff.1 j).1;have:=G (l.length - (i+1));rw[show i+1+(l.length - (i+1))=l.length by omega]at this;exact this
theorem aSk{l:List Nd}{n:Nd}(h:qD l i=none)(j:l[i]?=some n)(A:xJ n (l.take i)=0):qD l (i+1)=none:=by
 rw[qD,h,j];exact bAa (fun e=>e A)
section
theorem vwC_one(v:Vw):∀u∈vwC v,u.oneCell'=true:=by
 intro u j;simp only[vwC,bXa,bVa,dTa]at j;rcases j with rfl|rfl|rfl|rfl|rfl<;>rfl
theorem vpC_one(v:Vp):∀u∈vpC v,u.oneCell'=true:=by
 intro u j;simp only[vpC,bXa,bVa,dTa]at j;rcases j with rfl|rfl|rfl|rfl|rfl|rfl|rfl<;>rfl
theorem aQj(v:Nd):∀u∈ndC v,u.oneCell'=true:=by
 intro u j;simp only[ndC,bXa,bVa,dTa]at j;rcases j with rfl|rfl|rfl|rfl|rfl|rfl|rfl<;>rfl
section
variable {w w':World} {base x mb ma:Nat} {nv vv wv nv':Value} {c c':Cfg}
end
end
theorem aCm(o:Oper)(h:o.op=.alloc 93)(ρ:Operand->Value)(w:World):(execOp ρ o).run prog w=.ok (.value (.pointer (some ⟨w.heap.size,0,none⟩))) (w.alloc (.cells #[.string ⟨#[]⟩,.int .i64 0,.int .i64 0,.int .i64 0,.bool false,.int .u64 0,.int .u64 0] 93)):=by
 obtain⟨d,j,t,A,E,g⟩:=o;dsimp only at h;subst h
 kernel_rfl
theorem aB2(s:ByteArray)(k a v:Int)(A:Bool)(E G:Int):(#[.string s,.int .i64 k,.int .i64 a,.int .i64 v,.bool A,.int .u64 E,.int .u64 G]:Array Value).all (·.oneCell')=true:=all_oneCell_toArray (by
 intro u j;simp only[bXa,bVa,dTa]at j;rcases j with rfl|rfl|rfl|rfl|rfl|rfl|rfl<;>rfl)
instance isRel_below (B:Nat):cB (Below B):=⟨bLa B,fun _ _ _ h k=>h.trans k⟩
theorem aL0(o:Oper)(h:o.op=.alloc 52)(ρ:Operand->Value)(w:World):(execOp ρ o).run prog w=.ok (.value (.pointer (some ⟨w.heap.size,0,none⟩))) (w.alloc (.cells #[.bool false,.int .u64 0,.int .u64 0,.int .i64 0,.int .i64 0,.int .i64 0,.bool false] 52)):=by
 obtain⟨d,j,t,A,E,g⟩:=o;dsimp only at h;subst h
 kernel_rfl
theorem aDq(A:Bool)(E G p q n:Int)(t:Bool):(#[.bool A,.int .u64 E,.int .u64 G,.int .i64 p,.int .i64 q,.int .i64 n,.bool t]:Array Value).all (·.oneCell')=true:=all_oneCell_toArray (by
 intro u j;simp only[bXa,bVa,dTa]at j;rcases j with rfl|rfl|rfl|rfl|rfl|rfl|rfl<;>rfl)
theorem ln_one(i:Int)(A:Option Addr)(n c:Nat):(#[.int .i64 i,.slice A n c]:Array Value).all (·.oneCell')=true:=all_oneCell_toArray (by
 intro u j;simp only[bXa,bVa,dTa]at j;rcases j with rfl|rfl<;>rfl)
def cfC (c:Cfg) (nv vv wv:Value):Array Value :=
 #[nv,vv,wv,.int .i64 c.factor,.int .i64 c.domain,.bool c.s0.v6,.int .u64 (c.s0.hi:Int),.int .u64 (c.s0.lo:Int),.bool c.s1.v6,.int .u64 (c.s1.hi:Int),.int .u64 (c.s1.lo:Int)]
structure CfgV (w:World) (base:Nat) (c:Cfg) (v:Array Value):Prop where
 nodes:w.ownsRow base 93 7 (v.getD 0 undef) c.nodes.length (c.nodes.map ndC).flatten
 vips:w.ownsRow base 52 7 (v.getD 1 undef) c.vips.length (c.vips.map vpC).flatten
 views:w.ownsRow base 183 5 (v.getD 2 undef) c.views.length (c.views.map vwC).flatten
 arr:v=cfC c (v.getD 0 undef) (v.getD 1 undef) (v.getD 2 undef)
theorem cf_one(j A E:Value)(L:j.oneCell'=true)(N:A.oneCell'=true)(O:E.oneCell'=true)(f d:Int)(a:Bool)(b c:Int)(a':Bool)(I J:Int):(#[j,A,E,.int .i64 f,.int .i64 d,.bool a,.int .u64 b,.int .u64 c,.bool a',.int .u64 I,.int .u64 J]:Array Value).all (·.oneCell')=true:=all_oneCell_toArray (by
 intro u G;simp only[bXa,bVa,dTa]at G;rcases G with rfl|rfl|rfl|rfl|rfl|rfl|rfl|rfl|rfl|rfl|rfl<;>first|rfl|assumption)
structure uV (w:World) (B:Nat) (c:Cfg) (A1 A2 A3:Option Addr) (k1 k2 k3:Nat):Prop where
 nodes:IsT ndC 7 w B A1 c.nodes.length c.nodes
 vips:IsT vpC 7 w B A2 c.vips.length c.vips
 views:IsT vwC 5 w B A3 c.views.length c.views
theorem CfgV.open{w:World}{G:Nat}{c:Cfg}{v:Array Value}(h:CfgV w G c v):∃j A E k1 k2 k3,v=cfC c (.slice j c.nodes.length k1) (.slice A c.vips.length k2) (.slice E c.views.length k3)/\uV w w.heap.size c j A E k1 k2 k3:=by
 obtain⟨j,k1,I,-,-,J⟩:=bE h.nodes;obtain⟨A,k2,L,-,-,N⟩:=bE h.vips;obtain⟨E,k3,O,-,-,U⟩:=bE h.views;have:=h.arr;rw[I,L,O]at this;exact⟨j,A,E,k1,k2,k3,this,⟨rfl,J⟩,⟨rfl,N⟩,⟨rfl,U⟩⟩
theorem uV.on{w:World}{c:Cfg}{E G:Option Addr}{k1 k2 k3:Nat}(h:uV w w.heap.size c A E G k1 k2 k3)(j:Below w.heap.size w w'):uV w' w'.heap.size c A E G k1 k2 k3:=⟨h.nodes.on j,h.vips.on j,h.views.on j⟩
theorem CfgV.on{w:World}{A:Nat}{c:Cfg}{v:Array Value}(h:CfgV w A c v)(j:Below w.heap.size w w'):CfgV w' A c v:=⟨mU h.nodes j,mU h.vips j,mU h.views j,h.arr⟩
def vG (c:Cfg):Nat :=
 if c.factor<100\/1000<c.factor\/(c.domain≠2/\c.domain≠3)then 5
 else if c.s0.v6=true\/kZ c.s0=false\/(c.s1≠zA/\c.s1.v6=false)then 18
 else if 64<c.vips.length\/64<c.views.length then 6 else 0
def aV2 (c:Cfg) (n:Nd):Bool:=!decide (n.kind=4/\(if n.a.v6=true then c.s1 else c.s0)=zA)
def aBc (c:Cfg):Bool:=c.nodes.all (aV2 c)
def aFa (v x:Vp):Bool:=decide (x.a=v.a/\x.proto=v.proto/\x.port=v.port)
def yZ (v:Vp) (l:List Vp):Nat :=
 if kZ v.a=false then 18 else if v.proto≠6/\v.proto≠17 then 14
 else if v.port<0\/65535<v.port\/v.copies<1\/8<v.copies\/(1<v.copies/\v.proto≠17)then 5
 else if l.any (aFa v)=true then 8 else 0
def aFb (v x:Vw):Bool:=decide (x.a=v.a/\x.bits=v.bits)
def zP (v:Vw) (l:List Vw) (levels:Nat):Nat :=
 if dL v.a v.bits=false then 18 else if v.level<0\/(levels:Int)<=v.level then 5 else if l.any (aFb v)=true then 8 else 0
def kW {α:Type} (f:α->List α->Nat) (l:List α):Nat->Nat
 | 0=>0
 | i+1=>if kW f l i≠0 then kW f l i else match l[i]? with
  | none=>0
  | some x=>f x (l.take i)
def qF (c:Cfg):Nat :=
 if vG c≠0 then vG c else match zN c.nodes with
  | some p=>p.2
  | none=>if aBc c=false then 7 else if kW yZ c.vips c.vips.length≠0 then kW yZ c.vips c.vips.length
   else kW (fun v l=>zP v l (dM c.nodes).length) c.views c.views.length
theorem name_any(s:List UInt8)(hs:s.length<=9223372036854775807)(w:World) :
 Cl 138 #[.string (str s)] w fun e w'=>e=.returned (.bool (yF s))/\w'=w:=by
 have ad:(str s).size=s.length:=size_str s;obtain⟨X,G⟩:=eX (yF s);rw[G];by_cases aa:1<=s.length/\s.length<=32
 .have O:∀(k:Nat) (c:UInt8),s[k]?=some c->¬ wP c.toNat->X=false:=by
   intro k c Y A;rw[<-G];unfold yF;have:(s.all fun c=>decide (wP c.toNat))=false:=by
    rw[List.all_eq_false];exact⟨c,bPa Y,by simpa using A⟩
   rw[this,Bool.and_false]
  have U:(∀(k:Nat) (c:UInt8),s[k]?=some c->wP c.toNat)->X=true:=by
   intro h;rw[<-G];unfold yF;rw[bYa aa,gWa,jKa];intro c A;obtain⟨k,Y⟩:=List.mem_iff_getElem?.1 A;exact bYa (h k c Y)
  have V:¬ (s.length:Int)<1:=by omega
  have t2:¬ (32:Int)<(s.length:Int):=by omega
  obtain⟨n,hn⟩:=eX s.length;rw[hn]at ad V t2 aa;clear G;replace ⟨O,U⟩:=q_2 O U;go_enter func138,ntmps138;go_wp2_with fail
  go_loopw [2,3,4,15] (fun _ _ _ N wr=>∃i:Nat,i<=n/\N=.int .i64 (i:Int)/\(∀(j:Nat) (c:UInt8),j<i->s[j]?=some c->wP c.toNat)/\w=wr) (fun _ _ _ N _=>n - (intOf N).toNat)
  case atStart=>exact⟨0,by omega,rfl,fun j c hj=>by omega,rfl⟩
  case round =>
   obtain⟨i,hi,rfl,J,rfl⟩:=hrel;by_cases ao:i<n
   .have k1:(i:Int)<(n:Int):=by omega
    have k2:(0:Int)<=(i:Int):=by omega
    obtain⟨c,A⟩:∃c,s[i]?=some c:=⟨_,aXa (by omega)⟩
    have ae:i<(str s).size:=by omega
    have ek:=str_get s i c A ae;have ak:=wJ i;obtain⟨v,Z⟩:=eX c.toNat;have al:v<=255:=by rw[<-Z];have:=c.toNat_lt;omega
    by_cases L:wP v
    .have W:∀(j:Nat) (c:UInt8),j<i+1->s[j]?=some c->wP c.toNat:=by
      intro j d hj I;by_cases ah:j=i
      .subst ah;obtain rfl:=bFa (A.symm.trans I);rw[Z];exact L
      .exact J j d (by omega) I
     clear J A;unfold wP at L;replace W:=q_ W;go_wp2_with fail
     all_goals first|(exfalso;omega)|exact⟨⟨i+1,by omega,by first|rfl|go_num,W,by first|rfl|trivial⟩,by simp only[intOf];omega⟩
    .have E:=O i c A (by rw[Z];exact L);clear J A;unfold wP at L;replace E:=q_ E;go_wp2_with fail
     all_goals first|(exfalso;omega)|(go_ret;exact⟨by rw[E.out];rfl,rfl⟩)
   .obtain rfl:i=n:=by omega
    have am:((i:Int)<(i:Int))=False:=by simp
    have af:=q_ (U (fun j c I=>J j c (by have:=(List.getElem?_eq_some_iff.1 I).1;omega) I));clear J;go_wp2_with fail
    go_ret;exact⟨by rw[af.out];rfl,rfl⟩
 .have E:X=false:=by
   rw[<-G];unfold yF;rw[bWa aa,Bool.false_and]
  clear G;replace E:=q_ E;by_cases h1:s.length<1
  .have V:(s.length:Int)<1:=by omega
   go_enter func138,ntmps138;go_wp2_with fail
   go_ret;exact⟨by rw[E.out];rfl,rfl⟩
  .have V:¬ (s.length:Int)<1:=by omega
   have t2:(32:Int)<(s.length:Int):=by omega
   go_enter func138,ntmps138;go_wp2_with fail
   go_ret;exact⟨by rw[E.out];rfl,rfl⟩
def ndA (n:Nd):Array Value:=#[.string (str n.name),.int .i64 n.kind,.int .i64 n.above,.int .i64 n.weight,.bool n.a.v6,.int .u64 (n.a.hi:Int),.int .u64 (n.a.lo:Int)]
theorem aD8(a:Adr):gU a.v6 a.hi a.lo=kZ a:=by
 unfold kZ;apply Bool.eq_iff_iff.2;rw[eRa];exact aC8 a
def tB2 (wt kd:Int):Bool:=decide (wt<0) || decide (65535<wt) || ((kd == 1) && (wt != 0))
def tB3 (kd ab:Int) (k:Nat):Bool:=((kd == 1) && (ab != -1)) || (decide (1<kd) && (decide (ab<0) || decide ((k:Int)<=ab)))
theorem aNr(n:Nd)(l:List Nd):sJ n l=if(!yF n.name || decide (n.kind<1) || decide (4<n.kind))=true then 1 else if tB2 n.weight n.kind=true then 17 else if tB3 n.kind n.above l.length=true then 16
 else if(decide (1<n.kind) && ((l.getD n.above.toNat n).kind != n.kind - 1))=true then 16 else if(!kZ n.a || ((n.kind != 4) && !decide (n.a=zA)))=true then 18 else if(l.any (clash n))=true then 8 else 0:=by
 unfold sJ tB2 tB3;have j:(yF n.name=false\/n.kind<1\/4<n.kind)↔(!yF n.name || decide (n.kind<1) || decide (4<n.kind))=true:=by
  simp[or_assoc]
 have A:(n.weight<0\/65535<n.weight\/(n.kind=1/\n.weight≠0))↔(decide (n.weight<0) || decide (65535<n.weight) || ((n.kind == 1) && (n.weight != 0)))=true:=by
  simp[or_assoc]
 have E:((n.kind=1/\n.above≠-1)\/(1<n.kind/\(n.above<0\/(l.length:Int)<=n.above)))↔(((n.kind == 1) && (n.above != -1)) || (decide (1<n.kind) && (decide (n.above<0) || decide ((l.length:Int)<=n.above))))=true:=by
  simp
 have G:(1<n.kind/\(l.getD n.above.toNat n).kind≠n.kind - 1)↔(decide (1<n.kind) && ((l.getD n.above.toNat n).kind != n.kind - 1))=true:=by
  simp
 have I:(kZ n.a=false\/(n.kind≠4/\n.a≠zA))↔(!kZ n.a || ((n.kind != 4) && !decide (n.a=zA)))=true:=by
  simp
 simp only[j,A,E,G,I]
theorem aF8(n:Nd)(l:List Nd)(k cap:Nat)(A:Option Addr)(w:World)(hl:IsT ndC 7 w w.heap.size A k l)(hk:k<=1099511627776)(hn:n.name.length<=9223372036854775807) :
 Cl 105 #[.agg (ndA n),.slice A k cap] w fun e w'=>e=.returned (.int .i64 (sJ n l:Int))/\Below w.heap.size w w':=by
 obtain⟨r,hr⟩:=eX (sJ n l);rw[hr];rw[aNr]at hr;obtain⟨L,E,N,V,⟨J,G,I⟩⟩:=n;unfold ndA;dsimp only at hn hr ⊢;have aj:=hl.1;rw[aj]at hr;obtain⟨z,hz⟩:=eX w.heap.size;obtain⟨W,cd⟩:=eX (w.alloc (.cells #[.string (str L),.int .i64 E,.int .i64 N,.int .i64 V,.bool J,.int .u64 (G:Int),.int .u64 (I:Int)] 93));have hB:Hid (Below w.heap.size w W):=q_ (cd▸bC);have a0:Hid (W.heap[w.heap.size]?=some (.cells #[.string (str L),.int .i64 E,.int .i64 N,.int .i64 V,.bool J,.int .u64 (G:Int),.int .u64 (I:Int)] 93 (0,0))):=q_ (cd▸aJ _ _ _);have bi:=q_ (hl.below hB);rw[hz]at a0 bi hB;have b2:z<W.heap.size:=aL a0;have Z:∀w,Cl 104 #[.agg #[.bool J,.int .u64 (G:Int),.int .u64 (I:Int)]] w fun e w'=>e=.returned (.bool (kZ ⟨J,G,I⟩))/\Below w.heap.size w w':=fun w=>by
  have h:=vY J G I w;rw[aD8 ⟨J,G,I⟩]at h;exact h
 have q:=q_ (name_any L hn W);obtain⟨NB,bj⟩:∃B,yF L=B:=⟨_,rfl⟩
 rw[bj]at hr q;have ds:=aA a0;obtain⟨c5,ce⟩:∃b,decide (E<1)=b:=⟨_,rfl⟩
 obtain⟨c6,cg⟩:∃b,decide (4<E)=b:=⟨_,rfl⟩
 replace ⟨hr,bj,Z⟩:=q_3 hr bj Z;clear hl;go_enter func105,ntmps105;go_upto_region 1 with fail
 clear cd;obtain⟨B1,ag⟩:∃b,(!NB || c5 || c6)=b:=⟨_,rfl⟩
 go_cut [7] (fun X wx=>X=.bool B1/\W=wx)
 case first =>
  clear hr Z aj hk;go_wp2_with fail
  refine(q).mono ?_;rintro e W ⟨rfl,rfl⟩
  cases NB
  .obtain rfl:true=B1:=ag;go_wp2_with fail
   go_meet;exact⟨rfl,rfl⟩
  .cases c5
   .obtain rfl:c6=B1:=ag;go_wp2_with fail
    go_meet;exact⟨rfl,rfl⟩
   .obtain rfl:true=B1:=by rw[<-ag];rfl
    go_wp2_with fail
    go_meet;exact⟨rfl,rfl⟩
 case rest =>
 obtain⟨rfl,rfl⟩:=hcut;have ap:=hr.out;rw[ce,cg,ag]at ap;have cv:B1=false->1<=E/\E<=4:=fun h=>by
  rw[h]at ag;simp at ag;have h1:=cUa (ce.trans ag.1.2);have h2:=cUa (cg.trans ag.2);exact⟨by omega,by omega⟩
 clear hr q bj ag
 cases B1
 case true =>
  obtain rfl:1=r:=by rw[<-ap];rfl
  go_wp2_with fail
  go_ret;exact⟨rfl,hB⟩
 case false =>
 clear ce cg;have b3:IntKind.i64.wrap (E - 1)=E - 1:=by
  have:=cv rfl;exact wO _
 replace b3:=q_ b3;clear cv;obtain⟨c7,c8⟩:∃b,decide (V<0)=b:=⟨_,rfl⟩
 obtain⟨ch,c9⟩:∃b,decide (65535<V)=b:=⟨_,rfl⟩
 obtain⟨a2,bp⟩:∃b,(E == 1)=b:=⟨_,rfl⟩
 obtain⟨bq,da⟩:∃b,(V != 0)=b:=⟨_,rfl⟩
 obtain⟨B2,a9⟩:∃b,tB2 V E=b:=⟨_,rfl⟩
 have hB2':(c7 || ch || (a2 && bq))=B2:=by rw[<-c8,<-c9,<-bp,<-da];exact a9
 replace ⟨ap,a9⟩:=q_2 ap a9;go_upto_region 3 with fail
 go_cut [22] (fun X wx=>X=.bool B2/\W=wx)
 case first =>
  clear ap Z aj hk
  cases c7
  .cases ch
   .cases a2
    .obtain rfl:false=B2:=hB2';go_wp2_with fail
     go_meet;exact⟨rfl,rfl⟩
    .obtain rfl:bq=B2:=hB2';go_wp2_with fail
     go_meet;exact⟨rfl,rfl⟩
   .obtain rfl:true=B2:=by rw[<-hB2'];rfl
    cases a2<;>cases bq<;>(go_wp2_with fail;go_meet;exact⟨rfl,rfl⟩)
  .obtain rfl:true=B2:=by rw[<-hB2'];rfl
   cases ch<;>cases a2<;>cases bq<;>(go_wp2_with fail;go_meet;exact⟨rfl,rfl⟩)
 case rest =>
 obtain⟨rfl,rfl⟩:=hcut;have ak:=ap.out;rw[bAa (by decide),a9.out]at ak;clear ap a9 hB2' c8 c9 da
 cases B2
 case true =>
  obtain rfl:17=r:=by rw[<-ak];rfl
  go_wp2_with fail
  go_ret;exact⟨rfl,hB⟩
 case false =>
 obtain⟨db,ci⟩:∃b,(N != -1)=b:=⟨_,rfl⟩
 obtain⟨cj,ck⟩:∃b,decide (1<E)=b:=⟨_,rfl⟩
 obtain⟨br,bs⟩:∃b,decide (N<0)=b:=⟨_,rfl⟩
 obtain⟨cl,bt⟩:∃b,decide ((k:Int)<=N)=b:=⟨_,rfl⟩
 obtain⟨B3,aq⟩:∃b,tB3 E N k=b:=⟨_,rfl⟩
 obtain⟨aw,bh⟩:∃b,(a2 && db)=b:=⟨_,rfl⟩
 have hB3':(aw || (cj && (br || cl)))=B3:=by rw[<-bh,<-bp,<-ci,<-ck,<-bs,<-bt];exact aq
 replace ⟨ak,aq⟩:=q_2 ak aq;go_upto_region 5 with fail
 go_cut [41] (fun X wx=>X=.bool aw/\W=wx)
 case first =>
  clear ak Z aj hk hB3' aq
  cases a2
  .obtain rfl:false=aw:=bh;go_wp2_with fail
   go_meet;exact⟨rfl,rfl⟩
  .obtain rfl:db=aw:=bh;go_wp2_with fail
   go_meet;exact⟨rfl,rfl⟩
 case rest =>
 obtain⟨rfl,rfl⟩:=hcut;go_upto_if 41 with fail
 go_cut [41] (fun X wx=>X=.bool B3/\W=wx)
 case first =>
  clear ak Z aj hk aq bh bp ci
  cases aw
  .cases cj
   .obtain rfl:false=B3:=hB3';go_wp2_with fail
    go_meet;exact⟨rfl,rfl⟩
   .cases br
    .obtain rfl:cl=B3:=hB3';go_wp2_with fail
     go_meet;exact⟨rfl,rfl⟩
    .obtain rfl:true=B3:=by rw[<-hB3'];rfl
     go_wp2_with fail
     go_meet;exact⟨rfl,rfl⟩
  .obtain rfl:true=B3:=by rw[<-hB3'];rfl
   go_wp2_with fail
   go_meet;exact⟨rfl,rfl⟩
 case rest =>
 obtain⟨rfl,rfl⟩:=hcut;have ac:=ak.out;rw[aq.out]at ac;clear ak aq bh bp ci
 cases B3
 case true =>
  obtain rfl:16=r:=by rw[<-ac];rfl
  go_wp2_with fail
  go_ret;exact⟨rfl,hB⟩
 case false =>
 obtain⟨B4,ax⟩:∃b,(decide (1<E) && ((l.getD N.toNat ⟨L,E,N,V,⟨J,G,I⟩⟩).kind != E - 1))=b:=⟨_,rfl⟩
 rw[bAa (by decide),ax]at ac;rw[ck]at ax;have hz1':=b2;replace ac:=q_ ac;go_upto_region 8 with fail
 go_cut [65] from 66 to 80 (fun X wx=>X=.bool B4/\Below W.heap.size W wx)
 case first =>
  have la:=fun l:Later W=>aA (aC l.hb b2 a0)
  cases cj
  .obtain rfl:false=B4:=ax;clear ac Z aj hk hB3';refine rL ?_;refine eS 0 16 0 ?_;simp only[dA,dC,dD];iterate 3 refine qE ?_
   refine jD (.bool false) 10 rfl (fun l=>rfl) (by as_aux_lemma=>kernel_rfl) ?_;dsimp only[wW,List.take_succ_cons,List.take_zero,List.drop_succ_cons,List.drop_zero,Act.put];iterate 2 refine qE ?_
   refine aT ?_;refine eD fun w3 ah=>?_;clear la;go_wp2_with fail
   go_meet;exact⟨rfl,ah⟩
  .have ei:0<=N:=by
    cases br
    .have:=cUa bs;omega
    .exfalso;cases aw<;>simp at hB3'
   have ej:N<(k:Int):=by
    cases cl
    .have:=cUa bt;omega
    .exfalso;cases aw<;>cases br<;>simp at hB3'
   obtain⟨u,rfl⟩:∃u:Nat,N=(u:Int):=⟨N.toNat,by omega⟩
   obtain⟨b,ae,m,rfl,d8,d9,Y⟩:=IsT.at (f:=ndC) (size:=7) (fun _=>rfl) (by decide) bi (i:=u) (by omega);have kc:W.cell? ⟨b,ae+u*7+1,none⟩=some (.int .i64 m.kind):=Y 1 _ rfl;have lk:=fun l:Later W=>(l.hb.cell (p:=⟨b,ae+u*7+1,none⟩) (by dsimp only;omega)).trans kc
   rw[show(l.getD (u:Int).toNat ⟨L,E,(u:Int),V,⟨J,G,I⟩⟩)=m by rw[bMa,bTa,d9];rfl]at ax;have wk:IntKind.i64.wrap (E - 1)=E - 1:=b3.out;obtain⟨em,eb⟩:∃b,(m.kind != E - 1)=b:=⟨_,rfl⟩
   rw[eb]at ax;obtain rfl:em=B4:=ax;clear Y ac Z aj hk hB3' bs bt kc;refine rL ?_;refine eS 0 16 0 ?_;simp only[dA,dC,dD];iterate 16 refine qE ?_
   refine aT ?_;refine eD fun w3 ah=>?_;clear la lk;go_wp2_with fail
   go_meet;exact⟨rfl,ah⟩
 case rest =>
 obtain⟨rfl,ah⟩:=hcut;have bb:=q_ (aC ah b2 a0);have cz:=q_ (bi.below (ah.mono (by omega)));have bk:=q_ ((tw hB ah));have c0:z<wc.heap.size:=aL bb;have c1:=aA bb;clear ah ds a0 bi hB hB3' bs bt ck ax
 cases B4
 case true =>
  obtain rfl:16=r:=by rw[<-ac.out];rfl
  go_wp2_with fail
  go_ret;exact⟨rfl,bk⟩
 case false =>
 have ar:=q_ ac;rw[bAa (by decide)]at ar;clear ac;obtain⟨ez,a3⟩:∃b,decide ((⟨J,G,I⟩:Adr)=zA)=b:=⟨_,rfl⟩
 obtain⟨dd,de⟩:∃b,(E != 4)=b:=⟨_,rfl⟩
 obtain⟨RB,dg⟩:∃B,kZ ⟨J,G,I⟩=B:=⟨_,rfl⟩
 have qA:=q_ (Z wc);rw[dg]at ar qA;rw[a3,de]at ar;obtain⟨B5,a5⟩:∃b,(!RB || (dd && !ez))=b:=⟨_,rfl⟩
 rw[a5]at ar;clear Z dg;go_upto_region 10 with fail
 go_cut [81] from 82 to 96 (fun X wx=>X=.bool B5/\Below wc.heap.size wc wx)
 case first =>
  clear ar aj hk;go_wp2_with fail
  refine(qA).mono ?_;rintro e w4 ⟨rfl,U⟩;have ek:=aA (aC U c0 bb);clear c1 qA;replace U:=q_ U
  cases RB
  .obtain rfl:true=B5:=a5;go_wp2_with fail
   go_meet;exact⟨rfl,U⟩
  .cases dd
   .obtain rfl:false=B5:=a5;go_wp2_with fail
    go_meet;exact⟨rfl,U⟩
   .cases ez
    .obtain rfl:true=B5:=a5;have O:=cUa a3;clear a3
     cases J
     .by_cases hh:G=0
      .subst hh;have du:¬ (I:Int)=0:=fun h=>O (by rw[show I=0 by omega])
       clear O;go_wp2_with fail
       go_meet;exact⟨rfl,U⟩
      .have dv:¬ (G:Int)=0:=by omega
       clear O;go_wp2_with fail
       go_meet;exact⟨rfl,U⟩
     .clear O;go_wp2_with fail
      go_meet;exact⟨rfl,U⟩
    .obtain rfl:false=B5:=a5;have O:=cHa a3;obtain⟨rfl,rfl,rfl⟩:J=false/\G=0/\I=0:=by cases O;exact⟨rfl,rfl,rfl⟩
     clear a3 O;go_wp2_with fail
     go_meet;exact⟨rfl,U⟩
 case rest =>
 obtain⟨rfl,U⟩:=hcut;have bc:=ar.out;have bd:=aC U c0 bb;have bm:=cz.below (U.mono (by omega));have ad:=bk.trans (U.mono (by have:=bk.size;omega));have dw:z<wc.heap.size:=aL bd;clear ar a5 a3 de c1 qA U bb cz bk
 cases B5
 case true =>
  obtain rfl:18=r:=by rw[<-bc];rfl
  replace ad:=q_ ad;go_wp2_with fail
  go_ret;exact⟨rfl,ad⟩
 case false =>
 simp only[eAa,↓reduceIte]at bc;have b5:∀(j:Nat) (x:Nd),l[j]?=some x->clash ⟨L,E,N,V,⟨J,G,I⟩⟩ x=true->r=8:=by
  intro j x hj hc;rw[<-bc,bBa (List.any_eq_true.2 ⟨x,bPa hj,hc⟩)]
 have b6:(∀(j:Nat) (x:Nd),l[j]?=some x->clash ⟨L,E,N,V,⟨J,G,I⟩⟩ x=false)->r=0:=by
  intro h;rw[<-bc,bAa];intro h2;obtain⟨x,hx,hc⟩:=List.any_eq_true.1 h2;obtain⟨j,hj⟩:=List.mem_iff_getElem?.1 hx;rw[h j x hj]at hc
  cases hc
 clear bc;obtain⟨w5,di⟩:=eX wc;rw[di]at bd bm ad dw ⊢;clear di;replace ⟨bd,bm,ad,b5,b6⟩:=q_5 bd bm ad b5 b6;go_wp2_with fail
 go_loopw [4,6,99] (fun _ _ iv wr=>∃i:Nat,i<=k/\iv=.int .i64 (i:Int)/\(∀(j:Nat) (x:Nd),j<i->l[j]?=some x->clash ⟨L,E,N,V,⟨J,G,I⟩⟩ x=false)/\Below w5.heap.size w5 wr) (fun _ _ iv _=>k - (intOf iv).toNat)
 case atStart=>exact⟨0,by omega,rfl,fun j x hj=>by omega,bLa _ _⟩
 case round =>
  obtain⟨i,eo,rfl,bw,af⟩:=hrel;have el:=af.size;by_cases ee:i<k
  .have dx:(i:Int)<(k:Int):=by omega
   obtain⟨b,ae,x,rfl,d8,cm,Y⟩:=IsT.at (f:=ndC) (size:=7) (fun _=>rfl) (by decide) (bm.below (af.mono (by omega))) ee;have c2:=q_ (b5 i x cm);have bo:clash ⟨L,E,N,V,⟨J,G,I⟩⟩ x=false->∀(j:Nat) (y:Nd),j<i+1->l[j]?=some y->clash ⟨L,E,N,V,⟨J,G,I⟩⟩ y=false:=by
    intro hc j y hj hd;by_cases ef:j=i
    .subst ef;obtain rfl:=bFa (cm.symm.trans hd);exact hc
    .exact bw j y (by omega) hd
   clear bw cm;obtain⟨xn,xk,cn,xw,⟨xv,xh,xl⟩⟩:=x;have y0:wr.cell? ⟨b,ae+i*7,none⟩=some (.string (str xn)):=Y 0 _ rfl;have y1:wr.cell? ⟨b,ae+i*7+1,none⟩=some (.int .i64 xk):=Y 1 _ rfl;have y2:wr.cell? ⟨b,ae+i*7+2,none⟩=some (.int .i64 cn):=Y 2 _ rfl;have y3:wr.cell? ⟨b,ae+i*7+3,none⟩=some (.int .i64 xw):=Y 3 _ rfl;have y4:wr.cell? ⟨b,ae+i*7+4,none⟩=some (.bool xv):=Y 4 _ rfl;have y5:wr.cell? ⟨b,ae+i*7+5,none⟩=some (.int .u64 (xh:Int)):=Y 5 _ rfl;have y6:wr.cell? ⟨b,ae+i*7+6,none⟩=some (.int .u64 (xl:Int)):=Y 6 _ rfl;clear Y;have te:((str xn).toList == (str L).toList)=decide (xn=L):=by
    rw[show(str L).toList=L by simp[str,ByteArray.toList_eq]];exact eqw xn L
   have en:=wJ i;replace ⟨af,bo⟩:=q_2 af bo;go_upto_region 14 with fail
   apply aWa;iterate 2 refine pS ?_
   refine gF rfl rfl 93 _ (aCm _ rfl) 6 rfl (.tmp 102) rfl _ (fun _=>rfl) (fun _=>rfl) rfl (by kernel_rfl) (aB2 (str xn) xk cn xw xv (xh:Int) (xl:Int)) ?_;intro w6 dq b7 eq;refine bCa ?_;go_simp;have d5:=aA dq;have d6:=aA (kB b7 (kB af bd));have hb6':=q_ ((tw af b7));have b8:=q_ (ad.trans (hb6'.mono (by have:=ad.size;omega)));clear y0 y1 y2 y3 y4 y5 y6 dq b7 af;obtain⟨CB,cp⟩:∃b,clash ⟨L,E,N,V,⟨J,G,I⟩⟩ ⟨xn,xk,cn,xw,⟨xv,xh,xl⟩⟩=b:=⟨_,rfl⟩
   have be:=q_ c2;have bf:=q_ bo;rw[cp]at be bf;clear c2 bo;obtain⟨bn,cq⟩:∃b,decide (xn=L)=b:=⟨_,rfl⟩
   rw[cq]at te;obtain⟨b4,dl⟩:∃b,(E == 4)=b:=⟨_,rfl⟩
   obtain⟨bx,dn⟩:∃b,(xk == 4)=b:=⟨_,rfl⟩
   obtain⟨ba,a8⟩:∃b,decide ((⟨xv,xh,xl⟩:Adr)=⟨J,G,I⟩)=b:=⟨_,rfl⟩
   have bg:(bn || ((b4 && bx) && ba))=CB:=by
    rw[<-cp,<-cq,<-dl,<-dn,<-a8];unfold clash;apply Bool.eq_iff_iff.2;simp[and_assoc]
   clear cp;go_upto_region 15 with fail
   go_cut [124] from 103 to 123 (fun X wx=>X=.bool CB/\w6=wx)
   case first =>
    clear be bf
    cases bn
    .cases b4
     .obtain rfl:false=CB:=bg;go_wp2_with fail
      go_meet;exact⟨rfl,rfl⟩
     .cases bx
      .obtain rfl:false=CB:=bg;go_wp2_with fail
       go_meet;exact⟨rfl,rfl⟩
      .obtain rfl:ba=CB:=bg
       cases ba
       .have O:=cUa a8;clear a8;by_cases hv:xv=J
        .subst hv;by_cases hh:xh=G
         .subst hh;have du:¬ (xl:Int)=(I:Int):=fun h=>O (by rw[show xl=I by omega])
          clear O;go_wp2_with fail
          go_meet;exact⟨rfl,rfl⟩
         .have dv:¬ (xh:Int)=(G:Int):=by omega
          clear O;go_wp2_with fail
          go_meet;exact⟨rfl,rfl⟩
        .clear O;go_wp2_with fail
         go_meet;exact⟨rfl,rfl⟩
       .have O:=cHa a8;obtain⟨rfl,rfl,rfl⟩:xv=J/\xh=G/\xl=I:=by cases O;exact⟨rfl,rfl,rfl⟩
        clear a8 O;go_wp2_with fail
        go_meet;exact⟨rfl,rfl⟩
    .obtain rfl:true=CB:=by rw[<-bg];rfl
     go_wp2_with fail
     go_meet;exact⟨rfl,rfl⟩
   case rest =>
   obtain⟨rfl,rfl⟩:=hcut;clear bg te cq dl dn a8 d5 d6
   cases CB
   .have b9:=bf rfl;clear bf be;replace b9:=q_ b9;go_wp2_with fail
    exact⟨⟨i+1,by omega,by first|rfl|go_num,b9,hb6'⟩,by simp only[intOf];omega⟩
   .have e8:=be rfl;clear bf be;replace e8:=q_ e8;go_wp2_with fail
    refine aYa (v:=.int .i64 8) (by simp[results,results105,go_sem]) rfl ⟨by rw[e8.out];rfl,by rw[hz];exact b8⟩
  .obtain rfl:i=k:=by omega
   have dx:((i:Int)<(i:Int))=False:=by simp
   have e0:=q_ (b6 (fun j x hj=>bw j x (by have:=(List.getElem?_eq_some_iff.1 hj).1;omega) hj));have b8:=q_ (ad.trans (af.mono (by have:=ad.size;omega)));clear bw af;go_wp2_with fail
   refine aYa (v:=.int .i64 0) (by simp[results,results105,go_sem]) rfl ⟨by rw[e0.out];rfl,by rw[hz];exact b8⟩
section
def bL (n:Int):Value:=.int .i64 n
structure Rows (w:World) (base:Nat) (vs:List Value) (xs:List (List Int)):Prop where
 len:vs.length=xs.length
 own:∀(i:Nat) (v:Value) (x:List Int),vs[i]?=some v->xs[i]?=some x->w.ownsRow base 3 1 v x.length (x.map bL)
 apart:∀(i j:Nat) (v u:Value) (g:Nat),vs[i]?=some v->vs[j]?=some u->v.ownBlock=some g->u.ownBlock=some g->i=j
section
variable {w w':World} {base:Nat} {vs:List Value} {xs:List (List Int)}
theorem Rows.on(h:Rows w base vs xs)(j:Below w.heap.size w w'):Rows w' base vs xs:=⟨h.len,fun i v x A E=>mU (h.own i v x A E) j,h.apart⟩
theorem Rows.lt(h:Rows w base vs xs)(j:vs[i]?=some v)(A:v.ownBlock=some g):base<=g/\g<w.heap.size:=by
 have E:=(List.getElem?_eq_some_iff.1 j).1;exact cYa (h.own i v _ j (aXa (by rw[<-h.len];exact E))) _ A
theorem Rows.grow(h:Rows w base vs xs){N:Value}{x x':List Int}(O:vs[i]?=some v)(Y:xs[i]?=some x)(Z:w'.ownsRow base 3 1 N x'.length (x'.map bL))(V:fA w v w' N):Rows w' base (vs.set i N) (xs.set i x'):=by
 have U:=(List.getElem?_eq_some_iff.1 O).1;have aa:=(List.getElem?_eq_some_iff.1 Y).1;have X:∀(j g:Nat) (u:Value),j≠i->vs[j]?=some u->u.ownBlock=some g->N.ownBlock≠some g:=by
  intro j g u G A E J;rcases V.moved with I|⟨k,I,h5⟩
  .rw[J]at I;exact G (h.apart j i u v g A O E I.symm)
  .rw[J]at I;have:=(h.lt A E).2;have:g=k:=by simpa using I
   omega
 refine⟨by rw[cFa,cFa,h.len],fun j u y A E=>?_,fun j k u W g A E J I=>?_⟩
 .by_cases G:j=i
  .subst G;rw[dAa U]at A;rw[dAa aa]at E
   cases A;cases E
   exact Z
  .rw[cQa (fVa G)]at A E;refine cDa (h.own j u y A E) V.grown ?_;rcases hb:u.ownBlock with _|g
   .exact .inl rfl
   .exact .inr fun e=>G (h.apart j i u v g A O hb e.symm)
 .by_cases G:j=i
  .by_cases L:k=i
   .omega
   .subst G;rw[dAa U]at A;rw[cQa (fVa L)]at E
    cases A
    exact absurd J (X k g W L E I)
  .by_cases L:k=i
   .subst L;rw[dAa U]at E;rw[cQa (fVa G)]at A
    cases E
    exact absurd I (X j g u G A J)
   .rw[cQa (fVa G)]at A;rw[cQa (fVa L)]at E;exact h.apart j k u W g A E J I
theorem Rows.more(h:Rows w base vs xs):Rows w base (vs++[.slice none 0 0]) (xs++[[]]):=by
 have O:∀(j g:Nat) (u:Value),vs.length<=j->(vs++[.slice none 0 0])[j]?=some u->u.ownBlock=some g->False:=by
  intro j g u G A E;rw[cJa G]at A;have I:=(List.getElem?_eq_some_iff.1 A).1;have:j - vs.length=0:=by simpa using I
  rw[this]at A
  cases A
  cases E
 refine⟨by simp[h.len],fun j u y A E=>?_,fun j k u J g A E L N=>?_⟩
 .by_cases G:j<vs.length
  .rw[cEa G]at A;rw[cEa (by rw[<-h.len];exact G)]at E;exact h.own j u y A E
  .rw[cJa (by omega)]at A;rw[cJa (by rw[<-h.len];omega)]at E;have I:=(List.getElem?_eq_some_iff.1 A).1;have e:j - vs.length=0:=by simpa using I
   rw[e]at A;rw[<-h.len,e]at E
   cases A;cases E
   exact cKa _ _ _ _
 .by_cases G:j<vs.length
  .by_cases U:k<vs.length
   .rw[cEa G]at A;rw[cEa U]at E;exact h.apart j k u J g A E L N
   .exact(O k g J (by omega) E N).elim
  .exact(O j g u (by omega) A L).elim
end
structure aEs (w:World) (base x:Nat) (ns:List Nd) (nv kv tv hv:Value) (us:List Value):Prop where
 blk:w.heap[x]?=some (.cells #[nv,kv,tv,hv] 170 (0,0))
 hx:base<=x
 nodes:w.ownsRow base 93 7 nv ns.length (ns.map ndC).flatten
 kids:w.ownsRow base 31 1 kv ns.length us
 rows:Rows w base (tv :: hv :: us) (dM ns :: fM ns :: (List.range ns.length).map (gJ ns))
 small:ns.length<=1024/\(∀n∈ns,n.above<(ns.length:Int))
def dH (w:World) (base x:Nat) (ns:List Nd):Prop:=∃nv kv tv hv us,aEs w base x ns nv kv tv hv us
theorem aEs.on{w w':World}{base x:Nat}{ns:List Nd}{A E G I:Value}{J:List Value}(h:aEs w base x ns A E G I J)(j:Below w.heap.size w w'):aEs w' base x ns A E G I J :=
 ⟨(j.block x (aL h.blk)).trans h.blk,h.hx,mU h.nodes j,mU h.kids j,h.rows.on j,h.small⟩
end
theorem rA(ns:List Nd)(A x:Nat)(w:World)(E:dH w A x ns) :
 Cl 52 #[.pointer (some ⟨x,0,none⟩)] w fun e w'=>e=.returned (.int .i64 (ns.length:Int))/\w'=w:=by
 obtain⟨L,N,O,U,V,j⟩:=E;obtain⟨W,X,G,Y,Z,I⟩:=bE j.nodes;have J:=aA j.blk 0;subst G;clear j I;go_enter func52,ntmps52;go_wp2_with fail
 go_ret;exact⟨rfl,rfl⟩
def eU (ns:List Nd) (i:Int):Nd:=if i<0\/(ns.length:Int)<=i then⟨[],0,0,0,zA⟩else ns.getD i.toNat ⟨[],0,0,0,zA⟩
theorem uD(ns:List Nd)(i:Int)(W x:Nat)(w:World)(hT:dH w W x ns) :
 Cl 23 #[.pointer (some ⟨x,0,none⟩),.int .i64 i] w fun e w'=>e=.returned (.agg (ndA (eU ns i)))/\Below w.heap.size w w':=by
 obtain⟨A,V⟩:=eX (w.alloc (.cells #[.string ⟨#[]⟩,.int .i64 0,.int .i64 0,.int .i64 0,.bool false,.int .u64 0,.int .u64 0] 93));have U:Hid (Below w.heap.size w A):=q_ (V▸bC);have ad:Hid (A.heap[w.heap.size]?=some (.cells #[.string ⟨#[]⟩,.int .i64 0,.int .i64 0,.int .i64 0,.bool false,.int .u64 0,.int .u64 0] 93 (0,0))):=q_ (V▸aJ _ _ _);have bh:=aL ad;have ao:dH A W x ns:=by
  obtain⟨nv,kv,tv,hv,us,J⟩:=hT;exact⟨nv,kv,tv,hv,us,J.on U⟩
 have ql:=q_ (rA ns W x A ao);obtain⟨nv,kv,tv,hv,us,J⟩:=ao;have az:=J.small.1;obtain⟨An,cn,bb,h1,h2,ax⟩:=bE J.nodes;have k0:=aA J.blk 0;subst bb;have hl:Hid (IsT ndC 7 A A.heap.size An ns.length ns):=q_ (⟨rfl,ax⟩);obtain⟨N,hN⟩:=eX (eU ns i);rw[hN];obtain⟨L,hL⟩:=eX ns.length;unfold eU at hN;rw[hL]at hN k0 hl ql az;clear J ax hT;by_cases hi:i<0\/(L:Int)<=i
 .rw[bBa hi]at hN;subst hN;have t1:(decide (i<0) || decide ((L:Int)<=i))=true:=by simpa using hi
  obtain⟨b1,hb⟩:∃b,decide (i<0)=b:=⟨_,rfl⟩
  obtain⟨b2,bg⟩:∃b,decide ((L:Int)<=i)=b:=⟨_,rfl⟩
  rw[hb,bg]at t1;go_enter func23,ntmps23;go_upto_region 1 with fail
  clear V;go_cut [12] (fun Z wx=>Z=.bool true/\A=wx)
  case first =>
   cases b1
   .obtain rfl:b2=true:=t1;go_wp2_with fail
    refine(ql).mono ?_;rintro e A ⟨rfl,rfl⟩;go_wp2_with fail
    go_meet;exact⟨rfl,rfl⟩
   .go_wp2_with fail
    go_meet;exact⟨rfl,rfl⟩
  case rest =>
  obtain⟨rfl,rfl⟩:=hcut;go_upto_region 2 with fail
  apply aWa;refine pS ?_;refine sW 93 (.tmp 4) (.tmp 13) (w.heap.size) (#[.string ⟨#[]⟩,.int .i64 0,.int .i64 0,.int .i64 0,.bool false,.int .u64 0,.int .u64 0]) ad (aB2 _ _ _ _ _ _ _) underlying93 fun w9 ac O G=>?_;have ag:Hid (Below (w.heap.size) w w9):=q_ ((U).trans (below_grown O (by have:=(U).size;omega) (aZa _)));clear ac O;replace G:=q_ G;refine bCa ?_;go_simp;go_wp2_with fail
  exact aYa (v:=.agg (ndA ⟨[],0,0,0,zA⟩)) (by simp[results,results23,asAddr,G.out,Result.andThen,ndA,str]) rfl ⟨rfl,ag⟩
 .rw[bAa hi]at hN;have t1:decide (i<0)=false:=by simp;omega
  have t2:decide ((L:Int)<=i)=false:=by simp;omega
  obtain⟨j,rfl⟩:∃j:Nat,i=(j:Int):=⟨i.toNat,by omega⟩
  have hj:j<L:=by omega
  obtain⟨b,I,n,rfl,bm,ay,E⟩:=IsT.at (f:=ndC) (size:=7) (fun _=>rfl) (by decide) hl hj;have a2:N=n:=by
   rw[<-hN]
   show ns.getD j _=n
   rw[bTa,ay]
   rfl
  subst a2;clear hN ay;obtain⟨nm,kd,ab,wt,⟨v6,X,Y⟩⟩:=N;have y0:A.cell? ⟨b,I+j*7,none⟩=some (.string (str nm)):=E 0 _ rfl;have y1:A.cell? ⟨b,I+j*7+1,none⟩=some (.int .i64 kd):=E 1 _ rfl;have y2:A.cell? ⟨b,I+j*7+2,none⟩=some (.int .i64 ab):=E 2 _ rfl;have y3:A.cell? ⟨b,I+j*7+3,none⟩=some (.int .i64 wt):=E 3 _ rfl;have y4:A.cell? ⟨b,I+j*7+4,none⟩=some (.bool v6):=E 4 _ rfl;have y5:A.cell? ⟨b,I+j*7+5,none⟩=some (.int .u64 (X:Int)):=E 5 _ rfl;have y6:A.cell? ⟨b,I+j*7+6,none⟩=some (.int .u64 (Y:Int)):=E 6 _ rfl;clear E;unfold ndA;dsimp only;go_enter func23,ntmps23;go_upto_region 1 with fail
  clear V;go_cut [12] (fun Z wx=>Z=.bool false/\A=wx)
  case first =>
   clear y0 y1 y2 y3 y4 y5 y6;go_wp2_with fail
   refine(ql).mono ?_;rintro e A ⟨rfl,rfl⟩;go_wp2_with fail
   go_meet;exact⟨by rw[bWa (by omega)],rfl⟩
  case rest =>
  obtain⟨rfl,rfl⟩:=hcut;go_upto_region 3 with fail
  apply aWa;iterate 7 refine pS ?_
  refine sW 93 (.tmp 4) (.tmp 20) (w.heap.size) (#[.string (str nm),.int .i64 kd,.int .i64 ab,.int .i64 wt,.bool v6,.int .u64 (X:Int),.int .u64 (Y:Int)]) ad (aB2 _ _ _ _ _ _ _) underlying93 fun w9 ac O G=>?_;have ag:Hid (Below (w.heap.size) w w9):=q_ ((U).trans (below_grown O (by have:=(U).size;omega) (aZa _)));clear ac O;replace G:=q_ G;refine bCa ?_;go_simp;go_wp2_with fail
  exact aYa (v:=.agg #[.string (str nm),.int .i64 kd,.int .i64 ab,.int .i64 wt,.bool v6,.int .u64 (X:Int),.int .u64 (Y:Int)]) (by simp[results,results23,asAddr,G.out]) rfl ⟨rfl,ag⟩
theorem aTk:(prog.info? 3).map (fun i=>(i.zero,i.size,i.bytes))=some (some (.int .i64 0),1,8):=by kernel_rfl
theorem aDc(xs:List Value)(n c:Nat)(A:Option Addr)(w:World)(j:IsV w w.heap.size 1 A n xs)(hn:n<=1099511627776)(N:∀u∈xs,u.oneCell'=true) :
 Cl 96 #[.slice A n c] w fun e w'=>∃v,e=.returned v/\w'.ownsRow w.heap.size 3 1 v n xs/\Below w.heap.size w w':=by
 have q:=fun(w:World) (a:Option Addr) (n c:Nat)=>Lib.run_eql_slice_nil (P:=prog) w _ _ a n c 0 0 dRa
 rcases A with _|⟨b,L,pt⟩
 .have V:n=0:=by
   rcases fRa n with h|h
   .exact h
   .obtain⟨b,L,e,-⟩:=j.2 h
    cases e
  subst V;have W:xs=[]:=by
   have:=j.1;simpa using this
  subst W;clear j;go_enter func96,ntmps96;go_wp2_with fail
  go_ret;exact⟨_,rfl,cKa _ _ _ _,bLa _ _⟩
 .obtain⟨i,aa,ab,ac,ad⟩:=gZa aTk;have G:Hid (Below w.heap.size w (w.alloc (.cells #[] 3))):=q_ (bC);have X:=q_ (j.below G);have Y:Hid ((w.alloc (.cells #[] 3)).ownsRow w.heap.size 3 1 (.slice (some ⟨w.heap.size,0,none⟩) 0 0) 0 []):=q_ (World.ownsRow_made w #[] 0 (aZa _) (dEa _) rfl);have J:=G.size;replace j:=q_ j;go_enter func96,ntmps96;go_upto_region 3 with fail
  apply aWa;iterate 2 refine pS ?_
  refine uU _ rfl (.tmp 5) (.tmp 6) 31 rfl w.heap.size 3 i _ 1 8 dRa aa ab ac ad rfl (by decide) _ 0 [] rfl Y w.heap.size (some ⟨b,L,pt⟩) n c xs rfl X N (by unfold maxLen;omega) (by omega) J fun v w2 E I O=>?_;rw[dWa,cVa]at E;have Z:=q_ (G.trans (bV I J (fun k U=>by cases U;exact aZa _)));clear I O;replace E:=q_ E;refine pS ?_;refine bCa ?_;go_simp;go_wp2_with fail
  go_ret;exact⟨v,rfl,E,Z⟩
theorem aC0(ns:List Nd)(I x:Nat)(w:World)(J:dH w I x ns) :
 Cl 67 #[.pointer (some ⟨x,0,none⟩)] w fun e w'=>∃v,e=.returned v/\w'.ownsRow w.heap.size 3 1 v (dM ns).length ((dM ns).map bL)/\Below w.heap.size w w':=by
 obtain⟨Y,Z,N,hv,us,j⟩:=J;have W:=j.small.1;obtain⟨O,U,V,h1,h2,G⟩:=bE (j.rows.own 0 N _ rfl rfl);have k2:=aA j.blk 2;subst V;have X:(dM ns).length<=ns.length:=by
  unfold dM jA jP;rw[bNa];have:=eTa (fun i=>(ns[i]?).any (fun n=>decide (n.kind=1))) (List.range ns.length);rw[fPa]at this;omega
 have q:=q_ (aDc ((dM ns).map bL) (dM ns).length U O w G (by omega) (fun u L=>by obtain⟨y,_,rfl⟩:=List.mem_map.1 L;rfl));clear j G;go_enter func67,ntmps67;go_wp2_with fail
 refine(q).mono ?_;rintro e w2 ⟨v,rfl,A,E⟩;replace ⟨A,E⟩:=q_2 A E;go_wp2_with fail
 go_ret;exact⟨v,rfl,A,E⟩
theorem self_any(c:Cfg)(w:World)(A1 A2 A3:Option Addr)(k1 k2 k3:Nat)(h:uV w w.heap.size c A1 A2 A3 k1 k2 k3)(hn:c.nodes.length<=1099511627776) :
 Cl 64 #[.agg (cfC c (.slice A1 c.nodes.length k1) (.slice A2 c.vips.length k2) (.slice A3 c.views.length k3))] w fun e w'=>e=.returned (.bool (aBc c))/\Below w.heap.size w w':=by
 obtain⟨X,hX⟩:=eX (aBc c);have ah:∀(i:Nat) (n:Nd),c.nodes[i]?=some n->aV2 c n=false->X=false:=by
  intro i n hi hf;rw[<-hX];unfold aBc;rw[List.all_eq_false];exact⟨n,bPa hi,by rw[hf];decide⟩
 have ai:(∀(i:Nat) (n:Nd),c.nodes[i]?=some n->aV2 c n=true)->X=true:=by
  intro hf;rw[<-hX];unfold aBc;rw[jKa];intro n hn;obtain⟨i,hi⟩:=List.mem_iff_getElem?.1 hn;exact hf i n hi
 rw[hX];unfold aV2 at ah ai;obtain⟨n1,cd⟩:∃n,c.nodes.length=n:=⟨_,rfl⟩
 have p1:=h.nodes;rw[cd]at hn p1 ⊢;obtain⟨⟨V,I,J⟩,a6⟩:∃x,c.s0=x:=⟨_,rfl⟩
 obtain⟨⟨W,L,N⟩,a7⟩:∃x,c.s1=x:=⟨_,rfl⟩
 rw[a6,a7]at ah ai;unfold cfC;rw[a6,a7];dsimp only;obtain⟨w1,a8⟩:=eX (w.alloc (.cells #[.slice A1 n1 k1,.slice A2 c.vips.length k2,.slice A3 c.views.length k3,.int .i64 c.factor,.int .i64 c.domain,.bool V,.int .u64 (I:Int),.int .u64 (J:Int),.bool W,.int .u64 (L:Int),.int .u64 (N:Int)] 30));have aj:Hid (Below w.heap.size w w1):=q_ (a8▸bC);have ar:Hid (w1.heap[w.heap.size]?=some (.cells #[.slice A1 n1 k1,.slice A2 c.vips.length k2,.slice A3 c.views.length k3,.int .i64 c.factor,.int .i64 c.domain,.bool V,.int .u64 (I:Int),.int .u64 (J:Int),.bool W,.int .u64 (L:Int),.int .u64 (N:Int)] 30 (0,0))):=q_ (a8▸aJ _ _ _);have bh:=aL ar;have bi:=aA ar 0;obtain⟨z,hz⟩:=eX w.heap.size;have a4:=q_ (p1.below aj);rw[hz]at aj ar bh a4;have b0:Hid (Below w.heap.size w w1):=q_ (by rw[hz];exact aj);clear h hX p1 a6 a7;replace ⟨ah,ai⟩:=q_2 ah ai;go_enter func64,ntmps64;go_upto_region 1 with fail
 clear a8;rw[hz]at bi;go_wp2_with fail
 clear bi;go_loopw [4,5,9] (fun _ _ iv wr=>∃i:Nat,i<=n1/\iv=.int .i64 (i:Int)/\(∀(j:Nat) (n:Nd),j<i->c.nodes[j]?=some n->(!decide (n.kind=4/\(if n.a.v6=true then(⟨W,L,N⟩:Adr)else⟨V,I,J⟩)=zA))=true)/\Below w1.heap.size w1 wr) (fun _ _ iv _=>n1 - (intOf iv).toNat)
 case atStart=>exact⟨0,by omega,rfl,fun j n hj=>by omega,bLa _ _⟩
 case round =>
  obtain⟨i,hi,rfl,aw,U⟩:=hrel;have b1:=U.size;by_cases cg:i<n1
  .have b2:(i:Int)<(n1:Int):=by omega
   obtain⟨b,ae,nd,rfl,cl,ba,Y⟩:=IsT.at (f:=ndC) (size:=7) (fun _=>rfl) (by decide) (a4.below (U.mono (by omega))) cg;have ci:=wJ i;have O:=q_ (ah i nd ba);have E:(!decide (nd.kind=4/\(if nd.a.v6=true then(⟨W,L,N⟩:Adr)else⟨V,I,J⟩)=zA))=true->∀(j:Nat) (n:Nd),j<i+1->c.nodes[j]?=some n->(!decide (n.kind=4/\(if n.a.v6=true then(⟨W,L,N⟩:Adr)else⟨V,I,J⟩)=zA))=true:=by
    intro he j n hj hd;by_cases ch:j=i
    .subst ch;obtain rfl:=bFa (ba.symm.trans hd);exact he
    .exact aw j n (by omega) hd
   clear aw ba;obtain⟨nm,kd,ab,wt,⟨v6,bf,lo⟩⟩:=nd;dsimp only at O E;have y0:wr.cell? ⟨b,ae+i*7,none⟩=some (.string (str nm)):=Y 0 _ rfl;have y1:wr.cell? ⟨b,ae+i*7+1,none⟩=some (.int .i64 kd):=Y 1 _ rfl;have y2:wr.cell? ⟨b,ae+i*7+2,none⟩=some (.int .i64 ab):=Y 2 _ rfl;have y3:wr.cell? ⟨b,ae+i*7+3,none⟩=some (.int .i64 wt):=Y 3 _ rfl;have y4:wr.cell? ⟨b,ae+i*7+4,none⟩=some (.bool v6):=Y 4 _ rfl;have y5:wr.cell? ⟨b,ae+i*7+5,none⟩=some (.int .u64 (bf:Int)):=Y 5 _ rfl;have y6:wr.cell? ⟨b,ae+i*7+6,none⟩=some (.int .u64 (lo:Int)):=Y 6 _ rfl;clear Y;obtain⟨ay,bb⟩:∃b,decide (kd=4)=b:=⟨_,rfl⟩
   have bj:(kd == 4)=ay:=by rw[<-bb];rfl
   obtain⟨Z,G⟩:∃b,decide ((if v6=true then(⟨W,L,N⟩:Adr)else⟨V,I,J⟩)=zA)=b:=⟨_,rfl⟩
   obtain⟨B,af⟩:∃b,(ay && Z)=b:=⟨_,rfl⟩
   have bk:decide (kd=4/\(if v6=true then(⟨W,L,N⟩:Adr)else⟨V,I,J⟩)=zA)=B:=by rw[Bool.decide_and,bb,G,af]
   rw[bk]at O E;clear bk bb;replace ⟨E,U⟩:=q_2 E U;go_upto_region 3 with fail
   apply aWa;iterate 2 refine pS ?_
   refine gF rfl rfl 93 _ (aCm _ rfl) 4 rfl (.tmp 12) rfl _ (fun _=>rfl) (fun _=>rfl) rfl (by kernel_rfl) (aB2 (str nm) kd ab wt v6 (bf:Int) (lo:Int)) ?_;intro w4 bd bz cm;refine bCa ?_;have ak:=q_ (U.trans (bz.mono b1));have ac:=aC ak bh ar;have d1:=aA bd 1;have d4:=aA bd 4;have e5:=aA ac 5;have e6:=aA ac 6;have e7:=aA ac 7;have e8:=aA ac 8;have e9:=aA ac 9;have bs:=aA ac 10;clear y0 y1 y2 y3 y4 y5 y6 bz bd ac U
   cases v6
   .go_upto_region 7 with fail
    go_cut [26] (fun bv wx=>bv=.bool B/\w4=wx)
    case first =>
     clear O E
     cases ay
     .obtain rfl:false=B:=af;go_wp2_with fail
      go_meet;exact⟨rfl,rfl⟩
     .obtain rfl:Z=B:=af
      cases Z
      .have A:=cUa G;rw[bAa (by decide)]at A;clear G
       cases V
       .by_cases hh:I=0
        .subst hh;have ca:¬ (J:Int)=0:=fun h=>A (by rw[show J=0 by omega])
         clear A;go_wp2_with fail
         go_meet;exact⟨rfl,rfl⟩
        .have cc:¬ (I:Int)=0:=by omega
         clear A;go_wp2_with fail
         go_meet;exact⟨rfl,rfl⟩
       .clear A;go_wp2_with fail
        go_meet;exact⟨rfl,rfl⟩
      .have A:=cHa G;rw[bAa (by decide)]at A;obtain⟨rfl,rfl,rfl⟩:V=false/\I=0/\J=0:=by cases A;exact⟨rfl,rfl,rfl⟩
       clear G A;go_wp2_with fail
       go_meet;exact⟨rfl,rfl⟩
    case rest =>
    obtain⟨rfl,rfl⟩:=hcut;clear G af bj d1 d4 e5 e6 e7 e8 e9 bs
    cases B
    .have ad:=E rfl;clear O E;replace ad:=q_ ad;go_wp2_with fail
     exact⟨⟨i+1,by omega,by first|rfl|go_num,ad,ak⟩,by simp only[intOf];omega⟩
    .obtain rfl:=O rfl;clear O E;go_wp2_with fail
     go_ret;exact⟨rfl,aj.trans (ak.mono (by omega))⟩
   .go_upto_region 7 with fail
    go_cut [26] (fun bv wx=>bv=.bool B/\w4=wx)
    case first =>
     clear O E
     cases ay
     .obtain rfl:false=B:=af;go_wp2_with fail
      go_meet;exact⟨rfl,rfl⟩
     .obtain rfl:Z=B:=af
      cases Z
      .have A:=cUa G;rw[bBa rfl]at A;clear G
       cases W
       .by_cases hh:L=0
        .subst hh;have ca:¬ (N:Int)=0:=fun h=>A (by rw[show N=0 by omega])
         clear A;go_wp2_with fail
         go_meet;exact⟨rfl,rfl⟩
        .have cc:¬ (L:Int)=0:=by omega
         clear A;go_wp2_with fail
         go_meet;exact⟨rfl,rfl⟩
       .clear A;go_wp2_with fail
        go_meet;exact⟨rfl,rfl⟩
      .have A:=cHa G;rw[bBa rfl]at A;obtain⟨rfl,rfl,rfl⟩:W=false/\L=0/\N=0:=by cases A;exact⟨rfl,rfl,rfl⟩
       clear G A;go_wp2_with fail
       go_meet;exact⟨rfl,rfl⟩
    case rest =>
    obtain⟨rfl,rfl⟩:=hcut;clear G af bj d1 d4 e5 e6 e7 e8 e9 bs
    cases B
    .have ad:=E rfl;clear O E;replace ad:=q_ ad;go_wp2_with fail
     exact⟨⟨i+1,by omega,by first|rfl|go_num,ad,ak⟩,by simp only[intOf];omega⟩
    .obtain rfl:=O rfl;clear O E;go_wp2_with fail
     go_ret;exact⟨rfl,aj.trans (ak.mono (by omega))⟩
  .obtain rfl:i=n1:=by omega
   have b2:((i:Int)<(i:Int))=False:=by simp
   have a5:=ai (fun j n hd=>by
    by_cases hj:j<i
    .exact aw j n hj hd
    .have h5:=(List.getElem?_eq_some_iff.1 hd).1;have h6:=a4.out.1;omega)
   clear aw;replace ⟨a5,U⟩:=q_2 a5 U;go_wp2_with fail
   go_ret;exact⟨by rw[a5.out];rfl,b0.trans (U.mono (by omega))⟩
theorem aNj(c:Cfg):vG c=if(decide (c.factor<100) || decide (1000<c.factor) || ((c.domain != 2) && (c.domain != 3)))=true then 5
 else if(c.s0.v6 || !kZ c.s0 || (!decide (c.s1=zA) && !c.s1.v6))=true then 18 else if(decide ((64:Int)<(c.vips.length:Int)) || decide ((64:Int)<(c.views.length:Int)))=true then 6 else 0:=by
 unfold vG;have j:(c.factor<100\/1000<c.factor\/(c.domain≠2/\c.domain≠3))↔(decide (c.factor<100) || decide (1000<c.factor) || ((c.domain != 2) && (c.domain != 3)))=true:=by simp[or_assoc]
 have A:(c.s0.v6=true\/kZ c.s0=false\/(c.s1≠zA/\c.s1.v6=false))↔(c.s0.v6 || !kZ c.s0 || (!decide (c.s1=zA) && !c.s1.v6))=true:=by simp[or_assoc]
 have E:(64<c.vips.length\/64<c.views.length)↔(decide ((64:Int)<(c.vips.length:Int)) || decide ((64:Int)<(c.views.length:Int)))=true:=by simp;omega
 simp only[j,A,E]
theorem aHa(c:Cfg)(w:World)(A1 A2 A3:Option Addr)(k1 k2 k3:Nat) :
 Cl 62 #[.agg (cfC c (.slice A1 c.nodes.length k1) (.slice A2 c.vips.length k2) (.slice A3 c.views.length k3))] w fun e w'=>e=.returned (.int .i64 (vG c:Int))/\Below w.heap.size w w':=by
 obtain⟨X,I⟩:=eX (vG c);rw[I];rw[aNj]at I;obtain⟨n1,bf⟩:∃n,c.nodes.length=n:=⟨_,rfl⟩
 obtain⟨n2,a0⟩:∃n,c.vips.length=n:=⟨_,rfl⟩
 obtain⟨n3,a1⟩:∃n,c.views.length=n:=⟨_,rfl⟩
 obtain⟨F,hF⟩:∃x,c.factor=x:=⟨_,rfl⟩
 obtain⟨D,hD⟩:∃x,c.domain=x:=⟨_,rfl⟩
 obtain⟨⟨N,ad,ae⟩,a4⟩:∃x,c.s0=x:=⟨_,rfl⟩
 obtain⟨⟨O,V,W⟩,a5⟩:∃x,c.s1=x:=⟨_,rfl⟩
 unfold cfC;rw[bf,a0,a1,hF,hD,a4,a5];rw[a0,a1,hF,hD,a4,a5]at I;dsimp only at I ⊢;clear bf a0 a1 hF hD a4 a5;obtain⟨w1,a7⟩:=eX (w.alloc (.cells #[.slice A1 n1 k1,.slice A2 n2 k2,.slice A3 n3 k3,.int .i64 F,.int .i64 D,.bool N,.int .u64 (ad:Int),.int .u64 (ae:Int),.bool O,.int .u64 (V:Int),.int .u64 (W:Int)] 30));have bb:Hid (Below w.heap.size w w1):=q_ (a7▸bC);have ar:Hid (w1.heap[w.heap.size]?=some (.cells #[.slice A1 n1 k1,.slice A2 n2 k2,.slice A3 n3 k3,.int .i64 F,.int .i64 D,.bool N,.int .u64 (ad:Int),.int .u64 (ae:Int),.bool O,.int .u64 (V:Int),.int .u64 (W:Int)] 30 (0,0))):=q_ (a7▸aJ _ _ _);have bc:=aL ar;have qA:=q_ (fun w=>vY N ad ae w);rw[aD8 ⟨N,ad,ae⟩]at qA;replace I:=q_ I;go_enter func62,ntmps62;go_upto_region 1 with fail
 clear a7;apply aWa;refine pS ?_;refine gF rfl rfl 27 _ (aDt _ rfl) 3 rfl (.tmp 4) rfl _ (fun _=>rfl) (fun _=>rfl) rfl (by kernel_rfl) (aBt false 0 0) ?_;intro w2 af ba bx;refine bCa ?_;go_simp;have hB:=q_ ((tw bb ba));have A:=q_ (aC ba bc ar);have z2:=aL A;have e1:=aA A 1;have e2:=aA A 2;have e3:=aA A 3;have e4:=aA A 4;have e5:=aA A 5;have e6:=aA A 6;have e7:=aA A 7;obtain⟨bg,bh⟩:∃b,decide (F<100)=b:=⟨_,rfl⟩
 obtain⟨bi,bj⟩:∃b,decide (1000<F)=b:=⟨_,rfl⟩
 obtain⟨d2,bl⟩:∃b,(D != 2)=b:=⟨_,rfl⟩
 obtain⟨d3,bn⟩:∃b,(D != 3)=b:=⟨_,rfl⟩
 obtain⟨Y,aa⟩:∃b,(bg || bi || (d2 && d3))=b:=⟨_,rfl⟩
 have ah:=q_ I;rw[bh,bj,bl,bn,aa]at ah;clear I bb ba ar;have b0:w.heap.size<w1.heap.size:=bc;replace af:=q_ af;go_upto_region 2 with fail
 go_cut [5] (fun bv wx=>bv=.bool Y/\w2=wx)
 case first =>
  clear ah qA e1 e2 e5 e6 e7
  cases bg
  .cases bi
   .cases d2
    .obtain rfl:false=Y:=aa;go_wp2_with fail
     go_meet;exact⟨rfl,rfl⟩
    .obtain rfl:d3=Y:=aa;go_wp2_with fail
     go_meet;exact⟨rfl,rfl⟩
   .obtain rfl:true=Y:=aa;go_wp2_with fail
    go_meet;exact⟨rfl,rfl⟩
  .obtain rfl:true=Y:=by rw[<-aa];rfl
   go_wp2_with fail
   go_meet;exact⟨rfl,rfl⟩
 case rest =>
 obtain⟨rfl,rfl⟩:=hcut;have G:=ah.out;clear ah aa bh bj bl bn e3 e4
 cases Y
 case true =>
  obtain rfl:5=X:=G;go_wp2_with fail
  go_ret;exact⟨rfl,hB⟩
 case false =>
 rw[bAa (by decide)]at G;obtain⟨R0,bo⟩:∃b,kZ ⟨N,ad,ae⟩=b:=⟨_,rfl⟩
 obtain⟨Z,hZ⟩:∃b,decide ((⟨O,V,W⟩:Adr)=zA)=b:=⟨_,rfl⟩
 obtain⟨P2,U⟩:∃b,(N || !R0 || (!Z && !O))=b:=⟨_,rfl⟩
 have q:=q_ (qA w2);rw[bo]at q G;rw[hZ,U]at G;clear qA bo;replace G:=q_ G;have br:=af;go_upto_region 4 with fail
 go_cut [24] (fun bv wx=>bv=.bool P2/\Below w2.heap.size w2 wx)
 case first =>
  clear G e1 e2
  cases N
  case true =>
   obtain rfl:true=P2:=by rw[<-U];rfl
   go_wp2_with fail
   go_meet;exact⟨rfl,bLa _ _⟩
  case false =>
  go_wp2_with fail
  refine(q).mono ?_;rintro e w3 ⟨rfl,j⟩;have J:=aC j z2 A;have ai:=aC j bx af;have a8:=aA J 8;have a9:=aA J 9;have b3:=aA J 10;have z0:=aA ai 0;have z1:=aA ai 1;have z2':=aA ai 2;clear q J ai e5 e6 e7;replace j:=q_ j
  cases R0
  .obtain rfl:true=P2:=U;go_wp2_with fail
   go_meet;exact⟨rfl,j⟩
  .cases Z
   .obtain rfl:(!O)=P2:=by rw[<-U];simp
    have L:=cUa hZ;clear hZ U
    cases O
    .by_cases hh:V=0
     .subst hh;have b6:¬ (W:Int)=0:=fun h=>L (by rw[show W=0 by omega])
      clear L;go_wp2_with fail
      go_meet;exact⟨rfl,j⟩
     .have b7:¬ (V:Int)=0:=by omega
      clear L;go_wp2_with fail
      go_meet;exact⟨rfl,j⟩
    .clear L;go_wp2_with fail
     go_meet;exact⟨rfl,j⟩
   .obtain rfl:false=P2:=U;have L:=cHa hZ;obtain⟨rfl,rfl,rfl⟩:O=false/\V=0/\W=0:=by cases L;exact⟨rfl,rfl,rfl⟩
    clear hZ L;go_wp2_with fail
    go_meet;exact⟨rfl,j⟩
 case rest =>
 obtain⟨rfl,j⟩:=hcut;have E:=G.out;have J:=aC j z2 A;have e1:=aA J 1;have e2:=aA J 2;have aj:=q_ ((tw hB j));clear G U hZ e5 e6 e7 hB A af br j q J
 cases P2
 case true =>
  obtain rfl:18=X:=E;go_wp2_with fail
  go_ret;exact⟨rfl,aj⟩
 case false =>
 rw[bAa (by decide)]at E;obtain⟨v1,bt⟩:∃b,decide ((64:Int)<(n2:Int))=b:=⟨_,rfl⟩
 obtain⟨v2,bw⟩:∃b,decide ((64:Int)<(n3:Int))=b:=⟨_,rfl⟩
 rw[bt,bw]at E;replace E:=q_ E;go_upto_region 6 with fail
 cases v1
 .cases v2
  .obtain rfl:0=X:=E.out;clear E;go_wp2_with fail
   go_ret;exact⟨rfl,aj⟩
  .obtain rfl:6=X:=E.out;clear E;go_wp2_with fail
   go_ret;exact⟨rfl,aj⟩
 .obtain rfl:6=X:=E.out;clear E;go_wp2_with fail
  go_ret;exact⟨rfl,aj⟩
def vpA (v:Vp):Array Value:=#[.bool v.a.v6,.int .u64 (v.a.hi:Int),.int .u64 (v.a.lo:Int),.int .i64 v.proto,.int .i64 v.port,.int .i64 v.copies,.bool v.nat]
theorem aSu(v:Vp)(l:List Vp):yZ v l=if(!kZ v.a)=true then 18 else if((v.proto != 6) && (v.proto != 17))=true then 14
 else if(decide (v.port<0) || decide (65535<v.port) || decide (v.copies<1) || decide (8<v.copies) || (decide (1<v.copies) && (v.proto != 17)))=true then 5 else if(l.any (aFa v))=true then 8 else 0:=by
 unfold yZ;have j:kZ v.a=false↔(!kZ v.a)=true:=by simp
 have A:(v.proto≠6/\v.proto≠17)↔((v.proto != 6) && (v.proto != 17))=true:=by simp
 have E:(v.port<0\/65535<v.port\/v.copies<1\/8<v.copies\/(1<v.copies/\v.proto≠17))↔(decide (v.port<0) || decide (65535<v.port) || decide (v.copies<1) || decide (8<v.copies) || (decide (1<v.copies) && (v.proto != 17)))=true:=by simp[or_assoc]
 simp only[j,A,E]
theorem vip_any(v:Vp)(l:List Vp)(n cap:Nat)(A:Option Addr)(w:World)(h:IsT vpC 7 w w.heap.size A n l)(hn:n<=1099511627776) :
 Cl 65 #[.agg (vpA v),.slice A n cap] w fun e w'=>e=.returned (.int .i64 (yZ v l:Int))/\Below w.heap.size w w':=by
 obtain⟨X,O⟩:=eX (yZ v l);rw[O];rw[aSu]at O;obtain⟨⟨J,G,I⟩,L,N,co,nt⟩:=v;unfold vpA;dsimp only at O ⊢;have c9:=h.1;obtain⟨T,hT⟩:∃b,(l.any (aFa ⟨⟨J,G,I⟩,L,N,co,nt⟩))=b:=⟨_,rfl⟩
 rw[hT]at O;have Y:∀(i:Nat) (x:Vp),l[i]?=some x->aFa ⟨⟨J,G,I⟩,L,N,co,nt⟩ x=true->T=true:=by
  intro i x hx hf;rw[<-hT,jMa];exact⟨x,bPa hx,hf⟩
 have Z:(∀(i:Nat) (x:Vp),l[i]?=some x->aFa ⟨⟨J,G,I⟩,L,N,co,nt⟩ x=false)->T=false:=by
  intro hf;rw[<-hT,List.any_eq_false];intro x hx;obtain⟨i,G⟩:=List.mem_iff_getElem?.1 hx;rw[hf i x G]
  decide
 unfold aFa at Y Z;dsimp only at Y Z;obtain⟨w1,bk⟩:=eX (w.alloc (.cells #[.bool J,.int .u64 (G:Int),.int .u64 (I:Int),.int .i64 L,.int .i64 N,.int .i64 co,.bool nt] 52));have ai:Hid (Below w.heap.size w w1):=q_ (bk▸bC);have an:Hid (w1.heap[w.heap.size]?=some (.cells #[.bool J,.int .u64 (G:Int),.int .u64 (I:Int),.int .i64 L,.int .i64 N,.int .i64 co,.bool nt] 52 (0,0))):=q_ (bk▸aJ _ _ _);have cg:=aL an;have h1:=q_ (h.below ai);have e0:=aA an 0;have e1:=aA an 1;have e2:=aA an 2;have q:=q_ (vY J G I w1);rw[aD8 ⟨J,G,I⟩]at q;obtain⟨R,hR⟩:∃b,kZ ⟨J,G,I⟩=b:=⟨_,rfl⟩
 rw[hR]at q O;clear hR hT h;replace ⟨O,Y,Z⟩:=q_3 O Y Z;go_enter func65,ntmps65;go_upto_region 1 with fail
 clear bk;go_wp2_with fail
 refine(q).mono ?_;rintro e w2 ⟨rfl,ac⟩;have hB:=q_ (ai.trans (ac.mono ai.size));have da:=ac.size;have a3:=q_ (aC ac cg an);have h2:=q_ (h1.below (ac.mono (by omega)));have e3:=aA a3 3;have e4:=aA a3 4;have e5:=aA a3 5;have U:=O.out;clear e0 e1 e2 q O ai ac an h1
 cases R
 case false =>
  obtain rfl:18=X:=by rw[<-U];rfl
  go_wp2_with fail
  go_ret;exact⟨rfl,hB⟩
 case true =>
 rw[bAa (by decide)]at U;obtain⟨p6,bx⟩:∃b,(L != 6)=b:=⟨_,rfl⟩
 obtain⟨a5,bz⟩:∃b,(L != 17)=b:=⟨_,rfl⟩
 rw[bx,bz]at U;obtain⟨P1,a7⟩:∃b,(p6 && a5)=b:=⟨_,rfl⟩
 rw[a7]at U;replace U:=q_ U;go_upto_region 3 with fail
 go_cut [12] (fun bv wx=>bv=.bool P1/\w2=wx)
 case first =>
  clear U Y Z
  cases p6
  .obtain rfl:false=P1:=a7;go_wp2_with fail
   go_meet;exact⟨rfl,rfl⟩
  .obtain rfl:a5=P1:=a7;go_wp2_with fail
   go_meet;exact⟨rfl,rfl⟩
 case rest =>
 obtain⟨rfl,rfl⟩:=hcut;have V:=U.out;clear U a7 bx
 cases P1
 case true =>
  obtain rfl:14=X:=by rw[<-V];rfl
  go_wp2_with fail
  go_ret;exact⟨rfl,hB⟩
 case false =>
 rw[bAa (by decide)]at V;obtain⟨b1,ai⟩:∃b,decide (N<0)=b:=⟨_,rfl⟩
 obtain⟨b2,ac⟩:∃b,decide (65535<N)=b:=⟨_,rfl⟩
 obtain⟨b3,b8⟩:∃b,decide (co<1)=b:=⟨_,rfl⟩
 obtain⟨b4,ay⟩:∃b,decide (8<co)=b:=⟨_,rfl⟩
 obtain⟨b5,cc⟩:∃b,decide (1<co)=b:=⟨_,rfl⟩
 rw[ai,ac,b8,ay,cc]at V;obtain⟨P2,ae⟩:∃b,(b1 || b2 || b3 || b4 || (b5 && a5))=b:=⟨_,rfl⟩
 rw[ae]at V;replace V:=q_ V;go_upto_region 5 with fail
 go_cut [21] (fun bv wx=>bv=.bool P2/\w2=wx)
 case first =>
  clear V Y Z
  cases b1
  .cases b2
   .cases b3
    .cases b4
     .cases b5
      .obtain rfl:false=P2:=ae;go_wp2_with fail
       go_meet;exact⟨rfl,rfl⟩
      .obtain rfl:a5=P2:=ae;go_wp2_with fail
       go_meet;exact⟨rfl,rfl⟩
     .obtain rfl:true=P2:=ae;go_wp2_with fail
      go_meet;exact⟨rfl,rfl⟩
    .obtain rfl:true=P2:=by rw[<-ae];simp
     go_wp2_with fail
     go_meet;exact⟨rfl,rfl⟩
   .obtain rfl:true=P2:=by rw[<-ae];simp
    go_wp2_with fail
    go_meet;exact⟨rfl,rfl⟩
  .obtain rfl:true=P2:=by rw[<-ae];simp
   go_wp2_with fail
   go_meet;exact⟨rfl,rfl⟩
 case rest =>
 obtain⟨rfl,rfl⟩:=hcut;have ak:=V.out;clear V ae ai ac b8 ay cc bz
 cases P2
 case true =>
  obtain rfl:5=X:=by rw[<-ak];rfl
  go_wp2_with fail
  go_ret;exact⟨rfl,hB⟩
 case false =>
 rw[bAa (by decide)]at ak;clear e3 e4 e5;replace ak:=q_ ak;go_wp2_with fail
 go_loopw [6,52] (fun _ iv wr=>∃i:Nat,i<=n/\iv=.int .i64 (i:Int)/\(∀(j:Nat) (x:Vp),j<i->l[j]?=some x->decide (x.a=(⟨J,G,I⟩:Adr)/\x.proto=L/\x.port=N)=false)/\Below w2.heap.size w2 wr) (fun _ iv _=>n - (intOf iv).toNat)
 case atStart=>exact⟨0,by omega,rfl,fun j x hj=>by omega,bLa _ _⟩
 case round =>
  obtain⟨i,df,rfl,a8,W⟩:=hrel;have cj:=W.size;by_cases c4:i<n
  .have ck:(i:Int)<(n:Int):=by omega
   obtain⟨b,am,nd,rfl,dg,bl,af⟩:=IsT.at (f:=vpC) (size:=7) (fun _=>rfl) (by decide) (h2.below (W.mono (by omega))) c4;have db:=wJ i;have ao:=q_ (Y i nd bl);have aa:decide (nd.a=(⟨J,G,I⟩:Adr)/\nd.proto=L/\nd.port=N)=false->∀(j:Nat) (x:Vp),j<i+1->l[j]?=some x->decide (x.a=(⟨J,G,I⟩:Adr)/\x.proto=L/\x.port=N)=false:=by
    intro he j x hj hd;by_cases c5:j=i
    .subst c5;obtain rfl:=bFa (bl.symm.trans hd);exact he
    .exact a8 j x (by omega) hd
   clear a8 bl;obtain⟨⟨x6,xh,xl⟩,xp,xo,xc,xn⟩:=nd;dsimp only at ao aa;have y0:wr.cell? ⟨b,am+i*7,none⟩=some (.bool x6):=af 0 _ rfl;have y1:wr.cell? ⟨b,am+i*7+1,none⟩=some (.int .u64 (xh:Int)):=af 1 _ rfl;have y2:wr.cell? ⟨b,am+i*7+2,none⟩=some (.int .u64 (xl:Int)):=af 2 _ rfl;have y3:wr.cell? ⟨b,am+i*7+3,none⟩=some (.int .i64 xp):=af 3 _ rfl;have y4:wr.cell? ⟨b,am+i*7+4,none⟩=some (.int .i64 xo):=af 4 _ rfl;have y5:wr.cell? ⟨b,am+i*7+5,none⟩=some (.int .i64 xc):=af 5 _ rfl;have y6:wr.cell? ⟨b,am+i*7+6,none⟩=some (.bool xn):=af 6 _ rfl;clear af;obtain⟨E,hE⟩:∃b,decide ((⟨x6,xh,xl⟩:Adr)=⟨J,G,I⟩)=b:=⟨_,rfl⟩
   obtain⟨ep,bn⟩:∃b,decide (xp=L)=b:=⟨_,rfl⟩
   obtain⟨eo,bp⟩:∃b,decide (xo=N)=b:=⟨_,rfl⟩
   have cu:(xp == L)=ep:=by rw[<-bn];rfl
   have cv:(xo == N)=eo:=by rw[<-bp];rfl
   obtain⟨B,a2⟩:∃b,(E && (ep && eo))=b:=⟨_,rfl⟩
   have bt:decide ((⟨x6,xh,xl⟩:Adr)=⟨J,G,I⟩/\xp=L/\xo=N)=B:=by rw[Bool.decide_and,Bool.decide_and,hE,bn,bp,a2]
   rw[bt]at ao aa;clear bt bn bp;replace ⟨aa,W⟩:=q_2 aa W;go_upto_region 9 with fail
   apply aWa;iterate 2 refine pS ?_
   refine gF rfl rfl 52 _ (aL0 _ rfl) 6 rfl (.tmp 55) rfl _ (fun _=>rfl) (fun _=>rfl) rfl (by kernel_rfl) (aDq x6 (xh:Int) (xl:Int) xp xo xc xn) ?_;intro w4 au ay dh;refine bCa ?_;go_simp;have bh:=q_ (W.trans (ay.mono cj));have ap:=kB bh a3;have d0:=aA au 0;have d1:=aA au 1;have d2:=aA au 2;have d3:=aA au 3;have d4:=aA au 4;have e0:=aA ap 0;have e1:=aA ap 1;have e2:=aA ap 2;have e3:=aA ap 3;have e4:=aA ap 4;clear y0 y1 y2 y3 y4 y5 y6 ay au ap W;go_upto_region 10 with fail
   go_cut [74] (fun bv wx=>bv=.bool B/\w4=wx)
   case first =>
    clear ao aa ak Y Z
    cases E
    .obtain rfl:false=B:=a2;have al:=cUa hE;clear hE;by_cases h6:x6=J
     .subst h6;by_cases hh:xh=G
      .subst hh;have dc:¬ (xl:Int)=(I:Int):=fun h=>al (by rw[show xl=I by omega])
       clear al;go_wp2_with fail
       go_meet;exact⟨rfl,rfl⟩
      .have dd:¬ (xh:Int)=(G:Int):=by omega
       clear al;go_wp2_with fail
       go_meet;exact⟨rfl,rfl⟩
     .clear al;go_wp2_with fail
      go_meet;exact⟨rfl,rfl⟩
    .have al:=cHa hE;obtain⟨rfl,rfl,rfl⟩:x6=J/\xh=G/\xl=I:=by cases al;exact⟨rfl,rfl,rfl⟩
     clear hE al
     cases ep
     .obtain rfl:false=B:=a2;go_wp2_with fail
      go_meet;exact⟨rfl,rfl⟩
     .obtain rfl:eo=B:=a2;go_wp2_with fail
      go_meet;exact⟨rfl,rfl⟩
   case rest =>
   obtain⟨rfl,rfl⟩:=hcut;clear hE a2 cu cv d0 d1 d2 d3 d4 e0 e1 e2 e3 e4
   cases B
   .have bi:=aa rfl;clear ao aa;replace bi:=q_ bi;go_wp2_with fail
    exact⟨⟨i+1,by omega,by first|rfl|go_num,bi,bh⟩,by simp only[intOf];omega⟩
   .obtain rfl:=ao rfl;obtain rfl:8=X:=ak.out;clear ao aa;go_wp2_with fail
    go_ret;exact⟨rfl,hB.trans (bh.mono hB.size)⟩
  .obtain rfl:i=n:=by omega
   have ck:((i:Int)<(i:Int))=False:=by simp
   have c1:=Z (fun j x hd=>by
    by_cases hj:j<i
    .exact a8 j x hj hd
    .have h5:=(List.getElem?_eq_some_iff.1 hd).1;omega)
   subst c1;obtain rfl:0=X:=ak.out;clear a8;replace W:=q_ W;go_wp2_with fail
   go_ret;exact⟨rfl,hB.trans (W.mono hB.size)⟩
theorem aBv(o:Oper)(h:o.op=.alloc 183)(ρ:Operand->Value)(w:World):(execOp ρ o).run prog w=.ok (.value (.pointer (some ⟨w.heap.size,0,none⟩))) (w.alloc (.cells #[.bool false,.int .u64 0,.int .u64 0,.int .i64 0,.int .i64 0] 183)):=by
 obtain⟨d,j,t,A,E,g⟩:=o;dsimp only at h;subst h
 kernel_rfl
theorem aEk(A:Bool)(E G p q:Int):(#[.bool A,.int .u64 E,.int .u64 G,.int .i64 p,.int .i64 q]:Array Value).all (·.oneCell')=true:=all_oneCell_toArray (by
 intro u j;simp only[bXa,bVa,dTa]at j;rcases j with rfl|rfl|rfl|rfl|rfl<;>rfl)
def vwA (v:Vw):Array Value:=#[.bool v.a.v6,.int .u64 (v.a.hi:Int),.int .u64 (v.a.lo:Int),.int .i64 v.bits,.int .i64 v.level]
theorem aPv(v:Vw)(l:List Vw)(L:Nat):zP v l L=if(!dL v.a v.bits)=true then 18 else if(decide (v.level<0) || decide ((L:Int)<=v.level))=true then 5 else if(l.any (aFb v))=true then 8 else 0:=by
 unfold zP;have j:dL v.a v.bits=false↔(!dL v.a v.bits)=true:=by simp
 have A:(v.level<0\/(L:Int)<=v.level)↔(decide (v.level<0) || decide ((L:Int)<=v.level))=true:=by simp
 simp only[j,A]
theorem view_any(v:Vw)(bh:v.a.ok)(l:List Vw)(n cap L:Nat)(A:Option Addr)(w:World)(h:IsT vwC 5 w w.heap.size A n l)(hn:n<=1099511627776) :
 Cl 66 #[.agg (vwA v),.slice A n cap,.int .i64 (L:Int)] w fun e w'=>e=.returned (.int .i64 (zP v l L:Int))/\Below w.heap.size w w':=by
 obtain⟨X,O⟩:=eX (zP v l L);rw[O];rw[aPv]at O;obtain⟨⟨J,G,I⟩,N,lv⟩:=v;unfold vwA;dsimp only at O bh ⊢;have cj:=h.1;obtain⟨T,hT⟩:∃b,(l.any (aFb ⟨⟨J,G,I⟩,N,lv⟩))=b:=⟨_,rfl⟩
 rw[hT]at O;have ab:∀(i:Nat) (x:Vw),l[i]?=some x->aFb ⟨⟨J,G,I⟩,N,lv⟩ x=true->T=true:=by
  intro i x hx hf;rw[<-hT,jMa];exact⟨x,bPa hx,hf⟩
 have ac:(∀(i:Nat) (x:Vw),l[i]?=some x->aFb ⟨⟨J,G,I⟩,N,lv⟩ x=false)->T=false:=by
  intro hf;rw[<-hT,List.any_eq_false];intro x hx;obtain⟨i,G⟩:=List.mem_iff_getElem?.1 hx;rw[hf i x G]
  decide
 unfold aFb at ab ac;dsimp only at ab ac;obtain⟨w1,bb⟩:=eX (w.alloc (.cells #[.bool J,.int .u64 (G:Int),.int .u64 (I:Int),.int .i64 N,.int .i64 lv] 183));have ad:Hid (Below w.heap.size w w1):=q_ (bb▸bC);have ae:Hid (w1.heap[w.heap.size]?=some (.cells #[.bool J,.int .u64 (G:Int),.int .u64 (I:Int),.int .i64 N,.int .i64 lv] 183 (0,0))):=q_ (bb▸aJ _ _ _);have br:=aL ae;have h1:=q_ (h.below ad);have e0:=aA ae 0;have e1:=aA ae 1;have e2:=aA ae 2;have e3:=aA ae 3;have q:=q_ (aC5 ⟨J,G,I⟩ bh N w1);unfold pArr at q;obtain⟨R,hR⟩:∃b,dL ⟨J,G,I⟩ N=b:=⟨_,rfl⟩
 rw[hR]at q O;dsimp only at q;clear hR hT h;replace ⟨O,ab,ac⟩:=q_3 O ab ac;go_enter func66,ntmps66;go_upto_region 1 with fail
 clear bb;go_wp2_with fail
 refine(q).mono ?_;rintro e w2 ⟨rfl,Y⟩;have hB:=q_ (ad.trans (Y.mono ad.size));have ck:=Y.size;have bk:=q_ (aC Y br ae);have h2:=q_ (h1.below (Y.mono (by omega)));have e4:=aA bk 4;have U:=O.out;clear e0 e1 e2 e3 q O ad Y ae h1
 cases R
 case false =>
  obtain rfl:18=X:=by rw[<-U];rfl
  go_wp2_with fail
  go_ret;exact⟨rfl,hB⟩
 case true =>
 rw[bAa (by decide)]at U;obtain⟨b1,ad⟩:∃b,decide (lv<0)=b:=⟨_,rfl⟩
 obtain⟨b2,Y⟩:∃b,decide ((L:Int)<=lv)=b:=⟨_,rfl⟩
 rw[ad,Y]at U;obtain⟨P1,aw⟩:∃b,(b1 || b2)=b:=⟨_,rfl⟩
 rw[aw]at U;replace U:=q_ U;go_upto_region 3 with fail
 go_cut [14] (fun bv wx=>bv=.bool P1/\w2=wx)
 case first =>
  clear U ab ac
  cases b1
  .obtain rfl:b2=P1:=aw;go_wp2_with fail
   go_meet;exact⟨rfl,rfl⟩
  .obtain rfl:true=P1:=aw;go_wp2_with fail
   go_meet;exact⟨rfl,rfl⟩
 case rest =>
 obtain⟨rfl,rfl⟩:=hcut;have af:=U.out;clear U aw ad Y
 cases P1
 case true =>
  obtain rfl:5=X:=by rw[<-af];rfl
  go_wp2_with fail
  go_ret;exact⟨rfl,hB⟩
 case false =>
 rw[bAa (by decide)]at af;clear e4;replace af:=q_ af;go_wp2_with fail
 go_loopw [8,26] (fun _ iv wr=>∃i:Nat,i<=n/\iv=.int .i64 (i:Int)/\(∀(j:Nat) (x:Vw),j<i->l[j]?=some x->decide (x.a=(⟨J,G,I⟩:Adr)/\x.bits=N)=false)/\Below w2.heap.size w2 wr) (fun _ iv _=>n - (intOf iv).toNat)
 case atStart=>exact⟨0,by omega,rfl,fun j x hj=>by omega,bLa _ _⟩
 case round =>
  obtain⟨i,cq,rfl,ax,V⟩:=hrel;have bu:=V.size;by_cases cd:i<n
  .have bw:(i:Int)<(n:Int):=by omega
   obtain⟨b,aq,nd,rfl,cr,bc,ak⟩:=IsT.at (f:=vwC) (size:=5) (fun _=>rfl) (by decide) (h2.below (V.mono (by omega))) cd;have cl:=wJ i;have aj:=q_ (ab i nd bc);have W:decide (nd.a=(⟨J,G,I⟩:Adr)/\nd.bits=N)=false->∀(j:Nat) (x:Vw),j<i+1->l[j]?=some x->decide (x.a=(⟨J,G,I⟩:Adr)/\x.bits=N)=false:=by
    intro he j x hj hd;by_cases ce:j=i
    .subst ce;obtain rfl:=bFa (bc.symm.trans hd);exact he
    .exact ax j x (by omega) hd
   clear ax bc;obtain⟨⟨x6,Z,xl⟩,xb,xv⟩:=nd;dsimp only at aj W;have y0:wr.cell? ⟨b,aq+i*5,none⟩=some (.bool x6):=ak 0 _ rfl;have y1:wr.cell? ⟨b,aq+i*5+1,none⟩=some (.int .u64 (Z:Int)):=ak 1 _ rfl;have y2:wr.cell? ⟨b,aq+i*5+2,none⟩=some (.int .u64 (xl:Int)):=ak 2 _ rfl;have y3:wr.cell? ⟨b,aq+i*5+3,none⟩=some (.int .i64 xb):=ak 3 _ rfl;have y4:wr.cell? ⟨b,aq+i*5+4,none⟩=some (.int .i64 xv):=ak 4 _ rfl;clear ak;obtain⟨E,hE⟩:∃b,decide ((⟨x6,Z,xl⟩:Adr)=⟨J,G,I⟩)=b:=⟨_,rfl⟩
   obtain⟨ep,an⟩:∃b,decide (xb=N)=b:=⟨_,rfl⟩
   obtain⟨B,a0⟩:∃b,(E && ep)=b:=⟨_,rfl⟩
   have bl:decide ((⟨x6,Z,xl⟩:Adr)=⟨J,G,I⟩/\xb=N)=B:=by rw[Bool.decide_and,hE,an,a0]
   rw[bl]at aj W;clear bl;replace ⟨W,V⟩:=q_2 W V;go_upto_region 7 with fail
   apply aWa;iterate 2 refine pS ?_
   refine gF rfl rfl 183 _ (aBv _ rfl) 8 rfl (.tmp 29) rfl _ (fun _=>rfl) (fun _=>rfl) rfl (by kernel_rfl) (aEk x6 (Z:Int) (xl:Int) xb xv) ?_;intro w4 ar bq ct;refine bCa ?_;go_simp;have a8:=q_ (V.trans (bq.mono bu));have ap:=kB a8 bk;have d0:=aA ar 0;have d1:=aA ar 1;have d2:=aA ar 2;have d3:=aA ar 3;have e0:=aA ap 0;have e1:=aA ap 1;have e2:=aA ap 2;have e3:=aA ap 3;clear y0 y1 y2 y3 y4 bq ar ap V;go_upto_region 8 with fail
   go_cut [34] (fun bv wx=>bv=.bool B/\w4=wx)
   case first =>
    clear aj W af ab ac
    cases E
    .obtain rfl:false=B:=a0;have ag:=cUa hE;clear hE;by_cases h6:x6=J
     .subst h6;by_cases hh:Z=G
      .subst hh;have cm:¬ (xl:Int)=(I:Int):=fun h=>ag (by rw[show xl=I by omega])
       clear ag;go_wp2_with fail
       go_meet;exact⟨rfl,rfl⟩
      .have cn:¬ (Z:Int)=(G:Int):=by omega
       clear ag;go_wp2_with fail
       go_meet;exact⟨rfl,rfl⟩
     .clear ag;go_wp2_with fail
      go_meet;exact⟨rfl,rfl⟩
    .have ag:=cHa hE;obtain⟨rfl,rfl,rfl⟩:x6=J/\Z=G/\xl=I:=by cases ag;exact⟨rfl,rfl,rfl⟩
     obtain rfl:ep=B:=a0;clear hE ag
     cases ep
     .have co:=cUa an;clear an;go_wp2_with fail
      go_meet;exact⟨rfl,rfl⟩
     .obtain rfl:=cHa an;clear an;go_wp2_with fail
      go_meet;exact⟨rfl,rfl⟩
   case rest =>
   obtain⟨rfl,rfl⟩:=hcut;clear hE a0 an d0 d1 d2 d3 e0 e1 e2 e3
   cases B
   .have a9:=W rfl;clear aj W;replace a9:=q_ a9;go_wp2_with fail
    exact⟨⟨i+1,by omega,by first|rfl|go_num,a9,a8⟩,by simp only[intOf];omega⟩
   .obtain rfl:=aj rfl;obtain rfl:8=X:=af.out;clear aj W;go_wp2_with fail
    go_ret;exact⟨rfl,hB.trans (a8.mono hB.size)⟩
  .obtain rfl:i=n:=by omega
   have bw:((i:Int)<(i:Int))=False:=by simp
   have b9:=ac (fun j x hd=>by
    by_cases hj:j<i
    .exact ax j x hj hd
    .have h5:=(List.getElem?_eq_some_iff.1 hd).1;omega)
   subst b9;obtain rfl:0=X:=af.out;clear ax;replace V:=q_ V;go_wp2_with fail
   go_ret;exact⟨rfl,hB.trans (V.mono hB.size)⟩
theorem aFt(f:α->List Value)(h:∀x,∀u∈f x,u.oneCell'=true)(l:List α):∀u∈(l.map f).flatten,u.oneCell'=true:=by
 intro u j;obtain⟨r,A,j⟩:=List.mem_flatten.1 j;obtain⟨x,-,rfl⟩:=List.mem_map.1 A;exact h x u j
theorem aRm(c:Cfg)(hs:c.small 4096)(w:World)(A1 A2 A3:Option Addr)(k1 k2 k3:Nat)(h:uV w w.heap.size c A1 A2 A3 k1 k2 k3) :
 Cl 68 #[.agg (cfC c (.slice A1 c.nodes.length k1) (.slice A2 c.vips.length k2) (.slice A3 c.views.length k3))] w fun e w'=>∃v,e=.returned (.agg v)/\CfgV w' w.heap.size c v/\Below w.heap.size w w':=by
 obtain⟨ca,cc,cd⟩:=hs;obtain⟨p1,p2,p3⟩:=h;unfold cfC;obtain⟨w1,bd⟩:=eX (w.alloc (.cells #[.slice A1 c.nodes.length k1,.slice A2 c.vips.length k2,.slice A3 c.views.length k3,.int .i64 c.factor,.int .i64 c.domain,.bool c.s0.v6,.int .u64 (c.s0.hi:Int),.int .u64 (c.s0.lo:Int),.bool c.s1.v6,.int .u64 (c.s1.hi:Int),.int .u64 (c.s1.lo:Int)] 30));have a5:Below w.heap.size w w1:=bd▸bC;have a6:=bN bd;have a7:=aL a6;obtain⟨w2,be⟩:=eX (w1.alloc (.cells #[.slice none 0 0,.slice none 0 0,.slice none 0 0,.int .i64 0,.int .i64 0,.bool false,.int .u64 0,.int .u64 0,.bool false,.int .u64 0,.int .u64 0] 30));have a8:Below w1.heap.size w1 w2:=be▸bC;have ak:Hid (w2.heap[w1.heap.size]?=some (.cells #[.slice none 0 0,.slice none 0 0,.slice none 0 0,.int .i64 0,.int .i64 0,.bool false,.int .u64 0,.int .u64 0,.bool false,.int .u64 0,.int .u64 0] 30 (0,0))):=q_ (be▸aJ _ _ _);have bp:=aL ak;have al:=q_ (aC a8 a7 a6);have hB:=q_ (a5.trans (a8.mono a5.size));obtain⟨z,hz⟩:=eX w.heap.size;obtain⟨X,bt⟩:∃z,w1.heap.size=z:=⟨_,rfl⟩
 rw[hz]at al a7;rw[bt]at ak a7 bp;obtain⟨i1,bv,bw,bx,bz⟩:=gZa aQe;obtain⟨i2,b1,b2,b3,b4⟩:=gZa info_vp;obtain⟨i3,b6,b7,b8,b9⟩:=gZa info_vw;clear a5 a8 a6;replace ⟨p1,p2,p3⟩:=q_3 p1 p2 p3;go_enter func68,ntmps68;go_upto_region 1 with fail
 clear bd be;have I:=aA al 0;apply aWa;iterate 2 refine pS ?_
 clear I;refine uU _ rfl (.const (.slice none 0 0)) (.tmp 4) 22 rfl w.heap.size 93 i1 _ 7 64 underlying22 bv bw bx bz rfl (by decide) (.slice none 0 0) 0 [] rfl (cKa _ _ _ _) w.heap.size A1 c.nodes.length k1 _ rfl (p1.below hB).2 (aFt ndC aQj _) (by unfold maxLen;omega) (by omega) hB.size fun v w3 G E q3=>?_;rw[dWa,cVa]at G;obtain⟨L,Y,W,-,-,-⟩:=bE G;subst W;have j:=(E.block z (aL al) (by intro e;cases e)).trans al;have J:=(E.block X (aL ak) (by intro e;cases e)).trans ak;have Z:=hB.trans (bV E hB.size (fun k hk=>by cases hk));clear E q3;have I:=aA j 0;have hf:=bD j 0;obtain⟨bk,A⟩:∃w4,w3.setCell ⟨z,0,none⟩ (.slice L c.nodes.length Y)=w4:=⟨_,rfl⟩
 have a2:=q_ (A▸bP j 0 (.slice L c.nodes.length Y));have ao:bk.heap[X]?=some (.cells #[.slice none 0 0,.slice none 0 0,.slice none 0 0,.int .i64 0,.int .i64 0,.bool false,.int .u64 0,.int .u64 0,.bool false,.int .u64 0,.int .u64 0] 30 (0,0)):=by
  obtain⟨wq,g1,-,g3⟩:=eY j 0 (.slice L c.nodes.length Y);rw[<-A,g1];exact fC g3 (aL J) (by omega) J
 have ap:Hid (Below w.heap.size w bk):=q_ (A▸Z.setCell (p:=⟨z,0,none⟩) (by dsimp only;omega) _);have aa:=A▸gK G j (by decide) 0 (.slice L c.nodes.length Y);clear G J Z hB al ak;have ab:=q_ aa;clear aa;replace ao:=q_ ao;iterate 2 refine pS ?_
 refine bCa ?_;go_simp;clear I hf A j;go_upto_region 2 with fail
 have I:=aA a2 1;apply aWa;iterate 2 refine pS ?_
 clear I;refine uU _ rfl (.const (.slice none 0 0)) (.tmp 8) 23 rfl w.heap.size 52 i2 _ 7 56 underlying23 b1 b2 b3 b4 rfl (by decide) (.slice none 0 0) 0 [] rfl (cKa _ _ _ _) w.heap.size A2 c.vips.length k2 _ rfl (p2.below ap).2 (aFt vpC vpC_one _) (by unfold maxLen;omega) (by omega) ap.size fun v w3 G E q3=>?_;rw[dWa,cVa]at G;obtain⟨N,V,W,-,-,-⟩:=bE G;subst W;have j:=(E.block z (aL a2) (by intro e;cases e)).trans a2;have J:=(E.block X (aL ao) (by intro e;cases e)).trans ao;have Z:=ap.trans (bV E ap.size (fun k hk=>by cases hk));have aq:=cDa ab E (by cases L with|none=>exact .inl rfl|some a=>exact .inr (by intro e;cases e));clear E q3;have I:=aA j 1;have hf:=bD j 1;obtain⟨bm,A⟩:∃w4,w3.setCell ⟨z,1,none⟩ (.slice N c.vips.length V)=w4:=⟨_,rfl⟩
 have a3:=q_ (A▸bP j 1 (.slice N c.vips.length V));have ar:bm.heap[X]?=some (.cells #[.slice none 0 0,.slice none 0 0,.slice none 0 0,.int .i64 0,.int .i64 0,.bool false,.int .u64 0,.int .u64 0,.bool false,.int .u64 0,.int .u64 0] 30 (0,0)):=by
  obtain⟨wq,g1,-,g3⟩:=eY j 1 (.slice N c.vips.length V);rw[<-A,g1];exact fC g3 (aL J) (by omega) J
 have au:Hid (Below w.heap.size w bm):=q_ (A▸Z.setCell (p:=⟨z,1,none⟩) (by dsimp only;omega) _);have av:=A▸gK G j (by decide) 1 (.slice N c.vips.length V);have aa:=A▸gK aq j (by decide) 1 (.slice N c.vips.length V);clear G J Z aq ap a2 ao ab;have ab:=q_ aa;clear aa;have aw:=q_ av;clear av;replace ar:=q_ ar;iterate 2 refine pS ?_
 refine bCa ?_;go_simp;clear I hf A j;go_upto_region 3 with fail
 have I:=aA a3 2;apply aWa;iterate 2 refine pS ?_
 clear I;refine uU _ rfl (.const (.slice none 0 0)) (.tmp 12) 24 rfl w.heap.size 183 i3 _ 5 40 underlying24 b6 b7 b8 b9 rfl (by decide) (.slice none 0 0) 0 [] rfl (cKa _ _ _ _) w.heap.size A3 c.views.length k3 _ rfl (p3.below au).2 (aFt vwC vwC_one _) (by unfold maxLen;omega) (by omega) au.size fun v w3 G E q3=>?_;rw[dWa,cVa]at G;obtain⟨O,U,W,-,-,-⟩:=bE G;subst W;have j:=(E.block z (aL a3) (by intro e;cases e)).trans a3;have J:=(E.block X (aL ar) (by intro e;cases e)).trans ar;have Z:=au.trans (bV E au.size (fun k hk=>by cases hk));have aq:=cDa ab E (by cases L with|none=>exact .inl rfl|some a=>exact .inr (by intro e;cases e));have bf:=cDa aw E (by cases N with|none=>exact .inl rfl|some a=>exact .inr (by intro e;cases e));clear E q3;have I:=aA j 2;have hf:=bD j 2;obtain⟨bn,A⟩:∃w4,w3.setCell ⟨z,2,none⟩ (.slice O c.views.length U)=w4:=⟨_,rfl⟩
 have bq:=q_ (A▸bP j 2 (.slice O c.views.length U));have ac:bn.heap[X]?=some (.cells #[.slice none 0 0,.slice none 0 0,.slice none 0 0,.int .i64 0,.int .i64 0,.bool false,.int .u64 0,.int .u64 0,.bool false,.int .u64 0,.int .u64 0] 30 (0,0)):=by
  obtain⟨wq,g1,-,g3⟩:=eY j 2 (.slice O c.views.length U);rw[<-A,g1];exact fC g3 (aL J) (by omega) J
 have bg:Hid (Below w.heap.size w bn):=q_ (A▸Z.setCell (p:=⟨z,2,none⟩) (by dsimp only;omega) _);have bh:=A▸gK G j (by decide) 2 (.slice O c.views.length U);have aa:=A▸gK aq j (by decide) 2 (.slice O c.views.length U);have av:=A▸gK bf j (by decide) 2 (.slice O c.views.length U);clear G J Z aq bf au a3 ar ab aw;have ab:=q_ aa;clear aa;have aw:=q_ av;clear av;have bi:=q_ bh;clear bh;replace ac:=q_ ac;iterate 2 refine pS ?_
 refine bCa ?_;go_simp;clear I hf A j;go_upto_region 4 with fail
 apply aWa;refine wpList_load_mid rfl 30 (.tmp 1) rfl z 0 rfl _ _ (aM bq) hDa rfl (by kernel_rfl) ?_;simp only[Array.toArray_toList];refine bQ rfl 30 (.tmp 2) (.tmp 15) rfl X 0 rfl (cfC c (.slice L c.nodes.length Y) (.slice N c.vips.length V) (.slice O c.views.length U)) rfl ac (aZa 11) (by kernel_rfl) (cf_one _ _ _ rfl rfl rfl _ _ _ _ _ _ _ _) fun w9 a4 g9=>?_;rw[aQ _ _ (by rfl)]at a4;have br:Hid (Below w.heap.size w w9):=q_ (bg.trans (below_grown g9 bg.size (by omega)));have W:CfgV w9 w.heap.size c (cfC c (.slice L c.nodes.length Y) (.slice N c.vips.length V) (.slice O c.views.length U)) :=
  ⟨cDa ab g9 (kU ab ac (by decide)),cDa aw g9 (kU aw ac (by decide)),cDa bi g9 (kU bi ac (by decide)),rfl⟩
 have bc:(loadVar 30 ⟨X,0,none⟩).run prog w9=.ok (.agg (cfC c (.slice L c.nodes.length Y) (.slice N c.vips.length V) (.slice O c.views.length U))) w9:=by
  simpa using run_loadVar_mid w9 X 0 30 (cfC c (.slice L c.nodes.length Y) (.slice N c.vips.length V) (.slice O c.views.length U)).toList _ (aM a4) hDa rfl (by kernel_rfl)
 clear a4 g9;replace ⟨bc,W⟩:=q_2 bc W;refine bCa ?_;go_simp;go_wp2_with fail
 exact aYa (v:=.agg (cfC c (.slice L c.nodes.length Y) (.slice N c.vips.length V) (.slice O c.views.length U))) (by simp[results,results68,asAddr,bc.out]) rfl ⟨_,rfl,W,br⟩
section
theorem set_take(l:List α)(n i:Nat)(u:α):(l.set i u).take n=(l.take n).set i u:=by
 rw[List.take_set]
theorem aQw{w:World}{base:Nat}{xs:List Value}(h:w.ownsRow base e 1 v n xs)(O:i<n)(u:Value) :
 ∃g cap j,v=.slice (some ⟨g,0,none⟩) n cap/\base<=g/\n<=cap/\cap<=maxLen/\w.heap[g]?=some (.cells j e (0,0))/\i<j.size/\(w.setCell ⟨g,i,none⟩ u).ownsRow base e 1 v n (xs.set i u)/\xs[i]?=j[i]?:=by
 obtain⟨L,⟨-,U⟩|⟨g,cap,j,hv,A,E,G,I,N,J⟩⟩:=h
 .omega
 .refine⟨g,cap,j,hv,A,G,I,E,by omega,⟨by rw[cFa];exact L,.inr ⟨g,cap,j.setIfInBounds i u,hv,A,bP E i u,G,I,by rw[bQa];exact N,?_⟩⟩,?_⟩
  .rw[Array.toList_setIfInBounds,set_take,J]
  .rw[<-J,gAa,bBa (by omega),hGa]
structure kX (w:World) (base x:Nat) (ns:List Nd) (nv kv tv hv:Value) (us:List Value) (xs:List (List Int)):Prop where
 blk:w.heap[x]?=some (.cells #[nv,kv,tv,hv] 170 (0,0))
 hx:base<=x
 nodes:w.ownsRow base 93 7 nv ns.length (ns.map ndC).flatten
 kids:w.ownsRow base 31 1 kv us.length us
 rows:Rows w base (tv :: hv :: us) xs
section
variable {w w':World} {base x:Nat} {ns:List Nd} {nv kv tv hv nv' kv' tv' hv':Value} {us:List Value} {xs:List (List Int)}
theorem kX.on(h:kX w base x ns nv kv tv hv us xs)(j:Below w.heap.size w w'):kX w' base x ns nv kv tv hv us xs :=
 ⟨(j.block x (aL h.blk)).trans h.blk,h.hx,mU h.nodes j,mU h.kids j,h.rows.on j⟩
theorem Rows.aHh(h:Rows w base vs xs){cs:Array Value}(A:w.heap[x]?=some (.cells cs T (0,0)))(E:T≠3)(i:Nat)(u:Value):Rows (w.setCell ⟨x,i,none⟩ u) base vs xs :=
 ⟨h.len,fun j v y G I=>gK (h.own j v y G I) A E i u,h.apart⟩
theorem Rows.other(h:Rows w base vs xs){size:Nat}{G:List Value}(I:w.ownsRow base e size v n G)(J:3≠e)(L:w.grownBy w' v.ownBlock):Rows w' base vs xs:=by
 refine⟨h.len,fun j u y A E=>cDa (h.own j u y A E) L (nH (h.own j u y A E) I J),h.apart⟩
theorem pR{size:Nat}{E:List Value}{cs:Array Value}(j:w.heap[x]?=some (.cells cs T (0,0)))(G:w.ownsRow base e size v n E)(I:T≠e)(J:w.grownBy w' v.ownBlock):w'.heap[x]?=some (.cells cs T (0,0)):=by
 refine(J.block x (aL j) ?_).trans j;rcases kU G j I with A|A
 .rw[A];intro e;cases e
 .intro e;exact A e.symm
theorem kX.pushN{n:Nd}(h:kX w base x ns nv kv tv hv us xs)(E:w'.ownsRow base 93 7 nv' (ns.length+1) ((ns.map ndC).flatten++ndC n))(A:fA w nv w' nv') :
 w'.heap[x]?=some (.cells #[nv,kv,tv,hv] 170 (0,0))/\kX (w'.setCell ⟨x,0,none⟩ nv') base x (ns++[n]) nv' kv tv hv us xs:=by
 have j:=pR h.blk h.nodes (by decide) A.grown;have k1:=cDa h.kids A.grown (nH h.kids h.nodes (by decide));have k2:=h.rows.other h.nodes (by decide) A.grown;refine⟨j,bP j 0 nv',h.hx,?_,gK k1 j (by decide) 0 nv',k2.aHh j (by decide) 0 nv'⟩;have G:=gK E j (by decide) 0 nv';simpa[bHa]using G
theorem kX.pushK(h:kX w base x ns nv kv tv hv us xs)(E:w'.ownsRow base 31 1 kv' (us.length+1) (us++[.slice none 0 0]))(A:fA w kv w' kv') :
 w'.heap[x]?=some (.cells #[nv,kv,tv,hv] 170 (0,0))/\kX (w'.setCell ⟨x,1,none⟩ kv') base x ns nv kv' tv hv (us++[.slice none 0 0]) (xs++[[]]):=by
 have j:=pR h.blk h.kids (by decide) A.grown;have k1:=cDa h.nodes A.grown (nH h.nodes h.kids (by decide));have k2:=(h.rows.other h.kids (by decide) A.grown).more;refine⟨j,bP j 1 kv',h.hx,gK k1 j (by decide) 1 kv',?_,k2.aHh j (by decide) 1 kv'⟩;have G:=gK E j (by decide) 1 kv';simpa[bHa]using G
theorem kX.growT{y:List Int}{m:Int}(h:kX w base x ns nv kv tv hv us (y :: xs))(G:w'.ownsRow base 3 1 tv' (y.length+1) (y.map bL++[bL m]))(A:fA w tv w' tv') :
 w'.heap[x]?=some (.cells #[nv,kv,tv,hv] 170 (0,0))/\kX (w'.setCell ⟨x,2,none⟩ tv') base x ns nv kv tv' hv us ((y++[m]) :: xs):=by
 have E:=h.rows.own 0 tv y rfl rfl;have j:=pR h.blk E (by decide) A.grown;have k1:=cDa h.nodes A.grown (nH h.nodes E (by decide));have k2:=cDa h.kids A.grown (nH h.kids E (by decide));have k3:=h.rows.grow (i:=0) (x':=y++[m]) rfl rfl (by rw[bHa,cZa,cWa];exact G) A;exact⟨j,bP j 2 tv',h.hx,gK k1 j (by decide) 2 tv',gK k2 j (by decide) 2 tv',Rows.aHh k3 j (by decide) 2 tv'⟩
theorem kX.growH{z y:List Int}{m:Int}(h:kX w base x ns nv kv tv hv us (z :: y :: xs))(G:w'.ownsRow base 3 1 hv' (y.length+1) (y.map bL++[bL m]))(A:fA w hv w' hv') :
 w'.heap[x]?=some (.cells #[nv,kv,tv,hv] 170 (0,0))/\kX (w'.setCell ⟨x,3,none⟩ hv') base x ns nv kv tv hv' us (z :: (y++[m]) :: xs):=by
 have E:=h.rows.own 1 hv y rfl rfl;have j:=pR h.blk E (by decide) A.grown;have k1:=cDa h.nodes A.grown (nH h.nodes E (by decide));have k2:=cDa h.kids A.grown (nH h.kids E (by decide));have k3:=h.rows.grow (i:=1) (x':=y++[m]) rfl rfl (by rw[bHa,cZa,cWa];exact G) A;exact⟨j,bP j 3 hv',h.hx,gK k1 j (by decide) 3 hv',gK k2 j (by decide) 3 hv',Rows.aHh k3 j (by decide) 3 hv'⟩
theorem kX.growK{y:List Int}{m:Int}{a:Nat}{j:Value}(h:kX w base x ns nv kv tv hv us xs)(E:us[a]?=some v)(N:xs[a+2]?=some y)(O:w'.ownsRow base 3 1 j (y.length+1) (y.map bL++[bL m]))(G:fA w v w' j) :
 ∃g cap I,kv=.slice (some ⟨g,0,none⟩) us.length cap/\base<=g/\w'.heap[g]?=some (.cells I 31 (0,0))/\I[a]?=some v/\kX (w'.setCell ⟨g,a,none⟩ j) base x ns nv kv tv hv (us.set a j) (xs.set (a+2) (y++[m])):=by
 have J:=h.rows.own (a+2) v y E N;have L:=pR h.blk J (by decide) G.grown;have k1:=cDa h.nodes G.grown (nH h.nodes J (by decide));have k2:=cDa h.kids G.grown (nH h.kids J (by decide));have k3:=h.rows.grow (i:=a+2) (x':=y++[m]) E N (by rw[bHa,cZa,cWa];exact O) G;have U:=(List.getElem?_eq_some_iff.1 E).1;obtain⟨g,cap,I,W,X,-,-,A,e4,Y,Z⟩:=aQw k2 U j;refine⟨g,cap,I,W,X,A,by rw[<-Z];exact E,?_⟩;have V:x≠g:=by
  rintro rfl;rw[L]at A;simp at A
 refine⟨?_,h.hx,gK k1 A (by decide) a j,by rw[cFa];exact Y,?_⟩
 .obtain⟨w2,g1,g2,g3⟩:=eY A a j;rw[g1];exact fC g3 (aL L) V L
 .exact Rows.aHh k3 A (by decide) a j
end
end
theorem aTn:(prog.info? 31).map (fun i=>(i.zero,i.size,i.bytes))=some (some (.slice none 0 0),1,24):=by kernel_rfl
theorem aFw:(prog.info? 3).map (fun i=>(i.zero,i.size,i.bytes))=some (some (.int .i64 0),1,8):=by kernel_rfl
theorem aTr(ns:List Nd)(n:Nd)(J:∀m∈ns,m.above<(ns.length:Int))(_hn:n.above<(ns.length:Int)) :
 (List.range (ns++[n]).length).map (gJ (ns++[n]))=if 0<=n.above then((List.range ns.length).map (gJ ns)++[[]]).set n.above.toNat (gJ ns n.above.toNat++[(ns.length:Int)])else(List.range ns.length).map (gJ ns)++[[]]:=by
 have L:∀i:Nat,gJ (ns++[n]) i=if n.above=(i:Int)then gJ ns i++[(ns.length:Int)]else gJ ns i:=by
  intro i;unfold gJ;rw[wS];by_cases h:n.above=(i:Int)
  .rw[bBa h,bBa (bYa h)]
  .rw[bAa h,bAa (by simpa using h)]
 have N:gJ ns ns.length=[]:=by
  unfold gJ jA jP;rw[List.map_eq_nil_iff,List.filter_eq_nil_iff];intro j E;have A:=List.mem_range.1 E;rw[aXa A];have:=J _ (fNa A);simp;omega
 rw[bHa,cZa];apply List.ext_getElem?;intro j;rw[fGa];by_cases E:j<ns.length+1
 .rw[gXa E];have G:((List.range ns.length).map (gJ ns)++[[]])[j]?=some (gJ ns j):=by
   by_cases A:j<ns.length
   .rw[cEa (by simpa using A),fGa,gXa A];rfl
   .obtain rfl:j=ns.length:=by omega
    rw[cJa (by simp),N];simp
  simp only[eQa,L];by_cases I:0<=n.above
  .rw[bBa I];by_cases h:n.above=(j:Int)
   .rw[bBa h,show n.above.toNat=j by omega,dAa (by simp;omega)]
   .rw[bAa h,cQa (by omega),G]
  .rw[bAa I,bAa (by omega),G]
 .rw[fZa (by simp;omega)];split
  .rw[fZa (by simp;omega)];rfl
  .rw[fZa (by simp;omega)];rfl
theorem top_more(ns:List Nd)(n:Nd):dM (ns++[n])=if n.kind=1 then dM ns++[(ns.length:Int)]else dM ns:=by
 unfold dM;rw[wS];by_cases h:n.kind=1
 .rw[bBa h,bBa (bYa h)]
 .rw[bAa h,bAa (by simpa using h)]
theorem aRv(ns:List Nd)(n:Nd):fM (ns++[n])=if n.kind=4 then fM ns++[(ns.length:Int)]else fM ns:=by
 unfold fM;rw[wS];by_cases h:n.kind=4
 .rw[bBa h,bBa (bYa h)]
 .rw[bAa h,bAa (by simpa using h)]
theorem aEs.toM{w:World}{A x:Nat}{ns:List Nd}{E G I J:Value}{j:List Value}(h:aEs w A x ns E G I J j):j.length=ns.length/\kX w A x ns E G I J j (dM ns :: fM ns :: (List.range ns.length).map (gJ ns)):=by
 have L:j.length=ns.length:=by have:=h.kids.1;omega
 exact⟨L,h.blk,h.hx,h.nodes,by rw[L];exact h.kids,h.rows⟩
theorem tput_any(n:Nd)(ns:List Nd)(w:World)(G x:Nat)(hT:dH w G x ns)(ef:ns.length<1024)(cp:n.above<(ns.length:Int))(hk:1<=n.kind/\n.kind<=4) :
 Cl 106 #[.pointer (some ⟨x,0,none⟩),.agg (ndA n)] w fun e w'=>e=.returned (.tuple #[])/\dH w' G x (ns++[n])/\Below G w w':=by
 obtain⟨nv,kv,tv,hv,U,hC⟩:=hT;have di:=q_ hC.small;obtain⟨bg,h⟩:=hC.toM;have b8:=q_ (aTr ns n di.2 cp);have bq:=q_ (top_more ns n);have br:=q_ (aRv ns n);have b9:=h.hx;have el:=aL h.blk;obtain⟨Z,E,O,wt,⟨v6,V,W⟩⟩:=n;obtain⟨N,hN⟩:∃N:Nd,N=⟨Z,E,O,wt,⟨v6,V,W⟩⟩:=⟨_,rfl⟩
 rw[<-hN]at b8 bq br ⊢;have em:Hid (N.kind=E):=q_ (by rw[hN]);have dj:Hid (N.above=O):=q_ (by rw[hN]);rw[em]at bq br;rw[dj]at b8;dsimp only at cp hk;have en:Hid ((ndC N).toArray=#[.string (str Z),.int .i64 E,.int .i64 O,.int .i64 wt,.bool v6,.int .u64 (V:Int),.int .u64 (W:Int)]):=q_ (by rw[hN];rfl);unfold ndA;rw[show(#[.string (str N.name),.int .i64 N.kind,.int .i64 N.above,.int .i64 N.weight,.bool N.a.v6,.int .u64 (N.a.hi:Int),.int .u64 (N.a.lo:Int)]:Array Value)=#[.string (str Z),.int .i64 E,.int .i64 O,.int .i64 wt,.bool v6,.int .u64 (V:Int),.int .u64 (W:Int)] by rw[hN]];obtain⟨z,hz⟩:=eX w.heap.size;obtain⟨w1,da⟩:=eX (w.alloc (.cells #[.string (str Z),.int .i64 E,.int .i64 O,.int .i64 wt,.bool v6,.int .u64 (V:Int),.int .u64 (W:Int)] 93));have ca:Below w.heap.size w w1:=da▸bC;have cc:Hid (w1.heap[w.heap.size]?=some (.cells #[.string (str Z),.int .i64 E,.int .i64 O,.int .i64 wt,.bool v6,.int .u64 (V:Int),.int .u64 (W:Int)] 93 (0,0))):=q_ (da▸aJ _ _ _);have h1:=q_ (h.on ca);rw[hz]at ca cc el;have dk:z<w1.heap.size:=aL cc;obtain⟨An,cn,e1,-,-,-⟩:=bE h1.nodes;subst e1;have dl:w1.cell? ⟨x,0,none⟩=some (.slice An ns.length cn):=aA h1.blk 0;have dm:Hid (Below G w w1):=q_ (ca.mono (by omega));have cd:∀{e:TypeId} {size m:Nat} {v:Value} {ys:List Value},w.ownsRow G e size v m ys->v.ownBlock=some z->False:=fun ho e=>by have:=(cYa ho _ e).2;omega
 have cu:=cd h.nodes;have eo:=q_ (cd h.kids);have cw:=q_ (fun(i:Nat) (v:Value) (h1:(tv :: hv :: U)[i]?=some v)=>cd (h.rows.own i v _ h1 (aXa (by rw[<-h.rows.len];exact(List.getElem?_eq_some_iff.1 h1).1))));obtain⟨L,hL⟩:=eX ns.length;rw[hL]at dl ef cp cu;clear hC ca cd;replace ⟨h,hN,bg⟩:=q_3 h hN bg;go_enter func106,ntmps106;go_upto_region 2 with fail
 clear da;have bh:=kU h1.nodes h1.blk (by decide);rw[hL]at bh;refine sV [10] (aV w1.heap.size (fun k=>(Value.slice An L cn).ownBlock=some k)) (by as_aux_lemma=>kernel_rfl) ?_;intro w2 ag;have h2:=q_ (h1.on ag);have cy:=q_ (aC ag dk cc);have dn:=q_ ((tw dm ag));have ze:=ag.size;have lx:=fun l:bU (aV w1.heap.size (fun k=>(Value.slice An L cn).ownBlock=some k)) w2=>(show l.w.cell? ⟨x,0,none⟩=some (.slice An L cn) from(aA ((l.hk.block x (by omega) (by rcases bh with e|e<;>(intro e2;first|(rw[e]at e2;cases e2)|exact e e2))).trans h2.blk) 0).trans (by rw[hL];rfl))
 have lz:=fun l:bU (aV w1.heap.size (fun k=>(Value.slice An L cn).ownBlock=some k)) w2=>aA ((l.hk.block z dk cu).trans cy)
 clear h1 cc dm ag bh dl;refine wC [10] (aV w1.heap.size (fun k=>(Value.slice An L cn).ownBlock=some k)) 0 6 (fuel:=5) (by as_aux_lemma=>kernel_rfl) (fun d _ _ _ _ h=>by cases d<;>exact h) (by as_aux_lemma=>kernel_rfl) (by as_aux_lemma=>kernel_rfl) (by as_aux_lemma=>kernel_rfl) ?_;simp only[dA,dC,dD];iterate 6 refine qX ?_
 refine aN ?_;clear lx lz;refine wT 6 rfl fun K A=>?_;go_simp;refine A _ _ (gD (bT bC ze)) ?_;clear A K;obtain⟨e3,ao⟩:=eX (w2.alloc (.cells (ndC N).toArray 93));have am:Below w2.heap.size w2 e3:=ao▸bC;have bs:=bN ao;rw[en.out]at ao
 change wpW _ _ _ _ _ _ _ _ (w2.alloc (.cells #[.string (str Z),.int .i64 E,.int .i64 O,.int .i64 wt,.bool v6,.int .u64 (V:Int),.int .u64 (W:Int)] 93))
 rw[ao];have ht:=h2.on am;have bt:=tw dn am;have dp:=kB am cy;have zt:=am.size;clear ao am h2 dn cy;refine wT 7 rfl fun K A=>?_;rw[bBa (by unfold Region.wanted;rfl)];refine aDg (T:=93) underlying22 aQe rfl (by decide) (by decide) (.tmp 14) (.tmp 16) rfl G (.slice An L cn) L (ns.map ndC).flatten (ndC N) w2.heap.size rfl rfl (by have:=ht.nodes;rw[hL]at this;exact this) bs rfl (aQj _) (by omega) (by omega) fun ei a2 J j=>A _ _ (gD ⟨j.grown.os,j.grown.tape,j.grown.output,j.grown.size,fun k hk cr=>j.grown.block k (by omega) (fun e=>cr e.symm)⟩) ?_
 clear A K bs;obtain⟨b2,b3,e4,-,-,-⟩:=bE J;subst e4;obtain⟨ci,ah⟩:=ht.pushN (n:=N) (by rw[hL];exact J) (by rw[hL];exact j);have fg:=j.grown.size;have bu:=bt.trans (bV j.grown (by omega) (fun k hk=>(cYa ht.nodes k (by rw[hL];exact hk)).1));have bi:Hid (Below G w (a2.setCell ⟨x,0,none⟩ (.slice b2 (L+1) b3))):=q_ (bu.setCell (p:=⟨x,0,none⟩) b9 _);have c2:a2.heap[z]?=some (.cells #[.string (str Z),.int .i64 E,.int .i64 O,.int .i64 wt,.bool v6,.int .u64 (V:Int),.int .u64 (W:Int)] 93 (0,0)):=(j.grown.block z (by omega) (fun e=>cu e.symm)).trans dp;have bj:(a2.setCell ⟨x,0,none⟩ (.slice b2 (L+1) b3)).heap[z]?=some (.cells #[.string (str Z),.int .i64 E,.int .i64 O,.int .i64 wt,.bool v6,.int .u64 (V:Int),.int .u64 (W:Int)] 93 (0,0)):=by
  obtain⟨wq,g1,-,g3⟩:=eY ci 0 (.slice b2 (L+1) b3);rw[g1];exact fC g3 (aL c2) (by omega) c2
 have hc:a2.cell? ⟨x,0,none⟩=some (.slice An ns.length cn):=aA ci 0;have hf:=bD ci 0;clear J j ht bt bu ci dp c2;obtain⟨b6,b4⟩:∃b6,a2.setCell ⟨x,0,none⟩ (.slice b2 (L+1) b3)=b6:=⟨_,rfl⟩
 rw[b4]at ah bi bj;replace ⟨ah,bj⟩:=q_2 ah bj;refine wT 8 rfl fun K A=>?_;go_simp;refine A _ _ (gD (cB.refl _)) ?_;clear A K;refine wT 9 rfl fun K A=>?_;go_simp;refine A _ _ (gD (cB.refl _)) ?_;clear A K;refine wT 10 rfl fun K A=>?_;go_simp;refine A _ _ (zT (by as_aux_lemma=>kernel_rfl)) ?_;clear A K hc hf b4;refine xX (by as_aux_lemma=>kernel_rfl) ?_ _;obtain⟨Ak,ck,e5,-,-,-⟩:=bE ah.kids;subst e5;have eq:b6.cell? ⟨x,1,none⟩=some (.slice Ak U.length ck):=aA ah.blk 1;have dq:G<=b6.heap.size:=by have:=ah.hx;have:=aL ah.blk;omega
 go_upto_region 3 with fail
 apply aWa;iterate 6 refine pS ?_
 refine rM (T:=31) underlying168 aTn rfl (by decide) (by decide) rfl (.tmp 24) (.tmp 25) rfl G (.slice Ak U.length ck) U.length U [.slice none 0 0] rfl rfl ah.kids rfl (by intro u hu;rw[dZa]at hu;subst hu;rfl) dq (by have:=bg.out;omega) fun ff b7 J j=>?_;obtain⟨bl,a5,e6,-,-,-⟩:=bE J;subst e6;obtain⟨cj,X⟩:=ah.pushK J j;have dr:=bi.trans (bV j.grown dq (fun k hk=>(cYa ah.kids k hk).1));have bv:Hid (Below G w (b7.setCell ⟨x,1,none⟩ (.slice bl (U.length+1) a5))):=q_ (dr.setCell (p:=⟨x,1,none⟩) b9 _);have c3:b7.heap[z]?=some (.cells #[.string (str Z),.int .i64 E,.int .i64 O,.int .i64 wt,.bool v6,.int .u64 (V:Int),.int .u64 (W:Int)] 93 (0,0)):=(j.grown.block z (aL bj) (fun e=>eo e.symm)).trans bj;have an:(b7.setCell ⟨x,1,none⟩ (.slice bl (U.length+1) a5)).heap[z]?=some (.cells #[.string (str Z),.int .i64 E,.int .i64 O,.int .i64 wt,.bool v6,.int .u64 (V:Int),.int .u64 (W:Int)] 93 (0,0)):=by
  obtain⟨wq,g1,-,g3⟩:=eY cj 1 (.slice bl (U.length+1) a5);rw[g1];exact fC g3 (aL c3) (by omega) c3
 have hc:=aA cj 1;have hf:=bD cj 1;clear J j dr cj c3 ah bi bj eq;obtain⟨bo,d6⟩:∃bo,b7.setCell ⟨x,1,none⟩ (.slice bl (U.length+1) a5)=bo:=⟨_,rfl⟩
 rw[d6]at X bv an;replace ⟨X,an⟩:=q_2 X an;iterate 3 refine pS ?_
 refine bCa ?_;go_simp;clear hc hf d6;have ds:=aA an;have bw:G<=bo.heap.size:=by have:=X.hx;have:=aL X.blk;omega
 go_upto_block 0 with fail
 go_cut [] (fun wx=>(∃dg dh,kX wx G x (ns++[N]) (.slice b2 (L+1) b3) (.slice bl (U.length+1) a5) dg dh (U++[.slice none 0 0]) (dM (ns++[N]) :: fM (ns++[N]) :: ((List.range ns.length).map (gJ ns)++[[]])))/\wx.heap[z]?=some (.cells #[.string (str Z),.int .i64 E,.int .i64 O,.int .i64 wt,.bool v6,.int .u64 (V:Int),.int .u64 (W:Int)] 93 (0,0))/\Below G w wx)
 case first =>
  clear ds;by_cases k1:E=1
  .have k4:¬ E=4:=by omega
   have t1:(E == 1)=true:=by rw[k1];rfl
   replace ⟨k1,k4⟩:=q_2 k1 k4;obtain⟨At,ct,dc,-,-,-⟩:=bE (X.rows.own 0 tv _ rfl rfl);subst dc;obtain⟨Y,I⟩:=eX (dM ns);have aj:=X.rows.own 0 _ _ rfl rfl;rw[I]at aj;have c4:bo.cell? ⟨x,2,none⟩=some (.slice At Y.length ct):=by
    have:=aA X.blk 2;rw[I]at this;exact this
   have c5:Y.length<=1024:=by
    rw[<-I];unfold dM jA jP;rw[bNa];have:=eTa (fun i=>(ns[i]?).any (fun n=>decide (n.kind=1))) (List.range ns.length);rw[fPa]at this;omega
   have c6:(Value.slice At Y.length ct).ownBlock=some z->False:=cw 0 _ (by rw[<-I];rfl);go_upto_region 6 with fail
   apply aWa;iterate 7 refine pS ?_
   refine rM (T:=3) dRa aFw rfl (by decide) (by decide) rfl (.tmp 37) (.tmp 39) rfl G (.slice At Y.length ct) Y.length (Y.map bL) [.int .i64 (L:Int)] rfl rfl aj rfl (by intro u hu;rw[dZa]at hu;subst hu;rfl) bw (by omega) fun ej aq J j=>?_;obtain⟨ay,az,dd,-,-,-⟩:=bE J;subst dd;have h14':=X.out;rw[I]at h14';obtain⟨a0,aw⟩:=kX.growT (m:=(L:Int)) h14' J j;have bx:=bv.trans (bV j.grown bw (fun k hk=>(cYa aj k hk).1));have bz:Hid (Below G w (aq.setCell ⟨x,2,none⟩ (.slice ay (Y.length+1) az))):=q_ (bx.setCell (p:=⟨x,2,none⟩) b9 _);have a6:aq.heap[z]?=some (.cells #[.string (str Z),.int .i64 E,.int .i64 O,.int .i64 wt,.bool v6,.int .u64 (V:Int),.int .u64 (W:Int)] 93 (0,0)):=(j.grown.block z (aL an) (fun e=>c6 e.symm)).trans an;have av:(aq.setCell ⟨x,2,none⟩ (.slice ay (Y.length+1) az)).heap[z]?=some (.cells #[.string (str Z),.int .i64 E,.int .i64 O,.int .i64 wt,.bool v6,.int .u64 (V:Int),.int .u64 (W:Int)] 93 (0,0)):=by
    obtain⟨wq,g1,-,g3⟩:=eY a0 2 (.slice ay (Y.length+1) az);rw[g1];exact fC g3 (aL a6) (by omega) a6
   have hc:=aA a0 2;have hf:=bD a0 2;clear J j bx a0 a6 h14' c4;obtain⟨bp,b5⟩:∃bp,aq.setCell ⟨x,2,none⟩ (.slice ay (Y.length+1) az)=bp:=⟨_,rfl⟩
   rw[b5]at aw bz av;replace ⟨aw,av,aj,I⟩:=q_4 aw av aj I;iterate 3 refine pS ?_
   refine bCa ?_;go_simp;clear hc hf b5;go_wp2_with fail
   go_meet;exact⟨⟨_,_,by have:=aw.out;rw[<-I.out]at this;rw[bq.out,br.out,bBa k1.out,bAa k4.out,hL];rw[hL]at this;exact this⟩,av,bz⟩
  by_cases k4:E=4
  .have t1:(E == 1)=false:=by rw[k4];rfl
   have t4:(E == 4)=true:=by rw[k4];rfl
   replace ⟨k1,k4⟩:=q_2 k1 k4;obtain⟨At,ct,dc,-,-,-⟩:=bE (X.rows.own 1 hv _ rfl rfl);subst dc;obtain⟨Y,I⟩:=eX (fM ns);have aj:=X.rows.own 1 _ _ rfl rfl;rw[I]at aj;have c4:bo.cell? ⟨x,3,none⟩=some (.slice At Y.length ct):=by
    have:=aA X.blk 3;rw[I]at this;exact this
   have c5:Y.length<=1024:=by
    rw[<-I];unfold fM jA jP;rw[bNa];have:=eTa (fun i=>(ns[i]?).any (fun n=>decide (n.kind=4))) (List.range ns.length);rw[fPa]at this;omega
   have c6:(Value.slice At Y.length ct).ownBlock=some z->False:=cw 1 _ (by rw[<-I];rfl);go_upto_region 8 with fail
   apply aWa;iterate 7 refine pS ?_
   refine rM (T:=3) dRa aFw rfl (by decide) (by decide) rfl (.tmp 49) (.tmp 51) rfl G (.slice At Y.length ct) Y.length (Y.map bL) [.int .i64 (L:Int)] rfl rfl aj rfl (by intro u hu;rw[dZa]at hu;subst hu;rfl) bw (by omega) fun ej aq J j=>?_;obtain⟨ay,az,dd,-,-,-⟩:=bE J;subst dd;have h14':=X.out;rw[I]at h14';obtain⟨a0,aw⟩:=kX.growH (m:=(L:Int)) h14' J j;have bx:=bv.trans (bV j.grown bw (fun k hk=>(cYa aj k hk).1));have bz:Hid (Below G w (aq.setCell ⟨x,3,none⟩ (.slice ay (Y.length+1) az))):=q_ (bx.setCell (p:=⟨x,3,none⟩) b9 _);have a6:aq.heap[z]?=some (.cells #[.string (str Z),.int .i64 E,.int .i64 O,.int .i64 wt,.bool v6,.int .u64 (V:Int),.int .u64 (W:Int)] 93 (0,0)):=(j.grown.block z (aL an) (fun e=>c6 e.symm)).trans an;have av:(aq.setCell ⟨x,3,none⟩ (.slice ay (Y.length+1) az)).heap[z]?=some (.cells #[.string (str Z),.int .i64 E,.int .i64 O,.int .i64 wt,.bool v6,.int .u64 (V:Int),.int .u64 (W:Int)] 93 (0,0)):=by
    obtain⟨wq,g1,-,g3⟩:=eY a0 3 (.slice ay (Y.length+1) az);rw[g1];exact fC g3 (aL a6) (by omega) a6
   have hc:=aA a0 3;have hf:=bD a0 3;clear J j bx a0 a6 h14' c4;obtain⟨bp,b5⟩:∃bp,aq.setCell ⟨x,3,none⟩ (.slice ay (Y.length+1) az)=bp:=⟨_,rfl⟩
   rw[b5]at aw bz av;replace ⟨aw,av,aj,I⟩:=q_4 aw av aj I;iterate 3 refine pS ?_
   refine bCa ?_;go_simp;clear hc hf b5;go_wp2_with fail
   go_meet;exact⟨⟨_,_,by have:=aw.out;rw[<-I.out]at this;rw[bq.out,br.out,bAa k1.out,bBa k4.out,hL];rw[hL]at this;exact this⟩,av,bz⟩
  have t1:(E == 1)=false:=by rw[bDa];exact k1
  have t4:(E == 4)=false:=by rw[bDa];exact k4
  go_wp2_with fail
  go_meet;exact⟨⟨_,_,by rw[bq.out,br.out,bAa k1,bAa k4];exact X⟩,an,bv⟩
 case rest =>
 obtain⟨⟨dg,dh,hM⟩,a8,a7⟩:=hcut;clear X an bv ds bw;have es:=aA a8;have du:=aL a8;have et:∀m∈ns++[N],m.above<((ns++[N]).length:Int):=by
  intro m hm;rw[bHa,cZa];rcases List.mem_append.1 hm with h9|h9
  .have:=di.2 m h9;omega
  .rw[dZa]at h9;rw[h9,dj.out];omega
 have dv:(ns++[N]).length<=1024/\(∀m∈ns++[N],m.above<((ns++[N]).length:Int)):=⟨by rw[bHa,cZa];omega,et⟩
 have fh:(ns++[N]).length=L+1:=by rw[bHa,cZa,hL]
 by_cases h0:0<=O
 case neg =>
  have c7:Hid (dH wc G x (ns++[N])):=q_ (⟨_,_,_,_,_,hM.blk,hM.hx,hM.nodes,by have:=hM.kids;rw[show(U++[Value.slice none 0 0]).length=(ns++[N]).length by simp[bg.out]]at this;exact this,by rw[b8.out,bAa h0];exact hM.rows,dv⟩);clear a8 hM;replace a7:=q_ a7;go_wp2_with fail
  exact bodyPost_end (v:=.tuple #[]) (by simp[results,results106,go_sem]) rfl ⟨rfl,c7,a7⟩
 obtain⟨a,rfl⟩:∃a:Nat,O=(a:Int):=⟨O.toNat,by omega⟩
 have dw:a<U.length:=by rw[bg.out];omega
 obtain⟨v,d7⟩:∃v,U[a]?=some v:=⟨_,aXa dw⟩
 have b0:(U++[Value.slice none 0 0])[a]?=some v:=by rw[cEa dw];exact d7
 have b1:(dM (ns++[N]) :: fM (ns++[N]) :: ((List.range ns.length).map (gJ ns)++[[]]))[a+2]?=some (gJ ns a):=by
  rw[List.getElem?_cons_succ,List.getElem?_cons_succ,cEa (by simp;omega),fGa,gXa (by omega)]
  rfl
 have cg:=q_ (hM.rows.own (a+2) v (gJ ns a) b0 b1);have c5:(gJ ns a).length<=1024:=by
  unfold gJ jA jP;rw[bNa];have:=eTa (fun i=>(ns[i]?).any (fun n=>decide (n.above=(a:Int)))) (List.range ns.length);rw[fPa]at this;omega
 have eu:=cw (a+2) v d7;obtain⟨Y,I⟩:=eX (gJ ns a);rw[I]at cg c5 b1;obtain⟨Av,cv,e7,-,-,-⟩:=bE cg;obtain⟨gk,e8,e9,ek,fl,-,-,bk,fm,-,d8⟩:=aQw hM.kids (i:=a) (by rw[bHa];omega) v;have ev:e9[a]?=some v:=by rw[<-d8];exact b0
 have ew:bl=some ⟨gk,0,none⟩/\a5=e8:=by
  simp only[Value.slice.injEq]at ek;exact⟨ek.1,ek.2.2⟩
 obtain⟨rfl,rfl⟩:=ew;have bh:=kU cg hM.blk (by decide);have dx:=kU cg bk (by decide);have ex:=aL hM.blk;have dy:=aL bk;have ey:G<=wc.heap.size:=by omega
 subst e7;have ia:(a:Int)<(U.length:Int)+1:=by omega
 clear d8 ek;replace ⟨hM,a8,a7,bk⟩:=q_4 hM a8 a7 bk;go_upto_region 10 with fail
 refine sV [18] (aV wc.heap.size (fun k=>(Value.slice Av Y.length cv).ownBlock=some k)) (by as_aux_lemma=>kernel_rfl) ?_;intro we ag;have c8:=q_ (hM.on ag);have dz:=q_ (aC ag du a8);have d0:=q_ (aC ag dy bk);have d1:=q_ (a7.trans (ag.mono ey));have ze:=ag.size;have lx:=fun l:bU (aV wc.heap.size (fun k=>(Value.slice Av Y.length cv).ownBlock=some k)) we=>(show l.w.cell? ⟨x,1,none⟩=some (.slice (some ⟨gk,0,none⟩) (U.length+1) a5) from aA ((l.hk.block x ex (by rcases bh with e|e<;>(intro e2;first|(rw[e]at e2;cases e2)|exact e e2))).trans c8.blk) 1)
 have lz:=fun l:bU (aV wc.heap.size (fun k=>(Value.slice Av Y.length cv).ownBlock=some k)) we=>aA ((l.hk.block z du eu).trans dz)
 have lg:=fun l:bU (aV wc.heap.size (fun k=>(Value.slice Av Y.length cv).ownBlock=some k)) we=>(aA ((l.hk.block gk dy (by rcases dx with e|e<;>(intro e2;first|(rw[e]at e2;cases e2)|exact e e2))).trans d0) a).trans ev
 clear hM a8 a7 bk ag bh dx es;refine wC [18] (aV wc.heap.size (fun k=>(Value.slice Av Y.length cv).ownBlock=some k)) 0 15 (fuel:=4) (by as_aux_lemma=>kernel_rfl) (fun d _ _ _ _ h=>by cases d<;>exact h) (by as_aux_lemma=>kernel_rfl) (by as_aux_lemma=>kernel_rfl) (by as_aux_lemma=>kernel_rfl) ?_;simp only[dA,dC,dD];iterate 15 refine qX ?_
 refine aN ?_;clear lx lz lg;refine wT 15 rfl fun K A=>?_;go_simp;refine A _ _ (gD (bT bC ze)) ?_;clear A K;obtain⟨d9,ao⟩:=eX (we.alloc (.cells #[.int .i64 (L:Int)] 3));have am:Below we.heap.size we d9:=ao▸bC;have bs:d9.heap[we.heap.size]?=some (.cells ([.int .i64 (L:Int)]:List Value).toArray 3 (0,0)):=ao▸aJ _ _ _
 change wpW _ _ _ _ _ _ _ _ (we.alloc (.cells #[.int .i64 (L:Int)] 3))
 rw[ao];have ch:=c8.on am;have bt:=tw d1 am;have zt:=am.size;clear ao am c8 d1 d0 dz;refine wT 16 rfl fun K A=>?_;rw[bBa (by unfold Region.wanted;rfl)];refine aDg (T:=3) dRa aFw rfl (by decide) (by decide) (.tmp 71) (.tmp 73) rfl G (.slice Av Y.length cv) Y.length (Y.map bL) [.int .i64 (L:Int)] we.heap.size rfl rfl (ch.rows.own (a+2) _ _ b0 b1) bs rfl (by intro u hu;rw[dZa]at hu;subst hu;rfl) (by omega) (by omega) fun ei a2 J j=>A _ _ (gD ⟨j.grown.os,j.grown.tape,j.grown.output,j.grown.size,fun k hk cr=>j.grown.block k (by omega) (fun e=>cr e.symm)⟩) ?_
 clear A K bs;obtain⟨ea,eb,fa,-,-,-⟩:=bE J;subst fa;obtain⟨fb,fc,fn,cm,fd,de,ec,be⟩:=ch.growK (a:=a) (m:=(L:Int)) b0 b1 J j;obtain⟨rfl,rfl⟩:gk=fb/\a5=fc:=by
  simp only[Value.slice.injEq,gQa,Addr.mk.injEq]at cm;exact⟨cm.1.1,cm.2.2⟩
 have bu:=bt.trans (bV j.grown (by omega) (fun k hk=>(cYa (ch.rows.own (a+2) _ _ b0 b1) k hk).1));have bi:Hid (Below G w (a2.setCell ⟨gk,a,none⟩ (.slice ea (Y.length+1) eb))):=q_ (bu.setCell (p:=⟨gk,a,none⟩) fd _);have hc:=(aA de a).trans ec;have hf:=bD de a;obtain⟨cq,b4⟩:∃cq,a2.setCell ⟨gk,a,none⟩ (.slice ea (Y.length+1) eb)=cq:=⟨_,rfl⟩
 rw[b4]at be bi;have c7:Hid (dH cq G x (ns++[N])):=q_ (⟨_,_,_,_,_,be.blk,be.hx,be.nodes,by have:=be.kids;rw[cFa,show(U++[Value.slice none 0 0]).length=(ns++[N]).length by simp[bg.out]]at this;exact this,by have d2:=be.rows;rw[hL]at d2;rw[b8.out,bBa h0,bMa,I,hL];exact d2,dv⟩);clear J j ch bt bu be de ec cm;refine wT 17 rfl fun K A=>?_;go_simp;refine A _ _ (gD (cB.refl _)) ?_;clear A K;refine wT 18 rfl fun K A=>?_;go_simp;refine A _ _ (zT (by as_aux_lemma=>kernel_rfl)) ?_;clear A K hc hf b4;refine xX (by as_aux_lemma=>kernel_rfl) ?_ _;exact bodyPost_end (v:=.tuple #[]) (by simp[results,results106,go_sem]) rfl ⟨rfl,c7,bi⟩
def xN (l:List Int) (x:Int):Int:=match l.findIdx? (fun y=>decide (x=y))with|some k=>(k:Int)|none=>-1
theorem idxF_hit{x:Int}(A:l[k]?=some x)(E:∀(j:Nat) (y:Int),j<k->l[j]?=some y->x≠y):xN l x=(k:Int):=by
 obtain⟨I,J⟩:=List.getElem?_eq_some_iff.1 A;have e:l.findIdx? (fun y=>decide (x=y))=some k:=by
  rw[fQa];refine⟨I,by rw[J];exact bYa rfl,fun j G=>?_⟩;have:=E j _ G (aXa (by omega));simpa using this
 unfold xN;rw[e]
theorem aTj{x:Int}(A:∀(j:Nat) (y:Int),l[j]?=some y->x≠y):xN l x=-1:=by
 have e:l.findIdx? (fun y=>decide (x=y))=none:=by
  rw[fLa];intro y G;obtain⟨j,E⟩:=List.mem_iff_getElem?.1 G;simpa using A j y E
 unfold xN;rw[e]
theorem aMy{x:Int}:0<=xN l x↔x∈l:=by
 unfold xN;rcases h:l.findIdx? (fun y=>decide (x=y))with _|k
 .rw[fLa]at h;dsimp only
  constructor
  .intro G;omega
  .intro E;have:=h x E;simp at this
 .rw[fQa]at h;obtain⟨j,A,-⟩:=h;dsimp only
  constructor
  .intro _;have:=cHa A;rw[this];exact fNa j
  .intro _;omega
theorem aHj(l:List Int)(x:Int)(n c:Nat)(A:Option Addr)(w:World)(h:IsR bL w w.heap.size A n l)(hn:n<=1099511627776) :
 Cl 97 #[.slice A n c,.int .i64 x] w fun e w'=>e=.returned (.int .i64 (xN l x))/\w'=w:=by
 have ad:=h.len;obtain⟨R,J⟩:=eX (xN l x);have X:=q_ (fun k W E=>J.symm.trans (idxF_hit (l:=l) (x:=x) (k:=k) W E));have Y:=q_ (fun E=>J.symm.trans (aTj (l:=l) (x:=x) E));rw[J];clear J;replace h:=q_ h;go_enter func97,ntmps97;go_wp2_with fail
 go_loopw [5,8] (fun _ L wr=>∃i:Nat,i<=n/\L=.int .i64 (i:Int)/\(∀(j:Nat) (y:Int),j<i->l[j]?=some y->x≠y)/\w=wr) (fun _ L _=>n - (intOf L).toNat)
 case atStart=>exact⟨0,by omega,rfl,fun j y V=>absurd V (by omega),rfl⟩
 case round =>
  obtain⟨i,hi,rfl,E,rfl⟩:=hrel;by_cases ab:i<n
  .have Z:(i:Int)<(n:Int):=by omega
   have ae:=wJ i;obtain⟨b,ag,y,rfl,hb,G,hc⟩:=h.at ab;unfold bL at hc;by_cases I:x=y
   .have t:(x == y)=true:=beq_iff_eq.2 I;have N:=q_ (X i (by rw[I];exact G) E);clear E G I;go_wp2_with fail
    go_ret;exact⟨by rw[N.out];rfl,rfl⟩
   .have t:(x == y)=false:=by rw[bDa];exact I
    have O:∀(j:Nat) (z:Int),j<i+1->l[j]?=some z->x≠z:=by
     intro j z V U;by_cases e:j=i
     .subst e;rw[G]at U
      cases U
      exact I
     .exact E j z (by omega) U
    clear E G I;replace O:=q_ O;go_wp2_with fail
    exact⟨⟨i+1,by omega,by first|rfl|go_num,O,by first|rfl|trivial⟩,by simp only[intOf];omega⟩
  .obtain rfl:i=n:=by omega
   have Z:((i:Int)<(i:Int))=False:=by simp
   have N:=q_ (Y fun j y G=>E j y (by have:=(List.getElem?_eq_some_iff.1 G).1;omega) G);clear E;go_wp2_with fail
   go_ret;exact⟨by rw[N.out];rfl,rfl⟩
theorem aL9(l:List Int)(x:Int)(n c:Nat)(A:Option Addr)(w:World)(h:IsR bL w w.heap.size A n l)(G:n<=1099511627776) :
 Cl 54 #[.slice A n c,.int .i64 x] w fun e w'=>e=.returned (.bool (decide (x∈l)))/\w'=w:=by
 have q:=q_ (aHj l x n c A w h G);have j:=aMy (l:=l) (x:=x);obtain⟨R,E⟩:=eX (xN l x);rw[E]at q j;have e:decide (x∈l)=decide (0<=R):=by rw[gCa,eRa,eRa,j]
 rw[e];clear j E e h;go_enter func54,ntmps54;go_wp2_with fail
 refine q.mono ?_;rintro e I ⟨rfl,rfl⟩;go_wp2_with fail
 go_ret;exact⟨rfl,rfl⟩
theorem aJ9(ns:List Nd)(I x:Nat)(w:World)(J:dH w I x ns) :
 Cl 53 #[.pointer (some ⟨x,0,none⟩)] w fun e w'=>∃v,e=.returned v/\w'.ownsRow w.heap.size 3 1 v (fM ns).length ((fM ns).map bL)/\Below w.heap.size w w':=by
 obtain⟨X,Y,Z,j,us,A⟩:=J;have V:=A.small.1;obtain⟨L,N,O,h1,h2,G⟩:=bE (A.rows.own 1 j _ rfl rfl);have k2:=aA A.blk 3;subst O;have W:(fM ns).length<=ns.length:=by
  unfold fM jA jP;rw[bNa];exact bJa (eTa _ _) (by rw[fPa];exact aZa _)
 have q:=aDc ((fM ns).map bL) (fM ns).length N L w G (by omega) (by
  intro u U;obtain⟨y,_,rfl⟩:=List.mem_map.1 U
  rfl)
 clear A G;replace q:=q_ q;go_enter func53,ntmps53;go_wp2_with fail
 refine q.mono ?_;rintro e w1 ⟨v,rfl,j,E⟩;replace ⟨j,E⟩:=q_2 j E;go_wp2_with fail
 go_ret;exact⟨v,rfl,j,E⟩
def Rise (ns:List Nd):Prop:=∀(i:Nat) (n:Nd),ns[i]?=some n->n.above<(i:Int)
def upAt (ns:List Nd) (kind:Int):Nat->Int->Int
 | 0,_=>-1
 | k+1,i=>if 0<=i/\i<(ns.length:Int)then(match ns[i.toNat]? with
  | some n=>if n.kind=kind then i else upAt ns kind k n.above
  | none=>-1)else -1
def upF (ns:List Nd) (i kind:Int):Int:=upAt ns kind ns.length i
theorem upAt_out{ns:List Nd}{j i:Int}(h:¬(0<=i/\i<(ns.length:Int))):∀k,upAt ns j k i=-1
 | 0=>rfl
 | k+1=>by rw[upAt,bAa h]
theorem aN5(ns:List Nd)(ac x:Nat)(i E:Int)(w:World)(hT:dH w ac x ns)(U:Rise ns) :
 Cl 112 #[.pointer (some ⟨x,0,none⟩),.int .i64 i,.int .i64 E] w fun e w'=>e=.returned (.int .i64 (upF ns i E))/\w=w':=by
 have X:=q_ (rA ns ac x w hT);obtain⟨nv,kv,tv,hv,us,N⟩:=hT;have ar:=N.small.1;obtain⟨An,cn,ao,h1,h2,ae⟩:=bE N.nodes;have k0:=aA N.blk 0;subst ao;have hl:Hid (IsT ndC 7 w w.heap.size An ns.length ns):=q_ (⟨rfl,ae⟩);obtain⟨R,J⟩:=eX (upF ns i E);rw[J];unfold upF at J;clear N ae;replace ⟨J,U⟩:=q_2 J U;go_enter func112,ntmps112;go_wp2_with fail
 go_loopw [1] (fun W wr=>∃(k:Nat) (j:Int),W=.int .i64 j/\upAt ns E k j=R/\(0<=j/\j<(ns.length:Int)->j<(k:Int))/\w=wr) (fun W _=>(intOf W+1).toNat)
 case atStart=>exact⟨ns.length,i,rfl,J,fun h=>h.2,rfl⟩
 case round =>
  obtain⟨k,j,rfl,A,O,rfl⟩:=hrel;clear J;by_cases I:0<=j/\j<(ns.length:Int)
  .have av:=O I;obtain⟨a,rfl⟩:∃a:Nat,j=(a:Int):=⟨j.toNat,by omega⟩
   have ak:a<ns.length:=by omega
   obtain⟨b,af,n,rfl,a5,Y,Z⟩:=IsT.at (f:=ndC) (size:=7) (fun _=>rfl) (by decide) hl ak;have G:=U a n Y;obtain⟨V,rfl⟩:∃V,k=V+1:=⟨k - 1,by omega⟩
   rw[upAt,bBa I,bMa,Y]at A;dsimp only at A;have i2:(a:Int)<(ns.length:Int):=by omega
   have y1:w.cell? ⟨b,af+a*7+1,none⟩=some (.int .i64 n.kind):=Z 1 _ rfl;have y2:w.cell? ⟨b,af+a*7+2,none⟩=some (.int .i64 n.above):=Z 2 _ rfl;obtain⟨kd,ag⟩:∃v,n.kind=v:=⟨_,rfl⟩
   obtain⟨ab,ah⟩:∃v,n.above=v:=⟨_,rfl⟩
   rw[ag]at A y1;rw[ah]at A y2 G;clear Z Y ag ah O I;by_cases L:kd=E
   .have t:(kd == E)=true:=beq_iff_eq.2 L;rw[bBa L]at A;clear L;replace ⟨A,G⟩:=q_2 A G;go_wp2_with fail
    refine X.mono ?_;rintro e w1 ⟨rfl,rfl⟩;go_wp2_with fail
    go_ret;exact⟨by rw[<-A.out];rfl,rfl⟩
   .have t:(kd == E)=false:=by rw[bDa];exact L
    rw[bAa L]at A;clear L;replace ⟨A,G⟩:=q_2 A G;go_wp2_with fail
    refine X.mono ?_;rintro e w1 ⟨rfl,rfl⟩;go_wp2_with fail
    exact⟨⟨V,ab,rfl,A,fun h=>by have:=G.out;omega,by first|rfl|trivial⟩,by have:=G.out;simp only[intOf];omega⟩
  .rw[upAt_out I]at A;subst A;by_cases h0:0<=j
   .have h1':¬ j<(ns.length:Int):=fun h=>I ⟨h0,h⟩
    clear O I;go_wp2_with fail
    refine X.mono ?_;rintro e w1 ⟨rfl,rfl⟩;go_wp2_with fail
    go_ret;exact⟨rfl,rfl⟩
   .clear O I;go_wp2_with fail
    go_ret;exact⟨rfl,rfl⟩
def levF (ns:List Nd) (i:Int):Int:=if upF ns i 1<0 then -1 else xN (dM ns) (upF ns i 1)
theorem top_len(ns:List Nd):(dM ns).length<=ns.length:=by
 unfold dM jA jP;rw[bNa];exact bJa (eTa _ _) (by rw[fPa];exact aZa _)
theorem aF1(ns:List Nd)(E x:Nat)(i:Int)(w:World)(G:dH w E x ns)(Y:Rise ns) :
 Cl 175 #[.pointer (some ⟨x,0,none⟩),.int .i64 i] w fun e w'=>e=.returned (.int .i64 (levF ns i))/\w=w':=by
 have A:=q_ (aN5 ns E x i 1 w G Y);obtain⟨nv,kv,tv,hv,us,j⟩:=G;have ae:=j.small.1;obtain⟨At,ct,ad,h1,h2,N⟩:=bE (j.rows.own 0 tv _ rfl rfl);have k2:=aA j.blk 2;have Z:=top_len ns;subst ad;have J:=fun x=>aHj (dM ns) x (dM ns).length ct At w N (by omega)
 unfold levF;obtain⟨U,O⟩:=eX (upF ns i 1);rw[O]at A ⊢;have L:=q_ (J U);obtain⟨I,V⟩:=eX (xN (dM ns) U);rw[V]at L ⊢;clear j N J O V Z;by_cases X:U<0
 .rw[bBa X];go_enter func175,ntmps175;go_wp2_with fail
  refine A.mono ?_;rintro e W ⟨rfl,rfl⟩;go_wp2_with fail
  go_ret;exact⟨rfl,rfl⟩
 .rw[bAa X];go_enter func175,ntmps175;go_wp2_with fail
  refine A.mono ?_;rintro e W ⟨rfl,rfl⟩;go_wp2_with fail
  refine L.mono ?_;rintro e W ⟨rfl,rfl⟩;go_wp2_with fail
  go_ret;exact⟨rfl,rfl⟩
def nV (ns:List Nd) (i:Int):List Int:=if 0<=i/\i<(ns.length:Int)then gJ ns i.toNat else[]
theorem aFz(ns:List Nd)(i:Nat):(gJ ns i).length<=ns.length:=by
 unfold gJ jA jP;rw[bNa];exact bJa (eTa _ _) (by rw[fPa];exact aZa _)
theorem aM0(ns:List Nd)(V x:Nat)(i:Int)(w:World)(W:dH w V x ns) :
 Cl 98 #[.pointer (some ⟨x,0,none⟩),.int .i64 i] w fun e w'=>∃v,e=.returned v/\w'.ownsRow w.heap.size 3 1 v (nV ns i).length ((nV ns i).map bL)/\Below w.heap.size w w':=by
 have j:=rA ns V x w W;obtain⟨nv,kv,tv,G,I,A⟩:=W;have ak:=A.small.1;obtain⟨Ak,ck,af,h1,h2,U⟩:=bE A.kids;have k1:=aA A.blk 1;subst af;unfold nV;obtain⟨L,Z⟩:=eX ns.length;by_cases J:0<=i/\i<(ns.length:Int)
 .rw[bBa J];obtain⟨a,rfl⟩:∃a:Nat,i=(a:Int):=⟨i.toNat,by omega⟩
  rw[bMa];have X:a<ns.length:=by omega
  have ae:I.length=ns.length:=by have:=A.rows.len;simpa using this
  have N:I[a]?=some I[a]:=aXa (by omega);obtain⟨u,E⟩:=eX (I[a]);rw[E]at N;have Y:=A.rows.own (a+2) u (gJ ns a) (by simpa using N) (by simp[X]);obtain⟨Au,cu,ag,g1,g2,ac⟩:=bE Y;subst ag;obtain⟨b,ah,hA,hb,hc⟩:=U.2 (by omega);subst hA;have al:w.cell? ⟨b,ah+a,none⟩=some (.slice Au (gJ ns a).length cu):=by
   rw[hc a (by omega)];exact fFa some E
  have am:=aFz ns a;have q:=aDc ((gJ ns a).map bL) (gJ ns a).length cu Au w ac (by omega) (by
   intro u E;obtain⟨y,_,rfl⟩:=List.mem_map.1 E
   rfl)
  have i2:(a:Int)<(L:Int):=by omega
  have i3:¬ (L:Int)<=(a:Int):=by omega
  have i4:¬ L<=a:=by omega
  rw[Z]at j k1;clear A U ac Y hc N E ae J Z X;replace ⟨j,q⟩:=q_2 j q;go_enter func98,ntmps98;go_wp2_with fail
  refine j.mono ?_;rintro e w1 ⟨rfl,rfl⟩;go_wp2_with fail
  refine q.mono ?_;rintro e w2 ⟨v,rfl,G,O⟩;replace ⟨G,O⟩:=q_2 G O;go_wp2_with fail
  go_ret;exact⟨v,rfl,G,O⟩
 .rw[bAa J];clear A U;by_cases h0:i<0
  .go_enter func98,ntmps98;go_wp2_with fail
   go_ret;exact⟨_,rfl,cKa _ _ _ _,bLa _ _⟩
  .have h5:(ns.length:Int)<=i:=by omega
   clear J;replace j:=q_ j;go_enter func98,ntmps98;go_wp2_with fail
   refine j.mono ?_;rintro e w1 ⟨rfl,rfl⟩;go_wp2_with fail
   go_ret;exact⟨_,rfl,cKa _ _ _ _,bLa _ _⟩
structure Cfg.good (c:Cfg) (M:Nat):Prop where
 nodes:∀n∈c.nodes,n.a.ok/\n.name.length<=M
 vips:∀v∈c.vips,v.a.ok
 views:∀v∈c.views,v.a.ok
 s0:c.s0.ok
 s1:c.s1.ok
theorem aHx:zA.ok:=by unfold Adr.ok;decide
theorem aN7{c:Cfg}(h:qF c=0):vG c=0/\zN c.nodes=none/\aBc c=true/\kW yZ c.vips c.vips.length=0/\kW (fun v l=>zP v l (dM c.nodes).length) c.views c.views.length=0:=by
 unfold qF at h;by_cases A:vG c=0
 .rw[bAa (fun j=>j A)]at h;rcases e:zN c.nodes with _|p
  .rw[e]at h;dsimp only at h;by_cases j:aBc c=false
   .rw[bBa j]at h;cases h
   .rw[bAa j]at h;by_cases E:kW yZ c.vips c.vips.length=0
    .rw[bAa (fun I=>I E)]at h;exact⟨A,rfl,by simpa using j,E,h⟩
    .rw[bBa E]at h;exact absurd h E
  .rw[e]at h;dsimp only at h;exfalso;have:p.2≠0:=by
    have J:∀i,qD c.nodes i=some p->p.2≠0:=by
     intro i
     induction i with
     | zero=>intro h;cases h
     | succ i ih =>
      intro h;rw[qD]at h;rcases e1:qD c.nodes i with _|q
      .rw[e1]at h;rcases e2:c.nodes[i]? with _|n
       .rw[e2]at h;cases h
       .rw[e2]at h;dsimp only at h;by_cases G:xJ n (c.nodes.take i)=0
        .rw[bAa (fun j=>j G)]at h;cases h
        .rw[bBa G]at h
         cases h
         exact G
      .rw[e1]at h
       cases h
       exact ih e1
    exact J _ e
   exact this h
 .rw[bBa A]at h;exact absurd h A
def mQ (c:Cfg):Cfg:={ c with nodes:=c.nodes.take 60,vips:=c.vips.take 20,views:=c.views.take 20 }
def zF:Array Value:=#[.slice none 0 0,.slice none 0 0,.slice none 0 0,.int .i64 0,.int .i64 0,.bool false,.int .u64 0,.int .u64 0,.bool false,.int .u64 0,.int .u64 0]
def FwAt (w0 w:World) (z:Nat) (cs:Array Value):Prop:=w.heap[z]?=some (.cells cs 30 (0,0))/\w.heap[z+1]?=some (.cells zF 30 (0,0))/\Below z w0 w
theorem FwAt.set{w:World}{z:Nat}{cs:Array Value}(h:FwAt w0 w z cs)(i:Nat)(u:Value):FwAt w0 (w.setCell ⟨z,i,none⟩ u) z (cs.setIfInBounds i u) :=
 ⟨bP h.1 i u,(cLa _ _ _ (z+1) (by simp)).trans h.2.1,h.2.2.setCell (p:=⟨z,i,none⟩) (aZa _) _⟩
theorem cfew_raw(j A E:Option Addr)(n m l k1 k2 k3:Nat)(I:n<=k1/\k1<=maxLen/\(0<n->∃p,j=some p))(J:m<=k2/\k2<=maxLen/\(0<m->∃p,A=some p))(O:l<=k3/\k3<=maxLen/\(0<l->∃p,E=some p))(F:Value->Value->Value->Array Value)(f0:∀u v x,(F u v x)[0]?=some u)(f1:∀u v x,(F u v x)[1]?=some v)(f2:∀u v x,(F u v x)[2]?=some x)
 (s0:∀u v x y,(F u v x).setIfInBounds 0 y=F y v x) (s1:∀u v x y,(F u v x).setIfInBounds 1 y=F u y x) (s2:∀u v x y,(F u v x).setIfInBounds 2 y=F u v y) (U:∀u v x,(F u v x).size=11) (aw:∀u v x,u.oneCell'=true->v.oneCell'=true->x.oneCell'=true->(F u v x).all (·.oneCell')=true) (w:World) :
 Cl 26 #[.agg (F (.slice j n k1) (.slice A m k2) (.slice E l k3))] w fun r w'=>r=.returned (.agg (F (.slice j (min 60 n) k1) (.slice A (min 20 m) k2) (.slice E (min 20 l) k3)))/\Below w.heap.size w w':=by
 obtain⟨N,hN⟩:=eX (min 60 n);obtain⟨M,hM⟩:=eX (min 20 m);obtain⟨L,hL⟩:=eX (min 20 l);rw[hN,hM,hL];obtain⟨w1,al⟩:=eX ((w.alloc (.cells (F (.slice j n k1) (.slice A m k2) (.slice E l k3)) 30)).alloc (.cells #[.slice none 0 0,.slice none 0 0,.slice none 0 0,.int .i64 0,.int .i64 0,.bool false,.int .u64 0,.int .u64 0,.bool false,.int .u64 0,.int .u64 0] 30));have H:FwAt w w1 w.heap.size (F (.slice j n k1) (.slice A m k2) (.slice E l k3)):=by
  rw[<-al];refine⟨(hRa _ _ w.heap.size (by simp)).trans (aJ _ _ _),?_,bC.alloc (by simp) _⟩;have:=aJ (w.alloc (.cells (F (.slice j n k1) (.slice A m k2) (.slice E l k3)) 30)) 30 zF
  rwa[show(w.alloc (.cells (F (.slice j n k1) (.slice A m k2) (.slice E l k3)) 30)).heap.size=w.heap.size+1 by simp]at this
 obtain⟨z,hz⟩:=eX w.heap.size;rw[hz]at H;replace H:=q_ H;go_enter func26,ntmps26;go_upto_region 1 with fail
 clear al;have t0:=aA H.1 0;rw[f0]at t0;go_upto_if 6 with fail
 go_cut [] (fun wx=>FwAt w wx z (F (.slice j N k1) (.slice A m k2) (.slice E l k3)))
 case first =>
  by_cases hc:60<n
  .obtain⟨⟨Z,po,ps⟩,rfl⟩:=I.2.2 (by omega);obtain rfl:60=N:=by omega
   have V:decide ((60:Int)<(n:Int))=true:=by rw[cBa];omega
   have i1:(60:Int)<=(k1:Int):=by omega
   have G:=q_ (H.set 0 (.slice (some ⟨Z,po,ps⟩) 60 k1));rw[s0]at G;have ai:=bD H.1 0;clear I J O;go_wp2_with fail
   go_meet;exact G
  .obtain rfl:n=N:=by omega
   have V:decide ((60:Int)<(n:Int))=false:=by rw[bEa];omega
   clear I J O;go_wp2_with fail
   go_meet;exact H
 case rest =>
 replace hcut:=q_ hcut;have W:=hcut;clear t0 H hcut;have t1:=aA W.1 1;rw[f1]at t1;go_upto_if 14 with fail
 go_cut [] (fun wx=>FwAt w wx z (F (.slice j N k1) (.slice A M k2) (.slice E l k3)))
 case first =>
  by_cases hc:20<m
  .obtain⟨⟨Z,po,ps⟩,rfl⟩:=J.2.2 (by omega);obtain rfl:20=M:=by omega
   have V:decide ((20:Int)<(m:Int))=true:=by rw[cBa];omega
   have i1:(20:Int)<=(k2:Int):=by omega
   have G:=q_ (W.set 1 (.slice (some ⟨Z,po,ps⟩) 20 k2));rw[s1]at G;have ai:=bD W.1 1;clear I J O;go_wp2_with fail
   go_meet;exact G
  .obtain rfl:m=M:=by omega
   have V:decide ((20:Int)<(m:Int))=false:=by rw[bEa];omega
   clear I J O;go_wp2_with fail
   go_meet;exact W
 case rest =>
 replace hcut:=q_ hcut;have X:=hcut;clear t1 W hcut;have t2:=aA X.1 2;rw[f2]at t2;go_upto_if 22 with fail
 go_cut [] (fun wx=>FwAt w wx z (F (.slice j N k1) (.slice A M k2) (.slice E L k3)))
 case first =>
  by_cases hc:20<l
  .obtain⟨⟨Z,po,ps⟩,rfl⟩:=O.2.2 (by omega);obtain rfl:20=L:=by omega
   have V:decide ((20:Int)<(l:Int))=true:=by rw[cBa];omega
   have i1:(20:Int)<=(k3:Int):=by omega
   have G:=q_ (X.set 2 (.slice (some ⟨Z,po,ps⟩) 20 k3));rw[s2]at G;have ai:=bD X.1 2;clear I J O;go_wp2_with fail
   go_meet;exact G
  .obtain rfl:l=L:=by omega
   have V:decide ((20:Int)<(l:Int))=false:=by rw[bEa];omega
   clear I J O;go_wp2_with fail
   go_meet;exact X
 case rest =>
 replace hcut:=q_ hcut;have Y:=hcut;clear t2 X hcut;go_upto_region 7 with fail
 apply aWa;refine uH rfl 30 (.tmp 1) rfl z rfl (F (.slice j N k1) (.slice A M k2) (.slice E L k3)) _ Y.1 hDa rfl (by rw[U];kernel_rfl) ?_;refine bQ rfl 30 (.tmp 2) (.tmp 27) rfl (z+1) 0 rfl (F (.slice j N k1) (.slice A M k2) (.slice E L k3)) rfl Y.2.1 (by rw[U];exact aZa _) (by rw[U];kernel_rfl) (aw _ _ _ rfl rfl rfl) fun w9 ad g9=>?_;rw[aQ _ _ (by rw[U];rfl)]at ad;have ax:=q_ (Y.2.2.trans (below_grown g9 (by have:=Y.2.2.size;omega) (by omega)));have ae:(loadVar 30 ⟨z+1,0,none⟩).run prog w9=.ok (.agg (F (.slice j N k1) (.slice A M k2) (.slice E L k3))) w9:=by
  simpa using run_loadVar_mid w9 (z+1) 0 30 (F (.slice j N k1) (.slice A M k2) (.slice E L k3)).toList _ (aM ad) hDa rfl (by rw[bUa,U];kernel_rfl)
 clear ad g9 Y;replace ae:=q_ ae;refine bCa ?_;go_simp;go_wp2_with fail
 exact aYa (v:=.agg (F (.slice j N k1) (.slice A M k2) (.slice E L k3))) (by simp[results,results26,asAddr,ae.out,Result.andThen]) rfl ⟨rfl,by rw[hz];exact ax⟩
theorem aH9{f:α->List Value}{size:Nat}(j:∀x,(f x).length=size)(E:0<size){w:World}{G:List α}(h:IsT f size w B A n G)(I:0<n):∃p,A=some p:=by
 obtain⟨b,J,x,rfl,-⟩:=h.at j E I;exact⟨_,rfl⟩
theorem cfew_any(c:Cfg)(w:World)(j A E:Option Addr)(k1 k2 k3:Nat)(L:uV w w.heap.size c j A E k1 k2 k3)(G:c.nodes.length<=k1/\k1<=maxLen)(I:c.vips.length<=k2/\k2<=maxLen)(J:c.views.length<=k3/\k3<=maxLen) :
 Cl 26 #[.agg (cfC c (.slice j c.nodes.length k1) (.slice A c.vips.length k2) (.slice E c.views.length k3))] w fun r w'=>r=.returned (.agg (cfC (mQ c) (.slice j (mQ c).nodes.length k1) (.slice A (mQ c).vips.length k2) (.slice E (mQ c).views.length k3)))/\Below w.heap.size w w':=by
 have N:(mQ c).nodes.length=min 60 c.nodes.length:=bGa;have O:(mQ c).vips.length=min 20 c.vips.length:=bGa;have U:(mQ c).views.length=min 20 c.views.length:=bGa;have q:=cfew_raw j A E c.nodes.length c.vips.length c.views.length k1 k2 k3 ⟨G.1,G.2,aH9 (f:=ndC) (size:=7) (fun _=>rfl) (by decide) L.nodes⟩ ⟨I.1,I.2,aH9 (f:=vpC) (size:=7) (fun _=>rfl) (by decide) L.vips⟩ ⟨J.1,J.2,aH9 (f:=vwC) (size:=5) (fun _=>rfl) (by decide) L.views⟩ (cfC c) (fun _ _ _=>rfl) (fun _ _ _=>rfl) (fun _ _ _=>rfl) (fun _ _ _ _=>rfl) (fun _ _ _ _=>rfl) (fun _ _ _ _=>rfl) (fun _ _ _=>rfl) (fun u v x G I J=>cf_one u v x G I J _ _ _ _ _ _ _ _) w;rw[N,O,U];exact q
theorem uV.few{w:World}{c:Cfg}{G I J:Option Addr}{k1 k2 k3:Nat}(h:uV w w.heap.size c G I J k1 k2 k3):uV w w.heap.size (mQ c) G I J k1 k2 k3:=by
 have E:∀{α:Type} {f:α->List Value} {size:Nat},(∀x,(f x).length=size)->∀{A:Option Addr} {j:List α} (k:Nat),IsT f size w w.heap.size A j.length j->IsT f size w w.heap.size A (j.take k).length (j.take k):=by
  intro α f size O A j k L;by_cases N:k<=j.length
  .have:=L.take O N;rw[bGa,fCa N];exact this
  .rw[bZa (by omega)];exact L
 exact⟨E (f:=ndC) (size:=7) (fun _=>rfl) 60 h.nodes,E (f:=vpC) (size:=7) (fun _=>rfl) 20 h.vips,E (f:=vwC) (size:=5) (fun _=>rfl) 20 h.views⟩
section
section
variable {H:Type} {enc:TypeId×Value->H} {w:World} {spare:Nat->Bool} {held:Bool}
theorem wB{y:DataW H×List MemPlace}(h:DataW.trod enc prog w 0 spare held m 25 [v]=some y):∃n:Nat,v=.int .u64 (n:Int)/\n<18446744073709551616:=by
 obtain⟨n,e,_,j⟩:=gLa hFa h
 cases e
 obtain⟨k,rfl,A⟩:=zV j;exact⟨k,rfl,A⟩
end
end
section
theorem leafsNd:sQ prog 5 93 0=some [(9,0),(3,1),(3,2),(3,3),(4,4),(25,5),(25,6)]:=by kernel_rfl
theorem aP8:prog.cellsOf 93=7:=by kernel_rfl
theorem leafsVp:sQ prog 5 52 0=some [(4,0),(25,1),(25,2),(3,3),(3,4),(3,5),(4,6)]:=by kernel_rfl
theorem aP9:prog.cellsOf 52=7:=by kernel_rfl
theorem leafsVw:sQ prog 5 183 0=some [(4,0),(25,1),(25,2),(3,3),(3,4)]:=by kernel_rfl
theorem aQa:prog.cellsOf 183=5:=by kernel_rfl
def Nd.fits (n:Nd):Prop:=n.a.ok/\n.name.length<=9223372036854775807
def Vp.fits (v:Vp):Prop:=v.a.ok
def Vw.fits (v:Vw):Prop:=v.a.ok
section
variable {H:Type} {enc:TypeId×Value->H} {w:World} {spare:Nat->Bool} {held:Bool}
theorem open_nds{y:DataW H×List MemPlace}(h:DataW.trod enc prog w 0 spare held m 22 [v]=some y) :
 ∃A n c E,v=.slice A n c/\(IsT ndC 7 w w.heap.size A n E/\∀x∈E,Nd.fits x)/\n<=c/\c<=maxLen :=
 uE Nd.fits underlying22 aP8 (by omega) (fun n cs y h W=>by
  have j:=uT cs 5 93 0 _ n y leafsNd (by rw[aP8,dDa,bZa (by omega)];exact h)
  match cs,W with
  | [a,b,c,d,e,f,g],_ =>
   obtain⟨_,_,G⟩:=j 9 0 (by simp);obtain⟨_,_,I⟩:=j 3 1 (by simp);obtain⟨_,_,J⟩:=j 3 2 (by simp);obtain⟨_,_,L⟩:=j 3 3 (by simp);obtain⟨_,_,N⟩:=j 4 4 (by simp);obtain⟨_,_,O⟩:=j 25 5 (by simp);obtain⟨_,_,U⟩:=j 25 6 (by simp);simp only[dBa,dDa,cSa,dVa]at G I J L N O U;obtain⟨s,X,_,V⟩:=DataW.trod_string underlying9 G
   cases X
   obtain⟨k,rfl,_⟩:=rT I;obtain⟨u,rfl,_⟩:=rT J;obtain⟨x,rfl,_⟩:=rT L;obtain⟨Y,rfl⟩:=uQ N;obtain⟨Z,rfl,h1⟩:=wB O;obtain⟨lo,rfl,h2⟩:=wB U;refine⟨⟨s.data.toList,k,u,x,⟨Y,Z,lo⟩⟩,?_,⟨h1,h2⟩,?_⟩
   .show _=[Value.string (str s.data.toList),_,_,_,_,_,_]
    rw[show str s.data.toList=s by cases s;rfl]
   .simp only;rw[bUa];unfold maxLen at V;exact V) h
theorem open_vps{y:DataW H×List MemPlace}(h:DataW.trod enc prog w 0 spare held m 23 [v]=some y) :
 ∃A n c E,v=.slice A n c/\(IsT vpC 7 w w.heap.size A n E/\∀x∈E,Vp.fits x)/\n<=c/\c<=maxLen :=
 uE Vp.fits underlying23 aP9 (by omega) (fun n cs y h V=>by
  have j:=uT cs 5 52 0 _ n y leafsVp (by rw[aP9,dDa,bZa (by omega)];exact h)
  match cs,V with
  | [a,b,c,d,e,f,g],_ =>
   obtain⟨_,_,G⟩:=j 4 0 (by simp);obtain⟨_,_,I⟩:=j 25 1 (by simp);obtain⟨_,_,J⟩:=j 25 2 (by simp);obtain⟨_,_,L⟩:=j 3 3 (by simp);obtain⟨_,_,N⟩:=j 3 4 (by simp);obtain⟨_,_,O⟩:=j 3 5 (by simp);obtain⟨_,_,U⟩:=j 4 6 (by simp);simp only[dBa,dDa,cSa,dVa]at G I J L N O U;obtain⟨W,rfl⟩:=uQ G;obtain⟨X,rfl,Y⟩:=wB I;obtain⟨Z,rfl,h2⟩:=wB J;obtain⟨p,rfl,_⟩:=rT L;obtain⟨q,rfl,_⟩:=rT N;obtain⟨k,rfl,_⟩:=rT O;obtain⟨b,rfl⟩:=uQ U;exact⟨⟨⟨W,X,Z⟩,p,q,k,b⟩,rfl,Y,h2⟩) h
theorem open_vws{y:DataW H×List MemPlace}(h:DataW.trod enc prog w 0 spare held m 24 [v]=some y) :
 ∃A n c E,v=.slice A n c/\(IsT vwC 5 w w.heap.size A n E/\∀x∈E,Vw.fits x)/\n<=c/\c<=maxLen :=
 uE Vw.fits underlying24 aQa (by omega) (fun n cs y h O=>by
  have j:=uT cs 5 183 0 _ n y leafsVw (by rw[aQa,dDa,bZa (by omega)];exact h)
  match cs,O with
  | [a,b,c,d,e],_ =>
   obtain⟨_,_,G⟩:=j 4 0 (by simp);obtain⟨_,_,I⟩:=j 25 1 (by simp);obtain⟨_,_,J⟩:=j 25 2 (by simp);obtain⟨_,_,L⟩:=j 3 3 (by simp);obtain⟨_,_,N⟩:=j 3 4 (by simp);simp only[dBa,dDa,cSa,dVa]at G I J L N;obtain⟨U,rfl⟩:=uQ G;obtain⟨V,rfl,W⟩:=wB I;obtain⟨X,rfl,Y⟩:=wB J;obtain⟨p,rfl,_⟩:=rT L;obtain⟨q,rfl,_⟩:=rT N;exact⟨⟨⟨U,V,X⟩,p,q⟩,rfl,W,Y⟩) h
end
theorem aS7{w:World}{j E:Option Addr}{I L k1 k2 k3:Nat}{N:List Nd}{O:List Vp}{U:List Vw}{f d:Int}{a a':Bool}{b e G e':Int}
 (Z:IsT ndC 7 w w.heap.size j I N/\∀x∈N,Nd.fits x) (h2:IsT vpC 7 w w.heap.size A J O/\∀x∈O,Vp.fits x) (h3:IsT vwC 5 w w.heap.size E L U/\∀x∈U,Vw.fits x)
 (g1:(Lit.int .u64 b).wf=true) (g2:(Lit.int .u64 e).wf=true) (g3:(Lit.int .u64 G).wf=true) (g4:(Lit.int .u64 e').wf=true) :
 ∃c:Cfg,uV w w.heap.size c j A E k1 k2 k3/\c.good 9223372036854775807/\c.nodes.length=I/\c.vips.length=J/\c.views.length=L /\
  #[.slice j I k1,.slice A J k2,.slice E L k3,.int .i64 f,.int .i64 d,.bool a,.int .u64 b,.int .u64 e,.bool a',.int .u64 G,.int .u64 e']=cfC c (.slice j c.nodes.length k1) (.slice A c.vips.length k2) (.slice E c.views.length k3):=by
 obtain⟨b,rfl,ah⟩:=zV g1;obtain⟨e,rfl,ai⟩:=zV g2;obtain⟨G,rfl,aj⟩:=zV g3;obtain⟨e',rfl,ak⟩:=zV g4;obtain⟨W,al⟩:=Z;obtain⟨X,am⟩:=h2;obtain⟨Y,an⟩:=h3;obtain rfl:=W.1;obtain rfl:=X.1;obtain rfl:=Y.1;exact⟨⟨N,O,U,f,d,⟨a,b,e⟩,⟨a',G,e'⟩,false,false⟩,⟨W,X,Y⟩,⟨fun n hn=>al n hn,fun v V=>am v V,fun v V=>an v V,⟨ah,ai⟩,⟨aj,ak⟩⟩,rfl,rfl,rfl,rfl⟩
end
theorem aSe {n:Nd} {l:List Nd} (h:sJ n l=0):1≤n.kind∧n.kind≤4∧n.above<(l.length:Int):=by
 unfold sJ at h;split at h
 ·cases h
 ·rename_i G;split at h
  ·cases h
  ·split at h
   ·cases h
   ·rename_i A;rw [not_or,not_or] at G;refine ⟨by omega,by omega,?_⟩;by_cases E:n.kind=1
    ·have:n.above=-1:=by
      by_cases e:n.above=-1
      ·exact e
      ·exact absurd (.inl ⟨E,e⟩) A
     omega
    ·rcases Int.lt_or_le n.above (l.length:Int) with j|j
     ·exact j
     ·exact absurd (.inr ⟨by omega,.inr j⟩) A
def aH0 (l:List Nd) (w w':World) (e:Ending):Prop :=
 Below w.heap.size w w'∧((∃p,zN l=some p∧0<p.2∧e=.returned (.tuple #[.pointer none,.int .i64 (p.1:Int),.int .i64 (p.2:Int)]))∨(zN l=none∧∃x,e=.returned (.tuple #[.pointer (some ⟨x,0,none⟩),.int .i64 0,.int .i64 0])∧dH w' w.heap.size x l))
theorem tnew_any (l:List Nd) (k cap:Nat) (A:Option Addr) (w:World) (hl:IsT ndC 7 w w.heap.size A k l) (dl:k≤cap) (_hcm:cap≤maxLen) (hk:k≤1099511627776) (a6:∀x∈l,x.name.length≤9223372036854775807) :
 Cl 63 #[.slice A k cap] w fun e w'=>aH0 l w w' e:=by
 have br:=hl.1;obtain ⟨w1,bj⟩:=eX (w.alloc (.cells #[.slice none 0 0,.slice none 0 0,.slice none 0 0,.slice none 0 0] 170));have E:Hid (Below w.heap.size w w1):=q_ (bj▸(Below.refl _ _).alloc (Nat.le_refl _) _);have hg:=bN bj;have aw:dH w1 w.heap.size w.heap.size (l.take 0):=by
  refine ⟨_,_,_,_,[],hg,Nat.le_refl _,World.ownsRow_nil _ _ _ _,World.ownsRow_nil _ _ _ _,⟨rfl,?_,?_⟩,Nat.zero_le _,fun n hn=>by cases hn⟩
  ·intro i v x h1 h2;rcases i with _|_|i
   ·cases h1;cases h2;exact World.ownsRow_nil _ _ _ _
   ·cases h1;cases h2;exact World.ownsRow_nil _ _ _ _
   ·simp at h1
  ·intro i j v u g h1 h2 h3 h4;rcases i with _|_|i
   ·cases h1;cases h3
   ·cases h1;cases h3
   ·simp at h1
 obtain ⟨b,hb⟩:=eX w.heap.size;unfold aH0;rw [hb] at E aw hl;clear hg;replace aw:=q_ aw;replace hl:=q_ hl;replace a6:=q_ a6;go_enter Tryz.func63,Tryz.ntmps63;go_upto_region 2 with fail
 clear bj;go_wp2_with fail
 go_loopw [2,3,4,6,7,8,13] (fun _ _ _ _ _ _ iv wr=>∃i:Nat,i≤k∧iv=.int .i64 (i:Int)∧qD l i=none∧dH wr b b (l.take i)∧Below b w wr) (fun _ _ _ _ _ _ iv _=>k - (intOf iv).toNat)
 case atStart=>exact ⟨0,by omega,rfl,rfl,aw,E⟩
 case round =>
  obtain ⟨i,hi,rfl,hE,X,J⟩:=hrel;by_cases dk:i<k
  ·have co:(i:Int)<(k:Int):=by omega
   obtain ⟨G,I,n,rfl,dv,ar,V⟩:=IsT.at (f:=ndC) (size:=7) (fun _=>rfl) (by decide) (hl.below J) dk;have cp:=a6 n (List.mem_of_getElem? ar);have bt:Hid ((l.take i).length=i):=q_ (by rw [List.length_take];omega);have cq:Hid (l.take i++[n]=l.take (i+1)):=q_ (by rw [List.take_add_one,ar];rfl);have dn:=wI i (by omega);have qr:=q_ (fun (w':World) (cj:IsT ndC 7 w' w'.heap.size (some ⟨G,I,none⟩) i (l.take i))=>aF8 n (l.take i) i cap (some ⟨G,I,none⟩) w' cj (by omega) cp);have qp:=q_ (fun (w':World) (ck:dH w' b b (l.take i))=>tput_any n (l.take i) w' b b ck);have W:=q_ (fun hb=>aSm hE ar hb);have ae:=q_ (fun hb=>aSk hE ar hb);unfold xJ at W ae;obtain ⟨R,L⟩:=eX (sJ n (l.take i));have bc:=q_ (fun (h:R=0)=>aSe (L.trans h));rw [L] at W ae qr;rw [bt] at bc W ae qp;clear hE ar L;obtain ⟨nm,N,ab,wt,⟨v6,a7,lo⟩⟩:=n;have y0:wr.cell? ⟨G,I+i*7,none⟩=some (.string (str nm)):=V 0 _ rfl;have y1:wr.cell? ⟨G,I+i*7+1,none⟩=some (.int .i64 N):=V 1 _ rfl;have y2:wr.cell? ⟨G,I+i*7+2,none⟩=some (.int .i64 ab):=V 2 _ rfl;have y3:wr.cell? ⟨G,I+i*7+3,none⟩=some (.int .i64 wt):=V 3 _ rfl;have y4:wr.cell? ⟨G,I+i*7+4,none⟩=some (.bool v6):=V 4 _ rfl;have y5:wr.cell? ⟨G,I+i*7+5,none⟩=some (.int .u64 (a7:Int)):=V 5 _ rfl;have y6:wr.cell? ⟨G,I+i*7+6,none⟩=some (.int .u64 (lo:Int)):=V 6 _ rfl;unfold ndA at qr qp;dsimp only at qr qp bc W ae;clear V;have dp:=J.size;replace X:=q_ X;replace J:=q_ J;go_upto_region 4 with fail
   apply wp_region_lit;iterate 3 refine pS ?_
   refine aGg rfl rfl rfl 93 _ (aCm _ rfl) 7 6 rfl rfl (.int .i64 (i:Int)) (fun _=>rfl) (.tmp 17) rfl _ (fun _=>rfl) (fun _=>rfl) rfl (by kernel_rfl) (aB2 (str nm) N ab wt v6 (a7:Int) (lo:Int)) ?_;intro w4 ao ak eb;refine wpList_nil ?_;go_simp;have az:dH w4 b b (l.take i):=by
    obtain ⟨nv,kv,Y,Z,us,h⟩:=X.out;exact ⟨nv,kv,Y,Z,us,h.on ak⟩
   have bu:=q_ ((tw J ak));clear y0 y1 y2 y3 y4 y5 y6 ak X J;replace ao:=q_ ao;replace az:=q_ az;go_upto_region 5 with fail
   have bw:=aL ao;refine rX (Below w4.heap.size) ?_;intro w5 av;have bd:=q_ (aC av bw ao);have ze:=av.size;have a0:dH w5 b b (l.take i):=by
    obtain ⟨nv,kv,Y,Z,us,h⟩:=az.out;exact ⟨nv,kv,Y,Z,us,h.on av⟩
   have be:=q_ ((tw bu av));have lz:=fun l:bU (Below w4.heap.size) w5=>aA (aC l.hk bw bd)
   have hq:∀w':World,Below w4.heap.size w5 w'→Cl 105 #[.agg #[.string (str nm),.int .i64 N,.int .i64 ab,.int .i64 wt,.bool v6,.int .u64 (a7:Int),.int .u64 (lo:Int)],.slice (some ⟨G,I,none⟩) i cap] w' fun e w6=>e=.returned (.int .i64 (R:Int))∧Below w'.heap.size w' w6:=by
    intro w' h;refine qr w' ?_;have af:=tw be h;have h2:=IsT.take (f:=ndC) (size:=7) (fun _=>rfl) (hl.below af) (show i≤k by omega);exact ⟨h2.1,h2.2.more (by have:=af.size;omega)⟩
   clear ao az bu av;replace a0:=q_ a0;replace hq:=q_ hq;have dr:i≤cap:=by omega
   refine xS (Below w4.heap.size) 0 4 2 ?_;simp only [dA,dC,dD];iterate 4 refine qX ?_
   refine aN ?_;clear lz;refine fS 4 rfl fun K hK=>?_;go_simp;go_at_call 105;refine (hq w5 (Below.refl _ _)).mono ?_;rintro e w6 ⟨rfl,al⟩;refine hK _ _ (al.mono (by omega)) ?_;clear hK K;refine xM 5 rfl ?_;refine fD ?_;have O:=q_ (aC al (by omega) bd);have ds:=al.size;have a2:dH w6 b b (l.take i):=by
    obtain ⟨nv,kv,Y,Z,us,h⟩:=a0.out;exact ⟨nv,kv,Y,Z,us,h.on al⟩
   have af:=q_ ((tw be al));clear bd a0 be al hq;replace a2:=q_ a2;by_cases L:R=0
   case neg =>
    have bx:=q_ (W (by rw [if_pos L];exact L));rw [if_pos L] at bx;have dt:((R:Int) != 0)=true:=by rw [bne_iff_ne];omega
    have c1:0<R:=by omega
    go_wp2_with fail
    go_ret3;exact ⟨af,.inl ⟨i,R,bx,c1,rfl⟩⟩
   case pos =>
   have bf:=bc L;subst L;have U:=W.out;have hN:=ae.out;clear W ae;rw [if_neg (by simp)] at U hN;obtain ⟨nv,kv,Y,Z,us,hC⟩:=a2.out;have bz:=aA hC.blk 0;have b0:=aA hC.blk 2;have b6:=aA hC.blk 3;have c2:=aA O 1;obtain ⟨An,cn,de,-,-,-⟩:=bE hC.nodes;obtain ⟨At,ct,df,-,-,-⟩:=bE (hC.rows.own 0 Y _ rfl rfl);obtain ⟨Ah,ch,dg,-,-,-⟩:=bE (hC.rows.own 1 Z _ rfl rfl);subst de df dg;clear hC;rw [bt.out] at bz;obtain ⟨NT,dh⟩:∃n,(dM (l.take i)).length=n:=⟨_,rfl⟩
   obtain ⟨NH,di⟩:∃n,(fM (l.take i)).length=n:=⟨_,rfl⟩
   rw [dh] at b0 U hN;rw [di] at b6 U hN;obtain ⟨b1,b9⟩:∃c,decide (1024≤(i:Int))=c:=⟨_,rfl⟩
   obtain ⟨b2,cc⟩:∃c,(N == 1)=c:=⟨_,rfl⟩
   obtain ⟨b3,ce⟩:∃c,decide (4≤(NT:Int))=c:=⟨_,rfl⟩
   obtain ⟨b4,ak⟩:∃c,(N == 4)=c:=⟨_,rfl⟩
   obtain ⟨b5,cg⟩:∃c,decide (512≤(NH:Int))=c:=⟨_,rfl⟩
   obtain ⟨B,E⟩:∃c,(b1 || (b2 && b3) || (b4 && b5))=c:=⟨_,rfl⟩
   have a3:(1024≤i∨N=1∧4≤NT∨N=4∧512≤NH)↔B=true:=by
    rw [←E,←b9,←cc,←ce,←ak,←cg];simp [or_assoc];omega
   replace U:=q_ U;replace hN:=q_ hN;replace a3:=q_ a3;go_upto_region 8 with fail
   go_cut [58] (fun bv wx=>bv=.bool B∧w6=wx)
   case first =>
    cases b1
    ·cases b2
     ·cases b4<;>(simp only [Bool.or_true,Bool.or_false,Bool.and_true,Bool.and_false,Bool.false_or,Bool.true_and,Bool.false_and] at E;subst E;go_wp2_with fail;go_meet;exact ⟨rfl,rfl⟩)
     ·cases b3
      ·cases b4<;>(simp only [Bool.or_true,Bool.or_false,Bool.and_false,Bool.true_or,Bool.false_or,Bool.true_and,Bool.false_and] at E;subst E;go_wp2_with fail;go_meet;exact ⟨rfl,rfl⟩)
      ·(simp only [Bool.or_true,Bool.or_false,Bool.and_true,Bool.and_false,Bool.true_or,Bool.false_or,Bool.true_and] at E;subst E;go_wp2_with fail;go_meet;exact ⟨rfl,rfl⟩)
    ·(simp only [Bool.or_true,Bool.or_false,Bool.and_true,Bool.and_false,Bool.true_or,Bool.false_or,Bool.false_and] at E;subst E;go_wp2_with fail;go_meet;exact ⟨rfl,rfl⟩)
   case rest =>
   obtain ⟨rfl,rfl⟩:=hcut;clear b9 cc ce ak cg E bz b0 b6;have ap:=a3.out;clear a3
   cases B
   case true =>
    have h9:=q_ (U (by rw [if_pos (ap.2 rfl)];decide));rw [if_pos (ap.2 rfl)] at h9;clear U hN;clear ap;go_wp2_with fail
    go_ret3;exact ⟨af,.inl ⟨i,6,h9,by decide,rfl⟩⟩
   case false =>
   have bg:¬(1024≤i∨N=1∧4≤NT∨N=4∧512≤NH):=fun h=>absurd (ap.1 h) (by decide)
   have h9:=q_ (hN (if_neg bg));have c3:i<1024:=Nat.lt_of_not_le fun h=>bg (.inl h)
   have c4:=q_ (qp w6 a2 c3 bf.2.2 ⟨bf.1,bf.2.1⟩);clear U hN ap bg;clear c2;have d0:=aA O 0;have d1:=aA O 1;have d2:=aA O 2;have d3:=aA O 3;have d4:=aA O 4;have d5:=aA O 5;have d6:=aA O 6;go_wp2_with fail
   refine (c4).mono ?_;rintro e w7 ⟨rfl,bh,bi⟩;clear d0 d1 d2 d3 d4 d5 d6;replace bh:=q_ bh;replace bi:=q_ bi;go_wp2_with fail
   refine ⟨⟨i+1,by omega,rfl,h9,by rw [←cq.out];exact bh,af.trans bi⟩,?_⟩
   show k - ((i:Int)+1).toNat<k - ((i:Int)).toNat
   omega
  ·obtain rfl:i=k:=by omega
   have hF:Hid (zN l=none):=q_ (by unfold zN;rw [br];exact hE);have dd:Hid (dH wr b b l):=q_ (by rw [show l.take i=l by rw [←br];exact List.take_length] at X;exact X);have co:¬((i:Int)<(i:Int)):=by omega
   clear hE X;replace J:=q_ J;go_wp2_with fail
   go_ret3;exact ⟨J,.inr ⟨hF,b,rfl,dd⟩⟩
structure VAt (w:World) (base x:Nat) (c:Cfg):Prop where
 mk ::
 h:∃A1 A2 A3 k1 k2 k3 t,w.heap[x]?=some (.cells (cfC c (.slice A1 c.nodes.length k1) (.slice A2 c.vips.length k2) (.slice A3 c.views.length k3)++#[.pointer (some ⟨t,0,none⟩)]) 87 (0,0))/\base<=x /\
  CfgV w base c (cfC c (.slice A1 c.nodes.length k1) (.slice A2 c.vips.length k2) (.slice A3 c.views.length k3))/\dH w base t c.nodes
def aP2 (c:Cfg) (w w':World) (e:Ending):Prop :=
 Below w.heap.size w w'/\((qF c≠0/\e=.returned (.tuple #[.pointer none,.int .i64 (qF c:Int)]))\/(qF c=0/\∃x,e=.returned (.tuple #[.pointer (some ⟨x,0,none⟩),.int .i64 0])/\VAt w' w.heap.size x c))
theorem dH.weak{w:World}{x:Nat}{ns:List Nd}(h:dH w E x ns)(A:base'<=E):dH w base' x ns:=by
 obtain⟨J,L,N,O,U,j⟩:=h;exact⟨J,L,N,O,U,j.blk,by have:=j.hx;omega,jC j.nodes A,jC j.kids A,⟨j.rows.len,fun i v x G I=>jC (j.rows.own i v x G I) A,j.rows.apart⟩,j.small⟩
theorem istW{f:α->List Value}{size:Nat}{w:World}{B':Nat}{j:List α}(h:IsT f size w B A n j)(E:B<=B'):IsT f size w B' A n j:=⟨h.1,h.2.more E⟩
def Kp (lo hi:Nat) (a b:World):Prop:=∀k,lo<=k->k<hi->b.heap[k]?=a.heap[k]?
theorem Kp.trans{A:Nat}{a b c:World}(h:Kp j A a b)(k:Kp j A b c):Kp j A a c:=fun i E G=>(k i E G).trans (h i E G)
theorem Kp.refl(j A:Nat)(a:World):Kp j A a a:=fun _ _ _=>rfl
theorem Kp.of_below{A:Nat}{a b:World}(h:Below B a b)(E:j<=B):Kp A j a b:=fun i _ G=>h.block i (bKa G E)
theorem Kp.xP{A:Nat}{P:Nat->Prop}{a b:World}(h:aV S P a b)(G:j<=S)(I:∀k,A<=k->k<j->¬ P k):Kp A j a b:=fun i J E=>h.block i (bKa E G) (I i J E)
theorem yU{w:World}{size:Nat}{xs:List Value}(h:w.ownsRow j e size v n xs)(G:Kp j w.heap.size w w'):w'.ownsRow j e size v n xs:=by
 refine⟨h.1,h.2.imp id ?_⟩;rintro⟨g,cap,I,J,A,E,L⟩;exact⟨g,cap,I,J,A,(G g A (aL E)).trans E,L⟩
theorem rows_kp{w:World}{xs:List (List Int)}(h:Rows w j vs xs)(A:Kp j w.heap.size w w'):Rows w' j vs xs:=⟨h.len,fun i v x E G=>yU (h.own i v x E G) A,h.apart⟩
theorem aUz{w:World}{x:Nat}{ns:List Nd}(h:dH w E x ns)(A:Kp E w.heap.size w w'):dH w' E x ns:=by
 obtain⟨G,I,J,L,N,j⟩:=h;exact⟨G,I,J,L,N,(A x j.hx (aL j.blk)).trans j.blk,j.hx,yU j.nodes A,yU j.kids A,rows_kp j.rows A,j.small⟩
theorem cfgV_kp{w:World}{c:Cfg}{v:Array Value}(h:CfgV w j c v)(A:Kp j w.heap.size w w'):CfgV w' j c v:=⟨yU h.nodes A,yU h.vips A,yU h.views A,h.arr⟩
theorem VAt.kp{w:World}{x:Nat}{c:Cfg}(h:VAt w j x c)(A:Kp j w.heap.size w w'):VAt w' j x c:=by
 obtain⟨I,J,L,k1,k2,k3,t,E,G,N,O⟩:=h.h;exact⟨⟨I,J,L,k1,k2,k3,t,(A x G (aL E)).trans E,G,cfgV_kp N A,aUz O A⟩⟩
def VIn (w:World) (lo hi x:Nat) (c:Cfg):Prop:=∃w0,w0.heap.size=hi/\VAt w0 lo x c/\Kp lo hi w0 w
theorem VIn.mk{w:World}{x:Nat}{c:Cfg}(h:VAt w j x c):VIn w j w.heap.size x c:=⟨w,rfl,h,Kp.refl _ _ _⟩
theorem VIn.at{w:World}{A x:Nat}{c:Cfg}(h:VIn w j A x c):VAt w j x c:=by
 obtain⟨w0,E,G,I⟩:=h;subst E;exact G.kp I
theorem VIn.keep{w:World}{A x:Nat}{c:Cfg}(h:VIn w j A x c)(E:Kp j A w w'):VIn w' j A x c:=by
 obtain⟨w0,G,I,J⟩:=h;exact⟨w0,G,I,J.trans E⟩
theorem VIn.x{w:World}{A x:Nat}{c:Cfg}(h:VIn w j A x c):j<=x/\x<A:=by
 obtain⟨w0,E,G,L⟩:=h;obtain⟨N,O,U,k1,k2,k3,t,I,J,V,W⟩:=G.h;exact⟨J,E▸aL I⟩
end Go.Proofs.YtpcifakangbpaaaGreat
