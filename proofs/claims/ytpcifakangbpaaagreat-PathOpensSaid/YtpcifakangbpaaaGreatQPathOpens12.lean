/- Parts of the proof of PathOpens: contracts of functions of the program. No condition but those that each theorem names. -/
import Derived.Test.YtpcifakangbpaaaGreatQPathOpens11
set_option linter.unusedVariables false
set_option linter.unusedSimpArgs false
set_option maxRecDepth 100000
set_option maxHeartbeats 16000000
namespace Go.Proofs.YtpcifakangbpaaaGreat
open Go.RowKit Go.ChangeShapes Go.WideShapes Go.ChangeAt Go.Deep Go.Proofs.Tryz
variable {R xs:List UInt8}{B E J N O S V b base' c f fuel g i j k m n s sd sz:Nat}{Q:Exit->Act->World->Prop}{d w' w0:World}{u v z:Value}{T e t:TypeId}{A:Option Addr}{h os:List Nat}{F:List UInt8->Option Nat}{p:List Nat×List Bool}{a:Act}{α:Type}{H l:List Int}{o:Oper}{G:Array Oper}{K:Act->World->Prop}{y:Array Value}{vs:List Value}{L:List Oper}{I:Bool}{U W Y aa:List (Int×List UInt8)}{P:Program}
theorem aXe(N:Nat)(l:List UInt8):∀k,tot false (beB N (2*k)++l)=(splitN N k).sum+tot false l
 | 0=>by simp[beB,splitN]
 | k+1=>by
  rw[show 2*(k+1)=2*k+1+1 by omega];simp only[beB,splitN,List.sum_cons,eNa,tot,Bool.not_false,jHa,eAa,hYa,jEa];rw[aXe N l k,cGa,cGa];have e:65536 ^ k=256 ^ (2*k):=by rw[Nat.pow_mul]
  rw[e,gUa,<-Nat.div_div_eq_div_mul];generalize N / 256 ^ (2*k)=q;omega
theorem aXf(a b:List UInt8)(h:a.length % 2=0):tot false (a++b)=tot false a+tot false b:=by
 rw[qB,bWa (by omega)]
 rfl
theorem tot_setB(xs:List UInt8)(p:Nat)(j:List UInt8)(A:p % 2=0)(G:j.length % 2=0)(J:p+j.length<=xs.length):tot false (dJ xs p j)+tot false ((xs.drop p).take j.length)=tot false xs+tot false j:=by
 have E:(xs.take p).length=p:=by rw[bGa];omega
 have I:tot false xs=tot false (xs.take p)+(tot false ((xs.drop p).take j.length)+tot false (xs.drop (p+j.length))):=by
  conv=>lhs;rw[<-dHa p xs]
  rw[aXf _ _ (by rw[E];exact A)]
  congr 1
  conv=>lhs;rw[<-dHa j.length (xs.drop p)]
  rw[aXf _ _ (by rw[bGa,cCa];omega),List.drop_drop]
 unfold dJ;rw[aXf _ _ (by rw[E];exact A),aXf _ _ G,I];omega
theorem aXx(J:Bool)(j sz:Nat):∃C,(j % 256<=C)/\∀G A I E:Nat,tot false (kY J G A I E j sz)=(gH J G A).sum+(gH J I E).sum+C:=by
 rcases J with _|_
 .refine⟨tot false ([0,UInt8.ofNat j]++beB sz 2),?_,fun G A I E=>?_⟩
  .simp only[eNa,cVa,tot];have:(UInt8.ofNat j).toNat=j % 256:=cGa;simp[this]
  .unfold kY gH;rw[bAa (by simp),bAa (by simp),bAa (by simp),eDa,eDa,aXe A _ 2,aXe E _ 2];omega
 .refine⟨tot false (beB sz 4++[0,0,0,UInt8.ofNat j]),?_,fun G A I E=>?_⟩
  .rw[aXf _ _ (by rw[aR])];simp only[tot];have:(UInt8.ofNat j).toNat=j % 256:=cGa;simp[this]
  .unfold kY gH kR;rw[bBa rfl,bBa rfl,bBa rfl];simp only[nS,jFa,List.flatMap_nil,ePa,eDa,List.sum_append];rw[aXe G _ 4,aXe A _ 4,aXe I _ 4,aXe E _ 4];omega
theorem tJ(j:Bool)(A E:Nat):(gH j A E).length=if j=true then 8 else 2:=by
 unfold gH;split
 .rw[bHa,jX,jX]
 .rw[jX]
theorem aCk(j:Bool)(A E:Nat):∀x∈gH j A E,x<=65535:=by
 unfold gH;split
 .intro x G;rcases List.mem_append.1 G with h|h
  .exact aBd _ _ x h
  .exact aBd _ _ x h
 .exact aBd _ _
def whR (udp:Bool):Nat:=if udp=true then 6 else 16
def aXd (udp:Bool) (R:List UInt8) (s port:Nat) (fs ts:List Nat):List UInt8 :=
 if udp=true/\beN R 6 2=0 then dJ R (2*s) (beB port 2)
 else dJ (dJ R (2*s) (beB port 2)) (whR udp) (beB (if udp=true/\gZ (beN R (whR udp) 2) (fs++[beN R (2*s) 2]) (ts++[port])=0 then 65535 else gZ (beN R (whR udp) 2) (fs++[beN R (2*s) 2]) (ts++[port])) 2)
theorem aXk(j:Bool)(R:List UInt8)(s E:Nat)(G I:List Nat)(N:s<=1)(O:whR j+2<=R.length) :
 (aXd j R s E G I).length=R.length/\∀i,i≠2*s->i≠2*s+1->i≠whR j->i≠whR j+1->(aXd j R s E G I)[i]?=R[i]?:=by
 have W:6<=whR j:=by unfold whR;split<;>omega
 have A:(dJ R (2*s) (beB E 2)).length=R.length:=gM _ _ _ (by rw[aR];omega);unfold aXd;split
 .exact⟨A,fun i J L _ _=>nW _ _ _ (by rw[aR];omega) i (by rw[aR];omega)⟩
 .refine⟨by rw[gM _ _ _ (by rw[aR,A];omega),A],fun i J L U V=>?_⟩;rw[nW _ _ _ (by rw[aR,A];omega) i (by rw[aR];omega),nW _ _ _ (by rw[aR];omega) i (by rw[aR];omega)]
theorem aYd(A:Bool)(R:List UInt8)(s j:Nat)(E G:List Nat)(I:s<=1)(J:whR A+2<=R.length)(V:j<=65535) :
 beN (aXd A R s j E G) (2*s) 2=j/\beN (aXd A R s j E G) (2 - 2*s) 2=beN R (2 - 2*s) 2:=by
 have W:6<=whR A:=by unfold whR;split<;>omega
 have O:=aXk A R s j E G I J;have U:(dJ R (2*s) (beB j 2)).length=R.length:=gM _ _ _ (by rw[aR];omega);refine⟨?_,jH _ _ _ _ fun i L N=>vB (O.2 i (by omega) (by omega) (by omega) (by omega))⟩;unfold aXd;split
 .exact aJz _ _ _ (by omega) (by omega)
 .rw[jH _ (dJ R (2*s) (beB j 2)) _ _ fun i L N=>vM _ _ _ (by rw[aR,U];omega) i (by rw[aR];omega)];exact aJz _ _ _ (by omega) (by omega)
theorem aX3(j:Bool)(R:List UInt8)(s A:Nat)(E G:List Nat)(hs:s<=1)(hl:whR j+2<=R.length)(hp:A<=65535)(P W:Nat)(Y:E.length=G.length)(Z:∀x∈E,x<=65535)(hP:W+E.sum=P+G.sum) :
 (j=true->beN R 6 2=0->beN (aXd j R s A E G) 6 2=0) /\
 (¬ (j=true/\beN R 6 2=0)->(j=true->beN (aXd j R s A E G) 6 2≠0)/\(W+tot false (aXd j R s A E G)) % 65535=(P+tot false R) % 65535):=by
 have hw:6<=whR j:=by unfold whR;split<;>omega
 have ab:whR j % 2=0:=by unfold whR;split<;>rfl
 have l1:(dJ R (2*s) (beB A 2)).length=R.length:=gM _ _ _ (by rw[aR];omega);have X:beN (dJ R (2*s) (beB A 2)) (whR j) 2=beN R (whR j) 2:=jH _ _ _ _ fun i h1 h2=>vM _ _ _ (by rw[aR];omega) i (by rw[aR];omega)
 constructor
 .rintro rfl L;unfold aXd;rw[bBa ⟨rfl,L⟩];exact X.trans L
 .intro af;unfold aXd;rw[bAa af];obtain⟨c,O⟩:=eX (beN R (whR j) 2);obtain⟨f,U⟩:∃f,beN R (2*s) 2=f:=⟨_,rfl⟩
  have bc:c<65536:=O▸bX R (whR j) 2;have bf:f<65536:=U▸bX R (2*s) 2;rw[O,U];obtain⟨J,V⟩:∃J,gZ c (E++[f]) (G++[A])=J:=⟨_,rfl⟩
  have bc':J<=65535:=V▸aBf _ _ c (by omega);have hm:=aXm (E++[f]) (G++[A]) c (by simp[Y]) (by omega) (by
   intro x hx;rcases List.mem_append.1 hx with h|h
   .exact Z x h
   .rw[List.mem_singleton.1 h];omega)
  rw[V,List.sum_append,List.sum_append,List.sum_singleton,List.sum_singleton]at hm;rw[V];obtain⟨I,N⟩:∃I,(if j=true/\J=0 then 65535 else J)=I:=⟨_,rfl⟩
  rw[N];have b2:I<=65535:=by rw[<-N];split<;>omega
  have m2:I % 65535=J % 65535:=by
   rw[<-N];split
   .rename_i h;rw[h.2]
   .rfl
  have q1:=aK2 R (2*s) A (by omega) (by omega) (by omega);have q2:=aK2 (dJ R (2*s) (beB A 2)) (whR j) I ab (by omega) (by omega);rw[X,O]at q2;rw[U]at q1;refine⟨fun hu=>?_,by omega⟩;subst hu;have:beN (dJ (dJ R (2*s) (beB A 2)) (whR true) (beB I 2)) 6 2=I:=aJz _ _ _ (by omega) (by omega);rw[this,<-N];split
  .omega
  .rename_i h;exact fun L=>h ⟨rfl,L⟩
end Go.Proofs.YtpcifakangbpaaaGreat
