/- Parts of the proof of PathOpens: contracts of functions of the program. No condition but those that each theorem names. -/
import Derived.Test.YtpcifakangbpaaaGreatQPathOpens12
import Derived.Test.YtpcifakangbpaaaGreatQPathOpens15
set_option linter.unusedVariables false
set_option linter.unusedSimpArgs false
set_option maxRecDepth 100000
set_option maxHeartbeats 16000000
namespace Go.Proofs.YtpcifakangbpaaaGreat
open Go.RowKit Go.ChangeShapes Go.WideShapes Go.ChangeAt Go.Deep Go.Proofs.Tryz
variable {R xs:List UInt8}{B E J N O S V b base' c f fuel g i j k m n s sd sz:Nat}{Q:Exit->Act->World->Prop}{d w' w0:World}{u v z:Value}{T e t:TypeId}{A:Option Addr}{h os:List Nat}{F:List UInt8->Option Nat}{p:List Nat×List Bool}{a:Act}{α:Type}{H l:List Int}{o:Oper}{G:Array Oper}{K:Act->World->Prop}{y:Array Value}{vs:List Value}{L:List Oper}{I:Bool}{U W Y aa:List (Int×List UInt8)}{P:Program}
section
variable {P:Program} {ops:Array Oper} {w0:World} {Q:Act->Prop} {a:Act} {op:Oper} {rest:List Oper}
theorem nY(v:Value)(j:Region.wanted op (yielded ops a.tmps)=true)(A:∀l:Later w0,(execOp a.eval op).run P l.w=.ok (.value v) l.w)
 (h:qM P ops w0 Q rest (a.put op.dst v)):qM P ops w0 Q (op :: rest) a:=aD fun K E=>by
 rw[bBa j];refine⟨v,fun l=>?_,E _ h⟩;rw[A l];exact⟨rfl,mG _⟩
theorem jL(w:World)(j:Operand->Value)(ty:TypeId)(x:Operand)(A:op.op=.load ty x)(g:Nat)(E:j x=.pointer (some ⟨g,0,none⟩))(cs:Array Value)(d:TypeDesc)
 (G:w.heap[g]?=some (.cells cs t (0,0))) (I:P.underlying ty=some d) (J:d.isRow=true) (L:(P.info? ty).map (·.size)=some cs.size):(execOp j op).run P w=.ok (.value (.agg cs)) w:=by
 have N:=run_loadVar_mid (P:=P) w g 0 ty cs.toList d (aM G) I J (by rw[L,bUa]);unfold execOp;simp only[A,E,Instr.loadAt,Instr.sureAddr,fJa,fHa,dNa,N]
end
def pkG (v6:Bool) (pr:Int) (sv:Bool) (shi slo:Int) (dv:Bool) (dhi dlo sp dp ttl fl:Int) (er:Bool) (apr:Int) (asv:Bool) (ashi aslo:Int) (adv:Bool) (adhi adlo asp adp sz:Int):Array Value:=#[.bool v6,.int .i64 pr,.bool sv,.int .u64 shi,.int .u64 slo,.bool dv,.int .u64 dhi,.int .u64 dlo,.int .i64 sp,.int .i64 dp,.int .i64 ttl,.int .i64 fl,.bool er,.int .i64 apr,.bool asv,.int .u64 ashi,.int .u64 aslo,.bool adv,.int .u64 adhi,.int .u64 adlo,.int .i64 asp,.int .i64 adp,.int .i64 sz]
theorem neq_pk{op:Oper}(A:Bool)(E:Int)(G:Bool)(I J:Int)(L:Bool)(N O U V W X:Int)(Y:Bool)(Z:Int)(aa:Bool)(ab ac:Int)(ad:Bool)(ae af ag ah sz:Int)
 (j:Operand->Value) (x y:Operand) (ho:op.op=.binOp .neq 48 x y 48) (hx:j x=.agg (pkG A E G I J L N O U V W X Y Z aa ab ac ad ae af ag ah sz)) (hy:j y=.agg (pkG A E G I J L N O U V W X Y Z aa ab ac ad ae af ag ah sz)) (w:World) :
 (execOp j op).run prog w=.ok (.value (.bool false)) w:=by
 unfold execOp;simp only[ho,hx,hy];clear hx hy ho;unfold pkG;simp[go_sem]
section
variable {P:Program} {md:Region.Mode} {Q:Exit->Act->World->Prop} {R:World->World->Prop}
theorem wpF_st(i:Nat){j:Oper}{rest:List Oper}{A:Array Bool}{w:World}(N:L.drop i=j :: rest)(O:Region.ready md L.toArray A=[i])(U:j.guard=none)
 (ty:TypeId) (x y:Operand) (V:j.op=.store ty x y) (g o:Nat) (W:a.eval x=.pointer (some ⟨g,o,none⟩)) (vs:Array Value) (X:a.eval y=.agg vs) {cs:Array Value} {t:TypeId} (E:w.heap[g]?=some (.cells cs t (0,0))) (G:o+vs.size<=cs.size)
 (Y:(P.info? ty).map (·.size)=some vs.size) (Z:vs.all (·.oneCell')=true)
 (h:∀w',w'.heap[g]?=some (.cells (pE cs o vs.toList) t (0,0))->w.grownBy w' (some g)->R w w'/\wpF P md L.toArray Q R fuel (A.setIfInBounds i true) (a.put j.dst undef) w'):wpF P md L.toArray Q R (fuel+1) A a w:=by
 obtain⟨w',e,I,J⟩:=aBe (o:=o) E vs.toList (by simpa using G);refine aK i N O fun K hK=>?_;rw[bBa (by unfold Region.wanted;rw[U])];refine wp_store_mid ty x y V g o vs W X (aAz E G) Y Z ?_;rw[e];exact hK _ _ (h w' I J).1 (h w' I J).2
end
theorem aQr(A:Bool)(E:Int)(G:Bool)(I J:Int)(L:Bool)(N O U V W X:Int)(Y:Bool)(Z:Int)(aa:Bool)(ab ac:Int)(ad:Bool)(ae af ag ah sz:Int):(pkG A E G I J L N O U V W X Y Z aa ab ac ad ae af ag ah sz).all (·.oneCell')=true:=all_oneCell_toArray (by
 intro v j;simp only[bXa,bVa,dTa]at j;rcases j with rfl|rfl|rfl|rfl|rfl|rfl|rfl|rfl|rfl|rfl|rfl|rfl|rfl|rfl|rfl|rfl|rfl|rfl|rfl|rfl|rfl|rfl|rfl<;>rfl)
def IsG (y:Array Value):Prop:=∃(v6:Bool) (pr:Int) (sv:Bool) (shi slo:Int) (dv:Bool) (dhi dlo sp dp ttl:Int) (fl:Nat) (er:Bool) (apr:Int) (asv:Bool) (ashi aslo:Int) (adv:Bool) (adhi adlo asp adp sz:Int),fl<=255/\y=pkG v6 pr sv shi slo dv dhi dlo sp dp ttl fl er apr asv ashi aslo adv adhi adlo asp adp sz
def zB (cs y:Array Value):Prop:=(∃s d f:Nat,f<=255/\y=tcpA cs s d f)\/(∃s d:Nat,y=aAu cs s d)\/∃(qr:Int) (sv:Bool) (sh sl:Int) (dv:Bool) (dh dl sp dp:Int),y=vT cs (tuA qr sv sh sl dv dh dl sp dp)
theorem zB.size{cs:Array Value}(h:zB cs y)(j:cs.size=23):y.size=23:=by
 rcases h with⟨s,d,f,_,rfl⟩|⟨s,d,rfl⟩|⟨A,E,G,I,J,L,N,O,U,rfl⟩
 .unfold tcpA;simp[j]
 .unfold aAu;simp[j]
 .unfold vT;rw[yT _ _ _ (by rw[bQa,j];exact(show 13+9<=23 by omega)),bQa,j]
theorem zB.one{cs:Array Value}(h:zB cs y)(j:cs.all (·.oneCell')=true):y.all (·.oneCell')=true:=by
 rcases h with⟨s,d,f,_,rfl⟩|⟨s,d,rfl⟩|⟨A,E,G,I,J,L,N,O,U,rfl⟩
 .exact one_set (one_set (one_set j _ rfl) _ rfl) _ rfl
 .exact one_set (one_set j _ rfl) _ rfl
 .unfold vT;exact aH1 (one_set j _ rfl) (by simpa using zU A E G I J L N O U)
theorem zB.four{A G:Nat}(h:zB (p4A j A E G sz) y):IsG y:=by
 rcases h with⟨s,d,f,I,rfl⟩|⟨s,d,rfl⟩|⟨J,L,N,O,U,V,W,X,Y,rfl⟩
 .exact⟨false,j,false,0,A,false,0,E,s,d,G,f,false,0,false,0,0,false,0,0,0,0,sz,I,rfl⟩
 .exact⟨false,j,false,0,A,false,0,E,s,d,G,0,false,0,false,0,0,false,0,0,0,0,sz,by omega,rfl⟩
 .exact⟨false,j,false,0,A,false,0,E,0,0,G,0,true,J,L,N,O,U,V,W,X,Y,sz,by omega,rfl⟩
theorem zB.six{A G I:Nat}(h:zB (p6A j A E G I J sz) y):IsG y:=by
 rcases h with⟨s,d,f,L,rfl⟩|⟨s,d,rfl⟩|⟨N,O,U,V,W,X,Y,Z,dp,rfl⟩
 .exact⟨true,j,true,A,E,true,G,I,s,d,J,f,false,0,false,0,0,false,0,0,0,0,sz,L,rfl⟩
 .exact⟨true,j,true,A,E,true,G,I,s,d,J,0,false,0,false,0,0,false,0,0,0,0,sz,by omega,rfl⟩
 .exact⟨true,j,true,A,E,true,G,I,0,0,J,0,true,N,O,U,V,W,X,Y,Z,dp,sz,by omega,rfl⟩
theorem aUc(K:Nat)(xs:List UInt8):wQ K xs<=255:=by
 unfold wQ;split
 .have:=(xs.getD 13 0).toNat_lt;omega
 .omega
def xY (g:Array Value->Array Value):Prop:=(∃s d f:Nat,f<=255/\g=fun cs=>tcpA cs s d f)\/(∃s d:Nat,g=fun cs=>aAu cs s d)\/∃(qr:Int) (sv:Bool) (sh sl:Int) (dv:Bool) (dh dl sp dp:Int),g=fun cs=>vT cs (tuA qr sv sh sl dv dh dl sp dp)
theorem xY.from{g:Array Value->Array Value}(h:xY g)(cs:Array Value):zB cs (g cs):=by
 rcases h with⟨s,d,f,j,rfl⟩|⟨s,d,rfl⟩|⟨A,E,G,I,J,L,N,O,U,rfl⟩
 .exact .inl ⟨s,d,f,j,rfl⟩
 .exact .inr (.inl ⟨s,d,rfl⟩)
 .exact .inr (.inr ⟨A,E,G,I,J,L,N,O,U,rfl⟩)
theorem aDf(E:Bool)(G:Int)(xs j:List UInt8)(X:xs.length<=1099511627776)(Y:j.length<=maxLen) :
 ∃K g,xY g/\∀cs:Array Value,cs.size=23->cs.all (·.oneCell')=true->cs[0]?=some (.bool E)->cs[1]?=some (.int .i64 G)->aVk cs (if E=true then 58 else 1) xs j K (g cs):=by
 by_cases Z:G=6
 .exact⟨_,fun cs=>tcpA cs (kM (jV j xs) xs 0) (kM (jV j xs) xs 2) (wQ (jV j xs) xs),.inl ⟨_,_,_,aUc _ _,rfl⟩,
   fun cs I J L N A P c d w O U V W=>aEi cs I J E L G N _ A P c d xs j w O U V W X Y Z _ rfl _ (fun _=>rfl)⟩
 by_cases aa:G=17
 .exact⟨_,fun cs=>aAu cs (kN (jK (!E) j xs) xs 0) (kN (jK (!E) j xs) xs 2),.inr (.inl ⟨_,_,rfl⟩),
   fun cs I J L N A P c d w O U V W=>aEj cs I J E L G N _ A P c d xs j w O U V W X Y aa _ rfl _ (fun _=>rfl)⟩
 by_cases he:G=(if E=true then 58 else 1)
 .have ha:(uY E j).length<=maxLen:=by
   unfold uY;split
   .exact Y
   .simp[maxLen]
  obtain⟨K1,ty,cd,wd,ds,_,av,hP⟩:=aNe xs (uY E j) X ha;obtain⟨K2,qr,sv,sh,sl,dv,dh,dl,sp,dp,hQ⟩:=aUj E ty ds (by omega);exact⟨_,fun cs=>vT cs (tuA qr dv dh dl sv sh sl dp sp),.inr (.inr ⟨_,_,_,_,_,_,_,_,_,rfl⟩),
   fun cs I J L N A P c d w O U V W=>aK6 cs I J E L G N _ A P c d xs j w O U V W X Y Z aa he K1 ty cd wd ds hP K2 qr sv sh sl dv dh dl sp dp hQ⟩
 .exact⟨14,fun cs=>aAu cs 0 0,.inr (.inl ⟨0,0,rfl⟩),fun cs I J L N A P c d w O U V W=>aHq cs I J E L G N _ A P c d xs j w O U V W X Y Z aa he _⟩
theorem aRs{g:Array Value->Array Value}(h:xY g)(j A E t G sz:Nat)(I:(G:Int)=(t:Int) - 1) :
 (g (p4A j A E t sz))[10]?=some (.int .i64 (t:Int))/\(g (p4A j A E t sz)).setIfInBounds 10 (.int .i64 ((t:Int) - 1))=g (p4A j A E G sz):=by
 rw[<-I];rcases h with⟨s,d,f,_,rfl⟩|⟨s,d,rfl⟩|⟨J,L,N,O,U,V,W,X,Y,rfl⟩
 .exact⟨rfl,rfl⟩
 .exact⟨rfl,rfl⟩
 .exact⟨rfl,rfl⟩
theorem aRt{g:Array Value->Array Value}(h:xY g)(j A E G I t J sz:Nat)(L:(J:Int)=(t:Int) - 1) :
 (g (p6A j A E G I t sz))[10]?=some (.int .i64 (t:Int))/\(g (p6A j A E G I t sz)).setIfInBounds 10 (.int .i64 ((t:Int) - 1))=g (p6A j A E G I J sz):=by
 rw[<-L];rcases h with⟨s,d,f,_,rfl⟩|⟨s,d,rfl⟩|⟨N,O,U,V,W,X,Y,Z,dp,rfl⟩
 .exact⟨rfl,rfl⟩
 .exact⟨rfl,rfl⟩
 .exact⟨rfl,rfl⟩
def PIs (n:Nat) (xs:List UInt8) (K:Nat) (y:Array Value):Prop :=
 ∀(A:Option Addr) (c:Nat) (w:World),IsB w w.heap.size A n xs->n<=c->c<=maxLen->Cl 11 #[.slice A n c] w fun e w'=>mD K y w w' e
theorem zR(h:sF n xs)(N:n<=9000)(s j:Nat)(O:(xs.getD 0 0).toNat % 16*4=s)(U:beN xs 2 2=j)(K:Nat)(g:Array Value->Array Value)(V:xY g)
 (Z:∀cs:Array Value,cs.size=23->cs.all (·.oneCell')=true->cs[0]?=some (.bool false)->cs[1]?=some (.int .i64 ((xs.getD 9 0).toNat:Int))->aVk cs 1 ((xs.take j).drop s) (ps4 (beN xs 12 4) (beN xs 16 4) (xs.getD 9 0).toNat (j - s)) K (g cs)) :
 PIs n xs (if beN xs 6 2 % 16384=0 then K else 21) (g (p4A (xs.getD 9 0).toNat (beN xs 12 4) (beN xs 16 4) (xs.getD 8 0).toNat j)):=by
 have L:=h.is (by omega) s j O U;have g3:=h.h3;have g4:=h.h4;have W:=h.h6;have g7:=h.h7;have gl:=h.len;rw[O]at g3 g4 W;rw[U]at W g7;have b9:=(xs.getD 9 0).toNat_lt;have ad:((xs.take j).drop s).length=j - s:=by rw[cCa,bGa];omega
 by_cases J:0<beN xs 6 2 % 8192\/decide (beN xs 6 2 / 8192 % 2=1)=true
 .have ae:¬ beN xs 6 2 % 16384=0:=by
   rcases J with J|J
   .omega
   .rw[eRa]at J;omega
  rw[bAa ae];exact fun A c w E G I=>aCg n xs (by omega) N h.h2 21 _ (fun h=>absurd h (by omega)) (fun A c w E G I=>aPk n xs _ _ _ _ _ _ _ _ _ _ _ _ L J _ A c w E G I) A c w E G I
 .have h1:beN xs 6 2 % 8192=0:=by omega
  have X:decide (beN xs 6 2 / 8192 % 2=1)=false:=by
   cases h3:decide (beN xs 6 2 / 8192 % 2=1)with
   | false=>rfl
   | true=>exact absurd (.inr h3) J
  rw[h1,X]at L;rw[bEa]at X;rw[bBa (by omega)];have Y:K=0->(g (p4A (xs.getD 9 0).toNat (beN xs 12 4) (beN xs 16 4) (xs.getD 8 0).toNat j)).size=23/\(g (p4A (xs.getD 9 0).toNat (beN xs 12 4) (beN xs 16 4) (xs.getD 8 0).toNat j)).all (·.oneCell')=true :=
   fun _=>⟨(V.from _).size rfl,(V.from _).one (aJf _ _ _ _ _)⟩
  have ag:=Z (p4A (xs.getD 9 0).toNat (beN xs 12 4) (beN xs 16 4) (xs.getD 8 0).toNat j) rfl (aJf _ _ _ _ _) rfl rfl;have e:20+(s - 20)+(j - s)=j:=by omega
  exact fun A c w E G I=>aCg n xs (by omega) N h.h2 K _ Y (fun A c w E G I=>aUa n xs _ _ _ _ _ _ _ _ _ _ L (by omega) (by omega) (bX xs 12 4) (bX xs 16 4) ad K _ (by rw[e];exact ag) Y A c w E G I) A c w E G I
theorem aCc{j:List (Int×List UInt8)}{rest:List UInt8}(h:tF n xs j E rest)(N:n<=9000)(K:Nat)(g:Array Value->Array Value)(O:xY g)
 (hU:∀cs:Array Value,cs.size=23->cs.all (·.oneCell')=true->cs[0]?=some (.bool true)->cs[1]?=some (.int .i64 (E:Int))->aVk cs 58 rest (kR (beN xs 8 8) (beN xs 16 8) (beN xs 24 8) (beN xs 32 8) rest.length E) K (g cs)) :
 PIs n xs (if nZ j=0/\qQ j=false then K else 21) (g (p6A E (beN xs 8 8) (beN xs 16 8) (beN xs 24 8) (beN xs 32 8) (xs.getD 7 0).toNat (40+nK j+rest.length))):=by
 have U:=h.is (by omega);obtain⟨f1,Y,f3,f4,f5,Z,f7,f8⟩:=h.facts;by_cases L:0<nZ j\/qQ j=true
 .have ab:¬ (nZ j=0/\qQ j=false):=by
   rcases L with L|L
   .omega
   .rw[L];exact fun h=>by cases h.2
  rw[bAa ab];exact fun A c w G I J=>aDr n xs (by omega) N Y 21 _ (fun h=>absurd h (by omega)) (fun A c w G I J=>aPm n xs _ _ _ _ _ _ _ j E _ rest U Z L _ A c w G I J) A c w G I J
 .have V:nZ j=0:=by omega
  have W:qQ j=false:=by
   cases h3:qQ j with
   | false=>rfl
   | true=>exact absurd (.inr h3) L
  rw[bBa ⟨V,W⟩];have X:K=0->(g (p6A E (beN xs 8 8) (beN xs 16 8) (beN xs 24 8) (beN xs 32 8) (xs.getD 7 0).toNat (40+nK j+rest.length))).size=23/\(g (p6A E (beN xs 8 8) (beN xs 16 8) (beN xs 24 8) (beN xs 32 8) (xs.getD 7 0).toNat (40+nK j+rest.length))).all (·.oneCell')=true :=
   fun _=>⟨(O.from _).size rfl,(O.from _).one (aJg _ _ _ _ _ _ _)⟩
  have ac:=hU (p6A E (beN xs 8 8) (beN xs 16 8) (beN xs 24 8) (beN xs 32 8) (xs.getD 7 0).toNat (40+nK j+rest.length)) rfl (aJg _ _ _ _ _ _ _) rfl rfl;exact fun A c w G I J=>aDr n xs (by omega) N Y K _ X (fun A c w G I J=>aUb n xs _ _ _ _ _ _ _ j E _ rest U Z f7 V W (by omega) f5 (bX xs 8 8) (bX xs 16 8) (bX xs 24 8) (bX xs 32 8) rfl _ rfl K _ ac X A c w G I J) A c w G I J
theorem aPi(h:sF n xs)(Z:n<=9000)(j:Nat)(E:beN xs 2 2=j)(J:2<=(xs.getD 8 0).toNat) :
 ∃Kp G L,PIs n xs Kp G/\PIs j (jM xs j) Kp L/\(Kp=0->G[10]?=some (.int .i64 ((xs.getD 8 0).toNat:Int))/\G.setIfInBounds 10 (.int .i64 (((xs.getD 8 0).toNat:Int) - 1))=L/\IsG G/\IsG L):=by
 obtain⟨s,I⟩:∃s,(xs.getD 0 0).toNat % 16*4=s:=⟨_,rfl⟩
 obtain⟨ho,hl,h8,am,an⟩:=aKc h s j I E J;have g3:=h.h3;have g4:=h.h4;have O:=h.h6;have g7:=h.h7;have gl:=h.len;rw[I]at g3 g4 O;rw[E]at O g7;have au:((xs.take j).drop s).length=j - s:=by rw[cCa,bGa];omega
 obtain⟨K,g,A,Y⟩:=aDf false ((xs.getD 9 0).toNat:Int) ((xs.take j).drop s) (ps4 (beN xs 12 4) (beN xs 16 4) (xs.getD 9 0).toNat (j - s)) (by omega) (by unfold ps4 maxLen;simp[aR]);have same:∀i,i<20->i≠8->i≠10->i≠11->(jM xs j).getD i 0=xs.getD i 0:=fun i h1 J h3 h4=>vB (am i (by omega) J h3 h4)
 have e0:=same 0 (by omega) (by omega) (by omega) (by omega);have U:=same 9 (by omega) (by omega) (by omega) (by omega);have e2:beN (jM xs j) 2 2=j:=(jH _ _ _ _ fun i _ N=>same i (by omega) (by omega) (by omega) (by omega)).trans E;have e6:beN (jM xs j) 6 2=beN xs 6 2:=jH _ _ _ _ fun i _ N=>same i (by omega) (by omega) (by omega) (by omega)
 have V:beN (jM xs j) 12 4=beN xs 12 4:=jH _ _ _ _ fun i _ N=>same i (by omega) (by omega) (by omega) (by omega)
 have W:beN (jM xs j) 16 4=beN xs 16 4:=jH _ _ _ _ fun i _ N=>same i (by omega) (by omega) (by omega) (by omega)
 have p1:=zR h Z s j I E K g A Y;have X:=zR ho (by omega) s j (by rw[e0];exact I) e2 K g A (by rw[U,V,W,an];exact Y);rw[e6,U,V,W,h8]at X;obtain⟨q1,q2⟩:=aRs A (xs.getD 9 0).toNat (beN xs 12 4) (beN xs 16 4) (xs.getD 8 0).toNat ((xs.getD 8 0).toNat - 1) j (by omega);exact⟨_,_,_,p1,X,fun _=>⟨q1,q2,(A.from _).four,(A.from _).four⟩⟩
theorem aPj{G:List (Int×List UInt8)}{A:Nat}{rest:List UInt8}(h:tF n xs G A rest)(Y:n<=9000)(T:Nat)(Z:40+nK G+rest.length=T)(L:2<=(xs.getD 7 0).toNat) :
 ∃Kp E I,PIs n xs Kp E/\PIs T (jQ xs T) Kp I/\(Kp=0->E[10]?=some (.int .i64 ((xs.getD 7 0).toNat:Int))/\E.setIfInBounds 10 (.int .i64 (((xs.getD 7 0).toNat:Int) - 1))=I/\IsG E/\IsG I):=by
 obtain⟨ho,hl,h7,ad⟩:=aKd h T Z;obtain⟨f1,f2,f3,f4,f5,f6,f7,f8⟩:=h.facts;obtain⟨K,g,j,X⟩:=aDf true (A:Int) rest (kR (beN xs 8 8) (beN xs 16 8) (beN xs 24 8) (beN xs 32 8) rest.length A) (by omega) (by unfold kR maxLen;simp[aR,nS]);have same:∀i,i<40->i≠7->(jQ xs T).getD i 0=xs.getD i 0:=fun i h1 L=>vB (ad i (by omega) L)
 have N:beN (jQ xs T) 8 8=beN xs 8 8:=jH _ _ _ _ fun i _ J=>same i (by omega) (by omega)
 have O:beN (jQ xs T) 16 8=beN xs 16 8:=jH _ _ _ _ fun i _ J=>same i (by omega) (by omega)
 have U:beN (jQ xs T) 24 8=beN xs 24 8:=jH _ _ _ _ fun i _ J=>same i (by omega) (by omega)
 have V:beN (jQ xs T) 32 8=beN xs 32 8:=jH _ _ _ _ fun i _ J=>same i (by omega) (by omega)
 have p1:=aCc h Y K g j X;have W:=aCc ho (by omega) K g j (by rw[N,O,U,V];exact X);rw[N,O,U,V,h7]at W;obtain⟨q1,q2⟩:=aRt j A (beN xs 8 8) (beN xs 16 8) (beN xs 24 8) (beN xs 32 8) (xs.getD 7 0).toNat ((xs.getD 7 0).toNat - 1) (40+nK G+rest.length) (by omega);exact⟨_,_,_,p1,W,fun _=>⟨q1,q2,(j.from _).six,(j.from _).six⟩⟩
def prN (udp:Bool):Nat:=if udp=true then 17 else 6
structure Up (v6 udp:Bool) (ps R:List UInt8) (sp dp fl:Nat):Prop where
 len:whR udp+2<=R.length
 K:if udp=true then jK (!v6) ps R=0 else jV ps R=0
 sp:beN R 0 2=sp
 dp:beN R 2 2=dp
 fl:fl=if udp=true then 0 else(R.getD 13 0).toNat
theorem Up.turn{v6 A:Bool}{N:List UInt8}{sp dp fl:Nat}(h:Up v6 A N R sp dp fl)(L:List UInt8)(he:N.length % 2=0)(af:L.length % 2=0)(ay:tot false L≠0)(E I:List Nat)(al:E.length=I.length)(am:∀x∈E,x<=65535)
 (hP:tot false L+E.sum=tot false N+I.sum) (s G:Nat) (U:s<=1) (hp:G<=65535) :
 Up v6 A L (aXd A R s G E I) (if s=0 then G else sp) (if s=0 then dp else G) fl:=by
 obtain⟨W,g2⟩:=aXk A R s G E I U h.len;obtain⟨g3,g4⟩:=aYd A R s G E I U h.len hp;obtain⟨g5,g6⟩:=aX3 A R s G E I U h.len hp (tot false N) (tot false L) al am hP;have ap:=h.len;have j:=h.K;have aq:=h.sp;have ar:=h.dp;have V:∀i,i≠2*s->i≠2*s+1->i≠whR A->i≠whR A+1->(aXd A R s G E I).getD i 0=R.getD i 0:=fun i a b c d=>vB (g2 i a b c d)
 refine⟨by rw[W];exact ap,?_,?_,?_,?_⟩
 .rcases A with _|_
  .rw[bAa (by simp)]at j ⊢;unfold jV at j ⊢;have au:whR false=16:=rfl;rw[W,V 12 (by omega) (by omega) (by omega) (by omega)];split at j
   .omega
   rename_i Y;rw[bAa Y];split at j
   .omega
   rename_i Z;rw[bAa Z];split at j
   case isFalse=>omega
   rename_i J;rw[bBa];rw[aXf _ _ he]at J;rw[aXf _ _ af];have O:=aKi.1 J;exact aKi.2 ⟨by rw[(g6 (by simp)).2];exact O.1,by omega⟩
  .rw[bBa rfl]at j ⊢;unfold jK at j ⊢;have w6:whR true=6:=rfl;rw[W,jH (aXd true R s G E I) R 4 2 fun i a b=>V i (by omega) (by omega) (by omega) (by omega)];split at j
   .omega
   rename_i Y;rw[bAa Y];split at j
   .omega
   rename_i Z;rw[bAa Z];split at j
   .rename_i J;rw[bBa (g5 rfl J)];exact j
   .rename_i J;have h5:=g6 (fun hh=>J hh.2);rw[bAa (h5.1 rfl)];split at j
    case isFalse=>omega
    rename_i O;rw[bBa];rw[aXf _ _ he]at O;rw[aXf _ _ af];have h6:=aKi.1 O;exact aKi.2 ⟨by rw[h5.2];exact h6.1,by omega⟩
 .by_cases X:s=0
  .subst X;rw[bBa rfl];exact g3
  .obtain rfl:s=1:=by omega
   rw[bAa (by omega)];exact g4.trans aq
 .by_cases X:s=0
  .subst X;rw[bBa rfl];exact g4.trans ar
  .obtain rfl:s=1:=by omega
   rw[bAa (by omega)];exact g3
 .rw[h.fl];rcases A with _|_
  .have au:whR false=16:=rfl;rw[bAa (by simp),bAa (by simp),V 13 (by omega) (by omega) (by omega) (by omega)]
  .rfl
def upA (udp:Bool) (sp dp fl:Nat) (cs:Array Value):Array Value:=if udp=true then aAu cs sp dp else tcpA cs sp dp fl
theorem Up.fl_le{A E:Bool}{G:List UInt8}{I:Nat}(h:Up A E G R I J j):j<=255:=by
 rw[h.fl];have:=(R.getD 13 0).toNat_lt;split<;>omega
theorem Up.aE6{E G:Bool}{I:List UInt8}{A:Nat}(h:Up E G I R j A J):j<=65535/\A<=65535:=by
 have L:=bX R 0 2;have N:=bX R 2 2;rw[h.sp]at L;rw[h.dp]at N;omega
theorem Up.good{E:Bool}{J:List UInt8}{A G:Nat}(h:Up I E J R j A G):xY (upA E j A G):=by
 have L:=h.fl_le;rcases E with _|_
 .exact .inl ⟨j,A,G,L,rfl⟩
 .exact .inr (.inl ⟨j,A,rfl⟩)
theorem Up.is{A E:Bool}{j:List UInt8}{G I:Nat}(h:Up A E j R G I J)(N:R.length<=4096)(O:j.length<=4096)(cs:Array Value)(U:cs.size=23)(V:cs.all (·.oneCell')=true)(W:cs[0]?=some (.bool A))(X:cs[1]?=some (.int .i64 (prN E:Int)))(L:Int) :
 aVk cs L R j 0 (upA E G I J cs):=by
 have Y:=h.K;have Z:=h.fl;rcases E with _|_
 .exact upis_sg cs U V A W X L R j N O G I J Y h.sp h.dp Z.symm
 .exact upis_dg cs U V A W X L R j N O G I Y h.sp h.dp
theorem beN_setB(xs:List UInt8)(p v:Nat)(k:Nat)(h:p+k<=xs.length)(j:v<256 ^ k):beN (dJ xs p (beB v k)) p k=v:=by
 unfold dJ;exact aEw v k (xs.take p) _ p (by rw[bGa];omega) j
def aXg (H:List UInt8) (s tlo:Nat):List UInt8:=dJ (dJ H (12+4*s) (beB tlo 4)) 10 (beB (gZ (beN H 10 2) (splitN (beN H (12+4*s) 4) 2++[0]) (splitN tlo 2++[0])) 2)
theorem aYb(H:List UInt8)(s j:Nat)(hs:s<=1)(hl:20<=H.length)(ht:j<4294967296) :
 (aXg H s j).length=H.length/\(∀i,i≠10->i≠11->(i<12+4*s\/12+4*s+4<=i)->(aXg H s j)[i]?=H[i]?)/\beN (aXg H s j) (12+4*s) 4=j/\tot false (aXg H s j) % 65535=tot false H % 65535:=by
 have U:(dJ H (12+4*s) (beB j 4)).length=H.length:=gM _ _ _ (by rw[aR];omega);obtain⟨c,J⟩:=eX (beN H 10 2);obtain⟨A,L⟩:∃A,gZ c (splitN (beN H (12+4*s) 4) 2++[0]) (splitN j 2++[0])=A:=⟨_,rfl⟩
 have bc:c<65536:=J▸bX H 10 2;have bc':A<=65535:=L▸aBf _ _ c (by omega);have V:beN (dJ H (12+4*s) (beB j 4)) 10 2=c:=by rw[<-J];exact jH _ _ _ _ fun i N O=>vM _ _ _ (by rw[aR];omega) i (by rw[aR];omega)
 have W:aXg H s j=dJ (dJ H (12+4*s) (beB j 4)) 10 (beB A 2):=by unfold aXg;rw[J,L]
 rw[W];refine⟨by rw[gM _ _ _ (by rw[aR];omega),U],fun i N O h3=>?_,?_,?_⟩
 .rw[nW _ _ _ (by rw[aR];omega) i (by rw[aR];omega),nW _ _ _ (by rw[aR];omega) i (by rw[aR];omega)]
 .rw[jH _ (dJ H (12+4*s) (beB j 4)) _ _ fun i N O=>vM _ _ _ (by rw[aR];omega) i (by rw[aR];omega)];exact beN_setB _ _ _ 4 (by omega) (by omega)
 .have E:=tot_setB H (12+4*s) (beB j 4) (by omega) (by rw[aR]) (by rw[aR];omega);have X:=aK2 (dJ H (12+4*s) (beB j 4)) 10 A rfl (by omega) (by omega);rw[V]at X;rw[aR,<-aXy H (12+4*s) 4 (by omega)]at E;have G:=aXe (beN H (12+4*s) 4) [] 2;have I:=aXe j [] 2;rw[ePa]at G I;rw[show 2*2=4 from rfl]at G I;rw[G,I]at E;have Y:=aXm (splitN (beN H (12+4*s) 4) 2++[0]) (splitN j 2++[0]) c (by simp[jX]) (by omega) (by
   intro x Z;rcases List.mem_append.1 Z with h|h
   .exact aBd _ _ x h
   .rw[List.mem_singleton.1 h];omega)
  rw[L,List.sum_append,List.sum_append,List.sum_singleton]at Y;simp only[tot]at E;omega
structure wE (n:Nat) (xs:List UInt8) (al e:Nat) (udp:Bool) (R:List UInt8) (slo dlo sp dp ttl fl:Nat):Prop where
 ok:sF n xs
 he:(xs.getD 0 0).toNat % 16*4=e
 hal:beN xs 2 2=al
 fr:beN xs 6 2 % 16384=0
 pr:(xs.getD 9 0).toNat=prN udp
 hR:(xs.take al).drop e=R
 sl:beN xs 12 4=slo
 dl:beN xs 16 4=dlo
 tl:(xs.getD 8 0).toNat=ttl
 up:Up false udp (kY false 0 slo 0 dlo (prN udp) (al - e)) R sp dp fl
theorem wE.sizes{e:Nat}{N:Bool}{G U I:Nat}(h:wE n xs j e N R E G O U I V):20<=e/\e<=60/\e<=j/\j<=n/\R.length=j - e/\xs.length=n/\E<4294967296/\G<4294967296/\I<=255:=by
 have J:=h.ok.h3;have A:=h.ok.h6;have L:=h.ok.h7;have W:=h.ok.len;have X:=h.he;have Y:=bX xs 12 4;have Z:=bX xs 16 4;have b3:=(xs.getD 8 0).toNat_lt;rw[h.sl]at Y;rw[h.dl]at Z;rw[h.tl]at b3;rw[X]at J A;rw[h.hal]at A L;refine⟨J,by omega,A,L,?_,W,by omega,by omega,by omega⟩;rw[<-h.hR,cCa,bGa];omega
theorem wE.pis{A e:Nat}{j:Bool}{G I L:Nat}(h:wE n xs A e j R G I J L N E)(Y:n<=4000):PIs n xs 0 (pkA false (prN j) 0 G 0 I J L N E A):=by
 obtain⟨s1,s2,s3,s4,s5,s6,s7,s8,s9⟩:=h.sizes;have Z:(kY false 0 G 0 I (prN j) (A - e)).length=12:=by unfold kY;rw[bAa (by simp)];simp[aR]
 have:=zR h.ok (by omega) e A h.he h.hal 0 (upA j J L E) h.up.good (fun cs U V W O=>by
  rw[h.hR,h.sl,h.dl,h.pr];rw[h.pr]at O;exact h.up.is (by omega) (by omega) cs U V W O 1)
 rw[bBa h.fr,h.pr,h.sl,h.dl,h.tl]at this;rcases j with _|_
 .exact this
 .have X:E=0:=h.up.fl;subst X;exact this
def aXs (xs:List UInt8) (al e:Nat) (udp:Bool) (R:List UInt8) (s tlo port was:Nat):List UInt8:=aXg (xs.take e) s tlo++aXd udp R s port (splitN was 2) (splitN tlo 2)
theorem wE.turn{e:Nat}{A:Bool}{U Z dp ab fl:Nat}(h:wE n xs E e A R O U Z dp ab fl)(s j G:Nat)(V:s<=1)(ht:j<4294967296)(hp:G<=65535) :
 wE E (aXs xs E e A R s j G (if s=0 then O else U)) E e A (aXd A R s G (splitN (if s=0 then O else U) 2) (splitN j 2)) (if s=0 then j else O) (if s=0 then U else j) (if s=0 then G else Z) (if s=0 then dp else G) ab fl:=by
 obtain⟨s1,s2,s3,s4,s5,s6,s7,s8,s9⟩:=h.sizes;obtain⟨J,X⟩:∃J,(if s=0 then O else U)=J:=⟨_,rfl⟩
 rw[X];have ae:(xs.take e).length=e:=by rw[bGa];omega
 obtain⟨g1,g2,g3,g4⟩:=aYb (xs.take e) s j V (by omega) ht;have ao:=(aXk A R s G (splitN J 2) (splitN j 2) V h.up.len).1;obtain⟨I,ak⟩:=eX (aXs xs E e A R s j G J);have W:aXg (xs.take e) s j++aXd A R s G (splitN J 2) (splitN j 2)=I:=ak;have yl:I.length=E:=by rw[<-W,bHa,g1,ae,ao,s5];omega
 have yt:I.take e=aXg (xs.take e) s j:=by rw[<-W,eWa (by omega),bZa (by omega)]
 have yd:I.drop e=aXd A R s G (splitN J 2) (splitN j 2):=by rw[<-W,jLa,eLa (by omega),cVa,g1,ae,Nat.sub_self,dDa]
 have yg:∀i,i<e->I[i]?=(aXg (xs.take e) s j)[i]?:=fun i N=>by rw[<-yt,dKa N]
 have same:∀i,i<e->i≠10->i≠11->(i<12+4*s\/12+4*s+4<=i)->I.getD i 0=xs.getD i 0:=fun i N a b c=>by
  rw[vB (yg i N),vB (g2 i a b c),getD_take xs e i N]
 have ah:beN I (12+4*s) 4=j:=by
  rw[<-g3];exact jH _ _ _ _ fun i a b=>vB (yg i (by omega))
 have ar:sF E I:=h.ok.of_same e E h.he h.hal yl (fun i N=>same i (by omega) (by omega) (by omega) (by omega)) (by rw[yt,g4]);rw[ak];have a0:beN (xs.take e) (12+4*s) 4=J:=by
  rw[nT xs e _ 4 (by omega),<-X];by_cases L:s=0
  .subst L;rw[bBa rfl];exact h.sl
  .obtain rfl:s=1:=by omega
   rw[bAa (by omega)];exact h.dl
 refine⟨ar,by rw[same 0 (by omega) (by omega) (by omega) (by omega)];exact h.he,?_,?_,by rw[same 9 (by omega) (by omega) (by omega) (by omega)];exact h.pr,by rw[bZa (by omega)];exact yd,?_,?_,by rw[same 8 (by omega) (by omega) (by omega) (by omega)];exact h.tl,?_⟩
 .rw[<-h.hal];exact jH _ _ _ _ fun i a b=>same i (by omega) (by omega) (by omega) (by omega)
 .have e6:beN I 6 2=beN xs 6 2:=jH _ _ _ _ fun i a b=>same i (by omega) (by omega) (by omega) (by omega)
  rw[e6];exact h.fr
 .by_cases L:s=0
  .subst L;rw[bBa rfl];exact ah
  .obtain rfl:s=1:=by omega
   rw[bAa (by omega),<-h.sl];exact jH _ _ _ _ fun i a b=>same i (by omega) (by omega) (by omega) (by omega)
 .by_cases L:s=0
  .subst L;rw[bBa rfl,<-h.dl];exact jH _ _ _ _ fun i a b=>same i (by omega) (by omega) (by omega) (by omega)
  .obtain rfl:s=1:=by omega
   rw[bAa (by omega)];exact ah
 .have el:∀a b:Nat,(kY false 0 a 0 b (prN A) (E - e)).length % 2=0:=fun a b=>by unfold kY;rw[bAa (by simp)];simp[aR]
  obtain⟨C,hC,Y⟩:=aXx false (prN A) (E - e);have a1:6<=prN A % 256:=by rcases A with _|_<;>decide
  refine h.up.turn _ (el _ _) (el _ _) (by rw[Y];omega) (splitN J 2) (splitN j 2) (by rw[jX,jX]) (aBd _ _) ?_ s G V hp;rw[Y,Y];have aW:∀N lo,gH false N lo=splitN lo 2:=fun _ _=>rfl
  simp only[aW];rw[<-X];by_cases L:s=0
  .simp only[bBa L];omega
  .simp only[bAa L];omega
theorem aX4{A:List UInt8}{j:List (Int×List UInt8)}{rest G:List UInt8}(h:tF n xs j E rest)(e:Nat)(he:40+nK j=e)(U:A.length=e+rest.length)(hr:G.length=rest.length)
 (I:∀i,i<7->A.getD i 0=xs.getD i 0) (V:(A.take e).drop 40=(xs.take e).drop 40) (W:A.drop e=G):tF (e+rest.length) A j E G:=by
 obtain⟨f1,f2,f3,f4,f5,f6,f7,f8⟩:=h.facts;have ak:=h.len;have X:=I 0 (by omega);have Y:=I 6 (by omega);have L:beN A 4 2=beN xs 4 2:=jH _ _ _ _ fun i _ hi=>I i (by omega)
 have N:=h.hR;unfold jW at N;have Z:(xs.getD 6 0).toNat<=255:=by have:=(xs.getD 6 0).toNat_lt;omega
 obtain⟨au,O,g2,g3,g4,g5,g6,g7⟩:=aDx 9 _ _ [] j E rest N rfl rfl (by simp) Z;rw[cVa]at O;subst O;have hB:(xs.take e).drop 40=tX j (E:Int):=by
  have:=fFa (List.take (nK j)) g3;rw[eWa (by rw[sM];omega),bZa (l:=tX j (E:Int)) (by rw[sM];omega)]at this;rw[<-this,List.drop_take,List.drop_take,hNa]
  congr 1
  omega
 have hy:(A.take (40+beN xs 4 2)).drop 40=tX j (E:Int)++G:=by
  rw[bZa (by omega),<-hB,<-V,<-W]
  conv=>lhs;rw[<-dHa e A]
  rw[gYa (by rw[bGa];omega)]
 have J:jW A=some (j,E,G):=by
  unfold jW;rw[Y,L,hy];have:=aWr (E:Int) G (by omega) (by omega) f8 j [] 9 (by simpa using g4) (by simpa using g7) (.inl rfl) (by omega) rfl;rw[g2,bMa,bMa,cVa]at this;exact this
 refine⟨U,?_,J⟩;unfold jW at J;unfold gL;rw[bAa (by omega),bAa (by rw[X];omega),bAa (by rw[L];omega),J]
 rfl
structure wF (n:Nat) (xs:List UInt8) (acc:List (Int×List UInt8)) (e:Nat) (udp:Bool) (R:List UInt8) (shi slo dhi dlo sp dp ttl fl:Nat):Prop where
 ok:tF n xs acc (prN udp) R
 he:40+nK acc=e
 fr:nZ acc=0
 mo:qQ acc=false
 sh:beN xs 8 8=shi
 sl:beN xs 16 8=slo
 dh:beN xs 24 8=dhi
 dl:beN xs 32 8=dlo
 tl:(xs.getD 7 0).toNat=ttl
 up:Up true udp (kY true shi slo dhi dlo (prN udp) R.length) R sp dp fl
theorem wF.sizes{J:List (Int×List UInt8)}{e:Nat}{L:Bool}{A G I U:Nat}(h:wF n xs J e L R j A E G N O I U):40<=e/\e+R.length<=n/\e+R.length=40+beN xs 4 2/\xs.length=n/\j<18446744073709551616/\A<18446744073709551616/\E<18446744073709551616/\G<18446744073709551616/\I<=255:=by
 obtain⟨f1,f2,f3,f4,f5,f6,f7,f8⟩:=h.ok.facts;have he:=h.he;have V:=h.ok.len;have W:=bX xs 8 8;have X:=bX xs 16 8;have Y:=bX xs 24 8;have Z:=bX xs 32 8;have b5:=(xs.getD 7 0).toNat_lt;rw[h.sh]at W;rw[h.sl]at X;rw[h.dh]at Y;rw[h.dl]at Z;rw[h.tl]at b5;exact⟨by omega,by omega,by omega,V,by omega,by omega,by omega,by omega,by omega⟩
theorem wF.rest{j:List (Int×List UInt8)}{e:Nat}{L U W X:Nat}(h:wF n xs j e I R J L N O U V W X):(xs.take (40+nK j+R.length)).drop (40+nK j)=R:=by
 obtain⟨f1,f2,f3,Z,f5,f6,f7,f8⟩:=h.ok.facts;have A:=h.ok.hR;unfold jW at A;have Y:(xs.getD 6 0).toNat<=255:=by have:=(xs.getD 6 0).toNat_lt;omega
 obtain⟨ah,E,g2,G,g4,g5,g6,g7⟩:=aDx 9 _ _ [] j _ R A rfl rfl (by simp) Y;rw[cVa]at E;subst E;rw[<-Z]at G;have:=fFa (List.drop (nK j)) G;rw[gYa (by rw[sM];omega),eLa (l:=tX j _) (by rw[sM];omega),cVa,List.drop_drop]at this;exact this
theorem wF.pis{e:Nat}{j:Bool}{G I L A:Nat}(h:wF n xs U e j R E G I J L N O A)(hn:n<=4000):PIs n xs 0 (pkA true (prN j) E G I J L N O A (e+R.length:Nat)):=by
 obtain⟨s1,s2,s3,s4,s5,s6,s7,s8,s9⟩:=h.sizes;have ab:(kY true E G I J (prN j) R.length).length=40:=by unfold kY kR;rw[bBa rfl];simp[aR,nS]
 have:=aCc h.ok (by omega) 0 (upA j L N A) h.up.good (fun cs V W X Y=>by
  rw[h.sh,h.sl,h.dh,h.dl];exact h.up.is (by omega) (by omega) cs V W X Y 58)
 rw[bBa ⟨h.fr,h.mo⟩,h.sh,h.sl,h.dh,h.dl,h.tl,h.he]at this;rcases j with _|_
 .exact this
 .have Z:A=0:=h.up.fl;subst Z;exact this
def aXh (H:List UInt8) (s thi tlo:Nat):List UInt8:=dJ H (8+16*s) (beB thi 8++beB tlo 8)
theorem aYc(H:List UInt8)(s j A:Nat)(J:s<=1)(L:40<=H.length)(G:j<18446744073709551616)(I:A<18446744073709551616) :
 (aXh H s j A).length=H.length/\(∀i,(i<8+16*s\/8+16*s+16<=i)->(aXh H s j A)[i]?=H[i]?)/\beN (aXh H s j A) (8+16*s) 8=j/\beN (aXh H s j A) (8+16*s+8) 8=A:=by
 have O:(beB j 8++beB A 8).length=16:=by rw[bHa,aR,aR]
 have E:(H.take (8+16*s)).length=8+16*s:=by rw[bGa];omega
 unfold aXh;refine⟨gM _ _ _ (by omega),fun i N=>nW _ _ _ (by omega) i (by omega),?_,?_⟩
 .unfold dJ;rw[eDa];exact aEw j 8 _ _ _ E G
 .unfold dJ;rw[eDa,<-eDa];exact aEw A 8 _ _ _ (by rw[bHa,E,aR]) I
def aXt (xs:List UInt8) (e:Nat) (udp:Bool) (R:List UInt8) (s thi tlo port whi wlo:Nat):List UInt8:=aXh (xs.take e) s thi tlo++aXd udp R s port (splitN whi 4++splitN wlo 4) (splitN thi 4++splitN tlo 4)
theorem wF.turn{ae:List (Int×List UInt8)}{e:Nat}{E:Bool}{U W X sp dp ah fl:Nat}(h:wF n xs ae e E R U V W X sp dp ah fl)(s j A G:Nat)(Y:s<=1)(aw:j<18446744073709551616)(ax:A<18446744073709551616)(hp:G<=65535) :
 wF (e+R.length) (aXt xs e E R s j A G (if s=0 then U else W) (if s=0 then V else X)) ae e E (aXd E R s G (splitN (if s=0 then U else W) 4++splitN (if s=0 then V else X) 4) (splitN j 4++splitN A 4)) (if s=0 then j else U) (if s=0 then A else V) (if s=0 then W else j) (if s=0 then X else A) (if s=0 then G else sp) (if s=0 then dp else G) ah fl:=by
 obtain⟨s1,s2,s3,s4,s5,s6,s7,s8,s9⟩:=h.sizes;obtain⟨N,aq⟩:∃Z,(if s=0 then U else W)=Z:=⟨_,rfl⟩
 obtain⟨O,ar⟩:∃Z,(if s=0 then V else X)=Z:=⟨_,rfl⟩
 rw[aq,ar];have ak:(xs.take e).length=e:=by rw[bGa];omega
 obtain⟨g1,g2,g3,g4⟩:=aYc (xs.take e) s j A Y (by omega) aw ax;have aa:=(aXk E R s G (splitN N 4++splitN O 4) (splitN j 4++splitN A 4) Y h.up.len).1;obtain⟨I,av⟩:=eX (aXt xs e E R s j A G N O);have ab:aXh (xs.take e) s j A++aXd E R s G (splitN N 4++splitN O 4) (splitN j 4++splitN A 4)=I:=av;have yl:I.length=e+R.length:=by rw[<-ab,bHa,g1,ak,aa]
 have yt:I.take e=aXh (xs.take e) s j A:=by rw[<-ab,eWa (by omega),bZa (by omega)]
 have yd:I.drop e=aXd E R s G (splitN N 4++splitN O 4) (splitN j 4++splitN A 4):=by rw[<-ab,jLa,eLa (by omega),cVa,g1,ak,Nat.sub_self,dDa]
 have yg:∀i,i<e->I[i]?=(aXh (xs.take e) s j A)[i]?:=fun i L=>by rw[<-yt,dKa L]
 have same:∀i,i<e->(i<8+16*s\/8+16*s+16<=i)->I.getD i 0=xs.getD i 0:=fun i L c=>by
  rw[vB (yg i L),vB (g2 i c),getD_take xs e i L]
 have am:beN I (8+16*s) 8=j:=by
  rw[<-g3];exact jH _ _ _ _ fun i a b=>vB (yg i (by omega))
 have an:beN I (8+16*s+8) 8=A:=by
  rw[<-g4];exact jH _ _ _ _ fun i a b=>vB (yg i (by omega))
 have a2:(I.take e).drop 40=(xs.take e).drop 40:=by
  rw[yt];unfold aXh;exact aKx _ _ _ 40 (by rw[bHa,aR,aR];omega) (by rw[bHa,aR,aR];omega)
 have a3:=aX4 h.ok e h.he yl aa (fun i L=>same i (by omega) (by omega)) a2 yd;rw[av];have put:∀p k,(∀i,p<=i->i<p+k->i<8+16*s\/8+16*s+16<=i)->p+k<=40->beN I p k=beN xs p k:=fun p k hc hk=>jH _ _ _ _ fun i a b=>same i (by omega) (hc i a b)
 refine⟨a3,h.he,h.fr,h.mo,?_,?_,?_,?_,by rw[same 7 (by omega) (by omega)];exact h.tl,?_⟩
 .by_cases J:s=0
  .subst J;rw[bBa rfl];exact am
  .obtain rfl:s=1:=by omega
   rw[bAa (by omega),put 8 8 (fun i a b=>by omega) (by omega)];exact h.sh
 .by_cases J:s=0
  .subst J;rw[bBa rfl];exact an
  .obtain rfl:s=1:=by omega
   rw[bAa (by omega),put 16 8 (fun i a b=>by omega) (by omega)];exact h.sl
 .by_cases J:s=0
  .subst J;rw[bBa rfl,put 24 8 (fun i a b=>by omega) (by omega)];exact h.dh
  .obtain rfl:s=1:=by omega
   rw[bAa (by omega)];exact am
 .by_cases J:s=0
  .subst J;rw[bBa rfl,put 32 8 (fun i a b=>by omega) (by omega)];exact h.dl
  .obtain rfl:s=1:=by omega
   rw[bAa (by omega)];exact an
 .have el:∀a b c d:Nat,(kY true a b c d (prN E) R.length).length % 2=0:=fun a b c d=>by unfold kY kR;rw[bBa rfl];simp[aR,nS]
  obtain⟨C,hC,hA⟩:=aXx true (prN E) R.length;have a8:6<=prN E % 256:=by rcases E with _|_<;>decide
  rw[aa];have aW:∀L lo,gH true L lo=splitN L 4++splitN lo 4:=fun _ _=>rfl
  refine h.up.turn _ (el _ _ _ _) (el _ _ _ _) (by rw[hA];omega) (splitN N 4++splitN O 4) (splitN j 4++splitN A 4) (by simp[jX]) (aW N O▸aCk true N O) ?_ s G Y hp;rw[hA,hA];simp only[aW];rw[<-aq,<-ar];by_cases J:s=0
  .simp only[bBa J];omega
  .simp only[bAa J];omega
theorem aQ4(G I:Bool)(R E:List UInt8)(hR:R.length<=4096)(hp:E.length<=4096) :
 (∃K g,K≠0/\xY g/\∀cs:Array Value,cs.size=23->cs.all (·.oneCell')=true->cs[0]?=some (.bool G)->cs[1]?=some (.int .i64 (prN I:Int))->aVk cs (if G=true then 58 else 1) R E K (g cs))\/∃sp dp fl,Up G I E R sp dp fl:=by
 have Y:E.length<=maxLen:=by unfold maxLen;omega
 have Z:R.length<=1099511627776:=by omega
 rcases I with _|_
 .by_cases j:jV E R=0
  .refine .inr ⟨beN R 0 2,beN R 2 2,(R.getD 13 0).toNat,?_,by rw[bAa (by simp)];exact j,rfl,rfl,by rw[bAa (by simp)]⟩;have af:whR false=16:=rfl;unfold jV at j;split at j
   .omega
   .omega
  .exact .inl ⟨jV E R,fun cs=>tcpA cs 0 0 0,j,.inl ⟨0,0,0,by omega,rfl⟩,fun cs J L N O A P c d w U V W X=>aEi cs J L G N 6 O _ A P c d R E w U V W X Z Y rfl _ rfl _ (fun h=>absurd h j)⟩
 .by_cases j:jK (!G) E R=0
  .refine .inr ⟨beN R 0 2,beN R 2 2,0,?_,by rw[bBa rfl];exact j,rfl,rfl,by rw[bBa rfl]⟩;have w6:whR true=6:=rfl;unfold jK at j;split at j
   .omega
   .omega
  .exact .inl ⟨jK (!G) E R,fun cs=>aAu cs 0 0,j,.inr (.inl ⟨0,0,rfl⟩),fun cs J L N O A P c d w U V W X=>aEj cs J L G N 17 O _ A P c d R E w U V W X Z Y rfl _ rfl _ (fun h=>absurd h j)⟩
theorem rJ{K:Nat}{E:Array Value}(h:PIs n xs K y)(j:K≠0):PIs n xs K E:=fun A c w G I J=>(h A c w G I J).mono (by
 rintro e w' ⟨rfl,L⟩;exact⟨by rw[bAa j,bAa j],L⟩)
theorem aHc{w:World}{cs:Array Value}(h:w.heap[g]?=some (.cells cs t (0,0)))(o n:Nat)(l:List Value)(E:(cs.toList.drop o).take n=l):w.rangeAt g o l:=fun j v A=>by
 rw[aA h (o+j)];rw[<-E,gAa]at A;split at A
 .rw[eJa]at A;simpa using A
 .cases A
section
def xU:Array Value:=#[.int .i64 0,.bool false,.int .u64 0,.int .u64 0,.bool false,.int .u64 0,.int .u64 0,.int .i64 0,.int .i64 0]
theorem aLz(o:Oper)(h:o.op=.alloc 46)(ρ:Operand->Value)(w:World):(execOp ρ o).run prog w=.ok (.value (.pointer (some ⟨w.heap.size,0,none⟩))) (w.alloc (.cells xU 46)):=by
 obtain⟨d,j,t,A,E,g⟩:=o;dsimp only at h;subst h
 kernel_rfl
def keyA (er:Bool) (a b:Array Value):Array Value:=if er=true then b else a
section
variable (v6:Bool) (pr:Int) (sv:Bool) (shi slo:Int) (dv:Bool) (dhi dlo sp dp ttl fl:Int) (er:Bool) (apr:Int) (asv:Bool) (ashi aslo:Int) (adv:Bool) (adhi adlo asp adp sz:Int)
theorem key_any(w:World):Cl 70 #[.agg (pkG v6 pr sv shi slo dv dhi dlo sp dp ttl fl er apr asv ashi aslo adv adhi adlo asp adp sz)] w fun e w'=>e=.returned (.agg (keyA er (tuA pr sv shi slo dv dhi dlo sp dp) (tuA apr asv ashi aslo adv adhi adlo asp adp)))/\Below w.heap.size w w':=by
 obtain⟨cs,G⟩:=eX (pkG v6 pr sv shi slo dv dhi dlo sp dp ttl fl er apr asv ashi aslo adv adhi adlo asp adp sz);have Z:cs.size=23:=G▸rfl;have W:Hid ((cs.toList.drop 1).take 9=(tuA pr sv shi slo dv dhi dlo sp dp).toList):=q_ (G▸rfl);have X:Hid ((cs.toList.drop 13).take 9=(tuA apr asv ashi aslo adv adhi adlo asp adp).toList):=q_ (G▸rfl);have Y:Hid (cs[12]?=some (.bool er)):=q_ (G▸rfl);rw[G];clear G;obtain⟨w2,U,L,J,N,ab⟩:∃w',(w.alloc (.cells cs 48)).alloc (.cells xU 46)=w'/\Below w.heap.size w w'/\w'.heap[w.heap.size]?=some (.cells cs 48 (0,0))/\w'.heap[w.heap.size+1]?=some (.cells xU 46 (0,0))/\w.heap.size+2<=w'.heap.size :=
  ⟨_,rfl,bC.alloc (by simp) _,kE _ (by simp) (aJ _ _ _),by simpa using aJ (w.alloc (.cells cs 48)) 46 xU,by simp⟩
 have V:=(aA J 12).trans Y;unfold xU at U;replace ⟨L,J,N⟩:=q_3 L J N;go_enter func70,ntmps70;rcases er with _|_
 .go_upto_region 3 with fail
  clear U V;apply aWa;refine pS ?_;refine wpList_load_mid rfl 46 (.tmp 7) rfl w.heap.size 1 rfl (tuA pr sv shi slo dv dhi dlo sp dp).toList _ (aHc J 1 9 _ W) cRa rfl qK ?_;refine bQ rfl 46 (.tmp 2) (.tmp 8) rfl (w.heap.size+1) 0 rfl (tuA pr sv shi slo dv dhi dlo sp dp) rfl N (show 0+9<=9 by omega) qK (zU _ _ _ _ _ _ _ _ _) fun A j I=>?_;rw[aQ xU (tuA pr sv shi slo dv dhi dlo sp dp) rfl]at j;have O:=q_ (L.trans (gB I));have E:(loadVar 46 ⟨w.heap.size+1,0,none⟩).run prog A=.ok (.agg (tuA pr sv shi slo dv dhi dlo sp dp)) A:=by
   simpa using run_loadVar_mid A (w.heap.size+1) 0 46 (tuA pr sv shi slo dv dhi dlo sp dp).toList _ (aM j) cRa rfl qK
  clear I;replace ⟨j,E⟩:=q_2 j E;refine bCa ?_;go_wp2_with fail
  exact aYa (v:=.agg (tuA pr sv shi slo dv dhi dlo sp dp)) (by simp[results,results70,asAddr,Act.put,E.out,Result.andThen]) rfl ⟨rfl,O⟩
 .go_upto_region 2 with fail
  clear U V;apply aWa;refine pS ?_;refine wpList_load_mid rfl 46 (.tmp 5) rfl w.heap.size 13 rfl (tuA apr asv ashi aslo adv adhi adlo asp adp).toList _ (aHc J 13 9 _ X) cRa rfl qK ?_;refine bQ rfl 46 (.tmp 2) (.tmp 6) rfl (w.heap.size+1) 0 rfl (tuA apr asv ashi aslo adv adhi adlo asp adp) rfl N (show 0+9<=9 by omega) qK (zU _ _ _ _ _ _ _ _ _) fun A j I=>?_;rw[aQ xU (tuA apr asv ashi aslo adv adhi adlo asp adp) rfl]at j;have O:=q_ (L.trans (gB I));have E:(loadVar 46 ⟨w.heap.size+1,0,none⟩).run prog A=.ok (.agg (tuA apr asv ashi aslo adv adhi adlo asp adp)) A:=by
   simpa using run_loadVar_mid A (w.heap.size+1) 0 46 (tuA apr asv ashi aslo adv adhi adlo asp adp).toList _ (aM j) cRa rfl qK
  clear I;replace ⟨j,E⟩:=q_2 j E;refine bCa ?_;go_wp2_with fail
  exact aYa (v:=.agg (tuA apr asv ashi aslo adv adhi adlo asp adp)) (by simp[results,results70,asAddr,Act.put,E.out,Result.andThen]) rfl ⟨rfl,O⟩
end
section
variable (v6:Bool) (pr:Int) (sv:Bool) (shi slo:Int) (dv:Bool) (dhi dlo sp dp ttl:Int) (fl:Nat) (er:Bool) (apr:Int) (asv:Bool) (ashi aslo:Int) (adv:Bool) (adhi adlo asp adp sz:Int)
end
end
def yS (at_ size e:Nat):Value:=.tuple #[.int .i64 (at_:Int),.int .i64 (size:Int),.int .i64 (e:Int)]
theorem place4(n:Nat)(xs:List UInt8)(E:(xs.getD 0 0).toNat / 16=4)(W:20<=n)(s:Nat)(X:s<=1)(e:Nat)(N:(xs.getD 0 0).toNat % 16*4=e)(A:Option Addr)(c:Nat)(w:World)(G:IsB w w.heap.size A n xs) :
 Cl 128 #[.slice A n c,.int .i64 (s:Int)] w fun U w'=>U=.returned (yS (12+4*s) 4 e)/\Below w.heap.size w w':=by
 obtain⟨b,ag,j,rfl,ah,J,ai,L⟩:=G.byte (i:=0) (by omega);rw[cNa]at L;rw[J]at E N;have Z:(((j:Int) / 16) == 4)=true:=by rw[fKa];omega
 have i0:0<n:=by omega
 have q1:IntKind.i64.wrap (4*(s:Int))=4*(s:Int):=wO _;have q2:IntKind.i64.wrap (12+4*(s:Int))=12+4*(s:Int):=wO _;have q4:bits .and .u8 (j:Int) 15=(j:Int) % 16:=u8_and15 (j:Int) (by omega) (by omega);have q5:IntKind.i64.wrap ((j:Int) % 16)=(j:Int) % 16:=wO _;have q3:IntKind.i64.wrap ((j:Int) % 16*4)=(j:Int) % 16*4:=wO _;have V:=fun l:Later w=>l.cell L
 have O:yS (12+4*s) 4 e=.tuple #[.int .i64 (12+4*(s:Int)),.int .i64 4,.int .i64 ((j:Int) % 16*4)]:=by
  unfold yS;rw[show((12+4*s:Nat):Int)=12+4*(s:Int) by omega,show(e:Int)=(j:Int) % 16*4 by omega]
  rfl
 rw[O];clear O N;replace ⟨G,J,E⟩:=q_3 G J E;go_enter func128,ntmps128;go_wp2_with fail
 clear L;refine rL ?_;refine eS 0 12 0 ?_;simp only[dA,dC,dD];iterate 12 refine qE ?_
 refine aT ?_;refine eD fun Y I=>?_;clear V;replace I:=q_ I;go_wp2_with fail
 go_ret3;exact⟨by rfl,I⟩
theorem place6(n:Nat)(xs:List UInt8)(G I J:Int)(L:Bool)(N O:Int)(U:Bool)(V W:Int)(Y:List (Int×List UInt8))(Z m1:Nat)(rest:List UInt8)(hS:yA n xs 0 G I J L N O U V W Y Z m1 rest)(ah:Y.length<=8)(ai:∀e∈Y,e.2.length<=2047)
 (aj:(xs.getD 0 0).toNat / 16≠4) (hn:40<=n) (s:Nat) (hs:s<=1) (e:Nat) (j:40+nK Y=e) (a8:e<=65535) (A:Option Addr) (c:Nat) (w:World) (hx:IsB w w.heap.size A n xs) (aw:n<=c) (ax:c<=maxLen) :
 Cl 128 #[.slice A n c,.int .i64 (s:Int)] w fun en w'=>en=.returned (yS (8+16*s) 16 e)/\Below w.heap.size w w':=by
 obtain⟨b,bb,v0,rfl,bc,ak,bd,ar⟩:=hx.byte (i:=0) (by omega);rw[cNa]at ar;rw[ak]at aj;have t1:(((v0:Int) / 16) == 4)=false:=by rw[bDa];omega
 have i0:(0:Int)<(n:Int):=by omega
 have ap:yS (8+16*s) 16 e=.tuple #[.int .i64 (8+16*(s:Int)),.int .i64 16,.int .i64 (e:Int)]:=by
  unfold yS;rw[show((8+16*s:Nat):Int)=8+16*(s:Int) by omega]
  rfl
 rw[ap];clear ap;replace ⟨hx,ak,aj,hS,ah,ai,j⟩:=q_7 hx ak aj hS ah ai j;go_enter func128,ntmps128;go_wp2_with fail
 clear ar;refine(hS _ c _ hx aw ax).mono ?_;rintro en w2 ⟨X,m,xc,A2,c2,es,rfl,E,hX,bg,bh,hr,bi,bj,an⟩;obtain⟨wa,ad⟩:=eX (w2.alloc (bS G I J L N O U V W X m xc Z));have al:Below w2.heap.size w2 wa:=ad▸bC;have aq:=ad▸aJ w2 164 #[.int .i64 G,.int .i64 I,.int .i64 J,.bool L,.int .u64 N,.int .u64 O,.bool U,.int .u64 V,.int .u64 W,.slice X m xc,.int .i64 Z];have hB:=q_ (an.trans (al.mono an.size));have az:=aA aq;unfold bS at ad;have a0:=q_ (hX.on al);have a1:m<=8:=by rw[<-hX.1,<-rU,E];exact ah
 have a2:Hid (∀e∈es,e.xs.length<=2047):=q_ (fun e j=>ai (Ext.pe e) (E▸(List.mem_map_of_mem j:Ext.pe e∈pes es)));have a3:Hid (40+xR es=e):=q_ (by rw[aAt,E];exact j);clear hr al an aq;replace ⟨E,hX⟩:=q_2 E hX;go_wp2_with fail
 clear ad az;refine(vD G I J L N O U V W X m xc Z es _ a0 a1 a2 e a3).mono ?_;rintro e w3 ⟨rfl,au⟩;replace hB:=q_ (hB.trans (au.mono hB.size));clear au;go_wp2_with fail
 go_ret3;exact⟨by rfl,hB⟩
theorem aEc(H R j:List UInt8)(p:Nat)(h:p+j.length<=H.length):dJ (H++R) p j=dJ H p j++R:=by
 unfold dJ;rw[eWa (by omega),gYa (by omega)];simp[eDa]
theorem wY(H R j:List UInt8)(p q:Nat)(h:H.length+p=q):dJ (H++R) q j=H++dJ R p j:=by
 unfold dJ;rw[List.take_append,bZa (by omega),jLa,eLa (by omega),cVa];rw[show q - H.length=p by omega,show q+j.length - H.length=p+j.length by omega];simp[eDa]
theorem aTi(H R:List UInt8)(i:Nat)(h:i<H.length):(H++R).getD i 0=H.getD i 0:=by
 simp only[List.getD,cEa h]
theorem aRr(H R:List UInt8)(i:Nat):(H++R).getD (H.length+i) 0=R.getD i 0:=by
 simp only[List.getD,cJa (Nat.le_add_right _ _),fSa]
theorem aL5(H R:List UInt8)(p:Nat):∀k,p+k<=H.length->beN (H++R) p k=beN H p k
 | 0,_=>rfl
 | k+1,h=>by rw[beN,beN,aL5 H R p k (by omega),aTi H R _ (by omega)]
theorem aJy(H R:List UInt8)(p q:Nat)(h:H.length+p=q):∀k,beN (H++R) q k=beN R p k
 | 0=>rfl
 | k+1=>by rw[beN,beN,aJy H R p q h k,<-h,eVa,aRr H R _]
theorem aUq(xs j A:List UInt8)(p:Nat)(h:j.length=A.length)(G:p+j.length<=xs.length):dJ (dJ xs p j) p A=dJ xs p A:=by
 have E:(xs.take p).length=p:=by rw[bGa];omega
 unfold dJ;rw[eWa (by omega),bZa (l:=xs.take p) (by omega),jLa,eLa (l:=xs.take p) (by omega),cVa,E,fSa,jLa,eLa (l:=j) (by omega),cVa,<-h,Nat.sub_self,dDa]
def out2 (xs:List UInt8) (T p e s port:Nat) (AB:List UInt8):List UInt8:=dJ (dJ (xs.take T) p AB) (e+2*s) (beB port 2)
def out3 (v6:Bool) (o2:List UInt8) (was ts:List Nat):List UInt8:=if v6=true then o2 else dJ o2 10 (beB (gZ (beN o2 10 2) (was++[0]) (ts++[0])) 2)
def out5 (udp:Bool) (o3:List UInt8) (wh wp port:Nat) (was ts:List Nat):List UInt8 :=
 if udp=true/\beN o3 wh 2=0 then o3
 else if udp=true/\gZ (beN o3 wh 2) (was++[wp]) (ts++[port])=0 then dJ (dJ o3 wh (beB (gZ (beN o3 wh 2) (was++[wp]) (ts++[port])) 2)) wh (beB 65535 2)
 else dJ o3 wh (beB (gZ (beN o3 wh 2) (was++[wp]) (ts++[port])) 2)
theorem aQk(j:Bool)(H R:List UInt8)(e s J A:Nat)(L N:List Nat)(G:H.length=e)(X:s<=1)(Y:whR j+2<=R.length)(O:beN R (2*s) 2=J) :
 out5 j (H++dJ R (2*s) (beB A 2)) (e+whR j) J A L N=H++aXd j R s A L N:=by
 have hw:6<=whR j:=by unfold whR;split<;>omega
 have U:beN (H++dJ R (2*s) (beB A 2)) (e+whR j) 2=beN R (whR j) 2:=by
  rw[aJy H _ (whR j) _ (by rw[G]) 2];exact jH _ _ _ _ fun i E Z=>vM _ _ _ (by rw[aR];omega) i (by rw[aR];omega)
 have V:(dJ R (2*s) (beB A 2)).length=R.length:=gM _ _ _ (by rw[aR];omega);unfold out5 aXd;rw[U,O];rcases j with _|_
 .simp only[eAa,false_and,hYa];rw[wY H _ _ (whR false) _ (by rw[G])]
 .have W:whR true=6:=rfl;simp only[true_and,W];by_cases I:beN R 6 2=0
  .rw[bBa I,bBa I]
  .rw[bAa I,bAa I];by_cases E:gZ (beN R 6 2) (L++[J]) (N++[A])=0
   .rw[bBa E,bBa E,aUq _ _ _ _ (by rw[aR,aR]) (by rw[aR,bHa,V];omega),wY H _ _ 6 _ (by rw[G])]
   .rw[bAa E,bAa E,wY H _ _ 6 _ (by rw[G])]
theorem aU3{e:Nat}{j:Bool}{W X Y aa fl:Nat}(h:wE n xs E e j R V W X Y aa fl)(s A N G O:Nat)(hs:s<=1)(hw:(if s=0 then V else W)=G)(ae:(if s=0 then X else Y)=O) :
 out5 j (out3 false (out2 xs E (12+4*s) e s N (pQ false 0 A)) (gH false 0 G) (gH false 0 A)) (e+whR j) O N (gH false 0 G) (gH false 0 A)=aXs xs E e j R s A N G:=by
 obtain⟨s1,s2,s3,s4,s5,s6,s7,s8,s9⟩:=h.sizes;have aW:∀U I,gH false U I=splitN I 2:=fun _ _=>rfl
 have aB:∀U I,pQ false U I=beB I 4:=fun _ _=>rfl
 have hl:=h.up.len;have ap:6<=whR j:=by unfold whR;split<;>omega
 have Z:(xs.take e).length=e:=by rw[bGa];omega
 have hx:xs.take E=xs.take e++R:=by
  rw[<-h.hR]
  conv=>lhs;rw[<-dHa e (xs.take E)]
  rw[hNa,fCa (by omega)]
 have hc:beN R (2*s) 2=O:=by
  rw[<-ae];by_cases L:s=0
  .rw[bBa L,L];exact h.up.sp
  .obtain rfl:s=1:=by omega
   rw[bAa (by omega)];exact h.up.dp
 have ak:beN (xs.take e) (12+4*s) 4=G:=by
  rw[nT xs e _ 4 (by omega),<-hw];by_cases L:s=0
  .rw[bBa L,L];exact h.sl
  .obtain rfl:s=1:=by omega
   rw[bAa (by omega)];exact h.dl
 have J:(dJ (xs.take e) (12+4*s) (beB A 4)).length=e:=by rw[gM _ _ _ (by rw[aR];omega),Z]
 have am:beN (dJ (xs.take e) (12+4*s) (beB A 4)) 10 2=beN (xs.take e) 10 2:=jH _ _ _ _ fun i h1 h2=>vM _ _ _ (by rw[aR];omega) i (by rw[aR];omega)
 unfold out2 out3 aXs aXg;simp only[aW,aB,eAa,hYa];rw[hx,aEc _ _ _ _ (by rw[aR,Z];omega),wY _ _ _ (2*s) _ (by rw[J]),aL5 _ _ 10 2 (by rw[J];omega),aEc _ _ _ _ (by rw[aR,J];omega),am,ak];exact aQk j _ R e s O N _ _ (by rw[gM _ _ _ (by rw[aR,J];omega),J]) hs hl hc
theorem aU4{e:Nat}{j:Bool}{ab ac ad ae U af fl:Nat}(h:wF n xs aa e j R ab ac ad ae U V af fl)(s A E J N O L:Nat)(hs:s<=1)(ai:(if s=0 then U else V)=L) :
 out5 j (out3 true (out2 xs (e+R.length) (8+16*s) e s J (pQ true A E)) (gH true N O) (gH true A E)) (e+whR j) L J (gH true N O) (gH true A E)=aXt xs e j R s A E J N O:=by
 obtain⟨s1,s2,s3,s4,s5,s6,s7,s8,s9⟩:=h.sizes;have aW:∀G I,gH true G I=splitN G 4++splitN I 4:=fun _ _=>rfl
 have aB:∀G I,pQ true G I=beB G 8++beB I 8:=fun _ _=>rfl
 have hl:=h.up.len;have aq:6<=whR j:=by unfold whR;split<;>omega
 have W:(xs.take e).length=e:=by rw[bGa];omega
 have hR:(xs.take (e+R.length)).drop e=R:=by
  have:=h.rest;rw[h.he]at this;exact this
 have hx:xs.take (e+R.length)=xs.take e++R:=by
  conv=>lhs;rw[<-dHa e (xs.take (e+R.length))]
  rw[hNa,fCa (by omega),hR]
 have hc:beN R (2*s) 2=L:=by
  rw[<-ai];by_cases Z:s=0
  .rw[bBa Z,Z];exact h.up.sp
  .obtain rfl:s=1:=by omega
   rw[bAa (by omega)];exact h.up.dp
 have X:(beB A 8++beB E 8).length=16:=by rw[bHa,aR,aR]
 have Y:(dJ (xs.take e) (8+16*s) (beB A 8++beB E 8)).length=e:=by rw[gM _ _ _ (by rw[X];omega),W]
 unfold out2 out3 aXt aXh;simp only[aW,aB,jEa];rw[hx,aEc _ _ _ _ (by rw[X,W];omega),wY _ _ _ (2*s) _ (by rw[Y])];exact aQk j _ R e s L J _ _ Y hs hl hc
theorem ad_one(v:Bool)(a b:Int):(#[.bool v,.int .u64 a,.int .u64 b]:Array Value).all (·.oneCell')=true:=all_oneCell_toArray (by
 intro v j;simp only[bXa,bVa,dTa]at j;rcases j with rfl|rfl|rfl<;>rfl)
theorem aSx{md:Region.Mode}{rest:List Oper}{w:World}(i:Nat){I:Array Bool}(aa:L.drop i=o :: rest)(ab:Region.ready md L.toArray I=[i])(ac:o.guard=none)(d s:Operand)
 (ho:o.op=.call { callee:=.builtin .copy,args:=#[d,s],argTypes:=#[43,43] }) (V g n c p J dc m sc B k:Nat) (A:Option Addr) (xs E:List UInt8)
 (hd:a.eval d=.slice (some ⟨g,p,none⟩) J dc) (hs:a.eval s=.slice A m sc) (ai:aZ w V (.slice (some ⟨g,0,none⟩) n c) xs) (N:IsB w B A m E) (hp:p+J<=n) (h0:0<n) (hk:min m J=k)
 (h:∀w',aZ w' V (.slice (some ⟨g,0,none⟩) n c) (dJ xs p (E.take k))->Below g w w'->wpAny prog md L.toArray Q fuel (I.setIfInBounds i true) (a.put o.dst (goInt k)) w'):wpAny prog md L.toArray Q (fuel+1) I a w:=by
 obtain⟨g',W,an,hb,hh,G,aq,X,hm,U⟩:=ai.row h0
 cases an
 have O:(E.take k).length=k:=by rw[bGa,N.1];omega
 have hkl':((E.take k).map u8v).length=k:=by rw[bNa,O]
 refine bF i aa ab fun K hK=>?_;refine step_copy_splice ac d s _ _ ho 5 gGa (by kernel_rfl) _ _ _ _ _ _ hd hs g p W 5 hh ((E.take k).map u8v) ?_ ?_ ?_ (aCe _) g w (bLa _ _) (aZa _) ?_
 ·rw[hkl',<-hk]
 ·intro h1;rw[hkl']at h1;obtain⟨Y,Z,rfl,_,au⟩:=N.vals.2 (by omega);refine⟨rfl,_,rfl,fun j v hj=>?_⟩;obtain⟨av,rfl⟩:=List.getElem?_eq_some_iff.1 hj;rw[hkl']at av;rw[show Addr.add ⟨Y,Z,none⟩ j=(⟨Y,Z+j,none⟩:Addr) by unfold Addr.add;split<;>simp_all];rw[au j (by rw[bNa,N.1];omega)];simp
 ·rw[hkl',G];omega
 intro w' ax ay;rw[hkl'];refine hK _ _ (h w' (aC4 hb ax ?_ (aBq W xs (E.take k) n p aq (by rw[G];exact X) U (by rw[O];omega)) X hm (by rw[gM _ _ _ (by rw[O,U];omega),U])) ay);rw[length_splice _ _ _ (by rw[hkl',G];omega),G]
theorem aCd(E Z:Bool)(n c T p L e s:Nat)(xs:List UInt8)(a1 a2 a6 a7 sp dp fc fl W X Y aa ab wp:Nat)(A:Option Addr)(w:World)(J:IsB w w.heap.size A n xs)(f3:n<=c)(f4:c<=maxLen)(hn:n<=4000)(hs:s<=1)
 (hP:PIs n xs 0 (pkA E (prN Z) a1 a2 a6 a7 sp dp fc fl T))
 (dx:∀w:World,IsB w w.heap.size A n xs->Cl 128 #[.slice A n c,.int .i64 (s:Int)] w fun en w'=>en=.returned (yS p L e)/\Below w.heap.size w w')
 (dy:okA E (W:Int) (X:Int)=true) (h1:W<18446744073709551616) (h2:X<18446744073709551616) (fe:Y<=65535) (f5:sp<=65535) (f6:dp<=65535)
 (b1:a1<18446744073709551616) (b2:a2<18446744073709551616) (b3:a6<18446744073709551616) (b4:a7<18446744073709551616)
 (cl:(if s=0 then a1 else a6)=aa) (cm:(if s=0 then a2 else a7)=ab) (cn:(if s=0 then sp else dp)=wp)
 (hT:T<=n) (d3:p+L<=e) (hL:(pQ E W X).length=L) (hh:0<L) (a8:e+whR Z+2<=T) (h4:12<=e) :
 Cl 86 #[.slice A n c,.int .i64 (s:Int),.agg #[.bool E,.int .u64 (W:Int),.int .u64 (X:Int)],.int .i64 (Y:Int)] w fun en w' =>
  dE 0 (out5 Z (out3 E (out2 xs T p e s Y (pQ E W X)) (gH E aa ab) (gH E W X)) (e+whR Z) wp Y (gH E aa ab) (gH E W X)) w w' en:=by
 obtain⟨w1,ew⟩:=eX (w.alloc (.cells #[.bool E,.int .u64 (W:Int),.int .u64 (X:Int)] 27));have j:Below w.heap.size w w1:=ew▸bC;have N:=bN ew;obtain⟨U,hU⟩:∃U,out5 Z (out3 E (out2 xs T p e s Y (pQ E W X)) (gH E aa ab) (gH E W X)) (e+whR Z) wp Y (gH E aa ab) (gH E W X)=U:=⟨_,rfl⟩
 rw[hU];have dc:aa<18446744073709551616:=by rw[<-cl];split;exact b1;exact b3
 have dd:ab<18446744073709551616:=by rw[<-cm];split;exact b2;exact b4
 have fi:wp<=65535:=by rw[<-cn];split;exact f5;exact f6
 have fj:whR Z<=16:=by unfold whR;split<;>omega
 have de:6<=whR Z:=by unfold whR;split<;>omega
 obtain⟨y,hy⟩:=eX (pkA E (prN Z) a1 a2 a6 a7 sp dp fc fl T);rw[hy]at hP;have df:y.size=23:=hy▸rfl;have d7:y.all (·.oneCell')=true:=hy▸aV3 _ _ _ _ _ _ _ _ _ _ _;have hk:((prN Z:Int) == 17)=Z:=by rcases Z with _|_<;>rfl
 have p1:(Y:Int)<=65535:=by omega
 have p2:(0:Int)<=(Y:Int):=by omega
 replace J:=J.on j;replace dc:=q_ dc;replace dd:=q_ dd;replace J:=q_ J;replace hP:=q_ hP;replace dx:=q_ dx;replace dy:=q_ dy;replace hU:=q_ hU;replace df:=q_ df;replace d7:=q_ d7;replace hy:=q_ hy;replace cl:=q_ cl;replace cm:=q_ cm;replace cn:=q_ cn;replace hL:=q_ hL;replace h1:=q_ h1;replace h2:=q_ h2;replace b1:=q_ b1;replace b2:=q_ b2;replace b3:=q_ b3;replace b4:=q_ b4;replace fj:=q_ fj;replace de:=q_ de;replace hT:=q_ hT;replace d3:=q_ d3;replace a8:=q_ a8;replace j:=q_ j;replace N:=q_ N;replace J:=q_ J;go_enter func86,ntmps86;go_upto_region 1 with fail
 apply aWa;clear ew;refine pS ?_;refine bRa rfl fun K G=>?_;go_simp;refine(hP _ c _ J f3 f4).mono ?_;rintro e w2 hE;obtain⟨rfl,al⟩:=hE;rw[bBa rfl];replace j:=q_ (j.trans (al.mono j.size));replace N:=q_ (aG al N);replace J:=q_ (J.on al);clear al;go_simp;refine G _ _ ?_;clear G K;iterate 3 refine pS ?_
 refine gF rfl rfl 48 _ (vR _ rfl) 10 rfl (.tmp 22) rfl _ (fun _=>rfl) (fun _=>rfl) (by rw[bG];exact df) (by rw[bK,df.out]) d7 ?_;intro w3 V am i1;have zg:=pU N;have z2:=j.size;replace j:=q_ (j.trans (am.mono j.size));replace N:=q_ (aG am N);replace J:=q_ (J.on am);clear am;replace V:=q_ V;refine pS ?_;refine bCa ?_;go_upto_region 4 with fail
 have I:=V.out;rw[<-hy.out]at I;unfold pkA at I;have ai:=aA I;have gc:=aA N;go_cut [28] (fun bv wx=>bv=.bool false/\w3=wx)
 case first =>
  have d8:s=0\/s=1:=by omega
  clear I;rcases d8 with rfl|rfl
  ·go_wp2_with fail
   go_meet;refine⟨?_,rfl⟩
   congr 1
   simp only[hMa,bEa];omega
  ·go_wp2_with fail
   go_meet;refine⟨?_,rfl⟩
   congr 1
   simp only[hMa,bEa];omega
 case rest =>
 obtain⟨rfl,rfl⟩:=hcut;go_upto_region 6 with fail
 have hr:(E != E)=false:=by simp
 clear I;go_wp2_with fail
 clear ai gc;refine(jB E W X true _ dy).mono ?_;rintro e w5 ⟨rfl,c8⟩;replace j:=q_ (j.trans (c8.mono j.size));replace N:=q_ (aG c8 N);replace J:=q_ (J.on c8);replace V:=q_ (aG c8 V);clear c8;go_upto_region 8 with fail
 have I:=V.out;rw[<-hy.out]at I;unfold pkA at I;have zy:=pU I;refine yH w5.heap.size (fun _=>False) (by as_aux_lemma=>kernel_rfl) ?_;intro wd e8;have fk:=aC e8 zy I;have d9:=fun(l:yJ w5.heap.size (fun _=>False) wd) (o:Nat)=>aA (l.blk fk zy (fun h=>h)) o
 clear I;have z5:=e8.size;refine xW w5.heap.size (fun _=>False) 0 6 (fuel:=3) (by as_aux_lemma=>kernel_rfl) (fun d _ _ _ _ h=>by cases d<;>exact h) (by as_aux_lemma=>kernel_rfl) (by as_aux_lemma=>kernel_rfl) ?_;simp only[dA,dC,dD];iterate 6(refine uG (fun K G=>?_);go_simp;refine G _ ?_;clear G K)
 refine aN ?_;clear d9 fk;have di:Below w5.heap.size wd (wd.alloc (.cells #[.bool false,.int .u64 0,.int .u64 0] 27)):=(bLa _ _).alloc z5 _;have dj:=aJ wd 27 #[.bool false,.int .u64 0,.int .u64 0];refine fS 6 rfl fun K G=>?_;go_simp;refine G _ _ (bT di (aZa _)) ?_;clear G K
 change wpF _ _ _ _ _ _ _ _ (wd.alloc (.cells #[.bool false,.int .u64 0,.int .u64 0] 27))
 generalize wd.alloc (.cells #[.bool false,.int .u64 0,.int .u64 0] 27)=w6 at di dj ⊢;have gd:=pU dj;refine wpF_st 7 rfl (by as_aux_lemma=>kernel_rfl) rfl 27 (.tmp 12) (.tmp 60) rfl wd.heap.size 0 rfl #[.bool E,.int .u64 (a1:Int),.int .u64 (a2:Int)] rfl dj (show 0+3<=3 by omega) (by kernel_rfl) (ad_one _ _ _) fun w7 a4 g7=>?_;rw[aQ #[.bool false,.int .u64 0,.int .u64 0] #[.bool E,.int .u64 (a1:Int),.int .u64 (a2:Int)] rfl]at a4;have ea:Below w5.heap.size w6 w7:=below_grown g7 (by omega) z5;have bd:Below w5.heap.size w5 w7:=(e8.trans di).trans ea;refine⟨bT ea (aZa _),?_⟩;have eb:=pU a4;generalize wd.heap.size=gw at a4 eb z5 ⊢;have fm:w2.heap.size≠gw:=by omega
 have fn:=q_ (aC bd zy V);clear g7 dj di ea gd;replace ⟨a4,bd⟩:=q_2 a4 bd;refine fS 8 rfl fun K G=>?_;go_simp;refine G _ _ (gQ _ _ _) ?_;clear G K;refine fD ?_;go_upto_if 65 with fail
 go_cut [12,13] (fun gv wv wx=>∃gw,gv=.pointer (some ⟨gw,0,none⟩)/\wv=.int .i64 (wp:Int)/\wx.heap[gw]?=some (.cells #[.bool E,.int .u64 (aa:Int),.int .u64 (ab:Int)] 27 (0,0))/\w5.heap.size<=gw/\Below w5.heap.size w5 wx)
 case first =>
  have d8:s=0\/s=1:=by omega
  rcases d8 with rfl|rfl
  ·obtain rfl:a2=ab:=cm.out;obtain rfl:a1=aa:=cl.out;obtain rfl:sp=wp:=cn.out;go_wp2_with fail
   go_meet;exact⟨gw,rfl,rfl,a4,z5,bd⟩
  ·obtain rfl:a7=ab:=cm.out;obtain rfl:a6=aa:=cl.out;obtain rfl:dp=wp:=cn.out;go_upto_region 10 with fail
   have I:=fn.out;rw[<-hy.out]at I;unfold pkA at I;refine yH w7.heap.size (fun k=>k=gw) (by as_aux_lemma=>kernel_rfl) ?_;intro we dw;have fo:=aC dw (pU I) I;have fp:=aC dw eb a4;have d9:=fun(l:yJ w7.heap.size (fun k=>k=gw) we) (o:Nat)=>aA (l.blk fo (pU I) (fun h=>fm h)) o
   have z7:=dw.size;have gf:=bd.size;clear I;refine xW w7.heap.size (fun k=>k=gw) 0 6 (fuel:=2) (by as_aux_lemma=>kernel_rfl) (fun d _ _ _ _ h=>by cases d<;>exact h) (by as_aux_lemma=>kernel_rfl) (by as_aux_lemma=>kernel_rfl) ?_;simp only[dA,dC,dD];iterate 6(refine uG (fun K G=>?_);go_simp;refine G _ ?_;clear G K)
   refine aN ?_;clear d9 fo;refine wpF_st 6 rfl (by as_aux_lemma=>kernel_rfl) rfl 27 (.tmp 12) (.tmp 68) rfl gw 0 rfl #[.bool E,.int .u64 (a6:Int),.int .u64 (a7:Int)] rfl fp (show 0+3<=3 by omega) (by kernel_rfl) (ad_one _ _ _) fun w8 db g8=>?_;rw[aQ #[.bool E,.int .u64 (a1:Int),.int .u64 (a2:Int)] #[.bool E,.int .u64 (a6:Int),.int .u64 (a7:Int)] rfl]at db;have ec:Below w5.heap.size w5 w8:=(bd.trans (dw.mono gf)).trans (below_grown g8 (by omega) z5);refine⟨qZ g8 z7 rfl,?_⟩;clear g8 fp;replace ⟨db,ec⟩:=q_2 db ec;refine fS 7 rfl fun K G=>?_;go_simp;refine G _ _ (gQ _ _ _) ?_;clear G K;refine fD ?_;go_wp2_with fail
   go_meet;exact⟨gw,rfl,rfl,db,z5,ec⟩
 case rest =>
 obtain⟨gv,rfl,rfl,ad,zv,c4⟩:=hcut;clear a4 bd fn fm eb z5 zy;have ht:=pU N;replace j:=q_ (j.trans (c4.mono j.size));replace N:=q_ (aG c4 N);replace J:=q_ (J.on c4);replace V:=q_ (aG c4 V);clear c4;replace ad:=q_ ad;go_wp2_with fail
 refine(dx _ J).mono ?_;rintro e c9 ⟨rfl,b9⟩;replace j:=q_ (j.trans (b9.mono j.size));replace N:=q_ (aG b9 N);replace J:=q_ (J.on b9);replace V:=q_ (aG b9 V);replace ad:=q_ (aG b9 ad);clear b9;unfold yS;have I:=V.out;rw[<-hy.out]at I;unfold pkA at I;have ai:=aA I;clear I;have fq:=J.take (m:=T) hT;have l1:(T:Int)<=(c:Int):=by have:=hT.out;omega
 go_wp2_with (at_builtin;refine sD rfl _ (.tmp 82) rfl c9.heap.size (.slice none 0 0) [] (xs.take T) A T c c9.heap.size rfl rfl (aZ.nil _ _) fq (aZa _) ?_ ?_)
 ·have:=hT.out;simp;omega
 intro i2 e9 be f2;have bp:=f2.qG;have hv:=j.size;obtain⟨ip,co,rfl,gx,iq,dk⟩:=be.form;have tl:(xs.take T).length=T:=by rw[bGa,J.out.1];have:=hT.out;omega
 rw[tl]at be dk gx ⊢;clear f2 ai l1 fq;clear J;replace ⟨be,dk,bp⟩:=q_3 be dk bp;obtain⟨AB,cu⟩:=eX (pQ E W X);have dl:AB.length=L:=by rw[<-cu];exact hL
 have hw:p+L<=T:=by have:=d3.out;have:=a8.out;omega
 obtain⟨fy,ir,rfl,gy,gz,-⟩:=be.row (by have:=a8.out;omega);clear gz;have fr:=pU N;have ed:=aC bp fr N;obtain⟨pL,it⟩:∃pL,p+L=pL:=⟨_,rfl⟩
 have ia:T<=n:=hT.out;have q0:IntKind.i64.wrap ((p:Int)+(L:Int))=(pL:Int):=by rw[wO _];omega
 have q1:(0:Int)<=(pL:Int):=by omega
 have q2:(pL:Int)<=(co:Int):=by omega
 have q3:p<=pL:=by omega
 have q4:¬ (co=p):=by omega
 have q5:pL - p=L:=by omega
 have ct:=fun(l:Later e9) (o:Nat)=>aA (aC l.hb (pU ed) ed) o
 clear ed;replace ⟨cu,dl⟩:=q_2 cu dl;go_upto_region 13 with fail
 refine rL ?_;refine eS 0 7 2 ?_;simp only[dA,dC,dD];iterate 7 refine qE ?_
 refine aT ?_;clear ct;refine eT 7 rfl fun l K G=>?_;go_simp;go_at_call 129;refine(aLd E W X _ h1 h2).mono ?_;rintro en iw ⟨ix,rfl,e4,dv⟩;rw[cu.out]at e4;refine G _ _ dv ?_;clear G K;refine eE fun l2=>?_;have zl:=l.hb.size;have gl:=dv.size;obtain⟨g0,g1,rfl,g2,iu,ex⟩:=e4.form;rw[dl.out]at ex g2 ⊢;have eh:Below e9.heap.size e9 l2.w:=(l.hb.trans (dv.mono zl)).trans (l2.hb.mono (by omega));have ft:=be.below eh;have fu:=ex.on l2.hb;refine aSx 8 rfl (by as_aux_lemma=>kernel_rfl) rfl (.tmp 89) (.tmp 91) rfl c9.heap.size fy T co p L (co - p) L g1 _ L g0 (xs.take T) AB rfl rfl ft fu (by omega) (by omega) (by omega) fun cr bo fh=>?_;have cv:Below c9.heap.size c9 cr:=(bp.trans (eh.mono bp.size)).trans (fh.mono gy);rw[bZa (l:=AB) (by rw[dl.out];omega)]at bo;clear ft fu ex e4 dv fh eh be dk bp q0 q1 q2 q3 q4 q5 gl zl fr;replace bo:=q_ bo;refine tD ?_;go_simp;replace j:=q_ (j.trans (cv.mono j.size));replace N:=q_ (aG cv N);replace V:=q_ (aG cv V);replace ad:=q_ (aG cv ad);clear cv;have gm:=j.size;have br:=bo.reads.2.2.2;obtain⟨o1,cw⟩:=eX (dJ (xs.take T) p AB);rw[cw]at bo br;have ib:=a8.out;have q0:IntKind.i64.wrap (2*(s:Int))=2*(s:Int):=wO _;have q1:IntKind.i64.wrap ((e:Int)+2*(s:Int))=((e+2*s:Nat):Int):=by rw[wO _];omega
 have q2:IntKind.u64.wrap (Y:Int)=(Y:Int):=by rw[cTa];omega
 replace ⟨cw,br⟩:=q_2 cw br;go_wp2_with fail
 have cx:=aCb (some ⟨fy,0,none⟩) T co o1 (e+2*s) Y 2 ((e:Int)+2*(s:Int)) (Y:Int) 2 (by omega) rfl rfl cr br (by omega) (by have:=de.out;omega) (by omega) (by omega) (by omega);refine cx.mono ?_;clear cx;rintro en av ⟨iy,rfl,ak,ca⟩;obtain⟨o2,dq⟩:∃o2,dJ o1 (e+2*s) (beB Y 2)=o2:=⟨_,rfl⟩
 have fv:o1.length=T:=br.out.1;have cy:o2.length=T:=by rw[<-dq,gM _ _ _ (by rw[aR];have:=de.out;omega),fv]
 have ei:out2 xs T p e s Y AB=o2:=by unfold out2;rw[cw.out,dq]
 rw[dq]at ak;obtain⟨b7,b8,rfl,dr,ez,c0⟩:=ak.form;rw[cy]at ak c0 dr ⊢;have ic:=ca.size;clear br cw bo q0 q1 q2 fv dq;replace j:=q_ (j.trans (ca.mono j.size));replace N:=q_ (aG ca N);replace V:=q_ (aG ca V);replace ad:=q_ (aG ca ad);clear ca;have id:=j.size;have I:=V.out;rw[<-hy.out]at I;unfold pkA at I;have ai:=aA I;clear I;obtain⟨o3,bt⟩:=eX (out3 E o2 (gH E aa ab) (gH E W X));have bs:o3.length=T:=by
  rw[<-bt];unfold out3;split
  ·exact cy
  ·rw[gM _ _ _ (by rw[aR];omega),cy]
 replace ⟨ak,c0,cy,ei,bt,bs⟩:=q_6 ak c0 cy ei bt bs;go_upto_if 103 with fail
 go_cut [17] (fun ov wx=>∃A c,ov=.slice A T c/\T<=c/\c<=maxLen/\aZ wx cr.heap.size (.slice A T c) o3/\Below av.heap.size av wx)
 case first =>
  rcases E with _|_
  ·have ej:=pU N;have ek:=pU ad;have ct:=fun(l:Later av) (o:Nat)=>aA (aC l.hb ej N) o
   have el:=fun(l:Later av) (o:Nat)=>aA (aC l.hb ek ad) o
   clear ai;go_upto_region 16 with fail
   refine rL ?_;refine eS 0 2 5 ?_;simp only[dA,dC,dD];iterate 2 refine qE ?_
   refine aT ?_;refine eS 3 1 4 ?_;simp only[dB,dA,dC,dD];refine qE ?_;refine aT ?_;clear ct el;refine eT 2 rfl fun l K G=>?_;go_simp;go_at_call 131;refine(aBg false aa ab 0 0 rfl _ dc dd (by omega)).mono ?_;rintro en bl ⟨g5,rfl,cc,ag⟩;obtain⟨e0,e1,rfl,-,-,bj⟩:=cc.form;have gn:(gH false aa ab++[0]).length=3:=by rw[bHa,tJ];rfl
   rw[gn]at bj ⊢;refine G _ _ ag ?_;clear G K cc;refine eT 4 rfl fun l2 K G=>?_;go_simp;go_at_call 131;refine(aBg false W X 0 0 rfl _ h1 h2 (by omega)).mono ?_;rintro en e5 ⟨g6,rfl,cd,az⟩;obtain⟨e2,e3,rfl,-,-,bk⟩:=cd.form;have gp:(gH false W X++[0]).length=3:=by rw[bHa,tJ];rfl
   rw[gp]at bk ⊢;refine G _ _ az ?_;clear G K cd;refine eT 5 rfl fun l3 K G=>?_;go_simp;go_at_call 130;have zl:=l.hb.size;have gq:=ag.size;have em:=l2.hb.size;have gr:=az.size;have gs:=l3.hb.size;have c1:Below av.heap.size av bl:=l.hb.trans (ag.mono zl);have al:Below bl.heap.size bl e5:=l2.hb.trans (az.mono em);have am:Below av.heap.size av l3.w:=((tw c1 al)).trans (l3.hb.mono (by omega));refine(aA0 b7 e0 e2 T b8 10 3 e1 e3 10 rfl o2 (gH false aa ab++[0]) (gH false W X++[0]) l3.w (c0.on am) (by have:=hT.out;omega) (by omega) ((bj.on al).on l3.hb) (bk.on l3.hb) ?_ ?_ (by omega) (by omega)).mono ?_
   ·intro x J;rcases List.mem_append.1 J with h|h
    ·exact aCk _ _ _ x h
    ·rw[List.mem_singleton.1 h];omega
   ·intro x J;rcases List.mem_append.1 J with h|h
    ·exact aCk _ _ _ x h
    ·rw[List.mem_singleton.1 h];omega
   rintro en g9 ⟨ha,rfl,bm,a0⟩;have ho:dJ o2 10 (beB (gZ (beN o2 10 2) (gH false aa ab++[0]) (gH false W X++[0])) 2)=o3:=bt.out;rw[ho]at bm;refine G _ _ a0 ?_;clear G K;refine eE fun l4=>?_;have an:=(bm.below l4.hb).weaken (show cr.heap.size<=l3.w.heap.size by omega);have bf:Hid (Below av.heap.size av l4.w):=q_ (((tw am a0)).trans (l4.hb.mono (by have:=a0.size;omega)));obtain⟨ds,dt,rfl,du,fz,-⟩:=an.form;rw[bs.out]at an du ⊢;clear c1 al am bj bk ag az a0 bm ho;replace an:=q_ an;refine tM 6 rfl ?_;refine tD ?_;go_wp2_with fail
   go_meet;exact⟨ds,dt,rfl,du,fz,an,bf⟩
  ·have ho:=bt.out;unfold out3 at ho;rw[bBa rfl]at ho;subst ho;go_wp2_with fail
   go_meet;exact⟨b7,b8,rfl,dr,ez,ak,bLa _ _⟩
 case rest =>
 clear ak c0 dr ez;obtain⟨b7,b8,rfl,dr,ez,ak,ag⟩:=hcut;clear ai;replace j:=q_ (j.trans (ag.mono j.size));replace N:=q_ (aG ag N);replace V:=q_ (aG ag V);replace ad:=q_ (aG ag ad);clear ag;have I:=V.out;rw[<-hy.out]at I;unfold pkA at I;have ai:=aA I;clear I;have ie:=j.size;have bw:=ak.reads.2.2.2;have dm:=ak.weaken (show w.heap.size<=cr.heap.size from gm);obtain⟨O,bx⟩:∃O,e+whR Z=O:=⟨_,rfl⟩
 obtain⟨ck,bg⟩:=eX (beN o3 O 2);have ig:ck<65536:=bg▸bX o3 O 2;have ae:=fun w' hi=>fB (O:Int) 2 O 2 rfl rfl b7 T b8 o3 w' hi (by have:=hT.out;unfold maxLen;omega) (by have:=a8.out;have:=hT.out;omega) (by omega)
 rw[bg]at ae;have dn:out5 Z o3 O wp Y (gH E aa ab) (gH E W X)=U:=by
  have:=hU.out;rw[cu.out,ei.out,bt.out,bx]at this;exact this
 have ih:=hT.out;have ii:O+2<=T:=by have:=a8.out;omega
 have ij:IntKind.i64.wrap ((e:Int)+16)=(e:Int)+16:=wO _;have q6:IntKind.i64.wrap ((e:Int)+6)=(e:Int)+6:=wO _;replace ⟨bw,dm,bx,bg,ae,dn,ak⟩:=q_7 bw dm bx bg ae dn ak;go_upto_if 115 with fail
 by_cases hz:Z=true/\ck=0
 ·obtain⟨rfl,rfl⟩:=hz;have eo:(e:Int)+6=(O:Int):=by have:=bx.out;have e6:whR true=6:=rfl;omega
  have ax:dE 0 U w wc (.returned (.tuple #[.slice b7 T b8,.int .i64 0])):=by
   refine dE.yes ?_ j;rw[<-dn.out];unfold out5;rw[bg.out,bBa ⟨rfl,rfl⟩];exact dm
  replace ax:=q_ ax;clear ai;go_wp2_with fail
  refine(ae _ bw).mono ?_;rintro en w' ⟨rfl,rfl⟩;go_wp2_with fail
  go_ret2;exact ax
 obtain⟨cz,f0⟩:=eX (((ck:Int) == 0));go_cut [18] (fun kv wx=>kv=.int .i64 (O:Int)/\wc=wx)
 case first =>
  clear ai;rcases Z with _|_
  ·have eo:(e:Int)+16=(O:Int):=by have:=bx.out;have e6:whR false=16:=rfl;omega
   go_wp2_with fail
   go_meet;exact⟨by rw[eo],rfl⟩
  ·have eo:(e:Int)+6=(O:Int):=by have:=bx.out;have e6:whR true=6:=rfl;omega
   have il:((ck:Int) == 0)=false:=by rw[bDa];intro h;exact hz ⟨rfl,by omega⟩
   clear f0;go_wp2_with fail
   refine(ae _ bw).mono ?_;rintro en w' ⟨rfl,rfl⟩;go_wp2_with fail
   go_meet;exact⟨rfl,rfl⟩
 case rest =>
 obtain⟨rfl,rfl⟩:=hcut;clear f0 ai;obtain⟨fs,bh⟩:=eX (gH E aa ab);obtain⟨ts,bz⟩:=eX (gH E W X);obtain⟨ml,b5⟩:∃ml,fs.length+1=ml:=⟨_,rfl⟩
 have im:ml<=9:=by rw[<-b5,<-bh,tJ];split<;>omega
 have ep:ts.length+1=ml:=by rw[<-b5,<-bh,<-bz,tJ,tJ]
 obtain⟨cq,c3⟩:∃cq,gZ ck (fs++[wp]) (ts++[Y])=cq:=⟨_,rfl⟩
 have io:cq<=65535:=c3▸aBf _ _ ck (by omega);obtain⟨o4,b0⟩:=eX (dJ o3 O (beB cq 2));have eq:(fs++[wp]).length=ml:=by rw[bHa];exact b5
 have er:(ts++[Y]).length=ml:=by rw[bHa];exact ep
 have es:o4.length=T:=by rw[<-b0,gM _ _ _ (by rw[aR,bs.out];omega),bs.out]
 have et:beN o4 O 2=cq:=by rw[<-b0];exact aJz o3 O cq (by rw[bs.out];omega) (by omega)
 have c2:(if Z=true/\cq=0 then dJ o4 O (beB 65535 2)else o4)=U:=by
  rw[<-dn.out];unfold out5;rw[bg.out,bAa hz,bh,bz,c3,b0]
 have eu:∀x∈fs++[wp],x<=65535:=by
  intro x J;rcases List.mem_append.1 J with h|h
  ·exact aCk _ _ _ x (bh▸h)
  ·rw[List.mem_singleton.1 h];exact fi
 have ev:∀x∈ts++[Y],x<=65535:=by
  intro x J;rcases List.mem_append.1 J with h|h
  ·exact aCk _ _ _ x (bz▸h)
  ·rw[List.mem_singleton.1 h];exact fe
 have ej:=pU N;have ek:=pU ad;have ct:=fun(l:Later wc) (o:Nat)=>aA (aC l.hb ej N) o
 have el:=fun(l:Later wc) (o:Nat)=>aA (aC l.hb ek ad) o
 replace ⟨bh,bz,c3,b0,es,et,c2,eu,ev,eq,er⟩:=q_11 bh bz c3 b0 es et c2 eu ev eq er;replace ⟨b5,ep⟩:=q_2 b5 ep;go_upto_region 22 with fail
 refine rL ?_;refine eS 0 4 6 ?_;simp only[dA,dC,dD];iterate 4 refine qE ?_
 refine aT ?_;refine eS 5 2 4 ?_;simp only[dB,dA,dC,dD];iterate 2 refine qE ?_
 refine aT ?_;clear ct el;refine eT 4 rfl fun l K G=>?_;go_simp;go_at_call 131;refine(aBg E aa ab wp (wp:Int) rfl _ dc dd fi).mono ?_;rintro en bl ⟨g5,rfl,cc,ag⟩;rw[bh.out]at cc;obtain⟨e0,e1,rfl,-,-,bj⟩:=cc.form;rw[eq.out]at bj ⊢;refine G _ _ ag ?_;clear G K cc;refine eT 7 rfl fun l2 K G=>?_;go_simp;go_at_call 131;refine(aBg E W X Y (Y:Int) rfl _ h1 h2 fe).mono ?_;rintro en e5 ⟨g6,rfl,cd,az⟩;rw[bz.out]at cd;obtain⟨e2,e3,rfl,-,-,bk⟩:=cd.form;rw[er.out]at bk ⊢;refine G _ _ az ?_;clear G K cd;refine eT 8 rfl fun l3 K G=>?_;go_simp;go_at_call 130;have zl:=l.hb.size;have gq:=ag.size;have em:=l2.hb.size;have gr:=az.size;have gs:=l3.hb.size;have c1:Below wc.heap.size wc bl:=l.hb.trans (ag.mono zl);have al:Below bl.heap.size bl e5:=l2.hb.trans (az.mono em);have am:Below wc.heap.size wc l3.w:=((tw c1 al)).trans (l3.hb.mono (by omega));refine(aA0 b7 e0 e2 T b8 O ml e1 e3 (O:Int) rfl o3 (fs++[wp]) (ts++[Y]) l3.w (bw.on am) (by omega) (by omega) ((bj.on al).on l3.hb) (bk.on l3.hb) eu ev (by omega) (by have:=b5.out;omega)).mono ?_;rintro en g9 ⟨ha,rfl,bm,a0⟩;rw[bg.out,c3.out,b0.out]at bm;refine G _ _ a0 ?_;clear G K;refine eE fun l4=>?_;have an:=(bm.below l4.hb).weaken (show w.heap.size<=l3.w.heap.size by omega);have bf:Below wc.heap.size wc l4.w:=((tw am a0)).trans (l4.hb.mono (by have:=a0.size;omega));obtain⟨ds,dt,rfl,du,fz,b6⟩:=an.form;rw[es.out]at an du b6 ⊢;clear c1 al am bj bk ag az a0 bm bw dm ae;replace ⟨an,b6⟩:=q_2 an b6;refine tM 9 rfl ?_;refine tD ?_;replace j:=q_ (j.trans (bf.mono j.size));replace N:=q_ (aG bf N);replace V:=q_ (aG bf V);replace ad:=q_ (aG bf ad);clear bf;have ae:=fun w' hi=>fB (O:Int) 2 O 2 rfl rfl ds T dt o4 w' hi (by unfold maxLen;omega) (by omega) (by omega)
 rw[et.out]at ae;have I:=V.out;rw[<-hy.out]at I;unfold pkA at I;have ai:=aA I;have fx:=j.size;clear I;by_cases hu:Z=true
 ·subst hu;by_cases fb:cq=0
  ·have gt:((cq:Int) == 0)=true:=by rw[fb];rfl
   have bi:Hid (dJ o4 O (beB 65535 2)=U):=q_ (by have:=c2.out;rwa[bBa ⟨rfl,fb⟩]at this);clear hz;replace ae:=q_ ae;go_wp2_with fail
   refine(ae _ b6).mono ?_;rintro en w' ⟨rfl,rfl⟩;clear ai;go_wp2_with fail
   have cx:=aCb ds T dt o4 O 65535 2 (O:Int) 65535 2 rfl rfl rfl _ b6 (by omega) (by omega) (by omega) (by omega) (by omega);refine cx.mono ?_;clear cx;rintro en iz ⟨i0,rfl,e7,f1⟩;rw[bi.out]at e7;have ax:=q_ (dE.yes (e7.weaken fx) (j.trans (f1.mono fx)));clear e7 f1;go_wp2_with fail
   go_ret2;exact ax
  ·have gt:((cq:Int) == 0)=false:=by rw[bDa];omega
   have bi:o4=U:=by have:=c2.out;rwa[bAa (fun h=>fb h.2)]at this
   have ax:=q_ (dE.yes (bi▸an) j);clear hz bi;replace ae:=q_ ae;go_wp2_with fail
   refine(ae _ b6).mono ?_;rintro en w' ⟨rfl,rfl⟩;clear ai;go_wp2_with fail
   go_ret2;exact ax
 ·obtain rfl:Z=false:=by simpa using hu
  have bi:o4=U:=by have:=c2.out;rwa[bAa (fun h=>hu h.1)]at this
  have ax:=q_ (dE.yes (bi▸an) j);clear hz bi;replace ae:=q_ ae;go_wp2_with fail
  go_ret2;exact ax
theorem aK4(n c:Nat)(xs U:List UInt8)(y:Array Value)(L:Bool)(pr:Int)(sv:Bool)(an ao:Int)(dv:Bool)(aq ar sp dp aw:Int)(fl:Int)(ay:Int)(az:Bool)(a0 a1:Int)(a2:Bool)(a3 a4 a5 a6 sz:Int)
 (N:pkG L pr sv an ao dv aq ar sp dp aw fl false ay az a0 a1 a2 a3 a4 a5 a6 sz=y) (s:Int) (j:Bool) (I J:Nat) (X:Int) (Y:s=0\/s=1) (p1:0<=X) (p2:X<=65535) (Z:j≠L\/okA j (I:Int) (J:Int)=false) (A:Option Addr) (w:World) (O:IsB w w.heap.size A n xs) (a7:n<=c) (a8:c<=maxLen) (hP:PIs n xs 0 y) :
 Cl 86 #[.slice A n c,.int .i64 s,.agg #[.bool j,.int .u64 (I:Int),.int .u64 (J:Int)],.int .i64 X] w fun en w'=>dE 18 U w w' en:=by
 obtain⟨w1,ad⟩:=eX (w.alloc (.cells #[.bool j,.int .u64 (I:Int),.int .u64 (J:Int)] 27));have E:Hid (Below w.heap.size w w1):=q_ (ad▸bC);have G:Hid (w1.heap[w.heap.size]?=some (.cells #[.bool j,.int .u64 (I:Int),.int .u64 (J:Int)] 27 (0,0))):=q_ (ad▸aJ _ _ _);replace O:=O.on E;have ai:Hid (y.size=23):=q_ (N▸rfl);have bb:Hid (y.all (·.oneCell')=true):=q_ (N▸aQr _ _ _ _ _ _ _ _ _ _ _ _ _ _ _ _ _ _ _ _ _ _ _);replace ⟨hP,O,N,Z,Y⟩:=q_5 hP O N Z Y;go_enter func86,ntmps86;go_upto_region 1 with fail
 apply aWa;clear ad;refine pS ?_;refine bRa rfl fun K hK=>?_;go_simp;refine(hP _ c _ O a7 a8).mono ?_;rintro e w2 hE;obtain⟨rfl,ae⟩:=hE;rw[bBa rfl];replace E:=q_ (E.trans (ae.mono E.size));replace G:=q_ (aG ae G);clear ae;go_simp;refine hK _ _ ?_;clear hK K;iterate 3 refine pS ?_
 refine gF rfl rfl 48 _ (vR _ rfl) 10 rfl (.tmp 22) rfl _ (fun _=>rfl) (fun _=>rfl) (by rw[bG];exact ai) (by rw[bK,ai.out]) bb ?_;intro w3 ak ag bl;replace E:=q_ (E.trans (ag.mono E.size));replace G:=q_ (aG ag G);clear ag;refine pS ?_;refine bCa ?_;have W:=ak;rw[<-N.out]at W;unfold pkG at W;have bc:=aA W;have bd:=aA G;clear W ak;go_upto_region 4 with fail
 go_cut [28] (fun bv wx=>bv=.bool false/\w3=wx)
 case first =>
  rcases Y with rfl|rfl
  .go_wp2_with fail
   go_meet;refine⟨?_,rfl⟩
   congr 1
   simp only[hMa,bEa];omega
  .go_wp2_with fail
   go_meet;refine⟨?_,rfl⟩
   congr 1
   simp only[hMa,bEa];omega
 case rest =>
 obtain⟨rfl,rfl⟩:=hcut;by_cases V:j=L
 .have ab:okA j (I:Int) (J:Int)=false:=by
   rcases Z with h|h
   .exact absurd V h
   .exact h
  subst V;have be:(j != j)=false:=by simp
  replace ab:=q_ ab;go_upto_region 6 with fail
  go_wp2_with fail
  clear bc bd;refine(jB j I J false _ ab).mono ?_;rintro e w5 ⟨rfl,af⟩;replace E:=q_ (E.trans (af.mono E.size));replace G:=q_ (aG af G);clear af;have ac:=q_ (dE.no U (show 18≠0 by omega) E);go_wp2_with fail
  go_ret2;exact ac
 .have be:(j != L)=true:=by rw[dLa];exact V
  have ac:=q_ (dE.no U (show 18≠0 by omega) E);replace V:¬ j=L:=V;go_wp2_with fail
  go_ret2;exact ac
theorem dE.as{U V:List UInt8}{K:Nat}{w:World}{e:Ending}(h:dE K U w w' e)(j:K≠0):dE K V w w' e:=by
 obtain⟨v,A,I,E,G⟩:=h;exact⟨v,A,fun h=>absurd h j,E,G⟩
theorem aMb(U:Int)(j:Bool)(E G:Nat)(V:Bool)(I J:Nat)(L N O:Int)(A:Option Addr)(n c:Nat)(xs:List UInt8)(w:World)(W:IsB w w.heap.size A n xs)(X:n<=4000)
 (Y:E<18446744073709551616) (Z:G<18446744073709551616) (h6:I<18446744073709551616) (h7:J<18446744073709551616) :
 Cl 18 #[.agg (tuA U j E G V I J L N),.int .i64 O,.slice A n c] w fun e w'=>dE (aVm U j E G V I J L N O) (xE j E G I J 17 O (dgU j E G I J L N xs)) w w' e:=by
 by_cases h:U≠17\/j≠V
 .have hk:aVm U j E G V I J L N O=1:=by unfold aVm;rw[bBa h]
  rw[hk];exact(aPd U j E G V I J L N O A n c w h).mono fun e w' he=>he.as (by omega)
 .obtain⟨rfl,rfl⟩:U=17/\j=V:=by simpa using h
  rcases j with _|_
  .exact aLf E G I J L N O A n c xs w W X Y Z h6 h7
  .exact aMc E G I J L N O A n c xs w W X Y Z h6 h7
theorem aSq(A E G:Nat)(j:Bool)(U:List UInt8)(n J L N:Nat)(O:20+U.length=n)(V:A<4294967296)(W:E<4294967296)(X:G<=255)(Y:U.length<=4096)
 (Z:Up false j (kY false 0 A 0 E (prN j) U.length) U J L N):wE n (xE false 0 A 0 E (prN j) G U) n 20 j U A E J L G N:=by
 have hw:xE false 0 A 0 E (prN j) G U=hdB 0 0 0 G (prN j) A E [] U.length++U:=by
  unfold xE;rw[bAa (by simp),bMa]
 rw[hw];obtain⟨xs,I⟩:∃xs,hdB 0 0 0 G (prN j) A E [] U.length++U=xs:=⟨_,rfl⟩
 have al:xs.length=20+U.length:=by rw[<-I,bHa,aCw];rfl
 have ab:prN j<=255:=by rcases j with _|_<;>decide
 obtain⟨p1,p2,p3,p4,p5,p6,p7,p8,p9,ah,ai,aj,aq,ak,ar⟩:=aVx 0 0 0 G (prN j) A E [] U [] 0 U.length rfl rfl (by omega) (by omega) (by omega) X ab V W (by omega) (by omega) Y xs (by rw[ePa];exact I);rw[I];refine⟨⟨by omega,by omega,p1,by omega,by omega,p4,by omega,by omega,?_⟩,by omega,by omega,by omega,ah,?_,ai,aj,p9,?_⟩
 .rw[p2];exact p5
 .rw[<-O];exact ak
 .rw[<-O,fSa];exact Z
theorem aPb(j:Bool)(a b c d e f:Nat):(kY j a b c d e f).length % 2=0:=by
 unfold kY kR;split<;>simp[aR,nS]
theorem up_dg(j:Bool)(A E G I s d:Nat)(xs:List UInt8)(J:s<=65535)(L:d<=65535)(W:xs.length<=4000):Up j true (kY j A E G I 17 (8+xs.length)) (dgU j A E G I s d xs) s d 0:=by
 obtain⟨N,O,U,V,_⟩:=aVw (!j) (kY j A E G I 17 (8+xs.length)) s d xs (aPb _ _ _ _ _ _ _) J L (by omega);have X:whR true=6:=rfl;exact⟨by unfold dgU;rw[bMa,bMa,V];omega,by rw[bBa rfl];exact N,O,U,by rw[bBa rfl]⟩
theorem aWk(j A s d E:Nat)(xs:List UInt8)(n:Nat)(V:28+xs.length=n)(G:j<4294967296)(I:A<4294967296)(J:E<=255)(L:s<=65535)(N:d<=65535)(O:xs.length<=4000) :
 wE n (xE false 0 j 0 A 17 E (dgU false 0 j 0 A s d xs)) n 20 true (dgU false 0 j 0 A s d xs) j A s d E 0:=by
 have U:=aCp false 0 j 0 A s d xs;refine aSq j A E true _ n s d 0 (by omega) G I J (by omega) ?_;rw[U];exact up_dg false 0 j 0 A s d xs L N O
theorem aU0{I e:Nat}{J:Bool}{L W X Y:Nat}(h:wE n xs I e J R L N V W X Y)(Z:n<=4000)(s j E G:Nat)(O:s<=1)(hw:(if s=0 then L else N)=G)(ht:j<4294967296)(ab:E<=65535)(A:Option Addr)(c:Nat)(w:World)(U:IsB w w.heap.size A n xs)(ac:n<=c)(ad:c<=maxLen) :
 Cl 86 #[.slice A n c,.int .i64 (s:Int),.agg #[.bool false,.int .u64 ((0:Nat):Int),.int .u64 (j:Int)],.int .i64 (E:Int)] w fun en w'=>dE 0 (aXs xs I e J R s j E G) w w' en:=by
 obtain⟨s1,s2,s3,s4,s5,s6,s7,s8,s9⟩:=h.sizes;obtain⟨u1,u2⟩:=h.up.aE6;have hl:=h.up.len;have hP:=h.pis Z;rw[<-aU3 h s j E G _ O hw rfl];refine aCd false J n c I (12+4*s) 4 e s xs 0 L 0 N V W X Y 0 j E 0 G _ A w U ac ad Z O hP (fun w U=>place4 n xs h.ok.h2 h.ok.h1 s O e h.he A c w U) (by simp[okA];omega) (by omega) (by omega) ab u1 u2 (by omega) (by omega) (by omega) (by omega) (by split<;>rfl) hw rfl s4 (by omega) rfl (by omega) (by omega) (by omega)
theorem aU1{e:Nat}{U Z dp ab fl:Nat}(h:wF n xs Y e I R N O U V Z dp ab fl)(hn:n<=4000)(s j E G J L:Nat)(W:s<=1)(ag:(if s=0 then N else U)=J)(ah:(if s=0 then O else V)=L)(ai:j<18446744073709551616)(aj:E<18446744073709551616)(ak:G<=65535)(A:Option Addr)(c:Nat)(w:World)(X:IsB w w.heap.size A n xs)(ae:n<=c)(af:c<=maxLen) :
 Cl 86 #[.slice A n c,.int .i64 (s:Int),.agg #[.bool true,.int .u64 (j:Int),.int .u64 (E:Int)],.int .i64 (G:Int)] w fun en w'=>dE 0 (aXt xs e I R s j E G J L) w w' en:=by
 obtain⟨s1,s2,s3,s4,s5,s6,s7,s8,s9⟩:=h.sizes;obtain⟨u1,u2⟩:=h.up.aE6;have hl:=h.up.len;have hP:=h.pis hn;obtain⟨f1,f2,f3,f4,f5,f6,f7,f8⟩:=h.ok.facts;rw[<-aU4 h s j E G J L _ W rfl];refine aCd true I n c (e+R.length) (8+16*s) 16 e s xs N O U V Z dp ab fl j E G J L _ A w X ae af hn W hP (fun w X=>place6 n xs _ _ _ _ _ _ _ _ _ Y (prN I) R.length R (h.ok.is (by omega)) f6 f7 (by omega) (by omega) s W e h.he (by omega) A c w X ae af) rfl ai aj ak u1 u2 s5 s6 s7 s8 ag ah rfl s2 (by omega) (by unfold pQ;rw[bBa rfl,bHa,aR,aR]) (by omega) (by omega) (by omega)
end Go.Proofs.YtpcifakangbpaaaGreat
