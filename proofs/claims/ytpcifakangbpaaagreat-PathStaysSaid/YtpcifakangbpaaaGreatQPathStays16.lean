/- Parts of the proof of PathStays: contracts of functions of the program. No condition but those that each theorem names. -/
import Derived.Test.YtpcifakangbpaaaGreatQPathStays11
import Derived.Test.YtpcifakangbpaaaGreatQPathStays14
set_option linter.unusedVariables false
set_option linter.unusedSimpArgs false
set_option maxRecDepth 100000
set_option maxHeartbeats 16000000
namespace Go.Proofs.YtpcifakangbpaaaGreat
open Go.RowKit Go.ChangeShapes Go.WideShapes Go.ChangeAt Go.Deep Go.Proofs.Tryz
variable {R xs:List UInt8}{B E J N O S V b base' c f fuel g i j k m n s sd sz:Nat}{Q:Exit->Act->World->Prop}{d w' w0:World}{u v z:Value}{T e t:TypeId}{A:Option Addr}{h os:List Nat}{F:List UInt8->Option Nat}{p:List Nat×List Bool}{a:Act}{α:Type}{H l:List Int}{o:Oper}{G:Array Oper}{K:Act->World->Prop}{y:Array Value}{vs:List Value}{L:List Oper}{I:Bool}{U W Y aa:List (Int×List UInt8)}{P:Program}
section
variable {P:Program} {ops:Array Oper} {w0:World} {Q:Act->Prop} {a:Act} {op:Oper} {rest:List Oper}
theorem nY(v:Value)(j:Region.wanted op (yielded ops a.tmps)=true)(A:∀l:Later w0,(execOp a.eval op).run P l.w=.ok (.value v) l.w)
 (h:qM P ops w0 Q rest (a.put op.dst v)):qM P ops w0 Q (op :: rest) a:=aD fun K E=>by
 rw[bBa j];refine⟨v,fun l=>?_,E _ h⟩;rw[A l];exact⟨rfl,mG _⟩
theorem jL(w:World)(j:Operand->Value)(ty:TypeId)(x:Operand)(A:op.op=.load ty x)(g:Nat)(E:j x=.pointer (some ⟨g,0,none⟩))(cs:Array Value)(d:TypeDesc)
 (G:w.heap[g]?=some (.cells cs t (0,0))) (I:P.underlying ty=some d) (J:d.isRow=true) (L:(P.info? ty).map (·.size)=some cs.size):(execOp j op).run P w=.ok (.value (.agg cs)) w:=by
 have N:=run_loadVar_mid (P:=P) w g 0 ty cs.toList d (aM G) I J (by rw[L,bUa]);unfold execOp;simp only[A,E,Instr.loadAt,Instr.sureAddr,fJa,fHa,dNa,N]
end
def pkG (v6:Bool) (pr:Int) (sv:Bool) (shi slo:Int) (dv:Bool) (dhi dlo sp dp ttl fl:Int) (er:Bool) (apr:Int) (asv:Bool) (ashi aslo:Int) (adv:Bool) (adhi adlo asp adp sz:Int):Array Value:=#[.bool v6,.int .i64 pr,.bool sv,.int .u64 shi,.int .u64 slo,.bool dv,.int .u64 dhi,.int .u64 dlo,.int .i64 sp,.int .i64 dp,.int .i64 ttl,.int .i64 fl,.bool er,.int .i64 apr,.bool asv,.int .u64 ashi,.int .u64 aslo,.bool adv,.int .u64 adhi,.int .u64 adlo,.int .i64 asp,.int .i64 adp,.int .i64 sz]
section
variable {P:Program} {md:Region.Mode} {Q:Exit->Act->World->Prop} {R:World->World->Prop}
theorem wpF_st(i:Nat){j:Oper}{rest:List Oper}{A:Array Bool}{w:World}(N:L.drop i=j :: rest)(O:Region.ready md L.toArray A=[i])(U:j.guard=none)
 (ty:TypeId) (x y:Operand) (V:j.op=.store ty x y) (g o:Nat) (W:a.eval x=.pointer (some ⟨g,o,none⟩)) (vs:Array Value) (X:a.eval y=.agg vs) {cs:Array Value} {t:TypeId} (E:w.heap[g]?=some (.cells cs t (0,0))) (G:o+vs.size<=cs.size)
 (Y:(P.info? ty).map (·.size)=some vs.size) (Z:vs.all (·.oneCell')=true)
 (h:∀w',w'.heap[g]?=some (.cells (pE cs o vs.toList) t (0,0))->w.grownBy w' (some g)->R w w'/\wpF P md L.toArray Q R fuel (A.setIfInBounds i true) (a.put j.dst undef) w'):wpF P md L.toArray Q R (fuel+1) A a w:=by
 obtain⟨w',e,I,J⟩:=aBe (o:=o) E vs.toList (by simpa using G);refine aK i N O fun K hK=>?_;rw[bBa (by unfold Region.wanted;rw[U])];refine wp_store_mid ty x y V g o vs W X (aAz E G) Y Z ?_;rw[e];exact hK _ _ (h w' I J).1 (h w' I J).2
end
theorem aQr(A:Bool)(E:Int)(G:Bool)(I J:Int)(L:Bool)(N O U V W X:Int)(Y:Bool)(Z:Int)(aa:Bool)(ab ac:Int)(ad:Bool)(ae af ag ah sz:Int):(pkG A E G I J L N O U V W X Y Z aa ab ac ad ae af ag ah sz).all (·.oneCell')=true:=all_oneCell_toArray (by
 intro v j;simp only[bXa,bVa,dTa]at j;rcases j with rfl|rfl|rfl|rfl|rfl|rfl|rfl|rfl|rfl|rfl|rfl|rfl|rfl|rfl|rfl|rfl|rfl|rfl|rfl|rfl|rfl|rfl|rfl<;>rfl)
def IsG (y:Array Value):Prop:=∃(v6:Bool) (pr:Int) (sv:Bool) (shi slo:Int) (dv:Bool) (dhi dlo sp dp ttl:Int) (fl:Nat) (er:Bool) (apr:Int) (asv:Bool) (ashi aslo:Int) (adv:Bool) (adhi adlo asp adp sz:Int),fl<=255/\y=pkG v6 pr sv shi slo dv dhi dlo sp dp ttl fl er apr asv ashi aslo adv adhi adlo asp adp sz
def zB (cs y:Array Value):Prop:=(∃s d f:Nat,f<=255/\y=tcpA cs s d f)\/(∃s d:Nat,y=aAu cs s d)\/∃(qr:Int) (sv:Bool) (sh sl:Int) (dv:Bool) (dh dl sp dp:Int),y=vT cs (tuA qr sv sh sl dv dh dl sp dp)
theorem zB.size{cs:Array Value}(h:zB cs y)(j:cs.size=23):y.size=23:=by
 rcases h with⟨s,d,f,_,rfl⟩|⟨s,d,rfl⟩|⟨A,E,G,I,J,L,N,O,U,rfl⟩
 .unfold tcpA;simp[j]
 .unfold aAu;simp[j]
 .unfold vT;rw[yT _ _ _ (by rw[bQa,j];exact(show 13+9<=23 by omega)),bQa,j]
theorem zB.one{cs:Array Value}(h:zB cs y)(j:cs.all (·.oneCell')=true):y.all (·.oneCell')=true:=by
 rcases h with⟨s,d,f,_,rfl⟩|⟨s,d,rfl⟩|⟨A,E,G,I,J,L,N,O,U,rfl⟩
 .exact one_set (one_set (one_set j _ rfl) _ rfl) _ rfl
 .exact one_set (one_set j _ rfl) _ rfl
 .unfold vT;exact aH1 (one_set j _ rfl) (by simpa using zU A E G I J L N O U)
theorem zB.four{A G:Nat}(h:zB (p4A j A E G sz) y):IsG y:=by
 rcases h with⟨s,d,f,I,rfl⟩|⟨s,d,rfl⟩|⟨J,L,N,O,U,V,W,X,Y,rfl⟩
 .exact⟨false,j,false,0,A,false,0,E,s,d,G,f,false,0,false,0,0,false,0,0,0,0,sz,I,rfl⟩
 .exact⟨false,j,false,0,A,false,0,E,s,d,G,0,false,0,false,0,0,false,0,0,0,0,sz,by omega,rfl⟩
 .exact⟨false,j,false,0,A,false,0,E,0,0,G,0,true,J,L,N,O,U,V,W,X,Y,sz,by omega,rfl⟩
theorem zB.six{A G I:Nat}(h:zB (p6A j A E G I J sz) y):IsG y:=by
 rcases h with⟨s,d,f,L,rfl⟩|⟨s,d,rfl⟩|⟨N,O,U,V,W,X,Y,Z,dp,rfl⟩
 .exact⟨true,j,true,A,E,true,G,I,s,d,J,f,false,0,false,0,0,false,0,0,0,0,sz,L,rfl⟩
 .exact⟨true,j,true,A,E,true,G,I,s,d,J,0,false,0,false,0,0,false,0,0,0,0,sz,by omega,rfl⟩
 .exact⟨true,j,true,A,E,true,G,I,0,0,J,0,true,N,O,U,V,W,X,Y,Z,dp,sz,by omega,rfl⟩
theorem aUc(K:Nat)(xs:List UInt8):wQ K xs<=255:=by
 unfold wQ;split
 .have:=(xs.getD 13 0).toNat_lt;omega
 .omega
def xY (g:Array Value->Array Value):Prop:=(∃s d f:Nat,f<=255/\g=fun cs=>tcpA cs s d f)\/(∃s d:Nat,g=fun cs=>aAu cs s d)\/∃(qr:Int) (sv:Bool) (sh sl:Int) (dv:Bool) (dh dl sp dp:Int),g=fun cs=>vT cs (tuA qr sv sh sl dv dh dl sp dp)
theorem xY.from{g:Array Value->Array Value}(h:xY g)(cs:Array Value):zB cs (g cs):=by
 rcases h with⟨s,d,f,j,rfl⟩|⟨s,d,rfl⟩|⟨A,E,G,I,J,L,N,O,U,rfl⟩
 .exact .inl ⟨s,d,f,j,rfl⟩
 .exact .inr (.inl ⟨s,d,rfl⟩)
 .exact .inr (.inr ⟨A,E,G,I,J,L,N,O,U,rfl⟩)
theorem aDf(E:Bool)(G:Int)(xs j:List UInt8)(X:xs.length<=1099511627776)(Y:j.length<=maxLen) :
 ∃K g,xY g/\∀cs:Array Value,cs.size=23->cs.all (·.oneCell')=true->cs[0]?=some (.bool E)->cs[1]?=some (.int .i64 G)->aVk cs (if E=true then 58 else 1) xs j K (g cs):=by
 by_cases Z:G=6
 .exact⟨_,fun cs=>tcpA cs (kM (jV j xs) xs 0) (kM (jV j xs) xs 2) (wQ (jV j xs) xs),.inl ⟨_,_,_,aUc _ _,rfl⟩,
   fun cs I J L N A P c d w O U V W=>aEi cs I J E L G N _ A P c d xs j w O U V W X Y Z _ rfl _ (fun _=>rfl)⟩
 by_cases aa:G=17
 .exact⟨_,fun cs=>aAu cs (kN (jK (!E) j xs) xs 0) (kN (jK (!E) j xs) xs 2),.inr (.inl ⟨_,_,rfl⟩),
   fun cs I J L N A P c d w O U V W=>aEj cs I J E L G N _ A P c d xs j w O U V W X Y aa _ rfl _ (fun _=>rfl)⟩
 by_cases he:G=(if E=true then 58 else 1)
 .have ha:(uY E j).length<=maxLen:=by
   unfold uY;split
   .exact Y
   .simp[maxLen]
  obtain⟨K1,ty,cd,wd,ds,_,av,hP⟩:=aNe xs (uY E j) X ha;obtain⟨K2,qr,sv,sh,sl,dv,dh,dl,sp,dp,hQ⟩:=aUj E ty ds (by omega);exact⟨_,fun cs=>vT cs (tuA qr dv dh dl sv sh sl dp sp),.inr (.inr ⟨_,_,_,_,_,_,_,_,_,rfl⟩),
   fun cs I J L N A P c d w O U V W=>aK6 cs I J E L G N _ A P c d xs j w O U V W X Y Z aa he K1 ty cd wd ds hP K2 qr sv sh sl dv dh dl sp dp hQ⟩
 .exact⟨14,fun cs=>aAu cs 0 0,.inr (.inl ⟨0,0,rfl⟩),fun cs I J L N A P c d w O U V W=>aHq cs I J E L G N _ A P c d xs j w O U V W X Y Z aa he _⟩
theorem aRs{g:Array Value->Array Value}(h:xY g)(j A E t G sz:Nat)(I:(G:Int)=(t:Int) - 1) :
 (g (p4A j A E t sz))[10]?=some (.int .i64 (t:Int))/\(g (p4A j A E t sz)).setIfInBounds 10 (.int .i64 ((t:Int) - 1))=g (p4A j A E G sz):=by
 rw[<-I];rcases h with⟨s,d,f,_,rfl⟩|⟨s,d,rfl⟩|⟨J,L,N,O,U,V,W,X,Y,rfl⟩
 .exact⟨rfl,rfl⟩
 .exact⟨rfl,rfl⟩
 .exact⟨rfl,rfl⟩
theorem aRt{g:Array Value->Array Value}(h:xY g)(j A E G I t J sz:Nat)(L:(J:Int)=(t:Int) - 1) :
 (g (p6A j A E G I t sz))[10]?=some (.int .i64 (t:Int))/\(g (p6A j A E G I t sz)).setIfInBounds 10 (.int .i64 ((t:Int) - 1))=g (p6A j A E G I J sz):=by
 rw[<-L];rcases h with⟨s,d,f,_,rfl⟩|⟨s,d,rfl⟩|⟨N,O,U,V,W,X,Y,Z,dp,rfl⟩
 .exact⟨rfl,rfl⟩
 .exact⟨rfl,rfl⟩
 .exact⟨rfl,rfl⟩
def PIs (n:Nat) (xs:List UInt8) (K:Nat) (y:Array Value):Prop :=
 ∀(A:Option Addr) (c:Nat) (w:World),IsB w w.heap.size A n xs->n<=c->c<=maxLen->Cl 11 #[.slice A n c] w fun e w'=>mD K y w w' e
theorem zR(h:sF n xs)(N:n<=9000)(s j:Nat)(O:(xs.getD 0 0).toNat % 16*4=s)(U:beN xs 2 2=j)(K:Nat)(g:Array Value->Array Value)(V:xY g)
 (Z:∀cs:Array Value,cs.size=23->cs.all (·.oneCell')=true->cs[0]?=some (.bool false)->cs[1]?=some (.int .i64 ((xs.getD 9 0).toNat:Int))->aVk cs 1 ((xs.take j).drop s) (ps4 (beN xs 12 4) (beN xs 16 4) (xs.getD 9 0).toNat (j - s)) K (g cs)) :
 PIs n xs (if beN xs 6 2 % 16384=0 then K else 21) (g (p4A (xs.getD 9 0).toNat (beN xs 12 4) (beN xs 16 4) (xs.getD 8 0).toNat j)):=by
 have L:=h.is (by omega) s j O U;have g3:=h.h3;have g4:=h.h4;have W:=h.h6;have g7:=h.h7;have gl:=h.len;rw[O]at g3 g4 W;rw[U]at W g7;have b9:=(xs.getD 9 0).toNat_lt;have ad:((xs.take j).drop s).length=j - s:=by rw[cCa,bGa];omega
 by_cases J:0<beN xs 6 2 % 8192\/decide (beN xs 6 2 / 8192 % 2=1)=true
 .have ae:¬ beN xs 6 2 % 16384=0:=by
   rcases J with J|J
   .omega
   .rw[eRa]at J;omega
  rw[bAa ae];exact fun A c w E G I=>aCg n xs (by omega) N h.h2 21 _ (fun h=>absurd h (by omega)) (fun A c w E G I=>aPk n xs _ _ _ _ _ _ _ _ _ _ _ _ L J _ A c w E G I) A c w E G I
 .have h1:beN xs 6 2 % 8192=0:=by omega
  have X:decide (beN xs 6 2 / 8192 % 2=1)=false:=by
   cases h3:decide (beN xs 6 2 / 8192 % 2=1)with
   | false=>rfl
   | true=>exact absurd (.inr h3) J
  rw[h1,X]at L;rw[bEa]at X;rw[bBa (by omega)];have Y:K=0->(g (p4A (xs.getD 9 0).toNat (beN xs 12 4) (beN xs 16 4) (xs.getD 8 0).toNat j)).size=23/\(g (p4A (xs.getD 9 0).toNat (beN xs 12 4) (beN xs 16 4) (xs.getD 8 0).toNat j)).all (·.oneCell')=true :=
   fun _=>⟨(V.from _).size rfl,(V.from _).one (aJf _ _ _ _ _)⟩
  have ag:=Z (p4A (xs.getD 9 0).toNat (beN xs 12 4) (beN xs 16 4) (xs.getD 8 0).toNat j) rfl (aJf _ _ _ _ _) rfl rfl;have e:20+(s - 20)+(j - s)=j:=by omega
  exact fun A c w E G I=>aCg n xs (by omega) N h.h2 K _ Y (fun A c w E G I=>aUa n xs _ _ _ _ _ _ _ _ _ _ L (by omega) (by omega) (bX xs 12 4) (bX xs 16 4) ad K _ (by rw[e];exact ag) Y A c w E G I) A c w E G I
theorem aCc{j:List (Int×List UInt8)}{rest:List UInt8}(h:tF n xs j E rest)(N:n<=9000)(K:Nat)(g:Array Value->Array Value)(O:xY g)
 (hU:∀cs:Array Value,cs.size=23->cs.all (·.oneCell')=true->cs[0]?=some (.bool true)->cs[1]?=some (.int .i64 (E:Int))->aVk cs 58 rest (kR (beN xs 8 8) (beN xs 16 8) (beN xs 24 8) (beN xs 32 8) rest.length E) K (g cs)) :
 PIs n xs (if nZ j=0/\qQ j=false then K else 21) (g (p6A E (beN xs 8 8) (beN xs 16 8) (beN xs 24 8) (beN xs 32 8) (xs.getD 7 0).toNat (40+nK j+rest.length))):=by
 have U:=h.is (by omega);obtain⟨f1,Y,f3,f4,f5,Z,f7,f8⟩:=h.facts;by_cases L:0<nZ j\/qQ j=true
 .have ab:¬ (nZ j=0/\qQ j=false):=by
   rcases L with L|L
   .omega
   .rw[L];exact fun h=>by cases h.2
  rw[bAa ab];exact fun A c w G I J=>aDr n xs (by omega) N Y 21 _ (fun h=>absurd h (by omega)) (fun A c w G I J=>aPm n xs _ _ _ _ _ _ _ j E _ rest U Z L _ A c w G I J) A c w G I J
 .have V:nZ j=0:=by omega
  have W:qQ j=false:=by
   cases h3:qQ j with
   | false=>rfl
   | true=>exact absurd (.inr h3) L
  rw[bBa ⟨V,W⟩];have X:K=0->(g (p6A E (beN xs 8 8) (beN xs 16 8) (beN xs 24 8) (beN xs 32 8) (xs.getD 7 0).toNat (40+nK j+rest.length))).size=23/\(g (p6A E (beN xs 8 8) (beN xs 16 8) (beN xs 24 8) (beN xs 32 8) (xs.getD 7 0).toNat (40+nK j+rest.length))).all (·.oneCell')=true :=
   fun _=>⟨(O.from _).size rfl,(O.from _).one (aJg _ _ _ _ _ _ _)⟩
  have ac:=hU (p6A E (beN xs 8 8) (beN xs 16 8) (beN xs 24 8) (beN xs 32 8) (xs.getD 7 0).toNat (40+nK j+rest.length)) rfl (aJg _ _ _ _ _ _ _) rfl rfl;exact fun A c w G I J=>aDr n xs (by omega) N Y K _ X (fun A c w G I J=>aUb n xs _ _ _ _ _ _ _ j E _ rest U Z f7 V W (by omega) f5 (bX xs 8 8) (bX xs 16 8) (bX xs 24 8) (bX xs 32 8) rfl _ rfl K _ ac X A c w G I J) A c w G I J
theorem aPi(h:sF n xs)(Z:n<=9000)(j:Nat)(E:beN xs 2 2=j)(J:2<=(xs.getD 8 0).toNat) :
 ∃Kp G L,PIs n xs Kp G/\PIs j (jM xs j) Kp L/\(Kp=0->G[10]?=some (.int .i64 ((xs.getD 8 0).toNat:Int))/\G.setIfInBounds 10 (.int .i64 (((xs.getD 8 0).toNat:Int) - 1))=L/\IsG G/\IsG L):=by
 obtain⟨s,I⟩:∃s,(xs.getD 0 0).toNat % 16*4=s:=⟨_,rfl⟩
 obtain⟨ho,hl,h8,am,an⟩:=aKc h s j I E J;have g3:=h.h3;have g4:=h.h4;have O:=h.h6;have g7:=h.h7;have gl:=h.len;rw[I]at g3 g4 O;rw[E]at O g7;have au:((xs.take j).drop s).length=j - s:=by rw[cCa,bGa];omega
 obtain⟨K,g,A,Y⟩:=aDf false ((xs.getD 9 0).toNat:Int) ((xs.take j).drop s) (ps4 (beN xs 12 4) (beN xs 16 4) (xs.getD 9 0).toNat (j - s)) (by omega) (by unfold ps4 maxLen;simp[aR]);have same:∀i,i<20->i≠8->i≠10->i≠11->(jM xs j).getD i 0=xs.getD i 0:=fun i h1 J h3 h4=>vB (am i (by omega) J h3 h4)
 have e0:=same 0 (by omega) (by omega) (by omega) (by omega);have U:=same 9 (by omega) (by omega) (by omega) (by omega);have e2:beN (jM xs j) 2 2=j:=(jH _ _ _ _ fun i _ N=>same i (by omega) (by omega) (by omega) (by omega)).trans E;have e6:beN (jM xs j) 6 2=beN xs 6 2:=jH _ _ _ _ fun i _ N=>same i (by omega) (by omega) (by omega) (by omega)
 have V:beN (jM xs j) 12 4=beN xs 12 4:=jH _ _ _ _ fun i _ N=>same i (by omega) (by omega) (by omega) (by omega)
 have W:beN (jM xs j) 16 4=beN xs 16 4:=jH _ _ _ _ fun i _ N=>same i (by omega) (by omega) (by omega) (by omega)
 have p1:=zR h Z s j I E K g A Y;have X:=zR ho (by omega) s j (by rw[e0];exact I) e2 K g A (by rw[U,V,W,an];exact Y);rw[e6,U,V,W,h8]at X;obtain⟨q1,q2⟩:=aRs A (xs.getD 9 0).toNat (beN xs 12 4) (beN xs 16 4) (xs.getD 8 0).toNat ((xs.getD 8 0).toNat - 1) j (by omega);exact⟨_,_,_,p1,X,fun _=>⟨q1,q2,(A.from _).four,(A.from _).four⟩⟩
theorem aPj{G:List (Int×List UInt8)}{A:Nat}{rest:List UInt8}(h:tF n xs G A rest)(Y:n<=9000)(T:Nat)(Z:40+nK G+rest.length=T)(L:2<=(xs.getD 7 0).toNat) :
 ∃Kp E I,PIs n xs Kp E/\PIs T (jQ xs T) Kp I/\(Kp=0->E[10]?=some (.int .i64 ((xs.getD 7 0).toNat:Int))/\E.setIfInBounds 10 (.int .i64 (((xs.getD 7 0).toNat:Int) - 1))=I/\IsG E/\IsG I):=by
 obtain⟨ho,hl,h7,ad⟩:=aKd h T Z;obtain⟨f1,f2,f3,f4,f5,f6,f7,f8⟩:=h.facts;obtain⟨K,g,j,X⟩:=aDf true (A:Int) rest (kR (beN xs 8 8) (beN xs 16 8) (beN xs 24 8) (beN xs 32 8) rest.length A) (by omega) (by unfold kR maxLen;simp[aR,nS]);have same:∀i,i<40->i≠7->(jQ xs T).getD i 0=xs.getD i 0:=fun i h1 L=>vB (ad i (by omega) L)
 have N:beN (jQ xs T) 8 8=beN xs 8 8:=jH _ _ _ _ fun i _ J=>same i (by omega) (by omega)
 have O:beN (jQ xs T) 16 8=beN xs 16 8:=jH _ _ _ _ fun i _ J=>same i (by omega) (by omega)
 have U:beN (jQ xs T) 24 8=beN xs 24 8:=jH _ _ _ _ fun i _ J=>same i (by omega) (by omega)
 have V:beN (jQ xs T) 32 8=beN xs 32 8:=jH _ _ _ _ fun i _ J=>same i (by omega) (by omega)
 have p1:=aCc h Y K g j X;have W:=aCc ho (by omega) K g j (by rw[N,O,U,V];exact X);rw[N,O,U,V,h7]at W;obtain⟨q1,q2⟩:=aRt j A (beN xs 8 8) (beN xs 16 8) (beN xs 24 8) (beN xs 32 8) (xs.getD 7 0).toNat ((xs.getD 7 0).toNat - 1) (40+nK G+rest.length) (by omega);exact⟨_,_,_,p1,W,fun _=>⟨q1,q2,(j.from _).six,(j.from _).six⟩⟩
def prN (udp:Bool):Nat:=if udp=true then 17 else 6
structure Up (v6 udp:Bool) (ps R:List UInt8) (sp dp fl:Nat):Prop where
 len:whR udp+2<=R.length
 K:if udp=true then jK (!v6) ps R=0 else jV ps R=0
 sp:beN R 0 2=sp
 dp:beN R 2 2=dp
 fl:fl=if udp=true then 0 else(R.getD 13 0).toNat
def upA (udp:Bool) (sp dp fl:Nat) (cs:Array Value):Array Value:=if udp=true then aAu cs sp dp else tcpA cs sp dp fl
theorem Up.fl_le{A E:Bool}{G:List UInt8}{I:Nat}(h:Up A E G R I J j):j<=255:=by
 rw[h.fl];have:=(R.getD 13 0).toNat_lt;split<;>omega
theorem Up.aE6{E G:Bool}{I:List UInt8}{A:Nat}(h:Up E G I R j A J):j<=65535/\A<=65535:=by
 have L:=bX R 0 2;have N:=bX R 2 2;rw[h.sp]at L;rw[h.dp]at N;omega
theorem Up.good{E:Bool}{J:List UInt8}{A G:Nat}(h:Up I E J R j A G):xY (upA E j A G):=by
 have L:=h.fl_le;rcases E with _|_
 .exact .inl ⟨j,A,G,L,rfl⟩
 .exact .inr (.inl ⟨j,A,rfl⟩)
theorem Up.is{A E:Bool}{j:List UInt8}{G I:Nat}(h:Up A E j R G I J)(N:R.length<=4096)(O:j.length<=4096)(cs:Array Value)(U:cs.size=23)(V:cs.all (·.oneCell')=true)(W:cs[0]?=some (.bool A))(X:cs[1]?=some (.int .i64 (prN E:Int)))(L:Int) :
 aVk cs L R j 0 (upA E G I J cs):=by
 have Y:=h.K;have Z:=h.fl;rcases E with _|_
 .exact upis_sg cs U V A W X L R j N O G I J Y h.sp h.dp Z.symm
 .exact upis_dg cs U V A W X L R j N O G I Y h.sp h.dp
def turnH4 (H:List UInt8) (s tlo:Nat):List UInt8:=dJ (dJ H (12+4*s) (beB tlo 4)) 10 (beB (gZ (beN H 10 2) (splitN (beN H (12+4*s) 4) 2++[0]) (splitN tlo 2++[0])) 2)
structure wE (n:Nat) (xs:List UInt8) (al e:Nat) (udp:Bool) (R:List UInt8) (slo dlo sp dp ttl fl:Nat):Prop where
 ok:sF n xs
 he:(xs.getD 0 0).toNat % 16*4=e
 hal:beN xs 2 2=al
 fr:beN xs 6 2 % 16384=0
 pr:(xs.getD 9 0).toNat=prN udp
 hR:(xs.take al).drop e=R
 sl:beN xs 12 4=slo
 dl:beN xs 16 4=dlo
 tl:(xs.getD 8 0).toNat=ttl
 up:Up false udp (kY false 0 slo 0 dlo (prN udp) (al - e)) R sp dp fl
theorem wE.sizes{e:Nat}{N:Bool}{G U I:Nat}(h:wE n xs j e N R E G O U I V):20<=e/\e<=60/\e<=j/\j<=n/\R.length=j - e/\xs.length=n/\E<4294967296/\G<4294967296/\I<=255:=by
 have J:=h.ok.h3;have A:=h.ok.h6;have L:=h.ok.h7;have W:=h.ok.len;have X:=h.he;have Y:=bX xs 12 4;have Z:=bX xs 16 4;have b3:=(xs.getD 8 0).toNat_lt;rw[h.sl]at Y;rw[h.dl]at Z;rw[h.tl]at b3;rw[X]at J A;rw[h.hal]at A L;refine⟨J,by omega,A,L,?_,W,by omega,by omega,by omega⟩;rw[<-h.hR,cCa,bGa];omega
theorem wE.pis{A e:Nat}{j:Bool}{G I L:Nat}(h:wE n xs A e j R G I J L N E)(Y:n<=4000):PIs n xs 0 (pkA false (prN j) 0 G 0 I J L N E A):=by
 obtain⟨s1,s2,s3,s4,s5,s6,s7,s8,s9⟩:=h.sizes;have Z:(kY false 0 G 0 I (prN j) (A - e)).length=12:=by unfold kY;rw[bAa (by simp)];simp[aR]
 have:=zR h.ok (by omega) e A h.he h.hal 0 (upA j J L E) h.up.good (fun cs U V W O=>by
  rw[h.hR,h.sl,h.dl,h.pr];rw[h.pr]at O;exact h.up.is (by omega) (by omega) cs U V W O 1)
 rw[bBa h.fr,h.pr,h.sl,h.dl,h.tl]at this;rcases j with _|_
 .exact this
 .have X:E=0:=h.up.fl;subst X;exact this
def natB4 (xs:List UInt8) (al e:Nat) (udp:Bool) (R:List UInt8) (s tlo port was:Nat):List UInt8:=turnH4 (xs.take e) s tlo++turnR udp R s port (splitN was 2) (splitN tlo 2)
structure wF (n:Nat) (xs:List UInt8) (acc:List (Int×List UInt8)) (e:Nat) (udp:Bool) (R:List UInt8) (shi slo dhi dlo sp dp ttl fl:Nat):Prop where
 ok:tF n xs acc (prN udp) R
 he:40+nK acc=e
 fr:nZ acc=0
 mo:qQ acc=false
 sh:beN xs 8 8=shi
 sl:beN xs 16 8=slo
 dh:beN xs 24 8=dhi
 dl:beN xs 32 8=dlo
 tl:(xs.getD 7 0).toNat=ttl
 up:Up true udp (kY true shi slo dhi dlo (prN udp) R.length) R sp dp fl
theorem wF.sizes{J:List (Int×List UInt8)}{e:Nat}{L:Bool}{A G I U:Nat}(h:wF n xs J e L R j A E G N O I U):40<=e/\e+R.length<=n/\e+R.length=40+beN xs 4 2/\xs.length=n/\j<18446744073709551616/\A<18446744073709551616/\E<18446744073709551616/\G<18446744073709551616/\I<=255:=by
 obtain⟨f1,f2,f3,f4,f5,f6,f7,f8⟩:=h.ok.facts;have he:=h.he;have V:=h.ok.len;have W:=bX xs 8 8;have X:=bX xs 16 8;have Y:=bX xs 24 8;have Z:=bX xs 32 8;have b5:=(xs.getD 7 0).toNat_lt;rw[h.sh]at W;rw[h.sl]at X;rw[h.dh]at Y;rw[h.dl]at Z;rw[h.tl]at b5;exact⟨by omega,by omega,by omega,V,by omega,by omega,by omega,by omega,by omega⟩
theorem wF.rest{j:List (Int×List UInt8)}{e:Nat}{L U W X:Nat}(h:wF n xs j e I R J L N O U V W X):(xs.take (40+nK j+R.length)).drop (40+nK j)=R:=by
 obtain⟨f1,f2,f3,Z,f5,f6,f7,f8⟩:=h.ok.facts;have A:=h.ok.hR;unfold jW at A;have Y:(xs.getD 6 0).toNat<=255:=by have:=(xs.getD 6 0).toNat_lt;omega
 obtain⟨ah,E,g2,G,g4,g5,g6,g7⟩:=aDx 9 _ _ [] j _ R A rfl rfl (by simp) Y;rw[cVa]at E;subst E;rw[<-Z]at G;have:=fFa (List.drop (nK j)) G;rw[gYa (by rw[sM];omega),eLa (l:=tX j _) (by rw[sM];omega),cVa,List.drop_drop]at this;exact this
theorem wF.pis{e:Nat}{j:Bool}{G I L A:Nat}(h:wF n xs U e j R E G I J L N O A)(hn:n<=4000):PIs n xs 0 (pkA true (prN j) E G I J L N O A (e+R.length:Nat)):=by
 obtain⟨s1,s2,s3,s4,s5,s6,s7,s8,s9⟩:=h.sizes;have ab:(kY true E G I J (prN j) R.length).length=40:=by unfold kY kR;rw[bBa rfl];simp[aR,nS]
 have:=aCc h.ok (by omega) 0 (upA j L N A) h.up.good (fun cs V W X Y=>by
  rw[h.sh,h.sl,h.dh,h.dl];exact h.up.is (by omega) (by omega) cs V W X Y 58)
 rw[bBa ⟨h.fr,h.mo⟩,h.sh,h.sl,h.dh,h.dl,h.tl,h.he]at this;rcases j with _|_
 .exact this
 .have Z:A=0:=h.up.fl;subst Z;exact this
def turnH6 (H:List UInt8) (s thi tlo:Nat):List UInt8:=dJ H (8+16*s) (beB thi 8++beB tlo 8)
def natB6 (xs:List UInt8) (e:Nat) (udp:Bool) (R:List UInt8) (s thi tlo port whi wlo:Nat):List UInt8:=turnH6 (xs.take e) s thi tlo++turnR udp R s port (splitN whi 4++splitN wlo 4) (splitN thi 4++splitN tlo 4)
theorem aQ4(G I:Bool)(R E:List UInt8)(hR:R.length<=4096)(hp:E.length<=4096) :
 (∃K g,K≠0/\xY g/\∀cs:Array Value,cs.size=23->cs.all (·.oneCell')=true->cs[0]?=some (.bool G)->cs[1]?=some (.int .i64 (prN I:Int))->aVk cs (if G=true then 58 else 1) R E K (g cs))\/∃sp dp fl,Up G I E R sp dp fl:=by
 have Y:E.length<=maxLen:=by unfold maxLen;omega
 have Z:R.length<=1099511627776:=by omega
 rcases I with _|_
 .by_cases j:jV E R=0
  .refine .inr ⟨beN R 0 2,beN R 2 2,(R.getD 13 0).toNat,?_,by rw[bAa (by simp)];exact j,rfl,rfl,by rw[bAa (by simp)]⟩;have af:whR false=16:=rfl;unfold jV at j;split at j
   .omega
   .omega
  .exact .inl ⟨jV E R,fun cs=>tcpA cs 0 0 0,j,.inl ⟨0,0,0,by omega,rfl⟩,fun cs J L N O A P c d w U V W X=>aEi cs J L G N 6 O _ A P c d R E w U V W X Z Y rfl _ rfl _ (fun h=>absurd h j)⟩
 .by_cases j:jK (!G) E R=0
  .refine .inr ⟨beN R 0 2,beN R 2 2,0,?_,by rw[bBa rfl];exact j,rfl,rfl,by rw[bBa rfl]⟩;have w6:whR true=6:=rfl;unfold jK at j;split at j
   .omega
   .omega
  .exact .inl ⟨jK (!G) E R,fun cs=>aAu cs 0 0,j,.inr (.inl ⟨0,0,rfl⟩),fun cs J L N O A P c d w U V W X=>aEj cs J L G N 17 O _ A P c d R E w U V W X Z Y rfl _ rfl _ (fun h=>absurd h j)⟩
theorem rJ{K:Nat}{E:Array Value}(h:PIs n xs K y)(j:K≠0):PIs n xs K E:=fun A c w G I J=>(h A c w G I J).mono (by
 rintro e w' ⟨rfl,L⟩;exact⟨by rw[bAa j,bAa j],L⟩)
theorem aHc{w:World}{cs:Array Value}(h:w.heap[g]?=some (.cells cs t (0,0)))(o n:Nat)(l:List Value)(E:(cs.toList.drop o).take n=l):w.rangeAt g o l:=fun j v A=>by
 rw[aA h (o+j)];rw[<-E,gAa]at A;split at A
 .rw[eJa]at A;simpa using A
 .cases A
section
def xU:Array Value:=#[.int .i64 0,.bool false,.int .u64 0,.int .u64 0,.bool false,.int .u64 0,.int .u64 0,.int .i64 0,.int .i64 0]
theorem aLz(o:Oper)(h:o.op=.alloc 46)(ρ:Operand->Value)(w:World):(execOp ρ o).run prog w=.ok (.value (.pointer (some ⟨w.heap.size,0,none⟩))) (w.alloc (.cells xU 46)):=by
 obtain⟨d,j,t,A,E,g⟩:=o;dsimp only at h;subst h
 kernel_rfl
def keyA (er:Bool) (a b:Array Value):Array Value:=if er=true then b else a
section
variable (v6:Bool) (pr:Int) (sv:Bool) (shi slo:Int) (dv:Bool) (dhi dlo sp dp ttl fl:Int) (er:Bool) (apr:Int) (asv:Bool) (ashi aslo:Int) (adv:Bool) (adhi adlo asp adp sz:Int)
theorem key_any(w:World):Cl 70 #[.agg (pkG v6 pr sv shi slo dv dhi dlo sp dp ttl fl er apr asv ashi aslo adv adhi adlo asp adp sz)] w fun e w'=>e=.returned (.agg (keyA er (tuA pr sv shi slo dv dhi dlo sp dp) (tuA apr asv ashi aslo adv adhi adlo asp adp)))/\Below w.heap.size w w':=by
 obtain⟨cs,G⟩:=eX (pkG v6 pr sv shi slo dv dhi dlo sp dp ttl fl er apr asv ashi aslo adv adhi adlo asp adp sz);have Z:cs.size=23:=G▸rfl;have W:Hid ((cs.toList.drop 1).take 9=(tuA pr sv shi slo dv dhi dlo sp dp).toList):=q_ (G▸rfl);have X:Hid ((cs.toList.drop 13).take 9=(tuA apr asv ashi aslo adv adhi adlo asp adp).toList):=q_ (G▸rfl);have Y:Hid (cs[12]?=some (.bool er)):=q_ (G▸rfl);rw[G];clear G;obtain⟨w2,U,L,J,N,ab⟩:∃w',(w.alloc (.cells cs 48)).alloc (.cells xU 46)=w'/\Below w.heap.size w w'/\w'.heap[w.heap.size]?=some (.cells cs 48 (0,0))/\w'.heap[w.heap.size+1]?=some (.cells xU 46 (0,0))/\w.heap.size+2<=w'.heap.size :=
  ⟨_,rfl,bC.alloc (by simp) _,kE _ (by simp) (aJ _ _ _),by simpa using aJ (w.alloc (.cells cs 48)) 46 xU,by simp⟩
 have V:=(aA J 12).trans Y;unfold xU at U;replace ⟨L,J,N⟩:=q_3 L J N;go_enter func70,ntmps70;rcases er with _|_
 .go_upto_region 3 with fail
  clear U V;apply aWa;refine pS ?_;refine wpList_load_mid rfl 46 (.tmp 7) rfl w.heap.size 1 rfl (tuA pr sv shi slo dv dhi dlo sp dp).toList _ (aHc J 1 9 _ W) cRa rfl qK ?_;refine bQ rfl 46 (.tmp 2) (.tmp 8) rfl (w.heap.size+1) 0 rfl (tuA pr sv shi slo dv dhi dlo sp dp) rfl N (show 0+9<=9 by omega) qK (zU _ _ _ _ _ _ _ _ _) fun A j I=>?_;rw[aQ xU (tuA pr sv shi slo dv dhi dlo sp dp) rfl]at j;have O:=q_ (L.trans (gB I));have E:(loadVar 46 ⟨w.heap.size+1,0,none⟩).run prog A=.ok (.agg (tuA pr sv shi slo dv dhi dlo sp dp)) A:=by
   simpa using run_loadVar_mid A (w.heap.size+1) 0 46 (tuA pr sv shi slo dv dhi dlo sp dp).toList _ (aM j) cRa rfl qK
  clear I;replace ⟨j,E⟩:=q_2 j E;refine bCa ?_;go_wp2_with fail
  exact aYa (v:=.agg (tuA pr sv shi slo dv dhi dlo sp dp)) (by simp[results,results70,asAddr,Act.put,E.out,Result.andThen]) rfl ⟨rfl,O⟩
 .go_upto_region 2 with fail
  clear U V;apply aWa;refine pS ?_;refine wpList_load_mid rfl 46 (.tmp 5) rfl w.heap.size 13 rfl (tuA apr asv ashi aslo adv adhi adlo asp adp).toList _ (aHc J 13 9 _ X) cRa rfl qK ?_;refine bQ rfl 46 (.tmp 2) (.tmp 6) rfl (w.heap.size+1) 0 rfl (tuA apr asv ashi aslo adv adhi adlo asp adp) rfl N (show 0+9<=9 by omega) qK (zU _ _ _ _ _ _ _ _ _) fun A j I=>?_;rw[aQ xU (tuA apr asv ashi aslo adv adhi adlo asp adp) rfl]at j;have O:=q_ (L.trans (gB I));have E:(loadVar 46 ⟨w.heap.size+1,0,none⟩).run prog A=.ok (.agg (tuA apr asv ashi aslo adv adhi adlo asp adp)) A:=by
   simpa using run_loadVar_mid A (w.heap.size+1) 0 46 (tuA apr asv ashi aslo adv adhi adlo asp adp).toList _ (aM j) cRa rfl qK
  clear I;replace ⟨j,E⟩:=q_2 j E;refine bCa ?_;go_wp2_with fail
  exact aYa (v:=.agg (tuA apr asv ashi aslo adv adhi adlo asp adp)) (by simp[results,results70,asAddr,Act.put,E.out,Result.andThen]) rfl ⟨rfl,O⟩
end
section
variable (v6:Bool) (pr:Int) (sv:Bool) (shi slo:Int) (dv:Bool) (dhi dlo sp dp ttl:Int) (fl:Nat) (er:Bool) (apr:Int) (asv:Bool) (ashi aslo:Int) (adv:Bool) (adhi adlo asp adp sz:Int)
end
end
def yS (at_ size e:Nat):Value:=.tuple #[.int .i64 (at_:Int),.int .i64 (size:Int),.int .i64 (e:Int)]
theorem place4(n:Nat)(xs:List UInt8)(E:(xs.getD 0 0).toNat / 16=4)(W:20<=n)(s:Nat)(X:s<=1)(e:Nat)(N:(xs.getD 0 0).toNat % 16*4=e)(A:Option Addr)(c:Nat)(w:World)(G:IsB w w.heap.size A n xs) :
 Cl 128 #[.slice A n c,.int .i64 (s:Int)] w fun U w'=>U=.returned (yS (12+4*s) 4 e)/\Below w.heap.size w w':=by
 obtain⟨b,ag,j,rfl,ah,J,ai,L⟩:=G.byte (i:=0) (by omega);rw[cNa]at L;rw[J]at E N;have Z:(((j:Int) / 16) == 4)=true:=by rw[fKa];omega
 have i0:0<n:=by omega
 have q1:IntKind.i64.wrap (4*(s:Int))=4*(s:Int):=wO _;have q2:IntKind.i64.wrap (12+4*(s:Int))=12+4*(s:Int):=wO _;have q4:bits .and .u8 (j:Int) 15=(j:Int) % 16:=u8_and15 (j:Int) (by omega) (by omega);have q5:IntKind.i64.wrap ((j:Int) % 16)=(j:Int) % 16:=wO _;have q3:IntKind.i64.wrap ((j:Int) % 16*4)=(j:Int) % 16*4:=wO _;have V:=fun l:Later w=>l.cell L
 have O:yS (12+4*s) 4 e=.tuple #[.int .i64 (12+4*(s:Int)),.int .i64 4,.int .i64 ((j:Int) % 16*4)]:=by
  unfold yS;rw[show((12+4*s:Nat):Int)=12+4*(s:Int) by omega,show(e:Int)=(j:Int) % 16*4 by omega]
  rfl
 rw[O];clear O N;replace ⟨G,J,E⟩:=q_3 G J E;go_enter func128,ntmps128;go_wp2_with fail
 clear L;refine rL ?_;refine eS 0 12 0 ?_;simp only[dA,dC,dD];iterate 12 refine qE ?_
 refine aT ?_;refine eD fun Y I=>?_;clear V;replace I:=q_ I;go_wp2_with fail
 go_ret3;exact⟨by rfl,I⟩
theorem place6(n:Nat)(xs:List UInt8)(G I J:Int)(L:Bool)(N O:Int)(U:Bool)(V W:Int)(Y:List (Int×List UInt8))(Z m1:Nat)(rest:List UInt8)(hS:yA n xs 0 G I J L N O U V W Y Z m1 rest)(ah:Y.length<=8)(ai:∀e∈Y,e.2.length<=2047)
 (aj:(xs.getD 0 0).toNat / 16≠4) (hn:40<=n) (s:Nat) (hs:s<=1) (e:Nat) (j:40+nK Y=e) (a8:e<=65535) (A:Option Addr) (c:Nat) (w:World) (hx:IsB w w.heap.size A n xs) (aw:n<=c) (ax:c<=maxLen) :
 Cl 128 #[.slice A n c,.int .i64 (s:Int)] w fun en w'=>en=.returned (yS (8+16*s) 16 e)/\Below w.heap.size w w':=by
 obtain⟨b,bb,v0,rfl,bc,ak,bd,ar⟩:=hx.byte (i:=0) (by omega);rw[cNa]at ar;rw[ak]at aj;have t1:(((v0:Int) / 16) == 4)=false:=by rw[bDa];omega
 have i0:(0:Int)<(n:Int):=by omega
 have ap:yS (8+16*s) 16 e=.tuple #[.int .i64 (8+16*(s:Int)),.int .i64 16,.int .i64 (e:Int)]:=by
  unfold yS;rw[show((8+16*s:Nat):Int)=8+16*(s:Int) by omega]
  rfl
 rw[ap];clear ap;replace ⟨hx,ak,aj,hS,ah,ai,j⟩:=q_7 hx ak aj hS ah ai j;go_enter func128,ntmps128;go_wp2_with fail
 clear ar;refine(hS _ c _ hx aw ax).mono ?_;rintro en w2 ⟨X,m,xc,A2,c2,es,rfl,E,hX,bg,bh,hr,bi,bj,an⟩;obtain⟨wa,ad⟩:=eX (w2.alloc (bS G I J L N O U V W X m xc Z));have al:Below w2.heap.size w2 wa:=ad▸bC;have aq:=ad▸aJ w2 164 #[.int .i64 G,.int .i64 I,.int .i64 J,.bool L,.int .u64 N,.int .u64 O,.bool U,.int .u64 V,.int .u64 W,.slice X m xc,.int .i64 Z];have hB:=q_ (an.trans (al.mono an.size));have az:=aA aq;unfold bS at ad;have a0:=q_ (hX.on al);have a1:m<=8:=by rw[<-hX.1,<-rU,E];exact ah
 have a2:Hid (∀e∈es,e.xs.length<=2047):=q_ (fun e j=>ai (Ext.pe e) (E▸(List.mem_map_of_mem j:Ext.pe e∈pes es)));have a3:Hid (40+xR es=e):=q_ (by rw[aAt,E];exact j);clear hr al an aq;replace ⟨E,hX⟩:=q_2 E hX;go_wp2_with fail
 clear ad az;refine(vD G I J L N O U V W X m xc Z es _ a0 a1 a2 e a3).mono ?_;rintro e w3 ⟨rfl,au⟩;replace hB:=q_ (hB.trans (au.mono hB.size));clear au;go_wp2_with fail
 go_ret3;exact⟨by rfl,hB⟩
theorem aEc(H R j:List UInt8)(p:Nat)(h:p+j.length<=H.length):dJ (H++R) p j=dJ H p j++R:=by
 unfold dJ;rw[eWa (by omega),gYa (by omega)];simp[eDa]
theorem wY(H R j:List UInt8)(p q:Nat)(h:H.length+p=q):dJ (H++R) q j=H++dJ R p j:=by
 unfold dJ;rw[List.take_append,bZa (by omega),jLa,eLa (by omega),cVa];rw[show q - H.length=p by omega,show q+j.length - H.length=p+j.length by omega];simp[eDa]
theorem aTi(H R:List UInt8)(i:Nat)(h:i<H.length):(H++R).getD i 0=H.getD i 0:=by
 simp only[List.getD,cEa h]
theorem aRr(H R:List UInt8)(i:Nat):(H++R).getD (H.length+i) 0=R.getD i 0:=by
 simp only[List.getD,cJa (Nat.le_add_right _ _),fSa]
theorem aL5(H R:List UInt8)(p:Nat):∀k,p+k<=H.length->beN (H++R) p k=beN H p k
 | 0,_=>rfl
 | k+1,h=>by rw[beN,beN,aL5 H R p k (by omega),aTi H R _ (by omega)]
theorem aJy(H R:List UInt8)(p q:Nat)(h:H.length+p=q):∀k,beN (H++R) q k=beN R p k
 | 0=>rfl
 | k+1=>by rw[beN,beN,aJy H R p q h k,<-h,eVa,aRr H R _]
theorem aUq(xs j A:List UInt8)(p:Nat)(h:j.length=A.length)(G:p+j.length<=xs.length):dJ (dJ xs p j) p A=dJ xs p A:=by
 have E:(xs.take p).length=p:=by rw[bGa];omega
 unfold dJ;rw[eWa (by omega),bZa (l:=xs.take p) (by omega),jLa,eLa (l:=xs.take p) (by omega),cVa,E,fSa,jLa,eLa (l:=j) (by omega),cVa,<-h,Nat.sub_self,dDa]
def out2 (xs:List UInt8) (T p e s port:Nat) (AB:List UInt8):List UInt8:=dJ (dJ (xs.take T) p AB) (e+2*s) (beB port 2)
def out3 (v6:Bool) (o2:List UInt8) (was ts:List Nat):List UInt8:=if v6=true then o2 else dJ o2 10 (beB (gZ (beN o2 10 2) (was++[0]) (ts++[0])) 2)
def out5 (udp:Bool) (o3:List UInt8) (wh wp port:Nat) (was ts:List Nat):List UInt8 :=
 if udp=true/\beN o3 wh 2=0 then o3
 else if udp=true/\gZ (beN o3 wh 2) (was++[wp]) (ts++[port])=0 then dJ (dJ o3 wh (beB (gZ (beN o3 wh 2) (was++[wp]) (ts++[port])) 2)) wh (beB 65535 2)
 else dJ o3 wh (beB (gZ (beN o3 wh 2) (was++[wp]) (ts++[port])) 2)
theorem aQk(j:Bool)(H R:List UInt8)(e s J A:Nat)(L N:List Nat)(G:H.length=e)(X:s<=1)(Y:whR j+2<=R.length)(O:beN R (2*s) 2=J) :
 out5 j (H++dJ R (2*s) (beB A 2)) (e+whR j) J A L N=H++turnR j R s A L N:=by
 have hw:6<=whR j:=by unfold whR;split<;>omega
 have U:beN (H++dJ R (2*s) (beB A 2)) (e+whR j) 2=beN R (whR j) 2:=by
  rw[aJy H _ (whR j) _ (by rw[G]) 2];exact jH _ _ _ _ fun i E Z=>vM _ _ _ (by rw[aR];omega) i (by rw[aR];omega)
 have V:(dJ R (2*s) (beB A 2)).length=R.length:=gM _ _ _ (by rw[aR];omega);unfold out5 turnR;rw[U,O];rcases j with _|_
 .simp only[eAa,false_and,hYa];rw[wY H _ _ (whR false) _ (by rw[G])]
 .have W:whR true=6:=rfl;simp only[true_and,W];by_cases I:beN R 6 2=0
  .rw[bBa I,bBa I]
  .rw[bAa I,bAa I];by_cases E:gZ (beN R 6 2) (L++[J]) (N++[A])=0
   .rw[bBa E,bBa E,aUq _ _ _ _ (by rw[aR,aR]) (by rw[aR,bHa,V];omega),wY H _ _ 6 _ (by rw[G])]
   .rw[bAa E,bAa E,wY H _ _ 6 _ (by rw[G])]
theorem aU3{e:Nat}{j:Bool}{W X Y aa fl:Nat}(h:wE n xs E e j R V W X Y aa fl)(s A N G O:Nat)(hs:s<=1)(hw:(if s=0 then V else W)=G)(ae:(if s=0 then X else Y)=O) :
 out5 j (out3 false (out2 xs E (12+4*s) e s N (pQ false 0 A)) (gH false 0 G) (gH false 0 A)) (e+whR j) O N (gH false 0 G) (gH false 0 A)=natB4 xs E e j R s A N G:=by
 obtain⟨s1,s2,s3,s4,s5,s6,s7,s8,s9⟩:=h.sizes;have aW:∀U I,gH false U I=splitN I 2:=fun _ _=>rfl
 have aB:∀U I,pQ false U I=beB I 4:=fun _ _=>rfl
 have hl:=h.up.len;have ap:6<=whR j:=by unfold whR;split<;>omega
 have Z:(xs.take e).length=e:=by rw[bGa];omega
 have hx:xs.take E=xs.take e++R:=by
  rw[<-h.hR]
  conv=>lhs;rw[<-dHa e (xs.take E)]
  rw[hNa,fCa (by omega)]
 have hc:beN R (2*s) 2=O:=by
  rw[<-ae];by_cases L:s=0
  .rw[bBa L,L];exact h.up.sp
  .obtain rfl:s=1:=by omega
   rw[bAa (by omega)];exact h.up.dp
 have ak:beN (xs.take e) (12+4*s) 4=G:=by
  rw[nT xs e _ 4 (by omega),<-hw];by_cases L:s=0
  .rw[bBa L,L];exact h.sl
  .obtain rfl:s=1:=by omega
   rw[bAa (by omega)];exact h.dl
 have J:(dJ (xs.take e) (12+4*s) (beB A 4)).length=e:=by rw[gM _ _ _ (by rw[aR];omega),Z]
 have am:beN (dJ (xs.take e) (12+4*s) (beB A 4)) 10 2=beN (xs.take e) 10 2:=jH _ _ _ _ fun i h1 h2=>vM _ _ _ (by rw[aR];omega) i (by rw[aR];omega)
 unfold out2 out3 natB4 turnH4;simp only[aW,aB,eAa,hYa];rw[hx,aEc _ _ _ _ (by rw[aR,Z];omega),wY _ _ _ (2*s) _ (by rw[J]),aL5 _ _ 10 2 (by rw[J];omega),aEc _ _ _ _ (by rw[aR,J];omega),am,ak];exact aQk j _ R e s O N _ _ (by rw[gM _ _ _ (by rw[aR,J];omega),J]) hs hl hc
theorem aU4{e:Nat}{j:Bool}{ab ac ad ae U af fl:Nat}(h:wF n xs aa e j R ab ac ad ae U V af fl)(s A E J N O L:Nat)(hs:s<=1)(ai:(if s=0 then U else V)=L) :
 out5 j (out3 true (out2 xs (e+R.length) (8+16*s) e s J (pQ true A E)) (gH true N O) (gH true A E)) (e+whR j) L J (gH true N O) (gH true A E)=natB6 xs e j R s A E J N O:=by
 obtain⟨s1,s2,s3,s4,s5,s6,s7,s8,s9⟩:=h.sizes;have aW:∀G I,gH true G I=splitN G 4++splitN I 4:=fun _ _=>rfl
 have aB:∀G I,pQ true G I=beB G 8++beB I 8:=fun _ _=>rfl
 have hl:=h.up.len;have aq:6<=whR j:=by unfold whR;split<;>omega
 have W:(xs.take e).length=e:=by rw[bGa];omega
 have hR:(xs.take (e+R.length)).drop e=R:=by
  have:=h.rest;rw[h.he]at this;exact this
 have hx:xs.take (e+R.length)=xs.take e++R:=by
  conv=>lhs;rw[<-dHa e (xs.take (e+R.length))]
  rw[hNa,fCa (by omega),hR]
 have hc:beN R (2*s) 2=L:=by
  rw[<-ai];by_cases Z:s=0
  .rw[bBa Z,Z];exact h.up.sp
  .obtain rfl:s=1:=by omega
   rw[bAa (by omega)];exact h.up.dp
 have X:(beB A 8++beB E 8).length=16:=by rw[bHa,aR,aR]
 have Y:(dJ (xs.take e) (8+16*s) (beB A 8++beB E 8)).length=e:=by rw[gM _ _ _ (by rw[X];omega),W]
 unfold out2 out3 natB6 turnH6;simp only[aW,aB,jEa];rw[hx,aEc _ _ _ _ (by rw[X,W];omega),wY _ _ _ (2*s) _ (by rw[Y])];exact aQk j _ R e s L J _ _ Y hs hl hc
theorem ad_one(v:Bool)(a b:Int):(#[.bool v,.int .u64 a,.int .u64 b]:Array Value).all (·.oneCell')=true:=all_oneCell_toArray (by
 intro v j;simp only[bXa,bVa,dTa]at j;rcases j with rfl|rfl|rfl<;>rfl)
theorem aSx{md:Region.Mode}{rest:List Oper}{w:World}(i:Nat){I:Array Bool}(aa:L.drop i=o :: rest)(ab:Region.ready md L.toArray I=[i])(ac:o.guard=none)(d s:Operand)
 (ho:o.op=.call { callee:=.builtin .copy,args:=#[d,s],argTypes:=#[43,43] }) (V g n c p J dc m sc B k:Nat) (A:Option Addr) (xs E:List UInt8)
 (hd:a.eval d=.slice (some ⟨g,p,none⟩) J dc) (hs:a.eval s=.slice A m sc) (ai:aZ w V (.slice (some ⟨g,0,none⟩) n c) xs) (N:IsB w B A m E) (hp:p+J<=n) (h0:0<n) (hk:min m J=k)
 (h:∀w',aZ w' V (.slice (some ⟨g,0,none⟩) n c) (dJ xs p (E.take k))->Below g w w'->wpAny prog md L.toArray Q fuel (I.setIfInBounds i true) (a.put o.dst (goInt k)) w'):wpAny prog md L.toArray Q (fuel+1) I a w:=by
 obtain⟨g',W,an,hb,hh,G,aq,X,hm,U⟩:=ai.row h0
 cases an
 have O:(E.take k).length=k:=by rw[bGa,N.1];omega
 have hkl':((E.take k).map u8v).length=k:=by rw[bNa,O]
 refine bF i aa ab fun K hK=>?_;refine step_copy_splice ac d s _ _ ho 5 gGa (by kernel_rfl) _ _ _ _ _ _ hd hs g p W 5 hh ((E.take k).map u8v) ?_ ?_ ?_ (aCe _) g w (bLa _ _) (aZa _) ?_
 ·rw[hkl',<-hk]
 ·intro h1;rw[hkl']at h1;obtain⟨Y,Z,rfl,_,au⟩:=N.vals.2 (by omega);refine⟨rfl,_,rfl,fun j v hj=>?_⟩;obtain⟨av,rfl⟩:=List.getElem?_eq_some_iff.1 hj;rw[hkl']at av;rw[show Addr.add ⟨Y,Z,none⟩ j=(⟨Y,Z+j,none⟩:Addr) by unfold Addr.add;split<;>simp_all];rw[au j (by rw[bNa,N.1];omega)];simp
 ·rw[hkl',G];omega
 intro w' ax ay;rw[hkl'];refine hK _ _ (h w' (aC4 hb ax ?_ (aBq W xs (E.take k) n p aq (by rw[G];exact X) U (by rw[O];omega)) X hm (by rw[gM _ _ _ (by rw[O,U];omega),U])) ay);rw[length_splice _ _ _ (by rw[hkl',G];omega),G]
theorem aCd(E Z:Bool)(n c T p L e s:Nat)(xs:List UInt8)(a1 a2 a6 a7 sp dp fc fl W X Y aa ab wp:Nat)(A:Option Addr)(w:World)(J:IsB w w.heap.size A n xs)(f3:n<=c)(f4:c<=maxLen)(hn:n<=4000)(hs:s<=1)
 (hP:PIs n xs 0 (pkA E (prN Z) a1 a2 a6 a7 sp dp fc fl T))
 (dx:∀w:World,IsB w w.heap.size A n xs->Cl 128 #[.slice A n c,.int .i64 (s:Int)] w fun en w'=>en=.returned (yS p L e)/\Below w.heap.size w w')
 (dy:okA E (W:Int) (X:Int)=true) (h1:W<18446744073709551616) (h2:X<18446744073709551616) (fe:Y<=65535) (f5:sp<=65535) (f6:dp<=65535)
 (b1:a1<18446744073709551616) (b2:a2<18446744073709551616) (b3:a6<18446744073709551616) (b4:a7<18446744073709551616)
 (cl:(if s=0 then a1 else a6)=aa) (cm:(if s=0 then a2 else a7)=ab) (cn:(if s=0 then sp else dp)=wp)
 (hT:T<=n) (d3:p+L<=e) (hL:(pQ E W X).length=L) (hh:0<L) (a8:e+whR Z+2<=T) (h4:12<=e) :
 Cl 86 #[.slice A n c,.int .i64 (s:Int),.agg #[.bool E,.int .u64 (W:Int),.int .u64 (X:Int)],.int .i64 (Y:Int)] w fun en w' =>
  dE 0 (out5 Z (out3 E (out2 xs T p e s Y (pQ E W X)) (gH E aa ab) (gH E W X)) (e+whR Z) wp Y (gH E aa ab) (gH E W X)) w w' en:=by
 obtain⟨w1,ew⟩:=eX (w.alloc (.cells #[.bool E,.int .u64 (W:Int),.int .u64 (X:Int)] 27));have j:Below w.heap.size w w1:=ew▸bC;have N:=bN ew;obtain⟨U,hU⟩:∃U,out5 Z (out3 E (out2 xs T p e s Y (pQ E W X)) (gH E aa ab) (gH E W X)) (e+whR Z) wp Y (gH E aa ab) (gH E W X)=U:=⟨_,rfl⟩
 rw[hU];have dc:aa<18446744073709551616:=by rw[<-cl];split;exact b1;exact b3
 have dd:ab<18446744073709551616:=by rw[<-cm];split;exact b2;exact b4
 have fi:wp<=65535:=by rw[<-cn];split;exact f5;exact f6
 have fj:whR Z<=16:=by unfold whR;split<;>omega
 have de:6<=whR Z:=by unfold whR;split<;>omega
 obtain⟨y,hy⟩:=eX (pkA E (prN Z) a1 a2 a6 a7 sp dp fc fl T);rw[hy]at hP;have df:y.size=23:=hy▸rfl;have d7:y.all (·.oneCell')=true:=hy▸aV3 _ _ _ _ _ _ _ _ _ _ _;have hk:((prN Z:Int) == 17)=Z:=by rcases Z with _|_<;>rfl
 have p1:(Y:Int)<=65535:=by omega
 have p2:(0:Int)<=(Y:Int):=by omega
 replace J:=J.on j;replace dc:=q_ dc;replace dd:=q_ dd;replace J:=q_ J;replace hP:=q_ hP;replace dx:=q_ dx;replace dy:=q_ dy;replace hU:=q_ hU;replace df:=q_ df;replace d7:=q_ d7;replace hy:=q_ hy;replace cl:=q_ cl;replace cm:=q_ cm;replace cn:=q_ cn;replace hL:=q_ hL;replace h1:=q_ h1;replace h2:=q_ h2;replace b1:=q_ b1;replace b2:=q_ b2;replace b3:=q_ b3;replace b4:=q_ b4;replace fj:=q_ fj;replace de:=q_ de;replace hT:=q_ hT;replace d3:=q_ d3;replace a8:=q_ a8;replace j:=q_ j;replace N:=q_ N;replace J:=q_ J;go_enter func86,ntmps86;go_upto_region 1 with fail
 apply aWa;clear ew;refine pS ?_;refine bRa rfl fun K G=>?_;go_simp;refine(hP _ c _ J f3 f4).mono ?_;rintro e w2 hE;obtain⟨rfl,al⟩:=hE;rw[bBa rfl];replace j:=q_ (j.trans (al.mono j.size));replace N:=q_ (aG al N);replace J:=q_ (J.on al);clear al;go_simp;refine G _ _ ?_;clear G K;iterate 3 refine pS ?_
 refine gF rfl rfl 48 _ (vR _ rfl) 10 rfl (.tmp 22) rfl _ (fun _=>rfl) (fun _=>rfl) (by rw[bG];exact df) (by rw[bK,df.out]) d7 ?_;intro w3 V am i1;have zg:=pU N;have z2:=j.size;replace j:=q_ (j.trans (am.mono j.size));replace N:=q_ (aG am N);replace J:=q_ (J.on am);clear am;replace V:=q_ V;refine pS ?_;refine bCa ?_;go_upto_region 4 with fail
 have I:=V.out;rw[<-hy.out]at I;unfold pkA at I;have ai:=aA I;have gc:=aA N;go_cut [28] (fun bv wx=>bv=.bool false/\w3=wx)
 case first =>
  have d8:s=0\/s=1:=by omega
  clear I;rcases d8 with rfl|rfl
  ·go_wp2_with fail
   go_meet;refine⟨?_,rfl⟩
   congr 1
   simp only[hMa,bEa];omega
  ·go_wp2_with fail
   go_meet;refine⟨?_,rfl⟩
   congr 1
   simp only[hMa,bEa];omega
 case rest =>
 obtain⟨rfl,rfl⟩:=hcut;go_upto_region 6 with fail
 have hr:(E != E)=false:=by simp
 clear I;go_wp2_with fail
 clear ai gc;refine(jB E W X true _ dy).mono ?_;rintro e w5 ⟨rfl,c8⟩;replace j:=q_ (j.trans (c8.mono j.size));replace N:=q_ (aG c8 N);replace J:=q_ (J.on c8);replace V:=q_ (aG c8 V);clear c8;go_upto_region 8 with fail
 have I:=V.out;rw[<-hy.out]at I;unfold pkA at I;have zy:=pU I;refine yH w5.heap.size (fun _=>False) (by as_aux_lemma=>kernel_rfl) ?_;intro wd e8;have fk:=aC e8 zy I;have d9:=fun(l:yJ w5.heap.size (fun _=>False) wd) (o:Nat)=>aA (l.blk fk zy (fun h=>h)) o
 clear I;have z5:=e8.size;refine xW w5.heap.size (fun _=>False) 0 6 (fuel:=3) (by as_aux_lemma=>kernel_rfl) (fun d _ _ _ _ h=>by cases d<;>exact h) (by as_aux_lemma=>kernel_rfl) (by as_aux_lemma=>kernel_rfl) ?_;simp only[dA,dC,dD];iterate 6(refine uG (fun K G=>?_);go_simp;refine G _ ?_;clear G K)
 refine aN ?_;clear d9 fk;have di:Below w5.heap.size wd (wd.alloc (.cells #[.bool false,.int .u64 0,.int .u64 0] 27)):=(bLa _ _).alloc z5 _;have dj:=aJ wd 27 #[.bool false,.int .u64 0,.int .u64 0];refine fS 6 rfl fun K G=>?_;go_simp;refine G _ _ (bT di (aZa _)) ?_;clear G K
 change wpF _ _ _ _ _ _ _ _ (wd.alloc (.cells #[.bool false,.int .u64 0,.int .u64 0] 27))
 generalize wd.alloc (.cells #[.bool false,.int .u64 0,.int .u64 0] 27)=w6 at di dj ⊢;have gd:=pU dj;refine wpF_st 7 rfl (by as_aux_lemma=>kernel_rfl) rfl 27 (.tmp 12) (.tmp 60) rfl wd.heap.size 0 rfl #[.bool E,.int .u64 (a1:Int),.int .u64 (a2:Int)] rfl dj (show 0+3<=3 by omega) (by kernel_rfl) (ad_one _ _ _) fun w7 a4 g7=>?_;rw[aQ #[.bool false,.int .u64 0,.int .u64 0] #[.bool E,.int .u64 (a1:Int),.int .u64 (a2:Int)] rfl]at a4;have ea:Below w5.heap.size w6 w7:=below_grown g7 (by omega) z5;have bd:Below w5.heap.size w5 w7:=(e8.trans di).trans ea;refine⟨bT ea (aZa _),?_⟩;have eb:=pU a4;generalize wd.heap.size=gw at a4 eb z5 ⊢;have fm:w2.heap.size≠gw:=by omega
 have fn:=q_ (aC bd zy V);clear g7 dj di ea gd;replace ⟨a4,bd⟩:=q_2 a4 bd;refine fS 8 rfl fun K G=>?_;go_simp;refine G _ _ (gQ _ _ _) ?_;clear G K;refine fD ?_;go_upto_if 65 with fail
 go_cut [12,13] (fun gv wv wx=>∃gw,gv=.pointer (some ⟨gw,0,none⟩)/\wv=.int .i64 (wp:Int)/\wx.heap[gw]?=some (.cells #[.bool E,.int .u64 (aa:Int),.int .u64 (ab:Int)] 27 (0,0))/\w5.heap.size<=gw/\Below w5.heap.size w5 wx)
 case first =>
  have d8:s=0\/s=1:=by omega
  rcases d8 with rfl|rfl
  ·obtain rfl:a2=ab:=cm.out;obtain rfl:a1=aa:=cl.out;obtain rfl:sp=wp:=cn.out;go_wp2_with fail
   go_meet;exact⟨gw,rfl,rfl,a4,z5,bd⟩
  ·obtain rfl:a7=ab:=cm.out;obtain rfl:a6=aa:=cl.out;obtain rfl:dp=wp:=cn.out;go_upto_region 10 with fail
   have I:=fn.out;rw[<-hy.out]at I;unfold pkA at I;refine yH w7.heap.size (fun k=>k=gw) (by as_aux_lemma=>kernel_rfl) ?_;intro we dw;have fo:=aC dw (pU I) I;have fp:=aC dw eb a4;have d9:=fun(l:yJ w7.heap.size (fun k=>k=gw) we) (o:Nat)=>aA (l.blk fo (pU I) (fun h=>fm h)) o
   have z7:=dw.size;have gf:=bd.size;clear I;refine xW w7.heap.size (fun k=>k=gw) 0 6 (fuel:=2) (by as_aux_lemma=>kernel_rfl) (fun d _ _ _ _ h=>by cases d<;>exact h) (by as_aux_lemma=>kernel_rfl) (by as_aux_lemma=>kernel_rfl) ?_;simp only[dA,dC,dD];iterate 6(refine uG (fun K G=>?_);go_simp;refine G _ ?_;clear G K)
   refine aN ?_;clear d9 fo;refine wpF_st 6 rfl (by as_aux_lemma=>kernel_rfl) rfl 27 (.tmp 12) (.tmp 68) rfl gw 0 rfl #[.bool E,.int .u64 (a6:Int),.int .u64 (a7:Int)] rfl fp (show 0+3<=3 by omega) (by kernel_rfl) (ad_one _ _ _) fun w8 db g8=>?_;rw[aQ #[.bool E,.int .u64 (a1:Int),.int .u64 (a2:Int)] #[.bool E,.int .u64 (a6:Int),.int .u64 (a7:Int)] rfl]at db;have ec:Below w5.heap.size w5 w8:=(bd.trans (dw.mono gf)).trans (below_grown g8 (by omega) z5);refine⟨qZ g8 z7 rfl,?_⟩;clear g8 fp;replace ⟨db,ec⟩:=q_2 db ec;refine fS 7 rfl fun K G=>?_;go_simp;refine G _ _ (gQ _ _ _) ?_;clear G K;refine fD ?_;go_wp2_with fail
   go_meet;exact⟨gw,rfl,rfl,db,z5,ec⟩
 case rest =>
 obtain⟨gv,rfl,rfl,ad,zv,c4⟩:=hcut;clear a4 bd fn fm eb z5 zy;have ht:=pU N;replace j:=q_ (j.trans (c4.mono j.size));replace N:=q_ (aG c4 N);replace J:=q_ (J.on c4);replace V:=q_ (aG c4 V);clear c4;replace ad:=q_ ad;go_wp2_with fail
 refine(dx _ J).mono ?_;rintro e c9 ⟨rfl,b9⟩;replace j:=q_ (j.trans (b9.mono j.size));replace N:=q_ (aG b9 N);replace J:=q_ (J.on b9);replace V:=q_ (aG b9 V);replace ad:=q_ (aG b9 ad);clear b9;unfold yS;have I:=V.out;rw[<-hy.out]at I;unfold pkA at I;have ai:=aA I;clear I;have fq:=J.take (m:=T) hT;have l1:(T:Int)<=(c:Int):=by have:=hT.out;omega
 go_wp2_with (at_builtin;refine sD rfl _ (.tmp 82) rfl c9.heap.size (.slice none 0 0) [] (xs.take T) A T c c9.heap.size rfl rfl (aZ.nil _ _) fq (aZa _) ?_ ?_)
 ·have:=hT.out;simp;omega
 intro i2 e9 be f2;have bp:=f2.qG;have hv:=j.size;obtain⟨ip,co,rfl,gx,iq,dk⟩:=be.form;have tl:(xs.take T).length=T:=by rw[bGa,J.out.1];have:=hT.out;omega
 rw[tl]at be dk gx ⊢;clear f2 ai l1 fq;clear J;replace ⟨be,dk,bp⟩:=q_3 be dk bp;obtain⟨AB,cu⟩:=eX (pQ E W X);have dl:AB.length=L:=by rw[<-cu];exact hL
 have hw:p+L<=T:=by have:=d3.out;have:=a8.out;omega
 obtain⟨fy,ir,rfl,gy,gz,-⟩:=be.row (by have:=a8.out;omega);clear gz;have fr:=pU N;have ed:=aC bp fr N;obtain⟨pL,it⟩:∃pL,p+L=pL:=⟨_,rfl⟩
 have ia:T<=n:=hT.out;have q0:IntKind.i64.wrap ((p:Int)+(L:Int))=(pL:Int):=by rw[wO _];omega
 have q1:(0:Int)<=(pL:Int):=by omega
 have q2:(pL:Int)<=(co:Int):=by omega
 have q3:p<=pL:=by omega
 have q4:¬ (co=p):=by omega
 have q5:pL - p=L:=by omega
 have ct:=fun(l:Later e9) (o:Nat)=>aA (aC l.hb (pU ed) ed) o
 clear ed;replace ⟨cu,dl⟩:=q_2 cu dl;go_upto_region 13 with fail
 refine rL ?_;refine eS 0 7 2 ?_;simp only[dA,dC,dD];iterate 7 refine qE ?_
 refine aT ?_;clear ct;refine eT 7 rfl fun l K G=>?_;go_simp;go_at_call 129;refine(aLd E W X _ h1 h2).mono ?_;rintro en iw ⟨ix,rfl,e4,dv⟩;rw[cu.out]at e4;refine G _ _ dv ?_;clear G K;refine eE fun l2=>?_;have zl:=l.hb.size;have gl:=dv.size;obtain⟨g0,g1,rfl,g2,iu,ex⟩:=e4.form;rw[dl.out]at ex g2 ⊢;have eh:Below e9.heap.size e9 l2.w:=(l.hb.trans (dv.mono zl)).trans (l2.hb.mono (by omega));have ft:=be.below eh;have fu:=ex.on l2.hb;refine aSx 8 rfl (by as_aux_lemma=>kernel_rfl) rfl (.tmp 89) (.tmp 91) rfl c9.heap.size fy T co p L (co - p) L g1 _ L g0 (xs.take T) AB rfl rfl ft fu (by omega) (by omega) (by omega) fun cr bo fh=>?_;have cv:Below c9.heap.size c9 cr:=(bp.trans (eh.mono bp.size)).trans (fh.mono gy);rw[bZa (l:=AB) (by rw[dl.out];omega)]at bo;clear ft fu ex e4 dv fh eh be dk bp q0 q1 q2 q3 q4 q5 gl zl fr;replace bo:=q_ bo;refine tD ?_;go_simp;replace j:=q_ (j.trans (cv.mono j.size));replace N:=q_ (aG cv N);replace V:=q_ (aG cv V);replace ad:=q_ (aG cv ad);clear cv;have gm:=j.size;have br:=bo.reads.2.2.2;obtain⟨o1,cw⟩:=eX (dJ (xs.take T) p AB);rw[cw]at bo br;have ib:=a8.out;have q0:IntKind.i64.wrap (2*(s:Int))=2*(s:Int):=wO _;have q1:IntKind.i64.wrap ((e:Int)+2*(s:Int))=((e+2*s:Nat):Int):=by rw[wO _];omega
 have q2:IntKind.u64.wrap (Y:Int)=(Y:Int):=by rw[cTa];omega
 replace ⟨cw,br⟩:=q_2 cw br;go_wp2_with fail
 have cx:=aCb (some ⟨fy,0,none⟩) T co o1 (e+2*s) Y 2 ((e:Int)+2*(s:Int)) (Y:Int) 2 (by omega) rfl rfl cr br (by omega) (by have:=de.out;omega) (by omega) (by omega) (by omega);refine cx.mono ?_;clear cx;rintro en av ⟨iy,rfl,ak,ca⟩;obtain⟨o2,dq⟩:∃o2,dJ o1 (e+2*s) (beB Y 2)=o2:=⟨_,rfl⟩
 have fv:o1.length=T:=br.out.1;have cy:o2.length=T:=by rw[<-dq,gM _ _ _ (by rw[aR];have:=de.out;omega),fv]
 have ei:out2 xs T p e s Y AB=o2:=by unfold out2;rw[cw.out,dq]
 rw[dq]at ak;obtain⟨b7,b8,rfl,dr,ez,c0⟩:=ak.form;rw[cy]at ak c0 dr ⊢;have ic:=ca.size;clear br cw bo q0 q1 q2 fv dq;replace j:=q_ (j.trans (ca.mono j.size));replace N:=q_ (aG ca N);replace V:=q_ (aG ca V);replace ad:=q_ (aG ca ad);clear ca;have id:=j.size;have I:=V.out;rw[<-hy.out]at I;unfold pkA at I;have ai:=aA I;clear I;obtain⟨o3,bt⟩:=eX (out3 E o2 (gH E aa ab) (gH E W X));have bs:o3.length=T:=by
  rw[<-bt];unfold out3;split
  ·exact cy
  ·rw[gM _ _ _ (by rw[aR];omega),cy]
 replace ⟨ak,c0,cy,ei,bt,bs⟩:=q_6 ak c0 cy ei bt bs;go_upto_if 103 with fail
 go_cut [17] (fun ov wx=>∃A c,ov=.slice A T c/\T<=c/\c<=maxLen/\aZ wx cr.heap.size (.slice A T c) o3/\Below av.heap.size av wx)
 case first =>
  rcases E with _|_
  ·have ej:=pU N;have ek:=pU ad;have ct:=fun(l:Later av) (o:Nat)=>aA (aC l.hb ej N) o
   have el:=fun(l:Later av) (o:Nat)=>aA (aC l.hb ek ad) o
   clear ai;go_upto_region 16 with fail
   refine rL ?_;refine eS 0 2 5 ?_;simp only[dA,dC,dD];iterate 2 refine qE ?_
   refine aT ?_;refine eS 3 1 4 ?_;simp only[dB,dA,dC,dD];refine qE ?_;refine aT ?_;clear ct el;refine eT 2 rfl fun l K G=>?_;go_simp;go_at_call 131;refine(aBg false aa ab 0 0 rfl _ dc dd (by omega)).mono ?_;rintro en bl ⟨g5,rfl,cc,ag⟩;obtain⟨e0,e1,rfl,-,-,bj⟩:=cc.form;have gn:(gH false aa ab++[0]).length=3:=by rw[bHa,tJ];rfl
   rw[gn]at bj ⊢;refine G _ _ ag ?_;clear G K cc;refine eT 4 rfl fun l2 K G=>?_;go_simp;go_at_call 131;refine(aBg false W X 0 0 rfl _ h1 h2 (by omega)).mono ?_;rintro en e5 ⟨g6,rfl,cd,az⟩;obtain⟨e2,e3,rfl,-,-,bk⟩:=cd.form;have gp:(gH false W X++[0]).length=3:=by rw[bHa,tJ];rfl
   rw[gp]at bk ⊢;refine G _ _ az ?_;clear G K cd;refine eT 5 rfl fun l3 K G=>?_;go_simp;go_at_call 130;have zl:=l.hb.size;have gq:=ag.size;have em:=l2.hb.size;have gr:=az.size;have gs:=l3.hb.size;have c1:Below av.heap.size av bl:=l.hb.trans (ag.mono zl);have al:Below bl.heap.size bl e5:=l2.hb.trans (az.mono em);have am:Below av.heap.size av l3.w:=((tw c1 al)).trans (l3.hb.mono (by omega));refine(aA0 b7 e0 e2 T b8 10 3 e1 e3 10 rfl o2 (gH false aa ab++[0]) (gH false W X++[0]) l3.w (c0.on am) (by have:=hT.out;omega) (by omega) ((bj.on al).on l3.hb) (bk.on l3.hb) ?_ ?_ (by omega) (by omega)).mono ?_
   ·intro x J;rcases List.mem_append.1 J with h|h
    ·exact aCk _ _ _ x h
    ·rw[List.mem_singleton.1 h];omega
   ·intro x J;rcases List.mem_append.1 J with h|h
    ·exact aCk _ _ _ x h
    ·rw[List.mem_singleton.1 h];omega
   rintro en g9 ⟨ha,rfl,bm,a0⟩;have ho:dJ o2 10 (beB (gZ (beN o2 10 2) (gH false aa ab++[0]) (gH false W X++[0])) 2)=o3:=bt.out;rw[ho]at bm;refine G _ _ a0 ?_;clear G K;refine eE fun l4=>?_;have an:=(bm.below l4.hb).weaken (show cr.heap.size<=l3.w.heap.size by omega);have bf:Hid (Below av.heap.size av l4.w):=q_ (((tw am a0)).trans (l4.hb.mono (by have:=a0.size;omega)));obtain⟨ds,dt,rfl,du,fz,-⟩:=an.form;rw[bs.out]at an du ⊢;clear c1 al am bj bk ag az a0 bm ho;replace an:=q_ an;refine tM 6 rfl ?_;refine tD ?_;go_wp2_with fail
   go_meet;exact⟨ds,dt,rfl,du,fz,an,bf⟩
  ·have ho:=bt.out;unfold out3 at ho;rw[bBa rfl]at ho;subst ho;go_wp2_with fail
   go_meet;exact⟨b7,b8,rfl,dr,ez,ak,bLa _ _⟩
 case rest =>
 clear ak c0 dr ez;obtain⟨b7,b8,rfl,dr,ez,ak,ag⟩:=hcut;clear ai;replace j:=q_ (j.trans (ag.mono j.size));replace N:=q_ (aG ag N);replace V:=q_ (aG ag V);replace ad:=q_ (aG ag ad);clear ag;have I:=V.out;rw[<-hy.out]at I;unfold pkA at I;have ai:=aA I;clear I;have ie:=j.size;have bw:=ak.reads.2.2.2;have dm:=ak.weaken (show w.heap.size<=cr.heap.size from gm);obtain⟨O,bx⟩:∃O,e+whR Z=O:=⟨_,rfl⟩
 obtain⟨ck,bg⟩:=eX (beN o3 O 2);have ig:ck<65536:=bg▸bX o3 O 2;have ae:=fun w' hi=>fB (O:Int) 2 O 2 rfl rfl b7 T b8 o3 w' hi (by have:=hT.out;unfold maxLen;omega) (by have:=a8.out;have:=hT.out;omega) (by omega)
 rw[bg]at ae;have dn:out5 Z o3 O wp Y (gH E aa ab) (gH E W X)=U:=by
  have:=hU.out;rw[cu.out,ei.out,bt.out,bx]at this;exact this
 have ih:=hT.out;have ii:O+2<=T:=by have:=a8.out;omega
 have ij:IntKind.i64.wrap ((e:Int)+16)=(e:Int)+16:=wO _;have q6:IntKind.i64.wrap ((e:Int)+6)=(e:Int)+6:=wO _;replace ⟨bw,dm,bx,bg,ae,dn,ak⟩:=q_7 bw dm bx bg ae dn ak;go_upto_if 115 with fail
 by_cases hz:Z=true/\ck=0
 ·obtain⟨rfl,rfl⟩:=hz;have eo:(e:Int)+6=(O:Int):=by have:=bx.out;have e6:whR true=6:=rfl;omega
  have ax:dE 0 U w wc (.returned (.tuple #[.slice b7 T b8,.int .i64 0])):=by
   refine dE.yes ?_ j;rw[<-dn.out];unfold out5;rw[bg.out,bBa ⟨rfl,rfl⟩];exact dm
  replace ax:=q_ ax;clear ai;go_wp2_with fail
  refine(ae _ bw).mono ?_;rintro en w' ⟨rfl,rfl⟩;go_wp2_with fail
  go_ret2;exact ax
 obtain⟨cz,f0⟩:=eX (((ck:Int) == 0));go_cut [18] (fun kv wx=>kv=.int .i64 (O:Int)/\wc=wx)
 case first =>
  clear ai;rcases Z with _|_
  ·have eo:(e:Int)+16=(O:Int):=by have:=bx.out;have e6:whR false=16:=rfl;omega
   go_wp2_with fail
   go_meet;exact⟨by rw[eo],rfl⟩
  ·have eo:(e:Int)+6=(O:Int):=by have:=bx.out;have e6:whR true=6:=rfl;omega
   have il:((ck:Int) == 0)=false:=by rw[bDa];intro h;exact hz ⟨rfl,by omega⟩
   clear f0;go_wp2_with fail
   refine(ae _ bw).mono ?_;rintro en w' ⟨rfl,rfl⟩;go_wp2_with fail
   go_meet;exact⟨rfl,rfl⟩
 case rest =>
 obtain⟨rfl,rfl⟩:=hcut;clear f0 ai;obtain⟨fs,bh⟩:=eX (gH E aa ab);obtain⟨ts,bz⟩:=eX (gH E W X);obtain⟨ml,b5⟩:∃ml,fs.length+1=ml:=⟨_,rfl⟩
 have im:ml<=9:=by rw[<-b5,<-bh,tJ];split<;>omega
 have ep:ts.length+1=ml:=by rw[<-b5,<-bh,<-bz,tJ,tJ]
 obtain⟨cq,c3⟩:∃cq,gZ ck (fs++[wp]) (ts++[Y])=cq:=⟨_,rfl⟩
 have io:cq<=65535:=c3▸aBf _ _ ck (by omega);obtain⟨o4,b0⟩:=eX (dJ o3 O (beB cq 2));have eq:(fs++[wp]).length=ml:=by rw[bHa];exact b5
 have er:(ts++[Y]).length=ml:=by rw[bHa];exact ep
 have es:o4.length=T:=by rw[<-b0,gM _ _ _ (by rw[aR,bs.out];omega),bs.out]
 have et:beN o4 O 2=cq:=by rw[<-b0];exact aJz o3 O cq (by rw[bs.out];omega) (by omega)
 have c2:(if Z=true/\cq=0 then dJ o4 O (beB 65535 2)else o4)=U:=by
  rw[<-dn.out];unfold out5;rw[bg.out,bAa hz,bh,bz,c3,b0]
 have eu:∀x∈fs++[wp],x<=65535:=by
  intro x J;rcases List.mem_append.1 J with h|h
  ·exact aCk _ _ _ x (bh▸h)
  ·rw[List.mem_singleton.1 h];exact fi
 have ev:∀x∈ts++[Y],x<=65535:=by
  intro x J;rcases List.mem_append.1 J with h|h
  ·exact aCk _ _ _ x (bz▸h)
  ·rw[List.mem_singleton.1 h];exact fe
 have ej:=pU N;have ek:=pU ad;have ct:=fun(l:Later wc) (o:Nat)=>aA (aC l.hb ej N) o
 have el:=fun(l:Later wc) (o:Nat)=>aA (aC l.hb ek ad) o
 replace ⟨bh,bz,c3,b0,es,et,c2,eu,ev,eq,er⟩:=q_11 bh bz c3 b0 es et c2 eu ev eq er;replace ⟨b5,ep⟩:=q_2 b5 ep;go_upto_region 22 with fail
 refine rL ?_;refine eS 0 4 6 ?_;simp only[dA,dC,dD];iterate 4 refine qE ?_
 refine aT ?_;refine eS 5 2 4 ?_;simp only[dB,dA,dC,dD];iterate 2 refine qE ?_
 refine aT ?_;clear ct el;refine eT 4 rfl fun l K G=>?_;go_simp;go_at_call 131;refine(aBg E aa ab wp (wp:Int) rfl _ dc dd fi).mono ?_;rintro en bl ⟨g5,rfl,cc,ag⟩;rw[bh.out]at cc;obtain⟨e0,e1,rfl,-,-,bj⟩:=cc.form;rw[eq.out]at bj ⊢;refine G _ _ ag ?_;clear G K cc;refine eT 7 rfl fun l2 K G=>?_;go_simp;go_at_call 131;refine(aBg E W X Y (Y:Int) rfl _ h1 h2 fe).mono ?_;rintro en e5 ⟨g6,rfl,cd,az⟩;rw[bz.out]at cd;obtain⟨e2,e3,rfl,-,-,bk⟩:=cd.form;rw[er.out]at bk ⊢;refine G _ _ az ?_;clear G K cd;refine eT 8 rfl fun l3 K G=>?_;go_simp;go_at_call 130;have zl:=l.hb.size;have gq:=ag.size;have em:=l2.hb.size;have gr:=az.size;have gs:=l3.hb.size;have c1:Below wc.heap.size wc bl:=l.hb.trans (ag.mono zl);have al:Below bl.heap.size bl e5:=l2.hb.trans (az.mono em);have am:Below wc.heap.size wc l3.w:=((tw c1 al)).trans (l3.hb.mono (by omega));refine(aA0 b7 e0 e2 T b8 O ml e1 e3 (O:Int) rfl o3 (fs++[wp]) (ts++[Y]) l3.w (bw.on am) (by omega) (by omega) ((bj.on al).on l3.hb) (bk.on l3.hb) eu ev (by omega) (by have:=b5.out;omega)).mono ?_;rintro en g9 ⟨ha,rfl,bm,a0⟩;rw[bg.out,c3.out,b0.out]at bm;refine G _ _ a0 ?_;clear G K;refine eE fun l4=>?_;have an:=(bm.below l4.hb).weaken (show w.heap.size<=l3.w.heap.size by omega);have bf:Below wc.heap.size wc l4.w:=((tw am a0)).trans (l4.hb.mono (by have:=a0.size;omega));obtain⟨ds,dt,rfl,du,fz,b6⟩:=an.form;rw[es.out]at an du b6 ⊢;clear c1 al am bj bk ag az a0 bm bw dm ae;replace ⟨an,b6⟩:=q_2 an b6;refine tM 9 rfl ?_;refine tD ?_;replace j:=q_ (j.trans (bf.mono j.size));replace N:=q_ (aG bf N);replace V:=q_ (aG bf V);replace ad:=q_ (aG bf ad);clear bf;have ae:=fun w' hi=>fB (O:Int) 2 O 2 rfl rfl ds T dt o4 w' hi (by unfold maxLen;omega) (by omega) (by omega)
 rw[et.out]at ae;have I:=V.out;rw[<-hy.out]at I;unfold pkA at I;have ai:=aA I;have fx:=j.size;clear I;by_cases hu:Z=true
 ·subst hu;by_cases fb:cq=0
  ·have gt:((cq:Int) == 0)=true:=by rw[fb];rfl
   have bi:Hid (dJ o4 O (beB 65535 2)=U):=q_ (by have:=c2.out;rwa[bBa ⟨rfl,fb⟩]at this);clear hz;replace ae:=q_ ae;go_wp2_with fail
   refine(ae _ b6).mono ?_;rintro en w' ⟨rfl,rfl⟩;clear ai;go_wp2_with fail
   have cx:=aCb ds T dt o4 O 65535 2 (O:Int) 65535 2 rfl rfl rfl _ b6 (by omega) (by omega) (by omega) (by omega) (by omega);refine cx.mono ?_;clear cx;rintro en iz ⟨i0,rfl,e7,f1⟩;rw[bi.out]at e7;have ax:=q_ (dE.yes (e7.weaken fx) (j.trans (f1.mono fx)));clear e7 f1;go_wp2_with fail
   go_ret2;exact ax
  ·have gt:((cq:Int) == 0)=false:=by rw[bDa];omega
   have bi:o4=U:=by have:=c2.out;rwa[bAa (fun h=>fb h.2)]at this
   have ax:=q_ (dE.yes (bi▸an) j);clear hz bi;replace ae:=q_ ae;go_wp2_with fail
   refine(ae _ b6).mono ?_;rintro en w' ⟨rfl,rfl⟩;clear ai;go_wp2_with fail
   go_ret2;exact ax
 ·obtain rfl:Z=false:=by simpa using hu
  have bi:o4=U:=by have:=c2.out;rwa[bAa (fun h=>hu h.1)]at this
  have ax:=q_ (dE.yes (bi▸an) j);clear hz bi;replace ae:=q_ ae;go_wp2_with fail
  go_ret2;exact ax
theorem turn_bad(n c K:Nat)(xs U:List UInt8)(y:Array Value)(L:K≠0)(s:Int)(N:Bool)(O V:Nat)(ab:Int)(A:Option Addr)(w:World)(E:IsB w w.heap.size A n xs)(ac:n<=c)(ad:c<=maxLen)(G:PIs n xs K y) :
 Cl 86 #[.slice A n c,.int .i64 s,.agg #[.bool N,.int .u64 (O:Int),.int .u64 (V:Int)],.int .i64 ab] w fun en w'=>dE K U w w' en:=by
 obtain⟨w1,Y⟩:=eX (w.alloc (.cells #[.bool N,.int .u64 (O:Int),.int .u64 (V:Int)] 27));have j:Hid (Below w.heap.size w w1):=q_ (Y▸bC);have t1:((K:Int) != 0)=true:=by rw[dLa];omega
 replace E:=E.on j;have X:Hid (pkZ.all (·.oneCell')=true):=q_ (jF);have I:Hid (pkZ.size=23):=q_ (bG);replace ⟨G,E⟩:=q_2 G E;go_enter func86,ntmps86;go_upto_region 1 with fail
 apply aWa;clear Y;refine pS ?_;refine bRa rfl fun K W=>?_;go_simp;refine(G _ c _ E ac ad).mono ?_;rintro e w2 hE;obtain⟨rfl,Z⟩:=hE;rw[bAa L];obtain⟨z,J⟩:=eX pkZ;rw[J]at X I ⊢;replace j:=q_ (j.trans (Z.mono j.size));clear Z;replace J:=q_ J;go_simp;refine W _ _ ?_;clear W K;iterate 3 refine pS ?_
 refine gF rfl rfl 48 _ (vR _ rfl) 10 rfl (.tmp 22) rfl _ (fun _=>rfl) (fun _=>rfl) (by rw[bG];exact I) (by rw[bK,I.out]) X ?_;intro w3 ai aa am;replace j:=q_ (j.trans (aa.mono j.size));clear aa;refine pS ?_;refine bCa ?_;have af:=q_ (dE.no U L j);clear ai;go_wp2_with fail
 go_ret2;exact af
theorem aGd(n c:Nat)(xs U:List UInt8)(y:Array Value)(v6:Bool)(pr:Int)(sv:Bool)(ak al:Int)(dv:Bool)(an ao sp dp ar:Int)(fl:Int)(J:Bool)(av:Int)(aw:Bool)(ax ay:Int)(az:Bool)(a0 a1 a2 a3 sz:Int)
 (L:pkG v6 pr sv ak al dv an ao sp dp ar fl J av aw ax ay az a0 a1 a2 a3 sz=y) (s:Int) (Z:Bool) (aa ab:Nat) (E:Int) (V:(s≠0/\s≠1)\/E<0\/65535<E\/J=true) (A:Option Addr) (w:World) (N:IsB w w.heap.size A n xs) (a4:n<=c) (a5:c<=maxLen) (W:PIs n xs 0 y) :
 Cl 86 #[.slice A n c,.int .i64 s,.agg #[.bool Z,.int .u64 (aa:Int),.int .u64 (ab:Int)],.int .i64 E] w fun en w'=>dE 1 U w w' en:=by
 obtain⟨w1,ae⟩:=eX (w.alloc (.cells #[.bool Z,.int .u64 (aa:Int),.int .u64 (ab:Int)] 27));have I:Hid (Below w.heap.size w w1):=q_ (ae▸bC);replace N:=N.on I;have ad:Hid (y.size=23):=q_ (L▸rfl);have a8:Hid (y.all (·.oneCell')=true):=q_ (L▸aQr _ _ _ _ _ _ _ _ _ _ _ _ _ _ _ _ _ _ _ _ _ _ _);replace ⟨W,N,L,V⟩:=q_4 W N L V;go_enter func86,ntmps86;go_upto_region 1 with fail
 apply aWa;clear ae;refine pS ?_;refine bRa rfl fun K hK=>?_;go_simp;refine(W _ c _ N a4 a5).mono ?_;rintro e w2 hE;obtain⟨rfl,j⟩:=hE;rw[bBa rfl];replace I:=q_ (I.trans (j.mono I.size));clear j;go_simp;refine hK _ _ ?_;clear hK K;iterate 3 refine pS ?_
 refine gF rfl rfl 48 _ (vR _ rfl) 10 rfl (.tmp 22) rfl _ (fun _=>rfl) (fun _=>rfl) (by rw[bG];exact ad) (by rw[bK,ad.out]) a8 ?_;intro w3 af ag bj;replace I:=q_ (I.trans (ag.mono I.size));clear ag;refine pS ?_;refine bCa ?_;have a9:=q_ (dE.no U (show 1≠0 by omega) I);have O:=af;rw[<-L.out]at O;unfold pkG at O;have ba:=aA O;clear O af;go_upto_region 4 with fail
 go_cut [28] (fun bv wx=>bv=.bool true/\w3=wx)
 case first =>
  have G:=V.out;by_cases X:s=0
  .subst X;have j:E<0\/65535<E\/J=true:=by
    rcases G with h|h
    .omega
    .exact h
   by_cases q1:E<0
   .clear G j;go_wp2_with fail
    go_meet;refine⟨?_,rfl⟩
    congr 1
   by_cases q2:65535<E
   .clear G j;go_wp2_with fail
    go_meet;refine⟨?_,rfl⟩
    congr 1
   obtain rfl:J=true:=by
    rcases j with h|h|h
    .omega
    .omega
    .exact h
   clear G j;go_wp2_with fail
   go_meet;refine⟨?_,rfl⟩
   congr 1
  have bg:(s != 0)=true:=by rw[dLa];exact X
  by_cases Y:s=1
  .subst Y;have j:E<0\/65535<E\/J=true:=by
    rcases G with h|h
    .omega
    .exact h
   by_cases q1:E<0
   .clear G j;go_wp2_with fail
    go_meet;refine⟨?_,rfl⟩
    congr 1
   by_cases q2:65535<E
   .clear G j;go_wp2_with fail
    go_meet;refine⟨?_,rfl⟩
    congr 1
   obtain rfl:J=true:=by
    rcases j with h|h|h
    .omega
    .omega
    .exact h
   clear G j;go_wp2_with fail
   go_meet;refine⟨?_,rfl⟩
   congr 1
  have bh:(s != 1)=true:=by rw[dLa];exact Y
  clear G X Y;go_wp2_with fail
  go_meet;exact⟨rfl,rfl⟩
 case rest =>
 obtain⟨rfl,rfl⟩:=hcut;clear ba;go_wp2_with fail
 go_ret2;exact a9
theorem aK4(n c:Nat)(xs U:List UInt8)(y:Array Value)(L:Bool)(pr:Int)(sv:Bool)(an ao:Int)(dv:Bool)(aq ar sp dp aw:Int)(fl:Int)(ay:Int)(az:Bool)(a0 a1:Int)(a2:Bool)(a3 a4 a5 a6 sz:Int)
 (N:pkG L pr sv an ao dv aq ar sp dp aw fl false ay az a0 a1 a2 a3 a4 a5 a6 sz=y) (s:Int) (j:Bool) (I J:Nat) (X:Int) (Y:s=0\/s=1) (p1:0<=X) (p2:X<=65535) (Z:j≠L\/okA j (I:Int) (J:Int)=false) (A:Option Addr) (w:World) (O:IsB w w.heap.size A n xs) (a7:n<=c) (a8:c<=maxLen) (hP:PIs n xs 0 y) :
 Cl 86 #[.slice A n c,.int .i64 s,.agg #[.bool j,.int .u64 (I:Int),.int .u64 (J:Int)],.int .i64 X] w fun en w'=>dE 18 U w w' en:=by
 obtain⟨w1,ad⟩:=eX (w.alloc (.cells #[.bool j,.int .u64 (I:Int),.int .u64 (J:Int)] 27));have E:Hid (Below w.heap.size w w1):=q_ (ad▸bC);have G:Hid (w1.heap[w.heap.size]?=some (.cells #[.bool j,.int .u64 (I:Int),.int .u64 (J:Int)] 27 (0,0))):=q_ (ad▸aJ _ _ _);replace O:=O.on E;have ai:Hid (y.size=23):=q_ (N▸rfl);have bb:Hid (y.all (·.oneCell')=true):=q_ (N▸aQr _ _ _ _ _ _ _ _ _ _ _ _ _ _ _ _ _ _ _ _ _ _ _);replace ⟨hP,O,N,Z,Y⟩:=q_5 hP O N Z Y;go_enter func86,ntmps86;go_upto_region 1 with fail
 apply aWa;clear ad;refine pS ?_;refine bRa rfl fun K hK=>?_;go_simp;refine(hP _ c _ O a7 a8).mono ?_;rintro e w2 hE;obtain⟨rfl,ae⟩:=hE;rw[bBa rfl];replace E:=q_ (E.trans (ae.mono E.size));replace G:=q_ (aG ae G);clear ae;go_simp;refine hK _ _ ?_;clear hK K;iterate 3 refine pS ?_
 refine gF rfl rfl 48 _ (vR _ rfl) 10 rfl (.tmp 22) rfl _ (fun _=>rfl) (fun _=>rfl) (by rw[bG];exact ai) (by rw[bK,ai.out]) bb ?_;intro w3 ak ag bl;replace E:=q_ (E.trans (ag.mono E.size));replace G:=q_ (aG ag G);clear ag;refine pS ?_;refine bCa ?_;have W:=ak;rw[<-N.out]at W;unfold pkG at W;have bc:=aA W;have bd:=aA G;clear W ak;go_upto_region 4 with fail
 go_cut [28] (fun bv wx=>bv=.bool false/\w3=wx)
 case first =>
  rcases Y with rfl|rfl
  .go_wp2_with fail
   go_meet;refine⟨?_,rfl⟩
   congr 1
   simp only[hMa,bEa];omega
  .go_wp2_with fail
   go_meet;refine⟨?_,rfl⟩
   congr 1
   simp only[hMa,bEa];omega
 case rest =>
 obtain⟨rfl,rfl⟩:=hcut;by_cases V:j=L
 .have ab:okA j (I:Int) (J:Int)=false:=by
   rcases Z with h|h
   .exact absurd V h
   .exact h
  subst V;have be:(j != j)=false:=by simp
  replace ab:=q_ ab;go_upto_region 6 with fail
  go_wp2_with fail
  clear bc bd;refine(jB j I J false _ ab).mono ?_;rintro e w5 ⟨rfl,af⟩;replace E:=q_ (E.trans (af.mono E.size));replace G:=q_ (aG af G);clear af;have ac:=q_ (dE.no U (show 18≠0 by omega) E);go_wp2_with fail
  go_ret2;exact ac
 .have be:(j != L)=true:=by rw[dLa];exact V
  have ac:=q_ (dE.no U (show 18≠0 by omega) E);replace V:¬ j=L:=V;go_wp2_with fail
  go_ret2;exact ac
theorem dE.as{U V:List UInt8}{K:Nat}{w:World}{e:Ending}(h:dE K U w w' e)(j:K≠0):dE K V w w' e:=by
 obtain⟨v,A,I,E,G⟩:=h;exact⟨v,A,fun h=>absurd h j,E,G⟩
theorem aMb(U:Int)(j:Bool)(E G:Nat)(V:Bool)(I J:Nat)(L N O:Int)(A:Option Addr)(n c:Nat)(xs:List UInt8)(w:World)(W:IsB w w.heap.size A n xs)(X:n<=4000)
 (Y:E<18446744073709551616) (Z:G<18446744073709551616) (h6:I<18446744073709551616) (h7:J<18446744073709551616) :
 Cl 18 #[.agg (tuA U j E G V I J L N),.int .i64 O,.slice A n c] w fun e w'=>dE (aVm U j E G V I J L N O) (xE j E G I J 17 O (dgU j E G I J L N xs)) w w' e:=by
 by_cases h:U≠17\/j≠V
 .have hk:aVm U j E G V I J L N O=1:=by unfold aVm;rw[bBa h]
  rw[hk];exact(aPd U j E G V I J L N O A n c w h).mono fun e w' he=>he.as (by omega)
 .obtain⟨rfl,rfl⟩:U=17/\j=V:=by simpa using h
  rcases j with _|_
  .exact aLf E G I J L N O A n c xs w W X Y Z h6 h7
  .exact aMc E G I J L N O A n c xs w W X Y Z h6 h7
theorem aWy(A j:Int)(E:0<=j):(okA false A j=true)↔(A=0/\j<4294967296):=by
 unfold okA;simp
theorem aXc(j:Bool)(A:Int)(E G I J:Nat):aEq j A E G I J=0↔(0<=A/\A<=255/\(j=true\/((E:Int)=0/\(I:Int)=0/\(G:Int)<4294967296/\(J:Int)<4294967296))):=by
 unfold aEq;rcases j with _|_
 .rw[bAa (by simp)];unfold zG;have L:=aWy E G (by omega);have N:=aWy I J (by omega);split
  .rename_i h;rw[L,N]at h;exact⟨fun _=>⟨h.1,h.2.1,.inr ⟨h.2.2.1.1,h.2.2.2.1,h.2.2.1.2,h.2.2.2.2⟩⟩,fun _=>rfl⟩
  .rename_i h;rw[L,N]at h;refine⟨fun h=>absurd h (by omega),fun⟨a,b,c⟩=>?_⟩;rcases c with c|⟨c,d,e,f⟩
   .cases c
   .exact absurd ⟨a,b,⟨c,e⟩,d,f⟩ h
 .rw[bBa rfl];unfold aVn;split
  .rename_i h;exact⟨fun _=>⟨h.1,h.2,.inl rfl⟩,fun _=>rfl⟩
  .rename_i h;exact⟨fun h=>absurd h (by omega),fun⟨a,b,_⟩=>absurd ⟨a,b⟩ h⟩
theorem aV8(J:Int)(G:Bool)(O U:Nat)(L:Bool)(V W:Nat)(A E X:Int):madeP J G O U L V W A E X 0 17↔aVm J G O U L V W A E X=0:=by
 unfold aVm madeP;by_cases h:J≠17\/G≠L
 .rw[bBa h];exact⟨fun j=>by rcases h with h|h;exact absurd j.1 h;exact absurd j.2.1 h,fun j=>by omega⟩
 .rw[bAa h];obtain⟨rfl,rfl⟩:J=17/\G=L:=by simpa using h
  have Z:=aXc G X O U V W;have Y:dgK A E=0↔(0<=A/\A<=65535/\0<=E/\E<=65535):=by
   unfold dgK pX;simp only[cBa];split
   .rename_i h;exact⟨fun _=>(by omega),fun _=>rfl⟩
   .rename_i h;exact⟨fun h=>absurd h (by omega),fun j=>absurd (by omega) h⟩
  by_cases I:dgK A E=0
  .rw[bBa I,Z];have N:=Y.1 I;exact⟨fun j=>⟨j.2.2.1,j.2.2.2.1,j.2.2.2.2.2.2.2.2.2.2⟩,fun j=>⟨rfl,rfl,j.1,j.2.1,N.1,N.2.1,N.2.2.1,N.2.2.2,by omega,by omega,j.2.2⟩⟩
  .rw[bAa I];exact⟨fun j=>absurd (Y.2 ⟨j.2.2.2.2.1,j.2.2.2.2.2.1,j.2.2.2.2.2.2.1,j.2.2.2.2.2.2.2.1⟩) I,fun j=>absurd j I⟩
theorem aWp(j:Bool)(A E G I J:Nat)(L:Int)(U:List UInt8):(xE j A E G I J L U).length=(if j=true then 40 else 20)+U.length:=by
 unfold xE;rcases j with _|_
 .rw[bAa (by simp),bAa (by simp),bHa,aCw];rfl
 .rw[bBa rfl,bBa rfl,aVh];rfl
theorem aSq(A E G:Nat)(j:Bool)(U:List UInt8)(n J L N:Nat)(O:20+U.length=n)(V:A<4294967296)(W:E<4294967296)(X:G<=255)(Y:U.length<=4096)
 (Z:Up false j (kY false 0 A 0 E (prN j) U.length) U J L N):wE n (xE false 0 A 0 E (prN j) G U) n 20 j U A E J L G N:=by
 have hw:xE false 0 A 0 E (prN j) G U=hdB 0 0 0 G (prN j) A E [] U.length++U:=by
  unfold xE;rw[bAa (by simp),bMa]
 rw[hw];obtain⟨xs,I⟩:∃xs,hdB 0 0 0 G (prN j) A E [] U.length++U=xs:=⟨_,rfl⟩
 have al:xs.length=20+U.length:=by rw[<-I,bHa,aCw];rfl
 have ab:prN j<=255:=by rcases j with _|_<;>decide
 obtain⟨p1,p2,p3,p4,p5,p6,p7,p8,p9,ah,ai,aj,aq,ak,ar⟩:=aVx 0 0 0 G (prN j) A E [] U [] 0 U.length rfl rfl (by omega) (by omega) (by omega) X ab V W (by omega) (by omega) Y xs (by rw[ePa];exact I);rw[I];refine⟨⟨by omega,by omega,p1,by omega,by omega,p4,by omega,by omega,?_⟩,by omega,by omega,by omega,ah,?_,ai,aj,p9,?_⟩
 .rw[p2];exact p5
 .rw[<-O];exact ak
 .rw[<-O,fSa];exact Z
theorem aW4(A E G I J:Nat)(j:Bool)(U:List UInt8)(n N O V:Nat)(X:40+U.length=n)(Y:A<18446744073709551616)(Z:E<18446744073709551616)(h6:G<18446744073709551616)(h7:I<18446744073709551616)(ht:J<=255)(hU:U.length<=4096)
 (ad:Up true j (kY true A E G I (prN j) U.length) U N O V):wF n (xE true A E G I (prN j) J U) [] 40 j U A E G I N O J V:=by
 have hw:xE true A E G I (prN j) J U=aAy 0 0 J A E G I (prN j) [] U:=by
  unfold xE;rw[bBa rfl,bMa]
 rw[hw];obtain⟨xs,L⟩:=eX (aAy 0 0 J A E G I (prN j) [] U);have af:xs.length=40+U.length:=by rw[<-L,aVh];rfl
 have ap:prN j<=255:=by rcases j with _|_<;>decide
 have ag:isB (prN j:Int)=false:=by rcases j with _|_<;>decide
 have hr:sS (0:Nat) (0:Nat) (J:Nat) true true (prN j) []=true:=by
  rw[aFj ⟨by omega,by omega,by omega,by omega,by omega,by omega,rfl,rfl,by omega,by omega,ag,by simp⟩]
  rfl
 obtain⟨W,p2,_,_,p5,p6,p7,p8,p9,am,an⟩:=aVu 0 0 J A E G I (prN j) [] U [] xs hr Y Z h6 h7 hU (by rw[ePa];exact L);rw[af,X]at W;rw[L];exact⟨⟨by omega,W,p2⟩,rfl,by decide,by decide,p8,p9,am,an,p7,ad⟩
theorem aPb(j:Bool)(a b c d e f:Nat):(kY j a b c d e f).length % 2=0:=by
 unfold kY kR;split<;>simp[aR,nS]
theorem up_dg(j:Bool)(A E G I s d:Nat)(xs:List UInt8)(J:s<=65535)(L:d<=65535)(W:xs.length<=4000):Up j true (kY j A E G I 17 (8+xs.length)) (dgU j A E G I s d xs) s d 0:=by
 obtain⟨N,O,U,V,_⟩:=aVw (!j) (kY j A E G I 17 (8+xs.length)) s d xs (aPb _ _ _ _ _ _ _) J L (by omega);have X:whR true=6:=rfl;exact⟨by unfold dgU;rw[bMa,bMa,V];omega,by rw[bBa rfl];exact N,O,U,by rw[bBa rfl]⟩
theorem aWk(j A s d E:Nat)(xs:List UInt8)(n:Nat)(V:28+xs.length=n)(G:j<4294967296)(I:A<4294967296)(J:E<=255)(L:s<=65535)(N:d<=65535)(O:xs.length<=4000) :
 wE n (xE false 0 j 0 A 17 E (dgU false 0 j 0 A s d xs)) n 20 true (dgU false 0 j 0 A s d xs) j A s d E 0:=by
 have U:=aCp false 0 j 0 A s d xs;refine aSq j A E true _ n s d 0 (by omega) G I J (by omega) ?_;rw[U];exact up_dg false 0 j 0 A s d xs L N O
theorem turn_dg6(j A E G s d I:Nat)(xs:List UInt8)(n:Nat)(Z:48+xs.length=n)(J:j<18446744073709551616)(L:A<18446744073709551616)(N:E<18446744073709551616)(O:G<18446744073709551616)(U:I<=255)(V:s<=65535)(W:d<=65535)(X:xs.length<=4000) :
 wF n (xE true j A E G 17 I (dgU true j A E G s d xs)) [] 40 true (dgU true j A E G s d xs) j A E G s d I 0:=by
 have Y:=aCp true j A E G s d xs;refine aW4 j A E G I true _ n s d 0 (by omega) J L N O U (by omega) ?_;rw[Y];exact up_dg true j A E G s d xs V W X
theorem aU0{I e:Nat}{J:Bool}{L W X Y:Nat}(h:wE n xs I e J R L N V W X Y)(Z:n<=4000)(s j E G:Nat)(O:s<=1)(hw:(if s=0 then L else N)=G)(ht:j<4294967296)(ab:E<=65535)(A:Option Addr)(c:Nat)(w:World)(U:IsB w w.heap.size A n xs)(ac:n<=c)(ad:c<=maxLen) :
 Cl 86 #[.slice A n c,.int .i64 (s:Int),.agg #[.bool false,.int .u64 ((0:Nat):Int),.int .u64 (j:Int)],.int .i64 (E:Int)] w fun en w'=>dE 0 (natB4 xs I e J R s j E G) w w' en:=by
 obtain⟨s1,s2,s3,s4,s5,s6,s7,s8,s9⟩:=h.sizes;obtain⟨u1,u2⟩:=h.up.aE6;have hl:=h.up.len;have hP:=h.pis Z;rw[<-aU3 h s j E G _ O hw rfl];refine aCd false J n c I (12+4*s) 4 e s xs 0 L 0 N V W X Y 0 j E 0 G _ A w U ac ad Z O hP (fun w U=>place4 n xs h.ok.h2 h.ok.h1 s O e h.he A c w U) (by simp[okA];omega) (by omega) (by omega) ab u1 u2 (by omega) (by omega) (by omega) (by omega) (by split<;>rfl) hw rfl s4 (by omega) rfl (by omega) (by omega) (by omega)
theorem aU1{e:Nat}{U Z dp ab fl:Nat}(h:wF n xs Y e I R N O U V Z dp ab fl)(hn:n<=4000)(s j E G J L:Nat)(W:s<=1)(ag:(if s=0 then N else U)=J)(ah:(if s=0 then O else V)=L)(ai:j<18446744073709551616)(aj:E<18446744073709551616)(ak:G<=65535)(A:Option Addr)(c:Nat)(w:World)(X:IsB w w.heap.size A n xs)(ae:n<=c)(af:c<=maxLen) :
 Cl 86 #[.slice A n c,.int .i64 (s:Int),.agg #[.bool true,.int .u64 (j:Int),.int .u64 (E:Int)],.int .i64 (G:Int)] w fun en w'=>dE 0 (natB6 xs e I R s j E G J L) w w' en:=by
 obtain⟨s1,s2,s3,s4,s5,s6,s7,s8,s9⟩:=h.sizes;obtain⟨u1,u2⟩:=h.up.aE6;have hl:=h.up.len;have hP:=h.pis hn;obtain⟨f1,f2,f3,f4,f5,f6,f7,f8⟩:=h.ok.facts;rw[<-aU4 h s j E G J L _ W rfl];refine aCd true I n c (e+R.length) (8+16*s) 16 e s xs N O U V Z dp ab fl j E G J L _ A w X ae af hn W hP (fun w X=>place6 n xs _ _ _ _ _ _ _ _ _ Y (prN I) R.length R (h.ok.is (by omega)) f6 f7 (by omega) (by omega) s W e h.he (by omega) A c w X ae af) rfl ai aj ak u1 u2 s5 s6 s7 s8 ag ah rfl s2 (by omega) (by unfold pQ;rw[bBa rfl,bHa,aR,aR]) (by omega) (by omega) (by omega)
theorem quoted4(G I s d:Nat)(D:List UInt8)(hD:D.length<=4096)(hs:beN D 0 2=s)(hd:beN D 2 2=d)(h6:G<4294967296)(h7:I<4294967296)(k:Nat)(E:List UInt8)(Y:(hdB 0 0 0 64 17 G I [] D.length++D).take k=E) :
 (E.length<24->aCi false 3 E 2 0 false 0 0 false 0 0 0 0)/\(24<=E.length->aCi false 3 E 0 17 false 0 G false 0 I s d):=by
 obtain⟨U,hU⟩:∃U,hdB 0 0 0 64 17 G I [] D.length++D=U:=⟨_,rfl⟩
 obtain⟨k1,k2,k3,k4,k5,k6,k7,k8,k9,au,av,aw,a8,a9,ax⟩:=aVx 0 0 0 64 17 G I [] D [] 0 D.length rfl rfl (by omega) (by omega) (by omega) (by omega) (by omega) h6 h7 (by omega) (by omega) hD U (by rw[ePa];exact hU);rw[hU]at Y;have an:U.length=20+D.length:=by rw[<-hU,bHa,aCw];rfl
 have hl:E.length=min k (20+D.length):=by rw[<-Y,bGa,an]
 have hE:aAc false 3=true:=by decide
 have get:∀i,i<E.length->E.getD i 0=U.getD i 0:=fun i hi=>by rw[<-Y,getD_take U k i (by omega)]
 have aa:∀p j,p+j<=E.length->beN E p j=beN U p j:=fun p j hj=>by rw[<-Y,nT U k p j (by omega)]
 by_cases ah:E.length<20
 .refine⟨fun _ J L A c W N O V=>?_,fun h=>absurd h (by omega)⟩;exact aFi false 3 J L A E.length c E W N O V (by omega) hE 2 0 0 0 0 0 0 [] (by
   unfold QIs;rw[bAa (by simp)];exact⟨by unfold yG;rw[bBa ah],fun h=>absurd h (by omega)⟩) (by omega)
 have hQ:QIs false E.length E 0 17 0 G 0 I 0 (E.drop 20):=by
  unfold QIs;rw[bAa (by simp)];have g0:=get 0 (by omega);refine⟨?_,fun _=>⟨by rw[get 9 (by omega),au],rfl,by rw[aa 12 4 (by omega),av],rfl,by rw[aa 16 4 (by omega),aw],by rw[aa 6 2 (by omega),k8],by rw[g0,k2]⟩⟩;unfold yG;rw[bAa ah,g0,k2,bAa (fun h=>h k1),bAa (by omega)]
 have ap:(E.drop 20).length=E.length - 20:=cCa;obtain⟨F,hF⟩:=eX (aGs 0 17 (E.drop 20).length);have hq:=fun(J L:Int) (A:Option Addr) (c:Nat) (W:World) (N:IsB W W.heap.size A E.length E) (O:E.length<=c) (V:c<=maxLen) =>
  aA9 false 3 J L A E.length c E W N O V (by omega) hE 17 0 G 0 I 0 (E.drop 20) hQ (by unfold maxLen;omega) F hF
 have Z:F=if E.length<24 then 2 else 0:=by
  rw[<-hF,ap];unfold aGs;rw[bAa (by omega),bAa (by omega)];split<;>split<;>omega
 refine⟨fun h J L A c W N O V=>?_,fun h J L A c W N O V=>?_⟩
 .rw[bBa h]at Z;refine(hq J L A c W N O V).mono ?_;rintro e w' ⟨h1,_,hb⟩;rw[h1 (by omega),Z];exact⟨rfl,hb⟩
 .rw[bAa (by omega)]at Z;refine(hq J L A c W N O V).mono ?_;rintro e w' ⟨_,h2,hb⟩;have aq:E.drop 20=D.take (k - 20):=by
   rw[<-Y,List.drop_take,ax,ePa]
  rw[h2 Z,aq,nT D _ 0 2 (by omega),nT D _ 2 2 (by omega),hs,hd];exact⟨rfl,hb⟩
theorem aWx(j:List UInt8):mP 9 17 j []=some ([],17,j):=by
 unfold mP;rw[bBa (by decide)]
theorem quoted6(G I J L s d:Nat)(D:List UInt8)(hD:D.length<=4096)(hs:beN D 0 2=s)(hd:beN D 2 2=d)(h4:G<18446744073709551616)(h5:I<18446744073709551616)(h6:J<18446744073709551616)(h7:L<18446744073709551616)(k:Nat)(E:List UInt8)(aa:(aAy 0 0 64 G I J L 17 [] D).take k=E) :
 (E.length<44->aCi true 1 E 2 0 false 0 0 false 0 0 0 0)/\(44<=E.length->aCi true 1 E 0 17 true G I true J L s d):=by
 obtain⟨U,hU⟩:=eX (aAy 0 0 64 G I J L 17 [] D);have hr:sS 0 0 64 true true 17 []=true:=by decide
 obtain⟨g1,g2,a1,bd,g3,g4,g5,g6,g7,g8,g9⟩:=aVu 0 0 64 G I J L 17 [] D [] U hr h4 h5 h6 h7 hD (by rw[ePa];exact hU);have au:U.length=40+D.length:=by rw[<-hU,aVh];rfl
 have u0:U.getD 0 0=96:=by rw[<-hU];rfl
 have u6:U.getD 6 0=17:=by rw[<-hU];rfl
 rw[hU]at aa;have hl:E.length=min k (40+D.length):=by rw[<-aa,bGa,au]
 have hE:aAc true 1=true:=by decide
 have get:∀i,i<E.length->E.getD i 0=U.getD i 0:=fun i hi=>by rw[<-aa,getD_take U k i (by omega)]
 have ac:∀p j,p+j<=E.length->beN E p j=beN U p j:=fun p j hj=>by rw[<-aa,nT U k p j (by omega)]
 by_cases aj:E.length<40
 .refine⟨fun _ N O A c W V Y Z=>?_,fun h=>absurd h (by omega)⟩;exact aFi true 1 N O A E.length c E W V Y Z (by omega) hE 2 0 0 0 0 0 0 [] (by
   unfold QIs;rw[bBa rfl];exact⟨by unfold mK;rw[bBa aj],fun h=>absurd h (by omega)⟩) (by omega)
 have e6:(E.getD 6 0).toNat=17:=by rw[get 6 (by omega),u6];rfl
 have hR:aD6 E=some ([],17,E.drop 40):=by unfold aD6;rw[e6];exact aWx _
 have hQ:QIs true E.length E 0 17 G I J L 0 (E.drop 40):=by
  unfold QIs;rw[bBa rfl];refine⟨?_,fun _=>⟨[],hR,rfl,by rw[ac 8 8 (by omega),g6],by rw[ac 16 8 (by omega),g7],by rw[ac 24 8 (by omega),g8],by rw[ac 32 8 (by omega),g9]⟩⟩;have e0:(E.getD 0 0).toNat / 16=6:=by rw[get 0 (by omega),u0];rfl
  unfold aD6 at hR;unfold mK;rw[bAa aj,bAa (fun h=>h e0),hR]
  rfl
 have ay:(E.drop 40).length=E.length - 40:=cCa;obtain⟨F,hF⟩:=eX (aGs 0 17 (E.drop 40).length);have hq:=fun(N O:Int) (A:Option Addr) (c:Nat) (W:World) (V:IsB W W.heap.size A E.length E) (Y:E.length<=c) (Z:c<=maxLen) =>
  aA9 true 1 N O A E.length c E W V Y Z (by omega) hE 17 G I J L 0 (E.drop 40) hQ (by unfold maxLen;omega) F hF
 have ad:F=if E.length<44 then 2 else 0:=by
  rw[<-hF,ay];unfold aGs;rw[bAa (by omega),bAa (by omega)];split<;>split<;>omega
 have az:U.drop 40=D:=by
  have:=a1;unfold aD6 at this;rw[show(U.getD 6 0).toNat=17 by rw[u6];rfl,aWx]at this;simpa using this
 refine⟨fun h N O A c W V Y Z=>?_,fun h N O A c W V Y Z=>?_⟩
 .rw[bBa h]at ad;refine(hq N O A c W V Y Z).mono ?_;rintro e w' ⟨h1,_,hb⟩;rw[h1 (by omega),ad];exact⟨rfl,hb⟩
 .rw[bAa (by omega)]at ad;refine(hq N O A c W V Y Z).mono ?_;rintro e w' ⟨_,h2,hb⟩;have a0:E.drop 40=D.take (k - 40):=by
   rw[<-aa,List.drop_take,az]
  rw[h2 ad,a0,nT D _ 0 2 (by omega),nT D _ 2 2 (by omega),hs,hd];exact⟨rfl,hb⟩
theorem aWn(cs:Array Value)(ah:cs.size=23)(ai:cs.all (·.oneCell')=true)(j:Bool)(h0:cs[0]?=some (.bool j))(J:cs[1]?=some (.int .i64 (if j=true then 58 else 1)))(E G:List UInt8)(ak:E.length<=4096)(al:E.length % 2=0)(a1:G.length<=4096)(ty:Nat)(am:ty<=255)
 (I:Nat) (L:Int) (N:Bool) (O U:Int) (V:Bool) (Y Z sp dp:Int) (hQ:aCi j ty G I L N O U V Y Z sp dp) :
 aVk cs (if j=true then 58 else 1) (aVi (uY j E) ty 0 0 G) E I (vT cs (tuA L V Y Z N O U dp sp)):=by
 intro A P c d w hx hp hc ag;have a2:=aVj (uY j E) ty 0 0 G;have ao:(uY j E).length % 2=0/\(uY j E).length<=4096:=by
  unfold uY;split
  .exact⟨al,ak⟩
  .exact⟨rfl,by simp⟩
 obtain⟨g1,g2,g3,g4⟩:=msgB_get (uY j E) ty 0 0 G am (by omega) (by omega);have hP:aHz (aVi (uY j E) ty 0 0 G) (uY j E) 0 ty 0 0 G:=by
  intro A P c d W hx hp hc ag;refine(aLs A P _ c _ d _ _ W hx hp (by omega) hc (by omega) (by unfold maxLen;omega) (msgB_sum (uY j E) ty 0 0 G ao.1)).mono ?_;rintro e w' ⟨A',m',c',rfl,hi,J,h2,hb⟩;rw[g4]at hi;obtain rfl:G.length=m':=hi.1;refine⟨A',c',?_,hi,J,h2,hb⟩;unfold msgV;rw[g1,g2,g3]
  rfl
 have:=aK6 cs ah ai j h0 _ J (if j=true then 58 else 1) A P c d _ E w hx hp hc ag (by omega) (by unfold maxLen;omega) (by split<;>omega) (by split<;>omega) rfl 0 ty 0 0 G hP I L N O U V Y Z sp dp hQ;rw[show(if(0:Nat)≠0 then(0:Nat)else I)=I from rfl]at this;exact this
theorem aWm(U I:Nat)(V:Int)(n:Nat)(xs:List UInt8)(ac:Int)(k:Nat)(hk:(k:Int)=min (n:Int) (max ac 0))(y:Array Value)(ae W:Nat)(an:y[0]?=some (.bool false))(ao:y[12]?=some (.bool false))(ap:y[2]?=some (.bool false))(aq:y[3]?=some (.int .u64 (ae:Int)))(ar:y[4]?=some (.int .u64 (W:Int)))
 (af:y.size=23) (Y:y.all (·.oneCell')=true) (A:Option Addr) (c:Nat) (w:World) (J:IsB w w.heap.size A n xs) (bg:n<=c) (bh:c<=maxLen) (hn:n<=4000)
 (hP:∀w:World,IsB w w.heap.size A n xs->Cl 11 #[.slice A n c] w fun e w'=>mD 0 y w w' e) :
 Cl 22 #[.agg #[.bool false,.int .u64 (U:Int),.int .u64 (I:Int)],.int .i64 V,.slice A n c,.int .i64 ac] w fun e w' =>
  dE (zG V U I ae W) (hdB 0 0 0 V.toNat 1 I W [] (aVi [] 3 0 0 (xs.take k)).length++aVi [] 3 0 0 (xs.take k)) w w' e:=by
 obtain⟨w1,ak⟩:=eX (w.alloc (.cells #[.bool false,.int .u64 (U:Int),.int .u64 (I:Int)] 27));have j:Below w.heap.size w w1:=ak▸bC;have G:=bN ak;have a6:k<=n:=by omega
 obtain⟨M,Z⟩:=eX (aVi [] 3 0 0 (xs.take k));obtain⟨ml,aa⟩:=eX M.length;rw[Z,aa];replace ⟨J,hP,Y,hk,Z,aa,j,G⟩:=q_8 J hP Y hk Z aa j G;go_enter func22,ntmps22;go_upto_region 1 with fail
 clear ak;apply aWa;refine pS ?_;refine bRa rfl fun K hK=>?_;go_simp;refine((hP _ (J.on j))).mono ?_;rintro e w2 hE;obtain⟨z,rfl,-,-,hz,al⟩:=hE.letter (fun _=>⟨af,Y⟩);rw[bBa rfl]at hz;subst hz;replace j:=q_ (j.trans (al.mono j.size));replace G:=q_ (aG al G);clear al;have z2:=j.size;clear hE;go_simp;refine hK _ _ ?_;clear hK K;iterate 3 refine pS ?_
 refine gF rfl rfl 48 _ (vR _ rfl) 10 rfl (.tmp 20) rfl _ (fun _=>rfl) (fun _=>rfl) (by rw[bG];exact af) (by rw[bK,af]) Y ?_;intro w3 E am br;replace j:=q_ (j.trans (am.mono j.size));replace G:=q_ (aG am G);clear am;replace E:=q_ E;refine pS ?_;refine bCa ?_;have a7:=(aA E 0).trans an;have a8:=(aA E 12).trans ao;have av:=aA G;clear an ao;have hk':min (n:Int) (max ac 0)=(k:Int):=hk.symm;have bk:(k:Int)<=(c:Int):=by omega
 have a9:Hid ((xs.take k).length=k):=q_ (by rw[bGa,J.out.1];omega);go_upto_region 10 with fail
 clear hk' a7 a8;have aw:=(aA E 2).trans ap;have ax:=(aA E 3).trans aq;have ay:=(aA E 4).trans ar;clear av;go_wp2_with fail
 have hq:=(J.on j).take a6;refine(aVs 3 0 0 A k c none 0 0 (xs.take k) [] _ (by omega) (by omega) (by omega) hq (IsB.nil _ _ _) (by omega) (by unfold maxLen;omega)).mono ?_;rintro e w4 ⟨v4,rfl,a4,ab⟩;replace j:=q_ (j.trans (ab.mono j.size));replace G:=q_ (aG ab G);replace E:=q_ (aG ab E);clear ab;obtain⟨A4,c4,rfl,a2,bl,O⟩:=a4.form;have L:=aVj [] 3 0 0 (xs.take k);rw[a9.out]at L;clear a4 hq aw ax ay;have aw:=(aA E 2).trans ap;have ax:=(aA E 3).trans aq;have ay:=(aA E 4).trans ar;have av:=aA G;rw[Z.out]at O a2 L ⊢;rw[aa.out]at O a2 L ⊢;have N:=fun w:World=>aWb V U I ae W 1 (by omega) A4 ml c4 M w
 unfold fE at N;rw[show((1:Nat):Int)=1 from rfl]at N;have ba:ml<=4096:=by omega
 replace ⟨O,N,L⟩:=q_3 O N L;go_upto_region 11 with fail
 go_wp2_with fail
 refine(N _ O ba).mono ?_;rintro e w5 h5;have h6:=h5.from j;obtain⟨v5,rfl,h7,h8,h9⟩:=h6;clear h5;replace ⟨h7,h8,h9⟩:=q_3 h7 h8 h9;go_wp2_with fail
 go_ret2;exact⟨v5,rfl,h7,h8,h9⟩
theorem aWv(I J:Nat)(Z:Int)(n:Nat)(xs:List UInt8)(ah:Int)(k:Nat)(hk:(k:Int)=min (n:Int) (max ah 0))(y:Array Value)(L N:Nat)(ax:y[0]?=some (.bool true))(ay:y[12]?=some (.bool false))(az:y[2]?=some (.bool true))(a0:y[3]?=some (.int .u64 (L:Int)))(a1:y[4]?=some (.int .u64 (N:Int)))
 (aj:y.size=23) (aa:y.all (·.oneCell')=true) (A:Option Addr) (c:Nat) (w:World) (U:IsB w w.heap.size A n xs) (bw:n<=c) (bx:c<=maxLen) (hn:n<=4000) (b1:I<18446744073709551616) (b2:J<18446744073709551616) (b3:L<18446744073709551616) (b4:N<18446744073709551616)
 (hP:∀w:World,IsB w w.heap.size A n xs->Cl 11 #[.slice A n c] w fun e w'=>mD 0 y w w' e) :
 Cl 22 #[.agg #[.bool true,.int .u64 (I:Int),.int .u64 (J:Int)],.int .i64 Z,.slice A n c,.int .i64 ah] w fun e w' =>
  dE (aVn Z) (aAy 0 0 Z.toNat I J L N 58 [] (aVi (kR I J L N (8+k) 58) 1 0 0 (xs.take k))) w w' e:=by
 obtain⟨w1,ap⟩:=eX (w.alloc (.cells #[.bool true,.int .u64 (I:Int),.int .u64 (J:Int)] 27));have j:Below w.heap.size w w1:=ap▸bC;have G:=bN ap;have bi:k<=n:=by omega
 obtain⟨M,O⟩:∃M,aVi (kR I J L N (8+k) 58) 1 0 0 (xs.take k)=M:=⟨_,rfl⟩
 obtain⟨ml,aq⟩:=eX M.length;rw[O];replace ⟨U,hP,aa,hk,O,aq,j,G⟩:=q_8 U hP aa hk O aq j G;go_enter func22,ntmps22;go_upto_region 1 with fail
 clear ap;apply aWa;refine pS ?_;refine bRa rfl fun K hK=>?_;go_simp;refine((hP _ (U.on j))).mono ?_;rintro e w2 hE;obtain⟨z,rfl,-,-,hz,ar⟩:=hE.letter (fun _=>⟨aj,aa⟩);rw[bBa rfl]at hz;subst hz;replace j:=q_ (j.trans (ar.mono j.size));replace G:=q_ (aG ar G);clear ar;have z2:=j.size;clear hE;go_simp;refine hK _ _ ?_;clear hK K;iterate 3 refine pS ?_
 refine gF rfl rfl 48 _ (vR _ rfl) 10 rfl (.tmp 20) rfl _ (fun _=>rfl) (fun _=>rfl) (by rw[bG];exact aj) (by rw[bK,aj]) aa ?_;intro w3 E aw cg;replace j:=q_ (j.trans (aw.mono j.size));replace G:=q_ (aG aw G);clear aw;replace E:=q_ E;refine pS ?_;refine bCa ?_;have bj:=(aA E 0).trans ax;have bk:=(aA E 12).trans ay;have a7:=aA G;clear ax ay;have hk':min (n:Int) (max ah 0)=(k:Int):=hk.symm;have b5:(k:Int)<=(c:Int):=by omega
 have bl:Hid ((xs.take k).length=k):=q_ (by rw[bGa,U.out.1];omega);go_upto_region 8 with fail
 clear hk' bj bk;have a8:=(aA E 2).trans az;have a9:=(aA E 3).trans a0;have ba:=(aA E 4).trans a1;have ac:(kR I J L N (8+k) 58).length=40:=aVt I J L N (8+k) 58;obtain⟨pb,ae⟩:∃pb,kR I J L N (8+k) 58=pb:=⟨_,rfl⟩
 have ad:=fun w:World=>aB7 true I J true L N 58 (8+(k:Int)) 58 (8+k) (by omega) (by rw[cTa];omega) w b1 b2 b3 b4 (by omega)
 rw[ae]at ad ac;have al:=O.out;rw[ae]at al;replace O:=q_ al;clear al;replace ⟨ad,ae,ac⟩:=q_3 ad ae ac;go_wp2_with fail
 refine(ad _).mono ?_;rintro e wp ⟨vp,rfl,bf,af⟩;replace j:=q_ (j.trans (af.mono j.size));replace G:=q_ (aG af G);replace E:=q_ (aG af E);clear af;obtain⟨Ap,cp,rfl,br,b6,au⟩:=bf.form;rw[ac.out]at au br ⊢;clear a7 a8 a9 ba bf;have hq:=(U.on j).take bi;go_wp2_with fail
 refine(aVs 1 0 0 A k c Ap 40 cp (xs.take k) pb _ (by omega) (by omega) (by omega) hq au (by omega) (by unfold maxLen;omega)).mono ?_;rintro e w4 ⟨v4,rfl,bg,ag⟩;replace j:=q_ (j.trans (ag.mono j.size));replace G:=q_ (aG ag G);replace E:=q_ (aG ag E);clear ag;obtain⟨A4,c4,rfl,av,bu,Y⟩:=bg.form;have V:=aVj pb 1 0 0 (xs.take k);rw[bl.out]at V;clear bg hq au;have a8:=(aA E 2).trans az;have a9:=(aA E 3).trans a0;have ba:=(aA E 4).trans a1;have a7:=aA G;rw[O.out]at Y av V ⊢;rw[aq.out]at Y av V ⊢;have W:=fun w:World=>aWz Z I J L N 58 (by omega) (by decide) A4 ml c4 M w
 unfold eZ at W;rw[show((58:Nat):Int)=58 from rfl]at W;have bm:ml<=4096:=by omega
 replace ⟨Y,W,V⟩:=q_3 Y W V;go_upto_region 9 with fail
 go_wp2_with fail
 refine(W _ Y av bu bm b1 b2 b3 b4).mono ?_;rintro e w5 h5;have h6:=h5.from j;obtain⟨v5,rfl,h7,h8,h9⟩:=h6;clear h5;replace ⟨h7,h8,h9⟩:=q_3 h7 h8 h9;go_wp2_with fail
 go_ret2;exact⟨v5,rfl,h7,h8,h9⟩
theorem okA_mk(h:j<4294967296):okA false ((0:Nat):Int) (j:Int)=true:=by
 simp[okA];omega
theorem told4(ag E j I s d:Nat)(J O:Int)(xs:List UInt8)(a9:xs.length<=500)(b2:E<18446744073709551616)(b4:j<4294967296)(b6:I<4294967296)(hs:s<=65535)(hd:d<=65535)
 (U:List UInt8) (n:Nat) (hU:xE false 0 j 0 I 17 64 (dgU false 0 j 0 I s d xs)=U) (ao:U.length=n)
 (hP:∀(A:Option Addr) (c:Nat) (w:World),IsB w w.heap.size A n U->n<=c->c<=maxLen->Cl 11 #[.slice A n c] w fun e w'=>mD 0 (pkA false 17 0 j 0 I s d 64 0 n) w w' e) :
 ∃X:List UInt8,X.length<=4000/\(∀(A:Option Addr) (c:Nat) (w:World),IsB w w.heap.size A n U->n<=c->c<=maxLen->Cl 22 #[.agg #[.bool false,.int .u64 (ag:Int),.int .u64 (E:Int)],.int .i64 J,.slice A n c,.int .i64 O] w fun e w'=>dE (zG J ag E (0:Nat) j) X w w' e) /\
  (zG J ag E (0:Nat) j=0->∃G y,(G=0\/G=2)/\y.size=23/\y.all (·.oneCell')=true/\y[0]?=some (.bool false)/\y[12]?=some (.bool true)/\(28<=O->G=0)/\(G=0->y=pkG false 1 false 0 E false 0 j 0 0 J 0 true 17 false 0 I false 0 j d s X.length) /\
   ∀(A:Option Addr) (c:Nat) (w:World),IsB w w.heap.size A X.length X->X.length<=c->c<=maxLen->Cl 11 #[.slice A X.length c] w fun e w'=>mD G y w w' e):=by
 obtain⟨k,hk⟩:∃k:Nat,(k:Int)=min (n:Int) (max O 0):=⟨(min (n:Int) (max O 0)).toNat,by omega⟩
 obtain⟨D,hD⟩:=eX (dgU false 0 j 0 I s d xs);have bb:D.length=8+xs.length:=hD▸aCp _ _ _ _ _ _ _ _;have hg:beN D 0 2=s/\beN D 2 2=d:=by
  rw[<-hD];unfold dgU;have:=aVw true (kY false 0 j 0 I 17 (8+xs.length)) s d xs (by unfold kY;rw[bAa (by simp)];simp[aR]) hs hd (by omega);exact⟨this.2.1,this.2.2.1⟩
 rw[hD]at hU;have hU':hdB 0 0 0 64 17 j I [] D.length++D=U:=by
  rw[<-hU];unfold xE;rw[bAa (by simp)]
  rfl
 have bc:n=20+D.length:=by rw[<-ao,<-hU',bHa,aCw];rfl
 obtain⟨N,ak⟩:=eX (U.take k);have ay:N.length=k:=by rw[<-ak,bGa,ao];omega
 obtain⟨q1,q2⟩:=quoted4 j I s d D (by omega) hg.1 hg.2 b4 b6 k N (by rw[hU'];exact ak);obtain⟨M,hM⟩:=eX (aVi [] 3 0 0 N);have bd:M.length=k+8:=by rw[<-hM,aVj,ay]
 refine⟨hdB 0 0 0 J.toNat 1 E j [] M.length++M,bJa (Nat.le_of_eq (show(hdB 0 0 0 J.toNat 1 E j [] M.length++M).length=20+0+M.length by rw[bHa,aCw];rfl)) (by omega),fun A c w L hc ah=>?_,fun hK=>?_⟩
 .have:=aWm ag E J n U O k hk (pkA false 17 0 j 0 I s d 64 0 n) 0 j rfl rfl rfl rfl rfl rfl (aV3 _ _ _ _ _ _ _ _ _ _ _) A c w L hc ah (by omega) (fun w L=>hP A c w L hc ah);rw[ak,hM]at this;exact this
 unfold zG at hK;split at hK
 case isFalse=>omega
 rename_i hh;obtain⟨t1,t2,o1,o2⟩:=hh;obtain⟨rfl,a5⟩:=aNc o1;obtain⟨t,rfl⟩:∃t:Nat,J=(t:Int):=⟨J.toNat,by omega⟩
 have az:(hdB 0 0 0 t 1 E j [] M.length++M).length=20+0+M.length:=by rw[bHa,aCw];rfl
 have hw:xE false 0 E 0 j 1 t M=hdB 0 0 0 t 1 E j [] M.length++M:=by
  unfold xE;rw[bAa (by simp)]
  rfl
 rw[show((t:Int).toNat)=t by omega];have ar:∀(G:Nat) (V:Int) (W:Bool) (Y Z:Int) (dv:Bool) (dh dl sp dp:Int),aCi false 3 N G V W Y Z dv dh dl sp dp ->
  ∀(A:Option Addr) (c:Nat) (w:World),IsB w w.heap.size A (hdB 0 0 0 t 1 E j [] M.length++M).length (hdB 0 0 0 t 1 E j [] M.length++M)->(hdB 0 0 0 t 1 E j [] M.length++M).length<=c->c<=maxLen->Cl 11 #[.slice A (hdB 0 0 0 t 1 E j [] M.length++M).length c] w fun e w'=>mD G (vT (p4A 1 E j t (20+0+M.length)) (tuA V dv dh dl W Y Z dp sp)) w w' e:=by
  intro G V W Y Z dv dh dl sp dp hQ A c w L hc ah;have ai:=aWn (p4A 1 E j t (20+0+M.length)) rfl (aJf _ _ _ _ _) false rfl rfl (ps4 E j 1 M.length) N (by rw[aWh];omega) (by rw[aWh]) (by omega) 3 (by omega) G V W Y Z dv dh dl sp dp hQ;rw[show uY false (ps4 E j 1 M.length)=[] from rfl,hM]at ai;replace ai:aVk (p4A 1 E j t (20+0+M.length)) 1 M (ps4 E j 1 M.length) G (vT (p4A 1 E j t (20+0+M.length)) (tuA V dv dh dl W Y Z dp sp)):=ai;rw[<-hw]at L hc ⊢;exact aWs E j 1 t M a5 b4 (by omega) (by omega) (by omega) G _ (fun _=>⟨(zB.size (.inr (.inr ⟨_,_,_,_,_,_,_,_,_,rfl⟩)) rfl),(zB.one (.inr (.inr ⟨_,_,_,_,_,_,_,_,_,rfl⟩)) (aJf _ _ _ _ _))⟩) ai A _ c w L hc ah
 by_cases a7:N.length<24
 .exact⟨2,_,.inr rfl,rfl,zB.one (.inr (.inr ⟨_,_,_,_,_,_,_,_,_,rfl⟩)) (aJf _ _ _ _ _),rfl,rfl,fun h=>by omega,fun h=>absurd h (by omega),ar _ _ _ _ _ _ _ _ _ _ (q1 a7)⟩
 .exact⟨0,_,.inl rfl,rfl,zB.one (.inr (.inr ⟨_,_,_,_,_,_,_,_,_,rfl⟩)) (aJf _ _ _ _ _),rfl,rfl,fun _=>rfl,fun _=>by rw[az];rfl,ar _ _ _ _ _ _ _ _ _ _ (q2 (by omega))⟩
theorem told6(G I j E L N s d:Nat)(O Y:Int)(xs:List UInt8)(bf:xs.length<=500)(b1:G<18446744073709551616)(b2:I<18446744073709551616)(b3:j<18446744073709551616)(b4:E<18446744073709551616)(b5:L<18446744073709551616)(b6:N<18446744073709551616)(hs:s<=65535)(hd:d<=65535)
 (U:List UInt8) (n:Nat) (hU:xE true j E L N 17 64 (dgU true j E L N s d xs)=U) (av:U.length=n)
 (hP:∀(A:Option Addr) (c:Nat) (w:World),IsB w w.heap.size A n U->n<=c->c<=maxLen->Cl 11 #[.slice A n c] w fun e w'=>mD 0 (pkA true 17 j E L N s d 64 0 n) w w' e) :
 ∃X:List UInt8,X.length<=4000/\(∀(A:Option Addr) (c:Nat) (w:World),IsB w w.heap.size A n U->n<=c->c<=maxLen->Cl 22 #[.agg #[.bool true,.int .u64 (G:Int),.int .u64 (I:Int)],.int .i64 O,.slice A n c,.int .i64 Y] w fun e w'=>dE (aVn O) X w w' e) /\
  (aVn O=0->∃J y,(J=0\/J=2)/\y.size=23/\y.all (·.oneCell')=true/\y[0]?=some (.bool true)/\y[12]?=some (.bool true)/\(48<=Y->J=0)/\(J=0->y=pkG true 58 true G I true j E 0 0 O 0 true 17 true L N true j E d s X.length) /\
   ∀(A:Option Addr) (c:Nat) (w:World),IsB w w.heap.size A X.length X->X.length<=c->c<=maxLen->Cl 11 #[.slice A X.length c] w fun e w'=>mD J y w w' e):=by
 obtain⟨k,hk⟩:∃k:Nat,(k:Int)=min (n:Int) (max Y 0):=⟨(min (n:Int) (max Y 0)).toNat,by omega⟩
 obtain⟨D,hD⟩:=eX (dgU true j E L N s d xs);have bg:D.length=8+xs.length:=hD▸aCp _ _ _ _ _ _ _ _;have hg:beN D 0 2=s/\beN D 2 2=d:=by
  rw[<-hD];unfold dgU;have:=aVw true (kY true j E L N 17 (8+xs.length)) s d xs (by unfold kY;rw[bBa rfl,aVt]) hs hd (by omega);exact⟨this.2.1,this.2.2.1⟩
 rw[hD]at hU;have hU':aAy 0 0 64 j E L N 17 [] D=U:=by
  rw[<-hU];unfold xE;rw[bBa rfl]
  rfl
 have bh:n=40+D.length:=by rw[<-av,<-hU',aVh];rfl
 obtain⟨V,ao⟩:=eX (U.take k);have a4:V.length=k:=by rw[<-ao,bGa,av];omega
 obtain⟨q1,q2⟩:=quoted6 j E L N s d D (by omega) hg.1 hg.2 b3 b4 b5 b6 k V (by rw[hU'];exact ao);obtain⟨M,hM⟩:∃M,aVi (kR G I j E (8+k) 58) 1 0 0 V=M:=⟨_,rfl⟩
 have a5:M.length=k+8:=by rw[<-hM,aVj,a4]
 refine⟨aAy 0 0 O.toNat G I j E 58 [] M,bJa (Nat.le_of_eq (show(aAy 0 0 O.toNat G I j E 58 [] M).length=40+M.length by rw[aVh];rfl)) (by omega),fun A c w W hc aj=>?_,fun hK=>?_⟩
 .have:=aWv G I O n U Y k hk (pkA true 17 j E L N s d 64 0 n) j E rfl rfl rfl rfl rfl rfl (aV3 _ _ _ _ _ _ _ _ _ _ _) A c w W hc aj (by omega) b1 b2 b3 b4 (fun w W=>hP A c w W hc aj);rw[ao,hM]at this;exact this
 unfold aVn at hK;split at hK
 case isFalse=>omega
 rename_i hh;obtain⟨t1,t2⟩:=hh;obtain⟨t,rfl⟩:∃t:Nat,O=(t:Int):=⟨O.toNat,by omega⟩
 have a6:(aAy 0 0 t G I j E 58 [] M).length=40+M.length:=by rw[aVh];rfl
 have hw:xE true G I j E 58 t M=aAy 0 0 t G I j E 58 [] M:=by
  unfold xE;rw[bBa rfl]
  rfl
 rw[show((t:Int).toNat)=t by omega];have ay:∀(J:Nat) (Z:Int) (sv:Bool) (sh sl:Int) (dv:Bool) (dh dl sp dp:Int),aCi true 1 V J Z sv sh sl dv dh dl sp dp ->
  ∀(A:Option Addr) (c:Nat) (w:World),IsB w w.heap.size A (aAy 0 0 t G I j E 58 [] M).length (aAy 0 0 t G I j E 58 [] M)->(aAy 0 0 t G I j E 58 [] M).length<=c->c<=maxLen->Cl 11 #[.slice A (aAy 0 0 t G I j E 58 [] M).length c] w fun e w'=>mD J (vT (p6A 58 G I j E t (40+M.length)) (tuA Z dv dh dl sv sh sl dp sp)) w w' e:=by
  intro J Z sv sh sl dv dh dl sp dp hQ A c w W hc aj;have ak:=aWn (p6A 58 G I j E t (40+M.length)) rfl (aJg _ _ _ _ _ _ _) true rfl rfl (kR G I j E M.length 58) V (by rw[aVt];omega) (by rw[aVt]) (by omega) 1 (by omega) J Z sv sh sl dv dh dl sp dp hQ;have a8:aVi (kR G I j E M.length 58) 1 0 0 V=M:=by rw[a5,show k+8=8+k by omega];exact hM
  rw[show uY true (kR G I j E M.length 58)=kR G I j E M.length 58 from rfl,a8]at ak;replace ak:aVk (p6A 58 G I j E t (40+M.length)) 58 M (kR G I j E M.length 58) J (vT (p6A 58 G I j E t (40+M.length)) (tuA Z dv dh dl sv sh sl dp sp)):=ak;rw[<-hw]at W hc ⊢;exact aWt G I j E 58 t M b1 b2 b3 b4 (by omega) (by decide) (by omega) (by omega) J _ (fun _=>⟨(zB.size (.inr (.inr ⟨_,_,_,_,_,_,_,_,_,rfl⟩)) rfl),(zB.one (.inr (.inr ⟨_,_,_,_,_,_,_,_,_,rfl⟩)) (aJg _ _ _ _ _ _ _))⟩) ak A _ c w W hc aj
 by_cases bd:V.length<44
 .exact⟨2,_,.inr rfl,rfl,zB.one (.inr (.inr ⟨_,_,_,_,_,_,_,_,_,rfl⟩)) (aJg _ _ _ _ _ _ _),rfl,rfl,fun h=>by omega,fun h=>absurd h (by omega),ay _ _ _ _ _ _ _ _ _ _ (q1 bd)⟩
 .exact⟨0,_,.inl rfl,rfl,zB.one (.inr (.inr ⟨_,_,_,_,_,_,_,_,_,rfl⟩)) (aJg _ _ _ _ _ _ _),rfl,rfl,fun _=>rfl,fun _=>by rw[a6];rfl,ay _ _ _ _ _ _ _ _ _ _ (q2 (by omega))⟩
end Go.Proofs.YtpcifakangbpaaaGreat
