/- Parts of the proof of PathTakes: contracts of functions of the program. No condition but those that each theorem names. -/
import Derived.Test.YtpcifakangbpaaaGreatQPathTakes29
set_option linter.unusedVariables false
set_option linter.unusedSimpArgs false
set_option maxRecDepth 100000
set_option maxHeartbeats 16000000
namespace Go.Proofs.YtpcifakangbpaaaGreat
open Go.RowKit Go.ChangeShapes Go.WideShapes Go.ChangeAt Go.Deep Go.Proofs.Tryz
variable {R xs:List UInt8}{B E J N O S V b base' c f fuel g i j k m n s sd sz:Nat}{Q:Exit->Act->World->Prop}{d w' w0:World}{u v z:Value}{T e t:TypeId}{A:Option Addr}{h os:List Nat}{F:List UInt8->Option Nat}{p:List Nat×List Bool}{a:Act}{α:Type}{H l:List Int}{o:Oper}{G:Array Oper}{K:Act->World->Prop}{y:Array Value}{vs:List Value}{L:List Oper}{I:Bool}{U W Y aa:List (Int×List UInt8)}{P:Program}
section
theorem aRi{G:Oper}(A:Option Addr)(n E:Nat)(v:Vp)(j:Operand->Value)(x y:Operand)(I:G.op=.build 54 #[(0,x),(1,y)])(J:j x=.slice A n E)(L:j y=.agg (fK v))(w:World):(execOp j G).run prog w=.ok (.value (.agg (aH (.slice A n E) v false))) w:=by
 have h:(Instr.build 54 #[(0,j x),(1,j y)]).run prog w=.ok (.agg (aH (.slice A n E) v false)) w:=by
  rw[J,L];obtain⟨⟨O,U,V⟩,W,X,Y,Z⟩:=v
  kernel_rfl
 have N:∀B,B=#[(0,j x),(1,j y)]->Sem.run prog (do let v <- Instr.build 54 B;pure (Next.value v)) w=.ok (.value (.agg (aH (.slice A n E) v false))) w:=by
  rintro _ rfl;simp only[fJa,fHa,h,dNa]
 unfold execOp;simp only[I];exact N _ (by simp)
theorem aSj{j cb:Bool}{a b c:Prop}[Decidable ((a/\b)/\c)](A:a)(E:j=true↔b)(G:c):decide ((a/\b)/\c)=j:=by
 apply Bool.eq_iff_iff.2;rw[eRa,E];exact⟨fun h=>h.1.2,fun h=>⟨⟨A,h⟩,G⟩⟩
section
variable {w:World} {pp x v s b p f g S:Nat} {c:Cfg} {H:List Int} {Fn:Nat} {sd:Nat} {T:FT} {r:Ru} {now:Int}
theorem aTz(hS:Sc w pp x v s b p f g S c H (Fn:Int) sd T r now)(hI:jJ T S os)(dk:sd<18446744073709551616)(h1:100<=Fn)(h2:Fn<=1000)(hG:nD c.nodes)(X:Px)(hX:xG X) :
 Cl 33 #[.pointer (some ⟨pp,0,none⟩),.agg (gP X)] w fun e w'=>aGi b (Fn:Int) sd (bM c H Fn sd T S X) w w' e:=by
 have bh:=aQg hX;obtain⟨R,hR⟩:=eX (bM c H Fn sd T S X);rw[hR];unfold bM at hR;obtain⟨t,ht⟩:=eX (qH X);rw[ht]at hR bh;have cm:(if X.er=true then X.ab else X.t)=t:=ht;clear ht;have qm:∀w',Sc w' pp x v s b p f g S c H (Fn:Int) sd T r now->Cl 71 #[.pointer (some ⟨v,0,none⟩),.agg (eB t)] w' fun e bf=>e=.returned (.tuple #[.agg (fK ((nA c t).getD vpZ)),.bool (nA c t).isSome])/\Below w'.heap.size w' bf:=fun w' h=>by
  obtain⟨lo,hi,a,-⟩:=h.vips;exact aKf c lo v w' a.at t (bd_wf bh)
 have qf:∀w',Sc w' pp x v s b p f g S c H (Fn:Int) sd T r now->Cl 75 #[.pointer (some ⟨v,0,none⟩),.agg #[.bool t.sv,.int .u64 (t.sh:Int),.int .u64 (t.sl:Int)]] w' fun e bf=>e=.returned (.int .i64 (zH c ⟨t.sv,t.sh,t.sl⟩))/\Below w'.heap.size w' bf:=fun w' h=>by
  obtain⟨lo,hi,a,-⟩:=h.vips;exact aMs c lo v w' a.at ⟨t.sv,t.sh,t.sl⟩ ⟨bh.a,bh.b⟩
 have qh:=q_ (fun w' (h:Sc w' pp x v s b p f g S c H (Fn:Int) sd T r now)=>aKm h.pins hI t (nP bh));have qy:=q_ (fun w'=>aCv sd dk t (nP bh) w');have qc:∀(fr b3 b4:Int) w',Sc w' pp x v s b p f g S c H (Fn:Int) sd T r now->Cl 74 #[.pointer (some ⟨b,0,none⟩),.pointer (some ⟨s,0,none⟩),.int .i64 fr,.int .u64 (mW sd t:Int),.int .i64 b3,.int .i64 b4] w' fun e bf=>(∃v,e=.returned v/\bf.ownsRow w'.heap.size 3 1 v (pJ c.nodes H fr Fn sd (mW sd t) b3 b4).length ((pJ c.nodes H fr Fn sd (mW sd t) b3 b4).map bL))/\bJ b (Fn:Int) sd w' bf:=fun fr b3 b4 w' h=>by
  obtain⟨xt,hs⟩:=h.set;exact aGn c.nodes hG H s xt b Fn sd (mW sd t) h1 h2 fr b3 b4 w' hs h.wk (aB4 _ _) dk
 obtain⟨M,hM⟩:∃M,nA c t=M:=⟨_,rfl⟩
 obtain⟨hp,db⟩:∃n,aCy T S t=n:=⟨_,rfl⟩
 have ql':∀w',Sc w' pp x v s b p f g S c H (Fn:Int) sd T r now->∃A1 A2 A3 k1 k2 k3 t bt,w'.heap[x]?=some (.cells (cfC c (.slice A1 c.nodes.length k1) (.slice A2 c.vips.length k2) (.slice A3 c.views.length k3)++#[.pointer (some ⟨t,0,none⟩)]) 87 (0,0))/\Cl 23 #[.pointer (some ⟨t,0,none⟩),.int .i64 hp] w' fun e bf=>e=.returned (.agg (ndA (eU c.nodes hp)))/\Below w'.heap.size w' bf:=fun w' h=>by
  obtain⟨A1,A2,A3,k1,k2,k3,t,bt,hb,hT⟩:=h.cf;exact⟨A1,A2,A3,k1,k2,k3,t,bt,hb,uD c.nodes hp bt t w' hT⟩
 obtain⟨⟨nm,kd,ab,wt,⟨av,ah,al⟩⟩,dc⟩:∃n,eU c.nodes hp=n:=⟨_,rfl⟩
 obtain⟨fr,dd⟩:∃n,zH c ⟨t.sv,t.sh,t.sl⟩=n:=⟨_,rfl⟩
 obtain⟨hk,de⟩:∃n,mW sd t=n:=⟨_,rfl⟩
 rw[hM,db,dc,dd,de]at hR;rw[hM]at qm;rw[db]at qh;rw[dd]at qf;rw[de]at qy qc;rw[dc]at ql';unfold ndA at ql';dsimp only at ql' hR;have bw:=q_ (fun w=>aGr (str nm) kd ab wt av (ah:Int) (al:Int) w);clear hM db dc dd de;obtain⟨w1,cv⟩:=eX (w.alloc (.cells (gP X) 48));have dp:Below w.heap.size w w1:=cv▸bC;have dq:=bN cv;have c3:w1.heap.size=w.heap.size+1:=by rw[<-cv];simp
 obtain⟨w2,dg⟩:=eX (w1.alloc (.cells #[.slice none 0 0,.bool false,.int .u64 0,.int .u64 0,.int .i64 0,.int .i64 0,.int .i64 0,.bool false,.bool false] 54));have c4:Below w1.heap.size w1 w2:=dg▸bC;have cn:Hid (w2.heap[w1.heap.size]?=some (.cells (aH (.slice none 0 0) vpZ false) 54 (0,0))):=q_ (dg▸aJ _ _ _);have co:=q_ (aG c4 dq);have cp:=q_ ((tw dp c4));have dr:=q_ (hS.on cp);have hW:=q_ hS.wk;obtain⟨z,hz⟩:=eX w.heap.size;rw[hz]at c3;rw[c3]at cn;rw[hz]at co cp;have ds:=aL cn;have fc:=aL hS.blk;clear dp c4 dq;obtain⟨eb,br⟩:=eX X.er;replace ⟨qm,qf,ql',qc,hR,hS,bh,cm⟩:=q_8 qm qf ql' qc hR hS bh cm;go_enter func33,ntmps33;go_upto_region 1 with fail
 clear cv dg c3;apply aWa;refine pS ?_;refine wpList_load_mid rfl 46 (.tmp 11) rfl z 1 rfl (tuL X.t) _ (dZ co 1 9 _ rfl) cRa rfl (by kernel_rfl) ?_;refine gF rfl rfl 46 _ (aLz _ rfl) 6 rfl (.tmp 12) rfl _ (fun _=>rfl) (fun _=>rfl) rfl (by kernel_rfl) (aN3 X.t) ?_;intro w3 Y E ca;have an:=q_ (dr.on E);have bq:=q_ (aG E cn);have ba:=q_ (aG E co);have aq:=q_ ((tw cp E));have b7:=E.size;obtain⟨y,hy⟩:=eX w2.heap.size;rw[hy]at Y ca b7 ds;rw[hy];have fd:z+1<y:=ds;have ce:w3.cell? ⟨z,12,none⟩=some (.bool eb):=by rw[<-br];exact aA ba 12
 clear E dr cn co cp hy;replace ⟨Y,br⟩:=q_2 Y br;refine bCa ?_;go_simp;go_upto_if 14 with fail
 go_cut [] (fun wx=>wx.heap[y]?=some (.cells (eB t) 46 (0,0))/\wx.heap[z+1]?=some (.cells (aH (.slice none 0 0) vpZ false) 54 (0,0))/\wx.heap[z]?=some (.cells (gP X) 48 (0,0))/\Below z w wx)
 case first =>
  clear qm qf qh qy ql' qc hR hW bw ce an;rcases eb with _|_
  .have bs:X.t=t:=by rw[<-cm.out,br.out];rfl
   replace bs:=q_ bs;go_wp2_with fail
   go_meet;exact⟨bs.out▸Y,bq,ba,aq⟩
  .have bs:X.ab=t:=by rw[<-cm.out,br.out];rfl
   replace bs:=q_ bs;go_upto_region 3 with fail
   apply aWa;refine pS ?_;refine wpList_load_mid rfl 46 (.tmp 15) rfl z 13 rfl (tuL X.ab) _ (dZ ba 13 9 _ rfl) cRa rfl (by kernel_rfl) ?_;refine bQ rfl 46 (.tmp 6) (.tmp 16) rfl y 0 rfl (eB X.ab) rfl Y (by first|(simp;done)|exact aZa _) (by kernel_rfl) (aN3 X.ab) fun W ac g4=>?_;rw[aQ _ _ (by rfl)]at ac;have az:=q_ ((g4.block (z+1) (by omega) (fun e=>by have:=bFa e;omega)).trans bq);have ar:=q_ ((g4.block z (by omega) (fun e=>by have:=bFa e;omega)).trans ba);have U:=q_ (aq.trans (below_grown g4 (by omega) (show z<=y by omega)));clear g4 Y bq ba aq;replace ac:=q_ ac;refine bCa ?_;go_simp;go_wp2_with fail
   go_meet;exact⟨bs.out▸ac,az,ar,U⟩
 case rest =>
 obtain⟨ac,az,ar,U⟩:=hcut;clear an bq ba aq Y ce ca b7;obtain⟨W,rfl⟩:∃W,W=wc:=⟨_,rfl⟩
 have ae:Hid (Sc W pp x v s b p f g S c H (Fn:Int) sd T r now):=q_ (hS.on (by rw[hz];exact U));have du:=aL ac;have her':=q_ br;clear br;replace ⟨ac,az,ar,U⟩:=q_4 ac az ar U;go_upto_region 4 with fail
 go_cut [7,8] (fun pv bv wx=>∃q,pv=.pointer (some ⟨q,0,none⟩)/\bv=.bool M.isSome/\wx.heap[q]?=some (.cells (fK (M.getD vpZ)) 52 (0,0))/\Below W.heap.size W wx)
 case first =>
  clear qf qh qy ql' qc hR hW hS;refine rX (Below W.heap.size) ?_;intro O E;have b9:=q_ (ae.on E);have Y:=q_ (aG E ac);have ca:=E.size;have lp:=fun l:bU (Below W.heap.size) O=>aA ((l.hk.block pp (by have:=aL ae.blk;omega)).trans b9.blk) 1
  have lr:Hid (∀l:bU (Below W.heap.size) O,l.w.rangeAt y 0 (tuL t)):=q_ (fun l=>aM (cs:=eB t) ((l.hk.block y (by omega)).trans Y));have aq:Hid (Below W.heap.size W O):=q_ (E);clear E ae ac az ar U;refine xS (Below W.heap.size) 0 4 8 ?_;simp only[dA,dC,dD];iterate 4 refine qX ?_
  refine aN ?_;refine xS (Below W.heap.size) 4 1 7 ?_;simp only[dB,dA,dC,dD];refine dU rfl 46 (.tmp 6) rfl y 0 rfl (tuL t) _ lr cRa rfl bW ?_;refine aN ?_;clear lp lr Y;refine rH 5 9 rfl rfl (by as_aux_lemma=>kernel_rfl) (fun K G=>?_) (fun K G=>?_)
  .go_simp;go_at_call 71;refine(qm O b9).mono ?_;rintro e v4 ⟨rfl,I⟩;refine G _ _ (I.mono ca) ?_;clear G K;have U:=q_ ((tw aq I));have em:=I.size;clear I;refine xS (Below W.heap.size) 6 3 3 ?_;simp only[dB,dA,dC,dD];iterate 3 refine qX ?_
   refine aN ?_;refine fS 9 rfl fun K G=>?_;go_simp;obtain⟨v5,cw⟩:=eX (v4.alloc (.cells #[.bool false,.int .u64 0,.int .u64 0,.int .i64 0,.int .i64 0,.int .i64 0,.bool false] 52));have j:Below v4.heap.size v4 v5:=cw▸bC;have cd:Hid (v5.heap[v4.heap.size]?=some (.cells (fK vpZ) 52 (0,0))):=q_ (cw▸aJ _ _ _);have dv:=j.size;rw[cw];refine G _ _ (j.mono (by omega)) ?_;clear G K cw;have N:=q_ ((tw U j));clear j U;clear b9 aq qm;refine fS 10 rfl fun K G=>?_;rw[bBa (by rfl)];refine nL 52 (.tmp 7) (.tmp 24) rfl (v4.heap.size) 0 rfl (fK (M.getD vpZ)) rfl cd (by simp) mJ (nX _) fun v6 ad g6=>?_;rw[aQ _ _ (by rfl)]at ad;have af:=below_grown g6 (show W.heap.size<=v5.heap.size by omega) (show W.heap.size<=v4.heap.size by omega);refine G _ _ af ?_;clear G K g6;have a0:=q_ ((tw N af));clear af N cd;replace ad:=q_ ad;refine xM 11 rfl ?_;refine fD ?_;go_wp2_with fail
   go_meet;exact⟨_,rfl,rfl,ad,a0⟩
  .go_simp;obtain⟨v4,cx⟩:=eX (O.alloc (.cells #[.bool false,.int .u64 0,.int .u64 0,.int .i64 0,.int .i64 0,.int .i64 0,.bool false] 52));have I:Below O.heap.size O v4:=cx▸bC;have c5:Hid (v4.heap[O.heap.size]?=some (.cells (fK vpZ) 52 (0,0))):=q_ (cx▸aJ _ _ _);have em:=I.size;rw[cx];refine G _ _ (I.mono ca) ?_;clear G K cx;have dw:=q_ (b9.on I);have U:=q_ ((tw aq I));have fe:=(Array.getElem?_eq_some_iff.1 c5).1;clear I;refine fS 5 rfl fun K G=>?_;go_simp;go_at_call 71;refine(qm v4 dw).mono ?_;rintro e v5 ⟨rfl,j⟩;refine G _ _ (j.mono (by omega)) ?_;clear G K;have N:=q_ ((tw U j));have cd:=q_ (aG j c5);have dv:=j.size;clear j U c5 dw;refine xS (Below W.heap.size) 6 3 2 ?_;simp only[dB,dA,dC,dD];iterate 3 refine qX ?_
   refine aN ?_;clear b9 aq qm;refine fS 10 rfl fun K G=>?_;rw[bBa (by rfl)];refine nL 52 (.tmp 7) (.tmp 24) rfl (O.heap.size) 0 rfl (fK (M.getD vpZ)) rfl cd (by simp) mJ (nX _) fun v6 ad g6=>?_;rw[aQ _ _ (by rfl)]at ad;have af:=below_grown g6 (show W.heap.size<=v5.heap.size by omega) (show W.heap.size<=O.heap.size by omega);refine G _ _ af ?_;clear G K g6;have a0:=q_ ((tw N af));clear af N cd;replace ad:=q_ ad;refine xM 11 rfl ?_;refine fD ?_;go_wp2_with fail
   go_meet;exact⟨_,rfl,rfl,ad,a0⟩
 case rest =>
 obtain⟨q,rfl,rfl,bc,j⟩:=hcut;have bb:=ae.on j;have ao:=aG j az;have bj:=aG j ar;have bx:=aG j ac;have N:=tw U j;have dv:=j.size;have dx:=aA bj 10;have a5:=aA bj 12;clear ae az ar ac U j qm;rcases M with _|u
 .have ag:R=jS 23:=hR.symm;clear dx a5 bc bx bj bb qf qh qy ql' qc hR;replace ⟨ag,ao,N⟩:=q_3 ag ao N;go_upto_region 6 with fail
  apply aWa;refine pS ?_;refine sW 54 (.tmp 4) (.tmp 28) (z+1) (aH (.slice none 0 0) vpZ false) ao (eG rfl vpZ false) cXa fun w9 ax V J=>?_;have cg:Hid (Below (z) w w9):=q_ ((N).trans (below_grown V (by have:=(N).size;omega) (by omega)));clear ax V;replace J:=q_ J;refine pS ?_;refine bCa ?_;go_simp;go_wp2_with fail
  exact aYa (v:=.tuple #[.agg (aH (.slice none 0 0) vpZ false),.int .i64 23]) (by simp[results,results33,asAddr,J.out,Result.andThen]) rfl (zW 23 ag hW (by rw[hz];exact cg))
 have ag:=hR.out;dsimp only at ag;clear hR;by_cases dj:X.ttl<2
 .have Z:R=jS 20:=by rw[bBa dj]at ag;exact ag.symm
  clear ag a5 bc bx bj bb qf qh qy ql' qc;replace ⟨Z,ao,N⟩:=q_3 Z ao N;go_upto_region 8 with fail
  apply aWa;refine pS ?_;refine sW 54 (.tmp 4) (.tmp 32) (z+1) (aH (.slice none 0 0) vpZ false) ao (eG rfl vpZ false) cXa fun w9 ax V J=>?_;have cg:Hid (Below (z) w w9):=q_ ((N).trans (below_grown V (by have:=(N).size;omega) (by omega)));clear ax V;replace J:=q_ J;refine pS ?_;refine bCa ?_;go_simp;go_wp2_with fail
  exact aYa (v:=.tuple #[.agg (aH (.slice none 0 0) vpZ false),.int .i64 20]) (by simp[results,results33,asAddr,J.out,Result.andThen]) rfl (zW 20 Z hW (by rw[hz];exact cg))
 rw[bAa dj]at ag;have tl:(2:Int)<=X.ttl:=by omega
 have c7:=aA bc 5;have ff:=aL bc;have fg:=aL bb.blk;dsimp only[Option.getD]at bc c7;clear dj;replace ⟨ag,ao,N,bb,bx,bj,bc⟩:=q_7 ag ao N bb bx bj bc;go_upto_region 9 with fail
 clear dx tl;refine rX (Below wc.heap.size) ?_;intro O E;have an:=q_ (bb.on E);have Y:=q_ (aG E bx);have ba:=q_ (aG E bj);have bq:=q_ (aG E ao);have ch:=q_ (aG E bc);have aq:=q_ ((tw N E));have b7:=E.size;have lp:=fun l:bU (Below wc.heap.size) O=>aA ((l.hk.block pp (by omega)).trans an.blk) 4
 have lr:Hid (∀l:bU (Below wc.heap.size) O,l.w.rangeAt y 0 (tuL t)):=q_ (fun l=>aM (cs:=eB t) ((l.hk.block y (by omega)).trans Y));clear E bb bx bj ao bc N;refine xS (Below wc.heap.size) 0 4 3 ?_;simp only[dA,dC,dD];iterate 4 refine qX ?_
 refine aN ?_;refine xS (Below wc.heap.size) 4 1 2 ?_;simp only[dB,dA,dC,dD];refine dU rfl 46 (.tmp 6) rfl y 0 rfl (tuL t) _ lr cRa rfl bW ?_;refine aN ?_;clear lp lr;refine fS 5 rfl fun K G=>?_;go_simp;go_at_call 72;refine(qh O an).mono ?_;rintro e v4 ⟨rfl,I⟩;refine G _ _ (I.mono b7) ?_;clear G K qh;have ae:=q_ (an.on I);have ac:=q_ (aG I Y);have ar:=q_ (aG I ba);have az:=q_ (aG I bq);have bz:=q_ (aG I ch);have U:=q_ ((tw aq I));have du:=I.size;have a5:=aA ar 12;have c7:=aA bz 5;clear I an Y ba bq ch aq;refine xM 6 rfl ?_;refine fD ?_;obtain⟨P,hP⟩:∃P,decide ((0<=hp/\kd=4)/\u.copies=1)=P:=⟨_,rfl⟩
 replace hP:=q_ hP;go_upto_region 10 with fail
 go_cut [58] (fun bv wx=>bv=.bool P/\Below v4.heap.size v4 wx)
 case first =>
  clear qf qy qc ag hW hS az U ac ar a5;obtain⟨cb,e8⟩:=eX ((u.copies == 1));have ci:cb=true↔u.copies=1:=by rw[<-e8];simp
  rcases cb with _|_
  .have a1:P=false:=by
    rw[<-hP.out];exact bWa fun h=>by have:=ci.2 h.2;cases this
   clear hP ql' ae bz bw ci;replace a1:=q_ a1;go_wp2_with fail
   go_meet;exact⟨by rw[a1.out],bLa _ _⟩
  by_cases h0:0<=hp
  .obtain⟨A1,A2,A3,k1,k2,k3,t4,bt,a7,q1⟩:=ql' v4 ae;have c0:=aA ae.blk 0;have dy:=aA a7 11;unfold cfC at dy;clear ql' ae a7;obtain⟨kb,fa⟩:=eX ((kd == 4));have dz:kb=true↔kd=4:=by rw[<-fa];simp
   have a1:P=kb:=by
    rw[<-hP.out];exact aSj (cb:=true) h0 dz (ci.1 rfl)
   clear dz ci hP;replace ⟨q1,a1⟩:=q_2 q1 a1;go_wp2_with fail
   refine(q1).mono ?_;rintro e v5 ⟨rfl,j⟩;have fh:=bw v5;clear q1 bz bw c0 dy;replace j:=q_ j;go_wp2_with fail
   go_meet;exact⟨by rw[a1.out],j⟩
  .have a1:P=false:=by
    rw[<-hP.out];exact bWa fun h=>h0 h.1.1
   clear hP ql' ae bz bw ci;replace a1:=q_ a1;go_wp2_with fail
   go_meet;exact⟨by rw[a1.out],bLa _ _⟩
 case rest =>
 obtain⟨rfl,af⟩:=hcut;have a6:=q_ (ae.on af);have ad:=q_ (aG af ac);have cj:=q_ (aG af ar);have a2:=q_ (aG af az);have aw:=q_ (aG af bz);have a0:=q_ ((tw U af));have fi:=af.size;have a5:wc.cell? ⟨z,12,none⟩=some (.bool X.er):=aA cj 12;clear af ae ac ar az bz U ql' c7 bw;rcases P with _|_
 case true =>
  have Z:R=⟨0,[hp],u,true⟩:=by
   rw[<-ag.out,bBa (cHa hP.out)]
  clear ag hP qf qy qc ad cj a5;go_upto_region 11 with fail
  apply aWa;iterate 2 refine pS ?_
  obtain⟨w7,cz⟩:=eX (wc.alloc (.cells #[.int .i64 hp] 3));rw[cz];have cr:Below wc.heap.size wc w7:=cz▸bC;have d0:w7.ownsRow wc.heap.size 3 1 (.slice (some ⟨wc.heap.size,0,none⟩) 1 1) [hp].length ([hp].map bL):=cz▸aQm wc hp;have eo:=q_ (aG cr aw);have d1:=q_ (aG cr a2);have ep:=q_ ((tw a0 cr));have ct:=q_ (jC d0 (show w.heap.size<=wc.heap.size by omega));clear cz cr d0 aw a2 a0 a6;replace Z:=q_ Z;refine gG (.agg (fK u)) rfl (jL w7 _ 52 (.tmp 7) rfl q rfl (fK u) _ eo fWa rfl (by rw[mJ];rfl)) ?_;dsimp only[Act.put];refine gG (.agg (aH (.slice (some ⟨wc.heap.size,0,none⟩) 1 1) u true)) rfl (aDv _ 1 1 u true _ (.tmp 60) (.tmp 61) rfl rfl rfl rfl w7) ?_;dsimp only[Act.put];refine sW 54 (.tmp 4) (.tmp 62) (z+1) (aH (.slice (some ⟨wc.heap.size,0,none⟩) 1 1) u true) d1 (eG rfl u true) cXa fun w9 ax V J=>?_;clear ax;replace ⟨J,V⟩:=q_2 J V;refine pS ?_;refine bCa ?_;go_simp;go_wp2_with fail
  exact aYa (v:=.tuple #[.agg (aH (.slice (some ⟨wc.heap.size,0,none⟩) 1 1) u true),.int .i64 0]) (by simp[results,results33,asAddr,J.out,Result.andThen]) rfl (Z.out▸aCf 0 (bJ.below hW (by rw[hz];exact ep)) ct d1 V (by omega))
 case false =>
  have Z:=ag.out;rw[bAa (cUa hP.out)]at Z;clear ag hP;have fj:=her'.out;by_cases b8:X.er=true
  .have ai:R=jS 7:=by rw[bBa b8]at Z;exact Z.symm
   rw[b8]at a5;clear Z qf qy qc ad cj aw a6;replace ai:=q_ ai;go_upto_region 13 with fail
   apply aWa;refine pS ?_;refine sW 54 (.tmp 4) (.tmp 65) (z+1) (aH (.slice none 0 0) vpZ false) a2 (eG rfl vpZ false) cXa fun w9 ax V J=>?_;have cg:Hid (Below (z) w w9):=q_ ((a0).trans (below_grown V (by have:=(a0).size;omega) (by omega)));clear ax V;replace J:=q_ J;refine pS ?_;refine bCa ?_;go_simp;go_wp2_with fail
   exact aYa (v:=.tuple #[.agg (aH (.slice none 0 0) vpZ false),.int .i64 7]) (by simp[results,results33,asAddr,J.out,Result.andThen]) rfl (zW 7 ai hW (by rw[hz];exact cg))
  rw[bAa b8]at Z;have her':X.er=false:=by simpa using b8
  rw[her']at a5;clear b8 her';replace Z:=q_ Z;obtain⟨L,hL⟩:=eX (pJ c.nodes H fr Fn sd hk u.copies c.domain);have qc':=q_ (fun w' h=>qc fr u.copies c.domain w' h);rw[hL]at qc';have ai:=q_ Z;rw[hL]at ai;clear qc hL Z;have fk:b<z:=by have:=hS.wk.lt;omega
  have eq:∃A1 A2 A3 k1 k2 k3 t bt,wc.heap[x]?=some (.cells (cfC c (.slice A1 c.nodes.length k1) (.slice A2 c.vips.length k2) (.slice A3 c.views.length k3)++#[.pointer (some ⟨t,0,none⟩)]) 87 (0,0))/\dH wc bt t c.nodes:=a6.cf
  obtain⟨A1,A2,A3,k1,k2,k3,t4,bt,a7,-⟩:=eq;have es:x≠b:=fun e=>a6.other a7 (by decide) (by decide) (by decide) (.inl e)
  have et:pp≠b:=fun e=>a6.npp (.inl e)
  have d2:q≠b:=fun e=>a6.other aw (by decide) (by decide) (by decide) (.inl e)
  have d3:y≠b:=by omega
  have fl:=aL a7;have fm:=aL aw;have fn:=aL ad;have fo:=aL a6.blk;replace a7:=q_ a7;go_upto_region 14 with fail
  go_cut [10] (fun lv wx=>∃v5,Below wc.heap.size wc v5/\(∃hv,lv=hv/\wx.ownsRow v5.heap.size 3 1 hv L.length (L.map bL))/\bJ b (Fn:Int) sd v5 wx)
  case first =>
   clear ai a2 a0 cj hW a5;refine rX (WkR b (Fn:Int) sd) ?_;intro O E;have an:=q_ (a6.on E);have Y:=aG E ad;have ch:=aG E aw;have d4:=aG E a7;have b7:=E.size;have lp:=fun l:bU (WkR b (Fn:Int) sd) O=>aA ((l.hk.2.block pp (by omega) et).trans an.blk)
   have lq:=fun l:bU (WkR b (Fn:Int) sd) O=>aA ((l.hk.2.block q (by omega) d2).trans ch) 5
   have lx:∀l:bU (WkR b (Fn:Int) sd) O,l.w.cell? ⟨x,4,none⟩=some (.int .i64 c.domain):=fun l=>by
    have k4:=aA ((l.hk.2.block x (by omega) es).trans d4) 4;unfold cfC at k4;exact k4
   have d6:=an.wk;have lb:∀l:bU (WkR b (Fn:Int) sd) O,l.w.cell? ⟨b,5,none⟩=some (.int .u64 (sd:Int)):=fun l=>by
    obtain⟨dn,sm,lv,h,-⟩:=l.hk.1 d6;exact aA h 5
   have la:Hid (∀l:bU (WkR b (Fn:Int) sd) O,l.w.rangeAt y 1 [.bool t.sv,.int .u64 (t.sh:Int),.int .u64 (t.sl:Int)]):=q_ (fun l=>dZ ((l.hk.2.block y (by omega) d3).trans Y) 1 3 _ rfl);have lr:Hid (∀l:bU (WkR b (Fn:Int) sd) O,l.w.rangeAt y 0 (tuL t)):=q_ (fun l=>aM (cs:=eB t) ((l.hk.2.block y (by omega) d3).trans Y));clear a6 ad aw a7 Y ch d4 d6;replace E:=q_ E;refine xS (WkR b (Fn:Int) sd) 0 13 23 ?_;simp only[dA,dC,dD];iterate 13 refine qX ?_
   refine aN ?_;refine xS (WkR b (Fn:Int) sd) 13 1 22 ?_;simp only[dB,dA,dC,dD];refine dU rfl 27 (.tmp 78) rfl y 1 rfl [.bool t.sv,.int .u64 (t.sh:Int),.int .u64 (t.sl:Int)] _ la dSa rfl kS ?_;refine aN ?_;refine xS (WkR b (Fn:Int) sd) 15 8 14 ?_;simp only[dB,dA,dC,dD];iterate 7 refine qX ?_
   refine dU rfl 46 (.tmp 6) rfl y 0 rfl (tuL t) _ lr cRa rfl bW ?_;refine aN ?_;refine xS (WkR b (Fn:Int) sd) 24 10 4 ?_;simp only[dB,dA,dC,dD];iterate 10 refine qX ?_
   refine aN ?_;clear lp lq lx la lr lb;refine fS 14 rfl fun K G=>?_;go_simp;go_at_call 75;refine(qf O an).mono ?_;rintro e v4 ⟨rfl,I⟩;refine G _ _ (WkR.of I) ?_;clear G K qf;have ae:=q_ (an.on I);have U:=q_ ((tw E I));have du:=I.size;clear an E I;refine fS 23 rfl fun K G=>?_;go_simp;go_at_call 35;refine(qy v4).mono ?_;rintro e v5 ⟨rfl,j⟩;refine G _ _ (WkR.of j) ?_;clear G K qy;have bb:=q_ (ae.on j);have N:=q_ ((tw U j));have ex:=j.size;clear ae U j;refine fS 34 rfl fun K G=>?_;go_simp;go_at_call 74;refine(qc' v5 bb).mono ?_;rintro e v6 ⟨⟨hv,rfl,hr⟩,hE⟩;refine G _ _ (bJ.r hE) ?_;clear G K qc';replace ⟨hr,hE⟩:=q_2 hr hE;refine xM 35 rfl ?_;refine fD ?_;go_wp2_with fail
   go_meet;exact⟨v5,N,⟨hv,rfl,hr⟩,hE⟩
  case rest =>
  obtain⟨v5,j,⟨hv,rfl,hr⟩,hE⟩:=hcut;obtain⟨A,cl,rfl,-,-,-⟩:=bE hr;have ex:=j.size;have N:=tw a0 j;have d8:Hid (bJ b (Fn:Int) sd w wc):=q_ ((bJ.below hW (by rw[hz];exact N)).trans hE);have d9:=(hE.2.block q (by omega) d2).trans (aG j aw);have ao:=(hE.2.block (z+1) (by omega) (by omega)).trans (aG j a2);have ct:=q_ (jC hr (show w.heap.size<=v5.heap.size by omega));clear aw a2 hr hE N j a6 ad cj a0 a7 qf qy qc' a5 hW;have aw:=q_ d9;have a2:=q_ ao;clear d9 ao;have b0:=ai.out;clear ai;by_cases b2:L=[]
  .have ai:R=jS 22:=by rw[bBa b2]at b0;exact b0.symm
   have tl:((L.length:Int) == 0)=true:=by rw[b2];rfl
   clear b0 aw ct b2;replace ai:=q_ ai;go_upto_region 16 with fail
   apply aWa;refine pS ?_;refine sW 54 (.tmp 4) (.tmp 104) (z+1) (aH (.slice none 0 0) vpZ false) a2 (eG rfl vpZ false) cXa fun w9 ax V J=>?_;clear ax;replace ⟨J,V⟩:=q_2 J V;refine pS ?_;refine bCa ?_;go_simp;go_wp2_with fail
   exact aYa (v:=.tuple #[.agg (aH (.slice none 0 0) vpZ false),.int .i64 22]) (by simp[results,results33,asAddr,J.out,Result.andThen]) rfl (ai.out▸aCf 22 (l:=[]) d8 ⟨rfl,.inl ⟨rfl,rfl⟩⟩ a2 V (by omega))
  .have ai:R=⟨0,L,u,false⟩:=by rw[bAa b2]at b0;exact b0.symm
   have tl:((L.length:Int) == 0)=false:=by
    rw[bDa];intro e;exact b2 (eGa (by omega))
   clear b0 b2;replace ai:=q_ ai;go_upto_region 17 with fail
   apply aWa;refine pS ?_;refine gG (.agg (fK u)) rfl (jL wc _ 52 (.tmp 7) rfl q rfl (fK u) _ aw fWa rfl (by rw[mJ];rfl)) ?_;dsimp only[Act.put];refine gG (.agg (aH (.slice A L.length cl) u false)) rfl (aRi A L.length cl u _ (.tmp 105) (.tmp 106) rfl rfl rfl wc) ?_;dsimp only[Act.put];refine sW 54 (.tmp 4) (.tmp 107) (z+1) (aH (.slice A L.length cl) u false) a2 (eG rfl u false) cXa fun w9 ax V J=>?_;clear ax;replace ⟨J,V⟩:=q_2 J V;refine pS ?_;refine bCa ?_;go_simp;go_wp2_with fail
   exact aYa (v:=.tuple #[.agg (aH (.slice A L.length cl) u false),.int .i64 0]) (by simp[results,results33,asAddr,J.out,Result.andThen]) rfl (ai.out▸aCf 0 d8 ct a2 V (by omega))
end
end
end Go.Proofs.YtpcifakangbpaaaGreat
