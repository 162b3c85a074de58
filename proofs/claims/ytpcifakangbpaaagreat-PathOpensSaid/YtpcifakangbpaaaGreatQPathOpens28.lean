/- Parts of the proof of PathOpens: contracts of functions of the program. No condition but those that each theorem names. -/
import Derived.Test.YtpcifakangbpaaaGreatQPathOpens27
set_option linter.unusedVariables false
set_option linter.unusedSimpArgs false
set_option maxRecDepth 100000
set_option maxHeartbeats 16000000
namespace Go.Proofs.YtpcifakangbpaaaGreat
open Go.RowKit Go.ChangeShapes Go.WideShapes Go.ChangeAt Go.Deep Go.Proofs.Tryz
variable {R xs:List UInt8}{B E J N O S V b base' c f fuel g i j k m n s sd sz:Nat}{Q:Exit->Act->World->Prop}{d w' w0:World}{u v z:Value}{T e t:TypeId}{A:Option Addr}{h os:List Nat}{F:List UInt8->Option Nat}{p:List Nat×List Bool}{a:Act}{α:Type}{H l:List Int}{o:Oper}{G:Array Oper}{K:Act->World->Prop}{y:Array Value}{vs:List Value}{L:List Oper}{I:Bool}{U W Y aa:List (Int×List UInt8)}{P:Program}
theorem aKu{f:α->List α->Nat}{l:List α}{n:α}(h:kW f l i=0)(j:l[i]?=some n)(A:f n (l.take i)≠0):kW f l l.length=f n (l.take i):=by
 have E:kW f l (i+1)=f n (l.take i):=by
  rw[kW,h,j];exact bAa (by decide)
 have G:∀k,kW f l (i+1+k)=f n (l.take i):=by
  intro k
  induction k with
  | zero=>exact E
  | succ k ih =>
   rw[<-eVa,kW,ih];exact bBa A
 have I:=(List.getElem?_eq_some_iff.1 j).1;have:=G (l.length - (i+1));rw[show i+1+(l.length - (i+1))=l.length by omega]at this;exact this
theorem aKt{f:α->List α->Nat}{l:List α}{n:α}(h:kW f l i=0)(j:l[i]?=some n)(A:f n (l.take i)=0):kW f l (i+1)=0:=by
 rw[kW,h,j];exact(bAa (by decide)).trans A
theorem vnew_any(c:Cfg)(hs:c.small 4096)(bs:∀x∈c.nodes,x.name.length<=9223372036854775807)(bt:∀v∈c.views,v.a.ok)(w:World)(A1 A2 A3:Option Addr)(k1 k2 k3:Nat)(h1:c.nodes.length<=k1/\k1<=maxLen)(h2:c.vips.length<=k2/\k2<=maxLen)(h3:c.views.length<=k3/\k3<=maxLen)(h:uV w w.heap.size c A1 A2 A3 k1 k2 k3) :
 Cl 25 #[.agg (cfC c (.slice A1 c.nodes.length k1) (.slice A2 c.vips.length k2) (.slice A3 c.views.length k3))] w fun e w'=>aP2 c w w' e:=by
 have ee:=hs.1;have dt:=hs.2.1;have du:=hs.2.2;have qP:=q_ (fun w=>aHa c w A1 A2 A3 k1 k2 k3);have qS:=q_ (fun w h=>self_any c w A1 A2 A3 k1 k2 k3 h (by omega));have qT:=q_ (fun w h=>tnew_any c.nodes c.nodes.length k1 A1 w h h1.1 h1.2 (by omega) (fun x hx=>bJa (bs x hx) (by decide)));have qC:=q_ (fun w h=>aRm c hs w A1 A2 A3 k1 k2 k3 h);unfold aP2;obtain⟨X,hX⟩:=eX (qF c);rw[hX];unfold qF at hX;obtain⟨p1,p2,p3⟩:=h;unfold cfC at qP qS qC ⊢;obtain⟨w1,cv⟩:=eX (w.alloc (.cells #[.slice A1 c.nodes.length k1,.slice A2 c.vips.length k2,.slice A3 c.views.length k3,.int .i64 c.factor,.int .i64 c.domain,.bool c.s0.v6,.int .u64 (c.s0.hi:Int),.int .u64 (c.s0.lo:Int),.bool c.s1.v6,.int .u64 (c.s1.hi:Int),.int .u64 (c.s1.lo:Int)] 30));have b9:Hid (Below w.heap.size w w1):=q_ (cv▸bC);have bw:Hid (w1.heap[w.heap.size]?=some (.cells #[.slice A1 c.nodes.length k1,.slice A2 c.vips.length k2,.slice A3 c.views.length k3,.int .i64 c.factor,.int .i64 c.domain,.bool c.s0.v6,.int .u64 (c.s0.hi:Int),.int .u64 (c.s0.lo:Int),.bool c.s1.v6,.int .u64 (c.s1.hi:Int),.int .u64 (c.s1.lo:Int)] 30 (0,0))):=q_ (cv▸aJ _ _ _);have c3:=aL bw;obtain⟨PF,d4⟩:∃x,vG c=x:=⟨_,rfl⟩
 rw[d4]at hX qP;have ag:=aA bw;replace ⟨p1,p2,p3,hX,bs,bt⟩:=q_6 p1 p2 p3 hX bs bt;go_enter func25,ntmps25;go_upto_region 1 with fail
 clear cv;go_wp2_with fail
 refine(qP w1).mono ?_;rintro e w2 ⟨rfl,cx⟩;have ah:=b9.trans (cx.mono b9.size);have a8:=aC cx c3 bw;have c4:=aL a8;have ay:=hX.out;clear hX b9 cx bw ag qP c3;by_cases hP:PF=0
 case neg =>
  rw[bBa hP]at ay;subst ay;have ca:((PF:Int) != 0)=true:=by rw[dLa];omega
  replace ah:=q_ ah;go_wp2_with fail
  go_ret2;exact⟨ah,.inl ⟨hP,rfl⟩⟩
 case pos =>
 rw[bAa (fun e=>e hP)]at ay;subst hP;have q:=q_ (qT w2 (istW (p1.below ah) ah.size));unfold aH0 at q;have ag:=aA a8 0;replace ⟨ay,ah,a8⟩:=q_3 ay ah a8;clear qT;go_wp2_with fail
 refine(q).mono ?_;rintro e w3 ⟨cy,eb⟩;have aj:=q_ (ah.trans (cy.mono ah.size));have dv:w.heap.size<=w2.heap.size:=ah.size;have bx:=q_ (aC cy c4 a8);have c5:=aL bx;have ak:=ay.out;clear ay cy ah a8 ag q c4;rcases eb with⟨p,ht,hp,rfl⟩|⟨ht,t,rfl,hT⟩
 .rw[ht]at ak;dsimp only at ak;subst ak;have ca:((p.2:Int) != 0)=true:=by rw[dLa];omega
  go_wp2_with fail
  go_ret2;exact⟨aj,.inl ⟨by omega,rfl⟩⟩
 rw[ht]at ak;dsimp only at ak;obtain⟨SB,d6⟩:∃x,aBc c=x:=⟨_,rfl⟩
 rw[d6]at ak qS;have q:=q_ (qS w3 ⟨istW (p1.below aj) aj.size,istW (p2.below aj) aj.size,istW (p3.below aj) aj.size⟩);have ag:=aA bx;clear qS;replace ⟨ak,hT,ht⟩:=q_3 ak hT ht;go_wp2_with fail
 refine(q).mono ?_;rintro e w4 ⟨rfl,b6⟩;have a9:=q_ (aj.trans (b6.mono aj.size));have bh:=q_ (aC b6 c5 bx);have cc:=aL bh;have b0:dH w4 w.heap.size t c.nodes:=by
  obtain⟨O,U,V,A,W,Y⟩:=hT.out;exact dH.weak ⟨O,U,V,A,W,Y.on b6⟩ dv
 have az:=ak.out;clear ak b6 aj bx ag q c5 hT;replace b0:=q_ b0
 cases SB
 case false =>
  obtain rfl:7=X:=az;go_wp2_with fail
  go_ret2;exact⟨a9,.inl ⟨by decide,rfl⟩⟩
 case true =>
 rw[bAa (by decide)]at az;have ag:=aA bh 1;replace az:=q_ az;obtain⟨m,hm⟩:=eX c.vips.length;rw[hm]at ag dt h2;have b1:=q_ p2;rw[hm]at b1;clear p2;go_wp2_with fail
 clear ag;go_loopw [8,9,10,35] (fun _ _ _ iv wr=>∃i:Nat,i<=m/\iv=.int .i64 (i:Int)/\kW yZ c.vips i=0/\Below w4.heap.size w4 wr) (fun _ _ _ iv _=>m - (intOf iv).toNat)
 case atStart=>exact⟨0,by omega,rfl,rfl,bLa _ _⟩
 case round =>
  obtain⟨i,hi,rfl,hE,E⟩:=hrel;have cd:=E.size;by_cases ec:i<m
  .have bi:(i:Int)<(m:Int):=by omega
   have al:=q_ (a9.trans (E.mono a9.size));obtain⟨b,N,n,rfl,d7,av,Z⟩:=IsT.at (f:=vpC) (size:=7) (fun _=>rfl) (by decide) (b1.below al) ec;have dw:=wJ i;have a0:=q_ (aC E cc bh);obtain⟨R,G⟩:∃x,yZ n (c.vips.take i)=x:=⟨_,rfl⟩
   have hS:=q_ (fun hb:R≠0=>(aKu hE av (by rw[G];exact hb)).trans G);have hN:=q_ (fun hb:R=0=>aKt hE av (G.trans hb));have A:∀w',Below w.heap.size w w'->Cl 65 #[.agg (vpA n),.slice (some ⟨b,N,none⟩) i k2] w' fun e I=>e=.returned (.int .i64 (R:Int))/\Below w'.heap.size w' I:=by
    intro w' hb;have h2:=IsT.take (f:=vpC) (size:=7) (fun _=>rfl) (b1.below hb) (show i<=m by omega);have:=vip_any n (c.vips.take i) i k2 (some ⟨b,N,none⟩) w' (istW h2 hb.size) (by omega);rw[G]at this;exact this
   clear hE av G;obtain⟨⟨v6,vh,vl⟩,xp,xo,xc,xn⟩:=n;have y0:wr.cell? ⟨b,N+i*7,none⟩=some (.bool v6):=Z 0 _ rfl;have y1:wr.cell? ⟨b,N+i*7+1,none⟩=some (.int .u64 (vh:Int)):=Z 1 _ rfl;have y2:wr.cell? ⟨b,N+i*7+2,none⟩=some (.int .u64 (vl:Int)):=Z 2 _ rfl;have y3:wr.cell? ⟨b,N+i*7+3,none⟩=some (.int .i64 xp):=Z 3 _ rfl;have y4:wr.cell? ⟨b,N+i*7+4,none⟩=some (.int .i64 xo):=Z 4 _ rfl;have y5:wr.cell? ⟨b,N+i*7+5,none⟩=some (.int .i64 xc):=Z 5 _ rfl;have y6:wr.cell? ⟨b,N+i*7+6,none⟩=some (.bool xn):=Z 6 _ rfl;unfold vpA at A;dsimp only at A;clear Z;replace ⟨A,E⟩:=q_2 A E;go_upto_region 11 with fail
   apply aWa;iterate 3 refine pS ?_
   refine aGg rfl rfl rfl 52 _ (aL0 _ rfl) 9 8 rfl rfl (.int .i64 (i:Int)) (fun _=>rfl) (.tmp 39) rfl _ (fun _=>rfl) (fun _=>rfl) rfl (by kernel_rfl) (aDq v6 (vh:Int) (vl:Int) xp xo xc xn) ?_;intro I aa ab b4;refine bCa ?_;go_simp;have J:=q_ (al.trans (ab.mono al.size));have a2:=q_ (aC ab (by have:=aL a0;omega) a0);have ck:=aL aa;have a3:=q_ (E.trans (ab.mono cd));clear y0 y1 y2 y3 y4 y5 y6 al a0 ab E;replace aa:=q_ aa;go_upto_region 12 with fail
   refine rX (Below I.heap.size) ?_;intro w7 L;have ze:=L.size;have zz:=aL a2;have lz:=fun l:bU (Below I.heap.size) w7=>aA (aC (L.trans l.hk) ck aa)
   have lc:=fun l:bU (Below I.heap.size) w7=>aA (aC (L.trans l.hk) zz a2) 1
   have dz:i<=k2:=by omega
   have ad:=q_ (J.trans (L.mono J.size));have a4:=q_ (a3.trans (L.mono a3.size));replace L:=q_ L;refine xS (Below I.heap.size) 0 5 2 ?_;simp only[dA,dC,dD];iterate 5 refine qX ?_
   refine aN ?_;clear lz lc;refine fS 5 rfl fun K hK=>?_;go_simp;go_at_call 65;refine(A w7 ad).mono ?_;rintro e w8 ⟨rfl,am⟩;refine hK _ _ (am.mono ze) ?_;clear hK K;refine xM 6 rfl ?_;refine fD ?_;have a5:=q_ (ad.trans (am.mono ad.size));have d0:=q_ (a4.trans (am.mono a4.size));clear ad a4 am A L aa J a2 a3;by_cases G:R=0
   case neg =>
    have au:=hS G;have ca:((R:Int) != 0)=true:=by rw[dLa];omega
    have a6:=az.out;rw[au,bBa G]at a6;subst a6;clear hS hN;go_wp2_with fail
    go_ret2;exact⟨a5,.inl ⟨G,rfl⟩⟩
   case pos =>
    have cq:=q_ (hN G);subst G;clear hS hN;go_wp2_with fail
    exact⟨⟨i+1,by omega,rfl,cq,d0⟩,by show m - ((i:Int)+1).toNat<m - ((i:Int)).toNat;omega⟩
  .obtain rfl:i=m:=by omega
   have a6:=q_ az;rw[show kW yZ c.vips c.vips.length=0 by rw[hm];exact hE,bAa (by decide)]at a6;have bi:((i:Int)<(i:Int))=False:=by simp
   have al:=q_ (a9.trans (E.mono a9.size));have bj:=q_ (aC E cc bh);have c6:=aL bj;have bk:dH wr w.heap.size t c.nodes:=by
    obtain⟨O,U,V,A,W,Y⟩:=b0.out;exact⟨O,U,V,A,W,Y.on E⟩
   have ag:=aA bj 2;obtain⟨m3,bl⟩:∃m,c.views.length=m:=⟨_,rfl⟩
   have b2:=q_ p3;rw[bl]at ag du h3 b2;replace bl:=q_ bl;clear hE a9 bh b0 E cc az p3;replace bk:=q_ bk;go_wp2_with fail
   clear ag;go_loopw [11,12,13,53] (fun _ _ _ iv wq=>∃j:Nat,j<=m3/\iv=.int .i64 (j:Int)/\kW (fun v l=>zP v l (dM c.nodes).length) c.views j=0/\Below wr.heap.size wr wq) (fun _ _ _ iv _=>m3 - (intOf iv).toNat)
   case atStart=>exact⟨0,by omega,rfl,rfl,bLa _ _⟩
   case round =>
    clear bi;obtain⟨j,hj,rfl,hE,E⟩:=hrel;have cd:=E.size;by_cases ed:j<m3
    .have bi:(j:Int)<(m3:Int):=by omega
     have J:=q_ (al.trans (E.mono al.size));obtain⟨b,N,n,rfl,d7,av,Z⟩:=IsT.at (f:=vwC) (size:=5) (fun _=>rfl) (by decide) (b2.below J) ed;have dw:=wJ j;have a0:=q_ (aC E c6 bj);obtain⟨R,G⟩:∃x,zP n (c.views.take j) (dM c.nodes).length=x:=⟨_,rfl⟩
     have hS:=q_ (fun hb:R≠0=>(aKu hE av (by rw[G];exact hb)).trans G);have hN:=q_ (fun hb:R=0=>aKt hE av (G.trans hb));have c7:=bt n (bPa av);have A:∀w',Below w.heap.size w w'->Cl 66 #[.agg (vwA n),.slice (some ⟨b,N,none⟩) j k3,.int .i64 ((dM c.nodes).length:Int)] w' fun e I=>e=.returned (.int .i64 (R:Int))/\Below w'.heap.size w' I:=by
      intro w' hb;have h2:=IsT.take (f:=vwC) (size:=5) (fun _=>rfl) (b2.below hb) (show j<=m3 by omega);have:=view_any n c7 (c.views.take j) j k3 (dM c.nodes).length (some ⟨b,N,none⟩) w' (istW h2 hb.size) (by omega);rw[G]at this;exact this
     have ao:dH wr w.heap.size t c.nodes:=by
      obtain⟨O,U,V,A,W,Y⟩:=bk.out;exact⟨O,U,V,A,W,Y.on E⟩
     clear hE av G c7;obtain⟨⟨v6,vh,vl⟩,xb,xv⟩:=n;have y0:wr.cell? ⟨b,N+j*5,none⟩=some (.bool v6):=Z 0 _ rfl;have y1:wr.cell? ⟨b,N+j*5+1,none⟩=some (.int .u64 (vh:Int)):=Z 1 _ rfl;have y2:wr.cell? ⟨b,N+j*5+2,none⟩=some (.int .u64 (vl:Int)):=Z 2 _ rfl;have y3:wr.cell? ⟨b,N+j*5+3,none⟩=some (.int .i64 xb):=Z 3 _ rfl;have y4:wr.cell? ⟨b,N+j*5+4,none⟩=some (.int .i64 xv):=Z 4 _ rfl;unfold vwA at A;dsimp only at A;clear Z;replace ⟨A,E,ao⟩:=q_3 A E ao;go_upto_region 18 with fail
     apply aWa;iterate 3 refine pS ?_
     refine aGg rfl rfl rfl 183 _ (aBv _ rfl) 12 11 rfl rfl (.int .i64 (j:Int)) (fun _=>rfl) (.tmp 57) rfl _ (fun _=>rfl) (fun _=>rfl) rfl (by kernel_rfl) (aEk v6 (vh:Int) (vl:Int) xb xv) ?_;intro I aa ab b4;refine bCa ?_;go_simp;have ad:=q_ (J.trans (ab.mono J.size));have a2:=q_ (aC ab (by have:=aL a0;omega) a0);have ck:=aL aa;have a3:=q_ (E.trans (ab.mono cd));have a7:dH I w.heap.size t c.nodes:=by
      obtain⟨O,U,V,A,W,Y⟩:=ao.out;exact⟨O,U,V,A,W,Y.on ab⟩
     clear y0 y1 y2 y3 y4 J a0 ab E ao;replace ⟨aa,a7⟩:=q_2 aa a7;go_upto_region 19 with fail
     refine rX (Below I.heap.size) ?_;intro w7 L;have ze:=L.size;have zz:=aL a2;have lz:=fun l:bU (Below I.heap.size) w7=>aA (aC (L.trans l.hk) ck aa)
     have lc:=fun l:bU (Below I.heap.size) w7=>aA (aC (L.trans l.hk) zz a2) 2
     have dz:j<=k3:=by omega
     have a5:=q_ (ad.trans (L.mono ad.size));have a4:=q_ (a3.trans (L.mono a3.size));have bm:dH w7 w.heap.size t c.nodes:=by
      obtain⟨O,U,V,A,W,Y⟩:=a7.out;exact⟨O,U,V,A,W,Y.on L⟩
     have qL:=q_ (aC0 c.nodes w.heap.size t w7 bm);clear bm;replace L:=q_ L;refine xS (Below I.heap.size) 0 6 4 ?_;simp only[dA,dC,dD];iterate 6 refine qX ?_
     refine aN ?_;clear lz lc;refine fS 6 rfl fun K hK=>?_;go_simp;go_at_call 67;refine qL.mono ?_;rintro e w8 ⟨v,rfl,ho,am⟩;obtain⟨Al,cl,d8,-,-,-⟩:=bE ho;subst d8;refine hK _ _ (am.mono ze) ?_;clear hK K ho qL;have ef:=am.size;have b3:=q_ (a5.trans (am.mono a5.size));have cr:=q_ (a4.trans (am.mono a4.size));clear a5 a4 am;refine xM 7 rfl ?_;refine fS 8 rfl fun K hK=>?_;go_simp;go_at_call 66;refine(A w8 b3).mono ?_;rintro e w9 ⟨rfl,au⟩;refine hK _ _ (au.mono (by omega)) ?_;clear hK K;refine xM 9 rfl ?_;refine fD ?_;have d1:=q_ (b3.trans (au.mono b3.size));have d2:=q_ (cr.trans (au.mono cr.size));clear b3 cr au A L aa ad a2 a3 a7;by_cases G:R=0
     case neg =>
      have au:=hS G;have ca:((R:Int) != 0)=true:=by rw[dLa];omega
      have bn:=a6.out;rw[au]at bn;subst bn;clear hS hN;go_wp2_with fail
      go_ret2;exact⟨d1,.inl ⟨G,rfl⟩⟩
     case pos =>
      have cq:=q_ (hN G);subst G;clear hS hN;go_wp2_with fail
      exact⟨⟨j+1,by omega,rfl,cq,d2⟩,by show m3 - ((j:Int)+1).toNat<m3 - ((j:Int)).toNat;omega⟩
    .obtain rfl:j=m3:=by omega
     have bn:=a6.out;rw[show kW (fun v l=>zP v l (dM c.nodes).length) c.views c.views.length=0 by rw[bl.out];exact hE]at bn;subst bn;have bi:((j:Int)<(j:Int))=False:=by simp
     have J:=q_ (al.trans (E.mono al.size));have aa:=q_ (aC E c6 bj);have ao:dH wr w.heap.size t c.nodes:=by
      obtain⟨O,U,V,A,W,Y⟩:=bk.out;exact⟨O,U,V,A,W,Y.on E⟩
     have q:=q_ (qC wr ⟨istW (p1.below J) J.size,by rw[hm];exact istW (b1.below J) J.size,by rw[bl.out];exact istW (b2.below J) J.size⟩);clear hE E al bj bk qC a6 bs bt hm bi;replace ao:=q_ ao;go_upto_region 23 with fail
     apply aWa;refine uH rfl 30 (.tmp 1) rfl w.heap.size rfl (#[.slice A1 c.nodes.length k1,.slice A2 c.vips.length k2,.slice A3 c.views.length k3,.int .i64 c.factor,.int .i64 c.domain,.bool c.s0.v6,.int .u64 (c.s0.hi:Int),.int .u64 (c.s0.lo:Int),.bool c.s1.v6,.int .u64 (c.s1.hi:Int),.int .u64 (c.s1.lo:Int)]) _ aa hDa rfl (by kernel_rfl) ?_;refine bRa rfl fun K hK=>?_;go_simp;refine(q).mono ?_;rintro e I ⟨v,rfl,A,ab⟩;clear q;obtain⟨B1,B2,B3,j1,j2,j3,d9,-⟩:=A.open;subst d9;have a7:dH I w.heap.size t c.nodes:=by
      obtain⟨O,U,V,A,W,Y⟩:=ao.out;exact⟨O,U,V,A,W,Y.on ab⟩
     have ad:=J.trans (ab.mono J.size);have b4:=ad.size;have ct:=J.size;obtain⟨w7,cw⟩:=eX (I.alloc (.cells #[.slice B1 c.nodes.length j1,.slice B2 c.vips.length j2,.slice B3 c.views.length j3,.int .i64 c.factor,.int .i64 c.domain,.bool c.s0.v6,.int .u64 (c.s0.hi:Int),.int .u64 (c.s0.lo:Int),.bool c.s1.v6,.int .u64 (c.s1.hi:Int),.int .u64 (c.s1.lo:Int),.pointer (some ⟨t,0,none⟩)] 87));have b5:Below I.heap.size I w7:=cw▸bC;have c9:=bN cw;have bo:=A.on b5;have bm:dH w7 w.heap.size t c.nodes:=by
      obtain⟨O,U,V,A,W,Y⟩:=a7;exact⟨O,U,V,A,W,Y.on b5⟩
     have a5:=q_ (ad.trans (b5.mono b4));have d3:Hid (VAt w7 w.heap.size I.heap.size c):=q_ (⟨⟨B1,B2,B3,j1,j2,j3,t,c9,b4,⟨jC bo.nodes ct,jC bo.vips ct,jC bo.views ct,bo.arr⟩,bm⟩⟩);clear A a7 ad b5 c9 bo bm ab ao aa J;unfold cfC;go_simp;refine hK _ _ ?_;clear hK K;iterate 5 refine pS ?_
     refine bCa ?_;go_simp;clear cw;go_wp2_with fail
     go_ret2;exact⟨a5,I.heap.size,rfl,d3⟩
def kvp (v:Vp):List UInt8:=kV v.a.v6 v.a.hi v.a.lo v.proto v.port
def vF (l:List Vp):Nat->List UInt8->Option Nat
 | 0=>fun _=>none
 | i+1=>match l[i]? with
  | some v=>fun y=>if y=kvp v then some i else vF l i y
  | none=>vF l i
def aF (l:List Vp):Nat->List UInt8->Bool
 | 0=>fun _=>false
 | i+1=>match l[i]? with
  | some v=>fun y=>if y=kA v.a.v6 v.a.hi v.a.lo then true else aF l i y
  | none=>aF l i
theorem vF_some{l:List Vp}{v:Vp}(h:l[i]?=some v):vF l (i+1)=fun y=>if y=kvp v then some i else vF l i y:=by rw[vF,h]
theorem aF_some{l:List Vp}{v:Vp}(h:l[i]?=some v):aF l (i+1)=fun y=>if y=kA v.a.v6 v.a.hi v.a.lo then true else aF l i y:=by rw[aF,h]
theorem vF_lt{l:List Vp}:∀{n:Nat} {y:List UInt8} {i:Nat},vF l n y=some i->i<n/\i<l.length/\∃v,l[i]?=some v/\kvp v=y
 | 0,_,_,h=>by cases h
 | n+1,y,i,h=>by
  rw[vF]at h
  cases e:l[n]? with
  | none =>
   rw[e]at h;obtain⟨E,j,A⟩:=vF_lt h;exact⟨by omega,j,A⟩
  | some v =>
   rw[e]at h;dsimp only at h;split at h
   .rename_i G
    cases h
    exact⟨by omega,(List.getElem?_eq_some_iff.1 e).1,v,e,G.symm⟩
   .obtain⟨E,j,A⟩:=vF_lt h;exact⟨by omega,j,A⟩
def kF (l:List Vw):Nat->Keys
 | 0=>fun _=>none
 | i+1=>match l[i]? with
  | some v=>if dL v.a v.bits=true then upd (kF l i) (rV v.a v.bits.toNat) v.level else kF l i
  | none=>kF l i
theorem kF_some{l:List Vw}{v:Vw}(h:l[i]?=some v):kF l (i+1)=if dL v.a v.bits=true then upd (kF l i) (rV v.a v.bits.toNat) v.level else kF l i:=by rw[kF,h]
structure yB (w:World) (lo v:Nat) (c:Cfg):Prop where
 mk ::
 h:∃g mv ma lv N n k1 k2,w.heap[v]?=some (.cells #[.pointer (some ⟨g,0,none⟩),.map (some mv),.map (some ma),lv] 196 (0,0))/\lo<=v/\lo<=g/\lo<=mv/\lo<=ma /\
  fJ w g N (kF c.views c.views.length) n/\mE w mv k1 (vF c.vips c.vips.length)/\nQ w ma k2 (aF c.vips c.vips.length)/\w.ownsRow lo 52 7 lv c.vips.length (c.vips.map vpC).flatten
theorem mE.same{w:World}(h:mE w B n F)(e:w'.heap[B]?=w.heap[B]?):mE w' B n F:=by
 obtain⟨D,⟨j,k,A,E⟩,G⟩:=h;exact⟨D,⟨j,k,e.trans A,E⟩,G⟩
theorem nQ.same{w:World}{G:List UInt8->Bool}(h:nQ w B n G)(e:w'.heap[B]?=w.heap[B]?):nQ w' B n G:=by
 obtain⟨D,⟨j,k,A,E⟩,I⟩:=h;exact⟨D,⟨j,k,e.trans A,E⟩,I⟩
theorem mE.lt{w:World}(h:mE w B n F):B<w.heap.size:=by
 obtain⟨A,k,j⟩:=h.blk;exact(Array.getElem?_eq_some_iff.1 j).1
theorem nQ.lt{w:World}{G:List UInt8->Bool}(h:nQ w B n G):B<w.heap.size:=by
 obtain⟨A,k,j⟩:=h.blk;exact(Array.getElem?_eq_some_iff.1 j).1
theorem yB.kp{w:World}{A v:Nat}{c:Cfg}(h:yB w A v c)(j:Kp A w.heap.size w w'):yB w' A v c:=by
 obtain⟨g,G,I,X,N,n,k1,k2,J,L,Y,O,U,E,V,W,Z⟩:=h.h;exact⟨⟨g,G,I,X,N,n,k1,k2,(j v L (aL J)).trans J,L,Y,O,U,E.on (fun k ⟨p,a,hp,e⟩=>j k (by have:=E.ge p a hp;omega) (by have:=(E.shape p a hp).lt;omega)),V.same (j G O V.lt),W.same (j I U W.lt),yU Z j⟩⟩
def zC (w:World) (lo hi v:Nat) (c:Cfg):Prop:=∃w0,w0.heap.size=hi/\yB w0 lo v c/\Kp lo hi w0 w
theorem zC.at{w:World}{A v:Nat}{c:Cfg}(h:zC w j A v c):yB w j v c:=by
 obtain⟨w0,E,G,I⟩:=h;subst E;exact G.kp I
theorem zC.keep{w:World}{A v:Nat}{c:Cfg}(h:zC w j A v c)(E:Kp j A w w'):zC w' j A v c:=by
 obtain⟨w0,G,I,J⟩:=h;exact⟨w0,G,I,J.trans E⟩
structure GoodVp (v:Vp):Prop where
 h:v.a.hi<18446744073709551616
 l:v.a.lo<18446744073709551616
 p1:-9223372036854775808<=v.proto
 p2:v.proto<=9223372036854775807
 q1:-9223372036854775808<=v.port
 q2:v.port<=9223372036854775807
theorem aQ6(v:Vp):(vpC v).length=7:=rfl
theorem vwC_len(v:Vw):(vwC v).length=5:=rfl
abbrev fK (v:Vp):Array Value:=#[.bool v.a.v6,.int .u64 (v.a.hi:Int),.int .u64 (v.a.lo:Int),.int .i64 v.proto,.int .i64 v.port,.int .i64 v.copies,.bool v.nat]
abbrev aGk (v:Vw):Array Value:=#[.bool v.a.v6,.int .u64 (v.a.hi:Int),.int .u64 (v.a.lo:Int),.int .i64 v.bits,.int .i64 v.level]
theorem nX(v:Vp):(fK v).all (·.oneCell')=true:=all_oneCell_toArray (by
 intro u j;simp only[bXa,bVa,dTa]at j;rcases j with rfl|rfl|rfl|rfl|rfl|rfl|rfl<;>rfl)
theorem aN9(v:Vw):(aGk v).all (·.oneCell')=true:=all_oneCell_toArray (by
 intro u j;simp only[bXa,bVa,dTa]at j;rcases j with rfl|rfl|rfl|rfl|rfl<;>rfl)
theorem mJ:(prog.info? 52).map (·.size)=some 7:=by kernel_rfl
theorem size_vw:(prog.info? 183).map (·.size)=some 5:=by kernel_rfl
theorem kS:(prog.info? 27).map (·.size)=some 3:=by kernel_rfl
theorem size_pf:(prog.info? 181).map (·.size)=some 4:=by kernel_rfl
theorem aH2(o:Oper)(h:o.op=.alloc 183)(ρ:Operand->Value)(w:World):(execOp ρ o).run prog w=.ok (.value (.pointer (some ⟨w.heap.size,0,none⟩))) (w.alloc (.cells #[.bool false,.int .u64 0,.int .u64 0,.int .i64 0,.int .i64 0] 183)):=by
 obtain⟨d,j,t,A,E,g⟩:=o;dsimp only at h;subst h
 kernel_rfl
theorem aJ1{N:Oper}(E:Bool)(G I J L:Int)(j:Operand->Value)(x y u:Operand)(O:N.op=.build 198 #[(0,x),(1,y),(2,u)])(U:j x=.agg #[.bool E,.int .u64 G,.int .u64 I])(V:j y=.int .i64 J)(W:j u=.int .i64 L)(w:World):(execOp j N).run prog w=.ok (.value (.agg #[.bool E,.int .u64 G,.int .u64 I,.int .i64 J,.int .i64 L])) w:=by
 have h:(Instr.build 198 #[(0,j x),(1,j y),(2,j u)]).run prog w=.ok (.agg #[.bool E,.int .u64 G,.int .u64 I,.int .i64 J,.int .i64 L]) w:=by
  rw[U,V,W]
  kernel_rfl
 have X:∀A,A=#[(0,j x),(1,j y),(2,j u)]->Sem.run prog (do let v <- Instr.build 198 A;pure (Next.value v)) w=.ok (.value (.agg #[.bool E,.int .u64 G,.int .u64 I,.int .i64 J,.int .i64 L])) w:=by
  rintro _ rfl;simp only[fJa,fHa,h,dNa]
 unfold execOp;simp only[O];exact X _ (by simp)
theorem info_vp2:(prog.info? 52).map (fun i=>(i.zero,i.size,i.bytes))=some (some (.agg #[.bool false,.int .u64 0,.int .u64 0,.int .i64 0,.int .i64 0,.int .i64 0,.bool false]),7,56):=by kernel_rfl
theorem vps_one(l:List Vp):∀u∈(l.map vpC).flatten,u.oneCell'=true:=by
 intro u j;obtain⟨r,A,j⟩:=List.mem_flatten.1 j;obtain⟨v,_,rfl⟩:=List.mem_map.1 A;unfold vpC at j;simp only[bXa,bVa,dTa]at j;rcases j with rfl|rfl|rfl|rfl|rfl|rfl|rfl<;>rfl
theorem aQi(h:gN (N0 g) k):k=g:=by
 obtain⟨p,a,j,e⟩:=h;unfold N0 at j;split at j
 .cases j;exact e.symm
 .split at j
  .cases j;exact e.symm
  .cases j
theorem aKv{w:World}{A size:Nat}{xs:List Value}{P:Nat->Prop}(h:w.ownsRow A e size v n xs)(I:aV w.heap.size P w w')(J:∀b cs,v.ownBlock=some b->w.heap[b]?=some (.cells cs e (0,0))->¬ P b):w'.ownsRow A e size v n xs:=by
 refine⟨h.1,h.2.imp id ?_⟩;rintro⟨g,cap,E,G,L,j,N⟩;exact⟨g,cap,E,G,L,(I.block g (aL j) (J g E (by rw[G];rfl) j)).trans j,N⟩
def VipEnd (c:Cfg) (w:World) (e:Ending) (w':World):Prop:=(∃v,e=.returned (.pointer (some ⟨v,0,none⟩))/\yB w' w.heap.size v c)/\Below w.heap.size w w'
theorem aHr(c:Cfg)(lo x:Nat)(w:World)(hV:VAt w lo x c)(b7:∀v∈c.vips,GoodVp v)(b8:∀v∈c.views,v.a.ok)(d1:c.vips.length<=1073741824)(d2:c.views.length<=1073741824) :
 Cl 27 #[.pointer (some ⟨x,0,none⟩)] w fun e w'=>VipEnd c w e w':=by
 obtain⟨A1,A2,A3,k1,k2,k3,t,E,hx,cw,-⟩:=hV.h;have db:=cw.vips;have dc:=cw.views;obtain⟨em,en,d8,-,-,dt⟩:=bE db;obtain⟨eo,ep,d9,-,-,du⟩:=bE dc;have he2':(Value.slice A2 c.vips.length k2)=.slice em c.vips.length en:=d8;have he3':(Value.slice A3 c.views.length k3)=.slice eo c.views.length ep:=d9;injection he2' with e1 _ e2
 injection he3' with e3 _ e4
 subst e1 e2 e3 e4;have t2:IsT vpC 7 w w.heap.size A2 c.vips.length c.vips:=⟨rfl,dt⟩
 have t3:IsT vwC 5 w w.heap.size A3 c.views.length c.views:=⟨rfl,du⟩
 have ey:=aL E;obtain⟨X,a5⟩:∃n,c.vips.length=n:=⟨_,rfl⟩
 obtain⟨n3,bw⟩:∃n,c.views.length=n:=⟨_,rfl⟩
 rw[a5]at E t2 d1;rw[bw]at E t3 d2;obtain⟨z,hz⟩:=eX w.heap.size;have cz:Hid (∀w',Below z w w'->w'.cell? ⟨x,1,none⟩=some (.slice A2 X k2)/\w'.cell? ⟨x,2,none⟩=some (.slice A3 n3 k3)):=q_ (fun w' aj=>⟨(aj.cell (p:=⟨x,1,none⟩) (by show x<z;omega)).trans (aA E 1),(aj.cell (p:=⟨x,2,none⟩) (by show x<z;omega)).trans (aA E 2)⟩);have bp:∀(i:Nat),i<X->∃G I v,A2=some ⟨G,I,none⟩/\c.vips[i]?=some v/\∀w',Below z w w'->w'.rangeAt G (I+i*7) (vpC v):=fun i hi=>by
  obtain⟨G,I,v,U,h2,h3,h4⟩:=t2.at aQ6 (by decide) hi;exact⟨G,I,v,U,h3,fun w' aj j u hu=>(aj.cell (p:=⟨G,I+i*7+j,none⟩) (by show G<z;omega)).trans (h4 j u hu)⟩
 have cg:∀(i:Nat),i<n3->∃G I v,A3=some ⟨G,I,none⟩/\c.views[i]?=some v/\∀w',Below z w w'->w'.rangeAt G (I+i*5) (vwC v):=fun i hi=>by
  obtain⟨G,I,v,U,h2,h3,h4⟩:=t3.at vwC_len (by decide) hi;exact⟨G,I,v,U,h3,fun w' aj j u hu=>(aj.cell (p:=⟨G,I+i*5+j,none⟩) (by show G<z;omega)).trans (h4 j u hu)⟩
 have bq:∀w',Below z w w'->IsV w' z 7 A2 X (c.vips.map vpC).flatten:=fun w' aj=>by
  have:=t2.2.below (by rw[hz];exact aj);rw[hz]at this;exact this
 obtain⟨w1,b4⟩:=eX (w.alloc (.cells #[.pointer none,.pointer none,.int .i64 0,.bool false,.pointer none,.pointer none,.int .i64 0,.bool false,.int .i64 0] 192));have cc:Below w.heap.size w w1:=b4▸bC;have dd:=bN b4;have de:w1.heap.size=w.heap.size+1:=by rw[<-b4];simp
 obtain⟨w2,b5⟩:=eX (w1.alloc (.map #[] 0));have ch:Below w1.heap.size w1 w2:=b5▸bC;have ci:mE w2 w1.heap.size 0 (vF c.vips 0):=b5▸mE.made w1;have df:w2.heap.size=w1.heap.size+1:=by rw[<-b5];simp
 obtain⟨w3,b6⟩:=eX (w2.alloc (.map #[] 0));have br:Below w2.heap.size w2 w3:=b6▸bC;have cj:Hid (nQ w3 w2.heap.size 0 (aF c.vips 0)):=q_ (b6▸nQ.made w2);have ck:=q_ (ci.on br);have cl:Hid (fJ w3 w.heap.size (N0 w.heap.size) (kF c.views 0) 0):=q_ (((trie_new w1 _ dd).below ch).below br);have ea:w3.heap.size=w2.heap.size+1:=by rw[<-b6];simp
 rw[hz]at de;rw[de]at df ci ck;rw[df]at ea cj;have a4:Below z w w3:=by
  have U:Below z w w1:=by rw[<-hz];exact cc
  exact((tw U ch)).trans (br.mono (by omega))
 rw[hz]at cl;obtain⟨i3,bs,bt,bu,bv⟩:=gZa info_vp2;have dg:=cz w3 a4;have cm:=dg.1;have ez:w3.heap.size=z+3:=by omega
 clear hV cw db dc dt du E t2 t3 cc dd ch ci br dg;replace ⟨bp,cg,bq,a4,bs,bt,bu,bv,b7,b8,a5,bw⟩:=q_12 bp cg bq a4 bs bt bu bv b7 b8 a5 bw;go_enter func27,ntmps27;go_upto_region 3 with fail
 apply aWa;iterate 9 refine pS ?_
 clear b4 b5 b6 cm;refine uU _ rfl (.const (.slice none 0 0)) (.tmp 18) 23 rfl z 52 i3 _ 7 56 underlying23 bs bt bu bv rfl (by decide) (.slice none 0 0) 0 [] rfl (cKa _ _ _ _) z A2 X k2 _ rfl (bq w3 a4) (vps_one _) (by unfold maxLen;omega) (by omega) (by omega) fun lv w4 q1 q2 q3=>?_;rw[dWa,cVa]at q1;obtain⟨B4,j4,er,-,-,-⟩:=bE q1;subst er;have dh:Below z w w4:=a4.trans (bV q2 (by omega) (fun k A=>by cases A));have bx:Below w3.heap.size w3 w4:=⟨q2.os,q2.tape,q2.output,q2.size,fun k A=>q2.block k A (by intro e;cases e)⟩
 have e0:=q2.size;obtain⟨O,c1⟩:∃O,w4.alloc (.cells #[.pointer (some ⟨z,0,none⟩),.map (some (z+1)),.map (some (z+2)),.slice B4 X j4] 196)=O:=⟨_,rfl⟩
 have ax:Below w4.heap.size w4 O:=c1▸bC;have a6:Hid (O.heap[w4.heap.size]?=some (.cells #[.pointer (some ⟨z,0,none⟩),.map (some (z+1)),.map (some (z+2)),.slice B4 X j4] 196 (0,0))):=q_ (c1▸aJ _ _ _);have di:=q_ ((cl.below bx).below ax);have cn:=q_ ((ck.on bx).on ax);have co:=q_ ((cj.on bx).on ax);have dj:=q_ (mU q1 ax);have cp:=q_ ((tw dh ax));have e5:=ax.size;obtain⟨vt,et⟩:∃v,w4.heap.size=v:=⟨_,rfl⟩
 rw[et]at a6;have e6:=aL a6;clear cl ck cj a4 bs bt bu bv q1 q2 q3 bx ax dh bq;have dk:=q_ cn.blk;have dl:=q_ co.blk;have cm:=(cz O cp).1;iterate 3 refine pS ?_
 refine bCa ?_;go_simp;clear c1;go_wp2_with fail
 clear cm;go_loopw [4,5,28] (fun _ _ iv wr=>∃i:Nat,i<=X/\iv=.int .i64 (i:Int)/\mE wr (z+1) i (vF c.vips i)/\nQ wr (z+2) i (aF c.vips i)/\aV O.heap.size (fun k=>k=z+1\/k=z+2) O wr) (fun _ _ iv _=>X - (intOf iv).toNat)
 case atStart=>exact⟨0,by omega,rfl,cn,co,gQ _ _ _⟩
 case round =>
  obtain⟨i,hi,rfl,af,ag,A⟩:=hrel;clear cn co;have eb:=A.size;have ay:Below z w wr:=cp.trans ⟨A.os,A.tape,A.output,A.size,fun k ew=>A.block k (by omega) (by omega)⟩;by_cases c7:i<X
  .have t1:(i:Int)<(X:Int):=by omega
   obtain⟨G,I,v,rfl,aa,bl⟩:=bp i c7;have am:=q_ (b7 v (bPa aa));have be:=q_ (bl wr ay);obtain⟨w6,c2⟩:=eX (wr.alloc (.cells #[.bool false,.int .u64 0,.int .u64 0,.int .i64 0,.int .i64 0,.int .i64 0,.bool false] 52));have bf:Hid (Below wr.heap.size wr w6):=q_ (c2▸bC);have bz:Hid (w6.heap[wr.heap.size]?=some (.cells #[.bool false,.int .u64 0,.int .u64 0,.int .i64 0,.int .i64 0,.int .i64 0,.bool false] 52 (0,0))):=q_ (c2▸aJ _ _ _);obtain⟨y,hy⟩:=eX wr.heap.size;rw[hy]at bz;have ed:=aL bz;clear bl;replace ⟨af,ag,A,aa,ay⟩:=q_5 af ag A aa ay;go_upto_region 6 with fail
   apply aWa;iterate 2 refine pS ?_
   refine wpList_load_mid rfl 52 (.tmp 31) rfl G (I+i*7) rfl (vpC v) _ be fWa rfl mJ ?_;iterate 2 refine pS ?_
   clear c2;refine bQ rfl 52 (.tmp 5) (.tmp 32) rfl y 0 rfl (fK v) rfl bz (by simp) mJ (nX v) fun V W g7=>?_;rw[aQ _ _ (by rfl)]at W;refine bCa ?_;go_simp;have dm:=q_ ((af.on bf).kept g7 (by intro e;have:=bFa e;omega));have dn:=q_ ((ag.on bf).kept g7 (by intro e;have:=bFa e;omega));have az:Hid (aV O.heap.size (fun k=>k=z+1\/k=z+2) O V):=q_ (eQ _ _ _ _ _ A (eQ _ _ _ _ _ (bT bf (by omega)) ⟨g7.os,g7.tape,g7.output,g7.size,fun k A _=>g7.block k (by have:=bf.size;omega) (by intro e;have:=bFa e;omega)⟩));have bg:=(az.block vt (by omega) (by omega)).trans a6;have ee:=g7.size;have e7:=aL W;have lv:=fun l:Later V=>aA (aG l.hb bg)
   have ly:=fun l:Later V=>aA (aG l.hb W)
   have la:Hid (∀l:Later V,l.w.rangeAt y 0 [.bool v.a.v6,.int .u64 (v.a.hi:Int),.int .u64 (v.a.lo:Int)]):=q_ (fun l=>dZ (aG l.hb W) 0 3 _ rfl);clear bf bz af ag A g7 bg be;replace W:=q_ W;go_upto_region 7 with fail
   refine rL ?_;refine eS 0 12 1 ?_;simp only[dA,dC,dD];iterate 5 refine qE ?_
   refine kQ rfl 27 (.tmp 37) rfl y 0 rfl [.bool v.a.v6,.int .u64 (v.a.hi:Int),.int .u64 (v.a.lo:Int)] _ la dSa rfl kS ?_;iterate 4 refine qE ?_
   refine nY (.agg #[.bool v.a.v6,.int .u64 (v.a.hi:Int),.int .u64 (v.a.lo:Int),.int .i64 v.proto,.int .i64 v.port]) rfl (fun l=>aJ1 _ _ _ _ _ _ (.tmp 38) (.tmp 40) (.tmp 42) rfl rfl rfl rfl l.w) ?_;refine qE ?_;refine aT ?_;refine eE fun Z=>?_;refine tS 12 rfl fun K hK=>?_;rw[bBa (by rfl)];refine wp_putV (.tmp 36) (.tmp 43) (.tmp 44) rfl (z+1) i (vF c.vips i) (key_is v.a.v6 v.a.hi v.a.lo v.proto v.port am.h am.l am.p1 am.p2 am.q1 am.q2) i (by omega) (by omega) rfl rfl rfl (dm.on Z.hb) fun L c9 g8 vv=>?_;refine hK _ _ ?_;clear hK K lv ly la;have e8:=Z.hb.size;have dp:=q_ ((dn.on Z.hb).kept g8 (by intro e;have:=bFa e;omega));have a7:Hid (aV O.heap.size (fun k=>k=z+1\/k=z+2) O L):=q_ (eQ _ _ _ _ _ az (eQ _ _ _ _ _ (bT Z.hb (by omega)) ⟨g8.os,g8.tape,g8.output,g8.size,fun k A hn=>g8.block k (by omega) (by intro e;exact hn (.inl (bFa e)))⟩));have a8:=q_ ((g8.block y (by omega) (by intro e;have:=bFa e;omega)).trans (aG Z.hb W));have bh:=(a7.block vt (by omega) (by omega)).trans a6;have e9:=g8.size;have hM8':Hid (mE L (z+1) (i+1) (vF c.vips (i+1))):=q_ (by rw[vF_some aa.out];exact c9);have lv:=fun l:Later L=>aA (aG l.hb bh)
   have la:Hid (∀l:Later L,l.w.rangeAt y 0 [.bool v.a.v6,.int .u64 (v.a.hi:Int),.int .u64 (v.a.lo:Int)]):=q_ (fun l=>dZ (aG l.hb a8) 0 3 _ rfl);clear c9 g8 W dm dn az bh;refine tD ?_;go_upto_region 8 with fail
   refine rL ?_;refine eS 0 6 1 ?_;simp only[dA,dC,dD];iterate 5 refine qE ?_
   refine kQ rfl 27 (.tmp 49) rfl y 0 rfl [.bool v.a.v6,.int .u64 (v.a.hi:Int),.int .u64 (v.a.lo:Int)] _ la dSa rfl kS ?_;refine aT ?_;refine eE fun Z=>?_;refine tS 6 rfl fun K hK=>?_;rw[bBa (by rfl)];refine wp_putA (.tmp 48) (.tmp 50) (.const (.bool true)) rfl (z+2) i (aF c.vips i) (key_adr v.a.v6 v.a.hi v.a.lo am.h am.l) true (by omega) rfl rfl rfl (dp.on Z.hb) fun w9 da g9 vv=>?_;refine hK _ _ ?_;clear hK K lv la;have fa:=Z.hb.size;have ef:=q_ ((hM8'.on Z.hb).kept g9 (by intro e;have:=bFa e;omega));have bi:Hid (aV O.heap.size (fun k=>k=z+1\/k=z+2) O w9):=q_ (eQ _ _ _ _ _ a7 (eQ _ _ _ _ _ (bT Z.hb (by omega)) ⟨g9.os,g9.tape,g9.output,g9.size,fun k A hn=>g9.block k (by omega) (by intro e;exact hn (.inr (bFa e)))⟩));have hM9':Hid (nQ w9 (z+2) (i+1) (aF c.vips (i+1))):=q_ (by rw[aF_some aa.out];exact da);have eg:=wJ i;clear da g9 dp a7 a8 hM8';refine tD ?_;go_wp2_with fail
   exact⟨⟨i+1,by omega,by first|rfl|go_num,ef,hM9',bi⟩,by simp only[intOf];omega⟩
  .obtain rfl:i=X:=by omega
   obtain⟨J,rfl⟩:∃J,J=wr:=⟨_,rfl⟩
   have bj:fJ J z (N0 z) (kF c.views 0) 0:=di.on fun k d5=>by
    obtain rfl:=aQi d5;exact A.block _ (by omega) (by omega)
   have cr:∃cs,J.heap[z]?=some (.cells cs 192 (0,0))/\True:=by
    obtain⟨cs,U,-⟩:=bj.trie;exact⟨cs,U,trivial⟩
   have ct:=q_ ((A.block vt (by omega) (by omega)).trans a6);have b0:=aKv dj A (fun b cs _ E hP=>by
    rcases hP with rfl|rfl
    .obtain⟨es,kk,U⟩:=dk.out;rw[U]at E;cases E
    .obtain⟨es,kk,U⟩:=dl.out;rw[U]at E;cases E)
   have eh:=(cz J ay).2;have tx:¬ (i:Int)<(i:Int):=by omega
   clear di dj cp a6 A bp dk dl;replace ⟨bj,b0,ay,af,ag,cr⟩:=q_6 bj b0 ay af ag cr;go_upto_region 10 with fail
   go_wp2_with fail
   clear eh;go_loopw [7,58] (fun _ iv wr=>∃(k:Nat) (N:kL) (m:Int),k<=n3/\iv=.int .i64 (k:Int)/\fJ wr z N (kF c.views k) m/\0<=m/\m<=(k:Int)/\(∀b,gN N b->b=z\/J.heap.size<=b)/\aV J.heap.size (fun k=>k=z) J wr) (fun _ iv _=>n3 - (intOf iv).toNat)
   case atStart=>exact⟨0,_,0,by omega,rfl,bj,by omega,by omega,fun b E=>.inl (aQi E),gQ _ _ _⟩
   case round =>
    obtain⟨k,N,m,fg,rfl,hT,dy,fh,hN,A⟩:=hrel;clear bj;have eb:=A.size;have a0:Below z w wr:=ay.trans ⟨A.os,A.tape,A.output,A.size,fun j ex=>A.block j (by omega) (by omega)⟩;by_cases c7:k<n3
    .have t1:(k:Int)<(n3:Int):=by omega
     obtain⟨G,I,v,rfl,aa,bl⟩:=cg k c7;have dq:=q_ (b8 v (bPa aa));have be:=q_ (bl wr a0);clear bl;replace ⟨hT,hN,A,aa,a0⟩:=q_5 hT hN A aa a0;go_upto_region 12 with fail
     apply aWa;refine pS ?_;refine wpList_load_mid rfl 183 (.tmp 60) rfl G (I+k*5) rfl (vwC v) _ be underlying183 rfl size_vw ?_;refine gF rfl rfl 183 _ (aH2 _ rfl) 7 rfl (.tmp 61) rfl _ (fun _=>rfl) (fun _=>rfl) rfl (by kernel_rfl) (aN9 v) ?_;intro V W c6 ee;refine bCa ?_;go_simp;obtain⟨y,hy⟩:=eX wr.heap.size;rw[hy]at W;have hg7':Hid (V.heap[y]?=some (.cells (aGk v) 183 (0,0))):=q_ (W);have dr:=q_ (hT.below c6);have az:Hid (aV J.heap.size (fun k=>k=z) J V):=q_ (eQ _ _ _ _ _ A (bT c6 (by omega)));have ed:=aL hg7';have b1:¬ gN N y:=fun⟨p,a,hp,e⟩=>by
      have:=(hT.shape p a hp).lt;omega
     have cu:¬ gN N vt:=fun h=>by
      rcases hN vt h with h|h<;>omega
     have bg:=q_ ((az.block vt (by omega) (by omega)).trans ct);clear W c6 hT A be;replace ⟨b1,cu⟩:=q_2 b1 cu;go_upto_region 13 with fail
     refine rX (aV V.heap.size (gN N)) ?_;intro L bb;have cv:=q_ (dr.below bb);have fc:=bb.size;have a7:Hid (aV J.heap.size (fun k=>k=z) J L):=q_ (eQ _ _ _ _ _ az (bT bb (by omega)));have bh:=aG bb bg;have a8:=aG bb hg7';have lv:=fun l:bU (aV V.heap.size (gN N)) L=>aA ((l.hk.block vt (by omega) cu).trans bh)
     have ly:=fun l:bU (aV V.heap.size (gN N)) L=>aA ((l.hk.block y (by omega) b1).trans a8)
     have la:Hid (∀l:bU (aV V.heap.size (gN N)) L,l.w.rangeAt y 0 [.bool v.a.v6,.int .u64 (v.a.hi:Int),.int .u64 (v.a.lo:Int),.int .i64 v.bits]):=q_ (fun l=>dZ ((l.hk.block y (by omega) b1).trans a8) 0 4 _ rfl);clear dr az bg hg7' bb bh a8;refine xS (aV V.heap.size (gN N)) 0 8 1 ?_;simp only[dA,dC,dD];iterate 5 refine qX ?_
     refine dU rfl 181 (.tmp 66) rfl y 0 rfl [.bool v.a.v6,.int .u64 (v.a.hi:Int),.int .u64 (v.a.lo:Int),.int .i64 v.bits] _ la underlying181 rfl size_pf ?_;iterate 2 refine qX ?_
     refine aN ?_;clear lv ly la;have b2:Cl 69 #[.pointer (some ⟨z,0,none⟩),.agg #[.bool v.a.v6,.int .u64 (v.a.hi:Int),.int .u64 (v.a.lo:Int),.int .i64 v.bits],.int .i64 v.level] L fun e w'=>(∃u,e=.returned u)/\∃N' m',fJ w' z N' (kF c.views (k+1)) m'/\0<=m'/\m'<=((k+1:Nat):Int)/\(∀b,gN N' b->gN N b\/L.heap.size<=b)/\aV L.heap.size (gN N) L w':=by
      rw[kF_some aa.out];by_cases hr:dL v.a v.bits=true
      .rw[bBa hr];have h0:0<=v.bits:=by
        rcases Int.lt_or_le v.bits 0 with h|h
        .rw[aKs _ _ h]at hr;cases hr
        .exact h
       obtain⟨b,E⟩:∃b:Nat,v.bits=(b:Int):=⟨v.bits.toNat,by omega⟩
       have q:=put_yes z v.a dq b v.level (by rw[<-E];exact hr) L N _ m dy (by omega) cv;rw[<-E]at q;refine q.mono ?_;rintro e w9 ⟨rfl,N',g1,g2,g3⟩;rw[show v.bits.toNat=b by omega];exact⟨⟨_,rfl⟩,N',_,g1,by split<;>omega,by split<;>omega,g3,g2⟩
      .rw[bAa hr];refine(aLu z v.a dq v.bits v.level (by simpa using hr) L).mono ?_;rintro e w9 ⟨rfl,g1⟩;exact⟨⟨_,rfl⟩,N,m,cv.below g1,dy,by omega,fun b E=>.inl E,bT g1 (aZa _)⟩
     clear cv;replace b2:=q_ b2;refine fS 8 rfl fun K hK=>?_;go_simp;go_at_call 69;refine b2.mono ?_;rintro e w9 ⟨⟨u,rfl⟩,N',m',g1,g2,g3,g4,Y⟩;refine hK _ _ ⟨Y.os,Y.tape,Y.output,Y.size,fun j hj hn=>Y.block j (by omega) hn⟩ ?_;clear hK K b2;have hN':∀b,gN N' b->b=z\/J.heap.size<=b:=fun b E=>by
      rcases g4 b E with h|h
      .exact hN b h
      .exact .inr (by omega)
     have bi:aV J.heap.size (fun k=>k=z) J w9:=eQ _ _ _ _ _ a7 ⟨Y.os,Y.tape,Y.output,Y.size,fun j hj hn=>Y.block j (by omega) (fun h=>by
      rcases hN j h with h|h
      .exact hn h
      .omega)⟩
     have eg:=wJ k;clear g4 Y a7 hN;replace ⟨g1,hN',bi⟩:=q_3 g1 hN' bi;refine fD ?_;go_wp2_with fail
     exact⟨⟨k+1,N',m',by omega,by first|rfl|go_num,g1,g2,g3,hN',bi⟩,by simp only[intOf];omega⟩
    .obtain rfl:k=n3:=by omega
     have ty:¬ (k:Int)<(k:Int):=by omega
     have ei:=af.same (A.block (z+1) (by have:=af.lt;omega) (by omega));have ej:=ag.same (A.block (z+2) (by have:=ag.lt;omega) (by omega));have ek:=(A.block vt (by omega) (by omega)).trans ct;have el:=aKv b0 A (fun b cs cc E hP=>by
      subst hP;obtain⟨fi,U,-⟩:=cr.out;rw[U]at E;injection E with E
      injection E with _ h2 _
      exact absurd h2 (by decide))
     have ds:Hid (yB wr z vt c):=q_ (⟨⟨z,z+1,z+2,_,N,m,_,_,ek,by omega,aZa _,by omega,by omega,by rw[bw.out];exact hT,by rw[a5.out];exact ei,by rw[a5.out];exact ej,by rw[a5.out];exact el⟩⟩);clear hT hN A af ag ct b0;rw[<-hz]at ds a0;replace a0:=q_ a0;go_wp2_with fail
     go_ret;exact⟨⟨_,rfl,ds⟩,a0⟩
def vpZ:Vp:=⟨zA,0,0,0,false⟩
structure WfTu (t:Tu):Prop where
 g:gY t
 p1:-9223372036854775808<=t.pr
 p2:t.pr<=9223372036854775807
 q1:-9223372036854775808<=t.dp
 q2:t.dp<=9223372036854775807
def yQ (c:Cfg) (t:Tu):Option Nat:=match vF c.vips c.vips.length (kV t.dv t.dh t.dl t.pr t.dp)with
 | some i=>some i
 | none=>vF c.vips c.vips.length (kV t.dv t.dh t.dl t.pr 0)
def nA (c:Cfg) (t:Tu):Option Vp:=(yQ c t).bind fun i=>c.vips[i]?
theorem aT4{c:Cfg}{t:Tu}(h:yQ c t=some i):i<c.vips.length:=by
 unfold yQ at h;split at h
 .rename_i j A
  cases h
  exact(vF_lt A).2.1
 .exact(vF_lt h).2.1
theorem aK7{w:World}{v A:Nat}{E:Value}(h:w.heap[v]?=some (.cells #[.pointer (some ⟨g,0,none⟩),.map (some j),.map (some A),E] 196 (0,0))):Cl 110 #[.pointer (some ⟨v,0,none⟩)] w fun e w'=>e=.returned (.bool false)/\w'=w:=by
 have G:=aA h 1;have q:=run_eql_map_nil (P:=prog) w _ _ _ (some j) underlying193;clear h;go_enter func110,ntmps110;go_wp2_with fail
 go_ret;exact⟨rfl,rfl⟩
theorem run_look{w:World}(h:mE w B n F){A:Oper}(j:Operand->Value)(m x:Operand)(G:A.op=.lookup 193 m x true)(I:j m=.map (some B)){E:Value}(J:j x=E){k:List UInt8}(L:keyOf prog 198 E=some (.string k)):(execOp j A).run prog w=.ok (.value (.tuple #[.int .i64 (((F k).getD 0:Nat):Int),.bool (F k).isSome])) w:=by
 unfold execOp;simp[G,I,J,h.look L,Result.andThen]
theorem idx_two(a:Int)(i:Nat)(j:i<2)(w:World):(Instr.index 239 (.agg #[.int .i64 a,.int .i64 0]) (.int .i64 (i:Int))).run prog w=.ok (.int .i64 (if i=0 then a else 0)) w:=by
 rcases(by omega:i=0\/i=1)with rfl|rfl<;>kernel_rfl
theorem aKf(c:Cfg)(lo v:Nat)(w:World)(hV:yB w lo v c)(t:Tu)(U:WfTu t) :
 Cl 71 #[.pointer (some ⟨v,0,none⟩),.agg (eB t)] w fun e w'=>e=.returned (.tuple #[.agg (fK ((nA c t).getD vpZ)),.bool (nA c t).isSome])/\Below w.heap.size w w':=by
 obtain⟨g,mv,ma,lv,N,n,k1,k2,h1,h2,h3,h4,h5,h6,h7,h8,h9⟩:=hV.h;obtain⟨A,cl,rfl,-,-,hi⟩:=bE h9;have tt:IsT vpC 7 w w.heap.size A c.vips.length c.vips:=⟨rfl,hi⟩
 have al:Hid (yQ c t=match vF c.vips c.vips.length (kV t.dv t.dh t.dl t.pr t.dp)with|some i=>some i|none=>vF c.vips c.vips.length (kV t.dv t.dh t.dl t.pr 0)):=q_ (rfl);have am:Hid (nA c t=(yQ c t).bind fun i=>c.vips[i]?):=q_ (rfl);have bf:=q_ (fun i (h:yQ c t=some i)=>aT4 h);have b2:Hid (∀E:Int,-9223372036854775808<=E->E<=9223372036854775807->keyOf prog 198 (.agg #[.bool t.dv,.int .u64 (t.dh:Int),.int .u64 (t.dl:Int),.int .i64 t.pr,.int .i64 E])=some (.string (kV t.dv t.dh t.dl t.pr E))):=q_ (fun E a b=>key_is t.dv t.dh t.dl t.pr E U.g.c U.g.d U.p1 U.p2 a b);have cr:=U.q1;have ct:=U.q2;obtain⟨R,hR⟩:∃R,nA c t=R:=⟨_,rfl⟩
 rw[hR]at am ⊢;obtain⟨I,hI⟩:∃I,yQ c t=I:=⟨_,rfl⟩
 rw[hI]at al am bf;obtain⟨F,hF⟩:=eX (vF c.vips c.vips.length);rw[hF]at al h7;obtain⟨w1,ap⟩:=eX (w.alloc (.cells (eB t) 46));have af:Below w.heap.size w w1:=ap▸bC;have bg:=bN ap;have bh:w1.heap.size=w.heap.size+1:=by rw[<-ap];simp
 obtain⟨w2,ba⟩:=eX (w1.alloc (.cells #[.bool false,.int .u64 0,.int .u64 0,.int .i64 0,.int .i64 0,.int .i64 0,.bool false] 52));have Z:Below w1.heap.size w1 w2:=ba▸bC;have av:Hid (w2.heap[w1.heap.size]?=some (.cells (fK vpZ) 52 (0,0))):=q_ (ba▸aJ _ _ _);have aw:=q_ (aG Z bg);have bi:=q_ ((tw af Z));have ax:=q_ (aG Z (aG af h1));have b3:=q_ ((h7.on af).on Z);have b4:=q_ ((tt.on af).on Z);have qn:=q_ (aK7 ax);obtain⟨z,hz⟩:=eX w.heap.size;rw[hz]at bh aw bi;rw[bh]at av;have cu:=aL av;have cp:w2.cell? ⟨z,8,none⟩=some (.int .i64 t.dp):=aA aw 8;rw[hz];clear hV h1 h2 h3 h4 h5 h6 h7 h8 h9 hi tt af Z bg U hF hI hR;go_enter func71,ntmps71;go_wp2_with fail
 clear ap ba;refine qn.mono ?_;rintro e w2 ⟨rfl,rfl⟩;go_wp2_with fail
 clear cp;go_loopw [7,8,9,16] (fun _ _ _ iv wr=>∃i:Nat,i<=2/\iv=.int .i64 (i:Int)/\(0<i->F (kV t.dv t.dh t.dl t.pr t.dp)=none)/\(1<i->F (kV t.dv t.dh t.dl t.pr 0)=none)/\Below w2.heap.size w2 wr) (fun _ _ _ iv _=>2 - (intOf iv).toNat)
 case atStart=>exact⟨0,by omega,rfl,fun h=>absurd h (by omega),fun h=>absurd h (by omega),bLa _ _⟩
 case round =>
  obtain⟨i,hi,rfl,ai,bb,G⟩:=hrel;have b7:=G.size;have an:=aG G aw;have O:=aG G av;have ay:=aG G ax;have az:=b3.on G;have aa:=b4.on G;have L:=tw bi G;by_cases cq:i<2
  .have bj:=idx_two t.dp i cq wr;have tl:(i:Int)<2:=by omega
   obtain⟨E,J⟩:∃E:Int,(if i=0 then t.dp else 0)=E:=⟨_,rfl⟩
   rw[J]at bj;have bl:-9223372036854775808<=E/\E<=9223372036854775807:=by rw[<-J];split<;>omega
   have bm:=q_ (b2 E bl.1 bl.2);obtain⟨K1,aj⟩:∃K,kV t.dv t.dh t.dl t.pr E=K:=⟨_,rfl⟩
   rw[aj]at bm;obtain⟨X,Y⟩:=eX (F K1);have ag:∀j,X=some j->I=some j:=fun j hj=>by
    rw[al.out];by_cases h0:i=0
    .rw[bBa h0]at J;subst J;rw[aj,Y,hj]
    .rw[bAa h0]at J;subst J;rw[ai (by omega),aj,Y,hj]
   have ah:X=none->(0<i+1->F (kV t.dv t.dh t.dl t.pr t.dp)=none)/\(1<i+1->F (kV t.dv t.dh t.dl t.pr 0)=none):=fun hj=>by
    by_cases h0:i=0
    .rw[bBa h0]at J;subst J;exact⟨fun _=>by rw[aj,Y,hj],fun h=>absurd h (by omega)⟩
    .rw[bAa h0]at J;subst J;exact⟨fun _=>ai (by omega),fun _=>by rw[aj,Y,hj]⟩
   have lv:=fun l:Later wr=>aA (aG l.hb ay)
   have lt:=fun l:Later wr=>aA (aG l.hb an)
   have la:Hid (∀l:Later wr,l.w.rangeAt z 4 [.bool t.dv,.int .u64 (t.dh:Int),.int .u64 (t.dl:Int)]):=q_ (fun l=>dZ (aG l.hb an) 4 3 _ rfl);have lk:Hid (∀l:Later wr,mE l.w mv k1 F):=q_ (fun l=>az.on l.hb);clear ai bb J az ay an;replace ⟨ag,ah,O,aa,L,G,Y⟩:=q_7 ag ah O aa L G Y;go_upto_region 6 with fail
   clear bj;refine rL ?_;refine eS 0 16 0 ?_;simp only[dA,dC,dD];iterate 5 refine qE ?_
   refine kQ rfl 27 (.tmp 24) rfl z 4 rfl [.bool t.dv,.int .u64 (t.dh:Int),.int .u64 (t.dl:Int)] _ la dSa rfl kS ?_;iterate 3 refine qE ?_
   refine nY (.agg #[.bool t.dv,.int .u64 (t.dh:Int),.int .u64 (t.dl:Int),.int .i64 t.pr,.int .i64 E]) rfl (fun l=>aJ1 _ _ _ _ _ _ (.tmp 25) (.tmp 27) (.tmp 28) rfl rfl rfl rfl l.w) ?_;refine nY (.tuple #[.int .i64 ((X.getD 0:Nat):Int),.bool X.isSome]) rfl (fun l=>by rw[<-Y.out];exact run_look (lk l) _ (.tmp 23) (.tmp 29) rfl rfl rfl bm) ?_;iterate 5 refine qE ?_
   refine aT ?_;refine eD fun w5 V=>?_;go_simp;clear lv lt la lk;have hb':=G.trans (V.mono b7);have ao:=aG V O;have a0:=aa.on V;have cx:=V.size;have a3:=aG hb' ax;have a4:=tw L V;rcases X with _|j
   .obtain⟨a1,a2⟩:=ah rfl;have cy:=wJ i;clear ao a0 a3 ah ag a4 V L G O aa;replace ⟨a1,a2,hb'⟩:=q_3 a1 a2 hb';go_wp2_with fail
    exact⟨⟨i+1,by omega,by first|rfl|go_num,a1,a2,hb'⟩,by simp only[intOf];omega⟩
   .have bq:=ag j rfl;have b8:=bf j bq;obtain⟨bk,bz,u,rfl,c3,hu,hc⟩:=a0.at aQ6 (by decide) b8;have b9:Hid (R=some u):=q_ (by rw[am.out,bq];exact hu);have cv:=aA a3 3;have c0:(j:Int)<(c.vips.length:Int):=by omega
    have ca:Hid (w5.rangeAt bk (bz+j*7) (vpC u)):=q_ (hc);have hB5':Hid (Below z w w5):=q_ (a4);clear ah ag hb' a0 a3 hc V L G O aa a4;replace ao:=q_ ao;go_upto_region 8 with fail
    apply aWa;iterate 6 refine pS ?_
    refine wpList_load_mid rfl 52 (.tmp 39) rfl bk (bz+j*7) rfl (vpC u) _ ca fWa rfl mJ ?_;refine sW 52 (.tmp 4) (.tmp 40) (z+1) (fK u) ao (nX u) fWa fun w9 au g9 W=>?_;have a7:Hid (Below (z) w w9):=q_ ((hB5').trans (below_grown g9 (by have:=(hB5').size;omega) (by omega)));clear au g9;replace W:=q_ W;refine pS ?_;refine bCa ?_;go_simp;go_wp2_with fail
    exact aYa (v:=.tuple #[.agg (fK u),.bool true]) (by simp[results,results71,asAddr,W.out,Result.andThen]) rfl ⟨by rw[b9.out];rfl,a7⟩
  .obtain rfl:i=2:=by omega
   have cc:I=none:=by rw[al.out,ai (by omega)];exact bb (by omega)
   have cd:Hid (R=none):=q_ (by rw[am.out,cc];rfl);clear ai bb an ay az aa G;replace ⟨O,L⟩:=q_2 O L;go_upto_region 10 with fail
   apply aWa;refine pS ?_;refine sW 52 (.tmp 4) (.tmp 42) (z+1) (fK vpZ) O (nX vpZ) fWa fun w9 au g9 W=>?_;have a7:Hid (Below (z) w w9):=q_ ((L).trans (below_grown g9 (by have:=(L).size;omega) (by omega)));clear au g9;replace W:=q_ W;refine pS ?_;refine bCa ?_;go_simp;go_wp2_with fail
   exact aYa (v:=.tuple #[.agg (fK vpZ),.bool false]) (by simp[results,results71,asAddr,W.out,Result.andThen]) rfl ⟨by rw[cd.out];rfl,a7⟩
def zH (c:Cfg) (a:Adr):Int:=if gU a.v6 a.hi a.lo=true then fV (uW (fun j=>kF c.views c.views.length (rV a j)) (a.w+1))else 0
theorem aMs(c:Cfg)(lo v:Nat)(w:World)(U:yB w lo v c)(a:Adr)(V:a.ok) :
 Cl 75 #[.pointer (some ⟨v,0,none⟩),.agg #[.bool a.v6,.int .u64 (a.hi:Int),.int .u64 (a.lo:Int)]] w fun e w'=>e=.returned (.int .i64 (zH c a))/\Below w.heap.size w w':=by
 obtain⟨g,mv,ma,lv,N,n,k1,k2,h1,h2,h3,h4,h5,h6,h7,h8,h9⟩:=U.h;have j:∃(R b:Int) (o:Bool),zH c a=R/\∀w',fJ w' g N (kF c.views c.views.length) n->Cl 114 #[.pointer (some ⟨g,0,none⟩),.agg #[.bool a.v6,.int .u64 (a.hi:Int),.int .u64 (a.lo:Int)]] w' fun e J=>e=.returned (.tuple #[.int .i64 R,.int .i64 b,.bool o])/\Below w'.heap.size w' J:=by
  unfold zH;by_cases I:gU a.v6 a.hi a.lo=true
  .rw[bBa I];exact⟨_,_,_,rfl,fun w' h=>find_yes g a V I w' N _ n h⟩
  .rw[bAa I];exact⟨_,_,_,rfl,fun w' _=>find_no g a (by simpa using I) w'⟩
 obtain⟨R,b,o,hR,j⟩:=j;rw[hR];obtain⟨E,O⟩:=eX (w.alloc (.cells #[.bool a.v6,.int .u64 (a.hi:Int),.int .u64 (a.lo:Int)] 27));have A:Hid (Below w.heap.size w E):=q_ (O▸bC);have G:Hid (E.heap[w.heap.size]?=some (.cells #[.bool a.v6,.int .u64 (a.hi:Int),.int .u64 (a.lo:Int)] 27 (0,0))):=q_ (O▸aJ _ _ _);have L:=q_ (aG A h1);have Y:=q_ (h6.below A);have Z:=q_ (aK7 L);obtain⟨z,hz⟩:=eX w.heap.size;rw[hz]at G A;have ar:=aL G;rw[hz];clear U h1 h2 h3 h4 h5 h6 h7 h8 h9 V hR;replace j:=q_ j;go_enter func75,ntmps75;go_wp2_with fail
 clear O;refine Z.mono ?_;rintro e E ⟨rfl,rfl⟩;have lv:=fun l:Later E=>aA (aG l.hb L)
 have la:Hid (∀l:Later E,l.w.rangeAt z 0 [.bool a.v6,.int .u64 (a.hi:Int),.int .u64 (a.lo:Int)]):=q_ (fun l=>dZ (aG l.hb G) 0 3 _ rfl);have q:Hid (∀l:Later E,Cl 114 #[.pointer (some ⟨g,0,none⟩),.agg #[.bool a.v6,.int .u64 (a.hi:Int),.int .u64 (a.lo:Int)]] l.w fun e J=>e=.returned (.tuple #[.int .i64 R,.int .i64 b,.bool o])/\Below l.w.heap.size l.w J):=q_ (fun l=>j l.w (Y.below l.hb));clear Z j;go_upto_region 3 with fail
 refine rL ?_;refine eS 0 13 0 ?_;simp only[dA,dC,dD];iterate 4 refine qE ?_
 refine kQ rfl 27 (.tmp 3) rfl z 0 rfl [.bool a.v6,.int .u64 (a.hi:Int),.int .u64 (a.lo:Int)] _ la dSa rfl kS ?_
 (refine aD (fun K W=>?_);go_simp;apply bSa;refine⟨fun l=>?_,W _ ?_⟩;(go_at_call 114;refine(q l).mono ?_;rintro e w' ⟨rfl,hb⟩;exact⟨rfl,hb⟩);clear W K)
 iterate 7 refine qE ?_
 refine aT ?_;refine eD fun w5 X=>?_;go_simp;have ah:=q_ (A.trans (X.mono (by have:=A.size;omega)));clear lv la q X G L Y A;go_wp2_with fail
 go_ret;exact⟨rfl,ah⟩
end Go.Proofs.YtpcifakangbpaaaGreat
