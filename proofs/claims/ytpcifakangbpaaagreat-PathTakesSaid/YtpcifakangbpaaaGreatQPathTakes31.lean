/- Parts of the proof of PathTakes: contracts of functions of the program. No condition but those that each theorem names. -/
import Derived.Test.YtpcifakangbpaaaGreatQPathTakes30
set_option linter.unusedVariables false
set_option linter.unusedSimpArgs false
set_option maxRecDepth 100000
set_option maxHeartbeats 16000000
namespace Go.Proofs.YtpcifakangbpaaaGreat
open Go.RowKit Go.ChangeShapes Go.WideShapes Go.ChangeAt Go.Deep Go.Proofs.Tryz
variable {R xs:List UInt8}{B E J N O S V b base' c f fuel g i j k m n s sd sz:Nat}{Q:Exit->Act->World->Prop}{d w' w0:World}{u v z:Value}{T e t:TypeId}{A:Option Addr}{h os:List Nat}{F:List UInt8->Option Nat}{p:List Nat×List Bool}{a:Act}{α:Type}{H l:List Int}{o:Oper}{G:Array Oper}{K:Act->World->Prop}{y:Array Value}{vs:List Value}{L:List Oper}{I:Bool}{U W Y aa:List (Int×List UInt8)}{P:Program}
section
section
variable {w:World} {pp x v s b p f g S:Nat} {c:Cfg} {H:List Int} {F:Int} {sd:Nat} {T:FT} {r:Ru} {now:Int}
theorem aT3(hS:Sc w pp x v s b p f g S c H F sd T r now)(X:Px)(n:Nat)(xs:List UInt8)(u:Vp)(h:Int)(K:Nat)(U:List UInt8)(hR:aCj c X n xs u h K U)(A:Option Addr)(cc:Nat)(hx:IsB w w.heap.size A n xs)(c4:n<=cc)(c5:cc<=maxLen) :
 Cl 36 #[.pointer (some ⟨pp,0,none⟩),.agg (gP X),.slice A n cc,.agg (fK u),.int .i64 h] w fun e w'=>dE K U w w' e:=by
 obtain⟨K1,U1,hL,ax,ae⟩:=hR;obtain⟨A1,A2,A3,k1,k2,k3,t,bt,cx,hT⟩:=hS.cf;have q:=fun w' (hb:Below w.heap.size w w')=>uD c.nodes h bt t w' (by
  obtain⟨nv,kv,tv,hv,us,hC⟩:=hT;exact⟨nv,kv,tv,hv,us,hC.on hb⟩)
 obtain⟨⟨nm,kd,ab,wt,⟨av,ah,al⟩⟩,cz⟩:∃nd,eU c.nodes h=nd:=⟨_,rfl⟩
 rw[cz]at q ae;unfold ndA at q;dsimp only at q ae;have bg:=fun w=>aGq (str nm) kd ab wt av (ah:Int) (al:Int) w
 obtain⟨⟨sv,sh,sl⟩,Y⟩:∃a,(if av=true then c.s1 else c.s0)=a:=⟨_,rfl⟩
 rw[Y]at ae;dsimp only at ae;obtain⟨w1,bd⟩:=eX (w.alloc (.cells (gP X) 48));have au:Below w.heap.size w w1:=bd▸bC;have b6:=bN bd;have bh:w1.heap.size=w.heap.size+1:=by rw[<-bd];simp
 obtain⟨w2,bm⟩:=eX (w1.alloc (.cells (fK u) 52));have ap:Below w1.heap.size w1 w2:=bm▸bC;have ba:Hid (w2.heap[w1.heap.size]?=some (.cells (fK u) 52 (0,0))):=q_ (bm▸aJ _ _ _);have aw:=q_ ((tw au ap));have b7:=q_ (aG ap (aG au hS.blk));have b8:=q_ (aG ap (aG au cx));have b9:=(hx.on au).on ap;have bi:=q_ (aG ap b6);have cg:=q_ (hL A cc w2 b9 c4 c5);have q':=q_ (fun w' (hb:Below w2.heap.size w2 w')=>q w' (aw.trans (hb.mono (by have:=aw.size;omega))));obtain⟨z,hz⟩:=eX w.heap.size;rw[hz]at bh bi aw;rw[bh]at ba;have dt:=aL ba;clear hS cx hT q au ap b6 hx cz b9 hL;replace ⟨ax,ae,Y⟩:=q_3 ax ae Y;go_enter func36,ntmps36;go_wp2_with fail
 clear bd bm bh;refine cg.mono ?_;rintro e w3 ⟨v1,rfl,bz,b0,j⟩;have J:=aG j b7;have L:=aG j b8;have ay:=aG j ba;have az:=aG j bi;have I:=tw aw j;have bb:=j.size;have q3:=q' w3 j;clear b7 b8 ba bi aw cg j q';by_cases hk:K1=0
 case neg =>
  have e1:((K1:Int) != 0)=true:=by rw[dLa];omega
  obtain rfl:=b0 hk;obtain rfl:=ax hk;clear bz b0 J L ay az ae ax Y q3 bg;replace I:=q_ I;go_wp2_with fail
  go_ret2;exact dE.no U hk (by rw[hz];exact I)
 obtain⟨A1,c1,rfl,bo,bp,Z⟩:=(bz hk).form;have ch:=q_ (ae hk);subst hk;have c0:=aA J 0;have ci:=aA L 11;unfold cfC at ci;clear bz b0 ae ax;replace ⟨J,L,ay,az,I,q3,Z⟩:=q_7 J L ay az I q3 Z;go_upto_region 4 with fail
 apply aWa;iterate 2 refine pS ?_
 refine hSa fun K G=>?_;go_simp;refine G _ _ ?_;clear G K
 iterate 5 refine pS ?_
 refine bRa rfl fun K G=>?_;go_simp;refine((q3)).mono ?_;rintro e w4 ⟨rfl,am⟩;have c9:=bg w4;have cj:=q_ (aG am J);have ck:=q_ (aG am L);have cl:=q_ (Z.on am);have cm:=q_ (aG am ay);have co:=q_ (aG am az);have cp:=q_ ((tw I am));have dv:=am.size;clear am J L Z ay az I q3 bg c0 ci;go_simp;refine G _ _ ?_;clear G K;refine pS ?_;clear c9;refine gF rfl rfl 27 _ (aDt _ rfl) 14 rfl (.tmp 32) rfl _ (fun _=>rfl) (fun _=>rfl) rfl (by kernel_rfl) (aBt av (ah:Int) (al:Int)) ?_;intro E N ao ds;have af:=aG ao cj;have ag:=aG ao ck;have hu:=cl.on ao;have cq:=aG ao cm;have bj:=aG ao co;have aj:=tw cp ao;have da:=ao.size;obtain⟨y,hy⟩:=eX w4.heap.size;have db:z<w4.heap.size:=by omega
 rw[hy]at N ds da db;rw[hy];clear ao cj ck cl cm co cp hy;have cn:=aA cq 6;have ce:E.cell? ⟨z,12,none⟩=some (.bool X.er):=aA bj 12;have cd:E.cell? ⟨z,9,none⟩=some (.int .i64 X.t.dp):=aA bj 9;have ca:=aA N 0;clear cq bj;refine bCa ?_;go_simp;have G:=q_ ch;clear ch;obtain⟨nb,bs⟩:=eX u.nat;obtain⟨eb,bw⟩:=eX X.er;rw[bs,bw]at G;rw[bw]at ce;rw[show(fK u)[6]?=some (.bool u.nat) from rfl,bs]at cn;clear bs bw;replace ⟨af,ag,N,aj,hu⟩:=q_5 af ag N aj hu;go_upto_region 5 with fail
 go_cut [39] (fun bv wx=>bv=.bool (nb && !eb)/\E=wx)
 case first =>
  clear af ag N aj hu G Y;rcases nb with _|_<;>rcases eb with _|_<;>(go_wp2_with fail)<;>go_meet<;>exact⟨rfl,rfl⟩
 case rest =>
 obtain⟨rfl,rfl⟩:=hcut;obtain⟨tb,bx⟩:=eX ((nb && !eb));have O:=G.out;rw[bx]at O;rw[bx];clear G bx cn ce;rcases tb with _|_
 case true =>
  rw[bBa rfl]at O;have hq:=q_ (O A1 c1 E hu bo bp);clear O hu ca af ag Y;go_upto_region 6 with fail
  apply aWa;refine pS ?_;refine gG (.agg #[.bool av,.int .u64 (ah:Int),.int .u64 (al:Int)]) rfl (jL E _ 27 (.tmp 14) rfl y rfl _ _ N dSa rfl (by rw[kS];rfl)) ?_;dsimp only[Act.put];iterate 3 refine pS ?_
  refine bRa rfl fun K G=>?_;go_simp;refine((hq)).mono ?_;rintro e w6 ⟨v2,rfl,an,V,aa⟩;have a1:=q_ ((tw aj aa));have a2:=q_ (fun h=>(an h).weaken (show w.heap.size<=E.heap.size by omega));clear an hq aa aj N cd;replace V:=q_ V;go_simp;refine G _ _ ?_;clear G K;iterate 4 refine pS ?_
  refine bCa ?_;go_simp;go_wp2_with fail
  go_ret2;exact⟨v2,rfl,a2,V,by rw[hz];exact a1⟩
 case false =>
  rw[bAa (by decide)]at O;have dw:=aL af;have dx:=aL ag;have dy:=aL N;clear cd;replace O:=q_ O;rcases av with _|_
  .have e:=Y.out;rw[bAa (by decide)]at e;clear Y;replace e:=q_ e;go_upto_region 9 with fail
   clear ca;refine rX (Below E.heap.size) ?_;intro W j;have J:=aG j af;have L:=aG j ag;have a3:=aG j N;have Z:=q_ (hu.on j);have bb:=j.size;have I:=q_ ((tw aj j));have lp:=fun l:bU (Below E.heap.size) W=>aA ((l.hk.block pp (by omega)).trans J)
   have la:Hid (∀l:bU (Below E.heap.size) W,l.w.rangeAt y 0 [.bool false,.int .u64 (ah:Int),.int .u64 (al:Int)]):=q_ (fun l=>aM (cs:=#[.bool false,.int .u64 (ah:Int),.int .u64 (al:Int)]) ((l.hk.block y (by omega)).trans a3));have ls:Hid (∀l:bU (Below E.heap.size) W,l.w.rangeAt x 5 [.bool c.s0.v6,.int .u64 (c.s0.hi:Int),.int .u64 (c.s0.lo:Int)]):=q_ (fun l=>dZ ((l.hk.block x (by omega)).trans L) 5 3 _ rfl);rw[e.out]at ls;dsimp only at ls;clear j af ag N hu aj J L a3 e;refine xS (Below E.heap.size) 0 8 8 ?_;simp only[dA,dC,dD];iterate 8 refine qX ?_
   refine aN ?_;refine xS (Below E.heap.size) 8 3 5 ?_;simp only[dB,dA,dC,dD];refine dU rfl 27 (.tmp 71) rfl x 5 rfl [.bool sv,.int .u64 (sh:Int),.int .u64 (sl:Int)] _ ls dSa rfl kS ?_;refine dU rfl 27 (.tmp 14) rfl y 0 rfl [.bool false,.int .u64 (ah:Int),.int .u64 (al:Int)] _ la dSa rfl kS ?_;refine qX ?_;refine aN ?_;clear lp ls la;refine fS 11 rfl fun K G=>?_;go_simp;go_at_call 87;refine(O A1 c1 W Z bo bp).mono ?_;rintro e v6 ⟨v2,rfl,an,V,aa⟩;refine G _ _ (aa.mono bb) ?_;clear G K;have a1:=q_ ((tw I aa));have a2:=q_ (fun h=>(an h).weaken (show w.heap.size<=W.heap.size by omega));clear an aa I Z O;replace V:=q_ V;refine xS (Below E.heap.size) 12 2 2 ?_;simp only[dB,dA,dC,dD];iterate 2 refine qX ?_
   refine aN ?_;refine xM 14 rfl ?_;refine xM 15 rfl ?_;refine fD ?_;go_wp2_with fail
   go_ret2;exact⟨v2,rfl,a2,V,by rw[hz];exact a1⟩
  .have e:=Y.out;rw[bBa rfl]at e;clear Y;replace e:=q_ e;go_upto_region 8 with fail
   clear ca;refine rX (Below E.heap.size) ?_;intro W j;have J:=aG j af;have L:=aG j ag;have a3:=aG j N;have Z:=q_ (hu.on j);have bb:=j.size;have I:=q_ ((tw aj j));have lp:=fun l:bU (Below E.heap.size) W=>aA ((l.hk.block pp (by omega)).trans J)
   have la:Hid (∀l:bU (Below E.heap.size) W,l.w.rangeAt y 0 [.bool true,.int .u64 (ah:Int),.int .u64 (al:Int)]):=q_ (fun l=>aM (cs:=#[.bool true,.int .u64 (ah:Int),.int .u64 (al:Int)]) ((l.hk.block y (by omega)).trans a3));have ls:Hid (∀l:bU (Below E.heap.size) W,l.w.rangeAt x 8 [.bool c.s1.v6,.int .u64 (c.s1.hi:Int),.int .u64 (c.s1.lo:Int)]):=q_ (fun l=>dZ ((l.hk.block x (by omega)).trans L) 8 3 _ rfl);rw[e.out]at ls;dsimp only at ls;clear j af ag N hu aj J L a3 e;refine xS (Below E.heap.size) 0 8 8 ?_;simp only[dA,dC,dD];iterate 8 refine qX ?_
   refine aN ?_;refine xS (Below E.heap.size) 8 3 5 ?_;simp only[dB,dA,dC,dD];refine dU rfl 27 (.tmp 57) rfl x 8 rfl [.bool sv,.int .u64 (sh:Int),.int .u64 (sl:Int)] _ ls dSa rfl kS ?_;refine dU rfl 27 (.tmp 14) rfl y 0 rfl [.bool true,.int .u64 (ah:Int),.int .u64 (al:Int)] _ la dSa rfl kS ?_;refine qX ?_;refine aN ?_;clear lp ls la;refine fS 11 rfl fun K G=>?_;go_simp;go_at_call 87;refine(O A1 c1 W Z bo bp).mono ?_;rintro e v6 ⟨v2,rfl,an,V,aa⟩;refine G _ _ (aa.mono bb) ?_;clear G K;have a1:=q_ ((tw I aa));have a2:=q_ (fun h=>(an h).weaken (show w.heap.size<=W.heap.size by omega));clear an aa I Z O;replace V:=q_ V;refine xS (Below E.heap.size) 12 2 2 ?_;simp only[dB,dA,dC,dD];iterate 2 refine qX ?_
   refine aN ?_;refine xM 14 rfl ?_;refine xM 15 rfl ?_;refine fD ?_;go_wp2_with fail
   go_ret2;exact⟨v2,rfl,a2,V,by rw[hz];exact a1⟩
end
end
theorem neq_vp{A:Oper}(u:Vp)(j:Operand->Value)(x y:Operand)(E:A.op=.binOp .neq 52 x y 52)(G:j x=.agg (fK u))(I:j y=.agg (fK u))(w:World) :
 (execOp j A).run prog w=.ok (.value (.bool false)) w:=by
 unfold execOp;simp only[E,G,I];clear G I E;obtain⟨⟨J,L,N⟩,O,U,V,W⟩:=u;simp[go_sem]
theorem aNw(L:List Int)(Y U:Option Addr)(Z c2 n:Nat)(u:Vp)(A:Bool)(hn:n<=1048576)(w:World)(h1:IsR bL w w.heap.size Y n L)(h2:IsR bL w w.heap.size U n L) :
 Cl 14 #[.agg (aH (.slice Y n Z) u A),.agg (aH (.slice U n c2) u A)] w fun e w'=>e=.returned (.bool true)/\Below w.heap.size w w':=by
 obtain⟨G,X⟩:=eX (w.alloc (.cells (aH (.slice Y n Z) u A) 54));have V:Below w.heap.size w G:=X▸bC;have ak:=bN X;have ac:G.heap.size=w.heap.size+1:=by rw[<-X];simp
 obtain⟨O,ag⟩:=eX (G.alloc (.cells (aH (.slice U n c2) u A) 54));have I:Below G.heap.size G O:=ag▸bC;have E:Hid (O.heap[G.heap.size]?=some (.cells (aH (.slice U n c2) u A) 54 (0,0))):=q_ (ag▸aJ _ _ _);have al:=q_ ((tw V I));have J:=q_ (aG I ak);have r1:=q_ ((h1.on V).on I);have r2:=q_ ((h2.on V).on I);obtain⟨z,hz⟩:=eX w.heap.size;rw[hz]at ac J al;rw[ac]at E;have bh:=aL E;rw[hz];have p1:=aA J 8;have p2:=aA E 8;have a1:=aA J 0;have a2:=aA E 0;clear h1 h2 V I ak;go_enter func14,ntmps14;go_upto_region 1 with fail
 clear X ag ac;apply aWa;refine pS ?_;refine wpList_load_mid rfl 52 (.tmp 6) rfl z 1 rfl (fK u).toList _ (dZ J 1 7 _ rfl) fWa rfl (by rw[mJ];rfl) ?_;refine pS ?_;refine wpList_load_mid rfl 52 (.tmp 8) rfl (z+1) 1 rfl (fK u).toList _ (dZ E 1 7 _ rfl) fWa rfl (by rw[mJ];rfl) ?_;refine gG (.bool false) rfl (neq_vp u _ (.tmp 7) (.tmp 9) rfl rfl rfl O) ?_;dsimp only[Act.put];have tp:(A != A)=false:=by cases A<;>rfl
 go_wp2_with fail
 go_loopw [5] (fun iv wr=>∃i:Nat,i<=n/\iv=.int .i64 (i:Int)/\Below O.heap.size O wr) (fun iv _=>n - (intOf iv).toNat)
 case atStart=>exact⟨0,dEa _,rfl,bLa _ _⟩
 case round =>
  obtain⟨i,hi,rfl,j⟩:=hrel;have W:=aG j J;have ad:=aG j E;have ae:=r1.on j;have af:=r2.on j;have N:=tw al j;have a3:=j.size;have Z:=aA W 0;clear p1 p2 a1 a2 tp;by_cases ar:i<n
  .have tl:(i:Int)<(n:Int):=by omega
   obtain⟨b1,o1,u1,rfl,bb,an,ao⟩:=IsR.at ae ar;obtain⟨b2,o2,u2,rfl,be,ap,aq⟩:=IsR.at af ar;have a4:u2=u1:=bFa (ap.symm.trans an);subst a4;have e1:∀l:Later wr,l.w.cell? ⟨b1,o1+i,none⟩=some (.int .i64 u2):=fun l=>(l.hb.cell bb).trans ao
   have e2:∀l:Later wr,l.w.cell? ⟨b2,o2+i,none⟩=some (.int .i64 u2):=fun l=>(l.hb.cell be).trans aq
   have f1:=fun l:Later wr=>aA (aG l.hb W) 0
   have f2:=fun l:Later wr=>aA (aG l.hb ad) 0
   have tn:(u2 != u2)=false:=by simp
   have bk:=wJ i;clear ao aq W ad ae af an ap;replace ⟨N,j⟩:=q_2 N j;go_upto_region 6 with fail
   refine rL ?_;refine eS 0 11 0 ?_;simp only[dA,dC,dD];iterate 11 refine qE ?_
   refine aT ?_;refine eD fun w5 aj=>?_;go_simp;have hb':=q_ (j.trans (aj.mono a3));clear f1 f2 e1 e2 aj;go_wp2_with fail
   exact⟨⟨i+1,by omega,by first|rfl|go_num,hb'⟩,by simp only[intOf];omega⟩
  .clear ae af W ad j;replace N:=q_ N;go_wp2_with fail
   go_ret;exact⟨rfl,N⟩
section
theorem aTm:(prog.info? 43).map (fun i=>(i.zero,i.size,i.bytes))=some (some (.slice none 0 0),1,24):=by kernel_rfl
def aAb (e:nR):List Value:=[.slice e.A e.n e.c]
theorem bytC_one(e:nR):∀u∈aAb e,u.oneCell'=true:=by
 intro u j;obtain rfl:u=_:=List.mem_singleton.1 j
 rfl
def qU (w:World) (base:Nat) (v:Value) (us:List (List UInt8)):Prop :=
 ∃es:List nR,es.map (fun e=>e.U)=us/\w.ownsRow base 43 1 v es.length (es.map aAb).flatten/\∀e∈es,aZ w base (.slice e.A e.n e.c) e.U
theorem qU.nil(w:World)(j:Nat):qU w j (.slice none 0 0) []:=⟨[],rfl,cKa w j _ 1,fun e h=>by cases h⟩
theorem qU.weaken{w:World}{v:Value}{A:List (List UInt8)}(h:qU w j v A)(E:base'<=j):qU w base' v A:=by
 obtain⟨I,J,L,N⟩:=h;exact⟨I,J,jC L E,fun e G=>(N e G).weaken E⟩
theorem qU.kept{w:World}{v:Value}{A:List (List UInt8)}{P:Nat->Prop}(h:qU w j v A)(E:aV w.heap.size P w w')(G:∀k,j<=k->k<w.heap.size->¬ P k):qU w' j v A:=by
 obtain⟨J,L,N,O⟩:=h;exact⟨J,L,kT N E G,fun e I=>kT (O e I) E G⟩
theorem qU.push{w:World}{v I:Value}{E:List nR}(e:nR)(V:∀e∈E,aZ w j (.slice e.A e.n e.c) e.U)(W:w.ownsRow j 43 1 v E.length (E.map aAb).flatten)(X:aZ w j (.slice e.A e.n e.c) e.U)
 (Y:w'.ownsRow j 43 1 I (E.length+1) ((E.map aAb).flatten++aAb e)) (Z:fA w v w' I) :
 w'.ownsRow j 43 1 I (E++[e]).length ((E++[e]).map aAb).flatten/\∀a∈E++[e],aZ w' j (.slice a.A a.n a.c) a.U:=by
 refine⟨by simpa using Y,fun a G=>?_⟩;have L:∀a:nR,aZ w j (.slice a.A a.n a.c) a.U->aZ w' j (.slice a.A a.n a.c) a.U:=fun a h=>by
  refine cDa h Z.grown ?_;rcases h.2 with⟨J,_⟩|⟨g,cap,ac,J,_,hh,_⟩
  .rw[J];exact .inl rfl
  .right;rw[J];intro N;rcases W.2 with⟨rfl,_⟩|⟨g2,ad,ae,rfl,_,O,_⟩
   .cases N
   .have:g=g2:=by simpa[Value.ownBlock]using N
    subst this;rw[hh]at O;injection(bFa O)with _ e3 _
    exact absurd e3 (by decide)
 rcases List.mem_append.1 G with G|G
 .exact L a (V a G)
 .obtain rfl:a=e:=by simpa using G
  exact L _ X
def aP0 (b:Nat) (F:Int) (sd:Nat) (R:TakeR) (w w':World) (e:Ending):Prop :=
 ∃ov hv,e=.returned (.tuple #[.agg (aH hv R.way.vip R.way.pin),ov,.int .i64 (R.K:Int),.bool true])/\qU w' w.heap.size ov (R.outs.map Prod.snd)/\w'.ownsRow w.heap.size 3 1 hv R.way.hosts.length (R.way.hosts.map bL)/\bJ b F sd w w'
theorem aFu{w:World}{b K:Nat}{F:Int}{sd:Nat}{T:FT}(j:bJ b F sd w w'):aP0 b F sd ⟨K,[],jS 0,T⟩ w w' (.returned (.tuple #[.agg (aH (.slice none 0 0) vpZ false),.slice none 0 0,.int .i64 (K:Int),.bool true])) :=
 ⟨_,_,rfl,qU.nil _ _,cKa _ _ _ 1,j⟩
section
variable {w:World} {pp x v s b p f g S:Nat} {c:Cfg} {H:List Int} {Fn:Nat} {sd:Nat} {T:FT} {r:Ru} {now:Int}
theorem goes_any(hS:Sc w pp x v s b p f g S c H (Fn:Int) sd T r now)(hI:jJ T S os)(b5:sd<18446744073709551616)(h1:100<=Fn)(h2:Fn<=1000)(hG:nD c.nodes)(K0:Nat)(X:Px)(n:Nat)(xs:List UInt8)(hP:PxA n xs K0 X)(hX:xG X)(d3:K0≠0->X=pxZ)
 (snd:Int->Nat×List UInt8) (a7:K0=0->(bM c H Fn sd T S X).K=0->∀h∈(bM c H Fn sd T S X).hosts,aCj c X n xs (bM c H Fn sd T S X).vip h (snd h).1 (snd h).2) (cz:(bM c H Fn sd T S X).hosts.length<=1048576)
 (A:Option Addr) (cc:Nat) (hx:∀w',ScE b f g w w'->IsB w' w'.heap.size A n xs) (d4:n<=cc) (d5:cc<=maxLen) :
 Cl 12 #[.pointer (some ⟨pp,0,none⟩),.slice A n cc,.int .u64 (sd:Int)] w fun e w'=>aP0 b (Fn:Int) sd (gX K0 (bM c H Fn sd T S X) snd T T) w w' e:=by
 have qf:=q_ (fun w' (h:Sc w' pp x v s b p f g S c H (Fn:Int) sd T r now)=>aKk h hI b5 h1 h2 hG X hX);have ql:=q_ (fun w' (h:Sc w' pp x v s b p f g S c H (Fn:Int) sd T r now)=>aTz h hI b5 h1 h2 hG X hX);have qy:=q_ (fun w' (h:Sc w' pp x v s b p f g S c H (Fn:Int) sd T r now)=>aNh h b5 X.t (nP hX.t));have qh:=q_ (fun w'=>aCv sd b5 X.t (nP hX.t) w');have qp:∀w',IsB w' w'.heap.size A n xs->Cl 11 #[.slice A n cc] w' fun e b7=>e=.returned (.tuple #[.agg (gP X),.int .i64 (K0:Int)])/\Below w'.heap.size w' b7:=fun w' h=>(hP A cc w' h d4 d5).mono (by
  rintro e b7 ⟨rfl,I⟩;refine⟨?_,I⟩;by_cases h0:K0=0
  .rw[bBa h0]
  .rw[bAa h0,d3 h0]
   rfl)
 obtain⟨R,hR⟩:=eX (bM c H Fn sd T S X);rw[hR]at qf ql a7 cz ⊢;obtain⟨kh,fa⟩:∃k,mW sd X.t=k:=⟨_,rfl⟩
 rw[fa]at qy qh;clear fa;obtain⟨Z,hZ⟩:=eX (gX K0 R snd T T);rw[hZ];unfold gX at hZ;obtain⟨w1,dr⟩:=eX (w.alloc (.cells #[.slice none 0 0,.bool false,.int .u64 0,.int .u64 0,.int .i64 0,.int .i64 0,.int .i64 0,.bool false,.bool false] 54));have bm:Hid (Below w.heap.size w w1):=q_ (dr▸bC);have ce:Hid (w1.heap[w.heap.size]?=some (.cells (aH (.slice none 0 0) vpZ false) 54 (0,0))):=q_ (dr▸aJ _ _ _);have d8:=q_ (hS.on bm);have d9:=hx w1 (ScE.quiet bm);have hW:=q_ hS.wk;have bn:=q_ hS;have bo:=q_ hx;have eb:=q_ (qp w1 d9);have fg:b<w.heap.size:=bn.wk.lt;have fh:f<w.heap.size:=bn.pins.tab.flt;have fi:g<w.heap.size:=bn.pins.tab.glt;have fj:p<w.heap.size:=bn.pins.plt;have fk:pp<w.heap.size:=aL bn.blk;obtain⟨z,hz⟩:=eX w.heap.size;rw[hz]at bm ce fg fh fi fj fk;have f8:=aL ce;clear hS hx hI hX d3 hP hR d9 qp;replace ⟨a7,hZ⟩:=q_2 a7 hZ;go_enter func12,ntmps12;go_upto_region 1 with fail
 clear dr;apply aWa;refine pS ?_;refine bRa rfl fun K G=>?_;go_simp;refine((eb)).mono ?_;rintro e w2 ⟨rfl,b0⟩;have ec:=q_ (d8.on b0);have ed:=q_ (aG b0 ce);have ee:=q_ ((tw bm b0));have f9:=b0.size;clear b0 d8 ce bm eb;go_simp;refine G _ _ ?_;clear G K;iterate 3 refine pS ?_
 refine gF rfl rfl 48 _ (vR _ rfl) 10 rfl (.tmp 24) rfl _ (fun _=>rfl) (fun _=>rfl) rfl (by rw[bK];rfl) (aNm X) ?_;intro w3 av V f4;have cg:=q_ (ec.on V);have au:=q_ (aG V ed);have ch:=q_ ((tw ee V));have ci:=V.size;have fl:z<w2.heap.size:=by omega
 obtain⟨y,hy⟩:=eX w2.heap.size;rw[hy]at av f4 ci fl;rw[hy];clear V ec ed ee hy;replace av:=q_ av;refine pS ?_;refine bCa ?_;go_simp;by_cases E:K0=0
 case neg =>
  have aw:Hid (Z=⟨K0,[],jS 0,T⟩):=q_ (by rw[<-hZ.out,bBa E]);have e1:((K0:Int) != 0)=true:=by rw[dLa];omega
  have ax:=q_ (bJ.below hW (by rw[hz];exact ch));clear hZ qf ql qy qh a7 cg av bo E ch;go_upto_region 3 with fail
  apply aWa;iterate 2 refine pS ?_
  refine sW 54 (.tmp 6) (.tmp 28) z (aH (.slice none 0 0) vpZ false) au (eG rfl vpZ false) cXa fun w9 aq j N=>?_;have ay:Hid (bJ b (Fn:Int) sd w w9):=q_ (⟨uF ax.1 au (by decide) (by decide) j,⟨j.os.trans ax.2.os,j.tape.trans ax.2.tape,j.output.trans ax.2.output,bJa ax.2.size j.size,fun k E hn=>(j.block k (bKa E ax.2.size) (fun e=>by have:=bFa e;omega)).trans (ax.2.block k E hn)⟩⟩);clear aq j;replace N:=q_ N;iterate 3 refine pS ?_
  refine bCa ?_;go_simp;go_wp2_with fail
  exact aYa (v:=.tuple #[.agg (aH (.slice none 0 0) vpZ false),.slice none 0 0,.int .i64 (K0:Int),.bool true]) (by simp[results,results12,asAddr,N.out,Result.andThen]) rfl (aw.out▸aFu ay)
 have aw:=q_ hZ;rw[bAa (fun h=>h E)]at aw;have hsnd':=q_ (a7 E);subst E;clear hZ a7;go_upto_region 4 with fail
 apply aWa;refine pS ?_;refine gG (.agg (gP X)) rfl (jL w3 _ 48 (.tmp 10) rfl y rfl (gP X) _ av cMa rfl (by rw[bK];rfl)) ?_;dsimp only[Act.put];refine bRa rfl fun K G=>?_;go_simp;refine((ql w3 cg)).mono ?_;rintro e w4 ⟨gn,rfl,c7,bh⟩;obtain⟨Ah,cl,rfl,-,-,-⟩:=bE c7;have ga:=bh.2.size;have eg:Hid (bJ b (Fn:Int) sd w w4):=q_ ((bJ.below hW (by rw[hz];exact ch)).trans bh);have eh:=q_ (cg.walk bh);have ei:=q_ ((bh.2.block z (by omega) (by omega)).trans au);have ej:=q_ ((bh.2.block y (by omega) (by omega)).trans av);have hr4':=q_ (jC c7 (show z+1<=w3.heap.size by omega));clear bh cg au av ch ql c7;go_simp;refine G _ _ ?_;clear G K;iterate 3 refine pS ?_
 refine gF rfl rfl 54 _ (yK _ rfl) 12 rfl (.tmp 34) rfl _ (fun _=>rfl) (fun _=>rfl) rfl (by rw[jZ];rfl) (eG rfl R.vip R.pin) ?_;intro w5 bp a6 f5;have c9:=q_ (eh.on a6);have ek:=q_ (aG a6 ei);have da:=q_ (aG a6 ej);have el:=q_ (own_below hr4' a6);have em:=q_ (eg.quiet a6);have fm:=a6.size;have fn:y<w4.heap.size:=by omega
 have fo:z<w4.heap.size:=by omega
 obtain⟨q,hq⟩:=eX w4.heap.size;rw[hq]at bp f5 fm fn fo;rw[hq];clear a6 eh ei ej hr4' eg hq;replace bp:=q_ bp;refine pS ?_;refine bCa ?_;go_simp;go_upto_region 5 with fail
 apply aWa;refine pS ?_;refine gG (.agg (gP X)) rfl (jL w5 _ 48 (.tmp 10) rfl y rfl (gP X) _ da cMa rfl (by rw[bK];rfl)) ?_;dsimp only[Act.put];refine bRa rfl fun K G=>?_;go_simp;refine((qf w5 c9)).mono ?_;rintro e Y ⟨gp,rfl,br,J⟩;obtain⟨bx,cw,rfl,-,-,-⟩:=bE br;have gb:=J.2.size;have en:Hid (bJ b (Fn:Int) sd w Y):=q_ (em.trans J);have eo:=q_ (c9.walk J);have a8:=q_ ((J.2.block z (by omega) (by omega)).trans ek);have ep:=q_ ((J.2.block y (by omega) (by omega)).trans da);have eq:=q_ ((J.2.block q (by omega) (by omega)).trans bp);have er:=q_ (kT el J.2 (fun k h1 h2 e=>by omega));clear J c9 ek da bp el em qf;replace br:=q_ br;go_simp;refine G _ _ ?_;clear G K;iterate 3 refine pS ?_
 refine gF rfl rfl 54 _ (yK _ rfl) 14 rfl (.tmp 40) rfl _ (fun _=>rfl) (fun _=>rfl) rfl (by rw[jZ];rfl) (eG rfl R.vip R.pin) ?_;intro w7 bt L e7;have db:=q_ (eo.on L);have az:=q_ (aG L a8);have dc:=q_ (aG L ep);have dd:=q_ (aG L eq);have de:=q_ (own_below er L);have bs:=q_ (own_below br L);have et:=q_ (en.quiet L);have fp:=L.size;have fq:y<Y.heap.size:=by omega
 have fr:z<Y.heap.size:=by omega
 have fs:q<Y.heap.size:=by omega
 obtain⟨o,ho⟩:=eX Y.heap.size;rw[ho]at bt e7 fp fq fr fs;rw[ho];clear L eo a8 ep eq er br en ho;replace bt:=q_ bt;refine pS ?_;refine bCa ?_;go_simp;obtain⟨a1,_,i1,-,-,dw⟩:=bE de;have i1':a1=Ah:=by injection i1 with i1;exact i1.symm
 rw[i1']at dw;clear i1 i1';obtain⟨a2,_,i2,-,-,dx⟩:=bE bs;have i2':a2=bx:=by injection i2 with i2;exact i2.symm
 rw[i2']at dx;clear i2 i2';have qs:=q_ (fun l:Later w7=>aNw R.hosts Ah bx cl cw R.hosts.length R.vip R.pin cz l.w ((dw.more (by omega)).on l.hb) ((dx.more (by omega)).on l.hb));have eu:=q_ (fun l:Later w7=>qy l.w (db.on l.hb));have lq:Hid (∀l:Later w7,l.w.heap[q]?=some (.cells (aH (.slice Ah R.hosts.length cl) R.vip R.pin) 54 (0,0))):=q_ (fun l=>aG l.hb dd);have lo:Hid (∀l:Later w7,l.w.heap[o]?=some (.cells (aH (.slice bx R.hosts.length cw) R.vip R.pin) 54 (0,0))):=q_ (fun l=>aG l.hb bt);have lt:Hid (∀l:Later w7,l.w.rangeAt y 1 (tuL X.t)):=q_ (fun l=>dZ (aG l.hb dc) 1 9 _ rfl);have tK:((R.K:Int) == (R.K:Int))=true:=beq_self_eq_true _;clear dw dx qy;obtain⟨KK,bz⟩:∃n,R.K=n:=⟨_,rfl⟩
 rw[bz]at tK;rw[bz];go_upto_region 6 with fail
 refine rL ?_;refine eS 0 20 0 ?_;simp only[dA,dC,dD];iterate 4 refine qE ?_
 refine nY (.agg (aH (.slice Ah R.hosts.length cl) R.vip R.pin)) (by first|rfl|kernel_rfl) (fun l=>jL l.w _ 54 (.tmp 12) rfl q rfl (aH (.slice Ah R.hosts.length cl) R.vip R.pin) _ (lq l) cXa rfl (by rw[jZ];rfl)) ?_;dsimp only[Act.put];refine nY (.agg (aH (.slice bx R.hosts.length cw) R.vip R.pin)) (by first|rfl|kernel_rfl) (fun l=>jL l.w _ 54 (.tmp 14) rfl o rfl (aH (.slice bx R.hosts.length cw) R.vip R.pin) _ (lo l) cXa rfl (by rw[jZ];rfl)) ?_;dsimp only[Act.put]
 (refine aD (fun K G=>?_);go_simp;apply bSa;refine⟨fun l=>?_,G _ ?_⟩;(go_at_call 14;refine(qs l).mono ?_;rintro e w' ⟨rfl,I⟩;exact⟨rfl,I⟩);clear G K)
 iterate 4 refine qE ?_
 refine nY (.agg (eB X.t)) (by first|rfl|kernel_rfl) (fun l=>aQx l.w _ 46 (.tmp 52) rfl y 1 rfl (tuL X.t) _ (lt l) cRa rfl bW) ?_;dsimp only[Act.put]
 (refine aD (fun K G=>?_);go_simp;apply bSa;refine⟨fun l=>?_,G _ ?_⟩;(go_at_call 34;refine(eu l).mono ?_;rintro e w' ⟨rfl,I⟩;exact⟨rfl,I⟩);clear G K)
 iterate 2 refine qE ?_
 refine nY (.agg (eB X.t)) (by first|rfl|kernel_rfl) (fun l=>aQx l.w _ 46 (.tmp 56) rfl y 1 rfl (tuL X.t) _ (lt l) cRa rfl bW) ?_;dsimp only[Act.put]
 (refine aD (fun K G=>?_);go_simp;apply bSa;refine⟨fun l=>?_,G _ ?_⟩;(go_at_call 35;refine(qh l.w).mono ?_;rintro e w' ⟨rfl,I⟩;exact⟨rfl,I⟩);clear G K)
 iterate 3 refine qE ?_
 refine aT ?_;refine eD fun w8 ab=>?_;go_simp;have cn:=q_ (db.on ab);have bu:=q_ (aG ab az);have co:=q_ (aG ab dc);have ba:=q_ (aG ab dd);have cp:=q_ (own_below de ab);have ac:=q_ (et.quiet ab);have gc:=ab.size;clear ab db az dc dd de bs et bt qs eu lq lo lt qh tK;by_cases b2:R.K=0
 case neg =>
  have ai:Hid (Z=⟨R.K,[],jS 0,T⟩):=q_ (by rw[<-aw.out,bBa b2]);have e1:((KK:Int) != 0)=true:=by rw[dLa];omega
  rw[bz]at ai;clear aw hsnd' cn co ba bo b2 cp bz;go_upto_region 8 with fail
  apply aWa;iterate 3 refine pS ?_
  refine sW 54 (.tmp 6) (.tmp 63) z (aH (.slice none 0 0) vpZ false) bu (eG rfl vpZ false) cXa fun w9 aq j N=>?_;have ay:Hid (bJ b (Fn:Int) sd w w9):=q_ (⟨uF ac.1 bu (by decide) (by decide) j,⟨j.os.trans ac.2.os,j.tape.trans ac.2.tape,j.output.trans ac.2.output,bJa ac.2.size j.size,fun k E hn=>(j.block k (bKa E ac.2.size) (fun e=>by have:=bFa e;omega)).trans (ac.2.block k E hn)⟩⟩);clear aq j;replace N:=q_ N;iterate 3 refine pS ?_
  refine bCa ?_;go_simp;go_wp2_with fail
  exact aYa (v:=.tuple #[.agg (aH (.slice none 0 0) vpZ false),.slice none 0 0,.int .i64 (KK:Int),.bool true]) (by simp[results,results12,asAddr,N.out,Result.andThen]) rfl (ai.out▸aFu ay)
 have ai:=q_ aw;rw[bAa (fun h=>h b2)]at ai;have df:=q_ (hsnd' b2);obtain rfl:KK=0:=by omega
 clear aw hsnd' b2 bz;have ft:=aA ba 0;have gd:=aL ba;go_wp2_with fail
 go_loopw [7,8,9,17,18,19,20] (fun _ _ _ ov iv _ _ wr=>∃i:Nat,i<=R.hosts.length/\iv=.int .i64 (i:Int)/\(∃es:List nR,es.length=i/\es.map (fun e=>e.U)=(R.hosts.take i).map (fun h=>(snd h).2)/\wr.ownsRow w8.heap.size 43 1 ov es.length (es.map aAb).flatten/\∀e∈es,aZ wr w8.heap.size (.slice e.A e.n e.c) e.U)/\(∀k∈R.hosts.take i,(snd k).1=0)/\Below w8.heap.size w8 wr) (fun _ _ _ _ iv _ _ _=>R.hosts.length - (intOf iv).toNat)
 case atStart=>exact⟨0,dEa _,rfl,⟨[],rfl,rfl,cKa _ _ _ 1,fun e h=>by cases h⟩,fun k E=>by simp at E,bLa _ _⟩
 case round =>
  clear ft;obtain⟨i,hi,rfl,⟨es,bb,al,bc,bd⟩,ag,I⟩:=hrel;have bv:=cn.on I;have a3:=aG I bu;have dg:=aG I co;have aj:=aG I ba;have ak:=own_below cp I;have O:=ac.quiet I;have fu:=I.size;by_cases f6:i<R.hosts.length
  .obtain⟨a9,_,h9,-,-,dy⟩:=bE ak;have h9':a9=Ah:=by injection h9 with h9;exact h9.symm
   rw[h9']at dy;clear h9 h9';obtain⟨bq,f3,u,rfl,fb,hu,fc⟩:=IsR.at (f:=bL) dy f6;have ex:Hid (u∈R.hosts):=q_ (bPa hu);have tl:(i:Int)<(R.hosts.length:Int):=by omega
   have qs:Hid (∀w',Below wr.heap.size wr w'->Cl 36 #[.pointer (some ⟨pp,0,none⟩),.agg (gP X),.slice A n cc,.agg (fK R.vip),.int .i64 u] w' fun e b7=>dE (snd u).1 (snd u).2 w' b7 e):=q_ (fun w' d6=>aT3 (bv.on d6) X n xs R.vip u _ _ (df u ex) A cc (bo w' (ScE.wk (O.quiet d6))) d4 d5);obtain⟨⟨Ku,W⟩,am⟩:∃a,snd u=a:=⟨_,rfl⟩
   rw[am]at qs;dsimp only at qs;have dh:=aA aj 0;replace ⟨bb,al,bc,bd,ag,I,bv,hu,am⟩:=q_9 bb al bc bd ag I bv hu am;go_upto_region 13 with fail
   clear dh;refine rX (Below wr.heap.size) ?_;intro v3 V;have ey:=aG V dg;have di:=aG V aj;have au:=q_ (aG V a3);have ci:=V.size;have lX:Hid (∀l:bU (Below wr.heap.size) v3,l.w.rangeAt y 0 (gP X).toList):=q_ (fun l=>aM (cs:=gP X) ((l.hk.block y (by omega)).trans ey));have lV:Hid (∀l:bU (Below wr.heap.size) v3,l.w.rangeAt q 1 (fK R.vip).toList):=q_ (fun l=>dZ ((l.hk.block q (by omega)).trans di) 1 7 _ rfl);have lq:=fun l:bU (Below wr.heap.size) v3=>aA ((l.hk.block q (by omega)).trans di) 0
   have lc:∀l:bU (Below wr.heap.size) v3,l.w.cell? ⟨bq,f3+i,none⟩=some (.int .i64 u):=fun l=>(l.hk.cell fb).trans ((V.cell fb).trans fc)
   have hb3':=q_ V;clear dg aj a3 V ey di fc dy;replace ⟨ak,O⟩:=q_2 ak O;refine xS (Below wr.heap.size) 0 10 6 ?_;simp only[dA,dC,dD];refine qX ?_;refine dU rfl 48 (.tmp 10) rfl y 0 rfl (gP X).toList _ lX cMa rfl (by rw[bK];rfl) ?_;iterate 2 refine qX ?_
   refine dU rfl 52 (.tmp 77) rfl q 1 rfl (fK R.vip).toList _ lV fWa rfl (by rw[mJ];rfl) ?_;iterate 5 refine qX ?_
   refine aN ?_;clear lX lV lq lc;refine fS 10 rfl fun K G=>?_;go_simp;go_at_call 36;refine(qs v3 hb3').mono ?_;rintro e Y ⟨v2,rfl,be,cr,b1⟩;refine G _ _ (b1.mono ci) ?_;clear G K;have a8:=q_ (aG b1 au);have bw:=hb3'.trans (b1.mono ci);have J:=q_ (O.quiet bw);have dj:=q_ (I.trans (bw.mono fu));have gf:=b1.size;have dk:=q_ (own_below bc bw);have dl:=q_ (fun e he=>(bd e he).below bw);clear qs b1 bv I bc bd hb3' au ak O bw;replace ⟨be,cr⟩:=q_2 be cr;refine xS (Below wr.heap.size) 11 3 2 ?_;simp only[dB,dA,dC,dD];iterate 3 refine qX ?_
   refine aN ?_;refine xM 14 rfl ?_;refine xM 15 rfl ?_;refine fD ?_;by_cases b3:Ku=0
   case neg =>
    have a5:Z=⟨Ku,[],jS 0,T⟩:=by
     have e2:=aEb ag hu (by rw[am.out];exact b3);rw[am.out]at e2;rw[<-ai.out,e2,bBa b3]
    have e1:((Ku:Int) != 0)=true:=by rw[dLa];omega
    clear ai ag al dk dl be cr b3 dj cn bu co ba cp ac df bo;replace a5:=q_ a5;go_upto_region 15 with fail
    apply aWa;iterate 3 refine pS ?_
    refine sW 54 (.tmp 6) (.tmp 89) z (aH (.slice none 0 0) vpZ false) a8 (eG rfl vpZ false) cXa fun w9 aq j N=>?_;have ay:Hid (bJ b (Fn:Int) sd w w9):=q_ (⟨uF J.1 a8 (by decide) (by decide) j,⟨j.os.trans J.2.os,j.tape.trans J.2.tape,j.output.trans J.2.output,bJa J.2.size j.size,fun k E hn=>(j.block k (bKa E J.2.size) (fun e=>by have:=bFa e;omega)).trans (J.2.block k E hn)⟩⟩);clear aq j;replace N:=q_ N;iterate 3 refine pS ?_
    refine bCa ?_;go_simp;go_wp2_with fail
    exact aYa (v:=.tuple #[.agg (aH (.slice none 0 0) vpZ false),.slice none 0 0,.int .i64 (Ku:Int),.bool true]) (by simp[results,results12,asAddr,N.out,Result.andThen]) rfl (a5.out▸aFu ay)
   obtain⟨A2,c2,rfl,gj,gk,-⟩:=(be b3).form;subst b3;have e3:=q_ ((be rfl).weaken (show w8.heap.size<=v3.heap.size by omega));clear be cr a8 J;go_upto_region 16 with fail
   apply aWa;iterate 3 refine pS ?_
   obtain⟨w7,az⟩:=eX (Y.alloc (.cells #[.slice A2 W.length c2] 43));rw[az];have L:Below Y.heap.size Y w7:=az▸bC;have e4:w7.heap[Y.heap.size]?=some (.cells (aAb ⟨u,A2,W.length,c2,W⟩).toArray 43 (0,0)):=az▸aJ _ _ _;have ct:=own_below dk L;have e5:=q_ (fun e he=>(dl e he).below L);have bs:=q_ (e3.below L);have e6:=q_ ((tw dj L));have e7:=L.size;clear az L dk dl e3 dj;refine bRa rfl fun K G=>?_;refine aDg (T:=43) underlying32 aTm rfl (by decide) (by decide) (.tmp 92) (.tmp 94) rfl w8.heap.size _ es.length _ (aAb ⟨u,A2,W.length,c2,W⟩) Y.heap.size rfl rfl ct e4 rfl (bytC_one _) (by omega) (by have:=bb.out;have:=cz;omega) fun v8 w9 g1 g2=>G _ _ ?_
   clear G K e4;have ab:=q_ (e6.trans (bV g2.grown (by omega) (fun k E=>(cYa ct k E).1)));obtain⟨A8,c8,rfl,-,-,-⟩:=bE g1;obtain⟨dn,dp⟩:=qU.push ⟨u,A2,W.length,c2,W⟩ e5 ct bs g1 g2;clear g1 g2 ct e5 bs e6;have cu:(es++[(⟨u,A2,W.length,c2,W⟩:nR)]).map (fun e=>e.U)=(R.hosts.take (i+1)).map (fun h=>(snd h).2):=by
    rw[cWa,al.out,dMa,hu.out,cWa];simp[am.out]
   have dm:∀k∈R.hosts.take (i+1),(snd k).1=0:=by
    intro k E;rw[dMa,hu.out]at E;rcases List.mem_append.1 E with E|E
    .exact ag k E
    .obtain rfl:k=u:=by simpa using E
     rw[am.out]
   have fw:Hid ((es++[(⟨u,A2,W.length,c2,W⟩:nR)]).length=i+1):=q_ (by rw[bHa,bb.out];rfl);have gg:=wJ i;clear al ag bb am hu ex;replace ⟨dn,dp,cu,dm⟩:=q_4 dn dp cu dm;refine pS ?_;refine bCa ?_;go_simp;go_wp2_with fail
   refine⟨?_,by show R.hosts.length - ((i:Int)+1).toNat<R.hosts.length - ((i:Int)).toNat;omega⟩;iterate 37(apply bSa)
   refine And.intro ?hrl ?heq
   case heq=>exact rfl
   case hrl=>exact⟨i+1,by omega,by first|rfl|go_num,⟨_,fw,by first|exact cu|(rw[<-List.map_take];exact cu),dn,dp⟩,dm,ab⟩
  .obtain rfl:i=R.hosts.length:=by omega
   rw[fDa]at al ag;have a5:Z=⟨0,R.hosts.map fun h=>(h,(snd h).2),R,T⟩:=by
    rw[<-ai.out,bAa (fun h=>h (aF9 ag))]
   have e8:Hid (qU wr w8.heap.size u17 (R.hosts.map fun h=>(snd h).2)):=q_ (⟨es,al,bc,bd⟩);clear ai al ag bc bd bb df bo cn bu co ba cp ac I bv dg;have dh:=aA aj 0;replace ⟨a5,a3,aj,ak,O⟩:=q_5 a5 a3 aj ak O;go_upto_region 17 with fail
   clear dh;apply aWa;refine gG (.agg (aH (.slice Ah R.hosts.length cl) R.vip R.pin)) rfl (jL wr _ 54 (.tmp 12) rfl q rfl (aH (.slice Ah R.hosts.length cl) R.vip R.pin) _ aj cXa rfl (by rw[jZ];rfl)) ?_;dsimp only[Act.put];iterate 2 refine pS ?_
   refine sW 54 (.tmp 6) (.tmp 96) z (aH (.slice Ah R.hosts.length cl) R.vip R.pin) a3 (eG rfl R.vip R.pin) cXa fun w9 aq j N=>?_;have dq:aV wr.heap.size (fun k=>k=z) wr w9:=⟨j.os,j.tape,j.output,j.size,fun k E hn=>j.block k E (fun e=>hn (bFa e))⟩
   have fx:=q_ (kT ak dq (fun k h1 h2 e=>by omega));have fy:=q_ (e8.kept dq (fun k h1 h2 e=>by omega));have ay:Hid (bJ b (Fn:Int) sd w w9):=q_ (⟨uF O.1 a3 (by decide) (by decide) j,⟨j.os.trans O.2.os,j.tape.trans O.2.tape,j.output.trans O.2.output,bJa O.2.size j.size,fun k E hn=>(j.block k (bKa E O.2.size) (fun e=>by have:=bFa e;omega)).trans (O.2.block k E hn)⟩⟩);clear aq j dq a3 aj ak e8 O;replace N:=q_ N;iterate 3 refine pS ?_
   refine bCa ?_;go_simp;go_wp2_with fail
   exact aYa (v:=.tuple #[.agg (aH (.slice Ah R.hosts.length cl) R.vip R.pin),u17,.int .i64 0,.bool true]) (by simp[results,results12,asAddr,N.out,Result.andThen]) rfl (a5.out▸⟨_,_,rfl,by rw[List.map_map];exact fy.weaken (by omega),jC fx (by omega),ay⟩)
end
end
section
def bytv (e:nR):Value:=.slice e.A e.n e.c
theorem aMp(j:List nR):(j.map aAb).flatten=j.map bytv:=by
 induction j with
 | nil=>rfl
 | cons a t ih=>rw[eCa,gSa,ih];rfl
theorem flat_int(j:List Int):(j.map fun x=>[bL x]).flatten=j.map bL:=by
 induction j with
 | nil=>rfl
 | cons a t ih=>rw[eCa,gSa,ih];rfl
theorem aFr:prog.cellsOf 3=1:=by kernel_rfl
theorem aS4:prog.cellsOf 43=1:=by kernel_rfl
section
variable {H:Type} {enc:TypeId×Value->H} {w:World} {spare:Nat->Bool} {held:Bool}
theorem aR4{y:DataW H×List MemPlace}(h:DataW.trod enc prog w 0 spare held m 31 [v]=some y) :
 ∃A n c j,v=.slice A n c/\IsR bL w w.heap.size A n j/\n<=c/\c<=maxLen:=by
 obtain⟨A,n,c,j,e,⟨I,-⟩,J,L⟩:=uE (f:=fun x:Int=>[bL x]) (size:=1) (fun _=>True) dRa aFr (by omega) (fun n cs y h G=>by
  match cs,G with
  | [a],_ =>
   obtain⟨k,rfl,_⟩:=rT h;exact⟨k,rfl,trivial⟩) h
 have E:=I.2;rw[flat_int]at E;exact⟨A,n,c,j,e,E,J,L⟩
theorem aT8{y:DataW H×List MemPlace}(h:DataW.trod enc prog w 0 spare held m 32 [v]=some y) :
 ∃A n c j,v=.slice A n c/\(IsR bytv w w.heap.size A n j/\∀e∈j,IsB w w.heap.size e.A e.n e.U/\e.n<=e.c/\e.c<=maxLen)/\n<=c/\c<=maxLen:=by
 obtain⟨A,n,c,j,e,⟨I,J⟩,L,N⟩:=uE (f:=aAb) (size:=1) (fun e:nR=>IsB w w.heap.size e.A e.n e.U/\e.n<=e.c/\e.c<=maxLen) underlying32 aS4 (by omega) (fun n cs y h G=>by
  match cs,G with
  | [a],_ =>
   obtain⟨A,n,c,xs,rfl,O,V,W⟩:=aR3 h;exact⟨⟨0,A,n,c,xs⟩,rfl,O,V,W⟩) h
 have E:=I.2;rw[aMp]at E;exact⟨A,n,c,j,e,⟨E,J⟩,L,N⟩
end
end
theorem aP3(T:FT)(os:List Nat):allL T os=((os.map fun i=>(T.at' i).e).map enL).flatten:=by
 unfold allL;rw[List.flatMap_def,List.map_map]
 rfl
theorem neq_en{A:Oper}(e:En)(j:Operand->Value)(x y:Operand)(E:A.op=.binOp .neq 64 x y 64)(G:j x=.agg (cZ e))(I:j y=.agg (cZ e))(w:World) :
 (execOp j A).run prog w=.ok (.value (.bool false)) w:=by
 unfold execOp;simp only[E,G,I];clear G I E;obtain⟨⟨J,L,N,O,U,V,W,X,Y⟩,h,Z,un⟩:=e;simp[go_sem]
theorem uS:(prog.info? 64).map (·.size)=some 12:=by kernel_rfl
theorem aPg{T:FT}{r:Ru}{j:Int}{X:Px}{R:vQ}(A:1<=R.vip.copies):pV T S r j X R=if X.er=true\/R.vip.copies≠1 then T else if R.pin=true then uR T S r j X.t X.fl else aAq T S r j X.t (R.hosts.headD 0) X.fl:=by
 unfold pV;by_cases h:X.er=true\/1<R.vip.copies
 .rw[bBa h];exact(bBa (by rcases h with h|h;exact .inl h;exact .inr (by omega))).symm
 .rw[bAa h];exact(bAa (by intro k;rcases k with k|k;exact h (.inl k);exact h (.inr (by omega)))).symm
theorem aSi(c0:Cfg)(hg:c0.good 9223372036854775807)(w:World)(A1 A2 A3:Option Addr)(k1 k2 k3:Nat)(hR:uV w w.heap.size c0 A1 A2 A3 k1 k2 k3)(j1:c0.nodes.length<=k1/\k1<=maxLen)(j2:c0.vips.length<=k2/\k2<=maxLen)(j3:c0.views.length<=k3/\k3<=maxLen)
 (A:Option Addr) (nh ch:Nat) (hs:List Int) (hH:IsR bL w w.heap.size A nh hs) (g7:nh<=ch) (g8:ch<=maxLen) (sd:Nat) (fb:sd<18446744073709551616)
 (Al:Option Addr) (L cl:Nat) (es:List nR) (hL:IsR bytv w w.heap.size Al L es) (de:∀e∈es,IsB w w.heap.size e.A e.n e.U/\e.n<=e.c/\e.c<=maxLen) (l1:L<=cl) (l2:cl<=maxLen) :
 Cl 3 #[.agg (cfC c0 (.slice A1 c0.nodes.length k1) (.slice A2 c0.vips.length k2) (.slice A3 c0.views.length k3)),.slice A nh ch,.int .u64 (sd:Int),.slice Al L cl] w fun e w'=>e=.returned (.bool true)/\Below w.heap.size w w':=by
 obtain⟨arr,gb⟩:∃a,cfC c0 (.slice A1 c0.nodes.length k1) (.slice A2 c0.vips.length k2) (.slice A3 c0.views.length k3)=a:=⟨_,rfl⟩
 have kc:Hid (arr.size=11):=q_ (by rw[<-gb];rfl);obtain⟨w1,gc⟩:=eX (w.alloc (.cells arr 30));have J:Hid (Below w.heap.size w w1):=q_ (gc▸bC);have cj:Hid (w1.heap[w.heap.size]?=some (.cells arr 30 (0,0))):=q_ (gc▸aJ _ _ _);have hM:=q_ (aM8 c0 hg w1 A1 A2 A3 k1 k2 k3 (hR.on J) j1 j2 j3 A nh ch hs (hH.on J) g7 g8 sd);rw[gb]at hM ⊢;obtain⟨H,et⟩:=eX (hs.take 30);rw[et]at hM;have fg:Hid ((mQ c0).good 9223372036854775807):=q_ (⟨fun y hy=>hg.nodes y (eYa hy),fun v hv=>hg.vips v (eYa hv),fun v hv=>hg.views v (eYa hv),hg.s0,hg.s1⟩);obtain⟨c,hc⟩:=eX (mQ c0);rw[hc]at hM fg;clear hc et gb hR hH hg j1 j2 j3 g7 g8;obtain⟨z,hz⟩:=eX w.heap.size;rw[hz]at J cj hL de;have l3:=aL cj;have ed:Hid (jJ (rR sd 8) (nJ 8) []):=q_ (aNa fb (by omega) (by omega));obtain⟨S,jk⟩:=eX (nJ 8);obtain⟨T0,jm⟩:∃T,rR sd 8=T:=⟨_,rfl⟩
 have di:=q_ (fun w=>aF6 8 (by omega) (by omega) sd kG aCt w);unfold aHy at hM;rw[jm,jk]at ed hM di;clear jm jk;replace ⟨hL,de⟩:=q_2 hL de;go_enter func3,ntmps3;go_upto_region 1 with fail
 clear gc;apply aWa;refine gG (.agg arr) rfl (jL w1 _ 30 (.tmp 4) rfl z rfl arr _ cj hDa rfl (by rw[aQz,kc.out])) ?_;dsimp only[Act.put];iterate 2 refine pS ?_
 refine bRa rfl fun K E=>?_;go_simp;refine((hM)).mono ?_;rintro e w2 ⟨W,lo⟩;have l4:=W.size;have ad:=q_ ((tw J W));clear W J cj hM;rcases lo with⟨hv,rfl⟩|⟨hv,pp,x,v,s,b,p,f,g,rfl,hM⟩
 case inl =>
  clear hL de fg ed;go_simp;refine E _ _ ?_;clear E K;refine pS ?_;refine bCa ?_;go_simp;go_upto_region 2 with fail
  apply aWa;refine pS ?_;refine bRa rfl fun K E=>?_;go_simp;refine((rW w2)).mono ?_;rintro e w4 ⟨rfl,ae⟩;have aw:=tw ad ae;clear ae;go_simp;refine E _ _ ?_;clear E K;refine bRa rfl fun K E=>?_;go_simp;refine((di w4)).mono ?_;rintro e w5 ⟨⟨p,f,g,rfl,hP,j7,j8,cj⟩,bv⟩;have bk:=q_ (aw.trans (bv.mono (by have:=aw.size;omega)));clear bv hP aw ad di;go_simp;refine E _ _ ?_;clear E K;iterate 5 refine pS ?_
  refine bCa ?_;go_simp;go_wp2_with fail
  refine(aBk w5).mono ?_;rintro e w6 ⟨rfl,ag⟩;go_wp2_with fail
  go_ret;exact⟨rfl,by rw[hz];exact bk.trans (ag.mono (by have:=bk.size;omega))⟩
 have hV:=aAw hv;obtain⟨Fn,jn⟩:∃F:Nat,c.factor=(F:Int):=⟨c.factor.toNat,by have:=hV.factor;omega⟩
 have hf:100<=Fn:=by have:=hV.factor;omega
 have hh:Fn<=1000:=by have:=hV.factor;omega
 rw[jn]at hM;replace hM:=hM.more (show z<=w1.heap.size by omega);obtain⟨m,hm⟩:=eX w2.heap.size;have l5:z<=m:=by omega
 have hM:ScM w2 z m pp x v s b p f g S c H (Fn:Int) sd T0 kG 0:=hm▸hM;clear jn;go_simp;refine E _ _ ?_;clear E K;refine pS ?_;refine bCa ?_;go_simp;go_upto_region 2 with fail
 apply aWa;refine pS ?_;refine bRa rfl fun K E=>?_;go_simp;refine((rW w2)).mono ?_;rintro e w4 ⟨rfl,ae⟩;have aw:=q_ ((tw ad ae));have ck:=q_ (hM.on ae);have hj:=ae.size;clear ae hM ad;go_simp;refine E _ _ ?_;clear E K;refine bRa rfl fun K E=>?_;go_simp;refine((di w4)).mono ?_;rintro e w5 ⟨⟨p2,f2,g2,rfl,hP,j7,j8,cj⟩,bv⟩;have bk:=q_ (aw.trans (bv.mono (by have:=aw.size;omega)));have dj:=q_ (ck.on bv);have ap:Hid (m<=p2/\m<=f2/\m<=g2):=q_ (⟨by omega,by omega,by omega⟩);clear bv ck aw di j7 j8 cj hj hm;replace ⟨hP,hV⟩:=q_2 hP hV;go_simp;refine E _ _ ?_;clear E K;iterate 5 refine pS ?_
 refine bCa ?_;go_simp;go_wp2_with fail
 go_loopw [8,12,13,14,15,16,17,18,19,20,21,22,23] (fun _ iv _ _ _ _ _ _ _ _ _ _ _ wr=>∃(i:Nat) (T:FT) (os:List Nat),i<=L/\iv=.int .i64 (i:Int)/\ScM wr z m pp x v s b p f g S c H (Fn:Int) sd T kG 0/\jJ T S os/\PAt wr p2 f2 g2 S T kG 0/\Below z w wr) (fun _ iv _ _ _ _ _ _ _ _ _ _ _ _=>L - (intOf iv).toNat)
 case atStart=>exact⟨0,T0,[],dEa _,rfl,dj,ed,hP,bk⟩
 case round =>
  clear dj ed hP bk;obtain⟨wo,gd⟩:∃x,x=wr:=⟨_,rfl⟩
  obtain⟨i,T,os,hi,rfl,aq,O,a0,al⟩:=hrel;rw[<-gd]at aq a0 al;rw[<-gd];clear gd;by_cases em:i<L/\i<40
  .obtain⟨k8,mc⟩:=em;obtain⟨bq,lc,e,ld,le,he,jp⟩:=IsR.at (f:=bytv) hL k8;have kd:wo.cell? ⟨bq,lc+i,none⟩=some (.slice e.A e.n e.c):=(al.cell le).trans jp;obtain⟨jq,lh,ge⟩:=de e (bPa he);obtain⟨n',li⟩:∃n,min e.n 500=n:=⟨_,rfl⟩
   have ee:=jq.take (m:=n') (by omega);obtain⟨xs,jr⟩:=eX (e.U.take n');rw[jr]at ee;have hp:=ee.1;obtain⟨K0,X,ex,cm,ey⟩:=px_ex2 n' xs hp (by omega);obtain⟨snd,gf⟩:=sends_ex fg X n' xs hp (by omega) (bM c H Fn sd T S X).vip;have fh:Hid (∀w',Below z w w'->IsB w' w'.heap.size e.A n' xs):=q_ (fun w' G=>(ee.below G).more (by have:=G.size;omega));have hr:=aMm c H Fn sd T S X;have ht:=q_ (find_vip (c:=c) (H:=H) (F:=Fn) (sd:=sd) (T:=T) (S:=S) (x:=X));have fi:=q_ (aMj (c:=c) (H:=H) (F:=Fn) (sd:=sd) (S:=S) (T:=T) (x:=X));have qg:=q_ (fun w' (hS:ScM w' z m pp x v s b p f g S c H (Fn:Int) sd T kG 0) (hB:Below z w w')=>goes_any hS.sc O fb hf hh hV.tree K0 X n' xs ex cm ey snd (fun _ _ h _=>gf h) (by omega) e.A e.c (fun c2 hE=>fh c2 (hB.trans (hS.below (by have:=hB.size;omega) hE))) (by omega) ge);have qt:=q_ (fun w' (hS:ScM w' z m pp x v s b p f g S c H (Fn:Int) sd T kG 0) (hB:Below z w w')=>aKq hS.sc O fb hf hh hV.tree K0 X n' xs ex cm ey snd (fun _ _ h _=>gf h) (by omega) e.A e.c (fun c2 hE=>fh c2 (hB.trans (hS.below (by have:=hB.size;omega) hE))) (by omega) ge);have qp:∀w',Below z w w'->Cl 11 #[.slice e.A n' e.c] w' fun e c2=>e=.returned (.tuple #[.agg (gP X),.int .i64 (K0:Int)])/\Below w'.heap.size w' c2:=fun w' h=>(ex e.A e.c w' (fh w' h) (by omega) ge).mono (by
    rintro e c2 ⟨rfl,G⟩;refine⟨?_,G⟩;by_cases h0:K0=0
    .rw[bBa h0]
    .rw[bAa h0,ey h0]
     rfl)
   have fj:=q_ (inv_take O kG 0 cm K0 (bM c H Fn sd T S X) snd);have ei:=aSh K0 (bM c H Fn sd T S X) snd T (pV T S kG 0 X (bM c H Fn sd T S X));have dk:=q_ (aUw K0 (bM c H Fn sd T S X) snd T T);have ej:=q_ (aUv K0 (bM c H Fn sd T S X) snd T T);have fk:=q_ (takeR_ok (K0:=K0) (R:=bM c H Fn sd T S X) (snd:=snd) (T:=T) (T1:=T));obtain⟨R,gg⟩:=eX (bM c H Fn sd T S X);rw[gg]at qg qt fj ei dk ej fk ht fi;obtain⟨Y,js⟩:=eX (gX K0 R snd T (pV T S kG 0 X R));obtain⟨Z,gh⟩:=eX (gX K0 R snd T T);rw[js]at qt fj ei;rw[gh]at qg ei dk ej fk;obtain⟨fm,fn,ek,el⟩:=ei;have ke:Z.way.hosts.length<=8:=by
    rw[<-dk,<-gh];unfold gX;split
    .exact dEa _
    .split
     .exact dEa _
     .split
      .exact dEa _
      .rw[bNa,<-gg];exact hr
   clear gg js gh gf hr ex ey ee jr jq jp;subst ld;replace ⟨qp,aq,O,a0,al,cm,fm,fn,ek,el⟩:=q_10 qp aq O a0 al cm fm fn ek el;have dl:(i:Int)<(L:Int):=by omega
   have fo:(i:Int)<40:=by omega
   go_upto_region 8 with fail
   clear dl fo;apply aWa;iterate 4 refine pS ?_
   clear kd;refine bRa rfl fun K E=>?_;go_simp;refine((pcut_as e.A e.n e.c n' wo (by omega) lh li)).mono ?_;rintro e wo ⟨rfl,rfl⟩;go_simp;refine E _ _ ?_;clear E K;refine pS ?_;refine bCa ?_;go_simp;go_upto_region 9 with fail
   apply aWa;refine pS ?_;refine bRa rfl fun K E=>?_;go_simp;refine((qp wo al)).mono ?_;rintro e v1 ⟨rfl,J⟩;have am:=q_ (aq.on J);have bf:=q_ (a0.on J);have a4:=q_ (al.trans (J.mono (by have:=al.size;omega)));have kf:=am.size;have em:=am.lt;clear J aq a0 al qp;go_simp;refine E _ _ ?_;clear E K;iterate 3 refine pS ?_
   refine gF rfl rfl 48 _ (vR _ rfl) 14 rfl (.tmp 66) rfl _ (fun _=>rfl) (fun _=>rfl) rfl (by rw[bK];rfl) (aNm X) ?_;intro v2 dn W ga;have dm:=q_ (am.on W);have b1:=q_ (bf.on W);have ad:=q_ (a4.trans (W.mono (by have:=a4.size;omega)));obtain⟨y,hy⟩:=eX v1.heap.size;rw[hy]at dn ga kf;rw[hy];clear W am bf a4 hy;replace dn:=q_ dn;refine pS ?_;refine bCa ?_;go_simp;go_upto_region 10 with fail
   apply aWa;iterate 3 refine pS ?_
   refine bRa rfl fun K E=>?_;go_simp;refine((qg v2 dm ad)).mono ?_;rintro e v3 ⟨ov,ml,rfl,lr,c6,cz⟩;obtain⟨Ah,ca,rfl,-,-,-⟩:=bE c6;obtain⟨lj,dp,c7,en⟩:=lr;obtain⟨Ao,co,rfl,-,-,-⟩:=bE c7;obtain⟨N,hN⟩:=eX Z.way.hosts.length;rw[hN]at ke;have hw:lj.length=N:=by
    have h:=fFa List.length dp;rw[bNa,bNa,dk.out,hN]at h;exact h
   rw[hw,hN];rw[hN]at c6;rw[hw]at c7;have ia:=q_ (dm.next (ScE.wk cz) (dm.sc.walk cz));have ib:=q_ (aQn b1 ap.1 ap.2.1 ap.2.2 em (ScE.wk cz));have a5:=q_ (ad.trans (dm.below (by have:=ad.size;omega) (ScE.wk cz)));have ic:=q_ ((cz.2.block y (by omega) (by omega)).trans dn);have kg:=cz.2.size;clear cz dm b1 ad dn qg;replace ⟨c6,c7,en,dp⟩:=q_4 c6 c7 en dp;go_simp;refine E _ _ ?_;clear E K;iterate 5 refine pS ?_
   refine gF rfl rfl 54 _ (yK _ rfl) 16 rfl (.tmp 73) rfl _ (fun _=>rfl) (fun _=>rfl) rfl (by rw[jZ];rfl) (eG rfl Z.way.vip Z.way.pin) ?_;intro v4 dq ae lz;have ck:=q_ (ia.on ae);have id:=q_ (ib.on ae);have aw:=q_ (a5.trans (ae.mono (by have:=a5.size;omega)));have ie:=q_ (aG ae ic);have ig:=q_ (own_below c6 ae);have ih:=q_ (own_below c7 ae);have ii:=q_ (fun e he=>own_below (en e he) ae);have hj:=ae.size;obtain⟨q,hq⟩:=eX v3.heap.size;rw[hq]at dq lz kg;rw[hq];clear ae ia ib a5 ic c6 c7 en hq;replace dq:=q_ dq;iterate 3 refine pS ?_
   refine bCa ?_;go_simp;go_upto_region 11 with fail
   apply aWa;iterate 2 refine pS ?_
   refine bRa rfl fun K E=>?_;go_simp;refine((qt v4 ck aw)).mono ?_;rintro e v5 ⟨o2,mn,rfl,j9,c8,ka,bj⟩;rw[fn.out]at j9;rw[ek.out,hN]at c8;rw[fm.out,ek.out];obtain⟨d0,ez,rfl,-,-,-⟩:=bE c8;obtain⟨jt,da,c9,ep⟩:=j9;obtain⟨ju,mf,rfl,-,-,-⟩:=bE c9;have fp:jt.length=N:=by
    have h:=fFa List.length da;rw[bNa,dk.out,hN]at h;exact h
   rw[fp];rw[fp]at c9;have nm:∀k,v2.heap.size<=k->¬ Mv b f g k:=by rintro k hk (rfl|rfl|rfl)<;>omega
   have dj:=q_ (ck.next bj ka);have ij:=q_ (aQn id ap.1 ap.2.1 ap.2.2 em bj);have bk:=q_ (aw.trans (ck.below (by have:=aw.size;omega) bj));have ik:=q_ ((bj.block y (by omega) (by rintro(rfl|rfl|rfl)<;>omega)).trans ie);have il:=q_ ((bj.block q (by omega) (by rintro(rfl|rfl|rfl)<;>omega)).trans dq);have im:=q_ (kT ig bj (fun k h1 _=>nm k h1));have io:=q_ (kT ih bj (fun k h1 _=>nm k h1));have ip:=q_ (fun e he=>kT (ii e he) bj (fun k h1 _=>nm k h1));have kh:=bj.size;clear bj ka ck id aw ie ig ih ii dq qt nm;replace ⟨c8,c9,ep,da⟩:=q_4 c8 c9 ep da;go_simp;refine E _ _ ?_;clear E K;iterate 4 refine pS ?_
   obtain⟨jv,gj⟩:∃y,v5.alloc (.cells #[.slice none 0 0,.bool false,.int .u64 0,.int .u64 0,.int .i64 0,.int .i64 0,.int .i64 0,.bool false,.bool false] 54)=y:=⟨_,rfl⟩
   refine pS ?_;have fq:Below v5.heap.size v5 jv:=gj▸bC;have iq:jv.heap[v5.heap.size]?=some (.cells (aH (.slice none 0 0) vpZ false) 54 (0,0)):=gj▸aJ _ _ _;clear gj;refine pS ?_;refine bQ rfl 54 (.tmp 21) (.tmp 82) rfl v5.heap.size 0 rfl (aH (.slice d0 N ez) Z.way.vip Z.way.pin) rfl iq (by simp) (by rw[jZ];rfl) (eG rfl Z.way.vip Z.way.pin) fun v6 ci g6=>?_;rw[aQ _ _ (by rfl)]at ci;have ag:Below v5.heap.size v5 v6:=fq.trans (below_grown g6 (by have:=fq.size;omega) (aZa _));have ir:=q_ (dj.on ag);have it:=q_ (ij.on ag);have fr:=q_ (bk.trans (ag.mono (by have:=bk.size;omega)));have iu:=q_ (aG ag ik);have fs:=q_ (aG ag il);have ft:=q_ (own_below im ag);have iw:=q_ (own_below c8 ag);have ix:=q_ (own_below io ag);have iy:=q_ (own_below c9 ag);have iz:=q_ (fun e he=>own_below (ip e he) ag);have i0:=q_ (fun e he=>own_below (ep e he) ag);have ki:=aL ci;obtain⟨o,ho⟩:=eX v5.heap.size;rw[ho]at ci ki kh;rw[ho];clear ag fq iq g6 dj ij bk ik il im io ip c8 c9 ep ho;obtain⟨a1,_,i1,-,-,cr⟩:=bE ft;have i1':a1=Ah:=by injection i1 with i1;exact i1.symm
   rw[i1']at cr;obtain⟨a2,_,i2,-,-,ct⟩:=bE iw;have i2':a2=d0:=by injection i2 with i2;exact i2.symm
   rw[i2']at ct;have qs:=q_ (aNw Z.way.hosts d0 Ah ez ca N Z.way.vip Z.way.pin (by omega) v6 ct cr);clear i1 i1' i2 i2' cr ct;replace ci:=q_ ci;refine pS ?_;refine bCa ?_;go_simp;go_upto_region 12 with fail
   apply aWa;iterate 3 refine pS ?_
   iterate 3(refine hSa fun K E=>?_;go_simp;refine E _ _ ?_;clear E K)
   iterate 2 refine pS ?_
   refine gG (.agg (aH (.slice d0 N ez) Z.way.vip Z.way.pin)) (by first|rfl|kernel_rfl) (jL v6 _ 54 (.tmp 21) rfl o rfl (aH (.slice d0 N ez) Z.way.vip Z.way.pin) _ ci cXa rfl (by rw[jZ];rfl)) ?_;dsimp only[Act.put];refine gG (.agg (aH (.slice Ah N ca) Z.way.vip Z.way.pin)) (by first|rfl|kernel_rfl) (jL v6 _ 54 (.tmp 16) rfl q rfl (aH (.slice Ah N ca) Z.way.vip Z.way.pin) _ fs cXa rfl (by rw[jZ];rfl)) ?_;dsimp only[Act.put];refine hSa fun K E=>?_;go_simp;refine(qs).mono ?_;rintro e v7 ⟨rfl,an⟩;have i5:=q_ (ir.on an);have i6:=q_ (it.on an);have fu:=q_ (fr.trans (an.mono (by have:=fr.size;omega)));have i7:=q_ (aG an iu);have a6:=q_ (aG an fs);have fv:=q_ (own_below ft an);have i8:=q_ (own_below ix an);have i9:=q_ (own_below iy an);have ja:=q_ (fun e he=>own_below (iz e he) an);have jb:=q_ (fun e he=>own_below (i0 e he) an);have fw:=an.size;have cq:=aA a6 0;clear an ir it fr iu fs ft iw ix iy iz i0 ci qs;go_simp;refine E _ _ ?_;clear E K;refine hSa fun K E=>?_;go_simp;refine E _ _ ?_;clear E K
   iterate 2 refine pS ?_
   iterate 5(refine hSa fun K E=>?_;go_simp;refine E _ _ ?_;clear E K)
   iterate 2 refine pS ?_
   iterate 6(refine hSa fun K E=>?_;go_simp;refine E _ _ ?_;clear E K)
   refine pS ?_;refine bCa ?_;go_simp;have kj:=aA a6 0;go_wp2_with fail
   go_loopw [8,23] (fun _ kv wk=>∃k:Nat,k<=N/\kv=.int .i64 (k:Int)/\Below v7.heap.size v7 wk) (fun _ kv _=>N - (intOf kv).toNat)
   case atStart=>exact⟨0,dEa _,rfl,bLa _ _⟩
   case round =>
    clear kj;obtain⟨k,hk,rfl,G⟩:=hrel;have b2:=G.size;by_cases bz:k<N
    .obtain⟨a1,_,i1,-,-,cr⟩:=bE fv;have i1':a1=Ah:=by injection i1 with i1;exact i1.symm
     rw[i1']at cr;obtain⟨a2,_,i2,-,-,ct⟩:=bE i8;have i2':a2=Ao:=by injection i2 with i2;exact i2.symm
     rw[i2',aMp]at ct;obtain⟨a3,_,i3,-,-,gn⟩:=bE i9;have i3':a3=ju:=by injection i3 with i3;exact i3.symm
     rw[i3']at gn;obtain⟨b7,o7,u,f0,an,hu,d1⟩:=IsR.at (f:=bL) cr bz;obtain⟨b6,o6,I,lm,ag,bu,jz⟩:=IsR.at (f:=bytv) ct bz;obtain⟨b5,o5,e2,ln,bv,bi,gp⟩:=IsT.at (f:=yY) (size:=2) (fun _=>rfl) (by decide) (⟨fp,gn⟩:IsT yY 2 v7 v7.heap.size ju N jt) bz;have jc:I.U=e2.U:=by
      have h:=fFa (fun l=>l[k]?) (dp.trans (fFa (List.map Prod.snd) da.symm));simp only[fGa,bu,bi,eQa]at h;exact bFa h
     have et:u=e2.h:=by
      have h:=fFa (fun l=>l[k]?) (ej.symm.trans (fFa (List.map Prod.fst) da.symm));simp only[fGa,hu,bi,eQa]at h;exact bFa h
     have fx:=(aJa (ja I (bPa bu))).1;have jd:=(aJa (jb e2 (bPa bi))).1;rw[jc]at fx;subst et;have ah:∀l:Later wr,Below v7.heap.size v7 l.w:=fun l=>G.trans (l.hb.mono b2)
     have kk:∀l:Later wr,l.w.cell? ⟨b5,o5+k*2,none⟩=some (.int .i64 e2.h):=fun l=>((ah l).cell (p:=⟨b5,o5+k*2,none⟩) bv).trans (gp 0 _ rfl)
     have kl:∀l:Later wr,l.w.cell? ⟨b5,o5+k*2+1,none⟩=some (.slice e2.A e2.n e2.c):=fun l=>((ah l).cell (p:=⟨b5,o5+k*2+1,none⟩) bv).trans (gp 1 _ rfl)
     have lq:∀l:Later wr,l.w.cell? ⟨q,0,none⟩=some (.slice Ah N ca):=fun l=>aA (aG (ah l) a6) 0
     have lu:∀l:Later wr,l.w.cell? ⟨b7,o7+k,none⟩=some (.int .i64 e2.h):=fun l=>((ah l).cell (p:=⟨b7,o7+k,none⟩) an).trans d1
     have lv:∀l:Later wr,l.w.cell? ⟨b6,o6+k,none⟩=some (.slice I.A I.n I.c):=fun l=>((ah l).cell (p:=⟨b6,o6+k,none⟩) ag).trans jz
     have s1:=fun l:Later wr=>(jd.on (ah l)).str e2.c
     have s2:=fun l:Later wr=>(fx.on (ah l)).str I.c
     clear i1 i1' i2 i2' i3 i3' cr ct gn d1 jz gp fx jd jc hu bu bi ah;subst f0 lm ln;have tk:(k:Int)<(N:Int):=by omega
     have fy:=wJ k;replace G:=q_ G;go_upto_region 17 with fail
     clear tk;refine rL ?_;refine eS 0 25 0 ?_;simp only[dA,dC,dD];iterate 25 refine qE ?_
     refine aT ?_;refine eD fun w9 av=>?_;go_simp;have hb':=q_ (G.trans (av.mono b2));clear kk kl lq lu lv s1 s2 av G;go_wp2_with fail
     exact⟨⟨k+1,by omega,by first|rfl|go_num,hb'⟩,by show N - ((k:Int)+1).toNat<N - ((k:Int)).toNat;omega⟩
    .obtain rfl:N=k:=by omega
     have bg:=q_ (i5.on G);have ai:=q_ (i6.on G);have bn:=q_ (fu.trans (G.mono (by have:=fu.size;omega)));have bh:=q_ (aG G i7);have a7:=q_ (aG G a6);have eu:=q_ (own_below fv G);have ds:wr.cell? ⟨y,12,none⟩=some (.bool X.er):=aA bh 12;have cn:=aA a7 6;have bo:=aA a7 8;have fy:=wJ i;clear G i5 i6 fu i7 a6 fv i8 i9 ja jb dp da ej;by_cases E:Z.K=0
     case neg =>
      have V:Y.T=T:=by rw[el.out,bAa E]
      have I:((Z.K:Int) != 0)=true:=by rw[dLa];omega
      have ax:=q_ (V▸bg);clear ds cn bo E V bg;go_wp2_with fail
      exact⟨⟨i+1,T,os,by omega,by first|rfl|go_num,ax,O,ai,bn⟩,by show L - ((i:Int)+1).toNat<L - ((i:Int)).toNat;omega⟩
     obtain⟨h0,gq,hW⟩:=fk E;have ks:=(hV.vips _ (ht gq)).2.2.1;have V:Y.T=pV T S kG 0 X R:=by rw[el.out,bBa E]
     rw[aPg ks]at V;have kt:N≠0:=by
      intro h;apply fi gq;rw[hW]at hN;exact List.length_eq_zero_iff.1 (hN.trans h)
     rw[hW]at cn bo eu a7;rw[E];clear E;by_cases hx:X.er=true
     .have ax:=(V.trans (bBa (Or.inl hx)))▸bg;rw[hx]at ds;clear cn bo V bg hx;replace ax:=q_ ax;go_wp2_with fail
      exact⟨⟨i+1,T,os,by omega,by first|rfl|go_num,ax,O,ai,bn⟩,by show L - ((i:Int)+1).toNat<L - ((i:Int)).toNat;omega⟩
     have hx':X.er=false:=by cases h:X.er<;>simp_all
     rw[hx']at ds;rw[show(aH (.slice Ah N ca) R.vip R.pin)[6]?=some (.int .i64 R.vip.copies) from rfl]at cn;rw[show(aH (.slice Ah N ca) R.vip R.pin)[8]?=some (.bool R.pin) from rfl]at bo;by_cases d5:R.vip.copies=1
     case neg =>
      have ax:=q_ ((V.trans (bBa (Or.inr d5)))▸bg);have I:(R.vip.copies != 1)=true:=by rw[dLa];exact d5
      clear bo V bg hx hx' d5;go_wp2_with fail
      exact⟨⟨i+1,T,os,by omega,by first|rfl|go_num,ax,O,ai,bn⟩,by show L - ((i:Int)+1).toNat<L - ((i:Int)).toNat;omega⟩
     rw[bAa (by intro k;rcases k with k|k;exact hx k;exact k d5)]at V;rw[d5]at cn;have I:((N:Int) == 0)=false:=by rw[bDa];omega
     obtain⟨j0,j4,-,-⟩:=fj.out
     cases e9:R.pin
     case true =>
      rw[bBa e9]at V;rw[e9]at bo a7;have ku:=aA bh 11;have lT:Hid (wr.rangeAt y 1 (tuL X.t)):=q_ (dZ bh 1 9 _ rfl);clear hx hx';replace V:=q_ V;go_upto_region 21 with fail
      apply aWa;iterate 2 refine pS ?_
      refine wpList_load_mid rfl 46 (.tmp 163) rfl y 1 rfl (tuL X.t) _ lT cRa rfl bW ?_;iterate 2 refine pS ?_
      refine bRa rfl fun K E=>?_;go_simp;refine((aNx ai O X.t (nP cm.t) X.fl)).mono ?_;rintro e v9 ⟨⟨uu,rfl⟩,b3,aa⟩;have ax:=q_ (bg.far (T:=Y.T) ai ap.2.1 ap.2.2 aa);have a8:Hid (Below z w v9):=q_ (bn.trans ⟨aa.os,aa.tape,aa.output,aa.size,fun k hk=>aa.block k (by have:=bn.size;omega) (by have:=ap.out;omega)⟩);rw[<-V.out]at b3;clear aa bg ai bn bh a7 eu ds cn bo ku lT V;replace b3:=q_ b3;go_simp;refine E _ _ ?_;clear E K;refine bCa ?_;go_simp;go_wp2_with fail
      exact⟨⟨i+1,Y.T,j0,by omega,by first|rfl|go_num,ax,j4,b3,a8⟩,by show L - ((i:Int)+1).toNat<L - ((i:Int)).toNat;omega⟩
     case false =>
      rw[bAa (by rw[e9];exact Bool.false_ne_true)]at V;rw[e9]at bo a7;obtain⟨u,tl,e5⟩:∃u tl,R.hosts=u :: tl:=by
       cases hl:R.hosts with
       | nil=>exact absurd hl (fi gq)
       | cons a t=>exact⟨a,t,rfl⟩
      have fz:=eu.out;have je:N=(u :: tl).length:=by rw[<-hN,hW,e5]
      rw[e5,je]at fz;obtain⟨b7,mg,mh,fw,a6,d1⟩:=aNv fz;have f0:Ah=some ⟨b7,0,none⟩:=by injection fw
      have jf:R.hosts.headD 0=u:=by rw[e5];rfl
      rw[jf]at V;clear hx hx' jf fw fz je e5;subst f0;replace V:=q_ V;go_upto_region 22 with fail
      clear ds cn bo;refine rX (aV wr.heap.size (fun k=>k=f2\/k=g2)) ?_;intro v8 cd;have ax:=q_ (bg.on cd);have b3:=q_ (ai.on cd);have a8:=q_ (bn.trans (cd.mono (by have:=bn.size;omega)));have l8:=cd.size;have hmp':=ap.out;have kw:=ai.tab.flt;have kx:=ai.tab.glt;have f1:¬ (y=f2\/y=g2):=by
       obtain⟨j5,b9,-⟩:=ai.tab.row;rintro(rfl|rfl)
       .have h:=ai.tab.blk;rw[bh.out]at h;injection(bFa h)with _ h _;exact absurd h (by decide)
       .rw[bh.out]at b9;injection(bFa b9)with _ h _;exact absurd h (by decide)
      have jg:¬ (q=f2\/q=g2):=by
       obtain⟨j5,b9,-⟩:=ai.tab.row;rintro(rfl|rfl)
       .have h:=ai.tab.blk;rw[a7.out]at h;injection(bFa h)with _ h _;exact absurd h (by decide)
       .rw[a7.out]at b9;injection(bFa b9)with _ h _;exact absurd h (by decide)
      have jh:¬ (b7=f2\/b7=g2):=by
       obtain⟨j5,b9,-⟩:=ai.tab.row;rintro(rfl|rfl)
       .have h:=ai.tab.blk;rw[a6]at h;injection(bFa h)with _ h _;exact absurd h (by decide)
       .rw[a6]at b9;injection(bFa b9)with _ h _;exact absurd h (by decide)
      have l7:∀l:bU (aV wr.heap.size (fun k=>k=f2\/k=g2)) v8,l.w.cell? ⟨b7,0,none⟩=some (.int .i64 u):=fun l=>(aA ((l.hk.block b7 (aL a6) jh).trans (aG cd a6)) 0).trans d1
      have ji:=aL bh;have kz:=aL a7;have lT:Hid (∀l:bU (aV wr.heap.size (fun k=>k=f2\/k=g2)) v8,l.w.rangeAt y 1 (tuL X.t)):=q_ (fun l=>dZ ((l.hk.block y ji f1).trans (aG cd bh)) 1 9 _ rfl);have k0:=fun l:bU (aV wr.heap.size (fun k=>k=f2\/k=g2)) v8=>aA ((l.hk.block y ji f1).trans (aG cd bh)) 11
      have k4:=fun l:bU (aV wr.heap.size (fun k=>k=f2\/k=g2)) v8=>aA ((l.hk.block q kz jg).trans (aG cd a7)) 0
      have tN:0<N:=Nat.pos_of_ne_zero kt;clear hmp' kw kx;refine xS (aV wr.heap.size (fun k=>k=f2\/k=g2)) 0 9 1 ?_;simp only[dA,dC,dD];iterate 2 refine qX ?_
      refine dU rfl 46 (.tmp 169) rfl y 1 rfl (tuL X.t) _ lT cRa rfl bW ?_;iterate 6 refine qX ?_
      refine aN ?_;clear lT k0 k4 l7 a6 d1 jh;refine fS 9 rfl fun K E=>?_;go_simp;go_at_call 16;refine(aQp b3 O X.t (nP cm.t) u X.fl).mono ?_;rintro e v9 ⟨⟨uu,rfl⟩,ev,aa⟩;refine E _ _ ⟨aa.os,aa.tape,aa.output,aa.size,fun k hk hn=>aa.block k (by omega) hn⟩ ?_;clear E K;have k5:=q_ (ax.far (T:=Y.T) b3 ap.2.1 ap.2.2 aa);have k6:Hid (Below z w v9):=q_ (a8.trans ⟨aa.os,aa.tape,aa.output,aa.size,fun k hk=>aa.block k (by have:=a8.size;omega) (by have:=ap.out;omega)⟩);rw[<-V.out]at ev;clear aa bg ai bn bh a7 eu V ax b3 a8 f1 jg;replace ev:=q_ ev;refine fD ?_;go_wp2_with fail
      exact⟨⟨i+1,Y.T,j0,by omega,by first|rfl|go_num,k5,j4,ev,k6⟩,by show L - ((i:Int)+1).toNat<L - ((i:Int)).toNat;omega⟩
  .have ma:=al.size;by_cases h1:i<L
   .have dl:(i:Int)<(L:Int):=by omega
    have fo:¬ ((i:Int)<40):=by omega
    go_upto_region 23 with fail
    clear dl fo;refine rX (Below wo.heap.size) ?_;intro v1 J;have am:=q_ (aq.on J);have bf:=q_ (a0.on J);have a4:=q_ (al.trans (J.mono (by have:=al.size;omega)));have f3:=J.size;have f4:=aL aq.sc.blk;have f5:=aq.sc.pins.plt;have f6:=a0.plt;have lp:∀l:bU (Below wo.heap.size) v1,l.w.cell? ⟨pp,4,none⟩=some (.pointer (some ⟨p,0,none⟩)):=fun l=>aA ((l.hk.block pp f4).trans am.sc.blk) 4
    have lf:∀l:bU (Below wo.heap.size) v1,l.w.cell? ⟨p,0,none⟩=some (.pointer (some ⟨f,0,none⟩)):=fun l=>aA ((l.hk.block p f5).trans am.sc.pins.blk) 0
    have lg:∀l:bU (Below wo.heap.size) v1,l.w.cell? ⟨p2,0,none⟩=some (.pointer (some ⟨f2,0,none⟩)):=fun l=>aA ((l.hk.block p2 f6).trans bf.blk) 0
    clear aq a0 al J;refine xS (Below wo.heap.size) 0 7 8 ?_;simp only[dA,dC,dD];iterate 7 refine qX ?_
    refine aN ?_;refine xS (Below wo.heap.size) 8 4 4 ?_;simp only[dB,dA,dC,dD];iterate 4 refine qX ?_
    refine aN ?_;clear lp lf lg;refine fS 7 rfl fun K E=>?_;go_simp;go_at_call 17;refine(uJ am.sc.pins.tab O).mono ?_;rintro e v2 ⟨⟨va,rfl,bp⟩,W⟩;refine E _ _ (W.mono f3) ?_;clear E K;have ga:=W.size;have b1:=q_ (bf.on W);have ad:=q_ (a4.trans (W.mono (by have:=a4.size;omega)));clear W bf a4 am;replace bp:=q_ bp;refine fS 12 rfl fun K E=>?_;go_simp;go_at_call 17;refine(uJ b1.tab O).mono ?_;rintro e v3 ⟨⟨vb,rfl,d4⟩,bx⟩;refine E _ _ (bx.mono (by omega)) ?_;clear E K;have du:=own_below bp bx;have a5:=q_ (ad.trans (bx.mono (by have:=ad.size;omega)));clear bx b1 ad bp;obtain⟨Aa,ca,rfl,-,-,a9⟩:=bE du;obtain⟨Ab,cb,rfl,-,-,bc⟩:=bE d4;rw[aP3]at a9 bc;obtain⟨EE,cu⟩:∃EE,os.map (fun i=>(T.at' i).e)=EE:=⟨_,rfl⟩
    rw[cu]at a9 bc;have br:EE.length=os.length:=by rw[<-cu,bNa]
    obtain⟨N,hN⟩:=eX os.length;have k7:N<=1048576:=by have:=O.lt;have:=O.small;omega
    rw[hN]at a9 bc br;rw[hN];have dv:Hid (IsT enL 12 v3 v3.heap.size Aa N EE):=q_ (⟨br,a9⟩);have dw:Hid (IsT enL 12 v3 v3.heap.size Ab N EE):=q_ (⟨br,bc⟩);clear du d4 a9 bc cu hN br O;refine xM 13 rfl ?_;refine xM 14 rfl ?_;refine fD ?_;go_wp2_with fail
    go_loopw [8,26] (fun _ kv wk=>∃k:Nat,k<=N/\kv=.int .i64 (k:Int)/\Below v3.heap.size v3 wk) (fun _ kv _=>N - (intOf kv).toNat)
    case atStart=>exact⟨0,dEa _,rfl,bLa _ _⟩
    case round =>
     obtain⟨k,hk,rfl,G⟩:=hrel;have b2:=G.size;by_cases bz:k<N
     .obtain⟨ba,oa,I,gu,gv,bu,d2⟩:=IsT.at (f:=enL) (size:=12) (fun _=>rfl) (by decide) dv bz;obtain⟨bb,ob,e2,gw,gx,bi,d3⟩:=IsT.at (f:=enL) (size:=12) (fun _=>rfl) (by decide) dw bz;obtain rfl:I=e2:=bFa (bu.symm.trans bi);have ah:∀l:Later wr,Below v3.heap.size v3 l.w:=fun l=>G.trans (l.hb.mono b2)
      have la:Hid (∀l:Later wr,l.w.rangeAt ba (oa+k*12) (enL I)):=q_ (fun l j u hu=>((ah l).cell (p:=⟨ba,oa+k*12+j,none⟩) gv).trans (d2 j u hu));have lb:Hid (∀l:Later wr,l.w.rangeAt bb (ob+k*12) (enL I)):=q_ (fun l j u hu=>((ah l).cell (p:=⟨bb,ob+k*12+j,none⟩) gx).trans (d3 j u hu));have tk:(k:Int)<(N:Int):=by omega
      have fy:=wJ k;clear d2 d3 bu bi ah;subst gu gw;replace G:=q_ G;go_upto_region 29 with fail
      clear tk;refine rL ?_;refine eS 0 9 0 ?_;simp only[dA,dC,dD];iterate 3 refine qE ?_
      refine kQ rfl 64 (.tmp 204) rfl ba (oa+k*12) rfl (enL I) _ la eXa rfl uS ?_;iterate 3 refine qE ?_
      refine kQ rfl 64 (.tmp 208) rfl bb (ob+k*12) rfl (enL I) _ lb eXa rfl uS ?_;refine nY (.bool false) rfl (fun l=>neq_en I _ (.tmp 205) (.tmp 209) rfl rfl rfl l.w) ?_;refine aT ?_;refine eD fun w9 av=>?_;go_simp;have hb':=q_ (G.trans (av.mono b2));clear la lb av G;go_wp2_with fail
      exact⟨⟨k+1,by omega,by first|rfl|go_num,hb'⟩,by show N - ((k:Int)+1).toNat<N - ((k:Int)).toNat;omega⟩
     .obtain rfl:N=k:=by omega
      have a8:=q_ (a5.trans (G.mono (by have:=a5.size;omega)));clear G dv dw a5;go_wp2_with fail
      refine(aBk wr).mono ?_;rintro e w9 ⟨rfl,av⟩;go_wp2_with fail
      go_ret;exact⟨rfl,by rw[hz];exact a8.trans (av.mono (by have:=a8.size;omega))⟩
   .have dl:¬ ((i:Int)<(L:Int)):=by omega
    go_upto_region 23 with fail
    clear dl;refine rX (Below wo.heap.size) ?_;intro v1 J;have am:=q_ (aq.on J);have bf:=q_ (a0.on J);have a4:=q_ (al.trans (J.mono (by have:=al.size;omega)));have f3:=J.size;have f4:=aL aq.sc.blk;have f5:=aq.sc.pins.plt;have f6:=a0.plt;have lp:∀l:bU (Below wo.heap.size) v1,l.w.cell? ⟨pp,4,none⟩=some (.pointer (some ⟨p,0,none⟩)):=fun l=>aA ((l.hk.block pp f4).trans am.sc.blk) 4
    have lf:∀l:bU (Below wo.heap.size) v1,l.w.cell? ⟨p,0,none⟩=some (.pointer (some ⟨f,0,none⟩)):=fun l=>aA ((l.hk.block p f5).trans am.sc.pins.blk) 0
    have lg:∀l:bU (Below wo.heap.size) v1,l.w.cell? ⟨p2,0,none⟩=some (.pointer (some ⟨f2,0,none⟩)):=fun l=>aA ((l.hk.block p2 f6).trans bf.blk) 0
    clear aq a0 al J;refine xS (Below wo.heap.size) 0 7 8 ?_;simp only[dA,dC,dD];iterate 7 refine qX ?_
    refine aN ?_;refine xS (Below wo.heap.size) 8 4 4 ?_;simp only[dB,dA,dC,dD];iterate 4 refine qX ?_
    refine aN ?_;clear lp lf lg;refine fS 7 rfl fun K E=>?_;go_simp;go_at_call 17;refine(uJ am.sc.pins.tab O).mono ?_;rintro e v2 ⟨⟨va,rfl,bp⟩,W⟩;refine E _ _ (W.mono f3) ?_;clear E K;have ga:=W.size;have b1:=q_ (bf.on W);have ad:=q_ (a4.trans (W.mono (by have:=a4.size;omega)));clear W bf a4 am;replace bp:=q_ bp;refine fS 12 rfl fun K E=>?_;go_simp;go_at_call 17;refine(uJ b1.tab O).mono ?_;rintro e v3 ⟨⟨vb,rfl,d4⟩,bx⟩;refine E _ _ (bx.mono (by omega)) ?_;clear E K;have du:=own_below bp bx;have a5:=q_ (ad.trans (bx.mono (by have:=ad.size;omega)));clear bx b1 ad bp;obtain⟨Aa,ca,rfl,-,-,a9⟩:=bE du;obtain⟨Ab,cb,rfl,-,-,bc⟩:=bE d4;rw[aP3]at a9 bc;obtain⟨EE,cu⟩:∃EE,os.map (fun i=>(T.at' i).e)=EE:=⟨_,rfl⟩
    rw[cu]at a9 bc;have br:EE.length=os.length:=by rw[<-cu,bNa]
    obtain⟨N,hN⟩:=eX os.length;have k7:N<=1048576:=by have:=O.lt;have:=O.small;omega
    rw[hN]at a9 bc br;rw[hN];have dv:Hid (IsT enL 12 v3 v3.heap.size Aa N EE):=q_ (⟨br,a9⟩);have dw:Hid (IsT enL 12 v3 v3.heap.size Ab N EE):=q_ (⟨br,bc⟩);clear du d4 a9 bc cu hN br O;refine xM 13 rfl ?_;refine xM 14 rfl ?_;refine fD ?_;go_wp2_with fail
    go_loopw [8,26] (fun _ kv wk=>∃k:Nat,k<=N/\kv=.int .i64 (k:Int)/\Below v3.heap.size v3 wk) (fun _ kv _=>N - (intOf kv).toNat)
    case atStart=>exact⟨0,dEa _,rfl,bLa _ _⟩
    case round =>
     obtain⟨k,hk,rfl,G⟩:=hrel;have b2:=G.size;by_cases bz:k<N
     .obtain⟨ba,oa,I,gu,gv,bu,d2⟩:=IsT.at (f:=enL) (size:=12) (fun _=>rfl) (by decide) dv bz;obtain⟨bb,ob,e2,gw,gx,bi,d3⟩:=IsT.at (f:=enL) (size:=12) (fun _=>rfl) (by decide) dw bz;obtain rfl:I=e2:=bFa (bu.symm.trans bi);have ah:∀l:Later wr,Below v3.heap.size v3 l.w:=fun l=>G.trans (l.hb.mono b2)
      have la:Hid (∀l:Later wr,l.w.rangeAt ba (oa+k*12) (enL I)):=q_ (fun l j u hu=>((ah l).cell (p:=⟨ba,oa+k*12+j,none⟩) gv).trans (d2 j u hu));have lb:Hid (∀l:Later wr,l.w.rangeAt bb (ob+k*12) (enL I)):=q_ (fun l j u hu=>((ah l).cell (p:=⟨bb,ob+k*12+j,none⟩) gx).trans (d3 j u hu));have tk:(k:Int)<(N:Int):=by omega
      have fy:=wJ k;clear d2 d3 bu bi ah;subst gu gw;replace G:=q_ G;go_upto_region 29 with fail
      clear tk;refine rL ?_;refine eS 0 9 0 ?_;simp only[dA,dC,dD];iterate 3 refine qE ?_
      refine kQ rfl 64 (.tmp 204) rfl ba (oa+k*12) rfl (enL I) _ la eXa rfl uS ?_;iterate 3 refine qE ?_
      refine kQ rfl 64 (.tmp 208) rfl bb (ob+k*12) rfl (enL I) _ lb eXa rfl uS ?_;refine nY (.bool false) rfl (fun l=>neq_en I _ (.tmp 205) (.tmp 209) rfl rfl rfl l.w) ?_;refine aT ?_;refine eD fun w9 av=>?_;go_simp;have hb':=q_ (G.trans (av.mono b2));clear la lb av G;go_wp2_with fail
      exact⟨⟨k+1,by omega,by first|rfl|go_num,hb'⟩,by show N - ((k:Int)+1).toNat<N - ((k:Int)).toNat;omega⟩
     .obtain rfl:N=k:=by omega
      have a8:=q_ (a5.trans (G.mono (by have:=a5.size;omega)));clear G dv dw a5;go_wp2_with fail
      refine(aBk wr).mono ?_;rintro e w9 ⟨rfl,av⟩;go_wp2_with fail
      go_ret;exact⟨rfl,by rw[hz];exact a8.trans (av.mono (by have:=a8.size;omega))⟩
theorem aUx(J:Option Addr)(L k1:Nat)(Z:List Nd)(N:Option Addr)(O k2:Nat)(e2:List Vp)(V:Option Addr)(W k3:Nat)(e3:List Vw)(f d:Int)(a:Bool)(b e:Int)(a':Bool)(b' e':Int)(A:Option Addr)(j E:Nat)(hs:List Int)(sd:Int)(X:Option Addr)(G I:Nat)(Y:List nR)(w:World)
 (h1:IsT ndC 7 w w.heap.size J L Z/\∀x∈Z,Nd.fits x) (a1:L<=k1) (ag:k1<=maxLen) (h2:IsT vpC 7 w w.heap.size N O e2/\∀x∈e2,Vp.fits x) (a2:O<=k2) (ai:k2<=maxLen) (h3:IsT vwC 5 w w.heap.size V W e3/\∀x∈e3,Vw.fits x) (a3:W<=k3) (ak:k3<=maxLen)
 (_:(Lit.int .i64 f).wf=true) (_:(Lit.int .i64 d).wf=true) (g1:(Lit.int .u64 b).wf=true) (g2:(Lit.int .u64 e).wf=true) (g3:(Lit.int .u64 b').wf=true) (g4:(Lit.int .u64 e').wf=true) (hH:IsR bL w w.heap.size A j hs) (aq:j<=E) (ar:E<=maxLen) (au:(Lit.int .u64 sd).wf=true)
 (hL:IsR bytv w w.heap.size X G Y/\∀e∈Y,IsB w w.heap.size e.A e.n e.U/\e.n<=e.c/\e.c<=maxLen) (av:G<=I) (aw:I<=maxLen) :
 Cl 3 #[.agg #[.slice J L k1,.slice N O k2,.slice V W k3,.int .i64 f,.int .i64 d,.bool a,.int .u64 b,.int .u64 e,.bool a',.int .u64 b',.int .u64 e'],.slice A j E,.int .u64 sd,.slice X G I] w fun e w'=>e=.returned (.bool true)/\Below w.heap.size w w':=by
 obtain⟨c,hR,hg,c1,c2,c3,hv⟩:=aS7 (k1:=k1) (k2:=k2) (k3:=k3) (f:=f) (d:=d) (a:=a) (a':=a') h1 h2 h3 g1 g2 g3 g4;obtain⟨s,rfl,a0⟩:=zV au;rw[hv];exact aSi c hg w J N V k1 k2 k3 hR ⟨by omega,ag⟩ ⟨by omega,ai⟩ ⟨by omega,ak⟩ A j E hs hH aq ar s a0 X G I Y hL.1 hL.2 av aw
end Go.Proofs.YtpcifakangbpaaaGreat
