/- Parts of the proof of PathOpens: contracts of functions of the program. No condition but those that each theorem names. -/
import Derived.Test.YtpcifakangbpaaaGreatQPathOpens29
set_option linter.unusedVariables false
set_option linter.unusedSimpArgs false
set_option maxRecDepth 100000
set_option maxHeartbeats 16000000
namespace Go.Proofs.YtpcifakangbpaaaGreat
open Go.RowKit Go.ChangeShapes Go.WideShapes Go.ChangeAt Go.Deep Go.Proofs.Tryz
variable {R xs:List UInt8}{B E J N O S V b base' c f fuel g i j k m n s sd sz:Nat}{Q:Exit->Act->World->Prop}{d w' w0:World}{u v z:Value}{T e t:TypeId}{A:Option Addr}{h os:List Nat}{F:List UInt8->Option Nat}{p:List Nat×List Bool}{a:Act}{α:Type}{H l:List Int}{o:Oper}{G:Array Oper}{K:Act->World->Prop}{y:Array Value}{vs:List Value}{L:List Oper}{I:Bool}{U W Y aa:List (Int×List UInt8)}{P:Program}
section
theorem aMj{c:Cfg}{H:List Int}{F sd S:Nat}{T:FT}{x:Px}(h:(bM c H F sd T S x).K=0):(bM c H F sd T S x).hosts≠[]:=by
 unfold bM at h ⊢
 cases E:nA c (qH x)with
 | none=>rw[E]at h;cases h
 | some v =>
  rw[E]at h;dsimp only at h ⊢;split at h
  .cases h
  .rename_i G;rw[bAa G];split at h
   .rename_i j;rw[bBa j];simp
   .rename_i j;rw[bAa j];split at h
    .cases h
    .rename_i I;rw[bAa I];split at h
     .cases h
     .rename_i A;rw[bAa A];exact A
section
variable {w:World} {pp x v s b p f g S:Nat} {c:Cfg} {H:List Int} {Fn:Nat} {sd:Nat} {T:FT} {r:Ru} {now:Int}
theorem aGb{K:Nat}(A:Sc w pp x v s b p f g S c H (Fn:Int) sd T r now)(j:bJ b (Fn:Int) sd w w') :
 aP1 pp x v s b p f g S c H (Fn:Int) sd r now ⟨K,[],jS 0,T⟩ w w' (.returned (.tuple #[.slice none 0 0,.agg (aH (.slice none 0 0) vpZ false),.int .i64 (K:Int)])) :=
 ⟨_,_,rfl,mZ.nil _ _,cKa _ _ _ 1,A.walk j,ScE.wk j⟩
theorem aKq(hS:Sc w pp x v s b p f g S c H (Fn:Int) sd T r now)(hI:jJ T S os)(ek:sd<18446744073709551616)(h1:100<=Fn)(h2:Fn<=1000)(hG:nD c.nodes)(K0:Nat)(X:Px)(n:Nat)(xs:List UInt8)(hP:PxA n xs K0 X)(hX:xG X)(dg:K0≠0->X=pxZ)
 (snd:Int->Nat×List UInt8) (a8:K0=0->(bM c H Fn sd T S X).K=0->∀h∈(bM c H Fn sd T S X).hosts,aCj c X n xs (bM c H Fn sd T S X).vip h (snd h).1 (snd h).2) (dh:(bM c H Fn sd T S X).hosts.length<=1048576)
 (A:Option Addr) (cc:Nat) (hx:∀w',ScE b f g w w'->IsB w' w'.heap.size A n xs) (di:n<=cc) (dj:cc<=maxLen) :
 Cl 13 #[.pointer (some ⟨pp,0,none⟩),.slice A n cc] w fun e w'=>aP1 pp x v s b p f g S c H (Fn:Int) sd r now (gX K0 (bM c H Fn sd T S X) snd T (pV T S r now X (bM c H Fn sd T S X))) w w' e:=by
 have qf:=q_ (fun w' (h:Sc w' pp x v s b p f g S c H (Fn:Int) sd T r now)=>aKk h hI ek h1 h2 hG X hX);have bs:=q_ (aMj (c:=c) (H:=H) (F:=Fn) (sd:=sd) (S:=S) (T:=T) (x:=X));have qk:=fun w' (h:Sc w' pp x v s b p f g S c H (Fn:Int) sd T r now)=>keep_any h hI X hX
 have qp:∀w',IsB w' w'.heap.size A n xs->Cl 11 #[.slice A n cc] w' fun e br=>e=.returned (.tuple #[.agg (gP X),.int .i64 (K0:Int)])/\Below w'.heap.size w' br:=fun w' h=>(hP A cc w' h di dj).mono (by
  rintro e br ⟨rfl,L⟩;refine⟨?_,L⟩;by_cases h0:K0=0
  .rw[bBa h0]
  .rw[bAa h0,dg h0]
   rfl)
 obtain⟨R,hR⟩:=eX (bM c H Fn sd T S X);rw[hR]at qf bs a8 dh ⊢;obtain⟨KT,c7⟩:∃T',pV T S r now X R=T':=⟨_,rfl⟩
 rw[c7];have az:∀w',Sc w' pp x v s b p f g S c H (Fn:Int) sd T r now->∀(cm:Nat) (hv:Value),w'.ownsRow cm 3 1 hv R.hosts.length (R.hosts.map bL)->R.hosts≠[]->Cl 39 #[.pointer (some ⟨pp,0,none⟩),.agg (gP X),.agg (aH hv R.vip R.pin)] w' fun e br=>(∃u,e=.returned u)/\PAt br p f g S KT r now/\bH f g w' br:=fun w' h cm hv hr O=>by
  cases e:R.hosts with
  | nil=>exact absurd e O
  | cons h0 tl=>exact c7▸qk w' h R cm hv hr h0 tl e
 clear qk c7;obtain⟨Z,hZ⟩:=eX (gX K0 R snd T KT);rw[hZ];unfold gX at hZ;obtain⟨w1,c9⟩:=eX (w.alloc (.cells #[.slice none 0 0,.bool false,.int .u64 0,.int .u64 0,.int .i64 0,.int .i64 0,.int .i64 0,.bool false,.bool false] 54));have bu:Hid (Below w.heap.size w w1):=q_ (c9▸bC);have b4:Hid (w1.heap[w.heap.size]?=some (.cells (aH (.slice none 0 0) vpZ false) 54 (0,0))):=q_ (c9▸aJ _ _ _);have cr:=q_ (hS.on bu);have ct:=q_ (hx w1 (ScE.quiet bu));have hW:=q_ hS.wk;have an:=q_ hS;have qn:=aAr cr;have ba:=q_ hx;obtain⟨z,hz⟩:=eX w.heap.size;rw[hz]at bu b4;have fd:=aL b4;clear hS hx hI hX dg hP hR;replace ⟨a8,qp,az,hZ⟩:=q_4 a8 qp az hZ;go_enter func13,ntmps13;go_wp2_with fail
 clear c9;refine qn.mono ?_;rintro e w1 ⟨rfl,rfl⟩;clear qn;go_upto_region 3 with fail
 apply aWa;refine pS ?_;refine bRa rfl fun K G=>?_;go_simp;refine((qp w1 ct)).mono ?_;rintro e w2 ⟨rfl,bk⟩;have dm:=q_ (cr.on bk);have dn:=q_ (aG bk b4);have dp:=q_ (ct.on bk);have dq:=q_ ((tw bu bk));have fe:=bk.size;clear bk cr b4 bu ct qp;go_simp;refine G _ _ ?_;clear G K;iterate 3 refine pS ?_
 refine gF rfl rfl 48 _ (vR _ rfl) 7 rfl (.tmp 21) rfl _ (fun _=>rfl) (fun _=>rfl) rfl (by rw[bK];rfl) (aNm X) ?_;intro w3 a0 bm e8;have b5:=q_ (dm.on bm);have cu:=q_ (aG bm dn);have dr:=q_ (dp.on bm);have cv:=q_ ((tw dq bm));have ep:=bm.size;have eq:z<w2.heap.size:=by omega
 obtain⟨y,hy⟩:=eX w2.heap.size;rw[hy]at a0 e8 ep eq;rw[hy];clear bm dm dn dp dq hy;replace a0:=q_ a0;refine pS ?_;refine bCa ?_;go_simp;by_cases E:K0=0
 case neg =>
  have a1:Hid (Z=⟨K0,[],jS 0,T⟩):=q_ (by rw[<-hZ.out,bBa E]);have e1:((K0:Int) != 0)=true:=by rw[dLa];omega
  clear hZ qf bs a8 az b5 dr a0 ba E;go_upto_region 5 with fail
  apply aWa;iterate 3 refine pS ?_
  refine sW 54 (.tmp 5) (.tmp 25) z (aH (.slice none 0 0) vpZ false) cu (eG rfl vpZ false) cXa fun V af j J=>?_;have ap:Hid (bJ b (Fn:Int) sd w V):=q_ (bJ.below hW (by rw[hz];exact cv.trans (below_grown j (by omega) (aZa _))));clear af j;replace J:=q_ J;refine pS ?_;refine bCa ?_;go_simp;go_wp2_with fail
  exact aYa (v:=.tuple #[.slice none 0 0,.agg (aH (.slice none 0 0) vpZ false),.int .i64 (K0:Int)]) (by simp[results,results13,asAddr,J.out,Result.andThen]) rfl (a1.out▸aGb an ap)
 have hx3':=ba.out;subst E;have a1:=q_ hZ;rw[bAa (fun h=>h rfl)]at a1;have hsnd':=q_ (a8 rfl);clear hZ a8 dr hx3';go_upto_region 6 with fail
 apply aWa;refine pS ?_;refine gG (.agg (gP X)) rfl (jL w3 _ 48 (.tmp 7) rfl y rfl (gP X) _ a0 cMa rfl (by rw[bK];rfl)) ?_;dsimp only[Act.put];refine bRa rfl fun K G=>?_;go_simp;refine((qf w3 b5)).mono ?_;rintro e w4 ⟨hv,rfl,hr,bl⟩;obtain⟨Ah,cl,rfl,-,-,-⟩:=bE hr;have ff:=bl.2.size;have fg:b<z:=by have:=an.wk.lt;omega
 have fh:f<z:=by have:=an.pins.tab.flt;omega
 have fi:g<z:=by have:=an.pins.tab.glt;omega
 have fj:p<z:=by have:=an.pins.plt;omega
 have ds:Hid (bJ b (Fn:Int) sd w w4):=q_ ((bJ.below hW (by rw[hz];exact cv)).trans bl);have dt:=q_ (b5.walk bl);have du:=q_ ((bl.2.block z (by omega) (by omega)).trans cu);have dv:=q_ ((bl.2.block y (by omega) (by omega)).trans a0);clear bl b5 cu a0 cv qf;replace hr:=q_ hr;go_simp;refine G _ _ ?_;clear G K;iterate 3 refine pS ?_
 refine gF rfl rfl 54 _ (yK _ rfl) 9 rfl (.tmp 31) rfl _ (fun _=>rfl) (fun _=>rfl) rfl (by rw[jZ];rfl) (eG rfl R.vip R.pin) ?_;intro w5 ag a6 e9;have b6:=q_ (dt.on a6);have bv:=q_ (aG a6 du);have b7:=q_ (aG a6 dv);have b8:=q_ (own_below hr a6);have ab:=q_ (ds.quiet a6);have er:=a6.size;have et:y<w4.heap.size:=by omega
 have eu:z<w4.heap.size:=by omega
 obtain⟨q,hq⟩:=eX w4.heap.size;rw[hq]at ag e9 er et eu;rw[hq];clear a6 dt du dv hr ds hq;replace ag:=q_ ag;refine pS ?_;refine bCa ?_;go_simp;by_cases a7:R.K=0
 case neg =>
  have aq:Hid (Z=⟨R.K,[],jS 0,T⟩):=q_ (by rw[<-a1.out,bBa a7]);have e1:((R.K:Int) != 0)=true:=by rw[dLa];omega
  obtain⟨KK,dd⟩:∃n,R.K=n:=⟨_,rfl⟩
  rw[dd]at aq e1;rw[dd];clear a1 bs hsnd' az b6 b7 ag ba a7 b8 dd;go_upto_region 8 with fail
  apply aWa;iterate 3 refine pS ?_
  refine sW 54 (.tmp 5) (.tmp 35) z (aH (.slice none 0 0) vpZ false) bv (eG rfl vpZ false) cXa fun V af j J=>?_;have ap:Hid (bJ b (Fn:Int) sd w V):=q_ (⟨uF ab.1 bv (by decide) (by decide) j,⟨j.os.trans ab.2.os,j.tape.trans ab.2.tape,j.output.trans ab.2.output,bJa ab.2.size j.size,fun k E O=>(j.block k (bKa E ab.2.size) (fun e=>by have:=bFa e;omega)).trans (ab.2.block k E O)⟩⟩);clear af j;replace J:=q_ J;refine pS ?_;refine bCa ?_;go_simp;go_wp2_with fail
  exact aYa (v:=.tuple #[.slice none 0 0,.agg (aH (.slice none 0 0) vpZ false),.int .i64 (KK:Int)]) (by simp[results,results13,asAddr,J.out,Result.andThen]) rfl (aq.out▸aGb an ap)
 have aq:=q_ a1;rw[bAa (fun h=>h a7)]at aq;have hne':=bs a7;have cx:=q_ (hsnd' a7);rw[a7];clear a1 bs hsnd' a7;have ev:=aA ag 0;have fk:=aL ag;go_wp2_with fail
 go_loopw [10,12,13,14,40] (fun ov _ _ _ iv wr=>∃i:Nat,i<=R.hosts.length/\iv=.int .i64 (i:Int)/\(∃es:List nR,es.length=i/\es.map (fun e=>(e.h,e.U))=(R.hosts.take i).map (fun h=>(h,(snd h).2))/\wr.ownsRow w5.heap.size 62 2 ov es.length (es.map yY).flatten/\∀e∈es,aZ wr w5.heap.size (.slice e.A e.n e.c) e.U)/\(∀k∈R.hosts.take i,(snd k).1=0)/\Below w5.heap.size w5 wr) (fun _ _ _ _ iv _=>R.hosts.length - (intOf iv).toNat)
 case atStart=>exact⟨0,dEa _,rfl,⟨[],rfl,rfl,cKa _ _ _ 2,fun e h=>by cases h⟩,fun k E=>by simp at E,bLa _ _⟩
 case round =>
  clear ev;obtain⟨i,hi,rfl,⟨es,bb,au,bc,bd⟩,ak,L⟩:=hrel;have ah:=b6.on L;have ar:=aG L bv;have ai:=aG L b7;have ac:=aG L ag;have aj:=own_below b8 L;have ad:=ab.quiet L;have ew:=L.size;by_cases fa:i<R.hosts.length
  .obtain⟨_,_,h9,-,-,eg⟩:=bE aj;injection h9 with h9
   subst h9;obtain⟨bq,e7,u,rfl,fp,hu,dy⟩:=IsR.at (f:=bL) eg fa;have dw:Hid (u∈R.hosts):=q_ (bPa hu);have tl:(i:Int)<(R.hosts.length:Int):=by omega
   have qs:=q_ (aUg ah X n xs R.vip u _ _ (cx u dw) A cc (ba wr (ScE.wk ad)) di dj);obtain⟨⟨Ku,Y⟩,av⟩:∃a,snd u=a:=⟨_,rfl⟩
   rw[av]at qs;dsimp only at qs;have hcu':wr.cell? ⟨bq,e7+i,none⟩=some (.int .i64 u):=dy;clear eg dy;replace ⟨bb,au,bc,bd,ak,L,ah,ar,ai,ac,aj,ad⟩:=q_12 bb au bc bd ak L ah ar ai ac aj ad;replace ⟨hu,av⟩:=q_2 hu av;go_upto_region 13 with fail
   clear hcu';apply aWa;refine pS ?_;refine gG (.agg (gP X)) rfl (jL wr _ 48 (.tmp 7) rfl y rfl (gP X) _ ai cMa rfl (by rw[bK];rfl)) ?_;dsimp only[Act.put];iterate 2 refine pS ?_
   refine wpList_load_mid rfl 52 (.tmp 48) rfl q 1 rfl (fK R.vip).toList _ (dZ ac 1 7 _ rfl) fWa rfl (by rw[mJ];rfl) ?_;refine pS ?_;refine bRa rfl fun K G=>?_;go_simp;refine((qs)).mono ?_;rintro e w6 ⟨v2,rfl,bf,ca,a4⟩;have be:=q_ (aG a4 ar);have W:=q_ (ad.quiet a4);have cy:=q_ (L.trans (a4.mono ew));have ex:=a4.size;have cz:=q_ (own_below bc a4);have c0:=q_ (fun e he=>(bd e he).below a4);clear ar ai ac aj ad qs a4 ah L bc bd;replace ⟨bf,ca⟩:=q_2 bf ca;go_simp;refine G _ _ ?_;clear G K;iterate 5 refine pS ?_
   refine bCa ?_;go_simp;by_cases bz:Ku=0
   case neg =>
    have a3:Z=⟨Ku,[],jS 0,T⟩:=by
     have dz:=aEb ak hu (by rw[av.out];exact bz);rw[av.out]at dz;rw[<-aq.out,dz,bBa bz]
    have e1:((Ku:Int) != 0)=true:=by rw[dLa];omega
    clear aq ak au cz c0 bf ca bz cy b6 bv b7 b8 ab ag cx ba az;replace a3:=q_ a3;go_upto_region 15 with fail
    apply aWa;iterate 3 refine pS ?_
    refine sW 54 (.tmp 5) (.tmp 56) z (aH (.slice none 0 0) vpZ false) be (eG rfl vpZ false) cXa fun V af j J=>?_;have ap:Hid (bJ b (Fn:Int) sd w V):=q_ (⟨uF W.1 be (by decide) (by decide) j,⟨j.os.trans W.2.os,j.tape.trans W.2.tape,j.output.trans W.2.output,bJa W.2.size j.size,fun k E O=>(j.block k (bKa E W.2.size) (fun e=>by have:=bFa e;omega)).trans (W.2.block k E O)⟩⟩);clear af j;replace J:=q_ J;refine pS ?_;refine bCa ?_;go_simp;go_wp2_with fail
    exact aYa (v:=.tuple #[.slice none 0 0,.agg (aH (.slice none 0 0) vpZ false),.int .i64 (Ku:Int)]) (by simp[results,results13,asAddr,J.out,Result.andThen]) rfl (a3.out▸aGb an ap)
   obtain⟨A2,c2,rfl,fq,fr,-⟩:=(bf bz).form;subst bz;have d0:=q_ ((bf rfl).weaken (show w5.heap.size<=wr.heap.size by omega));clear bf ca be W;go_upto_region 16 with fail
   apply aWa;iterate 3 refine pS ?_
   iterate 2 refine pS ?_
   obtain⟨w7,aw⟩:=eX (w6.alloc (.cells #[.int .i64 u,.slice A2 Y.length c2] 62));rw[aw];have I:Below w6.heap.size w6 w7:=aw▸bC;have d1:w7.heap[w6.heap.size]?=some (.cells (yY ⟨u,A2,Y.length,c2,Y⟩).toArray 62 (0,0)):=aw▸aJ _ _ _;have cd:=own_below cz I;have d2:=q_ (fun e he=>(c0 e he).below I);have d3:=q_ (d0.below I);have d4:=q_ ((tw cy I));have ey:=I.size;clear aw I cz c0 d0 cy;refine bRa rfl fun K G=>?_;refine aDg (T:=62) underlying57 info_out rfl (by decide) (by decide) (.tmp 58) (.tmp 62) rfl w5.heap.size _ es.length _ (yY ⟨u,A2,Y.length,c2,Y⟩) w6.heap.size rfl rfl cd d1 rfl (outC_one _) (by omega) (by have:=bb.out;have:=dh;omega) fun v8 w8 g1 g2=>G _ _ ?_
   clear G K d1;have ez:=q_ (d4.trans (bV g2.grown (by omega) (fun k E=>(cYa cd k E).1)));obtain⟨A8,c8,rfl,-,-,-⟩:=bE g1;obtain⟨c3,c4⟩:=mZ.push ⟨u,A2,Y.length,c2,Y⟩ d2 cd d3 g1 g2;clear g1 g2 cd d2 d3 d4;have ce:(es++[(⟨u,A2,Y.length,c2,Y⟩:nR)]).map (fun e=>(e.h,e.U))=(R.hosts.take (i+1)).map (fun h=>(h,(snd h).2)):=by
    rw[cWa,au.out,dMa,hu.out,cWa];simp[av.out]
   have c1:∀k∈R.hosts.take (i+1),(snd k).1=0:=by
    intro k E;rw[dMa,hu.out]at E;rcases List.mem_append.1 E with E|E
    .exact ak k E
    .obtain rfl:k=u:=by simpa using E
     rw[av.out]
   have e0:Hid ((es++[(⟨u,A2,Y.length,c2,Y⟩:nR)]).length=i+1):=q_ (by rw[bHa,bb.out];rfl);have fl:=wJ i;clear au ak bb av hu dw;replace ⟨c3,c4,ce,c1⟩:=q_4 c3 c4 ce c1;refine pS ?_;refine bCa ?_;go_simp;go_wp2_with fail
   exact⟨⟨u4,u6,_,_,_,_,_,⟨i+1,by omega,by first|rfl|go_num,⟨_,e0,by first|exact ce|(rw[<-List.map_take];exact ce),c3,c4⟩,c1,ez⟩,rfl,rfl,rfl,rfl,rfl,rfl,rfl⟩,by simp only[intOf];omega⟩
  .obtain rfl:i=R.hosts.length:=by omega
   rw[fDa]at au ak;have a3:Z=⟨0,R.hosts.map fun h=>(h,(snd h).2),R,KT⟩:=by
    rw[<-aq.out,bAa (fun h=>h (aF9 ak))]
   have d5:Hid (mZ wr w5.heap.size u10 (R.hosts.map fun h=>(h,(snd h).2))):=q_ (⟨es,au,bc,bd⟩);have qk:=q_ (az wr ah _ _ aj hne');have fm:=aL ai;have fn:=aL ac;clear aq au ak bc bd bb az cx ba b6 bv b7 b8 ab ag L;replace ⟨a3,ah,ar,ai,ac,aj,ad,hne'⟩:=q_8 a3 ah ar ai ac aj ad hne';go_upto_region 18 with fail
   apply aWa;refine pS ?_;refine gG (.agg (gP X)) rfl (jL wr _ 48 (.tmp 7) rfl y rfl (gP X) _ ai cMa rfl (by rw[bK];rfl)) ?_;dsimp only[Act.put];refine gG (.agg (aH (.slice Ah R.hosts.length cl) R.vip R.pin)) rfl (jL wr _ 54 (.tmp 9) rfl q rfl (aH (.slice Ah R.hosts.length cl) R.vip R.pin) _ ac cXa rfl (by rw[jZ];rfl)) ?_;dsimp only[Act.put];refine bRa rfl fun K G=>?_;go_simp;refine((qk)).mono ?_;rintro e w6 ⟨⟨uu,rfl⟩,cg,ax⟩;have c5:=ah.out;obtain⟨cs,eh,-⟩:=c5.pins.tab.row;have d6:=q_ (wk_pin ad.1 c5.pins.tab.blk eh ax);have be:=q_ ((ax.block z (by omega) (by omega)).trans ar);have d7:=q_ ((ax.block q (by omega) (by omega)).trans ac);have d8:=q_ (kT aj ax (fun k h1 h2 e=>by omega));have d9:=q_ (d5.kept ax (fun k h1 h2 e=>by omega));have W:Hid (ScE b f g w w6):=q_ ((ScE.wk ad).trans (ScE.pin ax));have ex:=ax.size;clear ah c5 eh ar ai ac aj d5 ad ax qk;replace cg:=q_ cg;go_simp;refine G _ _ ?_;clear G K;refine bCa ?_;go_simp;go_upto_region 19 with fail
   refine rX (aV w6.heap.size (fun k=>k=z)) ?_;intro w7 I;have ea:=q_ (cg.on I);have eb:=q_ (d6.on I);have aw:=q_ (aG I be);have ec:=q_ (own_below d8 I);have ed:=q_ (d9.below I);have bg:=q_ (W.trans (ScE.quiet I));have ey:=I.size;have lq:Hid (∀l:bU (aV w6.heap.size (fun k=>k=z)) w7,l.w.rangeAt q 0 (aH (.slice Ah R.hosts.length cl) R.vip R.pin).toList):=q_ (fun l=>aM (cs:=(aH (.slice Ah R.hosts.length cl) R.vip R.pin)) ((l.hk.block q (by omega) (by omega)).trans (aG I d7)));clear cg d6 be d7 d8 d9 W I;refine xS (aV w6.heap.size (fun k=>k=z)) 0 2 3 ?_;simp only[dA,dC,dD];refine qX ?_;refine dU rfl 54 (.tmp 9) rfl q 0 rfl (aH (.slice Ah R.hosts.length cl) R.vip R.pin).toList _ lq cXa rfl (by rw[jZ];rfl) ?_;refine aN ?_;clear lq;refine xM 2 rfl ?_;refine fS 3 rfl fun K G=>?_;rw[bBa (by rfl)];refine nL 54 (.tmp 5) (.tmp 70) rfl z 0 rfl (aH (.slice Ah R.hosts.length cl) R.vip R.pin) rfl aw (by simp) (by rw[jZ];rfl) (eG rfl R.vip R.pin) fun V af j=>?_;rw[aQ _ _ (by rfl)]at af;have J:(loadVar 54 ⟨z,0,none⟩).run prog V=.ok (.agg (aH (.slice Ah R.hosts.length cl) R.vip R.pin)) V:=by
    simpa using run_loadVar_mid V z 0 54 (aH (.slice Ah R.hosts.length cl) R.vip R.pin).toList _ (aM af) cXa rfl (by kernel_rfl)
   have N:aV w7.heap.size (fun k=>k=z) w7 V:=⟨j.os,j.tape,j.output,j.size,fun k E O=>j.block k E (fun e=>O (bFa e))⟩
   refine G _ _ ⟨N.os,N.tape,N.output,N.size,fun k E O=>N.block k (by omega) O⟩ ?_;clear G K;have e2:=q_ (ea.far j (by omega) (by omega) (by omega));have e3:=q_ (uF eb aw (by decide) (by decide) j);have e4:=q_ (kT ec N (fun k h1 h2 e=>by omega));have e5:=q_ (ed.kept N (fun k h1 h2 e=>by omega));have ap:Hid (ScE b f g w V):=q_ (⟨N.os.trans bg.os,N.tape.trans bg.tape,N.output.trans bg.output,bJa bg.size N.size,fun k E O=>(N.block k (by omega) (by omega)).trans (bg.block k E O)⟩);clear af j N ea eb aw ec ed bg;replace J:=q_ J;refine xM 4 rfl ?_;refine fD ?_;go_wp2_with fail
   exact aYa (v:=.tuple #[u10,.agg (aH (.slice Ah R.hosts.length cl) R.vip R.pin),.int .i64 0]) (by simp[results,results13,asAddr,J.out,Result.andThen]) rfl (a3.out▸⟨_,_,rfl,e5.weaken (by omega),jC e4 (by omega),an.go ap e3 e2,ap⟩)
end
end
theorem aUf(w:World):Cl 37 #[.pointer none] w fun e w'=>e=.returned (.bool true)/\w'=w:=by
 go_enter func37,ntmps37;go_wp2_with fail
 go_ret;exact⟨rfl,rfl⟩
theorem aR9(w:World)(b:Nat)(h:w.heap[b]?=some (.cells #[.pointer none,.pointer none,.pointer none,.pointer none,.pointer none] 76 (0,0))):Cl 37 #[.pointer (some ⟨b,0,none⟩)] w fun e w'=>e=.returned (.bool true)/\w'=w:=by
 have j:=aA h 0;clear h;go_enter func37,ntmps37;go_wp2_with fail
 go_ret;exact⟨rfl,rfl⟩
theorem aUh(v:Value)(w:World):Cl 13 #[.pointer none,v] w fun e w'=>e=.returned (.tuple #[.slice none 0 0,.agg (aH (.slice none 0 0) vpZ false),.int .i64 9])/\Below w.heap.size w w':=by
 obtain⟨j,I⟩:=eX (w.alloc (.cells #[.slice none 0 0,.bool false,.int .u64 0,.int .u64 0,.int .i64 0,.int .i64 0,.int .i64 0,.bool false,.bool false] 54));have A:Hid (Below w.heap.size w j):=q_ (I▸bC);have G:Hid (j.heap[w.heap.size]?=some (.cells (aH (.slice none 0 0) vpZ false) 54 (0,0))):=q_ (I▸aJ _ _ _);obtain⟨z,N⟩:=eX w.heap.size;rw[N]at A G;go_enter func13,ntmps13;go_wp2_with fail
 clear I;refine(aUf j).mono ?_;rintro e j ⟨rfl,rfl⟩;go_upto_region 2 with fail
 apply aWa;iterate 2 refine pS ?_
 refine sW 54 (.tmp 5) (.tmp 17) z (aH (.slice none 0 0) vpZ false) G (eG rfl vpZ false) cXa fun O U J E=>?_;have L:Below z j O:=below_grown J (by have:=A.size;omega) (aZa _);have V:=q_ (A.trans L);clear U J L A G;replace E:=q_ E;refine pS ?_;refine bCa ?_;go_simp;go_wp2_with fail
 exact aYa (v:=.tuple #[.slice none 0 0,.agg (aH (.slice none 0 0) vpZ false),.int .i64 9]) (by simp[results,results13,asAddr,E.out,Result.andThen]) rfl ⟨rfl,by rw[N];exact V⟩
theorem aR8(w:World)(b:Nat)(h:w.heap[b]?=some (.cells #[.pointer none,.pointer none,.pointer none,.pointer none,.pointer none] 76 (0,0)))(X:Px):Cl 30 #[.pointer (some ⟨b,0,none⟩),.agg (gP X)] w fun e w'=>e=.returned (.tuple #[.agg (aH (.slice none 0 0) vpZ false),.int .i64 9])/\Below w.heap.size w w':=by
 obtain⟨w0,J⟩:=eX (w.alloc (.cells (gP X) 48));have O:Below w.heap.size w w0:=J▸bC;have I:w0.heap.size=w.heap.size+1:=by rw[<-J];simp
 obtain⟨j,L⟩:=eX (w0.alloc (.cells #[.slice none 0 0,.bool false,.int .u64 0,.int .u64 0,.int .i64 0,.int .i64 0,.int .i64 0,.bool false,.bool false] 54));have A:Hid (Below w.heap.size w j):=q_ (O.trans ((L▸bC:Below w0.heap.size w0 j).mono (by omega)));have E:Hid (j.heap[w0.heap.size]?=some (.cells (aH (.slice none 0 0) vpZ false) 54 (0,0))):=q_ (L▸aJ _ _ _);have U:=q_ (aG A h);obtain⟨z,W⟩:=eX w.heap.size;rw[W]at A I;rw[I]at E;have hl:=aL E;clear h O;go_enter func30,ntmps30;go_wp2_with fail
 clear L J I;refine(aR9 j b U).mono ?_;rintro e j ⟨rfl,rfl⟩;go_upto_region 2 with fail
 apply aWa;refine pS ?_;refine sW 54 (.tmp 4) (.tmp 13) (z+1) (aH (.slice none 0 0) vpZ false) E (eG rfl vpZ false) cXa fun Y Z N G=>?_;have V:Below z j Y:=below_grown N (by have:=A.size;omega) (by omega);have aa:=q_ (A.trans V);clear Z N V A E U;replace G:=q_ G;refine pS ?_;refine bCa ?_;go_simp;go_wp2_with fail
 exact aYa (v:=.tuple #[.agg (aH (.slice none 0 0) vpZ false),.int .i64 9]) (by simp[results,results30,asAddr,G.out,Result.andThen]) rfl ⟨rfl,by rw[W];exact aa⟩
def awC:Cfg:=⟨[⟨[108],1,-1,0,zA⟩],[],[],140,2,zA,zA,false,false⟩
theorem awC_ok:qF (mQ awC)=0:=by kernel_rfl
def awX:Px:=⟨false,⟨17,false,0,0,false,0,0,0,0⟩,9,0,false,⟨0,false,0,0,false,0,0,0,0⟩,28⟩
theorem awX_bd:xG awX:=⟨⟨by decide,by decide,by decide,by decide,by decide,by decide,by decide⟩,⟨by decide,by decide,by decide,by decide,by decide,by decide,by decide⟩,by decide⟩
theorem aP5(H:List Int)(F sd:Nat)(T:FT)(S:Nat):bM (mQ awC) H F sd T S awX=jS 23:=by kernel_rfl
theorem aw_dgm:∃B:List UInt8,B.length=28/\PxA 28 B 0 awX/\∀w:World,Cl 18 #[.agg (tuA 17 false 0 0 false 0 0 0 0),.int .i64 9,.slice none 0 0] w fun e w'=>dE 0 B w w' e:=by
 have j:=aWk 0 0 0 0 9 [] 28 rfl (by omega) (by omega) (by omega) (by omega) (by omega) (by simp);refine⟨_,j.ok.len,aJm j (by omega),fun w=>?_⟩;have:=aMb 17 false 0 0 false 0 0 0 0 9 none 0 0 [] w (IsB.nil _ _ _) (by omega) (by omega) (by omega) (by omega) (by omega);rw[show aVm 17 false ((0:Nat):Int) ((0:Nat):Int) false ((0:Nat):Int) ((0:Nat):Int) 0 0 9=0 by decide]at this;exact this
theorem isv_one{w:World}{cs:List Value}(h:w.heap[g]?=some (.cells cs.toArray t (0,0)))(j:g<B):IsV w B cs.length (some ⟨g,0,none⟩) 1 cs :=
 ⟨by omega,fun _=>⟨g,0,rfl,j,fun i A=>by rw[aA h];simp[A]⟩⟩
theorem nd_given{w:World}(h:w.heap[g]?=some (.cells (ndC ⟨[108],1,-1,0,zA⟩).toArray 93 (0,0))):uV w w.heap.size awC (some ⟨g,0,none⟩) none none 1 0 0:=by
 refine⟨⟨rfl,?_⟩,⟨rfl,IsV.nil _ _ _ _⟩,⟨rfl,IsV.nil _ _ _ _⟩⟩;have:=isv_one (B:=w.heap.size) h (aL h);exact this
theorem aJa{w:World}(h:aZ w j (.slice A n c) xs):IsB w w.heap.size A n xs/\n<=c/\c<=maxLen:=by
 obtain⟨J,L,e,E,G,I⟩:=h.form;injection e with e1 e2 e3
 rw[e1,e2,e3];exact⟨I,E,G⟩
theorem aw_take{w:World}{x v p:Nat}(L:Sc w E x v s b p f g (nJ 8) (mQ awC) H (mQ awC).factor 7 (rR 7 8) kG 0)(B:List UInt8)(N:PxA 28 B 0 awX)(A:Option Addr)(j:Nat)(O:∀w',ScE b f g w w'->IsB w' w'.heap.size A 28 B)(U:28<=j)(V:j<=maxLen) :
 Cl 13 #[.pointer (some ⟨E,0,none⟩),.slice A 28 j] w fun e w'=>(∃G I J,e=.returned (.tuple #[G,.agg (aH (.slice I 0 J) vpZ false),.int .i64 23]))/\ScE b f g w w':=by
 have hS':Sc w E x v s b p f g (nJ 8) (mQ awC) H ((140:Nat):Int) 7 (rR 7 8) kG 0:=L;have e:∀T1,gX 0 (bM (mQ awC) H 140 7 (rR 7 8) (nJ 8) awX) (fun _=>(0,[])) (rR 7 8) T1=⟨23,[],jS 0,rR 7 8⟩:=by
  intro T1;rw[aP5]
  rfl
 have q:=aKq hS' (aNa (by omega) (by omega) (by omega)) (by omega) (by omega) (by omega) (aAw awC_ok).tree 0 awX 28 B N awX_bd (fun h=>absurd rfl h) (fun _=>(0,[])) (fun _ h=>by rw[aP5]at h;cases h) (bJa (aMm _ _ _ _ _ _ _) (by omega)) A j O U V;rw[e]at q;refine q.mono ?_;rintro e w' ⟨G,Y,rfl,-,W,-,X⟩;obtain⟨I,J,rfl,-,-,-⟩:=bE W;exact⟨⟨G,I,J,rfl⟩,X⟩
theorem aBk(w:World):Cl 9 #[] w fun e w'=>e=.returned (.bool true)/\Below w.heap.size w w':=by
 obtain⟨B,ae,af,U⟩:=aw_dgm;unfold tuA at U;obtain⟨G,ar⟩:∃G,w.alloc (.cells #[.string { data:=#[108] },.int .i64 1,.int .i64 (-1),.int .i64 0,.bool false,.int .u64 0,.int .u64 0] 93)=G:=⟨_,rfl⟩
 have ac:Hid (Below w.heap.size w G):=q_ (ar▸bC);have ad:G.heap[w.heap.size]?=some (.cells (ndC ⟨[108],1,-1,0,zA⟩).toArray 93 (0,0)):=ar▸aJ _ _ _;have O:=q_ (aM8 awC ⟨fun n hn=>(by obtain rfl:n=_:=List.mem_singleton.1 hn;exact⟨aHx,by decide⟩),fun v hv=>(by cases hv),fun v hv=>(by cases hv),aHx,aHx⟩ G _ _ _ 1 0 0 (nd_given ad) ⟨aZa _,by decide⟩ ⟨aZa _,by decide⟩ ⟨aZa _,by decide⟩ none 0 0 [] (IsV.nil _ _ _ _) (aZa _) (by decide) 7);obtain⟨z,hz⟩:=eX w.heap.size;rw[hz]at ac;have bf:=aL ad;rw[hz]at bf O;clear ad;unfold cfC at O;replace ⟨ae,af,U⟩:=q_3 ae af U;go_enter func9,ntmps9;go_upto_region 2 with fail
 apply aWa;iterate 2 refine pS ?_
 clear ar;refine pS ?_;refine bRa rfl fun K j=>?_;go_simp;refine((O)).mono ?_;rintro e w2 ⟨aw,bm⟩;rcases bm with⟨h0,-⟩|⟨h0,pp,x,v,s,b,p,f,g,rfl,N⟩
 .exact absurd awC_ok h0
 have bu:=aw.size;have ag:=q_ ((tw ac aw));clear aw ac O;replace N:=q_ N;go_simp;refine j _ _ ?_;clear j K;refine pS ?_;refine bCa ?_;go_simp;go_upto_region 3 with fail
 apply aWa;refine pS ?_;refine bRa rfl fun K j=>?_;go_simp;refine((U w2)).mono ?_;rintro e w3 ⟨v3,rfl,ax,-,Z⟩;obtain⟨A3,c3,rfl,a7,bk,-⟩:=(ax rfl).form;have ah:=N.on Z;have ho:=ax rfl;have az:=q_ (ag.trans (Z.mono (by have:=ag.size;omega)));obtain⟨l1,l2,l3⟩:=N.lt;have bv:=Z.size;rw[ae.out]at a7 ho ⊢;have V:=aw_take ah.sc B af A3 c3 (fun w' I=>by
  exact(aJa (n:=28) (kT ho I (fun k h1 h2 e=>by rcases e with e|e|e<;>omega))).1) a7 bk
 have bg:G.heap.size<=w3.heap.size:=by omega
 have a0:=q_ (fun w' I=>ah.below (w':=w') bg I);clear Z N ag ax ho ah;replace V:=q_ V;go_simp;refine j _ _ ?_;clear j K;iterate 5 refine pS ?_
 refine bCa ?_;go_simp;go_upto_region 6 with fail
 apply aWa;iterate 2 refine pS ?_
 refine bRa rfl fun K j=>?_;go_simp;refine((V)).mono ?_;rintro e A ⟨⟨ov,Ah,cl,rfl⟩,I⟩;have aj:=q_ (az.trans ((a0 A I).mono (by omega)));clear I V a0 az;go_simp;refine j _ _ ?_;clear j K;iterate 5 refine pS ?_
 obtain⟨a8,W⟩:∃y,A.alloc (.cells #[.slice none 0 0,.bool false,.int .u64 0,.int .u64 0,.int .i64 0,.int .i64 0,.int .i64 0,.bool false,.bool false] 54)=y:=⟨_,rfl⟩
 rw[W];have ak:Below A.heap.size A a8:=W▸bC;have a1:a8.heap[A.heap.size]?=some (.cells (aH (.slice none 0 0) vpZ false) 54 (0,0)):=W▸aJ _ _ _;clear W;refine pS ?_;refine bQ rfl 54 (.tmp 6) (.tmp 33) rfl A.heap.size 0 rfl (aH (.slice Ah 0 cl) vpZ false) rfl a1 (by simp) (by kernel_rfl) (eG rfl vpZ false) fun w5 ab J=>?_;have a2:Below A.heap.size A w5:=ak.trans (below_grown J (by have:=ak.size;omega) (aZa _));clear ab J ak a1;refine pS ?_;refine bCa ?_;go_simp;have al:=q_ (aj.trans (a2.mono (by have:=aj.size;omega)));clear aj a2;go_upto_region 7 with fail
 apply aWa;iterate 2 refine pS ?_
 refine bRa rfl fun K j=>?_;go_simp;refine((aUh _ w5)).mono ?_;rintro e E ⟨rfl,ba⟩;have am:=q_ (al.trans (ba.mono (by have:=al.size;omega)));clear al ba;go_simp;refine j _ _ ?_;clear j K;iterate 5 refine pS ?_
 obtain⟨a9,X⟩:∃y,E.alloc (.cells #[.slice none 0 0,.bool false,.int .u64 0,.int .u64 0,.int .i64 0,.int .i64 0,.int .i64 0,.bool false,.bool false] 54)=y:=⟨_,rfl⟩
 rw[X];have an:Below E.heap.size E a9:=X▸bC;have a3:a9.heap[E.heap.size]?=some (.cells (aH (.slice none 0 0) vpZ false) 54 (0,0)):=X▸aJ _ _ _;clear X;refine pS ?_;refine bQ rfl 54 (.tmp 9) (.tmp 40) rfl E.heap.size 0 rfl (aH (.slice none 0 0) vpZ false) rfl a3 (by simp) (by kernel_rfl) (eG rfl vpZ false) fun L ab J=>?_;have a4:Below E.heap.size E L:=an.trans (below_grown J (by have:=an.size;omega) (aZa _));clear ab J an a3;refine pS ?_;refine bCa ?_;go_simp;have ao:=q_ (am.trans (a4.mono (by have:=am.size;omega)));clear am a4;go_upto_region 8 with fail
 apply aWa;iterate 2 refine pS ?_
 obtain⟨w8,Y⟩:∃y,L.alloc (.cells #[.pointer none,.pointer none,.pointer none,.pointer none,.pointer none] 76)=y:=⟨_,rfl⟩
 rw[Y];have a5:Below L.heap.size L w8:=Y▸bC;have a6:Hid (w8.heap[L.heap.size]?=some (.cells #[.pointer none,.pointer none,.pointer none,.pointer none,.pointer none] 76 (0,0))):=q_ (Y▸aJ _ _ _);have ap:=q_ (ao.trans (a5.mono (by have:=ao.size;omega)));clear a5 Y ao;refine pS ?_;refine bRa rfl fun K j=>?_;go_simp;refine((aR8 w8 _ a6 pxZ)).mono ?_;rintro e w9 ⟨rfl,bb⟩;have aq:=q_ (ap.trans (bb.mono (by have:=ap.size;omega)));clear bb ap a6;go_simp;refine j _ _ ?_;clear j K;iterate 3 refine pS ?_
 refine gF rfl rfl 54 _ (yK _ rfl) 11 rfl (.tmp 47) rfl _ (fun _=>rfl) (fun _=>rfl) rfl (by rw[jZ];rfl) (eG rfl vpZ false) ?_;intro b3 bq bc br;have bh:=q_ (aq.trans (bc.mono (by have:=aq.size;omega)));clear aq bc bq br;refine pS ?_;refine bCa ?_;go_simp;go_wp2_with fail
 go_ret;exact⟨rfl,by rw[hz];exact bh⟩
theorem aX7(J:Cfg)(hg:J.good 9223372036854775807)(w:World)(A1 A2 A3:Option Addr)(k1 k2 k3:Nat)(hR:uV w w.heap.size J A1 A2 A3 k1 k2 k3)(j1:J.nodes.length<=k1/\k1<=maxLen)(j2:J.vips.length<=k2/\k2<=maxLen)(j3:J.views.length<=k3/\k3<=maxLen)
 (A:Option Addr) (nh ch:Nat) (hs:List Int) (hH:IsR bL w w.heap.size A nh hs) (fr:nh<=ch) (fs:ch<=maxLen) (sd:Nat) (ft:sd<18446744073709551616)
 (P:Option Addr) (np cp:Nat) (ps:List UInt8) (hP:IsB w w.heap.size P np ps) (ia:np<=cp) (fw:cp<=maxLen) :
 Cl 5 #[.agg (cfC J (.slice A1 J.nodes.length k1) (.slice A2 J.vips.length k2) (.slice A3 J.views.length k3)),.slice A nh ch,.int .u64 (sd:Int),.slice P np cp] w fun e w'=>e=.returned (.bool true)/\Below w.heap.size w w':=by
 obtain⟨arr,ex⟩:∃a,cfC J (.slice A1 J.nodes.length k1) (.slice A2 J.vips.length k2) (.slice A3 J.views.length k3)=a:=⟨_,rfl⟩
 have f3:Hid (arr.size=11):=q_ (by rw[<-ex];rfl);obtain⟨w1,ey⟩:=eX (w.alloc (.cells arr 30));have a6:Hid (Below w.heap.size w w1):=q_ (ey▸bC);have d1:Hid (w1.heap[w.heap.size]?=some (.cells arr 30 (0,0))):=q_ (ey▸aJ _ _ _);have E:=q_ (aM8 J hg w1 A1 A2 A3 k1 k2 k3 (hR.on a6) j1 j2 j3 A nh ch hs (hH.on a6) fr fs sd);have f4:=hP.on a6;have d2:=a6.size;rw[ex]at E ⊢;have f5:Hid ((mQ J).good 9223372036854775807):=q_ (⟨fun y hy=>hg.nodes y (eYa hy),fun v hv=>hg.vips v (eYa hv),fun v hv=>hg.views v (eYa hv),hg.s0,hg.s1⟩);obtain⟨c,hc⟩:=eX (mQ J);obtain⟨H,gy⟩:=eX (hs.take 30);obtain⟨n,gz⟩:=eX (min np 500);have b4:=q_ (f4.take (m:=n) (by omega));have j6:n<=500:=by omega
 have j7:n<=cp:=by omega
 obtain⟨xs,g0⟩:=eX (ps.take n);rw[hc,gy]at E;rw[hc]at f5;rw[g0]at b4;have f6:=b4.1;have d3:Hid (jJ (rR sd 8) (nJ 8) []):=q_ (aNa ft (by omega) (by omega));obtain⟨S,g1⟩:=eX (nJ 8);obtain⟨T0,g2⟩:∃T,rR sd 8=T:=⟨_,rfl⟩
 unfold aHy at E;rw[g2,g1]at d3 E;obtain⟨K0,X,bk,c8,c9⟩:=px_ex2 n xs f6 (by omega);have qc:Hid (∀w',Cl 10 #[.slice P np cp] w' fun e a4=>e=.returned (.slice P n cp)/\Below w'.heap.size w' a4):=q_ (fun w'=>(pcut_as P np cp n w' (by omega) ia gz).mono (by rintro e a4 ⟨rfl,rfl⟩;exact⟨rfl,bLa _ _⟩));have qp:∀w',IsB w' w'.heap.size P n xs->Cl 11 #[.slice P n cp] w' fun e a4=>e=.returned (.tuple #[.agg (gP X),.int .i64 (K0:Int)])/\Below w'.heap.size w' a4:=fun w' h=>(bk P cp w' h (by omega) fw).mono (by
  rintro e a4 ⟨rfl,G⟩;refine⟨?_,G⟩;by_cases h0:K0=0
  .rw[bBa h0]
  .rw[bAa h0,c9 h0]
   rfl)
 obtain⟨z,hz⟩:=eX w.heap.size;obtain⟨zz,g3⟩:∃z,w1.heap.size=z:=⟨_,rfl⟩
 rw[hz]at d1 a6 d2;rw[g3]at b4 E d2;clear hc gy ex hR hH hg j1 j2 j3 fr fs hP f4 g2 g1 gz g0 hs;replace ⟨qp,bk,c8,c9⟩:=q_4 qp bk c8 c9;go_enter func5,ntmps5;go_upto_region 1 with fail
 clear ey;apply aWa;refine gG (.agg arr) rfl (jL w1 _ 30 (.tmp 4) rfl z rfl arr _ d1 hDa rfl (by rw[aQz,f3.out])) ?_;dsimp only[Act.put];iterate 2 refine pS ?_
 refine bRa rfl fun K j=>?_;go_simp;refine((E)).mono ?_;rintro e w3 ⟨dq,au⟩;have hend':∃pv,e=.returned pv/\(pv=.pointer none\/(qF c=0/\∃pp x v s b p f g,pv=.pointer (some ⟨pp,0,none⟩)/\ScM w3 zz w3.heap.size pp x v s b p f g S c H c.factor sd T0 kG 0)):=by
  rcases au with⟨_,rfl⟩|⟨hv,pp,x,v,s,b,p,f,g,rfl,E⟩
  .exact⟨_,rfl,.inl rfl⟩
  .exact⟨_,rfl,.inr ⟨hv,pp,x,v,s,b,p,f,g,rfl,E⟩⟩
 clear au;obtain⟨pv,rfl,au⟩:=hend';have ig:=dq.size;have d4:Hid (Below zz w1 w3):=q_ (g3▸dq);have d5:=q_ ((tw a6 dq));clear dq E d1 a6 f3;replace au:=q_ au;go_simp;refine j _ _ ?_;clear j K;refine pS ?_;refine bCa ?_;go_simp;go_upto_region 2 with fail
 apply aWa;refine pS ?_;refine bRa rfl fun K j=>?_;go_simp;refine((qc w3)).mono ?_;rintro e w4 ⟨rfl,dr⟩;go_simp;refine j _ _ ?_;clear j K;refine pS ?_;refine bCa ?_;go_simp;go_upto_region 3 with fail
 apply aWa;refine pS ?_;have d6:=dr.size;refine bRa rfl fun K j=>?_;go_simp;refine((qp w4 ((b4.below ((tw d4 dr))).more (by omega)))).mono ?_;rintro e w5 ⟨rfl,ds⟩;go_simp;refine j _ _ ?_;clear j K;iterate 3 refine pS ?_
 refine gF rfl rfl 48 _ (vR _ rfl) 10 rfl (.tmp 35) rfl _ (fun _=>rfl) (fun _=>rfl) rfl (by rw[bK];rfl) (aNm X) ?_;intro w6 aw hw jy;obtain⟨m,hm⟩:=eX w3.heap.size;have da:=dr.trans ((ds.mono d6).trans (hw.mono (bJa d6 ds.size)));have bl:=q_ ((tw d4 da));have bm:=q_ (d5.trans (da.mono (by have:=d5.size;omega)));have ih:=ds.size;obtain⟨y,hy⟩:=eX w5.heap.size;rw[hm]at ig d6;replace au:pv=.pointer none\/(qF c=0/\∃pp x v s b p f g,pv=.pointer (some ⟨pp,0,none⟩)/\ScM w6 zz m pp x v s b p f g S c H c.factor sd T0 kG 0):=by
  rcases au with h|⟨hv,pp,x,v,s,b,p,f,g,h,E⟩
  .exact .inl h
  .exact .inr ⟨hv,pp,x,v,s,b,p,f,g,h,hm▸E.on da⟩
 rw[hy]at aw jy ih;rw[hy];have j8:m<=y:=by omega
 clear dr ds hw da d4 d5 qc qp hm hy;replace aw:=q_ aw;refine pS ?_;refine bCa ?_;go_simp;rcases au with rfl|⟨hv,pp,x,v,s,b,p,f,g,rfl,E⟩
 .clear bl aw;go_wp2_with fail
  refine(aBk w6).mono ?_;rintro e w7 ⟨rfl,fk⟩;go_wp2_with fail
  go_ret;exact⟨rfl,by rw[hz];exact bm.trans (fk.mono (by have:=bm.size;omega))⟩
 by_cases h0:K0=0
 case neg =>
  have e1:((K0:Int) != 0)=true:=by rw[dLa];omega
  clear bl aw E h0;go_wp2_with fail
  refine(aBk w6).mono ?_;rintro e w7 ⟨rfl,fk⟩;go_wp2_with fail
  go_ret;exact⟨rfl,by rw[hz];exact bm.trans (fk.mono (by have:=bm.size;omega))⟩
 subst h0;have hV:=q_ (aAw hv);obtain⟨Fn,g4⟩:∃F:Nat,c.factor=(F:Int):=⟨c.factor.toNat,by have:=hV.factor;omega⟩
 have ij:100<=Fn:=by have:=hV.factor;omega
 have ik:Fn<=1000:=by have:=hV.factor;omega
 rw[g4]at E;clear g4 c9;obtain⟨snd,bn⟩:=aX9 w f5 bk f6 (by omega) (bM c H Fn sd T0 S X).vip;have f8:∀w',Below zz w1 w'->IsB w' w'.heap.size P n xs:=fun w' hB=>(b4.below hB).more (by have:=hB.size;omega)
 have qt:=q_ (fun w' (hS:ScM w' zz m pp x v s b p f g S c H (Fn:Int) sd T0 kG 0) (hB:Below zz w1 w')=>aKq hS.sc d3 ft ij ik hV.tree 0 X n xs bk c8 (fun h=>absurd rfl h) snd (fun _ _ h _=>(bn h).1) (by have:=aMm c H Fn sd T0 S X;omega) P cp (fun a4 hE=>f8 a4 (hB.trans (hS.below (by have:=hB.size;omega) hE))) (by omega) fw);have d7:=q_ (aMm c H Fn sd T0 S X);have d8:=q_ (aMj (c:=c) (H:=H) (F:=Fn) (sd:=sd) (S:=S) (T:=T0) (x:=X));obtain⟨R,g5⟩:=eX (bM c H Fn sd T0 S X);rw[g5]at qt bn d7 d8;obtain⟨Y,b5⟩:=eX (gX 0 R snd T0 (pV T0 S kG 0 X R));rw[b5]at qt;clear g5 f8 d3;replace ⟨E,bn,b5⟩:=q_3 E bn b5;go_upto_region 6 with fail
 apply aWa;iterate 2 refine pS ?_
 refine bRa rfl fun K j=>?_;go_simp;refine((qt w6 E bl)).mono ?_;rintro e w7 ⟨o1,ks,rfl,jv,hq,ht,cu⟩;obtain⟨Ah,ca,rfl,-,-,-⟩:=bE hq;obtain⟨es,bp,b6,dd⟩:=jv;obtain⟨Ao,co,rfl,-,-,-⟩:=bE b6;have il:=bl.size;have d9:=E.below (by omega) cu;have ec:=q_ (E.next cu ht);have ed:=q_ (bl.trans d9);have ee:=q_ (bm.trans (d9.mono d2));have j9:=E.size;have f9:=q_ ((cu.block y (aL aw) (by rintro(rfl|rfl|rfl)<;>(have:=ec.lt;omega))).trans aw);have ka:=cu.size;clear cu ht E d9 bl bm aw qt hq il;replace ⟨b6,dd,bp⟩:=q_3 b6 dd bp;go_simp;refine j _ _ ?_;clear j K;iterate 4 refine pS ?_
 obtain⟨w8,e2⟩:∃y,w7.alloc (.cells #[.slice none 0 0,.bool false,.int .u64 0,.int .u64 0,.int .i64 0,.int .i64 0,.int .i64 0,.bool false,.bool false] 54)=y:=⟨_,rfl⟩
 refine pS ?_;have ef:Below w7.heap.size w7 w8:=e2▸bC;have ga:w8.heap[w7.heap.size]?=some (.cells (aH (.slice none 0 0) vpZ false) 54 (0,0)):=e2▸aJ _ _ _;clear e2;refine pS ?_;refine bQ rfl 54 (.tmp 13) (.tmp 49) rfl w7.heap.size 0 rfl (aH (.slice Ah Y.way.hosts.length ca) Y.way.vip Y.way.pin) rfl ga (by simp) (by rw[jZ];rfl) (eG rfl Y.way.vip Y.way.pin) fun w9 ad g9=>?_;rw[aQ _ _ (by rfl)]at ad;have a7:Below w7.heap.size w7 w9:=ef.trans (below_grown g9 (by have:=ef.size;omega) (aZa _));obtain⟨o,ho⟩:=eX w7.heap.size;have bq:=q_ (ec.on a7);have b7:=q_ (ed.trans (a7.mono (by have:=ed.size;omega)));have a8:=q_ (ee.trans (a7.mono (by have:=ee.size;omega)));have ax:=q_ (aG a7 f9);have a9:=q_ (own_below b6 a7);have br:=q_ (fun e he=>own_below (dd e he) a7);rw[ho]at ad;rw[ho];clear ef ga a7 g9 ec ed ee f9 b6 dd ho;replace ad:=q_ ad;refine pS ?_;refine bCa ?_;go_simp;obtain⟨N,hN⟩:=eX es.length;rw[hN];obtain⟨e4,e5⟩:=take_ok b5;by_cases cx:Y.K=0
 case neg =>
  have e1:((Y.K:Int) != 0)=true:=by rw[dLa];omega
  have im:N=0:=by
   have:=fFa List.length bp;rw[e4 cx,bNa,hN]at this;exact this
  subst im;clear cx bq b7 ax a9 br ad e5 e4;go_wp2_with fail
  refine(aBk w9).mono ?_;rintro e jw ⟨rfl,dt⟩;go_wp2_with fail
  go_ret;exact⟨rfl,by rw[hz];exact a8.trans (dt.mono (by have:=a8.size;omega))⟩
 obtain⟨g7,g8,e6,ha⟩:=e5 cx;have hG:Hid (∀e∈es,aXn c X R.vip e.h e.U):=q_ (fun e hm=>aYg (fun i=>(bn i).2) g8 (bp.trans e6) hm);have kb:1<=N/\N<=8:=by
  have h1:=fFa List.length (bp.trans e6);rw[bNa,bNa,hN]at h1;have h2:=d7.out;have h3:=d8 g7;have h4:R.hosts.length≠0:=fun h=>h3 (List.length_eq_zero_iff.1 h)
  omega
 rw[ha]at ad;rw[cx];rw[hN]at a9;clear cx b5 e5 e4 g7 g8 e6 ha d7 d8 bn bp bk;obtain⟨V,jc⟩:=eX R.vip;rw[jc]at ad hG;replace ⟨bq,b7,a8,ax,a9,br,ad⟩:=q_7 bq b7 a8 ax a9 br ad;go_wp2_with fail
 have b9:IsT yY 2 w9 w9.heap.size Ao N es:=by
  obtain⟨A',c',h1,-,-,h2⟩:=bE a9;injection h1 with h1
  subst h1;exact⟨hN,h2⟩
 replace b9:=q_ b9;go_loopw [8,15,16,17,18,19,20,21,22,23,24,25] (fun _ iv _ _ _ _ _ _ _ _ _ _ wr=>∃i:Nat,i<=N/\iv=.int .i64 (i:Int)/\Below w9.heap.size w9 wr) (fun _ iv _ _ _ _ _ _ _ _ _ _ _=>N - (intOf iv).toNat)
 case atStart=>exact⟨0,dEa _,rfl,bLa _ _⟩
 case round =>
  obtain⟨i,hi,rfl,G⟩:=hrel;have ip:=G.size;by_cases j0:i<N
  .obtain⟨bo,oo,e,je,e7,he,e8⟩:=IsT.at (f:=yY) (size:=2) (fun _=>rfl) (by decide) b9 j0;have cc:=q_ (hG e (bPa he));obtain⟨ba,hd,hf⟩:=aJa (br e (bPa he));have eg:=bq.on G;obtain⟨B1,B2,B3,m1,m2,m3,t,bt,hh,hT⟩:=eg.sc.cf;have q:=fun w' (ib:Below wr.heap.size wr w')=>uD c.nodes e.h bt t w' (by
    obtain⟨nv,kv,tv,hv,us,hC⟩:=hT;exact⟨nv,kv,tv,hv,us,hC.on ib⟩)
   have ay:Hid (∀w',Below wr.heap.size wr w'->Below w9.heap.size w9 w'):=q_ (fun w' h=>G.trans (h.mono ip));obtain⟨⟨nm,kd,ab,wt,⟨I,O,W⟩⟩,hl⟩:∃nd,eU c.nodes e.h=nd:=⟨_,rfl⟩
   unfold aXn at cc;rw[hl]at q cc;unfold ndA at q;dsimp only at q cc;have iq:∀l:Later wr,l.w.cell? ⟨pp,0,none⟩=some (.pointer (some ⟨x,0,none⟩)):=fun l=>aA (aG l.hb eg.sc.blk) 0
   have lx:∀l:Later wr,l.w.cell? ⟨x,11,none⟩=some (.pointer (some ⟨t,0,none⟩)):=fun l=>aA (aG l.hb hh) 11
   have lo:∀l:Later wr,l.w.cell? ⟨bo,oo+i*2,none⟩=some (.int .i64 e.h):=fun l=>((ay _ l.hb).cell (p:=⟨bo,oo+i*2,none⟩) e7).trans (e8 0 _ rfl)
   have lf:=fun l:Later wr=>aGq (str nm) kd ab wt I (O:Int) (W:Int) l.w
   have eh:Hid (w9.cell? ⟨bo,oo+i*2+1,none⟩=some (.slice e.A e.n e.c)):=q_ (e8 1 _ rfl);have tl:(i:Int)<(N:Int):=by omega
   have ke:=wJ i;subst je;clear hh hT hl e8 eg he hi;replace ⟨ba,q,G⟩:=q_3 ba q G;go_upto_region 12 with fail
   refine rL ?_;refine eS 0 14 2 ?_;simp only[dA,dC,dD];iterate 12 refine qE ?_
   (refine aD (fun K j=>?_);go_simp;apply bSa;refine⟨fun l=>?_,j _ ?_⟩;(go_at_call 23;refine(q l.w l.hb).mono ?_;rintro e w' ⟨rfl,G⟩;exact⟨rfl,G⟩);clear j K)
   refine qE ?_;refine aT ?_;clear iq lx lo lf q;refine eT 14 rfl fun l K j=>?_;go_simp;obtain⟨wa,dk⟩:∃y,l.w.alloc (.cells #[.bool false,.int .u64 0,.int .u64 0] 27)=y:=⟨_,rfl⟩
   rw[dk];have ei:Below l.w.heap.size l.w wa:=dk▸bC;have ej:Hid (wa.heap[l.w.heap.size]?=some (.cells #[.bool false,.int .u64 0,.int .u64 0] 27 (0,0))):=q_ (dk▸aJ _ _ _);have ek:=l.hb;have el:=ek.size;obtain⟨za,fa⟩:∃z,l.w.heap.size=z:=⟨_,rfl⟩
   refine j _ _ ei ?_;clear j K dk;have em:=q_ (ek.trans (ei.mono el));rw[fa]at ej el;rw[fa];clear ei ek fa;refine eE fun l2=>?_;have gc:=aG l2.hb ej;have en:=em.trans (l2.hb.mono em.size);refine tS 15 rfl fun K j=>?_;rw[bBa (by rfl)];refine nL 27 (.tmp 16) (.tmp 78) rfl za 0 rfl #[.bool I,.int .u64 (O:Int),.int .u64 (W:Int)] rfl gc (by simp) (by rw[kS];rfl) (aBt I (O:Int) (W:Int)) fun dy bi f1=>?_;rw[aQ _ _ (by rfl)]at bi;have df:Hid (Below wr.heap.size wr dy):=q_ (en.trans (below_grown f1 (by have:=en.size;omega) el));clear gc en f1 ej em;replace bi:=q_ bi;refine j _ _ ?_;clear j K l2 l;refine tD ?_;go_simp;go_upto_region 13 with fail
   apply aWa;have gd:=aG df (aG G ax);refine gG (.agg (gP X)) rfl (jL dy _ 48 (.tmp 10) rfl y rfl (gP X) _ gd cMa rfl (by rw[bK];rfl)) ?_;dsimp only[Act.put];refine gF rfl rfl 48 _ (vR _ rfl) 17 rfl (.tmp 79) rfl _ (fun _=>rfl) (fun _=>rfl) rfl (by rw[bK];rfl) (aNm X) ?_;intro cv cw eo ix;have ge:=df.size;have hb12':=df.trans (eo.mono ge);have hz12':=aG eo bi;have iy:=aL bi;obtain⟨r,hr⟩:∃z,dy.heap.size=z:=⟨_,rfl⟩
   rw[hr]at cw ix ge iy;rw[hr];clear gd df bi eo hr;refine bCa ?_;go_simp;have gf:=aG hb12' (aG G ax);have iz:cv.cell? ⟨y,10,none⟩=some (.int .i64 X.ttl):=aA gf 10;have i0:cv.cell? ⟨r,10,none⟩=some (.int .i64 X.ttl):=aA cw 10;have i1:=bD cw 10;have i2:IntKind.i64.wrap (X.ttl - 1)=X.ttl - 1:=by
    have:=c8.ttl;rw[fEa];omega
   obtain⟨aq,bs⟩:∃x,cv.setCell ⟨r,10,none⟩ (.int .i64 (X.ttl - 1))=x:=⟨_,rfl⟩
   have bb:aV cv.heap.size (fun k=>k=r) cv aq:=by
    rw[<-bs];exact uA (P:=fun k=>k=r) (gQ _ _ _) rfl _
   have bc:aq.heap[r]?=some (.cells (gP { X with ttl:=X.ttl - 1 }) 48 (0,0)):=by
    rw[<-bs];exact bP cw 10 _
   have cd:=q_ ((bb.block za (aL hz12') (by omega)).trans hz12');have ae:Hid (Below wr.heap.size wr aq):=q_ (hb12'.trans ⟨bb.os,bb.tape,bb.output,bb.size,fun k hk=>bb.block k (by have:=hb12'.size;omega) (by omega)⟩);clear bb hb12' hz12' gf cw;replace bc:=q_ bc;go_upto_region 14 with fail
   apply aWa;iterate 5 refine pS ?_
   clear iz i0 i1 i2 bs;refine bCa ?_;go_simp;have bs:=aG ae (aG G ad);have cn:aq.cell? ⟨o,7,none⟩=some (.bool V.nat):=aA bs 7;have ce:aq.cell? ⟨y,12,none⟩=some (.bool X.er):=aA (aG ae (aG G ax)) 12;obtain⟨nb,fc⟩:=eX V.nat;obtain⟨eb,fd⟩:=eX X.er;have dg:=q_ cc;rw[show(V.nat && !X.er)=(nb && !eb) by rw[fc,fd]]at dg;rw[fc]at cn;rw[fd]at ce;clear bs fc fd cc;go_upto_region 15 with fail
   go_cut [91] (fun bv wx=>bv=.bool (nb && !eb)/\aq=wx)
   case first =>
    clear dg bc cd ae G ba ay eh bq b7 a8 ax a9 br ad hG b9;rcases nb with _|_<;>rcases eb with _|_<;>(go_wp2_with fail)<;>go_meet<;>exact⟨rfl,rfl⟩
   case rest =>
   obtain⟨rfl,rfl⟩:=hcut;obtain⟨tb,fe⟩:=eX ((nb && !eb));have cg:=dg.out;rw[fe]at cg;rw[fe];clear dg fe cn ce;have gi:=(ay _ ae).cell (p:=⟨bo,oo+i*2+1,none⟩) e7 |>.trans eh
   rcases tb with _|_
   case true =>
    have gj:=q_ (cg.1 rfl);clear cg;go_upto_region 16 with fail
    apply aWa;refine gG (.agg #[.bool I,.int .u64 (O:Int),.int .u64 (W:Int)]) rfl (jL aq _ 27 (.tmp 16) rfl za rfl _ _ cd dSa rfl (by rw[kS];rfl)) ?_;dsimp only[Act.put];iterate 2 refine pS ?_
    refine bQ rfl 27 (.tmp 94) (.tmp 92) rfl r 5 rfl #[.bool I,.int .u64 (O:Int),.int .u64 (W:Int)] rfl bc (show 5+3<=23 by omega) (by rw[kS];rfl) (aBt I (O:Int) (W:Int)) fun aa a5 f2=>?_;have a5:aa.heap[r]?=some (.cells (gP { X with ttl:=X.ttl - 1,t:={ X.t with dv:=I,dh:=O,dl:=W } }) 48 (0,0)):=a5;have af:Hid (Below wr.heap.size wr aa):=q_ (ae.trans (below_grown f2 (by have:=ae.size;omega) (by omega)));have i3:=(ay _ af).cell (p:=⟨bo,oo+i*2+1,none⟩) e7 |>.trans eh
    have gk:=q_ (ba.below (ay _ af));clear f2 bc cd ae gi;replace a5:=q_ a5;refine bCa ?_;go_simp;go_upto_region 17 with fail
    apply aWa;obtain⟨L,be⟩:∃Z,({ X with ttl:=X.ttl - 1,t:={ X.t with dv:=I,dh:=O,dl:=W } }:Px)=Z:=⟨_,rfl⟩
    have ep:=gj.out;rw[be,show e.U.length=e.n from ba.out.1]at ep;rw[be]at a5;have qz:Cl 11 #[.slice e.A e.n e.c] aa fun e' w'=>e'=.returned (.tuple #[.agg (gP L),.int .i64 0])/\Below aa.heap.size aa w':=(ep e.A e.c aa (gk.more (by have:=af.size;omega)) hd hf).mono (by
     rintro e' w' ⟨rfl,G⟩;exact⟨rfl,G⟩)
    clear gj be ep;replace qz:=q_ qz;iterate 5 refine pS ?_
    refine bRa rfl fun K j=>?_;go_simp;refine((qz)).mono ?_;rintro e ak ⟨rfl,az⟩;go_simp;refine j _ _ ?_;clear j K;iterate 3 refine pS ?_
    refine gF rfl rfl 48 _ (vR _ rfl) 18 rfl (.tmp 102) rfl _ (fun _=>rfl) (fun _=>rfl) rfl (by rw[bK];rfl) (aNm L) ?_;intro bx ap bd jz;have gl:=q_ (aG bd (aG az a5));have eq:=q_ (ay _ ((af.trans (az.mono af.size)).trans (bd.mono (by have:=af.size;have:=az.size;omega))));obtain⟨r2,bf⟩:∃z,ak.heap.size=z:=⟨_,rfl⟩
    rw[bf]at ap jz;rw[bf];clear qz az bd af a5 gk i3 bf;replace ap:=q_ ap;refine pS ?_;refine bCa ?_;go_simp;go_upto_region 18 with fail
    apply aWa;iterate 3 refine pS ?_
    refine gG (.agg (gP L)) (by first|rfl|kernel_rfl) (jL bx _ 48 (.tmp 18) rfl r2 rfl (gP L) _ ap cMa rfl (by rw[bK];rfl)) ?_;dsimp only[Act.put];refine gG (.agg (gP L)) (by first|rfl|kernel_rfl) (jL bx _ 48 (.tmp 17) rfl r rfl (gP L) _ gl cMa rfl (by rw[bK];rfl)) ?_;dsimp only[Act.put];refine gG (.bool false) (by first|rfl|kernel_rfl) (neq_px L _ (.tmp 107) (.tmp 108) rfl rfl rfl bx) ?_;dsimp only[Act.put];refine pS ?_;refine bCa ?_;go_simp;clear ap gl;go_wp2_with fail
    refine⟨?_,by show N - ((i:Int)+1).toNat<N - ((i:Int)).toNat;omega⟩
    repeat apply bSa
    refine And.intro ?hrl ?heq
    case heq=>exact rfl
    case hrl=>exact⟨i+1,by omega,by first|rfl|go_num,eq⟩
   case false =>
    obtain⟨us,fy,fz,kq,dp,ci⟩:=cg.2 rfl;clear cg;unfold aXr at dp;rw[show e.U.length=e.n from ba.out.1]at dp;have qo:=q_ (dp e.A e.c aq ((ba.below (ay _ ae)).more (by have:=ae.size;omega)) hd hf);obtain⟨L,be⟩:∃Z,({ X with ttl:=X.ttl - 1 }:Px)=Z:=⟨_,rfl⟩
    rw[be]at ci;have gn:Hid (aq.heap[r]?=some (.cells (gP L) 48 (0,0))):=q_ (be▸bc);clear dp be bc;replace ci:=q_ ci;go_upto_region 20 with fail
    apply aWa;iterate 5 refine pS ?_
    refine bRa rfl fun K j=>?_;go_simp;refine((qo)).mono ?_;rintro e aa ⟨-,hu,af⟩;obtain⟨A2,c2,rfl,di,jp,jq⟩:=hu rfl;have hb14':=q_ (ae.trans (af.mono ae.size));have gp:=q_ (aG af gn);have gq:=q_ (aG af cd);clear hu af gn cd qo gi ae;replace di:=q_ di;go_simp;refine j _ _ ?_;clear j K;iterate 5 refine pS ?_
    obtain⟨ak,fg⟩:∃y,aa.alloc (.cells #[.bool false,.int .u64 0,.int .u64 0] 27)=y:=⟨_,rfl⟩
    obtain⟨bx,fh⟩:∃y,ak.alloc (.cells #[.bool false,.int .u64 0,.int .u64 0] 27)=y:=⟨_,rfl⟩
    iterate 2 refine pS ?_
    have az:Below aa.heap.size aa ak:=fg▸bC;have bd:Below ak.heap.size ak bx:=fh▸bC;have et:ak.heap[aa.heap.size]?=some (.cells #[.bool false,.int .u64 0,.int .u64 0] 27 (0,0)):=fg▸aJ _ _ _;have ap:bx.heap[ak.heap.size]?=some (.cells #[.bool false,.int .u64 0,.int .u64 0] 27 (0,0)):=fh▸aJ _ _ _;have i4:=aL et;have hg15':=aG bd et;have gr:=az.size;have eu:=az.trans (bd.mono gr);clear fg fh et;refine pS ?_;refine bQ rfl 27 (.tmp 21) (.tmp 119) rfl aa.heap.size 0 rfl #[.bool I,.int .u64 (fy:Int),.int .u64 (fz:Int)] rfl hg15' (by simp) (by rw[kS];rfl) (aBt I (fy:Int) (fz:Int)) fun j5 c5 dz=>?_;rw[aQ _ _ (by rfl)]at c5;have hg16':=(dz.block _ (aL ap) (by intro h;injection h with h;omega)).trans ap;have ev:=eu.trans (below_grown dz eu.size (aZa _));refine bQ rfl 27 (.tmp 22) (.tmp 120) rfl ak.heap.size 0 rfl #[.bool I,.int .u64 (O:Int),.int .u64 (W:Int)] rfl hg16' (by simp) (by rw[kS];rfl) (aBt I (O:Int) (W:Int)) fun c6 bj d0=>?_;rw[aQ _ _ (by rfl)]at bj;have hg17':=q_ ((d0.block _ (aL c5) (by intro h;injection h with h;omega)).trans c5);have cj:=ev.trans (below_grown d0 ev.size (by omega));have gs:=q_ (aG cj gp);have gt:=q_ (aG cj gq);have gu:=q_ (di.on cj);have ew:=q_ (hb14'.trans (cj.mono hb14'.size));obtain⟨s1,fi⟩:∃z,aa.heap.size=z:=⟨_,rfl⟩
    obtain⟨s2,fj⟩:∃z,ak.heap.size=z:=⟨_,rfl⟩
    rw[fi]at hg17';rw[fj]at bj;rw[fi,fj];clear az bd ap i4 hg15' gr eu c5 dz hg16' ev d0 cj gp gq di hb14' fi fj;replace bj:=q_ bj;refine pS ?_;refine bCa ?_;go_simp;go_upto_region 21 with fail
    apply aWa;have qz:Cl 11 #[.slice A2 us.length c2] c6 fun e' w'=>e'=.returned (.tuple #[.agg (gP L),.int .i64 0])/\Below c6.heap.size c6 w':=(ci A2 c2 c6 gu jp jq).mono (by
     rintro e' w' ⟨rfl,G⟩;exact⟨rfl,G⟩)
    replace qz:=q_ qz;refine pS ?_;refine bRa rfl fun K j=>?_;go_simp;refine((qz)).mono ?_;rintro e jx ⟨rfl,fl⟩;go_simp;refine j _ _ ?_;clear j K;iterate 3 refine pS ?_
    refine gF rfl rfl 48 _ (vR _ rfl) 24 rfl (.tmp 125) rfl _ (fun _=>rfl) (fun _=>rfl) rfl (by rw[bK];rfl) (aNm L) ?_;intro a1 ck hx i5;have bu:=fl.trans (hx.mono fl.size);have gv:=q_ (aG bu gs);have hz20':=q_ (aG bu gt);have gw:=q_ (aG bu bj);have gx:=q_ (aG bu hg17');have eq:=q_ (ay _ (ew.trans (bu.mono ew.size)));obtain⟨r2,bf⟩:∃z,jx.heap.size=z:=⟨_,rfl⟩
    rw[bf]at ck i5;rw[bf];clear qz fl hx bu gs gt bj hg17' gu ew ci bf;replace ck:=q_ ck;refine pS ?_;refine bCa ?_;go_simp;have i6:a1.cell? ⟨s1,0,none⟩=some (.bool I):=aA gx 0;have i7:a1.cell? ⟨za,0,none⟩=some (.bool I):=aA hz20' 0;have ea:(I != I)=false:=by simp
    go_upto_region 22 with fail
    apply aWa;iterate 3 refine pS ?_
    iterate 2(refine hSa fun K j=>?_;go_simp;refine j _ _ ?_;clear j K)
    iterate 2 refine pS ?_
    refine gG (.agg (gP L)) (by first|rfl|kernel_rfl) (jL a1 _ 48 (.tmp 24) rfl r2 rfl (gP L) _ ck cMa rfl (by rw[bK];rfl)) ?_;dsimp only[Act.put];refine gG (.agg (gP L)) (by first|rfl|kernel_rfl) (jL a1 _ 48 (.tmp 17) rfl r rfl (gP L) _ gv cMa rfl (by rw[bK];rfl)) ?_;dsimp only[Act.put];refine gG (.bool false) (by first|rfl|kernel_rfl) (neq_px L _ (.tmp 134) (.tmp 135) rfl rfl rfl a1) ?_;dsimp only[Act.put];iterate 2 refine pS ?_
    refine gG (.agg #[.bool I,.int .u64 (O:Int),.int .u64 (W:Int)]) (by first|rfl|kernel_rfl) (jL a1 _ 27 (.tmp 22) rfl s2 rfl _ _ gw dSa rfl (by rw[kS];rfl)) ?_;dsimp only[Act.put];refine gG (.agg #[.bool I,.int .u64 (O:Int),.int .u64 (W:Int)]) (by first|rfl|kernel_rfl) (jL a1 _ 27 (.tmp 16) rfl za rfl _ _ hz20' dSa rfl (by rw[kS];rfl)) ?_;dsimp only[Act.put];refine gG (.bool false) (by first|rfl|kernel_rfl) (neq_ad I (O:Int) (W:Int) _ (.tmp 139) (.tmp 140) rfl rfl rfl a1) ?_;dsimp only[Act.put];iterate 2 refine pS ?_
    iterate 5(refine hSa fun K j=>?_;go_simp;refine j _ _ ?_;clear j K)
    refine pS ?_;refine bCa ?_;go_simp;clear ck gv hz20' gw gx i6 i7 ea;go_wp2_with fail
    refine⟨?_,by show N - ((i:Int)+1).toNat<N - ((i:Int)).toNat;omega⟩
    repeat apply bSa
    refine And.intro ?hrl ?heq
    case heq=>exact rfl
    case hrl=>exact⟨i+1,by omega,by first|rfl|go_num,eq⟩
  .obtain rfl:i=N:=by omega
   have dj:=q_ (a8.trans (G.mono (by have:=a8.size;omega)));have tl:¬ (i:Int)<(i:Int):=by omega
   have tg:(0:Int)<(i:Int):=by omega
   clear G bq b7 ax a9 br ad hG b9;go_wp2_with fail
   refine(aBk wr).mono ?_;rintro e jw ⟨rfl,dt⟩;go_wp2_with fail
   go_ret;exact⟨rfl,by first|exact dj.trans (dt.mono (by have:=dj.size;omega))|(rw[hz];exact dj.trans (dt.mono (by have:=dj.size;omega)))⟩
theorem aYe(J:Option Addr)(L k1:Nat)(W:List Nd)(N:Option Addr)(O k2:Nat)(X:List Vp)(U:Option Addr)(V k3:Nat)(Y:List Vw)(f d:Int)(a:Bool)(b e:Int)(a':Bool)(Z e':Int)(A:Option Addr)(j E:Nat)(hs:List Int)(sd:Int)(P:Option Addr)(G I:Nat)(ps:List UInt8)(w:World)
 (h1:IsT ndC 7 w w.heap.size J L W/\∀x∈W,Nd.fits x) (az:L<=k1) (ad:k1<=maxLen) (h2:IsT vpC 7 w w.heap.size N O X/\∀x∈X,Vp.fits x) (a0:O<=k2) (af:k2<=maxLen) (h3:IsT vwC 5 w w.heap.size U V Y/\∀x∈Y,Vw.fits x) (a1:V<=k3) (ah:k3<=maxLen)
 (_:(Lit.int .i64 f).wf=true) (_:(Lit.int .i64 d).wf=true) (g1:(Lit.int .u64 b).wf=true) (g2:(Lit.int .u64 e).wf=true) (g3:(Lit.int .u64 Z).wf=true) (g4:(Lit.int .u64 e').wf=true) (hH:IsR bL w w.heap.size A j hs) (an:j<=E) (ao:E<=maxLen) (ap:(Lit.int .u64 sd).wf=true)
 (hP:IsB w w.heap.size P G ps) (ar:G<=I) (au:I<=maxLen) :
 Cl 5 #[.agg #[.slice J L k1,.slice N O k2,.slice U V k3,.int .i64 f,.int .i64 d,.bool a,.int .u64 b,.int .u64 e,.bool a',.int .u64 Z,.int .u64 e'],.slice A j E,.int .u64 sd,.slice P G I] w fun e w'=>e=.returned (.bool true)/\Below w.heap.size w w':=by
 obtain⟨c,hR,hg,c1,c2,c3,hv⟩:=aS7 (k1:=k1) (k2:=k2) (k3:=k3) (f:=f) (d:=d) (a:=a) (a':=a') h1 h2 h3 g1 g2 g3 g4;obtain⟨s,rfl,ay⟩:=zV ap;rw[hv];exact aX7 c hg w J N U k1 k2 k3 hR ⟨by omega,ad⟩ ⟨by omega,af⟩ ⟨by omega,ah⟩ A j E hs hH an ao s ay P G I ps hP ar au
end Go.Proofs.YtpcifakangbpaaaGreat
