/- Parts of the proof of PathStays: contracts of functions of the program. No condition but those that each theorem names. -/
import Derived.Test.YtpcifakangbpaaaGreatQPathStays29
set_option linter.unusedVariables false
set_option linter.unusedSimpArgs false
set_option maxRecDepth 100000
set_option maxHeartbeats 16000000
namespace Go.Proofs.YtpcifakangbpaaaGreat
open Go.RowKit Go.ChangeShapes Go.WideShapes Go.ChangeAt Go.Deep Go.Proofs.Tryz
variable {R xs:List UInt8}{B E J N O S V b base' c f fuel g i j k m n s sd sz:Nat}{Q:Exit->Act->World->Prop}{d w' w0:World}{u v z:Value}{T e t:TypeId}{A:Option Addr}{h os:List Nat}{F:List UInt8->Option Nat}{p:List Nat×List Bool}{a:Act}{α:Type}{H l:List Int}{o:Oper}{G:Array Oper}{K:Act->World->Prop}{y:Array Value}{vs:List Value}{L:List Oper}{I:Bool}{U W Y aa:List (Int×List UInt8)}{P:Program}
theorem aUf(w:World):Cl 37 #[.pointer none] w fun e w'=>e=.returned (.bool true)/\w'=w:=by
 go_enter func37,ntmps37;go_wp2_with fail
 go_ret;exact⟨rfl,rfl⟩
theorem aR9(w:World)(b:Nat)(h:w.heap[b]?=some (.cells #[.pointer none,.pointer none,.pointer none,.pointer none,.pointer none] 76 (0,0))):Cl 37 #[.pointer (some ⟨b,0,none⟩)] w fun e w'=>e=.returned (.bool true)/\w'=w:=by
 have j:=aA h 0;clear h;go_enter func37,ntmps37;go_wp2_with fail
 go_ret;exact⟨rfl,rfl⟩
theorem aUh(v:Value)(w:World):Cl 13 #[.pointer none,v] w fun e w'=>e=.returned (.tuple #[.slice none 0 0,.agg (aH (.slice none 0 0) vpZ false),.int .i64 9])/\Below w.heap.size w w':=by
 obtain⟨j,I⟩:=eX (w.alloc (.cells #[.slice none 0 0,.bool false,.int .u64 0,.int .u64 0,.int .i64 0,.int .i64 0,.int .i64 0,.bool false,.bool false] 54));have A:Hid (Below w.heap.size w j):=q_ (I▸bC);have G:Hid (j.heap[w.heap.size]?=some (.cells (aH (.slice none 0 0) vpZ false) 54 (0,0))):=q_ (I▸aJ _ _ _);obtain⟨z,N⟩:=eX w.heap.size;rw[N]at A G;go_enter func13,ntmps13;go_wp2_with fail
 clear I;refine(aUf j).mono ?_;rintro e j ⟨rfl,rfl⟩;go_upto_region 2 with fail
 apply aWa;iterate 2 refine pS ?_
 refine sW 54 (.tmp 5) (.tmp 17) z (aH (.slice none 0 0) vpZ false) G (eG rfl vpZ false) cXa fun O U J E=>?_;have L:Below z j O:=below_grown J (by have:=A.size;omega) (aZa _);have V:=q_ (A.trans L);clear U J L A G;replace E:=q_ E;refine pS ?_;refine bCa ?_;go_simp;go_wp2_with fail
 exact aYa (v:=.tuple #[.slice none 0 0,.agg (aH (.slice none 0 0) vpZ false),.int .i64 9]) (by simp[results,results13,asAddr,E.out,Result.andThen]) rfl ⟨rfl,by rw[N];exact V⟩
theorem aR8(w:World)(b:Nat)(h:w.heap[b]?=some (.cells #[.pointer none,.pointer none,.pointer none,.pointer none,.pointer none] 76 (0,0)))(X:Px):Cl 30 #[.pointer (some ⟨b,0,none⟩),.agg (gP X)] w fun e w'=>e=.returned (.tuple #[.agg (aH (.slice none 0 0) vpZ false),.int .i64 9])/\Below w.heap.size w w':=by
 obtain⟨w0,J⟩:=eX (w.alloc (.cells (gP X) 48));have O:Below w.heap.size w w0:=J▸bC;have I:w0.heap.size=w.heap.size+1:=by rw[<-J];simp
 obtain⟨j,L⟩:=eX (w0.alloc (.cells #[.slice none 0 0,.bool false,.int .u64 0,.int .u64 0,.int .i64 0,.int .i64 0,.int .i64 0,.bool false,.bool false] 54));have A:Hid (Below w.heap.size w j):=q_ (O.trans ((L▸bC:Below w0.heap.size w0 j).mono (by omega)));have E:Hid (j.heap[w0.heap.size]?=some (.cells (aH (.slice none 0 0) vpZ false) 54 (0,0))):=q_ (L▸aJ _ _ _);have U:=q_ (aG A h);obtain⟨z,W⟩:=eX w.heap.size;rw[W]at A I;rw[I]at E;have hl:=aL E;clear h O;go_enter func30,ntmps30;go_wp2_with fail
 clear L J I;refine(aR9 j b U).mono ?_;rintro e j ⟨rfl,rfl⟩;go_upto_region 2 with fail
 apply aWa;refine pS ?_;refine sW 54 (.tmp 4) (.tmp 13) (z+1) (aH (.slice none 0 0) vpZ false) E (eG rfl vpZ false) cXa fun Y Z N G=>?_;have V:Below z j Y:=below_grown N (by have:=A.size;omega) (by omega);have aa:=q_ (A.trans V);clear Z N V A E U;replace G:=q_ G;refine pS ?_;refine bCa ?_;go_simp;go_wp2_with fail
 exact aYa (v:=.tuple #[.agg (aH (.slice none 0 0) vpZ false),.int .i64 9]) (by simp[results,results30,asAddr,G.out,Result.andThen]) rfl ⟨rfl,by rw[W];exact aa⟩
def awC:Cfg:=⟨[⟨[108],1,-1,0,zA⟩],[],[],140,2,zA,zA,false,false⟩
theorem awC_ok:qF (mQ awC)=0:=by kernel_rfl
def awX:Px:=⟨false,⟨17,false,0,0,false,0,0,0,0⟩,9,0,false,⟨0,false,0,0,false,0,0,0,0⟩,28⟩
theorem awX_bd:xG awX:=⟨⟨by decide,by decide,by decide,by decide,by decide,by decide,by decide⟩,⟨by decide,by decide,by decide,by decide,by decide,by decide,by decide⟩,by decide⟩
theorem aP5(H:List Int)(F sd:Nat)(T:FT)(S:Nat):bM (mQ awC) H F sd T S awX=jS 23:=by kernel_rfl
theorem aw_dgm:∃B:List UInt8,B.length=28/\PxA 28 B 0 awX/\∀w:World,Cl 18 #[.agg (tuA 17 false 0 0 false 0 0 0 0),.int .i64 9,.slice none 0 0] w fun e w'=>dE 0 B w w' e:=by
 have j:=aWk 0 0 0 0 9 [] 28 rfl (by omega) (by omega) (by omega) (by omega) (by omega) (by simp);refine⟨_,j.ok.len,aJm j (by omega),fun w=>?_⟩;have:=aMb 17 false 0 0 false 0 0 0 0 9 none 0 0 [] w (IsB.nil _ _ _) (by omega) (by omega) (by omega) (by omega) (by omega);rw[show aVm 17 false ((0:Nat):Int) ((0:Nat):Int) false ((0:Nat):Int) ((0:Nat):Int) 0 0 9=0 by decide]at this;exact this
theorem isv_one{w:World}{cs:List Value}(h:w.heap[g]?=some (.cells cs.toArray t (0,0)))(j:g<B):IsV w B cs.length (some ⟨g,0,none⟩) 1 cs :=
 ⟨by omega,fun _=>⟨g,0,rfl,j,fun i A=>by rw[aA h];simp[A]⟩⟩
theorem nd_given{w:World}(h:w.heap[g]?=some (.cells (ndC ⟨[108],1,-1,0,zA⟩).toArray 93 (0,0))):uV w w.heap.size awC (some ⟨g,0,none⟩) none none 1 0 0:=by
 refine⟨⟨rfl,?_⟩,⟨rfl,IsV.nil _ _ _ _⟩,⟨rfl,IsV.nil _ _ _ _⟩⟩;have:=isv_one (B:=w.heap.size) h (aL h);exact this
theorem aJa{w:World}(h:aZ w j (.slice A n c) xs):IsB w w.heap.size A n xs/\n<=c/\c<=maxLen:=by
 obtain⟨J,L,e,E,G,I⟩:=h.form;injection e with e1 e2 e3
 rw[e1,e2,e3];exact⟨I,E,G⟩
theorem aw_take{w:World}{x v p:Nat}(L:Sc w E x v s b p f g (nJ 8) (mQ awC) H (mQ awC).factor 7 (rR 7 8) kG 0)(B:List UInt8)(N:PxA 28 B 0 awX)(A:Option Addr)(j:Nat)(O:∀w',ScE b f g w w'->IsB w' w'.heap.size A 28 B)(U:28<=j)(V:j<=maxLen) :
 Cl 13 #[.pointer (some ⟨E,0,none⟩),.slice A 28 j] w fun e w'=>(∃G I J,e=.returned (.tuple #[G,.agg (aH (.slice I 0 J) vpZ false),.int .i64 23]))/\ScE b f g w w':=by
 have hS':Sc w E x v s b p f g (nJ 8) (mQ awC) H ((140:Nat):Int) 7 (rR 7 8) kG 0:=L;have e:∀T1,gX 0 (bM (mQ awC) H 140 7 (rR 7 8) (nJ 8) awX) (fun _=>(0,[])) (rR 7 8) T1=⟨23,[],jS 0,rR 7 8⟩:=by
  intro T1;rw[aP5]
  rfl
 have q:=aKq hS' (aNa (by omega) (by omega) (by omega)) (by omega) (by omega) (by omega) (aAw awC_ok).tree 0 awX 28 B N awX_bd (fun h=>absurd rfl h) (fun _=>(0,[])) (fun _ h=>by rw[aP5]at h;cases h) (bJa (aMm _ _ _ _ _ _ _) (by omega)) A j O U V;rw[e]at q;refine q.mono ?_;rintro e w' ⟨G,Y,rfl,-,W,-,X⟩;obtain⟨I,J,rfl,-,-,-⟩:=bE W;exact⟨⟨G,I,J,rfl⟩,X⟩
theorem aBk(w:World):Cl 9 #[] w fun e w'=>e=.returned (.bool true)/\Below w.heap.size w w':=by
 obtain⟨B,ae,af,U⟩:=aw_dgm;unfold tuA at U;obtain⟨G,ar⟩:∃G,w.alloc (.cells #[.string { data:=#[108] },.int .i64 1,.int .i64 (-1),.int .i64 0,.bool false,.int .u64 0,.int .u64 0] 93)=G:=⟨_,rfl⟩
 have ac:Hid (Below w.heap.size w G):=q_ (ar▸bC);have ad:G.heap[w.heap.size]?=some (.cells (ndC ⟨[108],1,-1,0,zA⟩).toArray 93 (0,0)):=ar▸aJ _ _ _;have O:=q_ (aM8 awC ⟨fun n hn=>(by obtain rfl:n=_:=List.mem_singleton.1 hn;exact⟨aHx,by decide⟩),fun v hv=>(by cases hv),fun v hv=>(by cases hv),aHx,aHx⟩ G _ _ _ 1 0 0 (nd_given ad) ⟨aZa _,by decide⟩ ⟨aZa _,by decide⟩ ⟨aZa _,by decide⟩ none 0 0 [] (IsV.nil _ _ _ _) (aZa _) (by decide) 7);obtain⟨z,hz⟩:=eX w.heap.size;rw[hz]at ac;have bf:=aL ad;rw[hz]at bf O;clear ad;unfold cfC at O;replace ⟨ae,af,U⟩:=q_3 ae af U;go_enter func9,ntmps9;go_upto_region 2 with fail
 apply aWa;iterate 2 refine pS ?_
 clear ar;refine pS ?_;refine bRa rfl fun K j=>?_;go_simp;refine((O)).mono ?_;rintro e w2 ⟨aw,bm⟩;rcases bm with⟨h0,-⟩|⟨h0,pp,x,v,s,b,p,f,g,rfl,N⟩
 .exact absurd awC_ok h0
 have bu:=aw.size;have ag:=q_ ((tw ac aw));clear aw ac O;replace N:=q_ N;go_simp;refine j _ _ ?_;clear j K;refine pS ?_;refine bCa ?_;go_simp;go_upto_region 3 with fail
 apply aWa;refine pS ?_;refine bRa rfl fun K j=>?_;go_simp;refine((U w2)).mono ?_;rintro e w3 ⟨v3,rfl,ax,-,Z⟩;obtain⟨A3,c3,rfl,a7,bk,-⟩:=(ax rfl).form;have ah:=N.on Z;have ho:=ax rfl;have az:=q_ (ag.trans (Z.mono (by have:=ag.size;omega)));obtain⟨l1,l2,l3⟩:=N.lt;have bv:=Z.size;rw[ae.out]at a7 ho ⊢;have V:=aw_take ah.sc B af A3 c3 (fun w' I=>by
  exact(aJa (n:=28) (kT ho I (fun k h1 h2 e=>by rcases e with e|e|e<;>omega))).1) a7 bk
 have bg:G.heap.size<=w3.heap.size:=by omega
 have a0:=q_ (fun w' I=>ah.below (w':=w') bg I);clear Z N ag ax ho ah;replace V:=q_ V;go_simp;refine j _ _ ?_;clear j K;iterate 5 refine pS ?_
 refine bCa ?_;go_simp;go_upto_region 6 with fail
 apply aWa;iterate 2 refine pS ?_
 refine bRa rfl fun K j=>?_;go_simp;refine((V)).mono ?_;rintro e A ⟨⟨ov,Ah,cl,rfl⟩,I⟩;have aj:=q_ (az.trans ((a0 A I).mono (by omega)));clear I V a0 az;go_simp;refine j _ _ ?_;clear j K;iterate 5 refine pS ?_
 obtain⟨a8,W⟩:∃y,A.alloc (.cells #[.slice none 0 0,.bool false,.int .u64 0,.int .u64 0,.int .i64 0,.int .i64 0,.int .i64 0,.bool false,.bool false] 54)=y:=⟨_,rfl⟩
 rw[W];have ak:Below A.heap.size A a8:=W▸bC;have a1:a8.heap[A.heap.size]?=some (.cells (aH (.slice none 0 0) vpZ false) 54 (0,0)):=W▸aJ _ _ _;clear W;refine pS ?_;refine bQ rfl 54 (.tmp 6) (.tmp 33) rfl A.heap.size 0 rfl (aH (.slice Ah 0 cl) vpZ false) rfl a1 (by simp) (by kernel_rfl) (eG rfl vpZ false) fun w5 ab J=>?_;have a2:Below A.heap.size A w5:=ak.trans (below_grown J (by have:=ak.size;omega) (aZa _));clear ab J ak a1;refine pS ?_;refine bCa ?_;go_simp;have al:=q_ (aj.trans (a2.mono (by have:=aj.size;omega)));clear aj a2;go_upto_region 7 with fail
 apply aWa;iterate 2 refine pS ?_
 refine bRa rfl fun K j=>?_;go_simp;refine((aUh _ w5)).mono ?_;rintro e E ⟨rfl,ba⟩;have am:=q_ (al.trans (ba.mono (by have:=al.size;omega)));clear al ba;go_simp;refine j _ _ ?_;clear j K;iterate 5 refine pS ?_
 obtain⟨a9,X⟩:∃y,E.alloc (.cells #[.slice none 0 0,.bool false,.int .u64 0,.int .u64 0,.int .i64 0,.int .i64 0,.int .i64 0,.bool false,.bool false] 54)=y:=⟨_,rfl⟩
 rw[X];have an:Below E.heap.size E a9:=X▸bC;have a3:a9.heap[E.heap.size]?=some (.cells (aH (.slice none 0 0) vpZ false) 54 (0,0)):=X▸aJ _ _ _;clear X;refine pS ?_;refine bQ rfl 54 (.tmp 9) (.tmp 40) rfl E.heap.size 0 rfl (aH (.slice none 0 0) vpZ false) rfl a3 (by simp) (by kernel_rfl) (eG rfl vpZ false) fun L ab J=>?_;have a4:Below E.heap.size E L:=an.trans (below_grown J (by have:=an.size;omega) (aZa _));clear ab J an a3;refine pS ?_;refine bCa ?_;go_simp;have ao:=q_ (am.trans (a4.mono (by have:=am.size;omega)));clear am a4;go_upto_region 8 with fail
 apply aWa;iterate 2 refine pS ?_
 obtain⟨w8,Y⟩:∃y,L.alloc (.cells #[.pointer none,.pointer none,.pointer none,.pointer none,.pointer none] 76)=y:=⟨_,rfl⟩
 rw[Y];have a5:Below L.heap.size L w8:=Y▸bC;have a6:Hid (w8.heap[L.heap.size]?=some (.cells #[.pointer none,.pointer none,.pointer none,.pointer none,.pointer none] 76 (0,0))):=q_ (Y▸aJ _ _ _);have ap:=q_ (ao.trans (a5.mono (by have:=ao.size;omega)));clear a5 Y ao;refine pS ?_;refine bRa rfl fun K j=>?_;go_simp;refine((aR8 w8 _ a6 pxZ)).mono ?_;rintro e w9 ⟨rfl,bb⟩;have aq:=q_ (ap.trans (bb.mono (by have:=ap.size;omega)));clear bb ap a6;go_simp;refine j _ _ ?_;clear j K;iterate 3 refine pS ?_
 refine gF rfl rfl 54 _ (yK _ rfl) 11 rfl (.tmp 47) rfl _ (fun _=>rfl) (fun _=>rfl) rfl (by rw[jZ];rfl) (eG rfl vpZ false) ?_;intro b3 bq bc br;have bh:=q_ (aq.trans (bc.mono (by have:=aq.size;omega)));clear aq bc bq br;refine pS ?_;refine bCa ?_;go_simp;go_wp2_with fail
 go_ret;exact⟨rfl,by rw[hz];exact bh⟩
theorem aWg{w:World}{G:Nat}{i:Int}{U:List UInt8}(h:mZ w G v [(i,U)]):∃b j c,v=.slice (some ⟨b,j,none⟩) 1 c/\1<=c/\c<=maxLen/\b<w.heap.size/\w.cell? ⟨b,j,none⟩=some (.int .i64 i):=by
 obtain⟨J,E,L,-⟩:=h
 match J,E with
 | [e],E =>
  obtain⟨A,c,rfl,N,O,-,V⟩:=bE L;obtain⟨b,j,rfl,W,Y⟩:=V (by simp);have I:e.h=i:=by
   have:=fFa (fun l=>l.map Prod.fst) E;simpa using this
  exact⟨b,j,c,rfl,N,O,W,I▸Y 0 (by simp[yY])⟩
theorem aWe{w:World}{i:Int}(h:w.ownsRow E 3 1 v 1 [bL i]):∃b j c,v=.slice (some ⟨b,j,none⟩) 1 c/\1<=c/\c<=maxLen/\b<w.heap.size/\w.cell? ⟨b,j,none⟩=some (.int .i64 i):=by
 obtain⟨A,c,rfl,G,I,-,J⟩:=bE h;obtain⟨b,j,rfl,L,N⟩:=J (by decide);exact⟨b,j,c,rfl,G,I,L,N 0 (by simp)⟩
theorem aW3(W:Cfg)(hg:W.good 9223372036854775807)(w:World)(A1 A2 A3:Option Addr)(k1 k2 k3:Nat)(hR:uV w w.heap.size W A1 A2 A3 k1 k2 k3)(j1:W.nodes.length<=k1/\k1<=maxLen)(j2:W.vips.length<=k2/\k2<=maxLen)(j3:W.views.length<=k3/\k3<=maxLen)
 (A:Option Addr) (nh ch:Nat) (hs:List Int) (hH:IsR bL w w.heap.size A nh hs) (hq:nh<=ch) (hr:ch<=maxLen) (B:Option Addr) (no co:Nat) (os:List Int) (hO:IsR bL w w.heap.size B no os) (k4:no<=co) (ml:co<=maxLen) (sd:Nat) (dm:sd<18446744073709551616)
 (pr:Int) (sv:Bool) (I J:Nat) (E:Bool) (L N:Nat) (sp dp:Int) (q1:I<18446744073709551616) (q2:J<18446744073709551616) (q3:L<18446744073709551616) (q4:N<18446744073709551616)
 (P:Option Addr) (np cp:Nat) (ps:List UInt8) (hP:IsB w w.heap.size P np ps) (k5:np<=cp) (bp:cp<=maxLen) :
 Cl 4 #[.agg (cfC W (.slice A1 W.nodes.length k1) (.slice A2 W.vips.length k2) (.slice A3 W.views.length k3)),.slice A nh ch,.slice B no co,.int .u64 (sd:Int),.agg #[.int .i64 pr,.bool sv,.int .u64 (I:Int),.int .u64 (J:Int),.bool E,.int .u64 (L:Int),.int .u64 (N:Int),.int .i64 sp,.int .i64 dp],.slice P np cp] w fun e w'=>e=.returned (.bool true)/\Below w.heap.size w w':=by
 obtain⟨arr,gd⟩:∃a,cfC W (.slice A1 W.nodes.length k1) (.slice A2 W.vips.length k2) (.slice A3 W.views.length k3)=a:=⟨_,rfl⟩
 have dq:arr.size=11:=by rw[<-gd];rfl
 obtain⟨w1,gf⟩:=eX (w.alloc (.cells arr 30));obtain⟨w2,gg⟩:=eX (w1.alloc (.cells #[.int .i64 pr,.bool sv,.int .u64 (I:Int),.int .u64 (J:Int),.bool E,.int .u64 (L:Int),.int .u64 (N:Int),.int .i64 sp,.int .i64 dp] 46));have e8:Below w.heap.size w w1:=gf▸bC;have e9:Below w1.heap.size w1 w2:=gg▸bC;have fa:=q_ (aG e9 (gf▸aJ w 30 arr));have dr:Hid (w2.heap[w1.heap.size]?=some (.cells #[.int .i64 pr,.bool sv,.int .u64 (I:Int),.int .u64 (J:Int),.bool E,.int .u64 (L:Int),.int .u64 (N:Int),.int .i64 sp,.int .i64 dp] 46 (0,0))):=q_ (gg▸aJ _ _ _);have al:=q_ (e8.trans (e9.mono e8.size));have G:=q_ (aM8 W hg w2 A1 A2 A3 k1 k2 k3 (hR.on al) j1 j2 j3 A nh ch hs (hH.on al) hq hr sd);have id:=hO.on al;have ie:=hP.on al;have ig:=aL dr;have bu:=al.size;rw[gd]at G ⊢;have fb:Hid ((mQ W).good 9223372036854775807):=q_ (⟨fun y hy=>hg.nodes y (eYa hy),fun v hv=>hg.vips v (eYa hv),fun v hv=>hg.views v (eYa hv),hg.s0,hg.s1⟩);obtain⟨c,hc⟩:=eX (mQ W);obtain⟨H,jz⟩:=eX (hs.take 30);obtain⟨n3,j0⟩:∃n,min no 30=n:=⟨_,rfl⟩
 have ds:=q_ (aGz id n3 (by omega));have mo:n3<=30:=by omega
 obtain⟨H2,j4⟩:∃H,os.take n3=H:=⟨_,rfl⟩
 obtain⟨bj,j5⟩:∃n,min np 500=n:=⟨_,rfl⟩
 have ck:=q_ (ie.take (m:=bj) (by omega));have mp:bj<=500:=by omega
 obtain⟨xs,j6⟩:=eX (ps.take bj);rw[hc,jz]at G;rw[hc]at fb;rw[j4]at ds;rw[j6]at ck;have mq:=ck.1;have dt:Hid (jJ (rR sd 8) (nJ 8) []):=q_ (aNa dm (by omega) (by omega));obtain⟨S,j7⟩:=eX (nJ 8);obtain⟨T0,j8⟩:∃T,rR sd 8=T:=⟨_,rfl⟩
 unfold aHy at G;rw[j8,j7]at dt G;obtain⟨K1,cl⟩:∃K,aVm pr sv I J E L N sp dp 64=K:=⟨_,rfl⟩
 obtain⟨U,hU⟩:=eX (xE sv I J L N 17 64 (dgU sv I J L N sp dp xs));have qd:=q_ (fun w' (hx:IsB w' w'.heap.size P bj xs)=>aMb pr sv I J E L N sp dp 64 P bj cp xs w' hx (by omega) q1 q2 q3 q4);unfold tuA at qd;rw[cl,hU]at qd;have qc:Hid (∀w',Cl 10 #[.slice P np cp] w' fun e Z=>e=.returned (.slice P bj cp)/\Below w'.heap.size w' Z):=q_ (fun w'=>(pcut_as P np cp bj w' (by omega) k5 j5).mono (by rintro e Z ⟨rfl,rfl⟩;exact⟨rfl,bLa _ _⟩));have qf:Hid (∀w',Cl 20 #[.slice B no co] w' fun e Z=>e=.returned (.slice B n3 co)/\Below w'.heap.size w' Z):=q_ (fun w'=>(aTe B no co n3 w' (by omega) k4 j0).mono (by rintro e Z ⟨rfl,rfl⟩;exact⟨rfl,bLa _ _⟩));obtain⟨z,hz⟩:=eX w.heap.size;obtain⟨zt,ls⟩:∃z,w1.heap.size=z:=⟨_,rfl⟩
 obtain⟨zz,j9⟩:∃z,w2.heap.size=z:=⟨_,rfl⟩
 rw[hz]at fa al bu;rw[ls]at dr ig;rw[j9]at ds ck ig G bu;clear hc jz gd hR hH hg j1 j2 j3 hq hr hO id hP ie e8 e9 j8 j7 j0 j4 j5 j6 hs;replace ⟨dq,cl⟩:=q_2 dq cl;go_enter func4,ntmps4;go_upto_region 1 with fail
 clear gf gg;apply aWa;refine gG (.agg arr) rfl (jL w2 _ 30 (.tmp 6) rfl z rfl arr _ fa hDa rfl (by rw[aQz,dq.out])) ?_;dsimp only[Act.put];iterate 2 refine pS ?_
 refine bRa rfl fun K j=>?_;go_simp;refine((G)).mono ?_;rintro e w3 ⟨eu,ay⟩;have hend':∃pv,e=.returned pv/\(pv=.pointer none\/(qF c=0/\∃O x v s b p f g,pv=.pointer (some ⟨O,0,none⟩)/\ScM w3 zz w3.heap.size O x v s b p f g S c H c.factor sd T0 kG 0)):=by
  rcases ay with⟨_,rfl⟩|⟨hv,O,x,v,s,b,p,f,g,rfl,G⟩
  .exact⟨_,rfl,.inl rfl⟩
  .exact⟨_,rfl,.inr ⟨hv,O,x,v,s,b,p,f,g,rfl,G⟩⟩
 clear ay;obtain⟨pv,rfl,ay⟩:=hend';have k9:=eu.size;have dw:Hid (Below zz w2 w3):=q_ (j9▸eu);have dx:=q_ (dw.block zt (by omega));have fc:=q_ (al.trans (eu.mono (by have:=al.size;omega)));rw[dr.out]at dx;clear eu G fa dr al dq;replace ay:=q_ ay;go_simp;refine j _ _ ?_;clear j K;refine pS ?_;refine bCa ?_;go_simp;go_upto_region 2 with fail
 have la:=fun(l:Later w3) (o:Nat)=>aA (kB l.hb dx) o
 refine rL ?_;refine eS 0 3 6 ?_;simp only[dA,dC,dD];iterate 2 refine qE ?_
 (refine aD (fun K j=>?_);go_simp;apply bSa;refine⟨fun l=>?_,j _ ?_⟩;(go_at_call 10;refine(qc l.w).mono ?_;rintro e w' ⟨rfl,hb⟩;exact⟨rfl,hb⟩);clear j K)
 refine aT ?_;clear la qc;refine eT 3 rfl fun l K j=>?_;go_simp;have am:=l.hb;have bw:=am.size;go_at_call 18;refine(qd _ ((ck.below ((tw dw am))).more (by omega))).mono ?_;rintro e w4 ⟨bv,rfl,h3,h4,ev⟩;refine j _ _ ev ?_;clear j K;refine eS 4 5 0 ?_;simp only[dB,dA,dC,dD];iterate 5 refine qE ?_
 refine aT ?_;refine eD fun w5 e5=>?_;obtain⟨m,hm⟩:=eX w3.heap.size;have cm:=am.trans ((ev.mono bw).trans (e5.mono (bJa bw ev.size)));have az:Hid (K1=0->aZ w5 m bv U):=q_ (fun h=>((h3 h).below e5).weaken (by omega));have cn:=q_ ((tw dw cm));have bx:=q_ (fc.trans (cm.mono (by have:=fc.size;omega)));have dy:=q_ ((cm.block zt (by omega)).trans dx);rw[hm]at k9;replace ay:pv=.pointer none\/(qF c=0/\∃O x v s b p f g,pv=.pointer (some ⟨O,0,none⟩)/\ScM w5 zz m O x v s b p f g S c H c.factor sd T0 kG 0):=by
  rcases ay with h|⟨hv,O,x,v,s,b,p,f,g,h,G⟩
  .exact .inl h
  .exact .inr ⟨hv,O,x,v,s,b,p,f,g,h,hm▸G.on cm⟩
 clear h3 h4 ev e5 am bw cm dw fc dx qd hm ck;rcases ay with rfl|⟨hv,O,x,v,s,b,p,f,g,rfl,G⟩
 .clear az cn dy;go_wp2_with fail
  refine(aBk w5).mono ?_;rintro e w6 ⟨rfl,g7⟩;go_wp2_with fail
  go_ret;exact⟨rfl,by rw[hz];exact bx.trans (g7.mono (by have:=bx.size;omega))⟩
 by_cases h0:K1=0
 case neg =>
  have e1:((K1:Int) != 0)=true:=by rw[dLa];omega
  clear az cn dy G h0;go_wp2_with fail
  refine(aBk w5).mono ?_;rintro e w6 ⟨rfl,g7⟩;go_wp2_with fail
  go_ret;exact⟨rfl,by rw[hz];exact bx.trans (g7.mono (by have:=bx.size;omega))⟩
 obtain⟨s0,d0,rfl,rfl,rfl,rfl,em⟩:=dgm_of (cl.trans h0) q1 q2 q3 q4;subst h0;clear cl;replace hU:aVf E I J L N s0 d0 xs=U:=hU;obtain⟨n,hn⟩:=eX U.length;have dz:Hid (PxA n U 0 (dgX E I J L N s0 d0 n)):=q_ (hU▸dg_px em (by omega) (by rw[hU];exact hn));have lb:n<=4000:=by
  rw[<-hn,<-hU,dg_len];split<;>omega
 have cq:Hid (xG (dgX E I J L N s0 d0 n)):=q_ (dgx_bd em);have hV:=q_ (aAw hv);obtain⟨Fn,ka⟩:∃F:Nat,c.factor=(F:Int):=⟨c.factor.toNat,by have:=hV.factor;omega⟩
 have fd:100<=Fn:=by have:=hV.factor;omega
 have fe:Fn<=1000:=by have:=hV.factor;omega
 rw[ka]at G;clear ka;obtain⟨X,hX⟩:=eX (dgX E I J L N s0 d0 n);have lc:X.er=false:=by rw[<-hX]
 have ik:X.t=tuD E I J L N s0 d0:=by rw[<-hX]
 have ld:2<=X.ttl:=by rw[<-hX];exact(by decide:(2:Int)<=64)
 rw[hX]at dz cq;obtain⟨snd,an⟩:=sends_ex fb X n U hn lb (bM c H Fn sd T0 S X).vip;have ho5':=q_ (az rfl);obtain⟨A3,c3,rfl,gj,kb,-⟩:=ho5'.form;rw[hn]at gj ho5' ⊢;have il:∀w' Z,aZ w' m (.slice A3 n c3) U->ScE b f g w' Z->ScM w' zz m O x v s b p f g S c H (Fn:Int) sd T0 kG 0->IsB Z Z.heap.size A3 n U:=fun w' Z h hE hS=>(aJa (kT h hE (fun k h1 _=>by rintro(rfl|rfl|rfl)<;>(have:=hS.lt;omega)))).1
 have qt:=q_ (fun w' (hS:ScM w' zz m O x v s b p f g S c H (Fn:Int) sd T0 kG 0) (ho:aZ w' m (.slice A3 n c3) U)=>aKq hS.sc dt dm fd fe hV.tree 0 X n U dz cq (fun h=>absurd rfl h) snd (fun _ _ h _=>an h) (by have:=aMm c H Fn sd T0 S X;omega) A3 c3 (fun Z hE=>il w' Z ho hE hS) gj kb);obtain⟨R,gk⟩:=eX (bM c H Fn sd T0 S X);obtain⟨Y,gl⟩:=eX (gX 0 R snd T0 (pV T0 S kG 0 X R));have d2:=q_ (stays dt cq lc (by rw[ik];exact(by decide:(17:Int)≠6)) ld gk gl);rw[gk]at qt an;rw[gl]at qt;clear gl gk az dt il;replace ⟨G,an⟩:=q_2 G an;go_upto_region 5 with fail
 apply aWa;iterate 2 refine pS ?_
 refine bRa rfl fun K j=>?_;go_simp;refine((qt w5 G ho5')).mono ?_;rintro e w6 ⟨o1,nc,rfl,-,fi,kw,de⟩;obtain⟨Ah,ca,rfl,-,-,-⟩:=bE fi;have le:=cn.size;have d3:=G.below (by omega) de;have ff:=q_ (G.next de kw);have fg:=q_ (cn.trans d3);have fh:=q_ (bx.trans (d3.mono bu));have im:=q_ ((d3.block zt (by omega)).trans dy);have nm:∀k,m<=k->¬ Mv b f g k:=by rintro k hk (rfl|rfl|rfl)<;>(have:=ff.lt;omega)
 have io:=q_ (kT ho5' de (fun k h1 _=>nm k h1));have hr6':=q_ (jC fi (show m<=w5.heap.size from G.size));have ip:=de.size;have lf:=G.size;clear de kw G d3 cn bx dy ho5' qt fi nm le;go_simp;refine j _ _ ?_;clear j K;iterate 4 refine pS ?_
 obtain⟨w7,gn⟩:∃y,w6.alloc (.cells #[.slice none 0 0,.bool false,.int .u64 0,.int .u64 0,.int .i64 0,.int .i64 0,.int .i64 0,.bool false,.bool false] 54)=y:=⟨_,rfl⟩
 refine pS ?_;have fj:Below w6.heap.size w6 w7:=gn▸bC;have iq:w7.heap[w6.heap.size]?=some (.cells (aH (.slice none 0 0) vpZ false) 54 (0,0)):=gn▸aJ _ _ _;clear gn;refine pS ?_;refine bQ rfl 54 (.tmp 17) (.tmp 52) rfl w6.heap.size 0 rfl (aH (.slice Ah Y.way.hosts.length ca) Y.way.vip Y.way.pin) rfl iq (by simp) (by rw[jZ];rfl) (eG rfl Y.way.vip Y.way.pin) fun w8 ae g8=>?_;rw[aQ _ _ (by rfl)]at ae;have be:Below w6.heap.size w6 w8:=fj.trans (below_grown g8 (by have:=fj.size;omega) (aZa _));obtain⟨o,ho⟩:=eX w6.heap.size;have ao:=q_ (ff.on be);have b0:=q_ (fg.trans (be.mono (by have:=fg.size;omega)));have b1:=q_ (fh.trans (be.mono (by have:=fh.size;omega)));have d4:=q_ (aG be im);have d5:=q_ (own_below io be);have bf:=q_ (own_below hr6' be);rw[ho]at ae ip;rw[ho];have ir:m<=o:=by omega
 clear fj iq be g8 ff fg fh im io hr6' ho ip lf;replace ae:=q_ ae;refine pS ?_;refine bCa ?_;go_simp;by_cases ce:Y.K=0
 case neg =>
  have e1:((Y.K:Int) != 0)=true:=by rw[dLa];omega
  clear ce ao b0 d4 d5 bf ae d2;go_wp2_with fail
  refine(aBk w8).mono ?_;rintro e w9 ⟨rfl,a4⟩;go_wp2_with fail
  go_ret;exact⟨rfl,by rw[hz];exact b1.trans (a4.mono (by have:=b1.size;omega))⟩
 have fk:w8.cell? ⟨o,6,none⟩=some (.int .i64 Y.way.vip.copies):=aA ae 6;by_cases bp:Y.way.vip.copies=1
 case neg =>
  have e1:(Y.way.vip.copies != 1)=true:=by rw[dLa];exact bp
  rw[ce];clear ce ao b0 d4 d5 bf ae d2;go_wp2_with fail
  refine(aBk w8).mono ?_;rintro e w9 ⟨rfl,a4⟩;go_wp2_with fail
  go_ret;exact⟨rfl,by rw[hz];exact b1.trans (a4.mono (by have:=b1.size;omega))⟩
 obtain⟨i,eq,gp,d7,fl,⟨mt,cr⟩,gq⟩:=d2 ce bp;rw[eq,gp]at bf;rw[eq,gp]at ae;rw[eq]at bp fk;rw[bp]at fk;rw[ce];obtain⟨T1,kd⟩:∃T,Y.T=T:=⟨_,rfl⟩
 rw[kd]at cr gq ao;obtain⟨bg,ke⟩:=gq H2;obtain⟨T2,b2⟩:∃T,pV T1 S kG 0 X ⟨0,[i],R.vip,true⟩=T:=⟨_,rfl⟩
 obtain⟨⟨mu,d6⟩,ct⟩:=ke T2 b2;obtain⟨V,gr⟩:=eX R.vip;rw[gr]at bg ct b2 an;rw[gr]at ae;clear d2 ce bp eq gp gq ke kd gr;replace ⟨bf,ae,cr,d6,bg,ct,b2,fl,d7,ao,an⟩:=q_11 bf ae cr d6 bg ct b2 fl d7 ao an;go_upto_region 8 with fail
 clear fk;obtain⟨l1,h1,a1,-,-⟩:=ao.conf;obtain⟨⟨B1,B2,B3,m1,m2,m3,t,kh,-,-,ki⟩⟩:=a1.at;have lg:∀l:Later w8,l.w.cell? ⟨O,0,none⟩=some (.pointer (some ⟨x,0,none⟩)):=fun l=>aA (aG l.hb ao.sc.blk) 0
 have lx:∀l:Later w8,l.w.cell? ⟨x,11,none⟩=some (.pointer (some ⟨t,0,none⟩)):=fun l=>aA (aG l.hb kh) 11
 have cu:∀l:Later w8,dH l.w l1 t c.nodes:=fun l=>by
  obtain⟨nv,kv,tv,hv,us,hC⟩:=ki;exact⟨nv,kv,tv,hv,us,hC.on l.hb⟩
 have li:=b0.size;clear kh ki a1;replace cu:=q_ cu;refine rL ?_;refine eS 0 10 4 ?_;simp only[dA,dC,dD];iterate 9 refine qE ?_
 (refine aD (fun K j=>?_);go_simp;apply bSa;refine⟨fun l=>?_,j _ ?_⟩;(go_at_call 20;refine(qf l.w).mono ?_;rintro e w' ⟨rfl,hb⟩;exact⟨rfl,hb⟩);clear j K)
 refine aT ?_;clear lg lx qf;refine eT 10 rfl fun l K j=>?_;go_simp;have am:=l.hb;have bw:=am.size;go_at_call 19;refine(aB3 c.nodes hV.tree.good H2 B n3 co l.w l1 t (cu l) (IsV.more (IsV.below ds ((tw b0 am))) (by omega)) (by omega)).mono ?_;rintro e w9 ⟨⟨s2,gw,gs,kx,rfl,ky,kz⟩,a4⟩;have d8:fH w9 s2 t c.nodes (pG c.nodes H2) (fT c.nodes H2).2:=by
  obtain⟨nv,kv,tv,hv,us,hC⟩:=cu l;exact⟨⟨l1,nv,kv,tv,hv,us,hC.on a4⟩,⟨_,gw,gs,kx,ky⟩,kz⟩
 refine j _ _ a4 ?_;clear j K;have ap:=am.trans (a4.mono bw);have it:=q_ (ao.on ap);have iu:=q_ ((tw b0 ap));have iv:=q_ ((tw b1 ap));have iw:=q_ (aG ap d4);have ix:=q_ (own_below d5 ap);have iy:=q_ (own_below bf ap);have iz:=q_ (aG ap ae);have lj:=ap.size;clear ky kz a4 am bw ap cu ao b0 b1 d4 d5 bf ae ds l;replace d8:=q_ d8;refine eS 11 2 1 ?_;simp only[dB,dA,dC,dD];iterate 2 refine qE ?_
 refine aT ?_;refine eE fun l2=>?_;have aq:=q_ (it.on l2.hb);have i0:=q_ (iu.trans (l2.hb.mono (by omega)));have i1:=q_ (iv.trans (l2.hb.mono (by omega)));have i2:=q_ (aG l2.hb iw);have i3:=q_ (own_below ix l2.hb);have i4:=q_ (own_below iy l2.hb);have i5:=q_ (aG l2.hb iz);have i6:=q_ (d8.on l2.hb);have lk:=l2.hb.size;obtain⟨wb,g0⟩:∃x,l2.w.setCell ⟨O,2,none⟩ (.pointer (some ⟨s2,0,none⟩))=x:=⟨_,rfl⟩
 have ai:aV l2.w.heap.size (fun k=>k=O) l2.w wb:=by
  rw[<-g0];exact uA (P:=fun k=>k=O) (gQ _ _ _) rfl _
 have i7:wb.heap[O]?=some (.cells #[.pointer (some ⟨x,0,none⟩),.pointer (some ⟨v,0,none⟩),.pointer (some ⟨s2,0,none⟩),.pointer (some ⟨b,0,none⟩),.pointer (some ⟨p,0,none⟩)] 76 (0,0)):=by
  rw[<-g0];exact bP aq.sc.blk 2 _
 have ll:l2.w.cell? ⟨O,2,none⟩=some (.pointer (some ⟨s,0,none⟩)):=aA aq.sc.blk 2;have lm:=bD aq.sc.blk 2;clear it iu iv iw ix iy iz d8;refine tS 13 rfl fun K j=>?_;go_simp;refine j _ _ ?_;clear j K ll lm g0;refine tD ?_;have cv:Below zz l2.w wb:=⟨ai.os,ai.tape,ai.output,ai.size,fun k hk=>ai.block k (by omega) (by have:=aq.ge;omega)⟩
 have bi:=q_ (aq.reset ⟨t,i6⟩ i7 ai);have d9:=q_ (i0.trans cv);have fm:=q_ (i1.trans (cv.mono bu));have fn:=q_ ((cv.block zt (by omega)).trans i2);have fo:=q_ (rY i3 aq.sc.blk (by decide) ai);have fp:Hid (wb.ownsRow m 3 1 (.slice Ah 1 ca) 1 [bL i]):=q_ (rY i4 aq.sc.blk (by decide) ai);have ea:Hid (wb.heap[o]?=some (.cells (aH (.slice Ah 1 ca) V R.pin) 54 (0,0))):=q_ (dW i5 aq.sc.blk (by decide) ai);have i8:=cv.size;obtain⟨g1,kj⟩:∃x,wb=x:=⟨_,rfl⟩
 rw[kj]at bi d9 fm fn fo fp ea i8 ⊢;have mr:m<=g1.heap.size/\o<g1.heap.size:=⟨bi.size,aL ea⟩
 clear kj cv ai i7 aq i0 i1 i2 i3 i4 i5 i6 lk lj li l2 i8;go_simp;go_upto_region 9 with fail
 apply aWa;iterate 2 refine pS ?_
 have nm:∀k,m<=k->¬ Mv b f g k:=by rintro k hk (rfl|rfl|rfl)<;>(have:=bi.lt;omega)
 have fq:=aKq bi.sc cr dm fd fe hV.tree 0 X n U dz cq (fun h=>absurd rfl h) snd (fun _ _ h _=>by rw[bg.out];exact an h) (by rw[bg.out];exact(by decide:1<=1048576)) A3 c3 (fun Z hE=>(aJa (kT fo hE (fun k h1 _=>nm k h1))).1) gj kb;rw[bg.out,b2.out,aWj fl.out]at fq;refine bRa rfl fun K j=>?_;go_simp;refine((fq)).mono ?_;rintro e ak ⟨o2,kx,rfl,eb,ee,ec,cc⟩;have eb:Hid (mZ ak g1.heap.size o2 [(i,(snd i).2)]):=q_ (eb);have ec:Sc ak O x v s2 b p f g S c H2 (Fn:Int) sd T2 kG 0:=ec;obtain⟨lu,lv,rfl,-,-,-⟩:=bE ee;have ed:=bi.below (by have:=d9.size;omega) cc;have i9:=q_ (bi.next cc ec);have fr:=q_ (d9.trans ed);have fs:=q_ (fm.trans (ed.mono bu));have ja:=q_ ((ed.block zt (by omega)).trans fn);have ee:=q_ (kT fp cc (fun k h1 _=>nm k h1));have jb:=q_ ((cc.block o (by omega) (nm o ir)).trans ea);have jc:=cc.size;clear cc ec bi ed d9 fm fn fo fp ea fq nm an dz bg b2 cr cq;go_simp;refine j _ _ ?_;clear j K;iterate 4 refine pS ?_
 obtain⟨kk,g2⟩:∃y,ak.alloc (.cells #[.slice none 0 0,.bool false,.int .u64 0,.int .u64 0,.int .i64 0,.int .i64 0,.int .i64 0,.bool false,.bool false] 54)=y:=⟨_,rfl⟩
 refine pS ?_;have ft:Below ak.heap.size ak kk:=g2▸bC;have jd:kk.heap[ak.heap.size]?=some (.cells (aH (.slice none 0 0) vpZ false) 54 (0,0)):=g2▸aJ _ _ _;clear g2;refine pS ?_;refine bQ rfl 54 (.tmp 20) (.tmp 81) rfl ak.heap.size 0 rfl (aH (.slice lu 1 lv) V true) rfl jd (by simp) (by rw[jZ];rfl) (eG rfl V true) fun e7 bt ib=>?_;rw[aQ _ _ (by rfl)]at bt;have a0:Below ak.heap.size ak e7:=ft.trans (below_grown ib (by have:=ft.size;omega) (aZa _));obtain⟨o3,g3⟩:∃o,ak.heap.size=o:=⟨_,rfl⟩
 have je:=q_ (i9.on a0);have fu:=q_ (fr.trans (a0.mono (by have:=fr.size;omega)));have fv:=q_ (fs.trans (a0.mono (by have:=fs.size;omega)));have fw:=q_ (aG a0 ja);have jf:=q_ (own_below ee a0);have jg:=q_ (aG a0 jb);have jh:=q_ (eb.below a0);rw[g3]at bt jc;rw[g3];have ms:m<=o3:=by omega
 clear ft jd a0 ib i9 fr fs ja ee jb eb g3 jc;replace bt:=q_ bt;refine pS ?_;refine bCa ?_;go_simp;go_upto_region 10 with fail
 have qb:∀w',Cl 18 #[.agg #[.int .i64 17,.bool E,.int .u64 (L:Int),.int .u64 (N:Int),.bool E,.int .u64 (I:Int),.int .u64 (J:Int),.int .i64 (d0:Int),.int .i64 (s0:Int)],.int .i64 64,.slice none 0 0] w' fun e Z=>dE 0 (aVf E L N I J d0 s0 []) w' Z e:=fun w'=>by
  have:=aMb 17 E L N E I J (d0:Int) (s0:Int) 64 none 0 0 [] w' ⟨rfl,fun h=>absurd h (by simp)⟩ (by omega) q3 q4 q1 q2;rw[dgm_to em.back]at this;exact this
 obtain⟨n6,g4⟩:∃n,(aVf E L N I J d0 s0 []).length=n:=⟨_,rfl⟩
 obtain⟨M,X3,lw,cy,cz,eg,eh,ef,qu⟩:=tell_px em g4;obtain⟨Bk,km⟩:∃B,aVf E L N I J d0 s0 []=B:=⟨_,rfl⟩
 rw[km]at qb g4 qu;clear km;replace ⟨qb,qu,cy,ef,eg,eh,cz⟩:=q_7 qb qu cy ef eg eh cz;apply aWa;refine gG (.agg #[.int .i64 17,.bool E,.int .u64 (I:Int),.int .u64 (J:Int),.bool E,.int .u64 (L:Int),.int .u64 (N:Int),.int .i64 (s0:Int),.int .i64 (d0:Int)]) rfl (jL e7 _ 46 (.tmp 10) rfl zt rfl #[.int .i64 17,.bool E,.int .u64 (I:Int),.int .u64 (J:Int),.bool E,.int .u64 (L:Int),.int .u64 (N:Int),.int .i64 (s0:Int),.int .i64 (d0:Int)] _ fw cRa rfl (by rw[qK];rfl)) ?_;dsimp only[Act.put];refine bRa rfl fun K j=>?_;go_simp;refine((aWw 17 (s0:Int) (d0:Int) E E (I:Int) (J:Int) (L:Int) (N:Int) e7)).mono ?_;rintro e mg ⟨rfl,ha⟩;go_simp;refine j _ _ ?_;clear j K;refine bRa rfl fun K j=>?_;go_simp;refine((qb mg)).mono ?_;rintro e ex ⟨bv,rfl,h3,-,k0⟩;obtain⟨A6,c6,rfl,kn,lz,c1⟩:=(h3 rfl).form;rw[g4]at kn c1 ⊢;have ar:=ha.trans (k0.mono ha.size);have ji:=q_ (je.on ar);have fx:=q_ (fu.trans (ar.mono (by have:=fu.size;omega)));have fy:=q_ (fv.trans (ar.mono (by have:=fv.size;omega)));have jj:=q_ (aG ar fw);have fz:=q_ (own_below jf ar);have f0:=q_ (aG ar jg);have jk:=q_ (jh.below ar);have jl:=q_ (aG ar bt);clear h3 ha k0 ar je fu fv fw jf jg jh bt qb;replace c1:=q_ c1;go_simp;refine j _ _ ?_;clear j K;iterate 5 refine pS ?_
 refine bCa ?_;go_simp;go_upto_region 11 with fail
 obtain⟨bo,oo,cO,rfl,-,-,es,da⟩:=aWg jk;obtain⟨bh,oh,cH,hh,-,-,et,db⟩:=aWe fz;injection hh with hh1 hh2 hh3
 subst hh1;have lO:∀l:Later ex,l.w.cell? ⟨bo,oo,none⟩=some (.int .i64 i):=fun l=>(l.hb.cell (p:=⟨bo,oo,none⟩) es).trans da
 have lH:∀l:Later ex,l.w.cell? ⟨bh,oh,none⟩=some (.int .i64 i):=fun l=>(l.hb.cell (p:=⟨bh,oh,none⟩) et).trans db
 have lW:∀l:Later ex,l.w.cell? ⟨o,0,none⟩=some (.slice (some ⟨bh,oh,none⟩) 1 ca):=fun l=>aA (aG l.hb f0) 0
 have lP:∀l:Later ex,l.w.cell? ⟨o3,8,none⟩=some (.bool true):=fun l=>aA (aG l.hb jl) 8
 clear da db hh2 hh3;refine rL ?_;refine eS 0 23 0 ?_;simp only[dA,dC,dD];iterate 23 refine qE ?_
 refine aT ?_;refine eD fun mm ax=>?_;have f5:=q_ (ji.on ax);have f6:=q_ (fx.trans (ax.mono (by have:=fx.size;omega)));have f7:=q_ (fy.trans (ax.mono (by have:=fy.size;omega)));have jm:=q_ (aG ax jj);have jn:=q_ (own_below fz ax);have jo:=q_ (aG ax f0);have jp:=q_ (c1.on ax);have ln:=aA jm;clear ax ji fx fy jj fz f0 jk jl c1 lO lH lW lP es et;go_simp;go_wp2_with fail
 refine(qu _ c6 _ jp kn lz).mono ?_;rintro e hd ⟨mv,rfl,h3,-,cd⟩;have f8:Hid (aZ hd m mv M):=q_ ((h3 rfl).weaken f5.size);obtain⟨A7,c7,rfl,l6,l7,-⟩:=f8.form;have ei:=q_ (f5.on cd);have jq:=q_ (f6.trans (cd.mono (by have:=f6.size;omega)));have jr:=q_ (f7.trans (cd.mono (by have:=f7.size;omega)));have js:=q_ (own_below jn cd);have f9:=q_ (aG cd jo);clear ln h3 cd f5 f6 f7 jm jn jo jp qu;go_upto_region 18 with fail
 apply aWa;iterate 2 refine pS ?_
 have jt:2<=X3.ttl:=by rw[eh.out];exact(by decide:(2:Int)<=64)
 obtain⟨U3,kq⟩:=send_er hd fb hv cy rfl lw jt cz V d7;have ej:=ct X3 cz (eg.trans ik.symm) jt;have nm:∀k,m<=k->¬ Mv b f g k:=by rintro k hk (rfl|rfl|rfl)<;>(have:=ei.lt;omega)
 have ga:=aKq ei.sc d6 dm fd fe hV.tree 0 X3 M.length M cy ef (fun h=>absurd rfl h) (fun _=>(0,U3)) (fun _ _ h hh=>by rw[ej]at hh ⊢;obtain rfl:h=i:=List.mem_singleton.1 hh;exact kq) (by rw[ej];exact(by decide:1<=1048576)) A7 c7 (fun Z hE=>(aJa (kT f8 hE (fun k h1 _=>nm k h1))).1) l6 l7;rw[ej,aWj rfl]at ga;refine bRa rfl fun K j=>?_;go_simp;refine((ga)).mono ?_;rintro e av ⟨o4,nd,rfl,ek,el,mj,ey⟩;have ek:Hid (mZ av hd.heap.size o4 [(i,U3)]):=q_ (ek);obtain⟨l8,l9,rfl,-,-,-⟩:=bE el;have ju:=ei.below (by have:=jq.size;omega) ey;have gb:=q_ (jr.trans (ju.mono bu));have el:=q_ (kT js ey (fun k h1 _=>nm k h1));have jv:=q_ ((ey.block o (by have:=aL f9;omega) (nm o ir)).trans f9);clear ey mj ei ju jq jr js f9 ga nm f8 kq ej ct d6 cy ef eg eh cz d7;go_simp;refine j _ _ ?_;clear j K;iterate 4 refine pS ?_
 obtain⟨kr,g6⟩:∃y,av.alloc (.cells #[.slice none 0 0,.bool false,.int .u64 0,.int .u64 0,.int .i64 0,.int .i64 0,.int .i64 0,.bool false,.bool false] 54)=y:=⟨_,rfl⟩
 refine pS ?_;have gc:Below av.heap.size av kr:=g6▸bC;have jw:kr.heap[av.heap.size]?=some (.cells (aH (.slice none 0 0) vpZ false) 54 (0,0)):=g6▸aJ _ _ _;clear g6;refine pS ?_;refine bQ rfl 54 (.tmp 27) (.tmp 128) rfl av.heap.size 0 rfl (aH (.slice l8 1 l9) V true) rfl jw (by simp) (by rw[jZ];rfl) (eG rfl V true) fun bc cj ic=>?_;rw[aQ _ _ (by rfl)]at cj;have c2:Below av.heap.size av bc:=gc.trans (below_grown ic (by have:=gc.size;omega) (aZa _));obtain⟨o5,az⟩:∃o,av.heap.size=o:=⟨_,rfl⟩
 have jx:=q_ (gb.trans (c2.mono (by have:=gb.size;omega)));have lo:=q_ (own_below el c2);have lp:=q_ (aG c2 jv);have lq:=q_ (ek.below c2);rw[az]at cj;rw[az];clear gc jw c2 ic gb el jv ek az;replace cj:=q_ cj;refine pS ?_;refine bCa ?_;go_simp;go_upto_region 19 with fail
 obtain⟨bo,oo,cO,rfl,-,-,es,da⟩:=aWg lq;obtain⟨bq,oq,cH,hh,-,-,ks,kt⟩:=aWe lo;have lr:bh<bc.heap.size/\bc.cell? ⟨bh,oh,none⟩=some (.int .i64 i):=by
  cases hh
  exact⟨ks,kt⟩
 obtain⟨et,db⟩:=lr;have lO:∀l:Later bc,l.w.cell? ⟨bo,oo,none⟩=some (.int .i64 i):=fun l=>(l.hb.cell (p:=⟨bo,oo,none⟩) es).trans da
 have lH:∀l:Later bc,l.w.cell? ⟨bh,oh,none⟩=some (.int .i64 i):=fun l=>(l.hb.cell (p:=⟨bh,oh,none⟩) et).trans db
 have lW:∀l:Later bc,l.w.cell? ⟨o,0,none⟩=some (.slice (some ⟨bh,oh,none⟩) 1 ca):=fun l=>aA (aG l.hb lp) 0
 have lP:∀l:Later bc,l.w.cell? ⟨o5,8,none⟩=some (.bool true):=fun l=>aA (aG l.hb cj) 8
 clear da db hh ks kt;refine rL ?_;refine eS 0 26 0 ?_;simp only[dA,dC,dD];iterate 23 refine qE ?_
 (refine aD (fun K j=>?_);go_simp;apply bSa;refine⟨fun l=>?_,j _ ?_⟩;(go_at_call 9;refine(aBk l.w).mono ?_;rintro e w' ⟨rfl,hb⟩;exact⟨rfl,hb⟩);clear j K)
 iterate 2 refine qE ?_
 refine aT ?_;refine eD fun mn k8=>?_;have jy:=q_ (jx.trans (k8.mono (by have:=jx.size;omega)));clear lO lH lW lP;go_simp;go_wp2_with fail
 go_ret;exact⟨rfl,by first|exact jy|(rw[hz];exact jy)⟩
section
theorem flat_int(j:List Int):(j.map fun x=>[bL x]).flatten=j.map bL:=by
 induction j with
 | nil=>rfl
 | cons a t ih=>rw[eCa,gSa,ih];rfl
theorem aFr:prog.cellsOf 3=1:=by kernel_rfl
section
variable {H:Type} {enc:TypeId×Value->H} {w:World} {spare:Nat->Bool} {held:Bool}
theorem aR4{y:DataW H×List MemPlace}(h:DataW.trod enc prog w 0 spare held m 31 [v]=some y) :
 ∃A n c j,v=.slice A n c/\IsR bL w w.heap.size A n j/\n<=c/\c<=maxLen:=by
 obtain⟨A,n,c,j,e,⟨I,-⟩,J,L⟩:=uE (f:=fun x:Int=>[bL x]) (size:=1) (fun _=>True) dRa aFr (by omega) (fun n cs y h G=>by
  match cs,G with
  | [a],_ =>
   obtain⟨k,rfl,_⟩:=rT h;exact⟨k,rfl,trivial⟩) h
 have E:=I.2;rw[flat_int]at E;exact⟨A,n,c,j,e,E,J,L⟩
end
end
theorem aXb(L:Option Addr)(N k1:Nat)(e1:List Nd)(O:Option Addr)(U k2:Nat)(e2:List Vp)(V:Option Addr)(W k3:Nat)(e3:List Vw)(f d:Int)(a:Bool)(b e:Int)(a':Bool)(b' e':Int)(A:Option Addr)(j E:Nat)(hs:List Int)(B:Option Addr)(no G:Nat)(os:List Int)(sd:Int)(Y:Int)(sv:Bool)(sh sl:Int)(dv:Bool)(dh dl Z dp:Int)(P:Option Addr)(I J:Nat)(ps:List UInt8)(w:World)
 (h1:IsT ndC 7 w w.heap.size L N e1/\∀x∈e1,Nd.fits x) (bp:N<=k1) (ao:k1<=maxLen) (h2:IsT vpC 7 w w.heap.size O U e2/\∀x∈e2,Vp.fits x) (bq:U<=k2) (aq:k2<=maxLen) (h3:IsT vwC 5 w w.heap.size V W e3/\∀x∈e3,Vw.fits x) (br:W<=k3) (au:k3<=maxLen)
 (_:(Lit.int .i64 f).wf=true) (_:(Lit.int .i64 d).wf=true) (g1:(Lit.int .u64 b).wf=true) (g2:(Lit.int .u64 e).wf=true) (g3:(Lit.int .u64 b').wf=true) (g4:(Lit.int .u64 e').wf=true) (hH:IsR bL w w.heap.size A j hs) (a0:j<=E) (a1:E<=maxLen) (hO:IsR bL w w.heap.size B no os) (a3:no<=G) (a4:G<=maxLen) (a5:(Lit.int .u64 sd).wf=true)
 (_:(Lit.int .i64 Y).wf=true) (t1:(Lit.int .u64 sh).wf=true) (t2:(Lit.int .u64 sl).wf=true) (t3:(Lit.int .u64 dh).wf=true) (t4:(Lit.int .u64 dl).wf=true) (_:(Lit.int .i64 Z).wf=true) (_:(Lit.int .i64 dp).wf=true) (hP:IsB w w.heap.size P I ps) (bb:I<=J) (bc:J<=maxLen) :
 Cl 4 #[.agg #[.slice L N k1,.slice O U k2,.slice V W k3,.int .i64 f,.int .i64 d,.bool a,.int .u64 b,.int .u64 e,.bool a',.int .u64 b',.int .u64 e'],.slice A j E,.slice B no G,.int .u64 sd,.agg #[.int .i64 Y,.bool sv,.int .u64 sh,.int .u64 sl,.bool dv,.int .u64 dh,.int .u64 dl,.int .i64 Z,.int .i64 dp],.slice P I J] w fun e w'=>e=.returned (.bool true)/\Below w.heap.size w w':=by
 obtain⟨c,hR,hg,c1,c2,c3,hv⟩:=aS7 (k1:=k1) (k2:=k2) (k3:=k3) (f:=f) (d:=d) (a:=a) (a':=a') h1 h2 h3 g1 g2 g3 g4;obtain⟨s,rfl,bg⟩:=zV a5;obtain⟨s1,rfl,y1⟩:=zV t1;obtain⟨s2,rfl,y2⟩:=zV t2;obtain⟨s3,rfl,y3⟩:=zV t3;obtain⟨s4,rfl,y4⟩:=zV t4;rw[hv];exact aW3 c hg w L O V k1 k2 k3 hR ⟨by omega,ao⟩ ⟨by omega,aq⟩ ⟨by omega,au⟩ A j E hs hH a0 a1 B no G os hO a3 a4 s bg Y sv s1 s2 dv s3 s4 Z dp y1 y2 y3 y4 P I J ps hP bb bc
end Go.Proofs.YtpcifakangbpaaaGreat
