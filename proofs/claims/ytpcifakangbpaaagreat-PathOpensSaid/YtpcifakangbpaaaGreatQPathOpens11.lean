/- Parts of the proof of PathOpens: contracts of functions of the program. No condition but those that each theorem names. -/
import Derived.Test.YtpcifakangbpaaaGreatQPathOpens10
set_option linter.unusedVariables false
set_option linter.unusedSimpArgs false
set_option maxRecDepth 100000
set_option maxHeartbeats 16000000
namespace Go.Proofs.YtpcifakangbpaaaGreat
open Go.RowKit Go.ChangeShapes Go.WideShapes Go.ChangeAt Go.Deep Go.Proofs.Tryz
variable {R xs:List UInt8}{B E J N O S V b base' c f fuel g i j k m n s sd sz:Nat}{Q:Exit->Act->World->Prop}{d w' w0:World}{u v z:Value}{T e t:TypeId}{A:Option Addr}{h os:List Nat}{F:List UInt8->Option Nat}{p:List Nat×List Bool}{a:Act}{α:Type}{H l:List Int}{o:Oper}{G:Array Oper}{K:Act->World->Prop}{y:Array Value}{vs:List Value}{L:List Oper}{I:Bool}{U W Y aa:List (Int×List UInt8)}{P:Program}
theorem aMe{l:List α}{e:α}(h:l[i]?=some e):l.drop i=e :: l.drop (i+1):=by
 obtain⟨j,rfl⟩:=List.getElem?_eq_some_iff.1 h;exact fMa j
def hd8 (cls lab hop next T:Nat):List UInt8:=[UInt8.ofNat (96+cls / 16),UInt8.ofNat (cls % 16*16+lab / 65536),UInt8.ofNat (lab / 256),UInt8.ofNat lab,UInt8.ofNat (T / 256),UInt8.ofNat T,UInt8.ofNat next,UInt8.ofNat hop]
def aAy (cls lab hop shi slo dhi dlo proto:Nat) (es:List (Int×List UInt8)) (ps:List UInt8):List UInt8 :=
 hd8 cls lab hop (aC1 es proto).toNat (tX es proto++ps).length++pQ true shi slo++pQ true dhi dlo++(tX es proto++ps)
theorem aQ0(j:List (Int×List UInt8))(h:∀e∈j,e.2.length<=2047):nK j<=j.length*2048:=by
 induction j with
 | nil=>simp[nK]
 | cons e j ih =>
  have E:=ih fun x A=>h x (by simp[A])
  have G:=h e (by simp);simp only[nK,eCa,List.sum_cons,eFa]at E ⊢;omega
section
variable {Q:Exit->Act->World->Prop} {md:Region.Mode}
theorem wpT_src(i:Nat){rest:List Oper}{G:Array Bool}{w:World}(J:L.drop i=o :: rest)(N:Region.ready md L.toArray G=[i])(O:o.guard=none)(s x:Operand)
 (U:o.op=.call { callee:=.builtin .append,args:=#[s,x],argTypes:=#[43,43] })
 (E:Nat) (v:Value) (xs I:List UInt8) (A:Option Addr) (m c B:Nat) (V:a.eval s=v) (W:a.eval x=.slice A m c) (X:aZ w E v xs) (Y:IsB w B A m I) (Z:E<=w.heap.size) (hb:xs.length+m<=1099511627776)
 (h:∀j w',aZ w' E j (xs++I)->fA w v w' j->wpAny prog md L.toArray Q fuel (G.setIfInBounds i true) (a.put o.dst j) w'):wpAny prog md L.toArray Q (fuel+1) G a w:=by
 refine bF i J N fun K hK=>?_;have hw:Region.wanted o (yielded L.toArray a.tmps)=true:=by unfold Region.wanted;rw[O]
 rw[bBa hw];exact aLc s x U E v xs I A m c B V W X Y Z hb fun j w' h1 h2=>hK _ _ (h j w' h1 h2)
end
theorem aAt(j:List Ext):xR j=nK (pes j):=by
 unfold xR nK pes;rw[List.map_map]
 rfl
theorem of8{a:Nat}(h:a % 256=b % 256):UInt8.ofNat a=UInt8.ofNat b:=by
 apply UInt8.toNat.inj;rw[cGa,cGa];exact h
theorem hd_eq(A j E next T G I J L:Nat)(_h1:A<=255)(N:j<=1048575) :
 beB (1610612736+A*1048576+j) 4++beB T 2++[UInt8.ofNat next,UInt8.ofNat E]++nS 8 [G,I,J,L]=hd8 A j E next T++pQ true G I++pQ true J L:=by
 have e:beB (1610612736+A*1048576+j) 4=[UInt8.ofNat (96+A / 16),UInt8.ofNat (A % 16*16+j / 65536),UInt8.ofNat (j / 256),UInt8.ofNat j]:=by
  simp only[beB,Nat.reducePow,Nat.div_one];rw[of8 (show(1610612736+A*1048576+j) / 16777216 % 256=(96+A / 16) % 256 by omega),of8 (show(1610612736+A*1048576+j) / 65536 % 256=(A % 16*16+j / 65536) % 256 by omega),
   of8 (show(1610612736+A*1048576+j) / 256 % 256=(j / 256) % 256 by omega),of8 (show(1610612736+A*1048576+j) % 256=j % 256 by omega)]
 rw[e];simp[hd8,pQ,nS,beB]
theorem aVp(j A E next T:Nat):(hd8 j A E next T).length=8:=rfl
theorem aVh(E G I J L N O U:Nat)(j:List (Int×List UInt8))(A:List UInt8):(aAy E G I J L N O U j A).length=40+nK j+A.length:=by
 unfold aAy;simp only[bHa,aVp,pQ,jEa,aR,sM];omega
theorem aD2(J L N:Int)(O:Bool)(U V:Int)(W:Bool)(Y Z:Int)(X:Option Addr)(n c:Nat)(A:Int)(es:List Ext)(i G:Nat)(ii:Int)(ai:ii=(i:Int))(w:World)(I:IsX w w.heap.size X n es)(_hn:n<=maxLen)(hi:i<=n)
 (j:aC1 ((pes es).drop i) A=(G:Int)) :
 Cl 102 #[eZ J L N O U V W Y Z X n c A,.int .i64 ii] w fun e w'=>e=.returned (.int .i64 (G:Int))/\Below w.heap.size w w':=by
 subst ai;unfold maxLen at _hn;have ag:=q_ (aJ w 164 #[.int .i64 J,.int .i64 L,.int .i64 N,.bool O,.int .u64 U,.int .u64 V,.bool W,.int .u64 Y,.int .u64 Z,.slice X n c,.int .i64 A]);obtain⟨w1,ae⟩:=eX (w.alloc (bS J L N O U V W Y Z X n c A));have ab:Hid (Below w.heap.size w w1):=q_ (ae▸bC);unfold bS at ae;rw[ae]at ag;have ao:=aA ag;have E:=I.on ab;have aj:Hid ((pes es).length=n):=q_ (by rw[rU];exact I.1);replace I:=q_ I;unfold eZ;by_cases am:i<n
 .obtain⟨b,aq,k,Ae,ce,xs,rfl,av,ad,aw,ax,ah,ay,az⟩:=E.at am;have hk:k=(G:Int):=by
   rw[aMe (aJj ad)]at j;exact j
  subst hk;have ak:(i:Int)<(n:Int):=by omega
  have ap:(0:Int)<=(i:Int):=by omega
  replace ⟨E,j,ad,ah⟩:=q_4 E j ad ah;go_enter func102,ntmps102;go_wp2_with fail
  go_ret;exact⟨rfl,ab⟩
 .have hk:A=(G:Int):=by
   rw[eLa (by rw[aj.out];omega)]at j;exact j
  subst hk;have ak:¬ (i:Int)<(n:Int):=by omega
  replace ⟨E,j⟩:=q_2 E j;go_enter func102,ntmps102;go_wp2_with fail
  go_ret;exact⟨rfl,ab⟩
theorem word6(j A N:Nat)(I:j<=255)(J:A<=1048575)(hN:1610612736+j*1048576+A=N):bits .or .u64 (bits .or .u64 1610612736 ((j:Int)*1048576)) (A:Int)=(N:Int):=by
 have E:1610612736 ||| j*1048576=1610612736+j*1048576:=by
  have:=gEa (i:=28) (b:=j*1048576) (by simp only[Nat.reducePow];omega) 6;simp only[Nat.reducePow,Nat.reduceMul]at this;exact this.symm
 have G:(1610612736+j*1048576) ||| A=1610612736+j*1048576+A:=by
  have:=gEa (i:=20) (b:=A) (by simp only[Nat.reducePow];omega) (1536+j);simp only[Nat.reducePow]at this;rw[show 1048576*(1536+j)=1610612736+j*1048576 by omega]at this;exact this.symm
 rw[show(1610612736:Int)=((1610612736:Nat):Int) from rfl,show(j:Int)*1048576=((j*1048576:Nat):Int) by simp,u64_or_nat _ _ (by omega) (by omega),E,u64_or_nat _ _ (by omega) (by omega),G,hN]
theorem aJ2(L O J:Nat)(sv:Bool)(V W:Nat)(dv:Bool)(Y Z:Nat)(X:Option Addr)(n c:Nat)(G:Nat)(A:List Ext)(P:Option Addr)(m d:Nat)(ps:List UInt8)(w:World)
 (hx:IsX w w.heap.size X n A) (d0:n<=c) (d1:c<=maxLen) (hp:IsB w w.heap.size P m ps) (_hmd:m<=d) (_hdm:d<=maxLen) (d2:sv=true) (d3:dv=true)
 (b1:L<=255) (b2:O<=1048575) (b3:J<=255) (b4:G<=255) (b5:V<18446744073709551616) (b6:W<18446744073709551616) (b7:Y<18446744073709551616) (b8:Z<18446744073709551616)
 (hn:n<=8) (hm:m<=4096) (hk:∀e∈A,0<=e.k/\e.k<=255) (hl:∀e∈A,e.xs.length<=2047) (hr:sS L O J sv dv G (pes A)=true) :
 Cl 58 #[eZ L O J sv V W dv Y Z X n c G,.slice P m d] w fun e w'=>∃v,e=.returned (.tuple #[v,.int .i64 0])/\aZ w' w.heap.size v (aAy L O J V W Y Z G (pes A) ps)/\Below w.heap.size w w':=by
 subst d2 d3;have b9:=q_ (aJ w 164 #[.int .i64 L,.int .i64 O,.int .i64 J,.bool true,.int .u64 V,.int .u64 W,.bool true,.int .u64 Y,.int .u64 Z,.slice X n c,.int .i64 G]);obtain⟨w1,bb⟩:=eX (w.alloc (bS L O J true V W true Y Z X n c G));have ca:Hid (Below w.heap.size w w1):=q_ (bb▸bC);have cc:w.heap.size<w1.heap.size:=by rw[<-bb];simp
 unfold bS at bb;rw[bb]at b9;have U:=aA b9;have da:=q_ (hx.on ca);have d5:=q_ (hp.on ca);have db:Hid ((pes A).length=n):=q_ (by rw[rU];exact hx.1);have d6:=q_ hp.1;have cd:nK (pes A)<=16384:=by
  have:=aQ0 (pes A) (fun e he=>by obtain⟨e',cx,rfl⟩:=List.mem_map.1 he;exact hl e' cx);rw[db]at this;omega
 obtain⟨L0,a4⟩:∃L0,40+xR A=L0:=⟨_,rfl⟩
 have e2:40<=L0:=by omega
 have e3:L0<=16424:=by rw[<-a4,aAt];omega
 obtain⟨T,hT⟩:∃T,L0 - 40+m=T:=⟨_,rfl⟩
 have d7:Hid ((tX (pes A) G++ps).length=T):=q_ (by rw[bHa,sM,<-aAt,d6];omega);obtain⟨nx,bi,fc⟩:∃nx:Nat,aC1 (pes A) G=(nx:Int)/\nx<=255:=by
  rcases A with _|⟨e,A⟩
  .exact⟨G,rfl,b4⟩
  .have:=hk e (by simp);exact⟨e.k.toNat,by show e.k=_;omega,by omega⟩
 have t1:¬ (65535:Int)<(L0:Int) - 40+(m:Int):=by omega
 replace ⟨hx,hp,hk,cd,hr,a4,hT,bi⟩:=q_8 hx hp hk cd hr a4 hT bi;unfold eZ;go_enter func58,ntmps58;go_wp2_with fail
 refine(aDm L O J true V W true Y Z X n c G A _ da d0 d1).mono ?_;rw[hr.out];rintro e w2 ⟨rfl,ah⟩;have dc:=q_ (aC ah cc b9);have d8:=q_ (ca.trans (ah.mono (cAa cc)));have dd:=q_ (da.on ah);clear U bb;have U:=aA dc;have cg:=bKa cc ah.size;replace ah:=q_ ah;go_wp2_with fail
 refine(vD L O J true V W true Y Z X n c G A _ dd hn hl L0 a4).mono ?_;rintro e w3 ⟨rfl,an⟩;have am:=q_ (aC an cg dc);have d9:=q_ (d8.trans (an.mono (cAa cg)));have ea:=q_ (dd.on an);clear U;have U:=aA am;have ai:=bKa cg an.size;replace an:=q_ an;obtain⟨N,hN⟩:∃N,1610612736+L*1048576+O=N:=⟨_,rfl⟩
 replace hN:=q_ hN;go_wp2_with fail
 refine(aB9 _ _ N 4 ?e1 rfl w3.heap.size (.slice none 0 0) [] _ (aZ.nil _ _) (aZa _) (by have:=hN.out;omega) (by omega) (by simp)).mono ?_
 case e1=>exact word6 L O N b1 b2 hN
 rintro e w4 ⟨v4,rfl,bj,de⟩;obtain⟨B,hB⟩:=eX w3.heap.size;have ch:=de.qG;rw[hB]at bj ch ai;have a5:=q_ ea;have ci:=d5.below (ah.trans (an.mono ah.size));rw[hB]at a5;have ci:=q_ (ci.more (B':=B) (by have:=ah.size;have:=an.size;omega));have a6:Hid (Below B w3 w4):=q_ (ch);have hg4':=q_ (aC a6 ai am);have eb:=q_ ((a5.below a6).more (B':=w4.heap.size) (by have:=a6.size;omega));have df:B<=w4.heap.size:=by have:=a6.size;omega
 clear U de ch;have U:=aA hg4';replace ⟨bj,hB⟩:=q_2 bj hB;go_wp2_with fail
 refine(vD L O J true V W true Y Z X n c G A _ eb hn hl L0 a4).mono ?_;rintro e w5 ⟨rfl,ao⟩;have dg:=q_ (a6.trans (ao.mono df));have dh:=q_ (bj.below ao);have ay:B<=w5.heap.size:=bJa df ao.size;have ec:=q_ (aC dg ai am);clear U ao;have U:=aA ec;go_wp2_with fail
 refine(aB9 _ _ T 2 (by have:=hT.out;omega) rfl B _ _ _ dh ay (by have:=hT.out;omega) (by omega) (by simp[aR])).mono ?_;rintro e w6 ⟨v6,rfl,cm,ck⟩;have cj:=q_ (dg.trans (ck.below dh ay));have bk:B<=w6.heap.size:=bJa ay ck.grown.size;have hg6':=q_ (aC cj ai am);have ed:w.heap.size<w6.heap.size:=by omega
 have ee:=q_ ((a5.below cj).more bk);have cl:=fun(l:Later w6) (o:Nat)=>aA (aC l.hb ed hg6') o
 clear U ck;replace cm:=q_ cm;go_wp2_with fail
 refine rL ?_;refine eS 0 7 3 ?_;simp only[dA,dC,dD];iterate 2 refine qE ?_
 (refine aD (fun K E=>?_);go_simp;apply bSa;refine⟨fun l=>?_,E _ ?_⟩;(go_at_call 102;refine(aD2 L O J true V W true Y Z X n c G A 0 nx _ rfl _ (ee.later l) (by unfold maxLen;omega) (by omega) bi).mono ?_;rintro e w' ⟨rfl,hb⟩;exact⟨rfl,hb⟩);clear E K)
 iterate 4 refine qE ?_
 refine aT ?_;have r1:IntKind.u8.wrap (nx:Int)=(nx:Int):=wraps_u8 _ (by omega) (by omega);have r2:IntKind.u8.wrap (J:Int)=(J:Int):=wraps_u8 _ (by omega) (by omega);rw[r1,r2];clear r1 r2 cl;refine eT 7 rfl fun l K E=>?_;go_simp;have dj:=bJa bk l.hb.size;have ap:=aZ.litv l.w l.w.heap.size [.int .u8 (nx:Int),.int .u8 (J:Int)] [UInt8.ofNat nx,UInt8.ofNat J] 2 (by simp only[eCa,gHa];rw[rG _ (by omega),rG _ (by omega)]) rfl (aZa _) (by omega);have ab:Below l.w.heap.size l.w (l.w.alloc (.cells [Value.int .u8 (nx:Int),.int .u8 (J:Int)].toArray 5)):=bC;refine E _ _ ab ?_;clear E K;obtain⟨w7,av⟩:=eX (l.w.alloc (.cells [Value.int .u8 (nx:Int),.int .u8 (J:Int)].toArray 5));rw[av]at ap ab;rw[av];refine eE fun l2=>?_;have dk:=cj.trans ((l.hb.mono bk).trans ((ab.mono dj).trans (l2.hb.mono (bJa dj ab.size))));have aq:=(cm.below l.hb).below (ab.trans (l2.hb.mono ab.size));have a8:=(ap.below l2.hb).reads.2.2.2;have bm:B<=l2.w.heap.size:=bJa bk (bJa l.hb.size (bJa ab.size l2.hb.size));refine wpT_src 8 rfl (by as_aux_lemma=>kernel_rfl) rfl (.tmp 40) (.tmp 47) rfl B v6 _ _ _ _ _ _ rfl rfl aq a8 bm (by simp[aR]) fun v9 w9 ak al=>?_;refine tM 9 rfl ?_;refine tD ?_;have dl:=q_ (dk.trans (al.below aq bm));have bn:B<=w9.heap.size:=bJa bm al.grown.size;have hg9':=q_ (aC dl ai am);have U:=aA hg9';clear al aq a8 ap ab av dk bm;replace ak:=q_ ak;go_wp2_with fail
 refine(aBu B _ _ 8 _ rfl [V,W,Y,Z] _ rfl 4 _ rfl _ _ _ rfl ak bn (by omega) (by simp[aR]) (by omega) ?_).mono ?_
 .intro N hN;simp only[bXa,bVa,dTa]at hN;omega
 rintro e bg ⟨b0,rfl,a3,ax⟩;have dm:=q_ (dl.trans (ax.below ak bn));have e5:B<=bg.heap.size:=bJa bn ax.grown.size;obtain⟨hb,a9⟩:∃hb,beB N 4++beB T 2++[UInt8.ofNat nx,UInt8.ofNat J]++nS 8 [V,W,Y,Z]=hb:=⟨_,rfl⟩
 have e6:hb.length=40:=by rw[<-a9];simp[aR,jU]
 have hown10':Hid (aZ bg B b0 hb):=q_ (by rw[<-a9];simpa using a3);have hg10':=q_ (aC dm ai am);clear U ax a3;have U:=aA hg10';replace a9:=q_ a9;go_wp2_with fail
 clear U;go_loopw [6,67] (fun u i wr=>∃(v:Value) (j:Nat) (ts:List UInt8),v=u/\j<=n/\i=.int .i64 (j:Int)/\ts++tX ((pes A).drop j) G=tX (pes A) G/\aZ wr B u (hb++ts)/\Below B w3 wr) (fun _ i _=>n - (intOf i).toNat)
 case atStart=>exact⟨_,0,[],rfl,dEa _,rfl,by simp,by simpa using hown10'.out,dm⟩
 case round =>
  obtain⟨v,j,ts,rfl,hj,rfl,ar,hu,af⟩:=hrel;have e7:ts.length<=16384:=by
   have h1:=fFa List.length ar;rw[bHa,sM (pes A)]at h1;have:=cd.out;omega
  have bo:B<=wr.heap.size:=by have:=af.size;have:=hB.out;omega
  have az:=aC af ai am;have ba:=a5.below af;have e8:w.heap.size<wr.heap.size:=by omega
  by_cases ev:j<n
  .obtain⟨b,fe,k,Ae,ce,xs,rfl,ff,cz,cq,cr,cp,fg,fh⟩:=ba.at ev;have eg:=q_ (aJj cz);have e9:xs.length<=2047:=hl ⟨k,Ae,ce,xs⟩ (bPa cz);obtain⟨nj,br,fi⟩:∃nj:Nat,aC1 ((pes A).drop (j+1)) G=(nj:Int)/\nj<=255:=by
    rcases hd:(pes A).drop (j+1)with _|⟨e,tl⟩
    .exact⟨G,rfl,b4⟩
    .have hm:e∈pes A:=List.mem_of_mem_drop (hd▸List.mem_cons_self ..);obtain⟨e',cx,rfl⟩:=List.mem_map.1 hm;have:=hk e' cx;exact⟨e'.k.toNat,by show e'.k=_;omega,by omega⟩
   have cn:(ts++(UInt8.ofNat nj :: xs))++tX ((pes A).drop (j+1)) G=tX (pes A) G:=by
    rw[<-ar,aMe eg];simp[tX,br]
   have eh:(j:Int)<(n:Int):=by omega
   have fa:(0:Int)<=(j:Int):=by omega
   have U:=aA az;have bp:Hid (Below wr.heap.size wr (wr.alloc (.cells #[.int .i64 k,.slice Ae xs.length ce] 231))):=q_ (bC);have bq:=q_ (af.trans (bp.mono bo));have dn:=q_ (aC bq ai am);have dp:=q_ (aJ wr 231 #[.int .i64 k,.slice Ae xs.length ce]);have dq:=q_ ((a5.below bq).more (B':=(wr.alloc (.cells #[.int .i64 k,.slice Ae xs.length ce] 231)).heap.size) (by simp;omega));have co:=q_ (hu.below bp);have ei:=q_ hu;have dr:w.heap.size<(wr.alloc (.cells #[.int .i64 k,.slice Ae xs.length ce] 231)).heap.size:=by simp;omega
   obtain⟨I,c0⟩:=eX (wr.alloc (.cells #[.int .i64 k,.slice Ae xs.length ce] 231));have ej:wr.heap.size<I.heap.size:=by rw[<-c0];simp
   rw[c0]at bp bq dn dp dq co dr;have ds:B<=I.heap.size:=by omega
   clear cz hu;replace ⟨ar,ba,cp,az,af,br,cn,cq,cr⟩:=q_9 ar ba cp az af br cn cq cr;have hc0':=cq.out;have hc1':=cr.out;go_wp2_with fail
   clear U hc0' hc1' c0;obtain⟨row,bu⟩:=eX (Value.ownBlock v);have ek:∀k,row=some k->B<=k/\k<I.heap.size:=fun k e=>co.lt k (bu.trans e)
   have el:some w.heap.size≠row:=fun e=>by have:=ek _ e.symm;omega
   have em:some wr.heap.size≠row:=fun e=>by have:=(ei.lt _ (bu.trans e.symm)).2;omega
   have cl:=fun(l:aEr I.heap.size row I.drew) (o:Nat)=>aA (l.blk (show I.drew.heap[w.heap.size]?=_ from dn) dr el) o
   have en:=fun(l:aEr I.heap.size row I.drew) (o:Nat)=>aA (l.blk (show I.drew.heap[wr.heap.size]?=_ from dp) ej em) o
   have s1:=wJ j;refine aPx I.heap.size row (by as_aux_lemma=>kernel_rfl) ?_;refine aRc I.heap.size row 0 4 (fuel:=8) (by as_aux_lemma=>kernel_rfl) (fun d _ _ _ _ h=>by cases d<;>exact h) (by as_aux_lemma=>kernel_rfl) (by as_aux_lemma=>kernel_rfl) ?_;simp only[dA,dC,dD];iterate 4(refine aLa (fun K E=>?_);go_simp;refine E _ ?_;clear E K)
   refine aN ?_;refine aRc I.heap.size row 8 2 (fuel:=6) (by as_aux_lemma=>kernel_rfl) (fun d _ _ _ _ h=>by cases d<;>exact h) (by as_aux_lemma=>kernel_rfl) (by as_aux_lemma=>kernel_rfl) ?_;simp only[dB,dA,dC,dD];iterate 2(refine aLa (fun K E=>?_);go_simp;refine E _ ?_;clear E K)
   refine aN ?_;clear cl en;have bs:Below I.heap.size I I.drew:=(bLa _ _).drew;refine fS 4 rfl fun K E=>?_;go_simp;go_at_call 102;refine(aD2 L O J true V W true Y Z _ n c G A (j+1) nj _ (by omega) _ ((dq.below bs).more bs.size) (by unfold maxLen;omega) (by omega) br).mono ?_;rintro e w5 ⟨rfl,ao⟩;refine E _ _ (aDi ao (aZa _)) ?_;clear E K;have hb5':Below I.heap.size I w5:=bs.trans ao;have r1:IntKind.u8.wrap (nj:Int)=(nj:Int):=wraps_u8 _ (by omega) (by omega);refine fS 5 rfl fun K E=>?_;go_simp;refine E _ _ (kept_refl _ _ _) ?_;clear E K;clear r1 s1;refine fS 6 rfl fun K E=>?_;go_simp;have ay:I.heap.size<=w5.heap.size:=hb5'.size;have ap:=aZ.litv w5 w5.heap.size [.int .u8 (nj:Int)] [UInt8.ofNat nj] 1 (by simp only[eCa,gHa];rw[rG _ (by omega)]) rfl (aZa _) (by omega);have ab:Below w5.heap.size w5 (w5.alloc (.cells [Value.int .u8 (nj:Int)].toArray 5)):=bC;refine E _ _ (aDi ab ay) ?_;clear E K;obtain⟨w7,av⟩:=eX (w5.alloc (.cells [Value.int .u8 (nj:Int)].toArray 5));rw[av]at ap ab;rw[av];have hb7':Below I.heap.size I w7:=hb5'.trans (ab.mono ay);have dt:I.heap.size<=w7.heap.size:=hb7'.size;have aq:=co.below hb7';have a8:=ap.reads.2.2.2;refine aRd 7 rfl (by as_aux_lemma=>kernel_rfl) rfl (.tmp 72) (.tmp 78) rfl B v (hb++ts) _ _ _ _ _ rfl rfl aq a8 (by omega) (by rw[bHa];omega) (.inl bu) dt fun v9 w9 ak al=>?_;have ct:=al.below aq (by omega);have bn:=al.grown.size;have du:=aKg al (.inl bu) dt;have dw:=((cp.below (bp.mono bo)).below ((hb7'.mono ds).trans ct))
   refine aRd 10 rfl (by as_aux_lemma=>kernel_rfl) rfl (.tmp 79) (.tmp 81) rfl B v9 _ _ _ _ _ _ rfl rfl ak dw (by omega) (by simp;omega) du (by omega) fun b0 bg a3 ax=>?_;have dx:=ax.below ak (by omega);have cu:=bq.trans ((hb7'.mono ds).trans (ct.trans dx));have cv:aZ bg B b0 (hb++(ts++(UInt8.ofNat nj :: xs))):=by simpa using a3
   refine fS 11 rfl fun K E=>?_;go_simp;refine E _ _ (kept_refl _ _ _) ?_;clear E K;refine fD ?_;clear al ax aq ak a3 a8 ap ab av hb7' ct dx dw ao hb5' bs du;replace ⟨cu,cv⟩:=q_2 cu cv;go_wp2_with fail
   exact⟨⟨_,j+1,ts++(UInt8.ofNat nj :: xs),rfl,by omega,by go_num,cn,cv,cu⟩,by simp[intOf];omega⟩
  .have eh:¬ (j:Int)<(n:Int):=by omega
   obtain rfl:j=n:=by omega
   have ep:=q_ (ci.below af);have fb:=aA az;have cw:ts=tX (pes A) G:=by
    rw[<-ar,eLa (by rw[db.out];exact aZa _)];simp[tX]
   have eq:(hb++ts).length+m<=1099511627776:=by rw[bHa];omega
   replace ⟨ar,ba,az,hu,af,cw⟩:=q_6 ar ba az hu af cw;go_wp2_with (at_builtin;refine sD rfl (.tmp 84) (.tmp 85) rfl B _ _ ps P m d B rfl rfl hu ep bo eq ?_)
   intro fl fm bt dz;have er:=q_ (af.trans (dz.below hu bo));have et:(hb++ts)++ps=aAy L O J V W Y Z G (pes A) ps:=by
    unfold aAy;rw[cw.out,d7.out,bi.out,<-a9.out,show beB N 4=beB (1610612736+L*1048576+O) 4 by rw[hN.out],hd_eq L O J nx T V W Y Z b1 b2];simp
   rw[<-eDa,et]at bt;clear dz;replace bt:=q_ bt;go_wp2_with fail
   go_ret2;exact⟨_,rfl,bt.weaken (by have:=ai;omega),d9.trans (er.mono (by omega))⟩
theorem aPp{j:List (Int×List UInt8)}(h:jG j j.length=true):∀e∈j,e.2.length<=2047:=by
 intro e I;obtain⟨i,G,rfl⟩:=List.getElem_of_mem I;have A:=aHf _ h (k:=i+1) (by omega);rw[rE _ i _ (aXa G)]at A;simp only[eEa]at A;have E:=A.2.1;unfold kH at E;simp only[eEa,cBa]at E;exact E.2.2.2.1
def uX (n:Nat) (xs:List UInt8) (K tos id:Nat) (df mf:Bool) (frag ttl proto slo dlo n1 m1:Nat) (rest:List UInt8):Prop :=
 ∀(A:Option Addr) (c:Nat) (W:World),IsB W W.heap.size A n xs->n<=c->c<=maxLen->Cl 76 #[.slice A n c] W fun e w'=>∃A1 c1 A2 c2,
  e=.returned (.tuple #[fE tos id df mf frag ttl proto false 0 slo false 0 dlo A1 n1 c1,.slice A2 m1 c2,.int .i64 (K:Int)])/\IsB w' w'.heap.size A2 m1 rest/\m1<=c2/\c2<=maxLen/\Below W.heap.size W w'
theorem tY(K:Nat)(h:∀(A:Option Addr) (c:Nat) (W:World),IsB W W.heap.size A n xs->n<=c->Cl 76 #[.slice A n c] W fun e w'=>e=.returned (.tuple #[fP,.slice none 0 0,.int .i64 (K:Int)])/\Below W.heap.size W w') :
 uX n xs K 0 0 false false 0 0 0 0 0 0 0 []:=fun A c W j E _=>(h A c W j E).mono fun _ w' ⟨he,hb⟩=>⟨none,0,none,0,he,IsB.nil _ _ _,by omega,by unfold maxLen;omega,hb⟩
def yA (n:Nat) (xs:List UInt8) (K:Nat) (cl la ho:Int) (b1:Bool) (sh sl:Int) (b2:Bool) (dh dl:Int) (acc:List (Int×List UInt8)) (nx m1:Nat) (rest:List UInt8):Prop :=
 ∀(A:Option Addr) (c:Nat) (W:World),IsB W W.heap.size A n xs->n<=c->c<=maxLen->Cl 80 #[.slice A n c] W fun e w'=>∃X m xc A2 c2 es,
  e=.returned (.tuple #[eZ cl la ho b1 sh sl b2 dh dl X m xc nx,.slice A2 m1 c2,.int .i64 (K:Int)])/\pes es=acc/\IsX w' w'.heap.size X m es/\m<=xc/\xc<=maxLen/\IsB w' w'.heap.size A2 m1 rest/\m1<=c2/\c2<=maxLen/\Below W.heap.size W w'
def qQ (es:List (Int×List UInt8)):Bool:=beN (partP es) 1 2 % 2 == 1
theorem aM9(E G I:Int)(J:Bool)(L N:Int)(O:Bool)(U V:Int)(X:Option Addr)(n c:Nat)(W:Int)(j:List Ext)(w:World)(Y:IsX w w.heap.size X n j)(hn:n<=maxLen) :
 Cl 82 #[eZ E G I J L N O U V X n c W] w fun e w'=>e=.returned (.bool (qQ (pes j)))/\Below w.heap.size w w':=by
 have Z:=q_ (Y.alloc (bS E G I J L N O U V X n c W));unfold bS at Z;obtain⟨v,A⟩:=eX (beN (qR j) 1 2);have aj:v<65536:=by rw[<-A];exact bX _ 1 2
 have af:Hid (bits .and .u64 (v:Int) 1=((v % 2:Nat):Int)):=q_ ((bits_mask .u64 64 (by decide) fU 1 (by decide) (v:Int) (by omega) (by omega)).trans (by omega));have hm:Hid (qQ (pes j)=(v % 2 == 1)):=q_ (by unfold qQ pes;rw[<-aC7,A]);rw[hm];replace ⟨Y,A⟩:=q_2 Y A;unfold eZ;go_enter func82,ntmps82;go_wp2_with fail
 refine(aNf E G I J L N O U V X n c W j _ Z hn).mono ?_;rintro e w1 ⟨rfl,ab⟩;have ah:=q_ (((bLa w.heap.size w).alloc (aZa _) (bS E G I J L N O U V X n c W)).trans (ab.mono (by simp)));obtain⟨A',n',c',ac,aa,ai⟩:=aG9 j w1 w1.heap.size (Z.on ab).2.2;rw[ac];clear ac ab;replace aa:=q_ aa;go_wp2_with fail
 refine(fB _ _ 1 2 rfl rfl _ _ _ (qR j) _ aa ai (by omega) (by omega)).mono ?_;rintro e w' ⟨rfl,rfl⟩;rw[A.out];go_wp2_with fail
 rw[af.out];go_ret;refine⟨?_,ah⟩;rcases Nat.mod_two_eq_zero_or_one v with h|h<;>rw[h]<;>rfl
theorem aPe(n:Nat)(xs:List UInt8)(j:n<=1099511627776)(h1:20<=n)(E:(xs.getD 0 0).toNat / 16=4)(s:Nat)(G:(xs.getD 0 0).toNat % 16*4=s)(h3:20<=s)(h4:s<=n)(I:beN xs 6 2 / 32768=0)(h6:s<=beN xs 2 2)(h7:beN xs 2 2<=n)(J:ones (tot false (xs.take s))=65535) :
 uX n xs 0 (xs.getD 1 0).toNat (beN xs 4 2) (decide (beN xs 6 2 / 16384 % 2=1)) (decide (beN xs 6 2 / 8192 % 2=1)) (beN xs 6 2 % 8192) (xs.getD 8 0).toNat (xs.getD 9 0).toNat (beN xs 12 4) (beN xs 16 4) (s - 20) (beN xs 2 2 - s) ((xs.take (beN xs 2 2)).drop s):=by
 intro A c W hx hc _;refine(aLr A n c xs W hx hc j (by omega) E s G (by omega) (by omega) I (by omega) (by omega) J).mono ?_;rintro e w' ⟨U,V,X,Y,rfl,_,_,_,Z,i5⟩;obtain⟨_,L,N,O⟩:=Z.reads;exact⟨U,V,X,Y,rfl,O,L,N,i5⟩
theorem aSg(n:Nat)(xs:List UInt8)(J:n<=1099511627776)(j:List (Int×List UInt8))(E:Nat)(rest:List UInt8)(L:gL n xs=0)(N:jW xs=some (j,E,rest)) :
 yA n xs 0 (beN xs 0 4 / 1048576 % 256:Nat) (beN xs 0 4 % 1048576:Nat) (xs.getD 7 0).toNat true (beN xs 8 8) (beN xs 16 8) true (beN xs 24 8) (beN xs 32 8) j E rest.length rest:=by
 intro A c W hx hc am;refine(aDj A n c xs W hx hc am J _ _ _ _ _ _ _ rfl rfl rfl rfl rfl rfl rfl).mono ?_;rintro e w' ⟨_,h2,h3⟩;obtain⟨an,ao,ap,G,X,O,I,U,V,Y,Z,hX,hr⟩:=h2 L;rw[N]at G
 cases G
 obtain⟨ac,ad,ae⟩:=hX.isX;obtain⟨_,r1,r2,r3⟩:=hr.reads;exact⟨X,I.length,O,U,V,I,Y,Z,ac,ad,ae,r3,r1,r2,h3⟩
theorem puts6(j A V E G I J L W T:Nat)(O:List (Int×List UInt8))(X Y xs:List UInt8)(h1:j<=255)(h2:A<=1048575)(h3:V<=255)(h4:E<18446744073709551616)(h5:G<18446744073709551616)(h6:I<18446744073709551616)(h7:J<18446744073709551616)
 (hT:(tX O L++X).length=T) (a0:T<=65535) (aj:aC1 O L=(W:Int)) (a1:W<=255) (ak:aAy j A V E G I J L O X++Y=xs) :
 (xs.getD 0 0).toNat / 16=6/\beN xs 4 2=T/\(xs.getD 6 0).toNat=W/\(xs.getD 7 0).toNat=V/\beN xs 0 4 / 1048576 % 256=j/\beN xs 0 4 % 1048576=A/\beN xs 8 8=E/\beN xs 16 8=G/\beN xs 24 8=I/\beN xs 32 8=J /\
 xs.drop 40=tX O L++(X++Y)/\(xs.take (40+T)).drop 40=tX O L++X/\xs.length=40+T+Y.length:=by
 have Z:xs=hd8 j A V W T++(beB E 8++(beB G 8++(beB I 8++(beB J 8++((tX O L++X)++Y))))):=by
  rw[<-ak];unfold aAy;rw[hT,aj,bMa];simp[pQ]
 have hp:∀N:Nat,N<18446744073709551616->N<256 ^ 8:=fun N h=>h
 have g1:beN xs 8 8=E:=by rw[Z];exact aEw E 8 _ _ 8 rfl (hp _ h4)
 have g2:beN xs 16 8=G:=by
  rw[Z,<-eDa];exact aEw G 8 _ _ 16 (by rw[bHa,aR,aVp]) (hp _ h5)
 have g3:beN xs 24 8=I:=by
  rw[Z,<-eDa,<-eDa];exact aEw I 8 _ _ 24 (by simp only[bHa,aR,aVp]) (hp _ h6)
 have g4:beN xs 32 8=J:=by
  rw[Z,<-eDa,<-eDa,<-eDa];exact aEw J 8 _ _ 32 (by simp only[bHa,aR,aVp]) (hp _ h7)
 obtain⟨tl,aw⟩:∃tl,beB E 8++(beB G 8++(beB I 8++(beB J 8++((tX O L++X)++Y))))=tl:=⟨_,rfl⟩
 have U:=Z;rw[aw]at U;unfold hd8 at U;simp only[eNa,cVa]at U;have e1:beN xs 0 4=(((UInt8.ofNat (96+j / 16)).toNat*256+(UInt8.ofNat (j % 16*16+A / 65536)).toNat)*256+(UInt8.ofNat (A / 256)).toNat)*256+(UInt8.ofNat A).toNat:=by rw[U];simp only[beN,List.getD_cons_zero,List.getD_cons_succ,Nat.zero_mul,dWa]
 have e2:beN xs 4 2=(UInt8.ofNat (T / 256)).toNat*256+(UInt8.ofNat T).toNat:=by rw[U];simp only[beN,List.getD_cons_zero,List.getD_cons_succ,Nat.zero_mul,dWa]
 have e3:(xs.getD 0 0)=UInt8.ofNat (96+j / 16):=by rw[U];rfl
 have e4:(xs.getD 6 0)=UInt8.ofNat W:=by rw[U];rfl
 have e5:(xs.getD 7 0)=UInt8.ofNat V:=by rw[U];rfl
 simp only[cGa,Nat.reducePow]at e1 e2;have ab:(hd8 j A V W T++(beB E 8++(beB G 8++(beB I 8++beB J 8)))).length=40:=by simp only[bHa,aR,aVp]
 have ad:xs=(hd8 j A V W T++(beB E 8++(beB G 8++(beB I 8++beB J 8))))++((tX O L++X)++Y):=by rw[Z];simp
 refine⟨?_,by omega,?_,?_,by omega,by omega,g1,g2,g3,g4,?_,?_,?_⟩
 .rw[e3,cGa];omega
 .rw[e4,cGa];omega
 .rw[e5,cGa];omega
 .rw[ad,<-ab,List.drop_left];simp
 .rw[ad,List.take_append,bZa (by rw[ab];omega),<-ab,List.drop_left,fSa,List.take_append,bZa (by omega),hT,Nat.sub_self,dVa,ePa]
 .rw[ad,bHa,ab,bHa,hT];omega
theorem aWu{j:List (Int×List UInt8)}(h:jG j j.length=true):∀e∈j,0<=e.1/\e.1<=255/\e.2.length<=2047:=by
 intro e I;obtain⟨i,G,rfl⟩:=List.getElem_of_mem I;have A:=aHf _ h (k:=i+1) (by omega);rw[rE _ i _ (aXa G)]at A;simp only[eEa]at A;have E:=A.2.1;unfold kH isB at E;simp only[eEa,cBa]at E;omega
theorem aWi{E G I:Int}{J L:Bool}{j:Int}{A:List (Int×List UInt8)}(h:sS E G I J L j A=true) :
 (0<=E/\E<=255/\0<=I/\I<=255/\0<=G/\G<=1048575/\J=true/\L=true/\0<=j/\j<=255/\isB j=false/\A.length<=8)/\jG A A.length=true:=by
 unfold sS at h;rw[eEa,cBa]at h;exact h
theorem aVu(I J L N O U V A:Nat)(j:List (Int×List UInt8))(E G xs:List UInt8)(hr:sS I J L true true A j=true)(h4:N<18446744073709551616)(h5:O<18446744073709551616)(h6:U<18446744073709551616)(h7:V<18446744073709551616)
 (a4:E.length<=4096) (am:aAy I J L N O U V A j E++G=xs) :
 gL xs.length xs=0/\jW xs=some (j,A,E)/\aD6 xs=some (j,A,E++G)/\mK xs.length xs=0 /\
 beN xs 0 4 / 1048576 % 256=I/\beN xs 0 4 % 1048576=J/\(xs.getD 7 0).toNat=L/\beN xs 8 8=N/\beN xs 16 8=O/\beN xs 24 8=U/\beN xs 32 8=V:=by
 obtain⟨⟨r1,r2,r3,r4,r5,r6,_,_,r7,r8,r9,ar⟩,ab⟩:=aWi hr;have aa:=aWu ab;obtain⟨T,hT⟩:∃T,(tX j A++E).length=T:=⟨_,rfl⟩
 have ap:T<=65535:=by
  rw[<-hT,bHa,sM];have:=aQ0 j (fun e he=>(aa e he).2.2);omega
 obtain⟨W,ad,au⟩:∃W:Nat,aC1 j A=(W:Int)/\W<=255:=by
  rcases j with _|⟨e,j⟩
  .exact⟨A,rfl,by omega⟩
  .have:=aa e (by simp);exact⟨e.1.toNat,by show e.1=_;omega,by omega⟩
 obtain⟨p1,p2,p3,p4,p5,p6,p7,p8,p9,a1,a2,a3,bd⟩:=puts6 I J L N O U V A W T j E G xs (by omega) (by omega) (by omega) h4 h5 h6 h7 hT ap ad au am;have X:=fun pl=>aWr (A:Int) pl (by omega) (by omega) r9 j [] 9 (by simpa using ab) (by simpa using ar) (.inl rfl) (by omega) rfl
 rw[ad,bMa,bMa]at X;simp only[cVa]at X;have Y:jW xs=some (j,A,E):=by
  unfold jW;rw[p3,p2,a3];exact X E
 have Z:aD6 xs=some (j,A,E++G):=by
  unfold aD6;rw[p3,a2];exact X (E++G)
 refine⟨?_,Y,Z,?_,p5,p6,p4,p7,p8,p9,a1⟩
 .unfold gL;unfold jW at Y;rw[bAa (show ¬ xs.length<40 by omega),bAa (show ¬ ((xs.getD 0 0).toNat / 16≠6) from fun h=>h p1),bAa (by rw[p2];omega),Y]
  rfl
 .unfold mK;unfold aD6 at Z;rw[bAa (show ¬ xs.length<40 by omega),bAa (show ¬ ((xs.getD 0 0).toNat / 16≠6) from fun h=>h p1),Z]
  rfl
theorem aDd (N:Nat) (h:N<65536):(UInt8.ofNat (N / 256)).toNat*256+(UInt8.ofNat N).toNat=N:=by
 rw[cGa,cGa];omega
theorem aJ6 (N:Nat) (h:N<4294967296):(((UInt8.ofNat (N / 16777216)).toNat*256+(UInt8.ofNat (N / 65536)).toNat)*256+(UInt8.ofNat (N / 256)).toNat)*256+(UInt8.ofNat N).toNat=N:=by
 rw[cGa,cGa,cGa,cGa];omega
theorem hdB_form (I id E J L j A:Nat) (os:List UInt8) (G:Nat):∃a b:UInt8,hdB I id E J L j A os G =
 UInt8.ofNat (64+(20+os.length) / 4) :: UInt8.ofNat I :: UInt8.ofNat ((20+os.length+G) / 256) :: UInt8.ofNat (20+os.length+G) :: UInt8.ofNat (id / 256) :: UInt8.ofNat id :: UInt8.ofNat (E / 256) :: UInt8.ofNat E :: UInt8.ofNat J :: UInt8.ofNat L :: a :: b ::
 UInt8.ofNat (j / 16777216) :: UInt8.ofNat (j / 65536) :: UInt8.ofNat (j / 256) :: UInt8.ofNat j :: UInt8.ofNat (A / 16777216) :: UInt8.ofNat (A / 65536) :: UInt8.ofNat (A / 256) :: UInt8.ofNat A :: os:=by
 obtain⟨C,N⟩:∃C,65535 - ones (tot false (qY I id E J L j A os G))=C:=⟨_,rfl⟩
 refine⟨UInt8.ofNat (C / 256),UInt8.ofNat C,?_⟩;rw[hdB_set _ _ _ _ _ _ _ _ _ _ N];unfold qY;simp only[beB,Nat.pow_zero,Nat.div_one,Nat.pow_one,Nat.reducePow,eNa,cVa,List.set_cons_zero,List.set_cons_succ]
theorem hdB_sum (j id A E G I J:Nat) (os:List UInt8) (L:Nat):ones (tot false (hdB j id A E G I J os L))=65535:=by
 unfold hdB;have h:=aQ2 [] (qY j id A E G I J os L) 10 (65535 - ones (tot false (qY j id A E G I J os L))) (by omega) (by rw[yE];omega) (by simp[qY,beB]) (by simp);simp only[cVa]at h;rw[h];exact aG5 _
theorem aVx (j id A E G I J:Nat) (os L O:List UInt8) (n m:Nat) (V:os.length=n) (Y:L.length=m) (h1:j<=255) (h2:id<=65535) (h3:A<32768) (h4:E<=255) (h5:G<=255) (Z:I<4294967296) (h7:J<4294967296) (h8:n<=40) (h9:n % 4=0) (al:m<=4096)
 (xs:List UInt8) (N:(hdB j id A E G I J os m++L)++O=xs) :
 (xs.getD 0 0).toNat / 16=4/\(xs.getD 0 0).toNat % 16*4=20+n/\beN xs 2 2=20+n+m/\beN xs 6 2 / 32768=0/\ones (tot false (xs.take (20+n)))=65535 /\
 (xs.getD 1 0).toNat=j/\beN xs 4 2=id/\beN xs 6 2=A/\(xs.getD 8 0).toNat=E/\(xs.getD 9 0).toNat=G/\beN xs 12 4=I/\beN xs 16 4=J/\(xs.take (20+n)).drop 20=os/\(xs.take (20+n+m)).drop (20+n)=L/\xs.drop (20+n)=L++O:=by
 have hl:(hdB j id A E G I J os m).length=20+n:=by rw[aCw,V]
 have W:xs.take (20+n)=hdB j id A E G I J os m:=by
  rw[<-N,eDa,eWa (by omega),bZa (by omega)]
 have X:xs.drop (20+n)=L++O:=by
  rw[<-N,eDa,<-hl,List.drop_left]
 have e3:(xs.take (20+n+m)).drop (20+n)=L:=by
  rw[List.drop_take,X,show 20+n+m - (20+n)=m by omega,<-Y,List.take_left]
 have e4:=hdB_sum j id A E G I J os m;obtain⟨a,b,U⟩:=hdB_form j id A E G I J os m;rw[U]at N W;rw[W,<-U,e4,U];refine⟨?_,?_,?_,?_,rfl,?_,?_,?_,?_,?_,?_,?_,rfl,e3,X⟩
 all_goals
  rw[<-N];simp only[beN,eNa,List.getD_cons_zero,List.getD_cons_succ,Nat.zero_mul,dWa,cNa,Nat.reduceAdd]
 .rw[cGa];omega
 .rw[cGa];omega
 .rw[V];exact aDd _ (by omega)
 .rw[aDd _ (by omega)];omega
 .rw[cGa];omega
 .exact aDd _ (by omega)
 .exact aDd _ (by omega)
 .rw[cGa];omega
 .rw[cGa];omega
 .exact aJ6 _ Z
 .exact aJ6 _ h7
theorem jH(xs j:List UInt8)(p:Nat):∀k,(∀i,p<=i->i<p+k->xs.getD i 0=j.getD i 0)->beN xs p k=beN j p k
 | 0,_=>rfl
 | k+1,h=>by rw[beN,beN,jH xs j p k (fun i A E=>h i A (by omega)),h (p+k) (by omega) (by omega)]
theorem vB{j:List UInt8}(h:xs[i]?=j[i]?):xs.getD i 0=j.getD i 0:=by simp[List.getD,h]
theorem nW(xs:List UInt8)(p:Nat)(A:List UInt8)(h:p+A.length<=xs.length)(i:Nat)(j:i<p\/p+A.length<=i):(dJ xs p A)[i]?=xs[i]?:=by
 unfold dJ;rcases j with j|j
 .rw[cEa (by rw[bGa];omega),dKa j]
 .rw[cJa (by rw[bGa];omega),cJa (by rw[bGa];omega),eJa]
  congr 1
  rw[bGa];omega
theorem vM(xs:List UInt8)(p:Nat)(j:List UInt8)(h:p+j.length<=xs.length)(i:Nat)(A:i<p\/p+j.length<=i):(dJ xs p j).getD i 0=xs.getD i 0:=vB (nW xs p j h i A)
theorem aKy(xs:List UInt8)(p:Nat)(j:List UInt8)(s:Nat)(h:p+j.length<=s)(A:s<=xs.length):(dJ xs p j).take s=dJ (xs.take s) p j:=by
 unfold dJ;rw[List.take_append,List.take_append,hNa,bGa,hNa,List.drop_take,Nat.min_eq_right (by omega),fCa (by omega),fCa (by omega)];rw[bZa (by omega:j.length<=s - p)]
 congr 3
 omega
theorem aKx(xs:List UInt8)(p:Nat)(j:List UInt8)(s:Nat)(h:p+j.length<=s)(A:p+j.length<=xs.length):(dJ xs p j).drop s=xs.drop s:=by
 apply List.ext_getElem?;intro i;rw[eJa,eJa];exact nW xs p j A _ (.inr (by omega))
theorem beB2(v:Nat):beB v 2=[UInt8.ofNat (v / 256),UInt8.ofNat v]:=by simp[beB]
theorem beN2(xs:List UInt8)(p:Nat):beN xs p 2=256*(xs.getD p 0).toNat+(xs.getD (p+1) 0).toNat:=by
 simp only[beN,cNa];omega
theorem sU(xs:List UInt8)(p:Nat)(j:List UInt8)(h:p+j.length<=xs.length)(i:Nat)(A:i<j.length):(dJ xs p j)[p+i]?=j[i]?:=by
 unfold dJ;rw[cJa (by rw[bGa];omega),bGa,fCa (by omega),fSa,cEa A]
theorem aJz(xs:List UInt8)(p v:Nat)(h:p+2<=xs.length)(I:v<65536):beN (dJ xs p (beB v 2)) p 2=v:=by
 have j:=sU xs p (beB v 2) (by rw[aR];omega) 0 (by rw[aR];omega);have A:=sU xs p (beB v 2) (by rw[aR];omega) 1 (by rw[aR];omega);rw[beB2]at j A ⊢;rw[cNa]at j;rw[beN2];have E:(dJ xs p [UInt8.ofNat (v / 256),UInt8.ofNat v]).getD p 0=UInt8.ofNat (v / 256):=by simp[List.getD,j]
 have G:(dJ xs p [UInt8.ofNat (v / 256),UInt8.ofNat v]).getD (p+1) 0=UInt8.ofNat v:=by simp[List.getD,A]
 rw[E,G,cGa,cGa];omega
theorem set_setB(xs:List UInt8)(p:Nat)(h:p+2<=xs.length)(v:Nat)(J:v<65536)(A:v % 256=(xs.getD (p+1) 0).toNat):xs.set p (UInt8.ofNat (v / 256))=dJ xs p (beB v 2):=by
 apply List.ext_getElem?;intro i;rw[beB2];by_cases G:i<p\/p+2<=i
 .rw[nW _ _ _ (by simpa using h) i (by simpa using G),cQa (by omega)]
 .by_cases I:i=p
  .subst I;have j:=sU xs i [UInt8.ofNat (v / 256),UInt8.ofNat v] (by simpa using h) 0 (by simp);rw[cNa]at j;rw[j,dAa (by omega)]
   rfl
  .obtain rfl:i=p+1:=by omega
   rw[sU xs p [UInt8.ofNat (v / 256),UInt8.ofNat v] (by simpa using h) 1 (by simp),cQa (by omega)];have e:xs.getD (p+1) 0=UInt8.ofNat v:=by
    apply UInt8.toNat_inj.1;rw[cGa,<-A]
   have E:xs[p+1]?=some (xs.getD (p+1) 0):=by simp[List.getD,show p+1<xs.length by omega]
   rw[E,e]
   rfl
structure sF (n:Nat) (xs:List UInt8):Prop where
 len:xs.length=n
 h1:20<=n
 h2:(xs.getD 0 0).toNat / 16=4
 h3:20<=(xs.getD 0 0).toNat % 16*4
 h4:(xs.getD 0 0).toNat % 16*4<=n
 h5:beN xs 6 2 / 32768=0
 h6:(xs.getD 0 0).toNat % 16*4<=beN xs 2 2
 h7:beN xs 2 2<=n
 h8:ones (tot false (xs.take ((xs.getD 0 0).toNat % 16*4)))=65535
theorem aJ7(n:Nat)(xs:List UInt8)(N:xs.length=n)(G:n<=1099511627776):(∃K,K≠0/\K<=20/\uX n xs K 0 0 false false 0 0 0 0 0 0 0 [])\/sF n xs:=by
 by_cases O:n<20
 .exact .inl ⟨2,by omega,by omega,tY 2 fun A c w j E=>aF2 A n c xs w j E G O⟩
 by_cases I:(xs.getD 0 0).toNat / 16=4
 case neg=>exact .inl ⟨10,by omega,by omega,tY 10 fun A c w j E=>aLt A n c xs w j E G (by omega) I⟩
 by_cases U:(xs.getD 0 0).toNat % 16*4<20
 .exact .inl ⟨11,by omega,by omega,tY 11 fun A c w j E=>aLk A n c xs w j E G (by omega) I _ rfl U⟩
 by_cases V:n<(xs.getD 0 0).toNat % 16*4
 .exact .inl ⟨11,by omega,by omega,tY 11 fun A c w j E=>aLm A n c xs w j E G (by omega) I _ rfl (by omega) V⟩
 by_cases J:beN xs 6 2 / 32768=0
 case neg=>exact .inl ⟨11,by omega,by omega,tY 11 fun A c w j E=>aLn A n c xs w j E G (by omega) I _ rfl (by omega) (by omega) J⟩
 by_cases W:beN xs 2 2<(xs.getD 0 0).toNat % 16*4
 .exact .inl ⟨12,by omega,by omega,tY 12 fun A c w j E=>aLp A n c xs w j E G (by omega) I _ rfl (by omega) (by omega) J W⟩
 by_cases X:n<beN xs 2 2
 .exact .inl ⟨12,by omega,by omega,tY 12 fun A c w j E=>aLq A n c xs w j E G (by omega) I _ rfl (by omega) (by omega) J (by omega) X⟩
 by_cases L:ones (tot false (xs.take ((xs.getD 0 0).toNat % 16*4)))=65535
 case neg=>exact .inl ⟨13,by omega,by omega,tY 13 fun A c w j E=>aJh A n c xs w j E G (by omega) I _ rfl (by omega) (by omega) J (by omega) (by omega) L⟩
 exact .inr ⟨N,by omega,I,by omega,by omega,J,by omega,by omega,L⟩
theorem sF.is(h:sF n xs)(A:n<=1099511627776)(s j:Nat)(E:(xs.getD 0 0).toNat % 16*4=s)(G:beN xs 2 2=j) :
 uX n xs 0 (xs.getD 1 0).toNat (beN xs 4 2) (decide (beN xs 6 2 / 16384 % 2=1)) (decide (beN xs 6 2 / 8192 % 2=1)) (beN xs 6 2 % 8192) (xs.getD 8 0).toNat (xs.getD 9 0).toNat (beN xs 12 4) (beN xs 16 4) (s - 20) (j - s) ((xs.take j).drop s):=by
 subst E G;exact aPe n xs A h.h1 h.h2 _ rfl h.h3 h.h4 h.h5 h.h6 h.h7 h.h8
theorem tot_pos{j:List UInt8}(E:1<=s)(A:1<=j.length)(h:0<(j.getD 0 0).toNat):tot false (j.take s)≠0:=by
 match j,A with
 | c :: l,_ =>
  obtain⟨k,rfl⟩:∃k,s=k+1:=⟨s - 1,by omega⟩
  simp only[cSa,tot];have:0<c.toNat:=h;simp;omega
theorem sF.of_same{j:List UInt8}(h:sF n xs)(s G:Nat)(E:(xs.getD 0 0).toNat % 16*4=s)(I:beN xs 2 2=G)(U:j.length=G)(J:∀i,i<8->j.getD i 0=xs.getD i 0)
 (V:tot false (j.take s) % 65535=tot false (xs.take s) % 65535):sF G j:=by
 have A:=J 0 (by omega);have L:beN j 2 2=beN xs 2 2:=jH _ _ _ _ fun i _ W=>J i (by omega)
 have X:beN j 6 2=beN xs 6 2:=jH _ _ _ _ fun i _ W=>J i (by omega)
 have Y:=h.h2;have Z:=h.h3;have N:=h.h6;have O:=aKi.1 h.h8;rw[E]at Z N O;rw[I]at N;refine⟨U,by omega,by rw[A];exact Y,by rw[A,E];omega,by rw[A,E];omega,by rw[X];exact h.h5,by rw[A,E,L,I];omega,by rw[L,I];omega,?_⟩;rw[A,E];exact aKi.2 ⟨by rw[V];exact O.1,tot_pos (by omega) (by omega) (by rw[A];omega)⟩
def jM (xs:List UInt8) (al:Nat):List UInt8:=dJ (dJ (xs.take al) 8 (beB (beN xs 8 2 - 256) 2)) 10 (beB (rZ (beN xs 10 2) (beN xs 8 2) (beN xs 8 2 - 256)) 2)
theorem aTy(xs:List UInt8)(T v:Nat)(V:20<=T)(W:T<=xs.length)(X:(xs.getD 8 0).toNat=v)(I:1<=v)(m E c G:Nat)(J:beN (xs.take T) 8 2=m)(j:beN ((xs.take T).set 8 (UInt8.ofNat (v - 1))) 8 2=E)(A:beN ((xs.take T).set 8 (UInt8.ofNat (v - 1))) 10 2=c)(L:rZ c m E=G) :
 dJ ((xs.take T).set 8 (UInt8.ofNat (v - 1))) 10 (beB G 2)=jM xs T:=by
 have Z:(xs.take T).length=T:=by rw[bGa];omega
 have b8:=bX xs 8 2;have N:=beN2 xs 8;have l9:=(xs.getD 9 0).toNat_lt;rw[show(8+1)=9 from rfl]at N;have O:beN (xs.take T) 8 2=beN xs 8 2:=nT xs T 8 2 (by omega);have U:(xs.take T).set 8 (UInt8.ofNat (v - 1))=dJ (xs.take T) 8 (beB (beN xs 8 2 - 256) 2):=by
  rw[<-set_setB (xs.take T) 8 (by omega) (beN xs 8 2 - 256) (by omega) (by rw[getD_take xs T 9 (by omega)];omega)]
  congr 2
  omega
 rw[U]at j A ⊢;rw[aJz _ _ _ (by omega) (by omega)]at j;rw[jH _ (xs.take T) 10 2 (fun i I Y=>vM _ _ _ (by rw[aR];omega) i (by rw[aR];omega)),nT xs T 10 2 (by omega)]at A;unfold jM;rw[<-L,<-j,<-A,<-J,O]
theorem aKc(h:sF n xs)(s j:Nat)(U:(xs.getD 0 0).toNat % 16*4=s)(V:beN xs 2 2=j)(h2:2<=(xs.getD 8 0).toNat) :
 sF j (jM xs j)/\(jM xs j).length=j/\((jM xs j).getD 8 0).toNat=(xs.getD 8 0).toNat - 1/\(∀i,i<j->i≠8->i≠10->i≠11->(jM xs j)[i]?=xs[i]?)/\((jM xs j).take j).drop s=(xs.take j).drop s:=by
 have g3:=h.h3;have g4:=h.h4;have W:=h.h6;have g7:=h.h7;have gl:=h.len;rw[U]at g3 g4 W;rw[V]at W g7;have b8:=bX xs 8 2;have a0:=bX xs 10 2;have X:=beN2 xs 8;have l9:=(xs.getD 9 0).toNat_lt;rw[show(8+1)=9 from rfl]at X;have tl:(xs.take j).length=j:=by rw[bGa];omega
 obtain⟨m,L⟩:=eX (beN xs 8 2);obtain⟨c,Z⟩:=eX (beN xs 10 2);obtain⟨A,N⟩:∃A,rZ c m (m - 256)=A:=⟨_,rfl⟩
 have a2:A<=65535:=N▸aGc _ _ _;have aj:=aU2 c m (m - 256) (by omega) (by omega);rw[N]at aj;rw[L]at X b8;have E:jM xs j=dJ (dJ (xs.take j) 8 (beB (m - 256) 2)) 10 (beB A 2):=by unfold jM;rw[L,Z,N]
 obtain⟨z,G⟩:∃z,dJ (xs.take j) 8 (beB (m - 256) 2)=z:=⟨_,rfl⟩
 have zl:z.length=j:=by rw[<-G,gM _ _ _ (by rw[aR];omega),tl]
 rw[G]at E;have Y:(jM xs j).length=j:=by rw[E,gM _ _ _ (by rw[aR];omega),zl]
 have same:∀i,i<j->i≠8->i≠9->i≠10->i≠11->(jM xs j)[i]?=xs[i]?:=by
  intro i I n8 O ab ac;rw[E,nW _ _ _ (by rw[aR];omega) i (by rw[aR];omega),<-G,nW _ _ _ (by rw[aR];omega) i (by rw[aR];omega),dKa I]
 have z8:z[8]?=some (UInt8.ofNat ((m - 256) / 256)):=by
  have:=sU (xs.take j) 8 (beB (m - 256) 2) (by rw[aR];omega) 0 (by rw[aR];omega);rw[<-G];rw[cNa]at this;rw[this,beB2]
  rfl
 have z9:z[9]?=some (UInt8.ofNat (m - 256)):=by
  have:=sU (xs.take j) 8 (beB (m - 256) 2) (by rw[aR];omega) 1 (by rw[aR];omega);rw[<-G];rw[this,beB2]
  rfl
 have y9:(jM xs j)[9]?=xs[9]?:=by
  rw[E,nW _ _ _ (by rw[aR];omega) 9 (by rw[aR];omega),z9];have hg:xs[9]?=some (xs.getD 9 0):=by simp[List.getD,show 9<xs.length by omega]
  have e9:UInt8.ofNat (m - 256)=xs.getD 9 0:=UInt8.toNat_inj.1 (by rw[cGa];omega);rw[hg,e9]
 refine⟨h.of_same s j U V Y (fun i I=>vB (same i (by omega) (by omega) (by omega) (by omega) (by omega))) ?_,Y,?_,?_,?_⟩
 .have t1:(jM xs j).take s=dJ (dJ (xs.take s) 8 (beB (m - 256) 2)) 10 (beB A 2):=by
   rw[E,aKy _ _ _ _ (by rw[aR];omega) (by omega),<-G,aKy _ _ _ _ (by rw[aR];omega) (by omega),hNa,fCa (by omega)]
  obtain⟨u,J⟩:=eX (xs.take s);have ul:u.length=s:=by rw[<-J,bGa];omega
  rw[t1,J];have q1:=aK2 u 8 (m - 256) rfl (by omega) (by omega);have q2:=aK2 (dJ u 8 (beB (m - 256) 2)) 10 A rfl (by rw[gM _ _ _ (by rw[aR];omega)];omega) (by omega);have e1:beN u 8 2=m:=by rw[<-J,nT xs s 8 2 (by omega),L]
  have e2:beN (dJ u 8 (beB (m - 256) 2)) 10 2=c:=by
   rw[jH _ u 10 2 (fun i h1 h2=>vM _ _ _ (by rw[aR];omega) i (by rw[aR];omega)),<-J,nT xs s 10 2 (by omega),Z]
  rw[e1]at q1;rw[e2]at q2;omega
 .rw[E];have:(dJ z 10 (beB A 2))[8]?=some (UInt8.ofNat ((m - 256) / 256)):=by rw[nW _ _ _ (by rw[aR];omega) 8 (by rw[aR];omega),z8]
  simp only[List.getD,this,hQa];rw[cGa];have:=(xs.getD 8 0).toNat_lt;simp only[List.getD]at *;omega
 .intro i I n8 ab ac;by_cases O:i=9
  .rw[O];exact y9
  .exact same i I n8 O ab ac
 .rw[bZa (by omega),E,aKx _ _ _ _ (by rw[aR];omega) (by rw[aR];omega),<-G,aKx _ _ _ _ (by rw[aR];omega) (by rw[aR];omega)]
structure tF (n:Nat) (xs:List UInt8) (acc:List (Int×List UInt8)) (nx:Nat) (rest:List UInt8):Prop where
 len:xs.length=n
 hk:gL n xs=0
 hR:jW xs=some (acc,nx,rest)
theorem aNz(n:Nat)(xs:List UInt8)(I:xs.length=n)(J:n<=1099511627776):(∃K,K≠0/\K<=20/\yA n xs K 0 0 0 false 0 0 false 0 0 [] 0 0 [])\/∃E G rest,tF n xs E G rest:=by
 by_cases j:gL n xs=0
 .right;rcases hR:jW xs with _|⟨E,G,rest⟩
  .exfalso;unfold gL at j;unfold jW at hR;rw[hR]at j;simp only[Option.isNone_none,jEa]at j;split at j
   .omega
   .split at j
    .omega
    .split at j<;>omega
  .exact⟨E,G,rest,I,j,hR⟩
 .left;refine⟨gL n xs,j,?_,fun A c W L N O=>(aDj A n c xs W L N O J _ _ _ _ _ _ _ rfl rfl rfl rfl rfl rfl rfl).mono ?_⟩
  .unfold gL;split
   .omega
   .split
    .omega
    .split
     .omega
     .split<;>omega
  .rintro e w' ⟨U,_,V⟩;exact⟨none,0,0,none,0,[],U j,rfl,IsX.nil _ _ _,by omega,by unfold maxLen;omega,IsB.nil _ _ _,by omega,by unfold maxLen;omega,V⟩
theorem tF.is{j:List (Int×List UInt8)}{A:Nat}{rest:List UInt8}(h:tF n xs j A rest)(E:n<=1099511627776) :
 yA n xs 0 (beN xs 0 4 / 1048576 % 256:Nat) (beN xs 0 4 % 1048576:Nat) (xs.getD 7 0).toNat true (beN xs 8 8) (beN xs 16 8) true (beN xs 24 8) (beN xs 32 8) j A rest.length rest:=aSg n xs E j A rest h.hk h.hR
theorem tF.facts{A:List (Int×List UInt8)}{rest:List UInt8}(h:tF n xs A E rest) :
 40<=n/\(xs.getD 0 0).toNat / 16=6/\beN xs 4 2<=n - 40/\40+nK A+rest.length=40+beN xs 4 2/\E<=255/\A.length<=8/\(∀e∈A,e.2.length<=2047)/\isB (E:Int)=false:=by
 have j:=h.hk;have ac:=h.len;unfold gL at j;have N:40<=n:=by
  by_cases h:n<40
  .rw[bBa h]at j;omega
  .omega
 rw[bAa (show ¬ n<40 by omega)]at j;have G:(xs.getD 0 0).toNat / 16=6:=by
  by_cases h:(xs.getD 0 0).toNat / 16=6
  .exact h
  .rw[bBa h]at j;omega
 rw[bAa (show ¬ ((xs.getD 0 0).toNat / 16≠6) from fun h=>h G)]at j;have O:beN xs 4 2<=n - 40:=by
  by_cases h:n - 40<beN xs 4 2
  .rw[bBa h]at j;omega
  .omega
 have I:=h.hR;unfold jW at I;have U:(xs.getD 6 0).toNat<=255:=by have:=(xs.getD 6 0).toNat_lt;omega
 obtain⟨ad,J,e2,X,Y,Z,e6,e7⟩:=aDx 9 _ _ [] A E rest I rfl rfl (by simp) U;rw[cVa]at J;subst J;have V:=fun e L=>(aPp Y e L)
 have W:=fFa List.length X;rw[bHa,cCa,bGa,sM]at W;exact⟨N,G,O,by omega,e6,e7,V,Z⟩
theorem tF.of_same{j:List UInt8}{A:List (Int×List UInt8)}{rest:List UInt8}(h:tF n xs A E rest)(T:Nat)(J:40+beN xs 4 2=T)(N:j.length=T)
 (G:∀i,i<7->j.getD i 0=xs.getD i 0) (O:j.drop 40=(xs.take T).drop 40):tF T j A E rest:=by
 obtain⟨X,Y,Z,f4,_⟩:=h.facts;have U:=G 0 (by omega);have V:=G 6 (by omega);have L:beN j 4 2=beN xs 4 2:=jH _ _ _ _ fun i _ W=>G i (by omega)
 have I:jW j=some (A,E,rest):=by
  have:=h.hR;unfold jW at this ⊢;rw[V,L,J,bZa (by omega),O,<-J];exact this
 refine⟨N,?_,I⟩;unfold jW at I;unfold gL;rw[bAa (by omega),bAa (by rw[U];omega),bAa (by rw[L];omega),I]
 rfl
def jQ (xs:List UInt8) (T:Nat):List UInt8:=(xs.take T).set 7 (UInt8.ofNat ((xs.getD 7 0).toNat - 1))
theorem aKd{j:List (Int×List UInt8)}{A:Nat}{rest:List UInt8}(h:tF n xs j A rest)(T:Nat)(I:40+nK j+rest.length=T) :
 tF T (jQ xs T) j A rest/\(jQ xs T).length=T/\((jQ xs T).getD 7 0).toNat=(xs.getD 7 0).toNat - 1/\(∀i,i<T->i≠7->(jQ xs T)[i]?=xs[i]?):=by
 obtain⟨L,N,O,U,_⟩:=h.facts;have J:=h.len;have G:(jQ xs T).length=T:=by unfold jQ;rw[cFa,bGa];omega
 have same:∀i,i<T->i≠7->(jQ xs T)[i]?=xs[i]?:=by
  intro i E V;unfold jQ;rw[cQa (by omega),dKa E]
 refine⟨h.of_same T (by omega) G (fun i E=>vB (same i (by omega) (by omega))) ?_,G,?_,same⟩
 .unfold jQ;rw[List.drop_set_of_lt (by omega)]
 .have:(jQ xs T)[7]?=some (UInt8.ofNat ((xs.getD 7 0).toNat - 1)):=by unfold jQ;rw[dAa (by rw[bGa];omega)]
  simp only[List.getD,this,hQa];rw[cGa];have:=(xs.getD 7 0).toNat_lt;simp only[List.getD]at *;omega
def yP (xs:List UInt8):Nat:=if(xs.getD 0 0).toNat / 16=4 then 4 else if(xs.getD 0 0).toNat / 16=6 then 41 else 0
def vC (n:Nat) (xs:List UInt8):Nat:=if n=0 then 2 else if(xs.getD 0 0).toNat / 16=4\/(xs.getD 0 0).toNat / 16=6 then 0 else 10
theorem vZ(A:Option Addr)(n c:Nat)(xs:List UInt8)(w:World)(L:IsB w w.heap.size A n xs)(U:n<=maxLen)(p k:Nat)(j:yP xs=p)(E:vC n xs=k) :
 Cl 61 #[.slice A n c] w fun e w'=>e=.returned (.tuple #[.int .i64 (p:Int),.int .i64 (k:Int)])/\w=w':=by
 unfold maxLen at U;by_cases I:n=0
 .subst I;have V:xs=[]:=eGa L.1;subst V;obtain rfl:p=0:=j.symm;obtain rfl:k=2:=E.symm;replace ⟨L,j,E⟩:=q_3 L j E;go_enter func61,ntmps61;go_wp2_with fail
  go_ret2;exact⟨rfl,rfl⟩
 .obtain⟨b,ac,N,rfl,ad,O,ae,Y⟩:=L.byte (i:=0) (by omega);rw[cNa]at Y;unfold yP at j;unfold vC at E;rw[O]at j E;rw[bAa I]at E;have Z:((n:Int) == 0)=false:=by rw[bDa];omega
  have t1:(0:Int)<(n:Int):=by omega
  have t2:0<n:=by omega
  replace ⟨L,O⟩:=q_2 L O;by_cases G:N / 16=4
  .rw[bBa G]at j;rw[bBa (.inl G)]at E;subst j E;have W:(((N:Int) / 16) == 4)=true:=by rw[fKa];omega
   replace ⟨G,I⟩:=q_2 G I;go_enter func61,ntmps61;go_wp2_with fail
   go_ret2;exact⟨rfl,rfl⟩
  .rw[bAa G]at j;have W:(((N:Int) / 16) == 4)=false:=by rw[bDa];omega
   by_cases J:N / 16=6
   .rw[bBa J]at j;rw[bBa (.inr J)]at E;subst j E;have X:(((N:Int) / 16) == 6)=true:=by rw[fKa];omega
    replace ⟨G,I,J⟩:=q_3 G I J;go_enter func61,ntmps61;go_wp2_with fail
    go_ret2;exact⟨rfl,rfl⟩
   .rw[bAa J]at j;rw[bAa (by omega)]at E;subst j E;have X:(((N:Int) / 16) == 6)=false:=by rw[bDa];omega
    replace ⟨G,I,J⟩:=q_3 G I J;go_enter func61,ntmps61;go_wp2_with fail
    go_ret2;exact⟨rfl,rfl⟩
def OutIs (n:Nat) (xs:List UInt8) (K:Nat) (b1:Bool) (sh sl:Int) (b2:Bool) (dh dl:Int) (proto m1:Nat) (rest:List UInt8):Prop :=
 ∀(A:Option Addr) (c:Nat) (W:World),IsB W W.heap.size A n xs->n<=c->c<=maxLen->Cl 60 #[.slice A n c] W fun e w'=>∃A2 c2,
  e=.returned (.tuple #[vJ b1 sh sl,vJ b2 dh dl,.int .i64 (proto:Int),.slice A2 m1 c2,.int .i64 (K:Int)])/\IsB w' w'.heap.size A2 m1 rest/\m1<=c2/\c2<=maxLen/\Below W.heap.size W w'
theorem aYf(n:Nat)(xs:List UInt8)(K0:Nat)(cl la ho:Int)(G:Bool)(I J:Int)(L:Bool)(N O:Int)(ar:List (Int×List UInt8))(W m1:Nat)(rest:List UInt8)(hS:yA n xs K0 cl la ho G I J L N O ar W m1 rest)
 (h0:0<n) (hv:(xs.getD 0 0).toNat / 16=6) (K:Nat) (j:(if K0=0/\0<nZ ar then 21 else K0)=K):OutIs n xs K G I J L N O W m1 rest:=by
 intro A c w hx ct cu;obtain⟨w1,ab⟩:=eX ((w.alloc (.cells #[.bool false,.int .u64 0,.int .u64 0] 27)).alloc (.cells #[.bool false,.int .u64 0,.int .u64 0] 27));have a8:Hid (Below w.heap.size w w1):=q_ (ab▸bC.alloc (by simp) _);have br:Hid (w1.heap[w.heap.size]?=some (.cells #[.bool false,.int .u64 0,.int .u64 0] 27 (0,0))):=q_ (ab▸kE _ (by simp) (aJ _ _ _));have bs:Hid (w1.heap[w.heap.size+1]?=some (.cells #[.bool false,.int .u64 0,.int .u64 0] 27 (0,0))):=q_ (ab▸(by simpa using aJ (w.alloc (.cells #[.bool false,.int .u64 0,.int .u64 0] 27)) 27 #[.bool false,.int .u64 0,.int .u64 0]));have bt:w.heap.size+1<w1.heap.size:=by rw[<-ab];simp
 have a9:=q_ (hx.on a8);obtain⟨b,cz,v0,rfl,c0,ay,c1,bf⟩:=a9.byte (i:=0) h0;rw[cNa]at bf;rw[ay]at hv;have t1:(((v0:Int) / 16) == 6)=true:=by rw[fKa];omega
 have t2:(0:Int)<(n:Int):=by omega
 obtain⟨U,Z⟩:∃U,decide (K0=0/\0<nZ ar)=U:=⟨_,rfl⟩
 replace ⟨hx,hS,j,Z,ay,hv⟩:=q_6 hx hS j Z ay hv;go_enter func60,ntmps60;go_wp2_with fail
 clear ab;refine(hS _ c _ a9 ct cu).mono ?_;rintro e V ⟨X,m,xc,A2,c2,es,rfl,az,hX,c3,c4,hr,cq,cr,aq⟩;obtain⟨wa,ac⟩:=eX (V.alloc (bS cl la ho G I J L N O X m xc W));have aj:Below V.heap.size V wa:=ac▸bC;have ba:=q_ (ac▸aJ V 164 #[.int .i64 cl,.int .i64 la,.int .i64 ho,.bool G,.int .u64 I,.int .u64 J,.bool L,.int .u64 N,.int .u64 O,.slice X m xc,.int .i64 W]);have bb:V.heap.size<wa.heap.size:=by rw[<-ac];simp
 unfold bS at ac;have bc:=q_ (aq.trans (aj.mono aq.size));have bu:=q_ (hX.on aj);have bv:=q_ (hr.on aj);have bw:=aA ba;have cx:=aq.size;have bx:m<=maxLen:=by omega
 clear hX hr aj aq bf;replace az:=q_ az;go_upto_region 3 with fail
 clear ac;go_cut [33] (fun sv wx=>∃w4,sv=.bool U/\Below wa.heap.size wa w4/\w4=wx)
 case first =>
  by_cases Y:K0=0
  .have t3:((K0:Int) == 0)=true:=by rw[fKa];omega
   obtain⟨f,hf⟩:∃f,beN (qR es) 1 2 / 8=f:=⟨_,rfl⟩
   have aa:decide (0<f)=U:=by
    rw[<-Z.out,<-hf,aF5,az.out];exact decide_eq_decide.2 ⟨fun h=>⟨Y,h⟩,fun h=>h.2⟩
   replace ⟨hf,Y,aa⟩:=q_3 hf Y aa;go_wp2_with fail
   refine(xL cl la ho G I J L N O X m xc W es _ bu bx).mono ?_;rintro e w3 ⟨rfl,a0⟩;rw[hf.out];replace a0:=q_ a0;go_wp2_with fail
   go_meet;exact⟨_,by rw[aa.out],a0,rfl⟩
  .have t3:((K0:Int) == 0)=false:=by rw[bDa];omega
   have aa:U=false:=by rw[<-Z.out];exact bWa (fun h=>Y h.1)
   replace Y:=q_ Y;go_wp2_with fail
   go_meet;exact⟨_,by rw[aa],bLa _ _,rfl⟩
 case rest =>
 obtain⟨wx,rfl,ad,rfl⟩:=hcut;have b0:=q_ (aC ad bb ba);have bd:=bKa bb ad.size;have b3:=q_ (bv.on ad);have al:=q_ (bc.trans (ad.mono (by have:=bc.size;omega)));have b4:=q_ (kB al br);have b5:=q_ (aC al bt bs);have b6:=al.size;clear bw ad;have a1:(if U=true then 21 else K0)=K:=by
  rw[<-j.out,<-Z.out];simp only[cBa]
 replace a1:=q_ a1;rcases U with _|_
 all_goals
  go_upto_region 5 with fail
  refine yH wx.heap.size (fun k=>k=w.heap.size\/k=w.heap.size+1) (by as_aux_lemma=>kernel_rfl) ?_;intro wd E;have cy:=E.size;have am:=q_ (kB E b4);have b7:=q_ (kB E b5);have b8:=q_ (aC E bd b0);have b9:=q_ (b3.on E);have ca:¬ (V.heap.size=w.heap.size\/V.heap.size=w.heap.size+1):=by omega
  have cc:=fun(l:yJ wx.heap.size (fun k=>k=w.heap.size\/k=w.heap.size+1) wd) (o:Nat)=>aA (l.blk b8 bd ca) o
  have cd:=aA am;have ce:=bD am;obtain⟨w8,e8,a2,ae⟩:=aXi am (.bool G) (.int .u64 I) (.int .u64 J);have an:=q_ (fC ae (show w.heap.size+1<wd.heap.size by omega) (by omega) b7);have cg:=aA an;have ch:=bD an;obtain⟨w9,e9,a3,af⟩:=aXi an (.bool L) (.int .u64 N) (.int .u64 O);have be:=ae.size;have ci:=q_ (fC af (show w.heap.size<w8.heap.size by omega) (by omega) a2);have cj:Hid (Below w.heap.size w w9):=q_ (a8.trans (((al.trans (E.mono b6)).mono (by omega)).trans ((below_grown ae (by omega) (aZa _)).trans (gB af))));have ck:Hid (aV wx.heap.size (fun k=>k=w.heap.size\/k=w.heap.size+1) wd w8):=q_ (e8▸uA (uA (uA (gQ _ _ _) (.inl rfl) _) (.inl rfl) _) (.inl rfl) _);have cm:Hid (aV wx.heap.size (fun k=>k=w.heap.size\/k=w.heap.size+1) w8 w9):=q_ (e9▸uA (uA (uA (gQ _ _ _) (.inr rfl) _) (.inr rfl) _) (.inr rfl) _);have cn:=q_ ((aXj (aXj b9 ae (aZa _) am) af be an).more (bJa be af.size));clear ae af;replace ⟨a2,a3,E⟩:=q_3 a2 a3 E;refine xW wx.heap.size (fun k=>k=w.heap.size\/k=w.heap.size+1) 0 8 (fuel:=5) (by as_aux_lemma=>kernel_rfl) (fun d _ _ _ _ h=>by cases d<;>exact h) (by as_aux_lemma=>kernel_rfl) (by as_aux_lemma=>kernel_rfl) ?_;simp only[dA,dC,dD];iterate 8(refine uG (fun K j=>?_);go_simp;refine j _ ?_;clear j K)
  refine aN ?_;refine fS 8 rfl fun K j=>?_;go_simp;refine j _ _ ck ?_;clear j K;refine fS 9 rfl fun K j=>?_;go_simp;refine j _ _ cm ?_;clear j K;refine fS 10 rfl fun K j=>?_;go_simp;refine j _ _ (gQ _ _ _) ?_;clear j K;refine fS 11 rfl fun K j=>?_;go_simp;refine j _ _ (gQ _ _ _) ?_;clear j K;refine fS 12 rfl fun K j=>?_;go_simp;refine j _ _ (gQ _ _ _) ?_;clear j K;refine fD ?_;clear cc cd ce cg ch e8 e9;have q1:=aA ci;have q2:=aA a3;go_wp2_with fail
  refine aYa (v:=.tuple #[vJ G I J,vJ L N O,.int .i64 W,.slice A2 m1 c2,.int .i64 (K:Int)]) (by simp[results,results60,go_sem,q1,q2,<-a1.out]) rfl ⟨A2,c2,rfl,cn,cq,cr,cj⟩
theorem aX8(n:Nat)(xs:List UInt8)(K0 am id:Nat)(df N:Bool)(G ao aa W X n1 m1:Nat)(rest:List UInt8)(hS:uX n xs K0 am id df N G ao aa W X n1 m1 rest)
 (hv:n=0\/(xs.getD 0 0).toNat / 16≠6) (K:Nat) (j:(if K0=0/\(0<G\/N=true)then 21 else K0)=K):OutIs n xs K false 0 W false 0 X aa m1 rest:=by
 intro A c w hx ch ci;obtain⟨w1,ad⟩:=eX ((w.alloc (.cells #[.bool false,.int .u64 0,.int .u64 0] 27)).alloc (.cells #[.bool false,.int .u64 0,.int .u64 0] 27));have a3:Hid (Below w.heap.size w w1):=q_ (ad▸bC.alloc (by simp) _);have bj:Hid (w1.heap[w.heap.size]?=some (.cells #[.bool false,.int .u64 0,.int .u64 0] 27 (0,0))):=q_ (ad▸kE _ (by simp) (aJ _ _ _));have bk:Hid (w1.heap[w.heap.size+1]?=some (.cells #[.bool false,.int .u64 0,.int .u64 0] 27 (0,0))):=q_ (ad▸(by simpa using aJ (w.alloc (.cells #[.bool false,.int .u64 0,.int .u64 0] 27)) 27 #[.bool false,.int .u64 0,.int .u64 0]));have bl:w.heap.size+1<w1.heap.size:=by rw[<-ad];simp
 have a4:=q_ (hx.on a3);have bm:n=0\/(0<n/\∃b ab O,A=some ⟨b,ab,none⟩/\w1.cell? ⟨b,ab,none⟩=some (.int .u8 (O:Nat))/\O / 16≠6/\O<=255):=by
  by_cases h0:n=0
  .exact .inl h0
  .obtain⟨b,ab,O,hA,cn,cd,a9,ak⟩:=a4.byte (i:=0) (by omega);rw[cNa]at ak;exact .inr ⟨by omega,b,ab,O,hA,ak,by rcases hv with h|h;exact absurd h h0;rw[<-cd];exact h,a9⟩
 obtain⟨I,Y⟩:∃I,decide (K0=0/\(0<G\/N=true))=I:=⟨_,rfl⟩
 replace ⟨hx,hS,j,Y,hv⟩:=q_5 hx hS j Y hv;rcases bm with rfl|⟨h0,b,ab,O,rfl,ak,a5,a9⟩
 case' inr =>
  have t1:(((O:Int) / 16) == 6)=false:=by rw[bDa];omega
  have t2:(0:Int)<(n:Int):=by omega
  replace a5:=q_ a5
 all_goals
  go_enter func60,ntmps60;go_wp2_with fail
  clear ad;refine(hS _ c _ a4 ch ci).mono ?_;rintro e V ⟨A1,c1,A2,c2,rfl,hr,ce,cg,al⟩;obtain⟨L,ae⟩:=eX (V.alloc (dS am id df N G ao aa false 0 W false 0 X A1 n1 c1));have aw:Below V.heap.size V L:=ae▸bC;have a6:=q_ (ae▸aJ V 167 #[.int .i64 am,.int .i64 id,.bool df,.bool N,.int .i64 G,.int .i64 ao,.int .i64 aa,.bool false,.int .u64 0,.int .u64 W,.bool false,.int .u64 0,.int .u64 X,.slice A1 n1 c1]);have a7:V.heap.size<L.heap.size:=by rw[<-ae];simp
  unfold dS at ae;have ah:=q_ (al.trans (aw.mono al.size));have bn:=q_ (hr.on aw);have bo:=aA a6;have cl:=al.size;have bp:=ah.size;have bq:=q_ (kB ah bj);have br:=q_ (aC ah bl bk);have ax:(if I=true then 21 else K0)=K:=by
   rw[<-j.out,<-Y.out];simp only[cBa]
  clear hr aw al
  try clear ak
  replace ax:=q_ ax;go_upto_region 7 with fail
  clear ae;go_cut [58] (fun sv wx=>sv=.bool I/\L=wx)
  case first =>
   by_cases E:K0=0
   .have t3:((K0:Int) == 0)=true:=by rw[fKa];omega
    by_cases Z:0<G
    .have t4:(0:Int)<(G:Int):=by omega
     have U:Hid (I=true):=q_ (by rw[<-Y.out];exact bYa ⟨E,.inl Z⟩);replace ⟨E,Z⟩:=q_2 E Z;go_wp2_with fail
     go_meet;exact⟨by rw[U.out],rfl⟩
    .have t4:¬ (0:Int)<(G:Int):=by omega
     have U:N=I:=by
      rw[<-Y.out];rcases N with _|_
      .exact(bWa (fun h=>by rcases h.2 with h|h;exact Z h;cases h)).symm
      .exact(bYa ⟨E,.inr rfl⟩).symm
     replace ⟨E,Z,U⟩:=q_3 E Z U;go_wp2_with fail
     go_meet;exact⟨by rw[U.out],rfl⟩
   .have t3:((K0:Int) == 0)=false:=by rw[bDa];omega
    have U:Hid (I=false):=q_ (by rw[<-Y.out];exact bWa (fun h=>E h.1));replace E:=q_ E;go_wp2_with fail
    go_meet;exact⟨by rw[U.out],rfl⟩
  case rest =>
  obtain⟨rfl,rfl⟩:=hcut;clear bo;rcases I with _|_
  all_goals
   go_upto_region 9 with fail
   refine yH L.heap.size (fun k=>k=w.heap.size\/k=w.heap.size+1) (by as_aux_lemma=>kernel_rfl) ?_;intro wd J;have cm:=J.size;have ai:=q_ (kB J bq);have bu:=q_ (kB J br);have bv:=q_ (aC J a7 a6);have bw:=q_ (bn.on J);have bx:¬ (V.heap.size=w.heap.size\/V.heap.size=w.heap.size+1):=by omega
   have bz:=fun(l:yJ L.heap.size (fun k=>k=w.heap.size\/k=w.heap.size+1) wd) (o:Nat)=>aA (l.blk bv a7 bx) o
   have b0:=aA ai;have b1:=bD ai;obtain⟨w8,e8,ay,af⟩:=aXi ai (.bool false) (.int .u64 0) (.int .u64 W);have aj:=q_ (fC af (show w.heap.size+1<wd.heap.size by omega) (by omega) bu);have b2:=aA aj;have b3:=bD aj;obtain⟨w9,e9,az,ag⟩:=aXi aj (.bool false) (.int .u64 0) (.int .u64 X);have a8:=af.size;have b4:=q_ (fC ag (show w.heap.size<w8.heap.size by omega) (by omega) ay);have b5:Hid (Below w.heap.size w w9):=q_ (a3.trans (((ah.trans (J.mono bp)).mono (by omega)).trans ((below_grown af (by omega) (aZa _)).trans (gB ag))));have b6:Hid (aV L.heap.size (fun k=>k=w.heap.size\/k=w.heap.size+1) wd w8):=q_ (e8▸uA (uA (uA (gQ _ _ _) (.inl rfl) _) (.inl rfl) _) (.inl rfl) _);have b7:Hid (aV L.heap.size (fun k=>k=w.heap.size\/k=w.heap.size+1) w8 w9):=q_ (e9▸uA (uA (uA (gQ _ _ _) (.inr rfl) _) (.inr rfl) _) (.inr rfl) _);have b8:=q_ ((aXj (aXj bw af (aZa _) ai) ag a8 aj).more (bJa a8 ag.size));clear af ag;replace ⟨ay,az,J⟩:=q_3 ay az J;refine xW L.heap.size (fun k=>k=w.heap.size\/k=w.heap.size+1) 0 8 (fuel:=5) (by as_aux_lemma=>kernel_rfl) (fun d _ _ _ _ h=>by cases d<;>exact h) (by as_aux_lemma=>kernel_rfl) (by as_aux_lemma=>kernel_rfl) ?_;simp only[dA,dC,dD];iterate 8(refine uG (fun K j=>?_);go_simp;refine j _ ?_;clear j K)
   refine aN ?_;refine fS 8 rfl fun K j=>?_;go_simp;refine j _ _ b6 ?_;clear j K;refine fS 9 rfl fun K j=>?_;go_simp;refine j _ _ b7 ?_;clear j K;refine fS 10 rfl fun K j=>?_;go_simp;refine j _ _ (gQ _ _ _) ?_;clear j K;refine fS 11 rfl fun K j=>?_;go_simp;refine j _ _ (gQ _ _ _) ?_;clear j K;refine fS 12 rfl fun K j=>?_;go_simp;refine j _ _ (gQ _ _ _) ?_;clear j K;refine fD ?_;clear bz b0 b1 b2 b3 e8 e9;have q1:=aA b4;have q2:=aA az;go_wp2_with fail
   refine aYa (v:=.tuple #[vJ false 0 W,vJ false 0 X,.int .i64 aa,.slice A2 m1 c2,.int .i64 (K:Int)]) (by simp[results,results60,go_sem,q1,q2,<-ax.out]) rfl ⟨A2,c2,rfl,b8,ce,cg,b5⟩
def aXu (K proto m1:Nat) (rest:List UInt8):Nat:=if K≠0 then K else if proto≠4/\proto≠41 then 14 else if vC m1 rest≠0 then vC m1 rest else if yP rest≠proto then 14 else 0
def aXp (K:Nat) (b1:Bool) (sh sl:Int) (b2:Bool) (dh dl:Int) (m1:Nat) (rest:List UInt8) (w w':World) (e:Ending):Prop :=
 (K≠0->e=.returned (.tuple #[.slice none 0 0,vJ false 0 0,vJ false 0 0,.int .i64 (K:Int)])) /\
 (K=0->∃A2 c2,e=.returned (.tuple #[.slice A2 m1 c2,vJ b1 sh sl,vJ b2 dh dl,.int .i64 0])/\IsB w' w'.heap.size A2 m1 rest/\m1<=c2/\c2<=maxLen)/\Below w.heap.size w w'
theorem aX0(n:Nat)(xs:List UInt8)(K0:Nat)(b1:Bool)(sh sl:Int)(b2:Bool)(dh dl:Int)(L m1:Nat)(rest:List UInt8)(hO:OutIs n xs K0 b1 sh sl b2 dh dl L m1 rest)(K:Nat)(N:aXu K0 L m1 rest=K)
 (A:Option Addr) (c:Nat) (w:World) (hx:IsB w w.heap.size A n xs) (bp:n<=c) (bc:c<=maxLen) :
 Cl 24 #[.slice A n c] w fun e w'=>aXp K b1 sh sl b2 dh dl m1 rest w w' e:=by
 obtain⟨w1,az⟩:=eX ((w.alloc (.cells #[.bool false,.int .u64 0,.int .u64 0] 27)).alloc (.cells #[.bool false,.int .u64 0,.int .u64 0] 27));have bd:Hid (Below w.heap.size w w1):=q_ (az▸bC.alloc (by simp) _);have bq:Hid (w1.heap[w.heap.size]?=some (.cells #[.bool false,.int .u64 0,.int .u64 0] 27 (0,0))):=q_ (az▸kE _ (by simp) (aJ _ _ _));have br:Hid (w1.heap[w.heap.size+1]?=some (.cells #[.bool false,.int .u64 0,.int .u64 0] 27 (0,0))):=q_ (az▸(by simpa using aJ (w.alloc (.cells #[.bool false,.int .u64 0,.int .u64 0] 27)) 27 #[.bool false,.int .u64 0,.int .u64 0]));have bs:w.heap.size+1<w1.heap.size:=by rw[<-az];simp
 have bt:=q_ (hx.on bd);replace ⟨hx,hO,N⟩:=q_3 hx hO N;go_enter func24,ntmps24;go_wp2_with fail
 clear az;refine(hO _ c _ bt bp bc).mono ?_;rintro e W ⟨A2,c2,rfl,hr,cd,ce,a7⟩;obtain⟨O,a0⟩:=eX ((W.alloc (.cells #[.bool b1,.int .u64 sh,.int .u64 sl] 27)).alloc (.cells #[.bool b2,.int .u64 dh,.int .u64 dl] 27));have be:Below W.heap.size W O:=a0▸bC.alloc (by simp) _;have bu:Hid (O.heap[W.heap.size]?=some (.cells #[.bool b1,.int .u64 sh,.int .u64 sl] 27 (0,0))):=q_ (a0▸kE _ (by simp) (aJ _ _ _));have bv:Hid (O.heap[W.heap.size+1]?=some (.cells #[.bool b2,.int .u64 dh,.int .u64 dl] 27 (0,0))):=q_ (a0▸(by simpa using aJ (W.alloc (.cells #[.bool b1,.int .u64 sh,.int .u64 sl] 27)) 27 #[.bool b2,.int .u64 dh,.int .u64 dl]));have cg:=a7.size;have bl:W.heap.size+1<O.heap.size:=by rw[<-a0];simp
 have a1:=a7.trans (be.mono a7.size);have ak:=q_ (kB a1 bq);have au:=q_ (aC a1 bs br);have bm:=q_ (hr.on be);have av:=q_ (bd.trans (a1.mono bd.size));clear hr a7 be a1;go_upto_region 2 with fail
 clear a0;have bf:=aA ak;have bg:=bD ak;by_cases ay:K0=0
 case neg =>
  have t1:((K0:Int) != 0)=true:=by rw[dLa];omega
  skip
  obtain⟨V,e8,I,j⟩:=aXi ak (.bool false) (.int .u64 0) (.int .u64 0);have G:=q_ (fC j (show w.heap.size+1<O.heap.size by omega) (by omega) au);have aw:=aA G;have ax:=bD G;obtain⟨X,e9,J,E⟩:=aXi G (.bool false) (.int .u64 0) (.int .u64 0);have am:=j.size;have Y:=q_ (fC E (show w.heap.size<V.heap.size by omega) (by omega) I);have Z:Hid (Below w.heap.size w X):=q_ (av.trans ((below_grown j (by omega) (aZa _)).trans (gB E)));have q1:=aA Y;have q2:=aA J;have U:Hid (K=K0):=q_ (by rw[<-N.out];unfold aXu;rw[bBa ay]);clear j E;replace ⟨I,J⟩:=q_2 I J;go_wp2_with fail
  exact aYa (v:=.tuple #[.slice none 0 0,vJ false 0 0,vJ false 0 0,.int .i64 (K0:Nat)]) (by simp[results,results24,go_sem,q1,q2]) rfl ⟨fun _=>by rw[U.out],fun h=>absurd h (by rw[U.out];exact ay),Z⟩
 have t1:((K0:Int) != 0)=false:=by rw[dQa];omega
 obtain⟨p,hp⟩:=eX (yP rest);obtain⟨k,hk⟩:=eX (vC m1 rest);have bn:K=if L≠4/\L≠41 then 14 else if k≠0 then k else if p≠L then 14 else 0:=by
  rw[<-N.out];unfold aXu;rw[bAa (fun h=>h ay),hp,hk]
 replace ⟨hp,hk,ay⟩:=q_3 hp hk ay;go_wp2_with fail
 refine(vZ A2 m1 c2 rest _ bm (by omega) p k hp hk).mono ?_;rintro e w' ⟨rfl,rfl⟩;clear N;have N:=q_ bn;clear bn;by_cases ao:L≠4/\L≠41
 .have t2:((L:Int) != 4)=true:=by rw[dLa];omega
  have t3:((L:Int) != 41)=true:=by rw[dLa];omega
  skip
  obtain⟨V,e8,I,j⟩:=aXi ak (.bool false) (.int .u64 0) (.int .u64 0);have G:=q_ (fC j (show w.heap.size+1<O.heap.size by omega) (by omega) au);have aw:=aA G;have ax:=bD G;obtain⟨X,e9,J,E⟩:=aXi G (.bool false) (.int .u64 0) (.int .u64 0);have am:=j.size;have Y:=q_ (fC E (show w.heap.size<V.heap.size by omega) (by omega) I);have Z:Hid (Below w.heap.size w X):=q_ (av.trans ((below_grown j (by omega) (aZa _)).trans (gB E)));have q1:=aA Y;have q2:=aA J;have U:Hid (K=14):=q_ (by rw[N.out,bBa ao]);clear j E;replace ⟨I,J⟩:=q_2 I J;go_wp2_with fail
  exact aYa (v:=.tuple #[.slice none 0 0,vJ false 0 0,vJ false 0 0,.int .i64 (14:Nat)]) (by simp[results,results24,go_sem,q1,q2]) rfl ⟨fun _=>by rw[U.out],fun h=>absurd h (by have:=U.out;omega),Z⟩
 have hz:((L:Int) != 4)=false\/(((L:Int) != 4)=true/\((L:Int) != 41)=false):=by
  by_cases h:L=4
  .exact .inl (by rw[dQa];omega)
  .exact .inr ⟨by rw[dLa];omega,by rw[dQa];omega⟩
 by_cases a9:k≠0
 .have t4:((k:Int) != 0)=true:=by rw[dLa];omega
  rcases hz with t2|⟨t2,t3⟩
  all_goals
   skip
   obtain⟨V,e8,I,j⟩:=aXi ak (.bool false) (.int .u64 0) (.int .u64 0);have G:=q_ (fC j (show w.heap.size+1<O.heap.size by omega) (by omega) au);have aw:=aA G;have ax:=bD G;obtain⟨X,e9,J,E⟩:=aXi G (.bool false) (.int .u64 0) (.int .u64 0);have am:=j.size;have Y:=q_ (fC E (show w.heap.size<V.heap.size by omega) (by omega) I);have Z:Hid (Below w.heap.size w X):=q_ (av.trans ((below_grown j (by omega) (aZa _)).trans (gB E)));have q1:=aA Y;have q2:=aA J;have U:Hid (K=k):=q_ (by rw[N.out,bAa ao,bBa a9]);clear j E;replace ⟨I,J⟩:=q_2 I J;go_wp2_with fail
   exact aYa (v:=.tuple #[.slice none 0 0,vJ false 0 0,vJ false 0 0,.int .i64 (k:Nat)]) (by simp[results,results24,go_sem,q1,q2]) rfl ⟨fun _=>by rw[U.out],fun h=>absurd h (by rw[U.out];exact a9),Z⟩
 have t4:((k:Int) != 0)=false:=by rw[dQa];omega
 by_cases a4:p≠L
 .have t5:((p:Int) != (L:Int))=true:=by rw[dLa];omega
  rcases hz with t2|⟨t2,t3⟩
  all_goals
   skip
   obtain⟨V,e8,I,j⟩:=aXi ak (.bool false) (.int .u64 0) (.int .u64 0);have G:=q_ (fC j (show w.heap.size+1<O.heap.size by omega) (by omega) au);have aw:=aA G;have ax:=bD G;obtain⟨X,e9,J,E⟩:=aXi G (.bool false) (.int .u64 0) (.int .u64 0);have am:=j.size;have Y:=q_ (fC E (show w.heap.size<V.heap.size by omega) (by omega) I);have Z:Hid (Below w.heap.size w X):=q_ (av.trans ((below_grown j (by omega) (aZa _)).trans (gB E)));have q1:=aA Y;have q2:=aA J;have U:Hid (K=14):=q_ (by rw[N.out,bAa ao,bAa a9,bBa a4]);clear j E;replace ⟨I,J⟩:=q_2 I J;go_wp2_with fail
   exact aYa (v:=.tuple #[.slice none 0 0,vJ false 0 0,vJ false 0 0,.int .i64 (14:Nat)]) (by simp[results,results24,go_sem,q1,q2]) rfl ⟨fun _=>by rw[U.out],fun h=>absurd h (by have:=U.out;omega),Z⟩
 have t5:((p:Int) != (L:Int))=false:=by rw[dQa];omega
 have U:Hid (K=0):=q_ (by rw[N.out,bAa ao,bAa a9,bAa a4]);clear bf bg;replace ⟨ao,a4⟩:=q_2 ao a4;rcases hz with t2|⟨t2,t3⟩
 all_goals
  go_wp2_with fail
  refine yH O.heap.size (fun k=>k=w.heap.size\/k=w.heap.size+1) (by as_aux_lemma=>kernel_rfl) ?_;intro wd ac;have ch:=ac.size;have a5:=q_ (kB ac ak);have b0:=q_ (kB ac au);have b3:=q_ (kB ac bu);have b4:=q_ (aC ac bl bv);have b5:=q_ (bm.on ac);have b6:¬ (W.heap.size=w.heap.size\/W.heap.size=w.heap.size+1):=by omega
  have b7:¬ (W.heap.size+1=w.heap.size\/W.heap.size+1=w.heap.size+1):=by omega
  have b8:=fun(l:yJ O.heap.size (fun k=>k=w.heap.size\/k=w.heap.size+1) wd) (o:Nat)=>aA (l.blk b3 (by omega) b6) o
  have bc:=fun(l:yJ O.heap.size (fun k=>k=w.heap.size\/k=w.heap.size+1) wd) (o:Nat)=>aA (l.blk b4 bl b7) o
  have bf:=aA a5;have bg:=bD a5;obtain⟨V,e8,I,j⟩:=aXi a5 (.bool b1) (.int .u64 sh) (.int .u64 sl);have G:=q_ (fC j (show w.heap.size+1<wd.heap.size by omega) (by omega) b0);have aw:=aA G;have ax:=bD G;obtain⟨X,e9,J,E⟩:=aXi G (.bool b2) (.int .u64 dh) (.int .u64 dl);have am:=j.size;have Y:=q_ (fC E (show w.heap.size<V.heap.size by omega) (by omega) I);have Z:Hid (Below w.heap.size w X):=q_ (av.trans ((ac.mono (by omega)).trans ((below_grown j (by omega) (aZa _)).trans (gB E))));have b9:Hid (aV O.heap.size (fun k=>k=w.heap.size\/k=w.heap.size+1) wd V):=q_ (e8▸uA (uA (uA (gQ _ _ _) (.inl rfl) _) (.inl rfl) _) (.inl rfl) _);have ca:Hid (aV O.heap.size (fun k=>k=w.heap.size\/k=w.heap.size+1) V X):=q_ (e9▸uA (uA (uA (gQ _ _ _) (.inr rfl) _) (.inr rfl) _) (.inr rfl) _);have cc:=q_ ((aXj (aXj b5 j (aZa _) a5) E am G).more (bJa am E.size));clear j E;replace ⟨I,J,ac⟩:=q_3 I J ac;refine xW O.heap.size (fun k=>k=w.heap.size\/k=w.heap.size+1) 0 3 (fuel:=4) (by as_aux_lemma=>kernel_rfl) (fun d _ _ _ _ h=>by cases d<;>exact h) (by as_aux_lemma=>kernel_rfl) (by as_aux_lemma=>kernel_rfl) ?_;simp only[dA,dC,dD];iterate 3(refine uG (fun K N=>?_);go_simp;refine N _ ?_;clear N K)
  refine aN ?_;refine fS 3 rfl fun K N=>?_;go_simp;refine N _ _ (gQ _ _ _) ?_;clear N K;refine fS 4 rfl fun K' ad=>?_;go_simp;refine ad _ _ b9 ?_;clear ad K';refine fS 5 rfl fun K' ad=>?_;go_simp;refine ad _ _ ca ?_;clear ad K';refine fS 6 rfl fun K' ad=>?_;go_simp;refine ad _ _ (gQ _ _ _) ?_;clear ad K';refine fD ?_;clear b8 bc bf bg aw ax e8 e9;have q1:=aA Y;have q2:=aA J;go_wp2_with fail
  exact aYa (v:=.tuple #[.slice A2 m1 c2,vJ b1 sh sl,vJ b2 dh dl,.int .i64 0]) (by simp[results,results24,go_sem,q1,q2]) rfl ⟨fun h=>absurd U h,fun _=>⟨A2,c2,rfl,cc,cd,ce⟩,Z⟩
theorem aX5(j A E G I J L N:Nat)(O:List (Int×List UInt8))(U:List UInt8):(aAy j A E G I J L N O U).getD 0 0=UInt8.ofNat (96+j / 16):=rfl
theorem aPn(j id:Int)(W X:Bool)(E G I:Int)(J:Bool)(L N:Int)(O:Bool)(U V:Int)(A:Option Addr)(n c:Nat)(P:Option Addr)(m d:Nat)(w:World)(hn:n<=maxLen)
 (Y:qJ j id E G I J L N O U V n=false) :
 Cl 59 #[fE j id W X E G I J L N O U V A n c,.slice P m d] w fun e w'=>e=.returned (.tuple #[.slice none 0 0,.int .i64 1])/\Below w.heap.size w w':=by
 replace Y:=q_ Y;unfold fE;go_enter func59,ntmps59;go_wp2_with fail
 refine(aJn j id W X E G I J L N O U V A n c _ hn).mono ?_;rw[Y.out];rintro e w1 ⟨rfl,Z⟩;have ab:=q_ (((bLa w.heap.size w).alloc (aZa _) (dS j id W X E G I J L N O U V A n c)).trans (Z.mono (by simp)));clear Z;go_wp2_with fail
 go_ret2;exact⟨rfl,ab⟩
theorem aSa(j A E:Int)(G:Bool)(L N:Int)(I:Bool)(O U:Int)(X:Option Addr)(n c:Nat)(J:Int)(V:List Ext)(P:Option Addr)(m d:Nat)(w:World)(W:IsX w w.heap.size X n V)(ab:n<=c)(ac:c<=maxLen)
 (Y:sS j A E G I J (pes V)=false) :
 Cl 58 #[eZ j A E G L N I O U X n c J,.slice P m d] w fun e w'=>e=.returned (.tuple #[.slice none 0 0,.int .i64 1])/\Below w.heap.size w w':=by
 have Z:=q_ (W.alloc (bS j A E G L N I O U X n c J));unfold bS at Z;replace ⟨Y,W⟩:=q_2 Y W;unfold eZ;go_enter func58,ntmps58;go_wp2_with fail
 refine(aDm j A E G L N I O U X n c J V _ Z ab ac).mono ?_;rw[Y.out];rintro e w1 ⟨rfl,aa⟩;have ad:=q_ (((bLa w.heap.size w).alloc (aZa _) (bS j A E G L N I O U X n c J)).trans (aa.mono (by simp)));clear aa;go_wp2_with fail
 go_ret2;exact⟨rfl,ad⟩
def dE (K:Nat) (U:List UInt8) (w w':World) (e:Ending):Prop :=
 ∃v,e=.returned (.tuple #[v,.int .i64 (K:Int)])/\(K=0->aZ w' w.heap.size v U)/\(K≠0->v=.slice none 0 0)/\Below w.heap.size w w'
theorem dE.no{K:Nat}(U:List UInt8){w:World}(h:K≠0)(j:Below w.heap.size w w'):dE K U w w' (.returned (.tuple #[.slice none 0 0,.int .i64 (K:Int)])):=⟨_,rfl,fun A=>absurd A h,fun _=>rfl,j⟩
theorem dE.yes{U:List UInt8}{w:World}(h:aZ w' w.heap.size v U)(j:Below w.heap.size w w'):dE 0 U w w' (.returned (.tuple #[v,.int .i64 0])):=⟨_,rfl,fun _=>h,fun A=>absurd rfl A,j⟩
theorem dE.from{K:Nat}{U:List UInt8}{w:World}{e:Ending}(h:dE K U w w' e)(j:Below w0.heap.size w0 w):dE K U w0 w' e:=by
 obtain⟨v,E,G,I,J⟩:=h;exact⟨v,E,fun A=>(G A).weaken j.size,I,j.trans (J.mono j.size)⟩
def aVn (ttl:Int):Nat:=if 0<=ttl/\ttl<=255 then 0 else 1
theorem aWz(j:Int)(E G I J A:Nat)(V:A<=255)(W:isB (A:Int)=false)(P:Option Addr)(m d:Nat)(L:List UInt8)(w:World)(X:IsB w w.heap.size P m L)(Y:m<=d)(Z:d<=maxLen)(hm:m<=4096)
 (h4:E<18446744073709551616) (h5:G<18446744073709551616) (h6:I<18446744073709551616) (h7:J<18446744073709551616) :
 Cl 58 #[eZ 0 0 j true E G true I J none 0 0 A,.slice P m d] w fun e w'=>dE (aVn j) (aAy 0 0 j.toNat E G I J A [] L) w w' e:=by
 by_cases h:0<=j/\j<=255
 .have N:aVn j=0:=by unfold aVn;rw[bBa h]
  have hr:sS (0:Nat) (0:Nat) (j.toNat:Nat) true true A (pes [])=true:=by
   rw[aFj ⟨by omega,by omega,by omega,by omega,by omega,by omega,rfl,rfl,by omega,by omega,W,by simp[pes]⟩]
   rfl
  have:=aJ2 0 0 j.toNat true E G true I J none 0 0 A [] P m d L w (IsX.nil _ _ _) (aZa _) (by unfold maxLen;omega) X Y Z rfl rfl (by omega) (by omega) (by omega) V h4 h5 h6 h7 (by omega) hm (by simp) (by simp) hr;rw[show((j.toNat:Nat):Int)=j by omega]at this;refine this.mono ?_;rintro e w' ⟨v,rfl,h1,O⟩;rw[N];exact .yes h1 O
 .have N:aVn j=1:=by unfold aVn;rw[bAa h]
  refine(aSa 0 0 j true E G true I J none 0 0 A [] P m d w (IsX.nil _ _ _) (aZa _) (by unfold maxLen;omega) (zL (fun U=>h ⟨U.2.2.1,U.2.2.2.1⟩))).mono ?_;rintro e w' ⟨rfl,O⟩;rw[N];exact .no _ (by omega) O
def zG (ttl shi slo dhi dlo:Int):Nat:=if 0<=ttl/\ttl<=255/\okA false shi slo=true/\okA false dhi dlo=true then 0 else 1
theorem aNc{A:Nat}(h:okA false j A=true):j=0/\A<4294967296:=by
 simp[okA]at h;omega
theorem aWb(j:Int)(G A I E J:Nat)(V:J<=255)(P:Option Addr)(m d:Nat)(N:List UInt8)(w:World)(W:IsB w w.heap.size P m N)(hm:m<=4096) :
 Cl 59 #[fE 0 0 false false 0 j J false G A false I E none 0 0,.slice P m d] w fun e w'=>dE (zG j G A I E) (hdB 0 0 0 j.toNat J A E [] m++N) w w' e:=by
 by_cases h:0<=j/\j<=255/\okA false G A=true/\okA false I E=true
 .have O:zG j G A I E=0:=by unfold zG;rw[bBa h]
  obtain⟨U,L,X,Y⟩:=h;obtain⟨rfl,Z⟩:=aNc X;obtain⟨rfl,h6⟩:=aNc Y;have:=aBw 0 0 false false 0 j.toNat J A E 0 rfl none 0 0 [] P m d N w (by omega) (by omega) (by omega) (by omega) V Z h6 (by omega) (by omega) (IsB.nil _ _ _) W (by omega);rw[show((j.toNat:Nat):Int)=j by omega]at this;refine this.mono ?_;rintro e w' ⟨v,rfl,U,L⟩;rw[O];exact .yes U L
 .have O:zG j G A I E=1:=by unfold zG;rw[bAa h]
  refine(aPn 0 0 false false 0 j J false G A false I E none 0 0 P m d w (by unfold maxLen;omega) ?_).mono ?_
  .unfold qJ;rw[bEa];rintro⟨_,_,a,b,_,_,_,_,_,_,_,_,c,d,_⟩;exact h ⟨a,b,c,d⟩
  rintro e w' ⟨rfl,L⟩;rw[O];exact .no _ (by omega) L
theorem aVd(j:Nat)(ar:j<=255)(au:isB (j:Int)=false)(A E G I:Nat)(sp dp aa:Int)(ca cb:Addr)(sz:Nat)(a9:sz<=65535)(V:Nat)(U:List UInt8)(hU:U.length<=4096)(w:World)
 (W:A<18446744073709551616) (h5:E<18446744073709551616) (J:G<18446744073709551616) (L:I<18446744073709551616)
 (ad:∀(P:Option Addr) (m d:Nat) (w':World),Below w.heap.size w w'->IsB w' w'.heap.size P m (kR A E G I sz j)->m<=maxLen->Cl 50 #[.slice P m d,.pointer (some ca),.pointer (some cb)] w' fun e aw=>dE V U w' aw e) :
 Cl 49 #[.agg #[.int .i64 (j:Int),.bool true,.int .u64 (A:Int),.int .u64 (E:Int),.bool true,.int .u64 (G:Int),.int .u64 (I:Int),.int .i64 sp,.int .i64 dp],.int .i64 aa,.func (.func 50) #[] #[.pointer (some ca),.pointer (some cb)],.int .i64 (sz:Int)] w fun e w' =>
  dE (if V=0 then aVn aa else V) (aAy 0 0 aa.toNat A E G I j [] U) w w' e:=by
 have ax:=q_ (aJ w 46 #[.int .i64 (j:Int),.bool true,.int .u64 (A:Int),.int .u64 (E:Int),.bool true,.int .u64 (G:Int),.int .u64 (I:Int),.int .i64 sp,.int .i64 dp]);replace ad:=q_ ad;go_enter func49,ntmps49;go_wp2_with fail
 refine(aB7 true A E true G I j sz j sz (by omega) (by rw[cTa];omega) _ W h5 J L (by omega)).mono ?_;rintro e w2 ⟨v,rfl,aq,ac⟩;obtain⟨A2,c2,rfl,a2,a3,ao⟩:=aq.form;clear aq;have ae:Hid (Below w.heap.size w w2):=q_ (bC.trans (ac.mono (by simp)));have ay:=ac.size;simp only[fTa]at ay;have am:=q_ (aC ac (by simp) ax);have az:=aA am;have X:=q_ (ad A2 _ c2 w2 ae ao (by omega));clear ao a2 a3 ac;go_wp2_with fail
 go_at_call 50;refine X.mono ?_;rintro e w3 ⟨v3,rfl,hy,hn,O⟩;have N:=ae.trans (O.mono ae.size);have Y:=kB O am;have ba:=aA Y;clear az;by_cases Z:V=0
 .subst Z;obtain⟨A3,c3,rfl,a6,a7,af⟩:=(hy rfl).form;clear hy hn;have an:=q_ (aWz aa A E G I j ar au A3 U.length c3 U _ af a6 a7 hU W h5 J L);replace ⟨af,N,Y,O,X⟩:=q_5 af N Y O X;go_wp2_with fail
  unfold eZ at an;refine an.mono ?_;rintro e w4 W;have h5:=W.from N;obtain⟨v4,rfl,J,L,h8⟩:=h5;clear W;replace ⟨J,L,h8⟩:=q_3 J L h8;go_wp2_with fail
  go_ret2;exact⟨v4,rfl,J,L,h8⟩
 .obtain rfl:=hn Z;have hK:((V:Int) == 0)=false:=by rw[bDa];omega
  clear hy hn;replace ⟨N,Y,O,X,Z⟩:=q_5 N Y O X Z;go_wp2_with fail
  go_ret2;exact .no _ Z N
theorem aSz(j:Nat)(ar:j<=255)(_hib:isB (j:Int)=false)(G A I E:Nat)(sp dp Y:Int)(ca cb:Addr)(sz:Nat)(a6:sz<=65535)(N:Nat)(U:List UInt8)(hU:U.length<=4096)(w:World)
 (_h4:G<18446744073709551616) (h5:A<18446744073709551616) (_h6:I<18446744073709551616) (O:E<18446744073709551616)
 (ab:∀(P:Option Addr) (m d:Nat) (w':World),Below w.heap.size w w'->IsB w' w'.heap.size P m (((beB A 4++beB E 4)++[0,UInt8.ofNat j])++beB sz 2)->m<=maxLen->Cl 50 #[.slice P m d,.pointer (some ca),.pointer (some cb)] w' fun e av=>dE N U w' av e) :
 Cl 49 #[.agg #[.int .i64 (j:Int),.bool false,.int .u64 (G:Int),.int .u64 (A:Int),.bool false,.int .u64 (I:Int),.int .u64 (E:Int),.int .i64 sp,.int .i64 dp],.int .i64 Y,.func (.func 50) #[] #[.pointer (some ca),.pointer (some cb)],.int .i64 (sz:Int)] w fun e w' =>
  dE (if N=0 then zG Y G A I E else N) (hdB 0 0 0 Y.toNat j A E [] U.length++U) w w' e:=by
 have aw:=q_ (aJ w 46 #[.int .i64 (j:Int),.bool false,.int .u64 (G:Int),.int .u64 (A:Int),.bool false,.int .u64 (I:Int),.int .u64 (E:Int),.int .i64 sp,.int .i64 dp]);replace ab:=q_ ab;go_enter func49,ntmps49;go_wp2_with fail
 refine(aA8 false G A false I E j sz j sz (by omega) (by rw[cTa];omega) _ h5 O (by omega)).mono ?_;rintro e w2 ⟨v,rfl,ap,Z⟩;obtain⟨A2,c2,rfl,a1,a2,an⟩:=ap.form;clear ap;have ac:Hid (Below w.heap.size w w2):=q_ (bC.trans (Z.mono (by simp)));have ax:=Z.size;simp only[fTa]at ax;have al:=q_ (aC Z (by simp) aw);have ay:=aA al;have V:=q_ (ab A2 _ c2 w2 ac an (by omega));clear an a1 a2 Z;go_wp2_with fail
 go_at_call 50;refine V.mono ?_;rintro e w3 ⟨v3,rfl,hy,hn,L⟩;have J:=ac.trans (L.mono ac.size);have W:=kB L al;have a7:=aA W;clear ay;by_cases X:N=0
 .subst X;obtain⟨A3,c3,rfl,a9,ba,ad⟩:=(hy rfl).form;clear hy hn;have am:=q_ (aWb Y G A I E j ar A3 U.length c3 U _ ad hU);replace ⟨ad,J,W,L,V⟩:=q_5 ad J W L V;go_wp2_with fail
  unfold fE at am;refine am.mono ?_;rintro e w4 h4;have h5:=h4.from J;obtain⟨v4,rfl,h6,O,h8⟩:=h5;clear h4;replace ⟨h6,O,h8⟩:=q_3 h6 O h8;go_wp2_with fail
  go_ret2;exact⟨v4,rfl,h6,O,h8⟩
 .obtain rfl:=hn X;have hK:((N:Int) == 0)=false:=by rw[bDa];omega
  clear hy hn;replace ⟨J,W,L,V,X⟩:=q_5 J W L V X;go_wp2_with fail
  go_ret2;exact .no _ X J
section
variable {P:Program} {md:Region.Mode} {Q:Exit->Act->World->Prop}
theorem aRe{A:Array Oper}{Q:Act->Prop}{j:Oper}{rest:List Oper}(E:j.guard=none)(ty:TypeId)(x:Operand)(G:j.op=.load ty x)(g:Nat)(I:a.eval x=.pointer (some ⟨g,0,none⟩))(cs:Array Value)(d:TypeDesc)
 (J:∀l:Later w0,l.w.heap[g]?=some (.cells cs t (0,0))) (L:P.underlying ty=some d) (N:d.isRow=true) (O:(P.info? ty).map (·.size)=some cs.size)
 (h:qM P A w0 Q rest (a.put j.dst (.agg cs))):qM P A w0 Q (j :: rest) a:=aD fun K U=>by
 rw[bBa (by simp[Region.wanted,E])];refine⟨.agg cs,fun l=>?_,U _ h⟩;have V:=run_loadVar_mid (P:=P) l.w g 0 ty cs.toList d (aM (J l)) L N (by rw[O,bUa]);unfold execOp;simp only[G,I,Instr.loadAt,Instr.sureAddr,fJa,fHa,dNa,V];exact⟨by simp,mG _⟩
theorem aHw(i:Nat){j:Oper}{rest:List Oper}{A:Array Bool}{w:World}(I:L.drop i=j :: rest)(J:Region.ready md L.toArray A=[i])(N:j.guard=none)
 (ty:TypeId) (x y:Operand) (O:j.op=.store ty x y) (g o:Nat) (U:a.eval x=.pointer (some ⟨g,o,none⟩)) (vs:Array Value) (V:a.eval y=.agg vs) {cs:Array Value} {t:TypeId} (E:w.heap[g]?=some (.cells cs t (0,0))) (G:o+vs.size<=cs.size)
 (W:(P.info? ty).map (·.size)=some vs.size) (X:vs.all (·.oneCell')=true)
 (h:∀w',w'.heap[g]?=some (.cells (pE cs o vs.toList) t (0,0))->w.grownBy w' (some g)->wpAny P md L.toArray Q fuel (A.setIfInBounds i true) (a.put j.dst undef) w'):wpAny P md L.toArray Q (fuel+1) A a w:=by
 obtain⟨w',e,Z,h3⟩:=aBe (o:=o) E vs.toList (by simpa using G);refine bF i I J fun K Y=>?_;rw[bBa (by unfold Region.wanted;rw[N])];refine wp_store_mid ty x y O g o vs U V (aAz E G) W X ?_;rw[e];exact Y _ _ (h w' Z h3)
end
def p4A (proto slo dlo ttl sz:Nat):Array Value:=#[.bool false,.int .i64 (proto:Int),.bool false,.int .u64 0,.int .u64 (slo:Int),.bool false,.int .u64 0,.int .u64 (dlo:Int),.int .i64 0,.int .i64 0,.int .i64 (ttl:Int),.int .i64 0,.bool false,.int .i64 0,.bool false,.int .u64 0,.int .u64 0,.bool false,.int .u64 0,.int .u64 0,.int .i64 0,.int .i64 0,.int .i64 (sz:Int)]
theorem aJf(A E G I sz:Nat):(p4A A E G I sz).all (·.oneCell')=true:=all_oneCell_toArray (by
 intro v j;simp only[bXa,bVa,dTa]at j;rcases j with rfl|rfl|rfl|rfl|rfl|rfl|rfl|rfl|rfl|rfl|rfl|rfl|rfl|rfl|rfl|rfl|rfl|rfl|rfl|rfl|rfl|rfl|rfl<;>rfl)
def ps4 (slo dlo proto m1:Nat):List UInt8:=((beB slo 4++beB dlo 4)++[0,UInt8.ofNat proto])++beB m1 2
def aVk (cs:Array Value) (errs:Int) (xs ps:List UInt8) (K:Nat) (y:Array Value):Prop :=
 ∀(A P:Option Addr) (c d:Nat) (w:World),IsB w w.heap.size A xs.length xs->IsB w w.heap.size P ps.length ps->xs.length<=c->c<=maxLen->Cl 78 #[.agg cs,.slice A xs.length c,.slice P ps.length d,.int .i64 errs] w fun e w'=>mD K y w w' e
theorem aUa(n:Nat)(xs:List UInt8)(ad id:Nat)(df:Bool)(O j G I J E:Nat)(rest:List UInt8)(hF:uX n xs 0 ad id df false 0 O j G I J E rest)(cm:20+J+E<=1099511627776)(cn:j<=255)(co:G<4294967296)(cp:I<4294967296)(ba:rest.length=E)
 (W:Nat) (y:Array Value) (hU:aVk (p4A j G I O (20+J+E)) 1 rest (ps4 G I j E) W y) (hy:W=0->y.size=23/\y.all (·.oneCell')=true)
 (A:Option Addr) (c:Nat) (w:World) (hx:IsB w w.heap.size A n xs) (bn:n<=c) (bo:c<=maxLen) :
 Cl 31 #[.slice A n c] w fun e w'=>mD W y w w' e:=by
 obtain⟨zs,ai⟩:=eX pkZ;have ax:Hid (Below w.heap.size w (w.alloc (.cells pkZ 48))):=q_ (bC);have ay:=q_ (aJ w 48 pkZ);obtain⟨w1,am⟩:=eX (w.alloc (.cells pkZ 48));have bq:w.heap.size<w1.heap.size:=by rw[<-am];simp
 rw[am]at ax ay;rw[ai]at ay;unfold pkZ at am;have bc:zs.size=23:=ai▸bG;have br:=q_ (hF A c w1 (hx.on ax) bn bo);replace ⟨hx,hF,hU,ai,hy⟩:=q_5 hx hF hU ai hy;go_enter func31,ntmps31;go_wp2_with fail
 refine br.mono ?_;rintro e w2 ⟨A1,c1,A2,c2,rfl,bm,cy,cj,ao⟩;have z2:=ao.size;obtain⟨V,aa⟩:=eX (w2.alloc (dS ad id df false 0 O j false 0 G false 0 I A1 J c1));have aj:Below w2.heap.size w2 V:=aa▸bC;have ak:Hid (V.heap[w2.heap.size]?=some (dS ad id df false 0 O j false 0 G false 0 I A1 J c1)):=q_ (aa▸aJ _ _ _);have bd:w2.heap.size<V.heap.size:=by rw[<-aa];simp
 unfold dS at ak aa;have bs:=q_ (((tw ax ao)).trans (aj.mono (by omega)));have bt:=q_ (kB aj (aC ao bq ay));have bu:=q_ (bm.on aj);have bv:=aA ak;clear am ao aj bm;unfold fE;go_upto_region 6 with fail
 clear aa bv;go_cut [7] (fun tv wx=>∃g L,tv=.pointer (some ⟨g,0,none⟩)/\L.heap[g]?=some (.cells (p4A j G I O (20+J+E)) 48 (0,0))/\V.heap.size<=g/\g<L.heap.size/\Below V.heap.size V L/\L=wx)
 case first =>
  have az:=fun(l:Later V) (o:Nat)=>aA (aC l.hb bd ak) o
  have be:=q_ (fun(l:Later V)=>uB ad id df false 0 O j false 0 G false 0 I A1 J c1 l.w (by omega));refine rL ?_;refine eS 0 15 2 ?_;simp only[dA,dC,dD];iterate 10 refine qE ?_
  (refine aD (fun K N=>?_);go_simp;apply bSa;refine⟨fun l=>?_,N _ ?_⟩;(go_at_call 77;refine(be l).mono ?_;rintro e w' ⟨rfl,hb⟩;exact⟨rfl,hb⟩);clear N K)
  iterate 4 refine qE ?_
  refine aT ?_;have q1:IntKind.i64.wrap ((20:Int)+(J:Int)+(E:Int))=((20+J+E:Nat):Int):=by rw[wO _];omega
  rw[q1];clear q1 az be;refine eT 15 rfl fun l K N=>?_;go_simp;have zl:=l.hb.size;have a1:Below l.w.heap.size l.w (l.w.alloc (.cells pkZ 48)):=bC;have bg:=q_ (aJ l.w 48 pkZ);have bh:l.w.heap.size<(l.w.alloc (.cells pkZ 48)).heap.size:=by simp
  refine N _ _ a1 ?_;clear N K
  change wpE _ _ _ _ _ _ _ _ (l.w.alloc (.cells pkZ 48))
  generalize l.w.alloc (.cells pkZ 48)=w4 at a1 bg bh ⊢;refine eE fun U=>?_;have bw:=U.hb.size;have bx:=q_ (aC U.hb bh bg);have a2:Below V.heap.size V U.w:=(l.hb.trans (a1.mono zl)).trans (U.hb.mono (by omega));refine aHw 16 rfl (by as_aux_lemma=>kernel_rfl) rfl 48 (.tmp 7) (.tmp 42) rfl l.w.heap.size 0 rfl (p4A j G I O (20+J+E)) rfl bx (show 0+23<=23 by omega) bK (aJf _ _ _ _ _) fun L X g5=>?_;rw[aQ pkZ (p4A j G I O (20+J+E)) rfl]at X;have a3:=q_ (a2.trans (gB g5));have z5:=g5.size;clear g5;replace X:=q_ X;refine tD ?_;go_wp2_with fail
  go_meet;exact⟨l.w.heap.size,L,rfl,X,by omega,by omega,a3,rfl⟩
 case rest =>
 obtain⟨g,L,rfl,X,cv,cc,Y,rfl⟩:=hcut;have z5:=Y.size;have a3:=q_ ((tw bs Y));have b0:=q_ (kB Y bt);have b1:=q_ (bu.on Y);have b2:=q_ (aC Y bd ak);have az:=fun(l:Later L) (o:Nat)=>aA (kB l.hb b2) o
 have b3:=q_ (fun(l:Later L)=>aC l.hb cc X);have b4:=q_ (fun(l:Later L)=>aA8 false 0 G false 0 I j E j E (by omega) (by rw[cTa];omega) l.w (by omega) (by omega) (by omega));replace ⟨X,Y⟩:=q_2 X Y;go_upto_region 7 with fail
 refine rL ?_;refine eS 0 10 6 ?_;simp only[dA,dC,dD];refine aRe rfl 48 (.tmp 7) rfl g rfl (p4A j G I O (20+J+E)) _ b3 cMa rfl bK ?_;generalize bk:p4A j G I O (20+J+E)=pa at hU;iterate 9 refine qE ?_
 refine aT ?_;clear az;refine eT 10 rfl fun l K N=>?_;go_simp;go_at_call 79;refine(b4 l).mono ?_;rintro e w6 ⟨v,rfl,bi,ap⟩;refine N _ _ ap ?_;clear N K;obtain⟨pl,Z⟩:=eX ((ps4 G I j E).length);have hown':aZ w6 l.w.heap.size v (ps4 G I j E):=bi;obtain⟨A6,c6,rfl,cg,cx,a7⟩:=hown'.form;rw[Z]at a7 cg ⊢;clear bi hown';refine eT 11 rfl fun U K N=>?_;go_simp;have zl:=l.hb.size;have z6:=ap.size;have bw:=U.hb.size;have a4:Hid (Below L.heap.size L U.w):=q_ ((l.hb.trans (ap.mono zl)).trans (U.hb.mono (by omega)));have bj:=q_ (hU A2 A6 c2 c6 U.w (by rw[ba];exact b1.on a4) (by rw[Z];exact a7.on U.hb) (by omega) cj);rw[ba,Z]at bj;have b5:=q_ (kB a4 b0);have a2:=q_ ((tw a3 a4));clear ap a7;replace ⟨Z,bk⟩:=q_2 Z bk;go_at_call 78;refine bj.mono ?_;rintro e w7 ⟨rfl,ac⟩;obtain⟨z,hz,an,a5⟩:∃z,(if W=0 then y else pkZ)=z/\z.size=23/\z.all (·.oneCell')=true:=by
  by_cases h:W=0
  .exact⟨y,by rw[bBa h],hy h⟩
  .exact⟨pkZ,by rw[bAa h],bG,jF⟩
 rw[hz];refine N _ _ ac ?_;clear N K;refine eS 12 2 2 ?_;simp only[dB,dA,dC,dD];iterate 2 refine qE ?_
 refine aT ?_;refine eE fun l3=>?_;have z7:=ac.size;have cu:=l3.hb.size;have b6:=q_ (kB l3.hb (kB ac b5));have b7:=q_ (((tw a2 ac)).trans (l3.hb.mono (by omega)));clear ac;replace ⟨a5,hz⟩:=q_2 a5 hz;refine aHw 14 rfl (by as_aux_lemma=>kernel_rfl) rfl 48 (.tmp 2) (.tmp 55) rfl w.heap.size 0 rfl z rfl b6 (by rw[bc,an];omega) (by rw[bK,an]) a5 fun w9 ah g9=>?_;rw[aQ _ _ (by rw[bc,an])]at ah;have b8:=q_ (b7.trans (gB g9));have a6:(loadVar 48 ⟨w.heap.size,0,none⟩).run prog w9=.ok (.agg z) w9:=by
  simpa using run_loadVar_mid w9 w.heap.size 0 48 z.toList _ (aM ah) cMa rfl (by rw[bK,bUa,an])
 have b9:Hid (mD W y w w9 (.returned (.tuple #[.agg z,.int .i64 (W:Int)]))):=q_ (⟨by rw[hz.out],b8⟩);clear g9;replace ⟨ah,a6⟩:=q_2 ah a6;refine tM 15 rfl ?_;refine tD ?_;go_wp2_with fail
 exact aYa (v:=.tuple #[.agg z,.int .i64 (W:Int)]) (by simp[results,results31,asAddr,a6.out,Result.andThen]) rfl b9
theorem aR6(n:Nat)(xs:List UInt8)(j:Nat)(ah:j≠0)(O:uX n xs j 0 0 false false 0 0 0 0 0 0 0 [])(y:Array Value)
 (A:Option Addr) (c:Nat) (w:World) (U:IsB w w.heap.size A n xs) (ai:n<=c) (aj:c<=maxLen) :
 Cl 31 #[.slice A n c] w fun e w'=>mD j y w w' e:=by
 have t1:((j:Int) == 0)=false:=by rw[bDa];omega
 obtain⟨zs,J⟩:=eX pkZ;have W:Hid (Below w.heap.size w (w.alloc (.cells pkZ 48))):=q_ (bC);have X:=q_ (aJ w 48 pkZ);obtain⟨w1,L⟩:=eX (w.alloc (.cells pkZ 48));have ak:w.heap.size<w1.heap.size:=by rw[<-L];simp
 rw[L]at W X;rw[J]at X;unfold pkZ at L;have ac:zs.size=23:=J▸bG;have al:=q_ (O A c w1 (U.on W) ai aj);replace ⟨U,O,J⟩:=q_3 U O J;go_enter func31,ntmps31;go_wp2_with fail
 refine al.mono ?_;rintro e G ⟨A1,c1,A2,c2,rfl,_,_,_,N⟩;have z2:=N.size;obtain⟨w3,E⟩:=eX (G.alloc (dS 0 0 false false 0 0 0 false 0 0 false 0 0 A1 0 c1));have Y:Below G.heap.size G w3:=E▸bC;have ad:Hid (w3.heap[G.heap.size]?=some (dS 0 0 false false 0 0 0 false 0 0 false 0 0 A1 0 c1)):=q_ (E▸aJ _ _ _);have aw:G.heap.size<w3.heap.size:=by rw[<-E];simp
 unfold dS at ad E;have am:=q_ (((tw W N)).trans (Y.mono (by omega)));have an:=q_ (kB Y (aC N ak X));have ao:=aA ad;clear L N Y;unfold fE;go_upto_region 3 with fail
 clear E ao;apply aWa;refine pS ?_;refine pS ?_;refine bQ rfl 48 (.tmp 2) (.tmp 17) rfl w.heap.size 0 rfl pkZ rfl an (by rw[ac,bG];omega) bK jF fun V I g9=>?_;rw[aQ _ _ (by rw[ac,bG])]at I;have ap:=q_ (am.trans (gB g9));have Z:(loadVar 48 ⟨w.heap.size,0,none⟩).run prog V=.ok (.agg pkZ) V:=by
  simpa using run_loadVar_mid V w.heap.size 0 48 pkZ.toList _ (aM I) cMa rfl (by rw[bK,bUa,bG])
 have aq:=q_ (qW (y:=y) j ah ap);clear g9;replace ⟨I,Z⟩:=q_2 I Z;refine pS ?_;refine bCa ?_;go_wp2_with fail
 exact aYa (v:=.tuple #[.agg pkZ,.int .i64 (j:Int)]) (by simp[results,results31,asAddr,Z.out,Result.andThen]) rfl aq
theorem aPk(n:Nat)(xs:List UInt8)(Y id:Nat)(Z L:Bool)(E aa ab ac ad n1 m1:Nat)(rest:List UInt8)(hF:uX n xs 0 Y id Z L E aa ab ac ad n1 m1 rest)(ax:0<E\/L=true)(y:Array Value)
 (A:Option Addr) (c:Nat) (w:World) (hx:IsB w w.heap.size A n xs) (ay:n<=c) (az:c<=maxLen) :
 Cl 31 #[.slice A n c] w fun e w'=>mD 21 y w w' e:=by
 obtain⟨zs,V⟩:=eX pkZ;have ah:Hid (Below w.heap.size w (w.alloc (.cells pkZ 48))):=q_ (bC);have ai:=q_ (aJ w 48 pkZ);obtain⟨w1,W⟩:=eX (w.alloc (.cells pkZ 48));have a0:w.heap.size<w1.heap.size:=by rw[<-W];simp
 rw[W]at ah ai;rw[V]at ai;unfold pkZ at W;have U:zs.size=23:=V▸bG;have a1:=q_ (hF A c w1 (hx.on ah) ay az);replace ⟨hx,hF,V⟩:=q_3 hx hF V;go_enter func31,ntmps31;go_wp2_with fail
 refine a1.mono ?_;rintro e O ⟨A1,c1,A2,c2,rfl,_,_,_,X⟩;have z2:=X.size;obtain⟨w3,J⟩:=eX (O.alloc (dS Y id Z L E aa ab false 0 ac false 0 ad A1 n1 c1));have aj:Below O.heap.size O w3:=J▸bC;have an:Hid (w3.heap[O.heap.size]?=some (dS Y id Z L E aa ab false 0 ac false 0 ad A1 n1 c1)):=q_ (J▸aJ _ _ _);have a6:O.heap.size<w3.heap.size:=by rw[<-J];simp
 unfold dS at an J;have ao:=q_ (((tw ah X)).trans (aj.mono (by omega)));have ap:=q_ (kB aj (aC X a0 ai));have aq:=aA an;clear W X aj;unfold fE;by_cases a4:0<E
 .have t2:(0:Int)<(E:Int):=by omega
  go_upto_region 5 with fail
  clear J aq;apply aWa;refine pS ?_;refine bQ rfl 48 (.tmp 2) (.tmp 27) rfl w.heap.size 0 rfl pkZ rfl ap (by rw[U,bG];omega) bK jF fun G j N=>?_;rw[aQ _ _ (by rw[U,bG])]at j;have ak:=q_ (ao.trans (gB N));have I:(loadVar 48 ⟨w.heap.size,0,none⟩).run prog G=.ok (.agg pkZ) G:=by
   simpa using run_loadVar_mid G w.heap.size 0 48 pkZ.toList _ (aM j) cMa rfl (by rw[bK,bUa,bG])
  have al:=q_ (qW (y:=y) 21 (by omega) ak);clear N;replace ⟨j,I⟩:=q_2 j I;refine pS ?_;refine bCa ?_;go_wp2_with fail
  exact aYa (v:=.tuple #[.agg pkZ,.int .i64 (21:Int)]) (by simp[results,results31,asAddr,I.out,Result.andThen]) rfl al
 .have t2:¬ (0:Int)<(E:Int):=by omega
  obtain rfl:L=true:=by rcases ax with h|h;exact absurd h a4;exact h
  go_upto_region 5 with fail
  clear J aq;apply aWa;refine pS ?_;refine bQ rfl 48 (.tmp 2) (.tmp 27) rfl w.heap.size 0 rfl pkZ rfl ap (by rw[U,bG];omega) bK jF fun G j N=>?_;rw[aQ _ _ (by rw[U,bG])]at j;have ak:=q_ (ao.trans (gB N));have I:(loadVar 48 ⟨w.heap.size,0,none⟩).run prog G=.ok (.agg pkZ) G:=by
   simpa using run_loadVar_mid G w.heap.size 0 48 pkZ.toList _ (aM j) cMa rfl (by rw[bK,bUa,bG])
  have al:=q_ (qW (y:=y) 21 (by omega) ak);clear N;replace ⟨j,I⟩:=q_2 j I;refine pS ?_;refine bCa ?_;go_wp2_with fail
  exact aYa (v:=.tuple #[.agg pkZ,.int .i64 (21:Int)]) (by simp[results,results31,asAddr,I.out,Result.andThen]) rfl al
def p6A (proto sh sl dh dl ho sz:Nat):Array Value:=#[.bool true,.int .i64 (proto:Int),.bool true,.int .u64 (sh:Int),.int .u64 (sl:Int),.bool true,.int .u64 (dh:Int),.int .u64 (dl:Int),.int .i64 0,.int .i64 0,.int .i64 (ho:Int),.int .i64 0,.bool false,.int .i64 0,.bool false,.int .u64 0,.int .u64 0,.bool false,.int .u64 0,.int .u64 0,.int .i64 0,.int .i64 0,.int .i64 (sz:Int)]
theorem aJg(A E G I J L sz:Nat):(p6A A E G I J L sz).all (·.oneCell')=true:=all_oneCell_toArray (by
 intro v j;simp only[bXa,bVa,dTa]at j;rcases j with rfl|rfl|rfl|rfl|rfl|rfl|rfl|rfl|rfl|rfl|rfl|rfl|rfl|rfl|rfl|rfl|rfl|rfl|rfl|rfl|rfl|rfl|rfl<;>rfl)
theorem aUb(n:Nat)(xs:List UInt8)(cl la N E G I J:Nat)(ab:List (Int×List UInt8))(j L:Nat)(rest:List UInt8)(hF:yA n xs 0 cl la N true E G true I J ab j L rest)(a7:ab.length<=8)(ar:∀e∈ab,e.2.length<=2047)(bs:nZ ab=0)(bt:qQ ab=false)(dq:L<=1099511627776)(dr:j<=255)(ca:E<18446744073709551616)(cc:G<18446744073709551616)(cd:I<18446744073709551616)(ce:J<18446744073709551616)(bu:rest.length=L)
 (T:Nat) (hT:40+nK ab=T) (Y:Nat) (y:Array Value) (hU:aVk (p6A j E G I J N (T+L)) 58 rest (kR E G I J L j) Y y) (hy:Y=0->y.size=23/\y.all (·.oneCell')=true)
 (A:Option Addr) (c:Nat) (w:World) (hx:IsB w w.heap.size A n xs) (ch:n<=c) (ci:c<=maxLen) :
 Cl 32 #[.slice A n c] w fun e w'=>mD Y y w w' e:=by
 obtain⟨zs,ax⟩:=eX pkZ;have bc:Hid (Below w.heap.size w (w.alloc (.cells pkZ 48))):=q_ (bC);have bd:=q_ (aJ w 48 pkZ);obtain⟨w1,a2⟩:=eX (w.alloc (.cells pkZ 48));have cm:w.heap.size<w1.heap.size:=by rw[<-a2];simp
 rw[a2]at bc bd;rw[ax]at bd;unfold pkZ at a2;have bw:zs.size=23:=ax▸bG;have cn:=q_ (hF A c w1 (hx.on bc) ch ci);replace ⟨hx,hF,hU,ax,hy⟩:=q_5 hx hF hU ax hy;go_enter func32,ntmps32;go_wp2_with fail
 refine cn.mono ?_;rintro e w2 ⟨X,m,xc,A2,c2,es,rfl,ad,br,d3,d4,b9,d5,dm,a4⟩;have z2:=a4.size;obtain⟨w3,ao⟩:=eX (w2.alloc (bS (cl:Int) la N true E G true I J X m xc j));have ak:Below w2.heap.size w2 w3:=ao▸bC;have ac:Hid (w3.heap[w2.heap.size]?=some (bS (cl:Int) la N true E G true I J X m xc j)):=q_ (ao▸aJ _ _ _);have al:w2.heap.size<w3.heap.size:=by rw[<-ao];simp
 unfold bS at ac ao;have ay:=q_ (((tw bc a4)).trans (ak.mono (by omega)));have az:=q_ (kB ak (aC a4 cm bd));have a0:=q_ (b9.on ak);have am:=q_ (br.on ak);have co:es.length=m:=br.1;have cp:m<=8:=by rw[<-co,<-rU,ad];exact a7
 have bx:m<=maxLen:=by unfold maxLen;omega
 have cq:Hid (∀e∈es,e.xs.length<=2047):=q_ (fun e he=>ar (e.k,e.xs) (by rw[<-ad];exact List.mem_map.2 ⟨e,he,rfl⟩));have cr:Hid (40+xR es=T):=q_ (by rw[aAt,ad,hT]);have dt:T<=16424:=by
  have:=aQ0 ab ar;omega
 have ct:Hid (beN (qR es) 1 2 / 8=0):=q_ (by rw[aF5,ad,bs]);have cu:Hid (qQ (pes es)=false):=q_ (by rw[ad,bt]);have cv:=aA ac;clear a2 a4 ak b9;unfold eZ;replace ⟨a7,ar,ad⟩:=q_3 a7 ar ad;clear br bs bt;go_wp2_with fail
 refine(xL (cl:Int) la N true E G true I J X m xc j es _ am bx).mono ?_;rintro e wf ⟨rfl,af⟩;rw[ct.out];have be:=q_ (am.on af);have bf:=q_ (aC af al ac);have cw:=aA bf;have bz:=q_ (kB af az);have b0:=q_ ((tw ay af));have b1:=q_ (a0.on af);have du:=af.size;clear ao cv af ay az a0 am;go_wp2_with fail
 refine(aM9 (cl:Int) la N true E G true I J X m xc j es _ be bx).mono ?_;rintro e W ⟨rfl,ag⟩;rw[cu.out];have am:=q_ (be.on ag);have hgh':=kB ag bf;have cx:=aA hgh';have az:=q_ (kB ag bz);have ay:=q_ ((tw b0 ag));have a0:=q_ (b1.on ag);have dv:=ag.size;have hz3':w2.heap.size<W.heap.size:=by omega
 have dw:w1.heap.size<=W.heap.size:=by omega
 clear cw ag be bz b0 b1 bf ac;have ac:=q_ hgh';clear hgh';go_upto_region 6 with fail
 clear cx al;have al:=hz3';clear hz3';go_cut [7] (fun tv wx=>∃g O,tv=.pointer (some ⟨g,0,none⟩)/\O.heap[g]?=some (.cells (p6A j E G I J N (T+L)) 48 (0,0))/\W.heap.size<=g/\g<O.heap.size/\Below W.heap.size W O/\O=wx)
 case first =>
  have bg:=fun(l:Later W) (o:Nat)=>aA (aC l.hb al ac) o
  have b2:=q_ (fun(l:Later W)=>vD (cl:Int) la N true E G true I J X m xc j es l.w (am.later l) cp cq T cr);refine rL ?_;refine eS 0 15 2 ?_;simp only[dA,dC,dD];iterate 10 refine qE ?_
  (refine aD (fun K U=>?_);go_simp;apply bSa;refine⟨fun l=>?_,U _ ?_⟩;(go_at_call 83;refine(b2 l).mono ?_;rintro e w' ⟨rfl,hb⟩;exact⟨rfl,hb⟩);clear U K)
  iterate 4 refine qE ?_
  refine aT ?_;have q1:IntKind.i64.wrap ((T:Int)+(L:Int))=((T+L:Nat):Int):=by rw[wO _];omega
  rw[q1];clear q1 bg b2;refine eT 15 rfl fun l K U=>?_;go_simp;have zl:=l.hb.size;have bi:Below l.w.heap.size l.w (l.w.alloc (.cells pkZ 48)):=bC;have b4:=q_ (aJ l.w 48 pkZ);have b5:l.w.heap.size<(l.w.alloc (.cells pkZ 48)).heap.size:=by simp
  refine U _ _ bi ?_;clear U K
  change wpE _ _ _ _ _ _ _ _ (l.w.alloc (.cells pkZ 48))
  generalize l.w.alloc (.cells pkZ 48)=w4 at bi b4 b5 ⊢;refine eE fun V=>?_;have cy:=V.hb.size;have cz:=q_ (aC V.hb b5 b4);have bj:Below W.heap.size W V.w:=(l.hb.trans (bi.mono zl)).trans (V.hb.mono (by omega));refine aHw 16 rfl (by as_aux_lemma=>kernel_rfl) rfl 48 (.tmp 7) (.tmp 42) rfl l.w.heap.size 0 rfl (p6A j E G I J N (T+L)) rfl cz (show 0+23<=23 by omega) bK (aJg _ _ _ _ _ _ _) fun O Z g5=>?_;rw[aQ pkZ (p6A j E G I J N (T+L)) rfl]at Z;have bk:=q_ (bj.trans (gB g5));have z5:=g5.size;clear g5;replace Z:=q_ Z;refine tD ?_;go_wp2_with fail
  go_meet;exact⟨l.w.heap.size,O,rfl,Z,by omega,by omega,bk,rfl⟩
 case rest =>
 obtain⟨g,O,rfl,Z,d0,de,ae,rfl⟩:=hcut;have z5:=ae.size;have bk:=q_ ((tw ay ae));have c1:=q_ (kB ae az);have c3:=q_ (a0.on ae);have c4:=q_ (aC ae al ac);have bg:=fun(l:Later O) (o:Nat)=>aA (kB l.hb c4) o
 have c5:=q_ (fun(l:Later O)=>aC l.hb de Z);have c7:=q_ (fun(l:Later O)=>aB7 true E G true I J j L j L (by omega) (by rw[cTa];omega) l.w ca cc cd ce (by omega));replace ⟨Z,ae⟩:=q_2 Z ae;go_upto_region 7 with fail
 refine rL ?_;refine eS 0 10 6 ?_;simp only[dA,dC,dD];refine aRe rfl 48 (.tmp 7) rfl g rfl (p6A j E G I J N (T+L)) _ c5 cMa rfl bK ?_;generalize b8:p6A j E G I J N (T+L)=pa at hU;iterate 9 refine qE ?_
 refine aT ?_;clear bg;refine eT 10 rfl fun l K U=>?_;go_simp;go_at_call 57;refine(c7 l).mono ?_;rintro e w6 ⟨v,rfl,b6,a5⟩;refine U _ _ a5 ?_;clear U K;obtain⟨pl,an⟩:=eX ((kR E G I J L j).length);have hown':aZ w6 l.w.heap.size v (kR E G I J L j):=b6;obtain⟨A6,c6,rfl,di,d2,bq⟩:=hown'.form;rw[an]at bq di ⊢;clear b6 hown';refine eT 11 rfl fun V K U=>?_;go_simp;have zl:=l.hb.size;have z6:=a5.size;have cy:=V.hb.size;have bl:Hid (Below O.heap.size O V.w):=q_ ((l.hb.trans (a5.mono zl)).trans (V.hb.mono (by omega)));have b7:=q_ (hU A2 A6 c2 c6 V.w (by rw[bu];exact c3.on bl) (by rw[an];exact bq.on V.hb) (by omega) dm);rw[bu,an]at b7;have c8:=q_ (kB bl c1);have bj:=q_ ((tw bk bl));clear a5 bq;replace ⟨an,b8⟩:=q_2 an b8;go_at_call 78;refine b7.mono ?_;rintro e w7 ⟨rfl,aq⟩;obtain⟨z,hz,a3,bm⟩:∃z,(if Y=0 then y else pkZ)=z/\z.size=23/\z.all (·.oneCell')=true:=by
  by_cases h:Y=0
  .exact⟨y,by rw[bBa h],hy h⟩
  .exact⟨pkZ,by rw[bAa h],bG,jF⟩
 rw[hz];refine U _ _ aq ?_;clear U K;refine eS 12 2 2 ?_;simp only[dB,dA,dC,dD];iterate 2 refine qE ?_
 refine aT ?_;refine eE fun l3=>?_;have z7:=aq.size;have dz:=l3.hb.size;have c9:=q_ (kB l3.hb (kB aq c8));have da:=q_ (((tw bj aq)).trans (l3.hb.mono (by omega)));clear aq;replace ⟨bm,hz⟩:=q_2 bm hz;refine aHw 14 rfl (by as_aux_lemma=>kernel_rfl) rfl 48 (.tmp 2) (.tmp 55) rfl w.heap.size 0 rfl z rfl c9 (by rw[bw,a3];omega) (by rw[bK,a3]) bm fun w9 aw g9=>?_;rw[aQ _ _ (by rw[bw,a3])]at aw;have db:=q_ (da.trans (gB g9));have bn:(loadVar 48 ⟨w.heap.size,0,none⟩).run prog w9=.ok (.agg z) w9:=by
  simpa using run_loadVar_mid w9 w.heap.size 0 48 z.toList _ (aM aw) cMa rfl (by rw[bK,bUa,a3])
 have dc:Hid (mD Y y w w9 (.returned (.tuple #[.agg z,.int .i64 (Y:Int)]))):=q_ (⟨by rw[hz.out],db⟩);clear g9;replace ⟨aw,bn⟩:=q_2 aw bn;refine tM 15 rfl ?_;refine tD ?_;go_wp2_with fail
 exact aYa (v:=.tuple #[.agg z,.int .i64 (Y:Int)]) (by simp[results,results32,asAddr,bn.out,Result.andThen]) rfl dc
theorem aR7(n:Nat)(xs:List UInt8)(j:Nat)(aj:j≠0)(U:yA n xs j 0 0 0 false 0 0 false 0 0 [] 0 0 [])(y:Array Value)
 (A:Option Addr) (c:Nat) (w:World) (V:IsB w w.heap.size A n xs) (ak:n<=c) (al:c<=maxLen) :
 Cl 32 #[.slice A n c] w fun e w'=>mD j y w w' e:=by
 have t1:((j:Int) == 0)=false:=by rw[bDa];omega
 obtain⟨zs,L⟩:=eX pkZ;have Y:Hid (Below w.heap.size w (w.alloc (.cells pkZ 48))):=q_ (bC);have Z:=q_ (aJ w 48 pkZ);obtain⟨w1,N⟩:=eX (w.alloc (.cells pkZ 48));have am:w.heap.size<w1.heap.size:=by rw[<-N];simp
 rw[N]at Y Z;rw[L]at Z;unfold pkZ at N;have af:zs.size=23:=L▸bG;have an:=q_ (U A c w1 (V.on Y) ak al);replace ⟨V,U,L⟩:=q_3 V U L;go_enter func32,ntmps32;go_wp2_with fail
 refine an.mono ?_;rintro e I ⟨X,m,xc,A2,c2,es,he,_,_,_,_,_,_,_,O⟩;obtain⟨E,ai⟩:∃E:Int,((0:Nat):Int)=E:=⟨_,rfl⟩
 obtain rfl:e=.returned (.tuple #[eZ 0 0 0 false 0 0 false 0 0 X m xc E,.slice A2 0 c2,.int .i64 (j:Int)]):=by rw[<-ai];exact he
 clear ai;have z2:=O.size;obtain⟨w3,G⟩:=eX (I.alloc (bS 0 0 0 false 0 0 false 0 0 X m xc E));have aa:Below I.heap.size I w3:=G▸bC;have ag:Hid (w3.heap[I.heap.size]?=some (bS 0 0 0 false 0 0 false 0 0 X m xc E)):=q_ (G▸aJ _ _ _);have a1:I.heap.size<w3.heap.size:=by rw[<-G];simp
 unfold bS at ag G;have ao:=q_ (((tw Y O)).trans (aa.mono (by omega)));have ap:=q_ (kB aa (aC O am Z));have aq:=aA ag;clear N O aa;unfold eZ;go_upto_region 3 with fail
 clear G aq;apply aWa;refine pS ?_;refine pS ?_;refine bQ rfl 48 (.tmp 2) (.tmp 17) rfl w.heap.size 0 rfl pkZ rfl ap (by rw[af,bG];omega) bK jF fun W J g9=>?_;rw[aQ _ _ (by rw[af,bG])]at J;have ar:=q_ (ao.trans (gB g9));have ab:(loadVar 48 ⟨w.heap.size,0,none⟩).run prog W=.ok (.agg pkZ) W:=by
  simpa using run_loadVar_mid W w.heap.size 0 48 pkZ.toList _ (aM J) cMa rfl (by rw[bK,bUa,bG])
 have au:=q_ (qW (y:=y) j aj ar);clear g9;replace ⟨J,ab⟩:=q_2 J ab;refine pS ?_;refine bCa ?_;go_wp2_with fail
 exact aYa (v:=.tuple #[.agg pkZ,.int .i64 (j:Int)]) (by simp[results,results32,asAddr,ab.out,Result.andThen]) rfl au
theorem aPm(n:Nat)(xs:List UInt8)(L N O U V W Y:Nat)(G:List (Int×List UInt8))(Z m1:Nat)(rest:List UInt8)(hF:yA n xs 0 L N O true U V true W Y G Z m1 rest)(au:G.length<=8)(av:0<nZ G\/qQ G=true)(y:Array Value)
 (A:Option Addr) (c:Nat) (w:World) (hx:IsB w w.heap.size A n xs) (bf:n<=c) (bg:c<=maxLen) :
 Cl 32 #[.slice A n c] w fun e w'=>mD 21 y w w' e:=by
 obtain⟨zs,ah⟩:=eX pkZ;have ax:Hid (Below w.heap.size w (w.alloc (.cells pkZ 48))):=q_ (bC);have ay:=q_ (aJ w 48 pkZ);obtain⟨w1,ao⟩:=eX (w.alloc (.cells pkZ 48));have bh:w.heap.size<w1.heap.size:=by rw[<-ao];simp
 rw[ao]at ax ay;rw[ah]at ay;unfold pkZ at ao;have ag:zs.size=23:=ah▸bG;have bi:=q_ (hF A c w1 (hx.on ax) bf bg);replace ⟨hx,hF,ah,av⟩:=q_4 hx hF ah av;go_enter func32,ntmps32;go_wp2_with fail
 refine bi.mono ?_;rintro e w2 ⟨X,m,xc,A2,c2,es,rfl,ad,a6,bz,b0,b1,b2,b3,ap⟩;have z2:=ap.size;obtain⟨w3,aa⟩:=eX (w2.alloc (bS (L:Int) N O true U V true W Y X m xc Z));have ai:Below w2.heap.size w2 w3:=aa▸bC;have az:Hid (w3.heap[w2.heap.size]?=some (bS (L:Int) N O true U V true W Y X m xc Z)):=q_ (aa▸aJ _ _ _);have bj:w2.heap.size<w3.heap.size:=by rw[<-aa];simp
 unfold bS at az aa;have aj:=q_ (((tw ax ap)).trans (ai.mono (by omega)));have ak:=q_ (kB ai (aC ap bh ay));have al:=q_ (a6.on ai);have bk:es.length=m:=a6.1;have bu:m<=8:=by rw[<-bk,<-rU,ad];exact au
 have a0:m<=maxLen:=by unfold maxLen;omega
 have a7:Hid (qQ (pes es)=qQ G):=q_ (by rw[ad]);obtain⟨f,hf⟩:=eX (nZ G);have a8:Hid (beN (qR es) 1 2 / 8=f):=q_ (by rw[aF5,ad,hf]);obtain⟨mo,an⟩:=eX (qQ G);have hfr':=av.out;rw[hf,an]at hfr';rw[an]at a7;have a9:=aA az;clear a6 ap ai ao;unfold eZ;replace ⟨au,ad,hf,an⟩:=q_4 au ad hf an;by_cases bs:0<f
 .have t2:(0:Int)<(f:Int):=by omega
  go_wp2_with fail
  refine(xL (L:Int) N O true U V true W Y X m xc Z es _ al a0).mono ?_;rintro e wf ⟨rfl,j⟩;rw[a8.out];have a1:=q_ (kB j ak);have a2:=q_ ((tw aj j));have bm:=j.size;clear aa a9 j aj ak;go_upto_region 5 with fail
  apply aWa;refine pS ?_;refine bQ rfl 48 (.tmp 2) (.tmp 27) rfl w.heap.size 0 rfl pkZ rfl a1 (by rw[ag,bG];omega) bK jF fun I E g9=>?_;rw[aQ _ _ (by rw[ag,bG])]at E;have a3:=q_ (a2.trans (gB g9));have J:(loadVar 48 ⟨w.heap.size,0,none⟩).run prog I=.ok (.agg pkZ) I:=by
   simpa using run_loadVar_mid I w.heap.size 0 48 pkZ.toList _ (aM E) cMa rfl (by rw[bK,bUa,bG])
  have a4:=q_ (qW (y:=y) 21 (by omega) a3);clear g9;replace ⟨E,J⟩:=q_2 E J;refine pS ?_;refine bCa ?_;go_wp2_with fail
  exact aYa (v:=.tuple #[.agg pkZ,.int .i64 (21:Int)]) (by simp[results,results32,asAddr,J.out,Result.andThen]) rfl a4
 .have t2:¬ (0:Int)<(f:Int):=by omega
  obtain rfl:mo=true:=by rcases hfr' with h|h;exact absurd h bs;exact h
  go_wp2_with fail
  refine(xL (L:Int) N O true U V true W Y X m xc Z es _ al a0).mono ?_;rintro e wf ⟨rfl,j⟩;rw[a8.out];have ba:=q_ (al.on j);have bn:=q_ (aC j bj az);have bo:=aA bn;have bb:=q_ (kB j ak);have bc:=q_ ((tw aj j));have bm:=j.size;clear aa a9 j aj ak al;go_wp2_with fail
  refine(aM9 (L:Int) N O true U V true W Y X m xc Z es _ ba a0).mono ?_;rintro e wm ⟨rfl,aq⟩;rw[a7.out];have a1:=q_ (kB aq bb);have a2:=q_ ((tw bc aq));have bv:=aq.size;clear bo aq ba bb bc;go_upto_region 5 with fail
  apply aWa;refine pS ?_;refine bQ rfl 48 (.tmp 2) (.tmp 27) rfl w.heap.size 0 rfl pkZ rfl a1 (by rw[ag,bG];omega) bK jF fun I E g9=>?_;rw[aQ _ _ (by rw[ag,bG])]at E;have a3:=q_ (a2.trans (gB g9));have J:(loadVar 48 ⟨w.heap.size,0,none⟩).run prog I=.ok (.agg pkZ) I:=by
   simpa using run_loadVar_mid I w.heap.size 0 48 pkZ.toList _ (aM E) cMa rfl (by rw[bK,bUa,bG])
  have a4:=q_ (qW (y:=y) 21 (by omega) a3);clear g9;replace ⟨E,J⟩:=q_2 E J;refine pS ?_;refine bCa ?_;go_wp2_with fail
  exact aYa (v:=.tuple #[.agg pkZ,.int .i64 (21:Int)]) (by simp[results,results32,asAddr,J.out,Result.andThen]) rfl a4
theorem aRh(n:Nat)(xs:List UInt8)(h0:n=0)(y:Array Value)(A:Option Addr)(c:Nat)(w:World)(J:IsB w w.heap.size A n xs)(_hnc:n<=c)(_hcm:c<=maxLen) :
 Cl 11 #[.slice A n c] w fun e w'=>mD 2 y w w' e:=by
 obtain⟨zs,G⟩:=eX pkZ;have L:Hid (Below w.heap.size w (w.alloc (.cells pkZ 48))):=q_ (bC);have N:=q_ (aJ w 48 pkZ);obtain⟨w1,I⟩:=eX (w.alloc (.cells pkZ 48));have ad:w.heap.size<w1.heap.size:=by rw[<-I];simp
 rw[I]at L N;rw[G]at N;unfold pkZ at I;have V:zs.size=23:=G▸bG;have ae:=q_ (J.on L);have t0:((n:Int) == 0)=true:=by rw[fKa];omega
 have W:=q_ L;have X:=q_ N;replace ⟨J,G⟩:=q_2 J G;go_enter func11,ntmps11;go_upto_region 2 with fail
 clear I;apply aWa;refine pS ?_;refine bQ rfl 48 (.tmp 2) (.tmp 8) rfl w.heap.size 0 rfl pkZ rfl X (by rw[V,bG];omega) (by rw[bK,bG]) jF fun j E U=>?_;rw[aQ _ _ (by rw[V,bG])]at E;have Y:=q_ (W.trans (gB U));have O:(loadVar 48 ⟨w.heap.size,0,none⟩).run prog j=.ok (.agg pkZ) j:=by
  simpa using run_loadVar_mid j w.heap.size 0 48 pkZ.toList _ (aM E) cMa rfl (by rw[bK,bUa,bG])
 have Z:Hid (mD 2 y w j (.returned (.tuple #[.agg pkZ,.int .i64 ((2:Nat):Int)]))):=q_ (qW (y:=y) _ (by omega) Y);clear U;replace ⟨E,O⟩:=q_2 E O;refine pS ?_;refine bCa ?_;go_wp2_with fail
 exact aYa (v:=.tuple #[.agg pkZ,.int .i64 ((2:Nat):Int)]) (by simp[results,results11,asAddr,O.out,Result.andThen]) rfl Z
theorem aRg(n:Nat)(xs:List UInt8)(h0:0<n)(hl:n<=9000)(J:(xs.getD 0 0).toNat / 16≠4/\(xs.getD 0 0).toNat / 16≠6)(y:Array Value)(A:Option Addr)(c:Nat)(w:World)(L:IsB w w.heap.size A n xs)(_hnc:n<=c)(_hcm:c<=maxLen) :
 Cl 11 #[.slice A n c] w fun e w'=>mD 10 y w w' e:=by
 obtain⟨zs,G⟩:=eX pkZ;have N:Hid (Below w.heap.size w (w.alloc (.cells pkZ 48))):=q_ (bC);have O:=q_ (aJ w 48 pkZ);obtain⟨w1,I⟩:=eX (w.alloc (.cells pkZ 48));have aj:w.heap.size<w1.heap.size:=by rw[<-I];simp
 rw[I]at N O;rw[G]at O;unfold pkZ at I;have Y:zs.size=23:=G▸bG;have Z:=q_ (L.on N);obtain⟨b,aq,W,rfl,ar,U,au,ag⟩:=Z.byte (i:=0) (by omega);rw[cNa]at ag;rw[U]at J;have t0:((n:Int) == 0)=false:=by rw[bDa];omega
 have t9:¬ (9000:Int)<(n:Int):=by omega
 have t1:(0:Int)<(n:Int):=by omega
 have t2:0<n:=by omega
 have t3:(((W:Int) / 16) == 4)=false:=by rw[bDa];omega
 have t4:(((W:Int) / 16) == 6)=false:=by rw[bDa];omega
 have aa:=q_ N;have ab:=q_ O;replace ⟨L,G,U,J⟩:=q_4 L G U J;go_enter func11,ntmps11;go_upto_region 9 with fail
 clear I;apply aWa;refine pS ?_;refine bQ rfl 48 (.tmp 2) (.tmp 34) rfl w.heap.size 0 rfl pkZ rfl ab (by rw[Y,bG];omega) (by rw[bK,bG]) jF fun j E X=>?_;rw[aQ _ _ (by rw[Y,bG])]at E;have ac:=q_ (aa.trans (gB X));have V:(loadVar 48 ⟨w.heap.size,0,none⟩).run prog j=.ok (.agg pkZ) j:=by
  simpa using run_loadVar_mid j w.heap.size 0 48 pkZ.toList _ (aM E) cMa rfl (by rw[bK,bUa,bG])
 have ad:Hid (mD 10 y w j (.returned (.tuple #[.agg pkZ,.int .i64 ((10:Nat):Int)]))):=q_ (qW (y:=y) _ (by omega) ac);clear X;replace ⟨E,V⟩:=q_2 E V;refine pS ?_;refine bCa ?_;go_wp2_with fail
 exact aYa (v:=.tuple #[.agg pkZ,.int .i64 ((10:Nat):Int)]) (by simp[results,results11,asAddr,V.out,Result.andThen]) rfl ad
theorem aCg(n:Nat)(xs:List UInt8)(h0:0<n)(hl:n<=9000)(U:(xs.getD 0 0).toNat / 16=4)(E:Nat)(y:Array Value)(V:E=0->y.size=23/\y.all (·.oneCell')=true)
 (W:∀(A:Option Addr) (c:Nat) (w:World),IsB w w.heap.size A n xs->n<=c->c<=maxLen->Cl 31 #[.slice A n c] w fun e w'=>mD E y w w' e)
 (A:Option Addr) (c:Nat) (w:World) (X:IsB w w.heap.size A n xs) (aj:n<=c) (ak:c<=maxLen) :
 Cl 11 #[.slice A n c] w fun e w'=>mD E y w w' e:=by
 obtain⟨zs,J⟩:=eX pkZ;have Y:Hid (Below w.heap.size w (w.alloc (.cells pkZ 48))):=q_ (bC);have Z:=q_ (aJ w 48 pkZ);obtain⟨w1,N⟩:=eX (w.alloc (.cells pkZ 48));have am:w.heap.size<w1.heap.size:=by rw[<-N];simp
 rw[N]at Y Z;rw[J]at Z;unfold pkZ at N;have af:zs.size=23:=J▸bG;have ag:=q_ (X.on Y);obtain⟨b,a6,v0,rfl,a7,aa,a8,av⟩:=ag.byte (i:=0) (by omega);rw[cNa]at av;rw[aa]at U;have t0:((n:Int) == 0)=false:=by rw[bDa];omega
 have t9:¬ (9000:Int)<(n:Int):=by omega
 have t1:(0:Int)<(n:Int):=by omega
 have t2:0<n:=by omega
 have t3:(((v0:Int) / 16) == 4)=true:=by rw[fKa];omega
 have an:=q_ (W _ c w1 ag aj ak);replace ⟨X,J,aa,U,W,V⟩:=q_6 X J aa U W V;go_enter func11,ntmps11;go_upto_region 6 with fail
 clear N;apply aWa;refine pS ?_;refine bRa rfl fun K hK=>?_;go_simp;refine an.mono ?_;rintro e w2 ⟨rfl,O⟩;obtain⟨z,L,G,ab⟩:∃z,(if E=0 then y else pkZ)=z/\z.size=23/\z.all (·.oneCell')=true:=by
  by_cases h:E=0
  .exact⟨y,by rw[bBa h],V h⟩
  .exact⟨pkZ,by rw[bAa h],bG,jF⟩
 rw[L];have ao:=q_ ((tw Y O));have ap:=q_ (aC O am Z);have z2:=O.size;clear O;obtain⟨kv,ax⟩:=eX (((E:Nat):Int));have ah:∀(j:World),j.heap[w.heap.size]?=some (.cells z 48 (0,0))->Below w.heap.size w j->(loadVar 48 ⟨w.heap.size,0,none⟩).run prog j=.ok (.agg z) j:=fun j h _=>by
  simpa using run_loadVar_mid j w.heap.size 0 48 z.toList _ (aM h) cMa rfl (by rw[bK,bUa,G])
 clear ax kv;replace ⟨L,ab,ah⟩:=q_3 L ab ah;go_simp;refine hK _ _ ?_;clear hK K;refine pS ?_;refine pS ?_;refine bQ rfl 48 (.tmp 2) (.tmp 22) rfl w.heap.size 0 rfl z rfl ap (by rw[af,G];omega) (by rw[bK,G]) ab fun j I g9=>?_;rw[aQ _ _ (by rw[af,G])]at I;have aq:=q_ (ao.trans (gB g9));have ac:(loadVar 48 ⟨w.heap.size,0,none⟩).run prog j=.ok (.agg z) j:=by
  simpa using run_loadVar_mid j w.heap.size 0 48 z.toList _ (aM I) cMa rfl (by rw[bK,bUa,G])
 have ar:Hid (mD E y w j (.returned (.tuple #[.agg z,.int .i64 ((E:Nat):Int)]))):=q_ (⟨by rw[L.out],aq⟩);clear g9;replace ⟨I,ac⟩:=q_2 I ac;refine pS ?_;refine bCa ?_;go_wp2_with fail
 exact aYa (v:=.tuple #[.agg z,.int .i64 ((E:Nat):Int)]) (by simp[results,results11,asAddr,ac.out,Result.andThen]) rfl ar
theorem aDr(n:Nat)(xs:List UInt8)(h0:0<n)(hl:n<=9000)(U:(xs.getD 0 0).toNat / 16=6)(E:Nat)(y:Array Value)(V:E=0->y.size=23/\y.all (·.oneCell')=true)
 (W:∀(A:Option Addr) (c:Nat) (w:World),IsB w w.heap.size A n xs->n<=c->c<=maxLen->Cl 32 #[.slice A n c] w fun e w'=>mD E y w w' e)
 (A:Option Addr) (c:Nat) (w:World) (X:IsB w w.heap.size A n xs) (ak:n<=c) (al:c<=maxLen) :
 Cl 11 #[.slice A n c] w fun e w'=>mD E y w w' e:=by
 obtain⟨zs,J⟩:=eX pkZ;have Y:Hid (Below w.heap.size w (w.alloc (.cells pkZ 48))):=q_ (bC);have Z:=q_ (aJ w 48 pkZ);obtain⟨w1,N⟩:=eX (w.alloc (.cells pkZ 48));have am:w.heap.size<w1.heap.size:=by rw[<-N];simp
 rw[N]at Y Z;rw[J]at Z;unfold pkZ at N;have ag:zs.size=23:=J▸bG;have ah:=q_ (X.on Y);obtain⟨b,a7,v0,rfl,a8,aa,a9,av⟩:=ah.byte (i:=0) (by omega);rw[cNa]at av;rw[aa]at U;have t0:((n:Int) == 0)=false:=by rw[bDa];omega
 have t9:¬ (9000:Int)<(n:Int):=by omega
 have t1:(0:Int)<(n:Int):=by omega
 have t2:0<n:=by omega
 have t3:(((v0:Int) / 16) == 4)=false:=by rw[bDa];omega
 have t4:(((v0:Int) / 16) == 6)=true:=by rw[fKa];omega
 have an:=q_ (W _ c w1 ah ak al);replace ⟨X,J,aa,U,W,V⟩:=q_6 X J aa U W V;go_enter func11,ntmps11;go_upto_region 8 with fail
 clear N;apply aWa;refine pS ?_;refine bRa rfl fun K hK=>?_;go_simp;refine an.mono ?_;rintro e w2 ⟨rfl,O⟩;obtain⟨z,L,G,ab⟩:∃z,(if E=0 then y else pkZ)=z/\z.size=23/\z.all (·.oneCell')=true:=by
  by_cases h:E=0
  .exact⟨y,by rw[bBa h],V h⟩
  .exact⟨pkZ,by rw[bAa h],bG,jF⟩
 rw[L];have ao:=q_ ((tw Y O));have ap:=q_ (aC O am Z);have z2:=O.size;clear O;obtain⟨kv,ax⟩:=eX (((E:Nat):Int));have ai:∀(j:World),j.heap[w.heap.size]?=some (.cells z 48 (0,0))->Below w.heap.size w j->(loadVar 48 ⟨w.heap.size,0,none⟩).run prog j=.ok (.agg z) j:=fun j h _=>by
  simpa using run_loadVar_mid j w.heap.size 0 48 z.toList _ (aM h) cMa rfl (by rw[bK,bUa,G])
 clear ax kv;replace ⟨L,ab,ai⟩:=q_3 L ab ai;go_simp;refine hK _ _ ?_;clear hK K;refine pS ?_;refine pS ?_;refine bQ rfl 48 (.tmp 2) (.tmp 32) rfl w.heap.size 0 rfl z rfl ap (by rw[ag,G];omega) (by rw[bK,G]) ab fun j I g9=>?_;rw[aQ _ _ (by rw[ag,G])]at I;have aq:=q_ (ao.trans (gB g9));have ac:(loadVar 48 ⟨w.heap.size,0,none⟩).run prog j=.ok (.agg z) j:=by
  simpa using run_loadVar_mid j w.heap.size 0 48 z.toList _ (aM I) cMa rfl (by rw[bK,bUa,G])
 have ar:Hid (mD E y w j (.returned (.tuple #[.agg z,.int .i64 ((E:Nat):Int)]))):=q_ (⟨by rw[L.out],aq⟩);clear g9;replace ⟨I,ac⟩:=q_2 I ac;refine pS ?_;refine bCa ?_;go_wp2_with fail
 exact aYa (v:=.tuple #[.agg z,.int .i64 ((E:Nat):Int)]) (by simp[results,results11,asAddr,ac.out,Result.andThen]) rfl ar
theorem aTs(n:Nat)(xs:List UInt8)(K J id:Nat)(L N:Bool)(O V W X Y Z m1:Nat)(rest:List UInt8)(hK:K≠0)(j:uX n xs K J id L N O V W X Y Z m1 rest)(U:List UInt8)(A:Option Addr)(c:Nat)(w:World)(E:IsB w w.heap.size A n xs)(ae:n<=c)(af:c<=maxLen) :
 Cl 126 #[.slice A n c] w fun e w'=>dE K U w w' e:=by
 have t1:((K:Int) != 0)=true:=by rw[dLa];omega
 replace ⟨E,j⟩:=q_2 E j;go_enter func126,ntmps126;go_wp2_with fail
 refine(j _ c _ E ae af).mono ?_;rintro e G ⟨A1,c1,A2,c2,rfl,hr,ao,ap,I⟩;obtain⟨wa,ab⟩:=eX (G.alloc (dS J id L N O V W false 0 X false 0 Y A1 Z c1));have hB:=I.trans ((ab▸bC:Below G.heap.size G wa).mono I.size);have ag:=q_ (dE.no U hK hB);unfold dS at ab;unfold fE;clear hr I hB;go_wp2_with fail
 go_ret2;exact ag
theorem aTt(n:Nat)(xs:List UInt8)(G id:Nat)(I J:Bool)(L j N O V W m1:Nat)(rest:List UInt8)(X:uX n xs 0 G id I J L j N O V W m1 rest)(ht:j<2)(U:List UInt8)(A:Option Addr)(c:Nat)(w:World)(Y:IsB w w.heap.size A n xs)(ag:n<=c)(ah:c<=maxLen) :
 Cl 126 #[.slice A n c] w fun e w'=>dE 20 U w w' e:=by
 replace ⟨Y,X⟩:=q_2 Y X;go_enter func126,ntmps126;go_wp2_with fail
 refine(X _ c _ Y ag ah).mono ?_;rintro e E ⟨A1,c1,A2,c2,rfl,hr,ap,aq,ab⟩;obtain⟨wa,aa⟩:=eX (E.alloc (dS G id I J L j N false 0 O false 0 V A1 W c1));have Z:=aa▸aJ E 167 #[.int .i64 G,.int .i64 id,.bool I,.bool J,.int .i64 L,.int .i64 j,.int .i64 N,.bool false,.int .u64 0,.int .u64 O,.bool false,.int .u64 0,.int .u64 V,.slice A1 W c1];have hB:=ab.trans ((aa▸bC:Below E.heap.size E wa).mono ab.size);have ai:=q_ (dE.no U (show 20≠0 by decide) hB);have am:=aA Z;unfold dS at aa;unfold fE;clear hr ab hB;replace Z:=q_ Z;go_wp2_with fail
 go_ret2;exact ai
theorem aTu(n:Nat)(xs:List UInt8)(ad id:Nat)(df mf:Bool)(ag U ah ai aj J m1:Nat)(rest:List UInt8)(hS:uX n xs 0 ad id df mf ag U ah ai aj J m1 rest)(ht:2<=U)(T:Nat)(V:20+J+m1=T)(b4:T<=n)(hn:n<=65535)(h8:1<=(xs.getD 8 0).toNat)
 (A:Option Addr) (c:Nat) (w:World) (W:IsB w w.heap.size A n xs) (bl:n<=c) (bn:c<=maxLen) :
 Cl 126 #[.slice A n c] w fun e w'=>dE 0 (jM xs T) w w' e:=by
 replace ⟨W,hS⟩:=q_2 W hS;go_enter func126,ntmps126;go_wp2_with fail
 refine(hS _ c _ W bl bn).mono ?_;rintro e w2 ⟨A1,c1,A2,c2,rfl,hr,ci,cj,a5⟩;obtain⟨wa,ar⟩:=eX (w2.alloc (dS ad id df mf ag U ah false 0 ai false 0 aj A1 J c1));have a9:Below w2.heap.size w2 wa:=ar▸bC;have ba:=ar▸aJ w2 167 #[.int .i64 ad,.int .i64 id,.bool df,.bool mf,.int .i64 ag,.int .i64 U,.int .i64 ah,.bool false,.int .u64 0,.int .u64 ai,.bool false,.int .u64 0,.int .u64 aj,.slice A1 J c1];have j:=a5.trans (a9.mono a5.size);have bo:=aA ba;unfold dS at ar;unfold fE;clear hr a9 a5 ba;have b1:J<=65535:=by omega
 have b2:m1<=65535:=by omega
 replace ⟨V,j⟩:=q_2 V j;go_wp2_with fail
 clear ar bo;refine(uB ad id df mf ag U ah false 0 ai false 0 aj A1 J c1 _ (by omega)).mono ?_;rintro e E ⟨rfl,bj⟩;replace j:=q_ (j.trans (bj.mono j.size));clear bj;have z3:=j.size;obtain⟨w4,bw,al,bg⟩:=aR1 T (by have:=V.out;omega) E;have s1:20+(J:Int)+(m1:Int)=(T:Int):=by have:=V.out;omega
 replace j:=q_ (j.trans (bg.mono j.size));clear bg;replace al:=q_ al;go_upto_region 7 with fail
 clear s1 bw;apply aWa;iterate 2 refine pS ?_
 have bd:=W.out.1;have bq:20<=T:=by have:=V.out;omega
 refine aSy rfl (.tmp 30) (.tmp 31) rfl E.heap.size E.heap.size T T 0 T T n c w4.heap.size T A (List.replicate T 0) xs rfl rfl al (W.on j) (by omega) (by omega) (by omega) fun w5 X a8=>?_;rw[aSf _ _ (by rw[dCa,bGa];omega)]at X;replace j:=q_ (j.trans (a8.mono z3));clear al a8;refine bCa ?_;have am:=X.reads.2.2.2;obtain⟨G,aq,cd,bh⟩:=am.uZ (i:=8) (by omega);rw[getD_take xs T 8 (by omega)]at aq;rw[dWa]at bh;have br:1<=G:=by omega
 obtain⟨g,ce,bx,bz,bi,-⟩:=X.row (by omega)
 cases bx
 have bs:=bD bi 8;have L:=X.store 8 (UInt8.ofNat (G - 1));rw[rG (G - 1) (by omega)]at L;rw[show(((G - 1:Nat):Int))=(G:Int) - 1 by omega]at L;obtain⟨w6,a2⟩:∃w6,w5.setCell ⟨E.heap.size,8,none⟩ (.int .u8 ((G:Int) - 1))=w6:=⟨_,rfl⟩
 have be:w5.grownBy w6 (some E.heap.size):=a2▸fG (dR _ _) rfl _;have Y:=j.trans (below_grown be (j.size) z3);rw[a2]at L;have N:=L.reads.2.2.2;obtain⟨I,O⟩:∃I,(xs.take T).set 8 (UInt8.ofNat (G - 1))=I:=⟨_,rfl⟩
 rw[O]at L N;obtain⟨m,Z⟩:=eX (beN (xs.take T) 8 2);obtain⟨m',ab⟩:∃m,beN I 8 2=m:=⟨_,rfl⟩
 obtain⟨c0,aa⟩:∃m,beN I 10 2=m:=⟨_,rfl⟩
 obtain⟨c',ac⟩:∃q,rZ c0 m m'=q:=⟨_,rfl⟩
 have bm:m<65536:=Z▸bX _ 8 2;have bm':m'<65536:=ab▸bX _ 8 2;have bc:c0<65536:=aa▸bX _ 10 2;have bc':c'<=65535:=ac▸aGc _ _ _;have a0:dJ I 10 (beB c' 2)=jM xs T:=by
  have:=aTy xs T G bq (by omega) aq br m m' c0 c' Z (O▸ab) (O▸aa) ac
  rwa[O]at this
 have i8:(8:Int)<(T:Int):=by omega
 have an:=fun w'=>fB 8 2 8 2 rfl rfl (some ⟨E.heap.size,0,none⟩) T T (xs.take T) w'
 have ao:=fun w'=>fB 8 2 8 2 rfl rfl (some ⟨E.heap.size,0,none⟩) T T I w'
 have ap:=fun w'=>fB 10 2 10 2 rfl rfl (some ⟨E.heap.size,0,none⟩) T T I w'
 rw[Z]at an;rw[ab]at ao;rw[aa]at ap;have a1:T<=maxLen:=by unfold maxLen;omega
 clear bi bz be X;replace ⟨aq,O,Z,ab,aa,ac,a0,L,am,N,Y,an⟩:=q_12 aq O Z ab aa ac a0 L am N Y an;replace ⟨ao,ap,bd⟩:=q_3 ao ap bd;go_wp2_with fail
 refine(an _ am a1 (by omega) (by omega)).mono ?_;rintro e w' ⟨rfl,rfl⟩;go_wp2_with fail
 clear bh bs a2;refine(ap _ N a1 (by omega) (by omega)).mono ?_;rintro e w' ⟨rfl,rfl⟩;go_wp2_with fail
 refine(ao _ N a1 (by omega) (by omega)).mono ?_;rintro e w' ⟨rfl,rfl⟩;go_wp2_with fail
 refine(aEg c0 m m' _ (by omega) (by omega) (by omega)).mono ?_;rintro e w' ⟨rfl,rfl⟩;rw[ac.out];go_wp2_with fail
 refine(aCb (some ⟨E.heap.size,0,none⟩) T T I 10 c' 2 _ _ _ rfl rfl rfl _ N (by omega) (by omega) (by omega) (by omega) (by omega)).mono ?_;rintro e w7 ⟨v7,rfl,a6,bk⟩;rw[a0.out]at a6;have bf:=Y.trans (bk.mono Y.size);have bt:=q_ (dE.yes (a6.weaken Y.size) bf);clear a6 bk bf;go_wp2_with fail
 go_ret2;exact bt
theorem aTv(n:Nat)(xs:List UInt8)(K:Nat)(E G I:Int)(J:Bool)(L N:Int)(O:Bool)(V W:Int)(ad:List (Int×List UInt8))(Y m1:Nat)(rest:List UInt8)(Z:yA n xs K E G I J L N O V W ad Y m1 rest)(hK:K≠0)(ae:∀e∈ad,e.2.length<=2047)(U:List UInt8)(A:Option Addr)(c:Nat)(w:World)(hx:IsB w w.heap.size A n xs)(al:n<=c)(am:c<=maxLen) :
 Cl 127 #[.slice A n c] w fun e w'=>dE K U w w' e:=by
 have t1:((K:Int) != 0)=true:=by rw[dLa];omega
 replace ⟨hx,Z,ae⟩:=q_3 hx Z ae;go_enter func127,ntmps127;go_wp2_with fail
 refine(Z _ c _ hx al am).mono ?_;rintro e j ⟨X,m,xc,A2,c2,es,rfl,aq,hX,az,a0,hr,a1,a2,ac⟩;obtain⟨wa,ab⟩:=eX (j.alloc (bS E G I J L N O V W X m xc Y));have af:Below j.heap.size j wa:=ab▸bC;have ag:=ab▸aJ j 164 #[.int .i64 E,.int .i64 G,.int .i64 I,.bool J,.int .u64 L,.int .u64 N,.bool O,.int .u64 V,.int .u64 W,.slice X m xc,.int .i64 Y];have hB:=ac.trans (af.mono ac.size);have an:=aA ag;unfold bS at ab;have ao:=q_ (dE.no U hK hB);clear hr ac hB hX aq an ag af;go_wp2_with fail
 go_ret2;exact ao
theorem aTw(n:Nat)(xs:List UInt8)(G I j:Int)(J:Bool)(L N:Int)(O:Bool)(V W:Int)(ad:List (Int×List UInt8))(Y m1:Nat)(rest:List UInt8)(Z:yA n xs 0 G I j J L N O V W ad Y m1 rest)(ht:j<2)(ae:∀e∈ad,e.2.length<=2047)(U:List UInt8)(A:Option Addr)(c:Nat)(w:World)(hx:IsB w w.heap.size A n xs)(ak:n<=c)(al:c<=maxLen) :
 Cl 127 #[.slice A n c] w fun e w'=>dE 20 U w w' e:=by
 replace ⟨hx,Z,ae⟩:=q_3 hx Z ae;go_enter func127,ntmps127;go_wp2_with fail
 refine(Z _ c _ hx ak al).mono ?_;rintro e E ⟨X,m,xc,A2,c2,es,rfl,ao,hX,ay,az,hr,a0,a1,ac⟩;obtain⟨wa,ab⟩:=eX (E.alloc (bS G I j J L N O V W X m xc Y));have af:Below E.heap.size E wa:=ab▸bC;have ag:=ab▸aJ E 164 #[.int .i64 G,.int .i64 I,.int .i64 j,.bool J,.int .u64 L,.int .u64 N,.bool O,.int .u64 V,.int .u64 W,.slice X m xc,.int .i64 Y];have hB:=ac.trans (af.mono ac.size);have au:=aA ag;unfold bS at ab;have am:=q_ (dE.no U (show 20≠0 by decide) hB);clear hr ac hB hX ao ag af;go_wp2_with fail
 go_ret2;exact am
theorem aTx(n:Nat)(xs:List UInt8)(V W J:Int)(Y:Bool)(Z sl:Int)(b2:Bool)(dh dl:Int)(ae:List (Int×List UInt8))(nx L:Nat)(rest:List UInt8)(hS:yA n xs 0 V W J Y Z sl b2 dh dl ae nx L rest)(ht:2<=J)(bd:ae.length<=8)(an:∀e∈ae,e.2.length<=2047)(T:Nat)(hT:40+nK ae+L=T)(be:T<=n)(hn:n<=65535)(h7:1<=(xs.getD 7 0).toNat)
 (A:Option Addr) (c:Nat) (w:World) (N:IsB w w.heap.size A n xs) (bf:n<=c) (bg:c<=maxLen) :
 Cl 127 #[.slice A n c] w fun e w'=>dE 0 (jQ xs T) w w' e:=by
 replace ⟨N,hS,an⟩:=q_3 N hS an;go_enter func127,ntmps127;go_wp2_with fail
 refine(hS _ c _ N bf bg).mono ?_;rintro e w2 ⟨X,m,xc,A2,c2,es,rfl,O,hX,ca,cc,hr,cd,ce,az⟩;obtain⟨wa,aj⟩:=eX (w2.alloc (bS V W J Y Z sl b2 dh dl X m xc nx));have aq:Below w2.heap.size w2 wa:=aj▸bC;have a1:=aj▸aJ w2 164 #[.int .i64 V,.int .i64 W,.int .i64 J,.bool Y,.int .u64 Z,.int .u64 sl,.bool b2,.int .u64 dh,.int .u64 dl,.slice X m xc,.int .i64 nx];have j:=az.trans (aq.mono az.size);have bi:=aA a1;unfold bS at aj;have ar:=hX.on aq;have bj:m<=8:=by rw[<-hX.1,<-rU,O];exact bd
 have au:∀e∈es,e.xs.length<=2047:=fun e he=>an (Ext.pe e) (O▸(List.mem_map_of_mem he:Ext.pe e∈pes es))
 obtain⟨G,ag⟩:∃G,40+xR es=G:=⟨_,rfl⟩
 have a2:G+L=T:=by rw[<-ag,aAt,O];exact hT
 have bt:40<=T:=by omega
 have bk:=q_ N.1;clear hr aq az a1;replace ⟨hT,O,au,ag,hX,ar,j⟩:=q_7 hT O au ag hX ar j;have s1:(G:Int)+(L:Int)=(T:Int):=by omega
 have l1:(T:Int)<=(c:Int):=by omega
 have b1':G<=65535:=by omega
 have b2':L<=65535:=by omega
 replace a2:=q_ a2;go_wp2_with fail
 clear aj bi;refine(vD V W J Y Z sl b2 dh dl X m xc nx es _ ar bj au G ag).mono ?_;rintro e w3 ⟨rfl,ba⟩;replace j:=q_ (j.trans (ba.mono j.size));clear ba;have a3:=(N.on j).take (m:=T) be;have z3:=j.size;go_wp2_with (at_builtin;refine sD rfl _ (.tmp 28) rfl w3.heap.size (.slice none 0 0) [] (xs.take T) A T c w3.heap.size rfl rfl (aZ.nil _ _) a3 (aZa _) ?_ ?_)
 ·simp;omega
 intro v4 w4 U bc;have a4:=bc.qG;obtain⟨A4,c4,rfl,bm,b5,ax⟩:=U.form;have tl:(xs.take T).length=T:=by rw[bGa,bk.out];omega
 rw[tl]at U ax bm ⊢;replace j:=q_ (j.trans (a4.mono j.size));clear a4;clear bc;obtain⟨g,b6,rfl,bn,a8,-⟩:=U.row (by omega);obtain⟨E,ai,b7,bo⟩:=ax.uZ (i:=7) (by omega);rw[getD_take xs T 7 (by omega)]at ai;rw[dWa]at bo;have bx:=bD a8 7;have I:=U.store 7 (UInt8.ofNat (E - 1));rw[rG (E - 1) (by omega)]at I;rw[show(((E - 1:Nat):Int))=(E:Int) - 1 by omega]at I;obtain⟨w5,a9⟩:∃w5,w4.setCell ⟨g,7,none⟩ (.int .u8 ((E:Int) - 1))=w5:=⟨_,rfl⟩
 have a5:w4.grownBy w5 (some g):=a9▸fG (dR _ _) rfl _;have a6:=j.trans (below_grown a5 (j.size) (by omega));rw[a9]at I;have hY:(xs.take T).set 7 (UInt8.ofNat (E - 1))=jQ xs T:=by unfold jQ;rw[ai]
 rw[hY]at I;have aw:=dE.yes (I.weaken (show w.heap.size<=w3.heap.size by omega)) a6;have i7:(7:Int)<(T:Int):=by omega
 have b0:1<=E:=by omega
 clear I a5 a6 hY U ax a8 bn a3;replace ⟨aw,ai,tl⟩:=q_3 aw ai tl;go_wp2_with fail
 go_ret2;exact aw
theorem uC(n:Nat)(xs:List UInt8)(K:Nat)(U:List UInt8)(A:Option Addr)(c:Nat)(w:World)(j:IsB w w.heap.size A n xs)(ah:n<=c)(ai:c<=maxLen)
 (Y:n=0->K=2) (E:0<n->(xs.getD 0 0).toNat / 16=4->∀w':World,IsB w' w'.heap.size A n xs->Cl 126 #[.slice A n c] w' fun e ab=>dE K U w' ab e)
 (G:0<n->(xs.getD 0 0).toNat / 16=6->∀w':World,IsB w' w'.heap.size A n xs->Cl 127 #[.slice A n c] w' fun e ab=>dE K U w' ab e)
 (I:0<n->(xs.getD 0 0).toNat / 16≠4->(xs.getD 0 0).toNat / 16≠6->K=10) :
 Cl 85 #[.slice A n c] w fun e w'=>dE K U w w' e:=by
 by_cases L:n=0
 ·subst L;obtain rfl:=Y rfl;have ac:=q_ (dE.no U (show 2≠0 by decide) (bLa w.heap.size w));replace ⟨j,E,G,I⟩:=q_4 j E G I;go_enter func85,ntmps85;go_wp2_with fail
  go_ret2;exact ac
 have Z:0<n:=by omega
 obtain⟨b,al,W,rfl,am,J,an,af⟩:=j.byte (i:=0) Z;rw[cNa]at af;rw[J]at E G I;have t2:(0:Int)<(n:Int):=by omega
 have t3:((n:Int) == 0)=false:=by rw[bDa];omega
 by_cases X:W / 16=4
 ·have t1:(((W:Int) / 16) == 4)=true:=by rw[fKa];omega
  replace E:=E Z X;clear Y G I X;replace ⟨j,E,J,L⟩:=q_4 j E J L;go_enter func85,ntmps85;go_wp2_with fail
  refine(E _ j).mono ?_;rintro e w2 ⟨v,rfl,N,O,V⟩;replace ⟨N,O,V⟩:=q_3 N O V;go_wp2_with fail
  go_ret2;exact⟨v,rfl,N,O,V⟩
 have t1:(((W:Int) / 16) == 4)=false:=by rw[bDa];omega
 by_cases k6:W / 16=6
 ·have t4:(((W:Int) / 16) == 6)=true:=by rw[fKa];omega
  replace G:=G Z k6;clear Y E I X k6;replace ⟨j,G,J,L⟩:=q_4 j G J L;go_enter func85,ntmps85;go_wp2_with fail
  refine(G _ j).mono ?_;rintro e w2 ⟨v,rfl,N,O,V⟩;replace ⟨N,O,V⟩:=q_3 N O V;go_wp2_with fail
  go_ret2;exact⟨v,rfl,N,O,V⟩
 ·have t4:(((W:Int) / 16) == 6)=false:=by rw[bDa];omega
  obtain rfl:=I Z X k6;have ac:=q_ (dE.no U (show 10≠0 by decide) (bLa w.heap.size w));clear Y E G I X k6;replace ⟨j,J,L⟩:=q_3 j J L;go_enter func85,ntmps85;go_wp2_with fail
  go_ret2;exact ac
def aBh (n:Nat) (xs:List UInt8) (sv:Bool) (shi slo:Int) (dv:Bool) (dhi dlo:Int):Nat :=
 if vC n xs≠0 then vC n xs else if sv≠dv\/okA sv shi slo=false\/okA dv dhi dlo=false then 18 else 0
theorem wrap_no(j:Bool)(G I:Int)(E:Bool)(J L:Int)(A:Option Addr)(n c:Nat)(xs:List UInt8)(w:World)(hx:IsB w w.heap.size A n xs)(hn:n<=4096)(K:Nat)(N:aBh n xs j G I E J L=K)(al:K≠0) :
 Cl 87 #[vJ j G I,vJ E J L,.slice A n c] w fun e w'=>e=.returned (.tuple #[.slice none 0 0,.int .i64 (K:Int)])/\Below w.heap.size w w':=by
 obtain⟨w1,U⟩:=eX ((w.alloc (.cells #[.bool j,.int .u64 G,.int .u64 I] 27)).alloc (.cells #[.bool E,.int .u64 J,.int .u64 L] 27));have V:Hid (Below w.heap.size w w1):=q_ (U▸bC.alloc (by simp) _);have am:Hid (w1.heap[w.heap.size]?=some (.cells #[.bool j,.int .u64 G,.int .u64 I] 27 (0,0))):=q_ (U▸kE _ (by simp) (aJ _ _ _));have aj:Hid (w1.heap[w.heap.size+1]?=some (.cells #[.bool E,.int .u64 J,.int .u64 L] 27 (0,0))):=q_ (U▸(by simpa using aJ (w.alloc (.cells #[.bool j,.int .u64 G,.int .u64 I] 27)) 27 #[.bool E,.int .u64 J,.int .u64 L]));have an:w.heap.size+1<w1.heap.size:=by rw[<-U];simp
 have ab:=q_ (hx.on V);have ao:=aA am;have ag:=aA aj;obtain⟨p,Y⟩:=eX (yP xs);obtain⟨k,W⟩:=eX (vC n xs);unfold aBh at N;rw[W]at N;have ac:n<=maxLen:=by unfold maxLen;omega
 replace ⟨hx,Y,W⟩:=q_3 hx Y W;unfold vJ;by_cases ai:k≠0
 .rw[bBa ai]at N;subst N;have t1:((k:Int) != 0)=true:=by rw[dLa];omega
  go_enter func87,ntmps87;go_wp2_with fail
  refine(vZ A n c xs _ ab ac p k Y W).mono ?_;rintro e w' ⟨rfl,rfl⟩;clear U;go_wp2_with fail
  go_ret2;exact⟨rfl,V⟩
 rw[bAa ai]at N;have t1:((k:Int) != 0)=false:=by rw[dQa];omega
 have O:j≠E\/okA j G I=false\/okA E J L=false:=by
  by_cases h:j≠E\/okA j G I=false\/okA E J L=false
  .exact h
  .rw[bAa h]at N;exact absurd N.symm al
 obtain rfl:K=18:=by rw[<-N,bBa O]
 clear N ai;by_cases Z:j≠E
 .have t2:(j != E)=true:=by rw[dLa];exact Z
  replace ⟨O,Z⟩:=q_2 O Z;go_enter func87,ntmps87;go_wp2_with fail
  refine(vZ A n c xs _ ab ac p k Y W).mono ?_;rintro e w' ⟨rfl,rfl⟩;clear U;go_wp2_with fail
  go_ret2;exact⟨rfl,V⟩
 obtain rfl:j=E:=by simpa using Z
 rcases X:okA j G I with _|_
 .replace ⟨O,X⟩:=q_2 O X;clear Z;go_enter func87,ntmps87;go_wp2_with fail
  refine(vZ A n c xs _ ab ac p k Y W).mono ?_;rintro e w' ⟨rfl,rfl⟩;clear U;go_wp2_with fail
  refine(jB j G I false _ X).mono ?_;rintro e w2 ⟨rfl,aa⟩;have ad:=q_ (V.trans (aa.mono V.size));clear aa;go_wp2_with fail
  go_ret2;exact⟨rfl,ad⟩
 .have hd:okA j J L=false:=by
   rcases O with h|h|h
   .exact absurd rfl h
   .rw[X]at h;cases h
   .exact h
  replace ⟨O,X,hd⟩:=q_3 O X hd;clear Z;go_enter func87,ntmps87;go_wp2_with fail
  refine(vZ A n c xs _ ab ac p k Y W).mono ?_;rintro e w' ⟨rfl,rfl⟩;clear U;go_wp2_with fail
  refine(jB j G I true _ X).mono ?_;rintro e w2 ⟨rfl,aa⟩;have aq:=q_ (aC aa an aj);have ad:=q_ (V.trans (aa.mono V.size));clear aa ao ag;have ag:=aA aq;go_wp2_with fail
  refine(jB j J L false _ hd).mono ?_;rintro e w3 ⟨rfl,ak⟩;have ar:=q_ (ad.trans (ak.mono ad.size));clear ak ag;go_wp2_with fail
  go_ret2;exact⟨rfl,ar⟩
theorem aWq(j E G I:Nat)(A:Option Addr)(n c:Nat)(xs:List UInt8)(w:World)(W:IsB w w.heap.size A n xs)(hn:n<=4096)(an:n<=c)(ao:c<=maxLen)(p:Nat)(X:yP xs=p)(Y:vC n xs=0)
 (b5:j<18446744073709551616) (b6:E<18446744073709551616) (b7:G<18446744073709551616) (b8:I<18446744073709551616) (Z:p=4\/p=41) :
 Cl 87 #[vJ true j E,vJ true G I,.slice A n c] w fun e w'=>∃v,e=.returned (.tuple #[v,.int .i64 0])/\aZ w' w.heap.size v (aAy 0 0 64 j E G I p [] xs)/\Below w.heap.size w w':=by
 obtain⟨V,O⟩:=eX ((w.alloc (.cells #[.bool true,.int .u64 j,.int .u64 E] 27)).alloc (.cells #[.bool true,.int .u64 G,.int .u64 I] 27));have ab:Hid (Below w.heap.size w V):=q_ (O▸bC.alloc (by simp) _);have ae:Hid (V.heap[w.heap.size]?=some (.cells #[.bool true,.int .u64 j,.int .u64 E] 27 (0,0))):=q_ (O▸kE _ (by simp) (aJ _ _ _));have af:Hid (V.heap[w.heap.size+1]?=some (.cells #[.bool true,.int .u64 G,.int .u64 I] 27 (0,0))):=q_ (O▸(by simpa using aJ (w.alloc (.cells #[.bool true,.int .u64 j,.int .u64 E] 27)) 27 #[.bool true,.int .u64 G,.int .u64 I]));have av:w.heap.size+1<V.heap.size:=by rw[<-O];simp
 have ag:=q_ (W.on ab);have L:=aA ae;have N:=aA af;have aw:n<=maxLen:=by unfold maxLen;omega
 have ax:p<=255:=by omega
 have ac:sS 0 0 64 true true p (pes [])=true:=by
  rcases Z with rfl|rfl<;>decide
 replace ⟨W,X,Y,Z,ac⟩:=q_5 W X Y Z ac;unfold vJ;go_enter func87,ntmps87;go_wp2_with fail
 refine(vZ A n c xs _ ag aw p 0 X Y).mono ?_;rintro e w' ⟨rfl,rfl⟩;clear O;go_wp2_with fail
 refine(jB true j E true _ rfl).mono ?_;rintro e w2 ⟨rfl,J⟩;have ah:=q_ (kB J ae);have ai:=q_ (aC J av af);have aj:=q_ (ab.trans (J.mono ab.size));have ay:w.heap.size+1<w2.heap.size:=by have:=J.size;omega
 have az:=q_ (ag.on J);clear J L N;have L:=aA ah;have N:=aA ai;go_wp2_with fail
 refine(jB true G I true _ rfl).mono ?_;rintro e w3 ⟨rfl,U⟩;have a0:=q_ (kB U ah);have a1:=q_ (aC U ay ai);have ad:=q_ (aj.trans (U.mono aj.size));have a2:=q_ (az.on U);clear U L N;have L:=aA a0;have N:=aA a1;go_wp2_with fail
 refine(aJ2 0 0 64 true j E true G I none 0 0 p [] A n c xs _ (IsX.nil _ _ _) (by omega) (by unfold maxLen;omega) a2 an ao rfl rfl (by omega) (by omega) (by omega) ax b5 b6 b7 b8 (by omega) hn (fun e he=>by cases he) (fun e he=>by cases he) ac).mono ?_;rintro e w4 ⟨v,rfl,ak,al⟩;have a3:=q_ (ad.trans (al.mono ad.size));have a4:=q_ (ak.weaken ad.size);clear al ak L N;go_wp2_with fail
 go_ret2;exact⟨_,rfl,a4,a3⟩
theorem aVe(j E:Nat)(A:Option Addr)(n c:Nat)(xs:List UInt8)(w:World)(U:IsB w w.heap.size A n xs)(hn:n<=4096)(p:Nat)(V:yP xs=p)(W:vC n xs=0)
 (b6:j<4294967296) (b8:E<4294967296) (Z:p=4\/p=41) :
 Cl 87 #[vJ false 0 j,vJ false 0 E,.slice A n c] w fun e w'=>∃v,e=.returned (.tuple #[v,.int .i64 0])/\aZ w' w.heap.size v (hdB 0 0 16384 64 p j E [] n++xs)/\Below w.heap.size w w':=by
 obtain⟨O,L⟩:=eX ((w.alloc (.cells #[.bool false,.int .u64 0,.int .u64 j] 27)).alloc (.cells #[.bool false,.int .u64 0,.int .u64 E] 27));have X:Hid (Below w.heap.size w O):=q_ (L▸bC.alloc (by simp) _);have aa:Hid (O.heap[w.heap.size]?=some (.cells #[.bool false,.int .u64 0,.int .u64 j] 27 (0,0))):=q_ (L▸kE _ (by simp) (aJ _ _ _));have ab:Hid (O.heap[w.heap.size+1]?=some (.cells #[.bool false,.int .u64 0,.int .u64 E] 27 (0,0))):=q_ (L▸(by simpa using aJ (w.alloc (.cells #[.bool false,.int .u64 0,.int .u64 j] 27)) 27 #[.bool false,.int .u64 0,.int .u64 E]));have ak:w.heap.size+1<O.heap.size:=by rw[<-L];simp
 have ac:=q_ (U.on X);have I:=aA aa;have J:=aA ab;have al:n<=maxLen:=by unfold maxLen;omega
 have am:p<=255:=by omega
 have an:Hid (okA false 0 j=true):=q_ (by simp[okA];omega);have ao:Hid (okA false 0 E=true):=q_ (by simp[okA];omega);replace ⟨U,V,W,Z⟩:=q_4 U V W Z;unfold vJ;go_enter func87,ntmps87;go_wp2_with fail
 refine(vZ A n c xs _ ac al p 0 V W).mono ?_;rintro e w' ⟨rfl,rfl⟩;clear L;go_wp2_with fail
 refine(jB false 0 j true _ an).mono ?_;rintro e w2 ⟨rfl,G⟩;have ad:=q_ (kB G aa);have ae:=q_ (aC G ak ab);have af:=q_ (X.trans (G.mono X.size));have ap:w.heap.size+1<w2.heap.size:=by have:=G.size;omega
 have aq:=q_ (ac.on G);clear G I J;have I:=aA ad;have J:=aA ae;go_wp2_with fail
 refine(jB false 0 E true _ ao).mono ?_;rintro e w3 ⟨rfl,N⟩;have ar:=q_ (kB N ad);have au:=q_ (aC N ap ae);have Y:=q_ (af.trans (N.mono af.size));have av:=q_ (aq.on N);clear N I J;have I:=aA ar;have J:=aA au;go_wp2_with fail
 refine(aBw 0 0 true false 0 64 p j E 16384 rfl none 0 0 [] A n c xs _ (by omega) (by omega) (by omega) (by omega) am b6 b8 (by omega) (by omega) (IsB.nil _ _ _) av (by omega)).mono ?_;rintro e w4 ⟨v,rfl,ag,ah⟩;have aw:=q_ (Y.trans (ah.mono Y.size));have ax:=q_ (ag.weaken Y.size);clear ah ag I J;go_wp2_with fail
 go_ret2;exact⟨_,rfl,ax,aw⟩
theorem pcut_as(A:Option Addr)(n c j:Nat)(w:World)(E:n<=maxLen)(G:n<=c)(I:min n 500=j) :
 Cl 10 #[.slice A n c] w fun e w'=>e=.returned (.slice A j c)/\w=w':=by
 unfold maxLen at E;by_cases h:500<n
 .obtain rfl:j=500:=by omega
  go_enter func10,ntmps10;go_wp2;go_ret;exact⟨rfl,rfl⟩
 .obtain rfl:j=n:=by omega
  go_enter func10,ntmps10;go_wp2;go_ret;exact⟨rfl,rfl⟩
theorem aXz(p E G n:Nat)(xs j:List UInt8)(I:xs.length=n)(O:n<=4096)(U:p<=255)(V:E<4294967296)(X:G<4294967296)(J:hdB 0 0 16384 64 p E G [] n++xs=j) :
 uX (20+n) j 0 0 0 true false 0 64 p E G 0 n xs/\j.length=20+n/\(j.getD 0 0).toNat / 16=4:=by
 obtain⟨k1,k2,k3,k4,k5,k6,k7,k8,k9,ai,aj,ak,av,al,aw⟩:=aVx 0 0 16384 64 p E G [] xs [] 0 n rfl I (by omega) (by omega) (by omega) (by omega) U V X (by omega) (by omega) O j (by rw[ePa];exact J);have hl:j.length=20+n:=by rw[<-J,bHa,aCw,I];rfl
 refine⟨fun A c W Y Z _=>?_,hl,k1⟩;refine(aLr A (20+n) c j W Y Z (by omega) (by omega) k1 20 k2 (by omega) (by omega) k4 (by omega) (by omega) k5).mono ?_;rintro e w' ⟨A1,c1,A2,c2,rfl,_,_,_,i4,i5⟩;obtain⟨_,r1,r2,N⟩:=i4.reads;have ab:(j.take (beN j 2 2)).drop 20=xs:=by rw[k3];exact al
 have L:beN j 2 2 - 20=n:=by omega
 rw[ab,L]at N;refine⟨A1,c1,A2,c2,?_,N,by omega,r2,i5⟩;unfold rawV;rw[k6,k7,k8,k9,ai,aj,ak,L]
 rfl
theorem aX2(p E G I J n:Nat)(xs j:List UInt8)(O:xs.length=n)(hn:n<=4096)(Z:p=4\/p=41)(b5:E<18446744073709551616)(b6:G<18446744073709551616)(b7:I<18446744073709551616)(b8:J<18446744073709551616)(L:aAy 0 0 64 E G I J p [] xs=j) :
 yA (40+n) j 0 0 0 64 true E G true I J [] p n xs/\j.length=40+n/\(j.getD 0 0).toNat / 16=6:=by
 have N:sS 0 0 64 true true p []=true:=by rcases Z with rfl|rfl<;>decide
 obtain⟨V,g2,_,_,g3,g4,g5,g6,g7,g8,g9⟩:=aVu 0 0 64 E G I J p [] xs [] j N b5 b6 b7 b8 (by omega) (by rw[ePa];exact L);have U:j.length=40+n:=by rw[<-L,aVh,O];rfl
 rw[U]at V;refine⟨fun A c W hx hc ag=>?_,U,by rw[<-L,aX5];rfl⟩;refine(aDj A (40+n) c j W hx hc ag (by omega) 0 0 64 E G I J g3 g4 g5 g6 g7 g8 g9).mono ?_;rw[V,g2];rintro e w' ⟨_,h2,h3⟩;obtain⟨a7,a8,a9,ap,X,xc,Y,A2,c2,he,aw,hX,N⟩:=h2 rfl
 cases ap
 obtain⟨ay,az,a0⟩:=hX.isX;obtain⟨_,r1,r2,r3⟩:=N.reads;subst O;exact⟨X,Y.length,xc,A2,c2,Y,he,aw,ay,az,a0,r3,r1,r2,h3⟩
theorem aX6(p E G n:Nat)(xs J:List UInt8)(L:xs.length=n)(N:n<=4096)(I:yP xs=p)(j:vC n xs=0)(O:E<4294967296)(U:G<4294967296)(V:hdB 0 0 16384 64 p E G [] n++xs=J) :
 ∀(A:Option Addr) (c:Nat) (W:World),IsB W W.heap.size A (20+n) J->20+n<=c->c<=maxLen->Cl 24 #[.slice A (20+n) c] W fun e w'=>aXp 0 false 0 E false 0 G n xs W w' e:=by
 have X:(p=4\/p=41)/\p<=255:=by
  unfold yP at I;unfold vC at j;split at j
  .cases j
  .split at j
   .rename_i h;split at I
    .omega
    .split at I<;>omega
   .cases j
 obtain⟨Z,hl,hv⟩:=aXz p E G n xs J L N X.2 O U V;have Y:=aX8 _ _ _ _ _ _ _ _ _ _ _ _ _ _ _ Z (.inr (by omega)) 0 (by simp);intro A c W hx hc ac;exact aX0 _ _ _ _ _ _ _ _ _ _ _ _ Y 0 (by unfold aXu;rw[bAa (fun h=>h rfl),bAa (by omega),bAa (fun h=>h j),bAa (fun h=>h I)]) A c W hx hc ac
theorem aYh(p E G I J n:Nat)(xs N:List UInt8)(O:xs.length=n)(U:n<=4096)(L:yP xs=p)(j:vC n xs=0)(V:E<18446744073709551616)(X:G<18446744073709551616)(Y:I<18446744073709551616)(Z:J<18446744073709551616)(aa:aAy 0 0 64 E G I J p [] xs=N) :
 ∀(A:Option Addr) (c:Nat) (W:World),IsB W W.heap.size A (40+n) N->40+n<=c->c<=maxLen->Cl 24 #[.slice A (40+n) c] W fun e w'=>aXp 0 true E G true I J n xs W w' e:=by
 have ab:(p=4\/p=41)/\p<=255:=by
  unfold yP at L;unfold vC at j;split at j
  .cases j
  .split at j
   .rename_i h;split at L
    .omega
    .split at L<;>omega
   .cases j
 obtain⟨hF,hl,hv⟩:=aX2 p E G I J n xs N O U ab.1 V X Y Z aa;have hO:=aYf _ _ _ _ _ _ _ _ _ _ _ _ _ _ _ _ hF (by omega) hv 0 (by simp[frag_nil]);intro A c W hx hc ah;exact aX0 _ _ _ _ _ _ _ _ _ _ _ _ hO 0 (by unfold aXu;rw[bAa (fun h=>h rfl),bAa (by omega),bAa (fun h=>h j),bAa (fun h=>h L)]) A c W hx hc ah
def dgK (sp dp:Int):Nat:=if pX sp dp=true then 0 else 1
theorem udp_in(j E:Int)(A:Option Addr)(n c:Nat)(P:Option Addr)(m d:Nat)(xs G:List UInt8)(w:World)(L:IsB w w.heap.size A n xs)(N:IsB w w.heap.size P m G)(V:n<=4000)(O:m<=maxLen) :
 Cl 51 #[.agg #[.int .i64 j,.int .i64 E,.bool false],.slice A n c,.slice P m d] w fun e w'=>dE (dgK j E) (dgB G j.toNat E.toNat xs) w w' e:=by
 by_cases h:pX j E=true
 .have I:dgK j E=0:=by unfold dgK;rw[bBa h]
  unfold pX at h;rw[cBa]at h;have:=aLe j.toNat E.toNat A n c P m d xs G w (by omega) (by omega) L N (by omega) O;rw[show((j.toNat:Nat):Int)=j by omega,show((E.toNat:Nat):Int)=E by omega]at this;refine this.mono ?_;rintro e w' ⟨v,rfl,U,J⟩;rw[I];exact .yes U J
 .have I:dgK j E=1:=by unfold dgK;rw[bAa h]
  refine(bytes_no j E A n c P m d w (by simpa using h)).mono ?_;rintro e w' ⟨rfl,J⟩;rw[I];exact .no _ (by omega) J
theorem lit_dg(Y:Int)(Z:Bool)(aa ab:Int)(dv:Bool)(ad ae j E:Int)(W X:Nat)(A:Option Addr)(n c:Nat)(P:Option Addr)(m d:Nat)(xs I:List UInt8)(w:World)(G:w.heap[W]?=some (.cells (tuA Y Z aa ab dv ad ae j E) 46 (0,0)))(J:w.heap[X]?=some (.cells #[.slice A n c] 43 (0,0)))
 (L:IsB w w.heap.size A n xs) (N:IsB w w.heap.size P m I) (hn:n<=4000) (hm:m<=maxLen) :
 Cl 50 #[.slice P m d,.pointer (some ⟨W,0,none⟩),.pointer (some ⟨X,0,none⟩)] w fun e w'=>dE (dgK j E) (dgB I j.toNat E.toNat xs) w w' e:=by
 unfold tuA at G;have ah:=aA G;have ai:=aA J;replace ⟨G,J,L,N⟩:=q_4 G J L N;go_enter func50,ntmps50;go_wp2_with fail
 refine(udp_in j E A n c P m d xs I _ L N hn hm).mono ?_;rintro e w4 ⟨v4,rfl,O,U,V⟩;clear ah ai;replace ⟨O,U,V⟩:=q_3 O U V;go_wp2_with fail
 go_ret2;exact⟨v4,rfl,O,U,V⟩
def kY (v6:Bool) (shi slo dhi dlo pr sz:Nat):List UInt8:=if v6=true then kR shi slo dhi dlo sz pr else((beB slo 4++beB dlo 4)++[0,UInt8.ofNat pr])++beB sz 2
def xE (v6:Bool) (shi slo dhi dlo pr:Nat) (ttl:Int) (U:List UInt8):List UInt8:=if v6=true then aAy 0 0 ttl.toNat shi slo dhi dlo pr [] U else hdB 0 0 0 ttl.toNat pr slo dlo [] U.length++U
def aEq (v6:Bool) (ttl shi slo dhi dlo:Int):Nat:=if v6=true then aVn ttl else zG ttl shi slo dhi dlo
def aVm (pr:Int) (sv:Bool) (shi slo:Int) (dv:Bool) (dhi dlo sp dp ttl:Int):Nat:=if pr≠17\/sv≠dv then 1 else if dgK sp dp=0 then aEq sv ttl shi slo dhi dlo else dgK sp dp
def dgU (sv:Bool) (shi slo dhi dlo:Nat) (sp dp:Int) (xs:List UInt8):List UInt8:=dgB (kY sv shi slo dhi dlo 17 (8+xs.length)) sp.toNat dp.toNat xs
theorem aCp(j:Bool)(A E G I:Nat)(J L:Int)(xs:List UInt8):(dgU j A E G I J L xs).length=8+xs.length:=by
 unfold dgU dgB;rw[gM _ _ _ (by rw[zD,aR];omega),zD]
theorem aPd(G:Int)(I:Bool)(N O:Int)(E:Bool)(U V W X Y:Int)(A:Option Addr)(n c:Nat)(w:World)(h:G≠17\/I≠E) :
 Cl 18 #[.agg (tuA G I N O E U V W X),.int .i64 Y,.slice A n c] w fun e w'=>dE 1 [] w w' e:=by
 have j:Below w.heap.size w ((w.alloc (.cells (tuA G I N O E U V W X) 46)).alloc (.cells #[.slice A n c] 43)):=bC.alloc (by simp) _;unfold tuA at j ⊢;by_cases L:G=17
 ·subst L;have J:I≠E:=by simpa using h
  replace j:=q_ j;clear h
  cases I with
  | false =>
   cases E with
   | false=>exact absurd rfl J
   | true =>
    clear J;go_enter func18,ntmps18;go_wp2_with fail
    go_ret2;exact .no (K:=1) _ (by omega) j
  | true =>
   cases E with
   | true=>exact absurd rfl J
   | false =>
    clear J;go_enter func18,ntmps18;go_wp2_with fail
    go_ret2;exact .no (K:=1) _ (by omega) j
 ·have Z:(G != 17)=true:=by simpa using L
  replace j:=q_ j;clear h L;go_enter func18,ntmps18;go_wp2_with fail
  go_ret2;exact .no (K:=1) _ (by omega) j
theorem aMc(G I J L:Nat)(j E N:Int)(A:Option Addr)(n c:Nat)(xs:List UInt8)(w:World)(hx:IsB w w.heap.size A n xs)(hn:n<=4000)
 (h4:G<18446744073709551616) (h5:I<18446744073709551616) (V:J<18446744073709551616) (W:L<18446744073709551616) :
 Cl 18 #[.agg (tuA 17 true G I true J L j E),.int .i64 N,.slice A n c] w fun e w'=>dE (aVm 17 true G I true J L j E N) (xE true G I J L 17 N (dgU true G I J L j E xs)) w w' e:=by
 obtain⟨w1,O⟩:=eX ((w.alloc (.cells (tuA 17 true G I true J L j E) 46)).alloc (.cells #[.slice A n c] 43));have ad:Below w.heap.size w w1:=O▸bC.alloc (by simp) _;have X:w1.heap[w.heap.size]?=some (.cells (tuA 17 true G I true J L j E) 46 (0,0)):=O▸kE _ (by simp) (aJ _ _ _);have Y:w1.heap[w.heap.size+1]?=some (.cells #[.slice A n c] 43 (0,0)):=O▸(by simpa using aJ (w.alloc (.cells (tuA 17 true G I true J L j E) 46)) 43 #[.slice A n c]);have ay:w.heap.size+1<w1.heap.size:=by rw[<-O];simp
 have aq:=q_ (hx.on ad);have ae:=hx.1;obtain⟨U,Z⟩:=eX (dgU true G I J L j E xs);have al:U.length=8+n:=by rw[<-Z,aCp,ae]
 replace ⟨X,Y⟩:=q_2 X Y;have af:=aVd 17 (by omega) (by decide) G I J L j E N ⟨w.heap.size,0,none⟩ ⟨w.heap.size+1,0,none⟩ (8+n) (by omega) (dgK j E) U (by omega) w1 h4 h5 V W (by
  intro P m d w' hb hp hm;refine(lit_dg 17 true G I true J L j E _ _ A n c P m d xs _ w' (kB hb X) (kB hb Y) (aq.on hb) hp hn hm).mono ?_;intro e a0 he;rw[<-Z];unfold dgU kY;rw[bBa rfl,ae];exact he)
 have hK:aVm 17 true G I true J L j E N=(if dgK j E=0 then aVn N else dgK j E):=by
  unfold aVm aEq;simp
 have hR:xE true G I J L 17 N U=aAy 0 0 N.toNat G I J L 17 [] U:=by
  unfold xE;rw[bBa rfl]
 rw[Z,hK,hR];obtain⟨KK,ah⟩:∃KK,(if dgK j E=0 then aVn N else dgK j E)=KK:=⟨_,rfl⟩
 rw[ah]at af ⊢;clear hK hR;have ao:=aA X;have ar:=aA Y;unfold tuA at O ao ⊢;replace ⟨hx,ae,Z,al,af,ah,ad⟩:=q_7 hx ae Z al af ah ad;clear X Y;go_enter func18,ntmps18;go_wp2_with fail
 refine af.mono ?_;rintro e w4 h4;have h5:=h4.from ad;obtain⟨v4,rfl,V,W,h8⟩:=h5;clear h4 ao ar O;replace ⟨V,W,h8⟩:=q_3 V W h8;go_wp2_with fail
 go_ret2;exact⟨v4,rfl,V,W,h8⟩
theorem aLf(G j I E:Nat)(J L N:Int)(A:Option Addr)(n c:Nat)(xs:List UInt8)(w:World)(hx:IsB w w.heap.size A n xs)(hn:n<=4000)
 (h4:G<18446744073709551616) (h5:j<18446744073709551616) (V:I<18446744073709551616) (W:E<18446744073709551616) :
 Cl 18 #[.agg (tuA 17 false G j false I E J L),.int .i64 N,.slice A n c] w fun e w'=>dE (aVm 17 false G j false I E J L N) (xE false G j I E 17 N (dgU false G j I E J L xs)) w w' e:=by
 obtain⟨w1,O⟩:=eX ((w.alloc (.cells (tuA 17 false G j false I E J L) 46)).alloc (.cells #[.slice A n c] 43));have ad:Below w.heap.size w w1:=O▸bC.alloc (by simp) _;have X:w1.heap[w.heap.size]?=some (.cells (tuA 17 false G j false I E J L) 46 (0,0)):=O▸kE _ (by simp) (aJ _ _ _);have Y:w1.heap[w.heap.size+1]?=some (.cells #[.slice A n c] 43 (0,0)):=O▸(by simpa using aJ (w.alloc (.cells (tuA 17 false G j false I E J L) 46)) 43 #[.slice A n c]);have ay:w.heap.size+1<w1.heap.size:=by rw[<-O];simp
 have aq:=q_ (hx.on ad);have ae:=hx.1;obtain⟨U,Z⟩:=eX (dgU false G j I E J L xs);have al:U.length=8+n:=by rw[<-Z,aCp,ae]
 replace ⟨X,Y⟩:=q_2 X Y;have af:=aSz 17 (by omega) (by decide) G j I E J L N ⟨w.heap.size,0,none⟩ ⟨w.heap.size+1,0,none⟩ (8+n) (by omega) (dgK J L) U (by omega) w1 h4 h5 V W (by
  intro P m d w' hb hp hm;refine(lit_dg 17 false G j false I E J L _ _ A n c P m d xs _ w' (kB hb X) (kB hb Y) (aq.on hb) hp hn hm).mono ?_;intro e a0 he;rw[<-Z];unfold dgU kY;rw[bAa (by simp),ae];exact he)
 have hK:aVm 17 false G j false I E J L N=(if dgK J L=0 then zG N G j I E else dgK J L):=by
  unfold aVm aEq;simp
 have hR:xE false G j I E 17 N U=hdB 0 0 0 N.toNat 17 j E [] U.length++U:=by
  unfold xE;rw[bAa (by simp)]
 rw[Z,hK,hR];obtain⟨KK,ah⟩:∃KK,(if dgK J L=0 then zG N G j I E else dgK J L)=KK:=⟨_,rfl⟩
 rw[ah]at af ⊢;clear hK hR;have ao:=aA X;have ar:=aA Y;unfold tuA at O ao ⊢;replace ⟨hx,ae,Z,al,af,ah,ad⟩:=q_7 hx ae Z al af ah ad;clear X Y;go_enter func18,ntmps18;go_wp2_with fail
 refine af.mono ?_;rintro e w4 h4;have h5:=h4.from ad;obtain⟨v4,rfl,V,W,h8⟩:=h5;clear h4 ao ar O;replace ⟨V,W,h8⟩:=q_3 V W h8;go_wp2_with fail
 go_ret2;exact⟨v4,rfl,V,W,h8⟩
def pkA (v6:Bool) (pr shi slo dhi dlo:Nat) (sp dp ttl fl sz:Int):Array Value:=#[.bool v6,.int .i64 (pr:Int),.bool v6,.int .u64 (shi:Int),.int .u64 (slo:Int),.bool v6,.int .u64 (dhi:Int),.int .u64 (dlo:Int),.int .i64 sp,.int .i64 dp,.int .i64 ttl,.int .i64 fl,.bool false,.int .i64 0,.bool false,.int .u64 0,.int .u64 0,.bool false,.int .u64 0,.int .u64 0,.int .i64 0,.int .i64 0,.int .i64 sz]
theorem aV3(A:Bool)(E G I J L:Nat)(N O U V sz:Int):(pkA A E G I J L N O U V sz).all (·.oneCell')=true:=all_oneCell_toArray (by
 intro v j;simp only[bXa,bVa,dTa]at j;rcases j with rfl|rfl|rfl|rfl|rfl|rfl|rfl|rfl|rfl|rfl|rfl|rfl|rfl|rfl|rfl|rfl|rfl|rfl|rfl|rfl|rfl|rfl|rfl<;>rfl)
theorem upis_dg(cs:Array Value)(I:cs.size=23)(J:cs.all (·.oneCell')=true)(E:Bool)(L:cs[0]?=some (.bool E))(N:cs[1]?=some (.int .i64 17))(G:Int)(U j:List UInt8)(hU:U.length<=4096)(hp:j.length<=4096)(s d:Nat)(O:jK (!E) j U=0)(V:beN U 0 2=s)(W:beN U 2 2=d) :
 aVk cs G U j 0 (aAu cs s d):=fun A P c X w Y Z hc ab=>aEj cs I J E L 17 N G A P c X U j w Y Z hc ab (by omega) (by unfold maxLen;omega) rfl 0 O _ (fun _=>by unfold kN;rw[bBa rfl,bBa rfl,V,W])
theorem upis_sg(cs:Array Value)(J:cs.size=23)(L:cs.all (·.oneCell')=true)(E:Bool)(N:cs[0]?=some (.bool E))(O:cs[1]?=some (.int .i64 6))(G:Int)(U j:List UInt8)(hU:U.length<=4096)(hp:j.length<=4096)(s d I:Nat)(V:jV j U=0)(W:beN U 0 2=s)(X:beN U 2 2=d)(Y:(U.getD 13 0).toNat=I) :
 aVk cs G U j 0 (tcpA cs s d I):=fun A P c Z w hx ab hc ad=>aEi cs J L E N 6 O G A P c Z U j w hx ab hc ad (by omega) (by unfold maxLen;omega) rfl 0 V _ (fun _=>by unfold kM wQ;rw[bBa rfl,bBa rfl,bBa rfl,W,X,Y])
end Go.Proofs.YtpcifakangbpaaaGreat
