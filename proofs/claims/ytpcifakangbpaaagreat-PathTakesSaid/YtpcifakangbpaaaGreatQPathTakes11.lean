/- Parts of the proof of PathTakes: contracts of functions of the program. No condition but those that each theorem names. -/
import Derived.Test.YtpcifakangbpaaaGreatQPathTakes10
set_option linter.unusedVariables false
set_option linter.unusedSimpArgs false
set_option maxRecDepth 100000
set_option maxHeartbeats 16000000
namespace Go.Proofs.YtpcifakangbpaaaGreat
open Go.RowKit Go.ChangeShapes Go.WideShapes Go.ChangeAt Go.Deep Go.Proofs.Tryz
variable {R xs:List UInt8}{B E J N O S V b base' c f fuel g i j k m n s sd sz:Nat}{Q:Exit->Act->World->Prop}{d w' w0:World}{u v z:Value}{T e t:TypeId}{A:Option Addr}{h os:List Nat}{F:List UInt8->Option Nat}{p:List Nat×List Bool}{a:Act}{α:Type}{H l:List Int}{o:Oper}{G:Array Oper}{K:Act->World->Prop}{y:Array Value}{vs:List Value}{L:List Oper}{I:Bool}{U W Y aa:List (Int×List UInt8)}{P:Program}
section
variable {P:Program} {md:Region.Mode} {Q:Exit->Act->World->Prop}
theorem aRe{A:Array Oper}{Q:Act->Prop}{j:Oper}{rest:List Oper}(E:j.guard=none)(ty:TypeId)(x:Operand)(G:j.op=.load ty x)(g:Nat)(I:a.eval x=.pointer (some ⟨g,0,none⟩))(cs:Array Value)(d:TypeDesc)
 (J:∀l:Later w0,l.w.heap[g]?=some (.cells cs t (0,0))) (L:P.underlying ty=some d) (N:d.isRow=true) (O:(P.info? ty).map (·.size)=some cs.size)
 (h:qM P A w0 Q rest (a.put j.dst (.agg cs))):qM P A w0 Q (j :: rest) a:=aD fun K U=>by
 rw[bBa (by simp[Region.wanted,E])];refine⟨.agg cs,fun l=>?_,U _ h⟩;have V:=run_loadVar_mid (P:=P) l.w g 0 ty cs.toList d (aM (J l)) L N (by rw[O,bUa]);unfold execOp;simp only[G,I,Instr.loadAt,Instr.sureAddr,fJa,fHa,dNa,V];exact⟨by simp,mG _⟩
theorem aHw(i:Nat){j:Oper}{rest:List Oper}{A:Array Bool}{w:World}(I:L.drop i=j :: rest)(J:Region.ready md L.toArray A=[i])(N:j.guard=none)
 (ty:TypeId) (x y:Operand) (O:j.op=.store ty x y) (g o:Nat) (U:a.eval x=.pointer (some ⟨g,o,none⟩)) (vs:Array Value) (V:a.eval y=.agg vs) {cs:Array Value} {t:TypeId} (E:w.heap[g]?=some (.cells cs t (0,0))) (G:o+vs.size<=cs.size)
 (W:(P.info? ty).map (·.size)=some vs.size) (X:vs.all (·.oneCell')=true)
 (h:∀w',w'.heap[g]?=some (.cells (pE cs o vs.toList) t (0,0))->w.grownBy w' (some g)->wpAny P md L.toArray Q fuel (A.setIfInBounds i true) (a.put j.dst undef) w'):wpAny P md L.toArray Q (fuel+1) A a w:=by
 obtain⟨w',e,Z,h3⟩:=aBe (o:=o) E vs.toList (by simpa using G);refine bF i I J fun K Y=>?_;rw[bBa (by unfold Region.wanted;rw[N])];refine wp_store_mid ty x y O g o vs U V (aAz E G) W X ?_;rw[e];exact Y _ _ (h w' Z h3)
end
def p4A (proto slo dlo ttl sz:Nat):Array Value:=#[.bool false,.int .i64 (proto:Int),.bool false,.int .u64 0,.int .u64 (slo:Int),.bool false,.int .u64 0,.int .u64 (dlo:Int),.int .i64 0,.int .i64 0,.int .i64 (ttl:Int),.int .i64 0,.bool false,.int .i64 0,.bool false,.int .u64 0,.int .u64 0,.bool false,.int .u64 0,.int .u64 0,.int .i64 0,.int .i64 0,.int .i64 (sz:Int)]
theorem aJf(A E G I sz:Nat):(p4A A E G I sz).all (·.oneCell')=true:=all_oneCell_toArray (by
 intro v j;simp only[bXa,bVa,dTa]at j;rcases j with rfl|rfl|rfl|rfl|rfl|rfl|rfl|rfl|rfl|rfl|rfl|rfl|rfl|rfl|rfl|rfl|rfl|rfl|rfl|rfl|rfl|rfl|rfl<;>rfl)
def ps4 (slo dlo proto m1:Nat):List UInt8:=((beB slo 4++beB dlo 4)++[0,UInt8.ofNat proto])++beB m1 2
def UpIs (cs:Array Value) (errs:Int) (xs ps:List UInt8) (K:Nat) (y:Array Value):Prop :=
 ∀(A P:Option Addr) (c d:Nat) (w:World),IsB w w.heap.size A xs.length xs->IsB w w.heap.size P ps.length ps->xs.length<=c->c<=maxLen->Cl 78 #[.agg cs,.slice A xs.length c,.slice P ps.length d,.int .i64 errs] w fun e w'=>mD K y w w' e
theorem aUa(n:Nat)(xs:List UInt8)(ad id:Nat)(df:Bool)(O j G I J E:Nat)(rest:List UInt8)(hF:uX n xs 0 ad id df false 0 O j G I J E rest)(cm:20+J+E<=1099511627776)(cn:j<=255)(co:G<4294967296)(cp:I<4294967296)(ba:rest.length=E)
 (W:Nat) (y:Array Value) (hU:UpIs (p4A j G I O (20+J+E)) 1 rest (ps4 G I j E) W y) (hy:W=0->y.size=23/\y.all (·.oneCell')=true)
 (A:Option Addr) (c:Nat) (w:World) (hx:IsB w w.heap.size A n xs) (bn:n<=c) (bo:c<=maxLen) :
 Cl 31 #[.slice A n c] w fun e w'=>mD W y w w' e:=by
 obtain⟨zs,ai⟩:=eX pkZ;have ax:Hid (Below w.heap.size w (w.alloc (.cells pkZ 48))):=q_ (bC);have ay:=q_ (aJ w 48 pkZ);obtain⟨w1,am⟩:=eX (w.alloc (.cells pkZ 48));have bq:w.heap.size<w1.heap.size:=by rw[<-am];simp
 rw[am]at ax ay;rw[ai]at ay;unfold pkZ at am;have bc:zs.size=23:=ai▸bG;have br:=q_ (hF A c w1 (hx.on ax) bn bo);replace ⟨hx,hF,hU,ai,hy⟩:=q_5 hx hF hU ai hy;go_enter func31,ntmps31;go_wp2_with fail
 refine br.mono ?_;rintro e w2 ⟨A1,c1,A2,c2,rfl,bm,cy,cj,ao⟩;have z2:=ao.size;obtain⟨V,aa⟩:=eX (w2.alloc (dS ad id df false 0 O j false 0 G false 0 I A1 J c1));have aj:Below w2.heap.size w2 V:=aa▸bC;have ak:Hid (V.heap[w2.heap.size]?=some (dS ad id df false 0 O j false 0 G false 0 I A1 J c1)):=q_ (aa▸aJ _ _ _);have bd:w2.heap.size<V.heap.size:=by rw[<-aa];simp
 unfold dS at ak aa;have bs:=q_ (((tw ax ao)).trans (aj.mono (by omega)));have bt:=q_ (kB aj (aC ao bq ay));have bu:=q_ (bm.on aj);have bv:=aA ak;clear am ao aj bm;unfold fE;go_upto_region 6 with fail
 clear aa bv;go_cut [7] (fun tv wx=>∃g L,tv=.pointer (some ⟨g,0,none⟩)/\L.heap[g]?=some (.cells (p4A j G I O (20+J+E)) 48 (0,0))/\V.heap.size<=g/\g<L.heap.size/\Below V.heap.size V L/\L=wx)
 case first =>
  have az:=fun(l:Later V) (o:Nat)=>aA (aC l.hb bd ak) o
  have be:=q_ (fun(l:Later V)=>uB ad id df false 0 O j false 0 G false 0 I A1 J c1 l.w (by omega));refine rL ?_;refine eS 0 15 2 ?_;simp only[dA,dC,dD];iterate 10 refine qE ?_
  (refine aD (fun K N=>?_);go_simp;apply bSa;refine⟨fun l=>?_,N _ ?_⟩;(go_at_call 77;refine(be l).mono ?_;rintro e w' ⟨rfl,hb⟩;exact⟨rfl,hb⟩);clear N K)
  iterate 4 refine qE ?_
  refine aT ?_;have q1:IntKind.i64.wrap ((20:Int)+(J:Int)+(E:Int))=((20+J+E:Nat):Int):=by rw[wO _];omega
  rw[q1];clear q1 az be;refine eT 15 rfl fun l K N=>?_;go_simp;have zl:=l.hb.size;have a1:Below l.w.heap.size l.w (l.w.alloc (.cells pkZ 48)):=bC;have bg:=q_ (aJ l.w 48 pkZ);have bh:l.w.heap.size<(l.w.alloc (.cells pkZ 48)).heap.size:=by simp
  refine N _ _ a1 ?_;clear N K
  change wpE _ _ _ _ _ _ _ _ (l.w.alloc (.cells pkZ 48))
  generalize l.w.alloc (.cells pkZ 48)=w4 at a1 bg bh ⊢;refine eE fun U=>?_;have bw:=U.hb.size;have bx:=q_ (aC U.hb bh bg);have a2:Below V.heap.size V U.w:=(l.hb.trans (a1.mono zl)).trans (U.hb.mono (by omega));refine aHw 16 rfl (by as_aux_lemma=>kernel_rfl) rfl 48 (.tmp 7) (.tmp 42) rfl l.w.heap.size 0 rfl (p4A j G I O (20+J+E)) rfl bx (show 0+23<=23 by omega) bK (aJf _ _ _ _ _) fun L X g5=>?_;rw[aQ pkZ (p4A j G I O (20+J+E)) rfl]at X;have a3:=q_ (a2.trans (gB g5));have z5:=g5.size;clear g5;replace X:=q_ X;refine tD ?_;go_wp2_with fail
  go_meet;exact⟨l.w.heap.size,L,rfl,X,by omega,by omega,a3,rfl⟩
 case rest =>
 obtain⟨g,L,rfl,X,cv,cc,Y,rfl⟩:=hcut;have z5:=Y.size;have a3:=q_ ((tw bs Y));have b0:=q_ (kB Y bt);have b1:=q_ (bu.on Y);have b2:=q_ (aC Y bd ak);have az:=fun(l:Later L) (o:Nat)=>aA (kB l.hb b2) o
 have b3:=q_ (fun(l:Later L)=>aC l.hb cc X);have b4:=q_ (fun(l:Later L)=>aA8 false 0 G false 0 I j E j E (by omega) (by rw[cTa];omega) l.w (by omega) (by omega) (by omega));replace ⟨X,Y⟩:=q_2 X Y;go_upto_region 7 with fail
 refine rL ?_;refine eS 0 10 6 ?_;simp only[dA,dC,dD];refine aRe rfl 48 (.tmp 7) rfl g rfl (p4A j G I O (20+J+E)) _ b3 cMa rfl bK ?_;generalize bk:p4A j G I O (20+J+E)=pa at hU;iterate 9 refine qE ?_
 refine aT ?_;clear az;refine eT 10 rfl fun l K N=>?_;go_simp;go_at_call 79;refine(b4 l).mono ?_;rintro e w6 ⟨v,rfl,bi,ap⟩;refine N _ _ ap ?_;clear N K;obtain⟨pl,Z⟩:=eX ((ps4 G I j E).length);have hown':aZ w6 l.w.heap.size v (ps4 G I j E):=bi;obtain⟨A6,c6,rfl,cg,cx,a7⟩:=hown'.form;rw[Z]at a7 cg ⊢;clear bi hown';refine eT 11 rfl fun U K N=>?_;go_simp;have zl:=l.hb.size;have z6:=ap.size;have bw:=U.hb.size;have a4:Hid (Below L.heap.size L U.w):=q_ ((l.hb.trans (ap.mono zl)).trans (U.hb.mono (by omega)));have bj:=q_ (hU A2 A6 c2 c6 U.w (by rw[ba];exact b1.on a4) (by rw[Z];exact a7.on U.hb) (by omega) cj);rw[ba,Z]at bj;have b5:=q_ (kB a4 b0);have a2:=q_ ((tw a3 a4));clear ap a7;replace ⟨Z,bk⟩:=q_2 Z bk;go_at_call 78;refine bj.mono ?_;rintro e w7 ⟨rfl,ac⟩;obtain⟨z,hz,an,a5⟩:∃z,(if W=0 then y else pkZ)=z/\z.size=23/\z.all (·.oneCell')=true:=by
  by_cases h:W=0
  .exact⟨y,by rw[bBa h],hy h⟩
  .exact⟨pkZ,by rw[bAa h],bG,jF⟩
 rw[hz];refine N _ _ ac ?_;clear N K;refine eS 12 2 2 ?_;simp only[dB,dA,dC,dD];iterate 2 refine qE ?_
 refine aT ?_;refine eE fun l3=>?_;have z7:=ac.size;have cu:=l3.hb.size;have b6:=q_ (kB l3.hb (kB ac b5));have b7:=q_ (((tw a2 ac)).trans (l3.hb.mono (by omega)));clear ac;replace ⟨a5,hz⟩:=q_2 a5 hz;refine aHw 14 rfl (by as_aux_lemma=>kernel_rfl) rfl 48 (.tmp 2) (.tmp 55) rfl w.heap.size 0 rfl z rfl b6 (by rw[bc,an];omega) (by rw[bK,an]) a5 fun w9 ah g9=>?_;rw[aQ _ _ (by rw[bc,an])]at ah;have b8:=q_ (b7.trans (gB g9));have a6:(loadVar 48 ⟨w.heap.size,0,none⟩).run prog w9=.ok (.agg z) w9:=by
  simpa using run_loadVar_mid w9 w.heap.size 0 48 z.toList _ (aM ah) cMa rfl (by rw[bK,bUa,an])
 have b9:Hid (mD W y w w9 (.returned (.tuple #[.agg z,.int .i64 (W:Int)]))):=q_ (⟨by rw[hz.out],b8⟩);clear g9;replace ⟨ah,a6⟩:=q_2 ah a6;refine tM 15 rfl ?_;refine tD ?_;go_wp2_with fail
 exact aYa (v:=.tuple #[.agg z,.int .i64 (W:Int)]) (by simp[results,results31,asAddr,a6.out,Result.andThen]) rfl b9
theorem aR6(n:Nat)(xs:List UInt8)(j:Nat)(ah:j≠0)(O:uX n xs j 0 0 false false 0 0 0 0 0 0 0 [])(y:Array Value)
 (A:Option Addr) (c:Nat) (w:World) (U:IsB w w.heap.size A n xs) (ai:n<=c) (aj:c<=maxLen) :
 Cl 31 #[.slice A n c] w fun e w'=>mD j y w w' e:=by
 have t1:((j:Int) == 0)=false:=by rw[bDa];omega
 obtain⟨zs,J⟩:=eX pkZ;have W:Hid (Below w.heap.size w (w.alloc (.cells pkZ 48))):=q_ (bC);have X:=q_ (aJ w 48 pkZ);obtain⟨w1,L⟩:=eX (w.alloc (.cells pkZ 48));have ak:w.heap.size<w1.heap.size:=by rw[<-L];simp
 rw[L]at W X;rw[J]at X;unfold pkZ at L;have ac:zs.size=23:=J▸bG;have al:=q_ (O A c w1 (U.on W) ai aj);replace ⟨U,O,J⟩:=q_3 U O J;go_enter func31,ntmps31;go_wp2_with fail
 refine al.mono ?_;rintro e G ⟨A1,c1,A2,c2,rfl,_,_,_,N⟩;have z2:=N.size;obtain⟨w3,E⟩:=eX (G.alloc (dS 0 0 false false 0 0 0 false 0 0 false 0 0 A1 0 c1));have Y:Below G.heap.size G w3:=E▸bC;have ad:Hid (w3.heap[G.heap.size]?=some (dS 0 0 false false 0 0 0 false 0 0 false 0 0 A1 0 c1)):=q_ (E▸aJ _ _ _);have aw:G.heap.size<w3.heap.size:=by rw[<-E];simp
 unfold dS at ad E;have am:=q_ (((tw W N)).trans (Y.mono (by omega)));have an:=q_ (kB Y (aC N ak X));have ao:=aA ad;clear L N Y;unfold fE;go_upto_region 3 with fail
 clear E ao;apply aWa;refine pS ?_;refine pS ?_;refine bQ rfl 48 (.tmp 2) (.tmp 17) rfl w.heap.size 0 rfl pkZ rfl an (by rw[ac,bG];omega) bK jF fun V I g9=>?_;rw[aQ _ _ (by rw[ac,bG])]at I;have ap:=q_ (am.trans (gB g9));have Z:(loadVar 48 ⟨w.heap.size,0,none⟩).run prog V=.ok (.agg pkZ) V:=by
  simpa using run_loadVar_mid V w.heap.size 0 48 pkZ.toList _ (aM I) cMa rfl (by rw[bK,bUa,bG])
 have aq:=q_ (qW (y:=y) j ah ap);clear g9;replace ⟨I,Z⟩:=q_2 I Z;refine pS ?_;refine bCa ?_;go_wp2_with fail
 exact aYa (v:=.tuple #[.agg pkZ,.int .i64 (j:Int)]) (by simp[results,results31,asAddr,Z.out,Result.andThen]) rfl aq
theorem aPk(n:Nat)(xs:List UInt8)(Y id:Nat)(Z L:Bool)(E aa ab ac ad n1 m1:Nat)(rest:List UInt8)(hF:uX n xs 0 Y id Z L E aa ab ac ad n1 m1 rest)(ax:0<E\/L=true)(y:Array Value)
 (A:Option Addr) (c:Nat) (w:World) (hx:IsB w w.heap.size A n xs) (ay:n<=c) (az:c<=maxLen) :
 Cl 31 #[.slice A n c] w fun e w'=>mD 21 y w w' e:=by
 obtain⟨zs,V⟩:=eX pkZ;have ah:Hid (Below w.heap.size w (w.alloc (.cells pkZ 48))):=q_ (bC);have ai:=q_ (aJ w 48 pkZ);obtain⟨w1,W⟩:=eX (w.alloc (.cells pkZ 48));have a0:w.heap.size<w1.heap.size:=by rw[<-W];simp
 rw[W]at ah ai;rw[V]at ai;unfold pkZ at W;have U:zs.size=23:=V▸bG;have a1:=q_ (hF A c w1 (hx.on ah) ay az);replace ⟨hx,hF,V⟩:=q_3 hx hF V;go_enter func31,ntmps31;go_wp2_with fail
 refine a1.mono ?_;rintro e O ⟨A1,c1,A2,c2,rfl,_,_,_,X⟩;have z2:=X.size;obtain⟨w3,J⟩:=eX (O.alloc (dS Y id Z L E aa ab false 0 ac false 0 ad A1 n1 c1));have aj:Below O.heap.size O w3:=J▸bC;have an:Hid (w3.heap[O.heap.size]?=some (dS Y id Z L E aa ab false 0 ac false 0 ad A1 n1 c1)):=q_ (J▸aJ _ _ _);have a6:O.heap.size<w3.heap.size:=by rw[<-J];simp
 unfold dS at an J;have ao:=q_ (((tw ah X)).trans (aj.mono (by omega)));have ap:=q_ (kB aj (aC X a0 ai));have aq:=aA an;clear W X aj;unfold fE;by_cases a4:0<E
 .have t2:(0:Int)<(E:Int):=by omega
  go_upto_region 5 with fail
  clear J aq;apply aWa;refine pS ?_;refine bQ rfl 48 (.tmp 2) (.tmp 27) rfl w.heap.size 0 rfl pkZ rfl ap (by rw[U,bG];omega) bK jF fun G j N=>?_;rw[aQ _ _ (by rw[U,bG])]at j;have ak:=q_ (ao.trans (gB N));have I:(loadVar 48 ⟨w.heap.size,0,none⟩).run prog G=.ok (.agg pkZ) G:=by
   simpa using run_loadVar_mid G w.heap.size 0 48 pkZ.toList _ (aM j) cMa rfl (by rw[bK,bUa,bG])
  have al:=q_ (qW (y:=y) 21 (by omega) ak);clear N;replace ⟨j,I⟩:=q_2 j I;refine pS ?_;refine bCa ?_;go_wp2_with fail
  exact aYa (v:=.tuple #[.agg pkZ,.int .i64 (21:Int)]) (by simp[results,results31,asAddr,I.out,Result.andThen]) rfl al
 .have t2:¬ (0:Int)<(E:Int):=by omega
  obtain rfl:L=true:=by rcases ax with h|h;exact absurd h a4;exact h
  go_upto_region 5 with fail
  clear J aq;apply aWa;refine pS ?_;refine bQ rfl 48 (.tmp 2) (.tmp 27) rfl w.heap.size 0 rfl pkZ rfl ap (by rw[U,bG];omega) bK jF fun G j N=>?_;rw[aQ _ _ (by rw[U,bG])]at j;have ak:=q_ (ao.trans (gB N));have I:(loadVar 48 ⟨w.heap.size,0,none⟩).run prog G=.ok (.agg pkZ) G:=by
   simpa using run_loadVar_mid G w.heap.size 0 48 pkZ.toList _ (aM j) cMa rfl (by rw[bK,bUa,bG])
  have al:=q_ (qW (y:=y) 21 (by omega) ak);clear N;replace ⟨j,I⟩:=q_2 j I;refine pS ?_;refine bCa ?_;go_wp2_with fail
  exact aYa (v:=.tuple #[.agg pkZ,.int .i64 (21:Int)]) (by simp[results,results31,asAddr,I.out,Result.andThen]) rfl al
def p6A (proto sh sl dh dl ho sz:Nat):Array Value:=#[.bool true,.int .i64 (proto:Int),.bool true,.int .u64 (sh:Int),.int .u64 (sl:Int),.bool true,.int .u64 (dh:Int),.int .u64 (dl:Int),.int .i64 0,.int .i64 0,.int .i64 (ho:Int),.int .i64 0,.bool false,.int .i64 0,.bool false,.int .u64 0,.int .u64 0,.bool false,.int .u64 0,.int .u64 0,.int .i64 0,.int .i64 0,.int .i64 (sz:Int)]
theorem aJg(A E G I J L sz:Nat):(p6A A E G I J L sz).all (·.oneCell')=true:=all_oneCell_toArray (by
 intro v j;simp only[bXa,bVa,dTa]at j;rcases j with rfl|rfl|rfl|rfl|rfl|rfl|rfl|rfl|rfl|rfl|rfl|rfl|rfl|rfl|rfl|rfl|rfl|rfl|rfl|rfl|rfl|rfl|rfl<;>rfl)
theorem aUb(n:Nat)(xs:List UInt8)(cl la N E G I J:Nat)(ab:List (Int×List UInt8))(j L:Nat)(rest:List UInt8)(hF:yA n xs 0 cl la N true E G true I J ab j L rest)(a7:ab.length<=8)(ar:∀e∈ab,e.2.length<=2047)(bs:nZ ab=0)(bt:qQ ab=false)(dq:L<=1099511627776)(dr:j<=255)(ca:E<18446744073709551616)(cc:G<18446744073709551616)(cd:I<18446744073709551616)(ce:J<18446744073709551616)(bu:rest.length=L)
 (T:Nat) (hT:40+nK ab=T) (Y:Nat) (y:Array Value) (hU:UpIs (p6A j E G I J N (T+L)) 58 rest (kR E G I J L j) Y y) (hy:Y=0->y.size=23/\y.all (·.oneCell')=true)
 (A:Option Addr) (c:Nat) (w:World) (hx:IsB w w.heap.size A n xs) (ch:n<=c) (ci:c<=maxLen) :
 Cl 32 #[.slice A n c] w fun e w'=>mD Y y w w' e:=by
 obtain⟨zs,ax⟩:=eX pkZ;have bc:Hid (Below w.heap.size w (w.alloc (.cells pkZ 48))):=q_ (bC);have bd:=q_ (aJ w 48 pkZ);obtain⟨w1,a2⟩:=eX (w.alloc (.cells pkZ 48));have cm:w.heap.size<w1.heap.size:=by rw[<-a2];simp
 rw[a2]at bc bd;rw[ax]at bd;unfold pkZ at a2;have bw:zs.size=23:=ax▸bG;have cn:=q_ (hF A c w1 (hx.on bc) ch ci);replace ⟨hx,hF,hU,ax,hy⟩:=q_5 hx hF hU ax hy;go_enter func32,ntmps32;go_wp2_with fail
 refine cn.mono ?_;rintro e w2 ⟨X,m,xc,A2,c2,es,rfl,ad,br,d3,d4,b9,d5,dm,a4⟩;have z2:=a4.size;obtain⟨w3,ao⟩:=eX (w2.alloc (bS (cl:Int) la N true E G true I J X m xc j));have ak:Below w2.heap.size w2 w3:=ao▸bC;have ac:Hid (w3.heap[w2.heap.size]?=some (bS (cl:Int) la N true E G true I J X m xc j)):=q_ (ao▸aJ _ _ _);have al:w2.heap.size<w3.heap.size:=by rw[<-ao];simp
 unfold bS at ac ao;have ay:=q_ (((tw bc a4)).trans (ak.mono (by omega)));have az:=q_ (kB ak (aC a4 cm bd));have a0:=q_ (b9.on ak);have am:=q_ (br.on ak);have co:es.length=m:=br.1;have cp:m<=8:=by rw[<-co,<-rU,ad];exact a7
 have bx:m<=maxLen:=by unfold maxLen;omega
 have cq:Hid (∀e∈es,e.xs.length<=2047):=q_ (fun e he=>ar (e.k,e.xs) (by rw[<-ad];exact List.mem_map.2 ⟨e,he,rfl⟩));have cr:Hid (40+xR es=T):=q_ (by rw[aAt,ad,hT]);have dt:T<=16424:=by
  have:=aQ0 ab ar;omega
 have ct:Hid (beN (qR es) 1 2 / 8=0):=q_ (by rw[aF5,ad,bs]);have cu:Hid (qQ (pes es)=false):=q_ (by rw[ad,bt]);have cv:=aA ac;clear a2 a4 ak b9;unfold eZ;replace ⟨a7,ar,ad⟩:=q_3 a7 ar ad;clear br bs bt;go_wp2_with fail
 refine(xL (cl:Int) la N true E G true I J X m xc j es _ am bx).mono ?_;rintro e wf ⟨rfl,af⟩;rw[ct.out];have be:=q_ (am.on af);have bf:=q_ (aC af al ac);have cw:=aA bf;have bz:=q_ (kB af az);have b0:=q_ ((tw ay af));have b1:=q_ (a0.on af);have du:=af.size;clear ao cv af ay az a0 am;go_wp2_with fail
 refine(aM9 (cl:Int) la N true E G true I J X m xc j es _ be bx).mono ?_;rintro e W ⟨rfl,ag⟩;rw[cu.out];have am:=q_ (be.on ag);have hgh':=kB ag bf;have cx:=aA hgh';have az:=q_ (kB ag bz);have ay:=q_ ((tw b0 ag));have a0:=q_ (b1.on ag);have dv:=ag.size;have hz3':w2.heap.size<W.heap.size:=by omega
 have dw:w1.heap.size<=W.heap.size:=by omega
 clear cw ag be bz b0 b1 bf ac;have ac:=q_ hgh';clear hgh';go_upto_region 6 with fail
 clear cx al;have al:=hz3';clear hz3';go_cut [7] (fun tv wx=>∃g O,tv=.pointer (some ⟨g,0,none⟩)/\O.heap[g]?=some (.cells (p6A j E G I J N (T+L)) 48 (0,0))/\W.heap.size<=g/\g<O.heap.size/\Below W.heap.size W O/\O=wx)
 case first =>
  have bg:=fun(l:Later W) (o:Nat)=>aA (aC l.hb al ac) o
  have b2:=q_ (fun(l:Later W)=>vD (cl:Int) la N true E G true I J X m xc j es l.w (am.later l) cp cq T cr);refine rL ?_;refine eS 0 15 2 ?_;simp only[dA,dC,dD];iterate 10 refine qE ?_
  (refine aD (fun K U=>?_);go_simp;apply bSa;refine⟨fun l=>?_,U _ ?_⟩;(go_at_call 83;refine(b2 l).mono ?_;rintro e w' ⟨rfl,hb⟩;exact⟨rfl,hb⟩);clear U K)
  iterate 4 refine qE ?_
  refine aT ?_;have q1:IntKind.i64.wrap ((T:Int)+(L:Int))=((T+L:Nat):Int):=by rw[wO _];omega
  rw[q1];clear q1 bg b2;refine eT 15 rfl fun l K U=>?_;go_simp;have zl:=l.hb.size;have bi:Below l.w.heap.size l.w (l.w.alloc (.cells pkZ 48)):=bC;have b4:=q_ (aJ l.w 48 pkZ);have b5:l.w.heap.size<(l.w.alloc (.cells pkZ 48)).heap.size:=by simp
  refine U _ _ bi ?_;clear U K
  change wpE _ _ _ _ _ _ _ _ (l.w.alloc (.cells pkZ 48))
  generalize l.w.alloc (.cells pkZ 48)=w4 at bi b4 b5 ⊢;refine eE fun V=>?_;have cy:=V.hb.size;have cz:=q_ (aC V.hb b5 b4);have bj:Below W.heap.size W V.w:=(l.hb.trans (bi.mono zl)).trans (V.hb.mono (by omega));refine aHw 16 rfl (by as_aux_lemma=>kernel_rfl) rfl 48 (.tmp 7) (.tmp 42) rfl l.w.heap.size 0 rfl (p6A j E G I J N (T+L)) rfl cz (show 0+23<=23 by omega) bK (aJg _ _ _ _ _ _ _) fun O Z g5=>?_;rw[aQ pkZ (p6A j E G I J N (T+L)) rfl]at Z;have bk:=q_ (bj.trans (gB g5));have z5:=g5.size;clear g5;replace Z:=q_ Z;refine tD ?_;go_wp2_with fail
  go_meet;exact⟨l.w.heap.size,O,rfl,Z,by omega,by omega,bk,rfl⟩
 case rest =>
 obtain⟨g,O,rfl,Z,d0,de,ae,rfl⟩:=hcut;have z5:=ae.size;have bk:=q_ ((tw ay ae));have c1:=q_ (kB ae az);have c3:=q_ (a0.on ae);have c4:=q_ (aC ae al ac);have bg:=fun(l:Later O) (o:Nat)=>aA (kB l.hb c4) o
 have c5:=q_ (fun(l:Later O)=>aC l.hb de Z);have c7:=q_ (fun(l:Later O)=>aB7 true E G true I J j L j L (by omega) (by rw[cTa];omega) l.w ca cc cd ce (by omega));replace ⟨Z,ae⟩:=q_2 Z ae;go_upto_region 7 with fail
 refine rL ?_;refine eS 0 10 6 ?_;simp only[dA,dC,dD];refine aRe rfl 48 (.tmp 7) rfl g rfl (p6A j E G I J N (T+L)) _ c5 cMa rfl bK ?_;generalize b8:p6A j E G I J N (T+L)=pa at hU;iterate 9 refine qE ?_
 refine aT ?_;clear bg;refine eT 10 rfl fun l K U=>?_;go_simp;go_at_call 57;refine(c7 l).mono ?_;rintro e w6 ⟨v,rfl,b6,a5⟩;refine U _ _ a5 ?_;clear U K;obtain⟨pl,an⟩:=eX ((kR E G I J L j).length);have hown':aZ w6 l.w.heap.size v (kR E G I J L j):=b6;obtain⟨A6,c6,rfl,di,d2,bq⟩:=hown'.form;rw[an]at bq di ⊢;clear b6 hown';refine eT 11 rfl fun V K U=>?_;go_simp;have zl:=l.hb.size;have z6:=a5.size;have cy:=V.hb.size;have bl:Hid (Below O.heap.size O V.w):=q_ ((l.hb.trans (a5.mono zl)).trans (V.hb.mono (by omega)));have b7:=q_ (hU A2 A6 c2 c6 V.w (by rw[bu];exact c3.on bl) (by rw[an];exact bq.on V.hb) (by omega) dm);rw[bu,an]at b7;have c8:=q_ (kB bl c1);have bj:=q_ ((tw bk bl));clear a5 bq;replace ⟨an,b8⟩:=q_2 an b8;go_at_call 78;refine b7.mono ?_;rintro e w7 ⟨rfl,aq⟩;obtain⟨z,hz,a3,bm⟩:∃z,(if Y=0 then y else pkZ)=z/\z.size=23/\z.all (·.oneCell')=true:=by
  by_cases h:Y=0
  .exact⟨y,by rw[bBa h],hy h⟩
  .exact⟨pkZ,by rw[bAa h],bG,jF⟩
 rw[hz];refine U _ _ aq ?_;clear U K;refine eS 12 2 2 ?_;simp only[dB,dA,dC,dD];iterate 2 refine qE ?_
 refine aT ?_;refine eE fun l3=>?_;have z7:=aq.size;have dz:=l3.hb.size;have c9:=q_ (kB l3.hb (kB aq c8));have da:=q_ (((tw bj aq)).trans (l3.hb.mono (by omega)));clear aq;replace ⟨bm,hz⟩:=q_2 bm hz;refine aHw 14 rfl (by as_aux_lemma=>kernel_rfl) rfl 48 (.tmp 2) (.tmp 55) rfl w.heap.size 0 rfl z rfl c9 (by rw[bw,a3];omega) (by rw[bK,a3]) bm fun w9 aw g9=>?_;rw[aQ _ _ (by rw[bw,a3])]at aw;have db:=q_ (da.trans (gB g9));have bn:(loadVar 48 ⟨w.heap.size,0,none⟩).run prog w9=.ok (.agg z) w9:=by
  simpa using run_loadVar_mid w9 w.heap.size 0 48 z.toList _ (aM aw) cMa rfl (by rw[bK,bUa,a3])
 have dc:Hid (mD Y y w w9 (.returned (.tuple #[.agg z,.int .i64 (Y:Int)]))):=q_ (⟨by rw[hz.out],db⟩);clear g9;replace ⟨aw,bn⟩:=q_2 aw bn;refine tM 15 rfl ?_;refine tD ?_;go_wp2_with fail
 exact aYa (v:=.tuple #[.agg z,.int .i64 (Y:Int)]) (by simp[results,results32,asAddr,bn.out,Result.andThen]) rfl dc
theorem aR7(n:Nat)(xs:List UInt8)(j:Nat)(aj:j≠0)(U:yA n xs j 0 0 0 false 0 0 false 0 0 [] 0 0 [])(y:Array Value)
 (A:Option Addr) (c:Nat) (w:World) (V:IsB w w.heap.size A n xs) (ak:n<=c) (al:c<=maxLen) :
 Cl 32 #[.slice A n c] w fun e w'=>mD j y w w' e:=by
 have t1:((j:Int) == 0)=false:=by rw[bDa];omega
 obtain⟨zs,L⟩:=eX pkZ;have Y:Hid (Below w.heap.size w (w.alloc (.cells pkZ 48))):=q_ (bC);have Z:=q_ (aJ w 48 pkZ);obtain⟨w1,N⟩:=eX (w.alloc (.cells pkZ 48));have am:w.heap.size<w1.heap.size:=by rw[<-N];simp
 rw[N]at Y Z;rw[L]at Z;unfold pkZ at N;have af:zs.size=23:=L▸bG;have an:=q_ (U A c w1 (V.on Y) ak al);replace ⟨V,U,L⟩:=q_3 V U L;go_enter func32,ntmps32;go_wp2_with fail
 refine an.mono ?_;rintro e I ⟨X,m,xc,A2,c2,es,he,_,_,_,_,_,_,_,O⟩;obtain⟨E,ai⟩:∃E:Int,((0:Nat):Int)=E:=⟨_,rfl⟩
 obtain rfl:e=.returned (.tuple #[eZ 0 0 0 false 0 0 false 0 0 X m xc E,.slice A2 0 c2,.int .i64 (j:Int)]):=by rw[<-ai];exact he
 clear ai;have z2:=O.size;obtain⟨w3,G⟩:=eX (I.alloc (bS 0 0 0 false 0 0 false 0 0 X m xc E));have aa:Below I.heap.size I w3:=G▸bC;have ag:Hid (w3.heap[I.heap.size]?=some (bS 0 0 0 false 0 0 false 0 0 X m xc E)):=q_ (G▸aJ _ _ _);have a1:I.heap.size<w3.heap.size:=by rw[<-G];simp
 unfold bS at ag G;have ao:=q_ (((tw Y O)).trans (aa.mono (by omega)));have ap:=q_ (kB aa (aC O am Z));have aq:=aA ag;clear N O aa;unfold eZ;go_upto_region 3 with fail
 clear G aq;apply aWa;refine pS ?_;refine pS ?_;refine bQ rfl 48 (.tmp 2) (.tmp 17) rfl w.heap.size 0 rfl pkZ rfl ap (by rw[af,bG];omega) bK jF fun W J g9=>?_;rw[aQ _ _ (by rw[af,bG])]at J;have ar:=q_ (ao.trans (gB g9));have ab:(loadVar 48 ⟨w.heap.size,0,none⟩).run prog W=.ok (.agg pkZ) W:=by
  simpa using run_loadVar_mid W w.heap.size 0 48 pkZ.toList _ (aM J) cMa rfl (by rw[bK,bUa,bG])
 have au:=q_ (qW (y:=y) j aj ar);clear g9;replace ⟨J,ab⟩:=q_2 J ab;refine pS ?_;refine bCa ?_;go_wp2_with fail
 exact aYa (v:=.tuple #[.agg pkZ,.int .i64 (j:Int)]) (by simp[results,results32,asAddr,ab.out,Result.andThen]) rfl au
theorem aPm(n:Nat)(xs:List UInt8)(L N O U V W Y:Nat)(G:List (Int×List UInt8))(Z m1:Nat)(rest:List UInt8)(hF:yA n xs 0 L N O true U V true W Y G Z m1 rest)(au:G.length<=8)(av:0<nZ G\/qQ G=true)(y:Array Value)
 (A:Option Addr) (c:Nat) (w:World) (hx:IsB w w.heap.size A n xs) (bf:n<=c) (bg:c<=maxLen) :
 Cl 32 #[.slice A n c] w fun e w'=>mD 21 y w w' e:=by
 obtain⟨zs,ah⟩:=eX pkZ;have ax:Hid (Below w.heap.size w (w.alloc (.cells pkZ 48))):=q_ (bC);have ay:=q_ (aJ w 48 pkZ);obtain⟨w1,ao⟩:=eX (w.alloc (.cells pkZ 48));have bh:w.heap.size<w1.heap.size:=by rw[<-ao];simp
 rw[ao]at ax ay;rw[ah]at ay;unfold pkZ at ao;have ag:zs.size=23:=ah▸bG;have bi:=q_ (hF A c w1 (hx.on ax) bf bg);replace ⟨hx,hF,ah,av⟩:=q_4 hx hF ah av;go_enter func32,ntmps32;go_wp2_with fail
 refine bi.mono ?_;rintro e w2 ⟨X,m,xc,A2,c2,es,rfl,ad,a6,bz,b0,b1,b2,b3,ap⟩;have z2:=ap.size;obtain⟨w3,aa⟩:=eX (w2.alloc (bS (L:Int) N O true U V true W Y X m xc Z));have ai:Below w2.heap.size w2 w3:=aa▸bC;have az:Hid (w3.heap[w2.heap.size]?=some (bS (L:Int) N O true U V true W Y X m xc Z)):=q_ (aa▸aJ _ _ _);have bj:w2.heap.size<w3.heap.size:=by rw[<-aa];simp
 unfold bS at az aa;have aj:=q_ (((tw ax ap)).trans (ai.mono (by omega)));have ak:=q_ (kB ai (aC ap bh ay));have al:=q_ (a6.on ai);have bk:es.length=m:=a6.1;have bu:m<=8:=by rw[<-bk,<-rU,ad];exact au
 have a0:m<=maxLen:=by unfold maxLen;omega
 have a7:Hid (qQ (pes es)=qQ G):=q_ (by rw[ad]);obtain⟨f,hf⟩:=eX (nZ G);have a8:Hid (beN (qR es) 1 2 / 8=f):=q_ (by rw[aF5,ad,hf]);obtain⟨mo,an⟩:=eX (qQ G);have hfr':=av.out;rw[hf,an]at hfr';rw[an]at a7;have a9:=aA az;clear a6 ap ai ao;unfold eZ;replace ⟨au,ad,hf,an⟩:=q_4 au ad hf an;by_cases bs:0<f
 .have t2:(0:Int)<(f:Int):=by omega
  go_wp2_with fail
  refine(xL (L:Int) N O true U V true W Y X m xc Z es _ al a0).mono ?_;rintro e wf ⟨rfl,j⟩;rw[a8.out];have a1:=q_ (kB j ak);have a2:=q_ ((tw aj j));have bm:=j.size;clear aa a9 j aj ak;go_upto_region 5 with fail
  apply aWa;refine pS ?_;refine bQ rfl 48 (.tmp 2) (.tmp 27) rfl w.heap.size 0 rfl pkZ rfl a1 (by rw[ag,bG];omega) bK jF fun I E g9=>?_;rw[aQ _ _ (by rw[ag,bG])]at E;have a3:=q_ (a2.trans (gB g9));have J:(loadVar 48 ⟨w.heap.size,0,none⟩).run prog I=.ok (.agg pkZ) I:=by
   simpa using run_loadVar_mid I w.heap.size 0 48 pkZ.toList _ (aM E) cMa rfl (by rw[bK,bUa,bG])
  have a4:=q_ (qW (y:=y) 21 (by omega) a3);clear g9;replace ⟨E,J⟩:=q_2 E J;refine pS ?_;refine bCa ?_;go_wp2_with fail
  exact aYa (v:=.tuple #[.agg pkZ,.int .i64 (21:Int)]) (by simp[results,results32,asAddr,J.out,Result.andThen]) rfl a4
 .have t2:¬ (0:Int)<(f:Int):=by omega
  obtain rfl:mo=true:=by rcases hfr' with h|h;exact absurd h bs;exact h
  go_wp2_with fail
  refine(xL (L:Int) N O true U V true W Y X m xc Z es _ al a0).mono ?_;rintro e wf ⟨rfl,j⟩;rw[a8.out];have ba:=q_ (al.on j);have bn:=q_ (aC j bj az);have bo:=aA bn;have bb:=q_ (kB j ak);have bc:=q_ ((tw aj j));have bm:=j.size;clear aa a9 j aj ak al;go_wp2_with fail
  refine(aM9 (L:Int) N O true U V true W Y X m xc Z es _ ba a0).mono ?_;rintro e wm ⟨rfl,aq⟩;rw[a7.out];have a1:=q_ (kB aq bb);have a2:=q_ ((tw bc aq));have bv:=aq.size;clear bo aq ba bb bc;go_upto_region 5 with fail
  apply aWa;refine pS ?_;refine bQ rfl 48 (.tmp 2) (.tmp 27) rfl w.heap.size 0 rfl pkZ rfl a1 (by rw[ag,bG];omega) bK jF fun I E g9=>?_;rw[aQ _ _ (by rw[ag,bG])]at E;have a3:=q_ (a2.trans (gB g9));have J:(loadVar 48 ⟨w.heap.size,0,none⟩).run prog I=.ok (.agg pkZ) I:=by
   simpa using run_loadVar_mid I w.heap.size 0 48 pkZ.toList _ (aM E) cMa rfl (by rw[bK,bUa,bG])
  have a4:=q_ (qW (y:=y) 21 (by omega) a3);clear g9;replace ⟨E,J⟩:=q_2 E J;refine pS ?_;refine bCa ?_;go_wp2_with fail
  exact aYa (v:=.tuple #[.agg pkZ,.int .i64 (21:Int)]) (by simp[results,results32,asAddr,J.out,Result.andThen]) rfl a4
theorem aRh(n:Nat)(xs:List UInt8)(h0:n=0)(y:Array Value)(A:Option Addr)(c:Nat)(w:World)(J:IsB w w.heap.size A n xs)(_hnc:n<=c)(_hcm:c<=maxLen) :
 Cl 11 #[.slice A n c] w fun e w'=>mD 2 y w w' e:=by
 obtain⟨zs,G⟩:=eX pkZ;have L:Hid (Below w.heap.size w (w.alloc (.cells pkZ 48))):=q_ (bC);have N:=q_ (aJ w 48 pkZ);obtain⟨w1,I⟩:=eX (w.alloc (.cells pkZ 48));have ad:w.heap.size<w1.heap.size:=by rw[<-I];simp
 rw[I]at L N;rw[G]at N;unfold pkZ at I;have V:zs.size=23:=G▸bG;have ae:=q_ (J.on L);have t0:((n:Int) == 0)=true:=by rw[fKa];omega
 have W:=q_ L;have X:=q_ N;replace ⟨J,G⟩:=q_2 J G;go_enter func11,ntmps11;go_upto_region 2 with fail
 clear I;apply aWa;refine pS ?_;refine bQ rfl 48 (.tmp 2) (.tmp 8) rfl w.heap.size 0 rfl pkZ rfl X (by rw[V,bG];omega) (by rw[bK,bG]) jF fun j E U=>?_;rw[aQ _ _ (by rw[V,bG])]at E;have Y:=q_ (W.trans (gB U));have O:(loadVar 48 ⟨w.heap.size,0,none⟩).run prog j=.ok (.agg pkZ) j:=by
  simpa using run_loadVar_mid j w.heap.size 0 48 pkZ.toList _ (aM E) cMa rfl (by rw[bK,bUa,bG])
 have Z:Hid (mD 2 y w j (.returned (.tuple #[.agg pkZ,.int .i64 ((2:Nat):Int)]))):=q_ (qW (y:=y) _ (by omega) Y);clear U;replace ⟨E,O⟩:=q_2 E O;refine pS ?_;refine bCa ?_;go_wp2_with fail
 exact aYa (v:=.tuple #[.agg pkZ,.int .i64 ((2:Nat):Int)]) (by simp[results,results11,asAddr,O.out,Result.andThen]) rfl Z
theorem aRg(n:Nat)(xs:List UInt8)(h0:0<n)(hl:n<=9000)(J:(xs.getD 0 0).toNat / 16≠4/\(xs.getD 0 0).toNat / 16≠6)(y:Array Value)(A:Option Addr)(c:Nat)(w:World)(L:IsB w w.heap.size A n xs)(_hnc:n<=c)(_hcm:c<=maxLen) :
 Cl 11 #[.slice A n c] w fun e w'=>mD 10 y w w' e:=by
 obtain⟨zs,G⟩:=eX pkZ;have N:Hid (Below w.heap.size w (w.alloc (.cells pkZ 48))):=q_ (bC);have O:=q_ (aJ w 48 pkZ);obtain⟨w1,I⟩:=eX (w.alloc (.cells pkZ 48));have aj:w.heap.size<w1.heap.size:=by rw[<-I];simp
 rw[I]at N O;rw[G]at O;unfold pkZ at I;have Y:zs.size=23:=G▸bG;have Z:=q_ (L.on N);obtain⟨b,aq,W,rfl,ar,U,au,ag⟩:=Z.byte (i:=0) (by omega);rw[cNa]at ag;rw[U]at J;have t0:((n:Int) == 0)=false:=by rw[bDa];omega
 have t9:¬ (9000:Int)<(n:Int):=by omega
 have t1:(0:Int)<(n:Int):=by omega
 have t2:0<n:=by omega
 have t3:(((W:Int) / 16) == 4)=false:=by rw[bDa];omega
 have t4:(((W:Int) / 16) == 6)=false:=by rw[bDa];omega
 have aa:=q_ N;have ab:=q_ O;replace ⟨L,G,U,J⟩:=q_4 L G U J;go_enter func11,ntmps11;go_upto_region 9 with fail
 clear I;apply aWa;refine pS ?_;refine bQ rfl 48 (.tmp 2) (.tmp 34) rfl w.heap.size 0 rfl pkZ rfl ab (by rw[Y,bG];omega) (by rw[bK,bG]) jF fun j E X=>?_;rw[aQ _ _ (by rw[Y,bG])]at E;have ac:=q_ (aa.trans (gB X));have V:(loadVar 48 ⟨w.heap.size,0,none⟩).run prog j=.ok (.agg pkZ) j:=by
  simpa using run_loadVar_mid j w.heap.size 0 48 pkZ.toList _ (aM E) cMa rfl (by rw[bK,bUa,bG])
 have ad:Hid (mD 10 y w j (.returned (.tuple #[.agg pkZ,.int .i64 ((10:Nat):Int)]))):=q_ (qW (y:=y) _ (by omega) ac);clear X;replace ⟨E,V⟩:=q_2 E V;refine pS ?_;refine bCa ?_;go_wp2_with fail
 exact aYa (v:=.tuple #[.agg pkZ,.int .i64 ((10:Nat):Int)]) (by simp[results,results11,asAddr,V.out,Result.andThen]) rfl ad
theorem aCg(n:Nat)(xs:List UInt8)(h0:0<n)(hl:n<=9000)(U:(xs.getD 0 0).toNat / 16=4)(E:Nat)(y:Array Value)(V:E=0->y.size=23/\y.all (·.oneCell')=true)
 (W:∀(A:Option Addr) (c:Nat) (w:World),IsB w w.heap.size A n xs->n<=c->c<=maxLen->Cl 31 #[.slice A n c] w fun e w'=>mD E y w w' e)
 (A:Option Addr) (c:Nat) (w:World) (X:IsB w w.heap.size A n xs) (aj:n<=c) (ak:c<=maxLen) :
 Cl 11 #[.slice A n c] w fun e w'=>mD E y w w' e:=by
 obtain⟨zs,J⟩:=eX pkZ;have Y:Hid (Below w.heap.size w (w.alloc (.cells pkZ 48))):=q_ (bC);have Z:=q_ (aJ w 48 pkZ);obtain⟨w1,N⟩:=eX (w.alloc (.cells pkZ 48));have am:w.heap.size<w1.heap.size:=by rw[<-N];simp
 rw[N]at Y Z;rw[J]at Z;unfold pkZ at N;have af:zs.size=23:=J▸bG;have ag:=q_ (X.on Y);obtain⟨b,a6,v0,rfl,a7,aa,a8,av⟩:=ag.byte (i:=0) (by omega);rw[cNa]at av;rw[aa]at U;have t0:((n:Int) == 0)=false:=by rw[bDa];omega
 have t9:¬ (9000:Int)<(n:Int):=by omega
 have t1:(0:Int)<(n:Int):=by omega
 have t2:0<n:=by omega
 have t3:(((v0:Int) / 16) == 4)=true:=by rw[fKa];omega
 have an:=q_ (W _ c w1 ag aj ak);replace ⟨X,J,aa,U,W,V⟩:=q_6 X J aa U W V;go_enter func11,ntmps11;go_upto_region 6 with fail
 clear N;apply aWa;refine pS ?_;refine bRa rfl fun K hK=>?_;go_simp;refine an.mono ?_;rintro e w2 ⟨rfl,O⟩;obtain⟨z,L,G,ab⟩:∃z,(if E=0 then y else pkZ)=z/\z.size=23/\z.all (·.oneCell')=true:=by
  by_cases h:E=0
  .exact⟨y,by rw[bBa h],V h⟩
  .exact⟨pkZ,by rw[bAa h],bG,jF⟩
 rw[L];have ao:=q_ ((tw Y O));have ap:=q_ (aC O am Z);have z2:=O.size;clear O;obtain⟨kv,ax⟩:=eX (((E:Nat):Int));have ah:∀(j:World),j.heap[w.heap.size]?=some (.cells z 48 (0,0))->Below w.heap.size w j->(loadVar 48 ⟨w.heap.size,0,none⟩).run prog j=.ok (.agg z) j:=fun j h _=>by
  simpa using run_loadVar_mid j w.heap.size 0 48 z.toList _ (aM h) cMa rfl (by rw[bK,bUa,G])
 clear ax kv;replace ⟨L,ab,ah⟩:=q_3 L ab ah;go_simp;refine hK _ _ ?_;clear hK K;refine pS ?_;refine pS ?_;refine bQ rfl 48 (.tmp 2) (.tmp 22) rfl w.heap.size 0 rfl z rfl ap (by rw[af,G];omega) (by rw[bK,G]) ab fun j I g9=>?_;rw[aQ _ _ (by rw[af,G])]at I;have aq:=q_ (ao.trans (gB g9));have ac:(loadVar 48 ⟨w.heap.size,0,none⟩).run prog j=.ok (.agg z) j:=by
  simpa using run_loadVar_mid j w.heap.size 0 48 z.toList _ (aM I) cMa rfl (by rw[bK,bUa,G])
 have ar:Hid (mD E y w j (.returned (.tuple #[.agg z,.int .i64 ((E:Nat):Int)]))):=q_ (⟨by rw[L.out],aq⟩);clear g9;replace ⟨I,ac⟩:=q_2 I ac;refine pS ?_;refine bCa ?_;go_wp2_with fail
 exact aYa (v:=.tuple #[.agg z,.int .i64 ((E:Nat):Int)]) (by simp[results,results11,asAddr,ac.out,Result.andThen]) rfl ar
theorem aDr(n:Nat)(xs:List UInt8)(h0:0<n)(hl:n<=9000)(U:(xs.getD 0 0).toNat / 16=6)(E:Nat)(y:Array Value)(V:E=0->y.size=23/\y.all (·.oneCell')=true)
 (W:∀(A:Option Addr) (c:Nat) (w:World),IsB w w.heap.size A n xs->n<=c->c<=maxLen->Cl 32 #[.slice A n c] w fun e w'=>mD E y w w' e)
 (A:Option Addr) (c:Nat) (w:World) (X:IsB w w.heap.size A n xs) (ak:n<=c) (al:c<=maxLen) :
 Cl 11 #[.slice A n c] w fun e w'=>mD E y w w' e:=by
 obtain⟨zs,J⟩:=eX pkZ;have Y:Hid (Below w.heap.size w (w.alloc (.cells pkZ 48))):=q_ (bC);have Z:=q_ (aJ w 48 pkZ);obtain⟨w1,N⟩:=eX (w.alloc (.cells pkZ 48));have am:w.heap.size<w1.heap.size:=by rw[<-N];simp
 rw[N]at Y Z;rw[J]at Z;unfold pkZ at N;have ag:zs.size=23:=J▸bG;have ah:=q_ (X.on Y);obtain⟨b,a7,v0,rfl,a8,aa,a9,av⟩:=ah.byte (i:=0) (by omega);rw[cNa]at av;rw[aa]at U;have t0:((n:Int) == 0)=false:=by rw[bDa];omega
 have t9:¬ (9000:Int)<(n:Int):=by omega
 have t1:(0:Int)<(n:Int):=by omega
 have t2:0<n:=by omega
 have t3:(((v0:Int) / 16) == 4)=false:=by rw[bDa];omega
 have t4:(((v0:Int) / 16) == 6)=true:=by rw[fKa];omega
 have an:=q_ (W _ c w1 ah ak al);replace ⟨X,J,aa,U,W,V⟩:=q_6 X J aa U W V;go_enter func11,ntmps11;go_upto_region 8 with fail
 clear N;apply aWa;refine pS ?_;refine bRa rfl fun K hK=>?_;go_simp;refine an.mono ?_;rintro e w2 ⟨rfl,O⟩;obtain⟨z,L,G,ab⟩:∃z,(if E=0 then y else pkZ)=z/\z.size=23/\z.all (·.oneCell')=true:=by
  by_cases h:E=0
  .exact⟨y,by rw[bBa h],V h⟩
  .exact⟨pkZ,by rw[bAa h],bG,jF⟩
 rw[L];have ao:=q_ ((tw Y O));have ap:=q_ (aC O am Z);have z2:=O.size;clear O;obtain⟨kv,ax⟩:=eX (((E:Nat):Int));have ai:∀(j:World),j.heap[w.heap.size]?=some (.cells z 48 (0,0))->Below w.heap.size w j->(loadVar 48 ⟨w.heap.size,0,none⟩).run prog j=.ok (.agg z) j:=fun j h _=>by
  simpa using run_loadVar_mid j w.heap.size 0 48 z.toList _ (aM h) cMa rfl (by rw[bK,bUa,G])
 clear ax kv;replace ⟨L,ab,ai⟩:=q_3 L ab ai;go_simp;refine hK _ _ ?_;clear hK K;refine pS ?_;refine pS ?_;refine bQ rfl 48 (.tmp 2) (.tmp 32) rfl w.heap.size 0 rfl z rfl ap (by rw[ag,G];omega) (by rw[bK,G]) ab fun j I g9=>?_;rw[aQ _ _ (by rw[ag,G])]at I;have aq:=q_ (ao.trans (gB g9));have ac:(loadVar 48 ⟨w.heap.size,0,none⟩).run prog j=.ok (.agg z) j:=by
  simpa using run_loadVar_mid j w.heap.size 0 48 z.toList _ (aM I) cMa rfl (by rw[bK,bUa,G])
 have ar:Hid (mD E y w j (.returned (.tuple #[.agg z,.int .i64 ((E:Nat):Int)]))):=q_ (⟨by rw[L.out],aq⟩);clear g9;replace ⟨I,ac⟩:=q_2 I ac;refine pS ?_;refine bCa ?_;go_wp2_with fail
 exact aYa (v:=.tuple #[.agg z,.int .i64 ((E:Nat):Int)]) (by simp[results,results11,asAddr,ac.out,Result.andThen]) rfl ar
theorem aTs(n:Nat)(xs:List UInt8)(K J id:Nat)(L N:Bool)(O V W X Y Z m1:Nat)(rest:List UInt8)(hK:K≠0)(j:uX n xs K J id L N O V W X Y Z m1 rest)(U:List UInt8)(A:Option Addr)(c:Nat)(w:World)(E:IsB w w.heap.size A n xs)(ae:n<=c)(af:c<=maxLen) :
 Cl 126 #[.slice A n c] w fun e w'=>dE K U w w' e:=by
 have t1:((K:Int) != 0)=true:=by rw[dLa];omega
 replace ⟨E,j⟩:=q_2 E j;go_enter func126,ntmps126;go_wp2_with fail
 refine(j _ c _ E ae af).mono ?_;rintro e G ⟨A1,c1,A2,c2,rfl,hr,ao,ap,I⟩;obtain⟨wa,ab⟩:=eX (G.alloc (dS J id L N O V W false 0 X false 0 Y A1 Z c1));have hB:=I.trans ((ab▸bC:Below G.heap.size G wa).mono I.size);have ag:=q_ (dE.no U hK hB);unfold dS at ab;unfold fE;clear hr I hB;go_wp2_with fail
 go_ret2;exact ag
theorem aTt(n:Nat)(xs:List UInt8)(G id:Nat)(I J:Bool)(L j N O V W m1:Nat)(rest:List UInt8)(X:uX n xs 0 G id I J L j N O V W m1 rest)(ht:j<2)(U:List UInt8)(A:Option Addr)(c:Nat)(w:World)(Y:IsB w w.heap.size A n xs)(ag:n<=c)(ah:c<=maxLen) :
 Cl 126 #[.slice A n c] w fun e w'=>dE 20 U w w' e:=by
 replace ⟨Y,X⟩:=q_2 Y X;go_enter func126,ntmps126;go_wp2_with fail
 refine(X _ c _ Y ag ah).mono ?_;rintro e E ⟨A1,c1,A2,c2,rfl,hr,ap,aq,ab⟩;obtain⟨wa,aa⟩:=eX (E.alloc (dS G id I J L j N false 0 O false 0 V A1 W c1));have Z:=aa▸aJ E 167 #[.int .i64 G,.int .i64 id,.bool I,.bool J,.int .i64 L,.int .i64 j,.int .i64 N,.bool false,.int .u64 0,.int .u64 O,.bool false,.int .u64 0,.int .u64 V,.slice A1 W c1];have hB:=ab.trans ((aa▸bC:Below E.heap.size E wa).mono ab.size);have ai:=q_ (dE.no U (show 20≠0 by decide) hB);have am:=aA Z;unfold dS at aa;unfold fE;clear hr ab hB;replace Z:=q_ Z;go_wp2_with fail
 go_ret2;exact ai
theorem aTu(n:Nat)(xs:List UInt8)(ad id:Nat)(df mf:Bool)(ag U ah ai aj J m1:Nat)(rest:List UInt8)(hS:uX n xs 0 ad id df mf ag U ah ai aj J m1 rest)(ht:2<=U)(T:Nat)(V:20+J+m1=T)(b4:T<=n)(hn:n<=65535)(h8:1<=(xs.getD 8 0).toNat)
 (A:Option Addr) (c:Nat) (w:World) (W:IsB w w.heap.size A n xs) (bl:n<=c) (bn:c<=maxLen) :
 Cl 126 #[.slice A n c] w fun e w'=>dE 0 (jM xs T) w w' e:=by
 replace ⟨W,hS⟩:=q_2 W hS;go_enter func126,ntmps126;go_wp2_with fail
 refine(hS _ c _ W bl bn).mono ?_;rintro e w2 ⟨A1,c1,A2,c2,rfl,hr,ci,cj,a5⟩;obtain⟨wa,ar⟩:=eX (w2.alloc (dS ad id df mf ag U ah false 0 ai false 0 aj A1 J c1));have a9:Below w2.heap.size w2 wa:=ar▸bC;have ba:=ar▸aJ w2 167 #[.int .i64 ad,.int .i64 id,.bool df,.bool mf,.int .i64 ag,.int .i64 U,.int .i64 ah,.bool false,.int .u64 0,.int .u64 ai,.bool false,.int .u64 0,.int .u64 aj,.slice A1 J c1];have j:=a5.trans (a9.mono a5.size);have bo:=aA ba;unfold dS at ar;unfold fE;clear hr a9 a5 ba;have b1:J<=65535:=by omega
 have b2:m1<=65535:=by omega
 replace ⟨V,j⟩:=q_2 V j;go_wp2_with fail
 clear ar bo;refine(uB ad id df mf ag U ah false 0 ai false 0 aj A1 J c1 _ (by omega)).mono ?_;rintro e E ⟨rfl,bj⟩;replace j:=q_ (j.trans (bj.mono j.size));clear bj;have z3:=j.size;obtain⟨w4,bw,al,bg⟩:=aR1 T (by have:=V.out;omega) E;have s1:20+(J:Int)+(m1:Int)=(T:Int):=by have:=V.out;omega
 replace j:=q_ (j.trans (bg.mono j.size));clear bg;replace al:=q_ al;go_upto_region 7 with fail
 clear s1 bw;apply aWa;iterate 2 refine pS ?_
 have bd:=W.out.1;have bq:20<=T:=by have:=V.out;omega
 refine aSy rfl (.tmp 30) (.tmp 31) rfl E.heap.size E.heap.size T T 0 T T n c w4.heap.size T A (List.replicate T 0) xs rfl rfl al (W.on j) (by omega) (by omega) (by omega) fun w5 X a8=>?_;rw[aSf _ _ (by rw[dCa,bGa];omega)]at X;replace j:=q_ (j.trans (a8.mono z3));clear al a8;refine bCa ?_;have am:=X.reads.2.2.2;obtain⟨G,aq,cd,bh⟩:=am.uZ (i:=8) (by omega);rw[getD_take xs T 8 (by omega)]at aq;rw[dWa]at bh;have br:1<=G:=by omega
 obtain⟨g,ce,bx,bz,bi,-⟩:=X.row (by omega)
 cases bx
 have bs:=bD bi 8;have L:=X.store 8 (UInt8.ofNat (G - 1));rw[rG (G - 1) (by omega)]at L;rw[show(((G - 1:Nat):Int))=(G:Int) - 1 by omega]at L;obtain⟨w6,a2⟩:∃w6,w5.setCell ⟨E.heap.size,8,none⟩ (.int .u8 ((G:Int) - 1))=w6:=⟨_,rfl⟩
 have be:w5.grownBy w6 (some E.heap.size):=a2▸fG (dR _ _) rfl _;have Y:=j.trans (below_grown be (j.size) z3);rw[a2]at L;have N:=L.reads.2.2.2;obtain⟨I,O⟩:∃I,(xs.take T).set 8 (UInt8.ofNat (G - 1))=I:=⟨_,rfl⟩
 rw[O]at L N;obtain⟨m,Z⟩:=eX (beN (xs.take T) 8 2);obtain⟨m',ab⟩:∃m,beN I 8 2=m:=⟨_,rfl⟩
 obtain⟨c0,aa⟩:∃m,beN I 10 2=m:=⟨_,rfl⟩
 obtain⟨c',ac⟩:∃q,rZ c0 m m'=q:=⟨_,rfl⟩
 have bm:m<65536:=Z▸bX _ 8 2;have bm':m'<65536:=ab▸bX _ 8 2;have bc:c0<65536:=aa▸bX _ 10 2;have bc':c'<=65535:=ac▸aGc _ _ _;have a0:dJ I 10 (beB c' 2)=jM xs T:=by
  have:=aTy xs T G bq (by omega) aq br m m' c0 c' Z (O▸ab) (O▸aa) ac
  rwa[O]at this
 have i8:(8:Int)<(T:Int):=by omega
 have an:=fun w'=>fB 8 2 8 2 rfl rfl (some ⟨E.heap.size,0,none⟩) T T (xs.take T) w'
 have ao:=fun w'=>fB 8 2 8 2 rfl rfl (some ⟨E.heap.size,0,none⟩) T T I w'
 have ap:=fun w'=>fB 10 2 10 2 rfl rfl (some ⟨E.heap.size,0,none⟩) T T I w'
 rw[Z]at an;rw[ab]at ao;rw[aa]at ap;have a1:T<=maxLen:=by unfold maxLen;omega
 clear bi bz be X;replace ⟨aq,O,Z,ab,aa,ac,a0,L,am,N,Y,an⟩:=q_12 aq O Z ab aa ac a0 L am N Y an;replace ⟨ao,ap,bd⟩:=q_3 ao ap bd;go_wp2_with fail
 refine(an _ am a1 (by omega) (by omega)).mono ?_;rintro e w' ⟨rfl,rfl⟩;go_wp2_with fail
 clear bh bs a2;refine(ap _ N a1 (by omega) (by omega)).mono ?_;rintro e w' ⟨rfl,rfl⟩;go_wp2_with fail
 refine(ao _ N a1 (by omega) (by omega)).mono ?_;rintro e w' ⟨rfl,rfl⟩;go_wp2_with fail
 refine(aEg c0 m m' _ (by omega) (by omega) (by omega)).mono ?_;rintro e w' ⟨rfl,rfl⟩;rw[ac.out];go_wp2_with fail
 refine(aCb (some ⟨E.heap.size,0,none⟩) T T I 10 c' 2 _ _ _ rfl rfl rfl _ N (by omega) (by omega) (by omega) (by omega) (by omega)).mono ?_;rintro e w7 ⟨v7,rfl,a6,bk⟩;rw[a0.out]at a6;have bf:=Y.trans (bk.mono Y.size);have bt:=q_ (dE.yes (a6.weaken Y.size) bf);clear a6 bk bf;go_wp2_with fail
 go_ret2;exact bt
theorem aTv(n:Nat)(xs:List UInt8)(K:Nat)(E G I:Int)(J:Bool)(L N:Int)(O:Bool)(V W:Int)(ad:List (Int×List UInt8))(Y m1:Nat)(rest:List UInt8)(Z:yA n xs K E G I J L N O V W ad Y m1 rest)(hK:K≠0)(ae:∀e∈ad,e.2.length<=2047)(U:List UInt8)(A:Option Addr)(c:Nat)(w:World)(hx:IsB w w.heap.size A n xs)(al:n<=c)(am:c<=maxLen) :
 Cl 127 #[.slice A n c] w fun e w'=>dE K U w w' e:=by
 have t1:((K:Int) != 0)=true:=by rw[dLa];omega
 replace ⟨hx,Z,ae⟩:=q_3 hx Z ae;go_enter func127,ntmps127;go_wp2_with fail
 refine(Z _ c _ hx al am).mono ?_;rintro e j ⟨X,m,xc,A2,c2,es,rfl,aq,hX,az,a0,hr,a1,a2,ac⟩;obtain⟨wa,ab⟩:=eX (j.alloc (bS E G I J L N O V W X m xc Y));have af:Below j.heap.size j wa:=ab▸bC;have ag:=ab▸aJ j 164 #[.int .i64 E,.int .i64 G,.int .i64 I,.bool J,.int .u64 L,.int .u64 N,.bool O,.int .u64 V,.int .u64 W,.slice X m xc,.int .i64 Y];have hB:=ac.trans (af.mono ac.size);have an:=aA ag;unfold bS at ab;have ao:=q_ (dE.no U hK hB);clear hr ac hB hX aq an ag af;go_wp2_with fail
 go_ret2;exact ao
theorem aTw(n:Nat)(xs:List UInt8)(G I j:Int)(J:Bool)(L N:Int)(O:Bool)(V W:Int)(ad:List (Int×List UInt8))(Y m1:Nat)(rest:List UInt8)(Z:yA n xs 0 G I j J L N O V W ad Y m1 rest)(ht:j<2)(ae:∀e∈ad,e.2.length<=2047)(U:List UInt8)(A:Option Addr)(c:Nat)(w:World)(hx:IsB w w.heap.size A n xs)(ak:n<=c)(al:c<=maxLen) :
 Cl 127 #[.slice A n c] w fun e w'=>dE 20 U w w' e:=by
 replace ⟨hx,Z,ae⟩:=q_3 hx Z ae;go_enter func127,ntmps127;go_wp2_with fail
 refine(Z _ c _ hx ak al).mono ?_;rintro e E ⟨X,m,xc,A2,c2,es,rfl,ao,hX,ay,az,hr,a0,a1,ac⟩;obtain⟨wa,ab⟩:=eX (E.alloc (bS G I j J L N O V W X m xc Y));have af:Below E.heap.size E wa:=ab▸bC;have ag:=ab▸aJ E 164 #[.int .i64 G,.int .i64 I,.int .i64 j,.bool J,.int .u64 L,.int .u64 N,.bool O,.int .u64 V,.int .u64 W,.slice X m xc,.int .i64 Y];have hB:=ac.trans (af.mono ac.size);have au:=aA ag;unfold bS at ab;have am:=q_ (dE.no U (show 20≠0 by decide) hB);clear hr ac hB hX ao ag af;go_wp2_with fail
 go_ret2;exact am
theorem aTx(n:Nat)(xs:List UInt8)(V W J:Int)(Y:Bool)(Z sl:Int)(b2:Bool)(dh dl:Int)(ae:List (Int×List UInt8))(nx L:Nat)(rest:List UInt8)(hS:yA n xs 0 V W J Y Z sl b2 dh dl ae nx L rest)(ht:2<=J)(bd:ae.length<=8)(an:∀e∈ae,e.2.length<=2047)(T:Nat)(hT:40+nK ae+L=T)(be:T<=n)(hn:n<=65535)(h7:1<=(xs.getD 7 0).toNat)
 (A:Option Addr) (c:Nat) (w:World) (N:IsB w w.heap.size A n xs) (bf:n<=c) (bg:c<=maxLen) :
 Cl 127 #[.slice A n c] w fun e w'=>dE 0 (jQ xs T) w w' e:=by
 replace ⟨N,hS,an⟩:=q_3 N hS an;go_enter func127,ntmps127;go_wp2_with fail
 refine(hS _ c _ N bf bg).mono ?_;rintro e w2 ⟨X,m,xc,A2,c2,es,rfl,O,hX,ca,cc,hr,cd,ce,az⟩;obtain⟨wa,aj⟩:=eX (w2.alloc (bS V W J Y Z sl b2 dh dl X m xc nx));have aq:Below w2.heap.size w2 wa:=aj▸bC;have a1:=aj▸aJ w2 164 #[.int .i64 V,.int .i64 W,.int .i64 J,.bool Y,.int .u64 Z,.int .u64 sl,.bool b2,.int .u64 dh,.int .u64 dl,.slice X m xc,.int .i64 nx];have j:=az.trans (aq.mono az.size);have bi:=aA a1;unfold bS at aj;have ar:=hX.on aq;have bj:m<=8:=by rw[<-hX.1,<-rU,O];exact bd
 have au:∀e∈es,e.xs.length<=2047:=fun e he=>an (Ext.pe e) (O▸(List.mem_map_of_mem he:Ext.pe e∈pes es))
 obtain⟨G,ag⟩:∃G,40+xR es=G:=⟨_,rfl⟩
 have a2:G+L=T:=by rw[<-ag,aAt,O];exact hT
 have bt:40<=T:=by omega
 have bk:=q_ N.1;clear hr aq az a1;replace ⟨hT,O,au,ag,hX,ar,j⟩:=q_7 hT O au ag hX ar j;have s1:(G:Int)+(L:Int)=(T:Int):=by omega
 have l1:(T:Int)<=(c:Int):=by omega
 have b1':G<=65535:=by omega
 have b2':L<=65535:=by omega
 replace a2:=q_ a2;go_wp2_with fail
 clear aj bi;refine(vD V W J Y Z sl b2 dh dl X m xc nx es _ ar bj au G ag).mono ?_;rintro e w3 ⟨rfl,ba⟩;replace j:=q_ (j.trans (ba.mono j.size));clear ba;have a3:=(N.on j).take (m:=T) be;have z3:=j.size;go_wp2_with (at_builtin;refine sD rfl _ (.tmp 28) rfl w3.heap.size (.slice none 0 0) [] (xs.take T) A T c w3.heap.size rfl rfl (aZ.nil _ _) a3 (aZa _) ?_ ?_)
 ·simp;omega
 intro v4 w4 U bc;have a4:=bc.qG;obtain⟨A4,c4,rfl,bm,b5,ax⟩:=U.form;have tl:(xs.take T).length=T:=by rw[bGa,bk.out];omega
 rw[tl]at U ax bm ⊢;replace j:=q_ (j.trans (a4.mono j.size));clear a4;clear bc;obtain⟨g,b6,rfl,bn,a8,-⟩:=U.row (by omega);obtain⟨E,ai,b7,bo⟩:=ax.uZ (i:=7) (by omega);rw[getD_take xs T 7 (by omega)]at ai;rw[dWa]at bo;have bx:=bD a8 7;have I:=U.store 7 (UInt8.ofNat (E - 1));rw[rG (E - 1) (by omega)]at I;rw[show(((E - 1:Nat):Int))=(E:Int) - 1 by omega]at I;obtain⟨w5,a9⟩:∃w5,w4.setCell ⟨g,7,none⟩ (.int .u8 ((E:Int) - 1))=w5:=⟨_,rfl⟩
 have a5:w4.grownBy w5 (some g):=a9▸fG (dR _ _) rfl _;have a6:=j.trans (below_grown a5 (j.size) (by omega));rw[a9]at I;have hY:(xs.take T).set 7 (UInt8.ofNat (E - 1))=jQ xs T:=by unfold jQ;rw[ai]
 rw[hY]at I;have aw:=dE.yes (I.weaken (show w.heap.size<=w3.heap.size by omega)) a6;have i7:(7:Int)<(T:Int):=by omega
 have b0:1<=E:=by omega
 clear I a5 a6 hY U ax a8 bn a3;replace ⟨aw,ai,tl⟩:=q_3 aw ai tl;go_wp2_with fail
 go_ret2;exact aw
theorem uC(n:Nat)(xs:List UInt8)(K:Nat)(U:List UInt8)(A:Option Addr)(c:Nat)(w:World)(j:IsB w w.heap.size A n xs)(ah:n<=c)(ai:c<=maxLen)
 (Y:n=0->K=2) (E:0<n->(xs.getD 0 0).toNat / 16=4->∀w':World,IsB w' w'.heap.size A n xs->Cl 126 #[.slice A n c] w' fun e ab=>dE K U w' ab e)
 (G:0<n->(xs.getD 0 0).toNat / 16=6->∀w':World,IsB w' w'.heap.size A n xs->Cl 127 #[.slice A n c] w' fun e ab=>dE K U w' ab e)
 (I:0<n->(xs.getD 0 0).toNat / 16≠4->(xs.getD 0 0).toNat / 16≠6->K=10) :
 Cl 85 #[.slice A n c] w fun e w'=>dE K U w w' e:=by
 by_cases L:n=0
 ·subst L;obtain rfl:=Y rfl;have ac:=q_ (dE.no U (show 2≠0 by decide) (bLa w.heap.size w));replace ⟨j,E,G,I⟩:=q_4 j E G I;go_enter func85,ntmps85;go_wp2_with fail
  go_ret2;exact ac
 have Z:0<n:=by omega
 obtain⟨b,al,W,rfl,am,J,an,af⟩:=j.byte (i:=0) Z;rw[cNa]at af;rw[J]at E G I;have t2:(0:Int)<(n:Int):=by omega
 have t3:((n:Int) == 0)=false:=by rw[bDa];omega
 by_cases X:W / 16=4
 ·have t1:(((W:Int) / 16) == 4)=true:=by rw[fKa];omega
  replace E:=E Z X;clear Y G I X;replace ⟨j,E,J,L⟩:=q_4 j E J L;go_enter func85,ntmps85;go_wp2_with fail
  refine(E _ j).mono ?_;rintro e w2 ⟨v,rfl,N,O,V⟩;replace ⟨N,O,V⟩:=q_3 N O V;go_wp2_with fail
  go_ret2;exact⟨v,rfl,N,O,V⟩
 have t1:(((W:Int) / 16) == 4)=false:=by rw[bDa];omega
 by_cases k6:W / 16=6
 ·have t4:(((W:Int) / 16) == 6)=true:=by rw[fKa];omega
  replace G:=G Z k6;clear Y E I X k6;replace ⟨j,G,J,L⟩:=q_4 j G J L;go_enter func85,ntmps85;go_wp2_with fail
  refine(G _ j).mono ?_;rintro e w2 ⟨v,rfl,N,O,V⟩;replace ⟨N,O,V⟩:=q_3 N O V;go_wp2_with fail
  go_ret2;exact⟨v,rfl,N,O,V⟩
 ·have t4:(((W:Int) / 16) == 6)=false:=by rw[bDa];omega
  obtain rfl:=I Z X k6;have ac:=q_ (dE.no U (show 10≠0 by decide) (bLa w.heap.size w));clear Y E G I X k6;replace ⟨j,J,L⟩:=q_3 j J L;go_enter func85,ntmps85;go_wp2_with fail
  go_ret2;exact ac
def aBh (n:Nat) (xs:List UInt8) (sv:Bool) (shi slo:Int) (dv:Bool) (dhi dlo:Int):Nat :=
 if vC n xs≠0 then vC n xs else if sv≠dv\/okA sv shi slo=false\/okA dv dhi dlo=false then 18 else 0
theorem wrap_no(j:Bool)(G I:Int)(E:Bool)(J L:Int)(A:Option Addr)(n c:Nat)(xs:List UInt8)(w:World)(hx:IsB w w.heap.size A n xs)(hn:n<=4096)(K:Nat)(N:aBh n xs j G I E J L=K)(al:K≠0) :
 Cl 87 #[vJ j G I,vJ E J L,.slice A n c] w fun e w'=>e=.returned (.tuple #[.slice none 0 0,.int .i64 (K:Int)])/\Below w.heap.size w w':=by
 obtain⟨w1,U⟩:=eX ((w.alloc (.cells #[.bool j,.int .u64 G,.int .u64 I] 27)).alloc (.cells #[.bool E,.int .u64 J,.int .u64 L] 27));have V:Hid (Below w.heap.size w w1):=q_ (U▸bC.alloc (by simp) _);have am:Hid (w1.heap[w.heap.size]?=some (.cells #[.bool j,.int .u64 G,.int .u64 I] 27 (0,0))):=q_ (U▸kE _ (by simp) (aJ _ _ _));have aj:Hid (w1.heap[w.heap.size+1]?=some (.cells #[.bool E,.int .u64 J,.int .u64 L] 27 (0,0))):=q_ (U▸(by simpa using aJ (w.alloc (.cells #[.bool j,.int .u64 G,.int .u64 I] 27)) 27 #[.bool E,.int .u64 J,.int .u64 L]));have an:w.heap.size+1<w1.heap.size:=by rw[<-U];simp
 have ab:=q_ (hx.on V);have ao:=aA am;have ag:=aA aj;obtain⟨p,Y⟩:=eX (yP xs);obtain⟨k,W⟩:=eX (vC n xs);unfold aBh at N;rw[W]at N;have ac:n<=maxLen:=by unfold maxLen;omega
 replace ⟨hx,Y,W⟩:=q_3 hx Y W;unfold vJ;by_cases ai:k≠0
 .rw[bBa ai]at N;subst N;have t1:((k:Int) != 0)=true:=by rw[dLa];omega
  go_enter func87,ntmps87;go_wp2_with fail
  refine(vZ A n c xs _ ab ac p k Y W).mono ?_;rintro e w' ⟨rfl,rfl⟩;clear U;go_wp2_with fail
  go_ret2;exact⟨rfl,V⟩
 rw[bAa ai]at N;have t1:((k:Int) != 0)=false:=by rw[dQa];omega
 have O:j≠E\/okA j G I=false\/okA E J L=false:=by
  by_cases h:j≠E\/okA j G I=false\/okA E J L=false
  .exact h
  .rw[bAa h]at N;exact absurd N.symm al
 obtain rfl:K=18:=by rw[<-N,bBa O]
 clear N ai;by_cases Z:j≠E
 .have t2:(j != E)=true:=by rw[dLa];exact Z
  replace ⟨O,Z⟩:=q_2 O Z;go_enter func87,ntmps87;go_wp2_with fail
  refine(vZ A n c xs _ ab ac p k Y W).mono ?_;rintro e w' ⟨rfl,rfl⟩;clear U;go_wp2_with fail
  go_ret2;exact⟨rfl,V⟩
 obtain rfl:j=E:=by simpa using Z
 rcases X:okA j G I with _|_
 .replace ⟨O,X⟩:=q_2 O X;clear Z;go_enter func87,ntmps87;go_wp2_with fail
  refine(vZ A n c xs _ ab ac p k Y W).mono ?_;rintro e w' ⟨rfl,rfl⟩;clear U;go_wp2_with fail
  refine(jB j G I false _ X).mono ?_;rintro e w2 ⟨rfl,aa⟩;have ad:=q_ (V.trans (aa.mono V.size));clear aa;go_wp2_with fail
  go_ret2;exact⟨rfl,ad⟩
 .have hd:okA j J L=false:=by
   rcases O with h|h|h
   .exact absurd rfl h
   .rw[X]at h;cases h
   .exact h
  replace ⟨O,X,hd⟩:=q_3 O X hd;clear Z;go_enter func87,ntmps87;go_wp2_with fail
  refine(vZ A n c xs _ ab ac p k Y W).mono ?_;rintro e w' ⟨rfl,rfl⟩;clear U;go_wp2_with fail
  refine(jB j G I true _ X).mono ?_;rintro e w2 ⟨rfl,aa⟩;have aq:=q_ (aC aa an aj);have ad:=q_ (V.trans (aa.mono V.size));clear aa ao ag;have ag:=aA aq;go_wp2_with fail
  refine(jB j J L false _ hd).mono ?_;rintro e w3 ⟨rfl,ak⟩;have ar:=q_ (ad.trans (ak.mono ad.size));clear ak ag;go_wp2_with fail
  go_ret2;exact⟨rfl,ar⟩
theorem wrap_six(j E G I:Nat)(A:Option Addr)(n c:Nat)(xs:List UInt8)(w:World)(W:IsB w w.heap.size A n xs)(hn:n<=4096)(an:n<=c)(ao:c<=maxLen)(p:Nat)(X:yP xs=p)(Y:vC n xs=0)
 (b5:j<18446744073709551616) (b6:E<18446744073709551616) (b7:G<18446744073709551616) (b8:I<18446744073709551616) (Z:p=4\/p=41) :
 Cl 87 #[vJ true j E,vJ true G I,.slice A n c] w fun e w'=>∃v,e=.returned (.tuple #[v,.int .i64 0])/\aZ w' w.heap.size v (aAy 0 0 64 j E G I p [] xs)/\Below w.heap.size w w':=by
 obtain⟨V,O⟩:=eX ((w.alloc (.cells #[.bool true,.int .u64 j,.int .u64 E] 27)).alloc (.cells #[.bool true,.int .u64 G,.int .u64 I] 27));have ab:Hid (Below w.heap.size w V):=q_ (O▸bC.alloc (by simp) _);have ae:Hid (V.heap[w.heap.size]?=some (.cells #[.bool true,.int .u64 j,.int .u64 E] 27 (0,0))):=q_ (O▸kE _ (by simp) (aJ _ _ _));have af:Hid (V.heap[w.heap.size+1]?=some (.cells #[.bool true,.int .u64 G,.int .u64 I] 27 (0,0))):=q_ (O▸(by simpa using aJ (w.alloc (.cells #[.bool true,.int .u64 j,.int .u64 E] 27)) 27 #[.bool true,.int .u64 G,.int .u64 I]));have av:w.heap.size+1<V.heap.size:=by rw[<-O];simp
 have ag:=q_ (W.on ab);have L:=aA ae;have N:=aA af;have aw:n<=maxLen:=by unfold maxLen;omega
 have ax:p<=255:=by omega
 have ac:sS 0 0 64 true true p (pes [])=true:=by
  rcases Z with rfl|rfl<;>decide
 replace ⟨W,X,Y,Z,ac⟩:=q_5 W X Y Z ac;unfold vJ;go_enter func87,ntmps87;go_wp2_with fail
 refine(vZ A n c xs _ ag aw p 0 X Y).mono ?_;rintro e w' ⟨rfl,rfl⟩;clear O;go_wp2_with fail
 refine(jB true j E true _ rfl).mono ?_;rintro e w2 ⟨rfl,J⟩;have ah:=q_ (kB J ae);have ai:=q_ (aC J av af);have aj:=q_ (ab.trans (J.mono ab.size));have ay:w.heap.size+1<w2.heap.size:=by have:=J.size;omega
 have az:=q_ (ag.on J);clear J L N;have L:=aA ah;have N:=aA ai;go_wp2_with fail
 refine(jB true G I true _ rfl).mono ?_;rintro e w3 ⟨rfl,U⟩;have a0:=q_ (kB U ah);have a1:=q_ (aC U ay ai);have ad:=q_ (aj.trans (U.mono aj.size));have a2:=q_ (az.on U);clear U L N;have L:=aA a0;have N:=aA a1;go_wp2_with fail
 refine(aJ2 0 0 64 true j E true G I none 0 0 p [] A n c xs _ (IsX.nil _ _ _) (by omega) (by unfold maxLen;omega) a2 an ao rfl rfl (by omega) (by omega) (by omega) ax b5 b6 b7 b8 (by omega) hn (fun e he=>by cases he) (fun e he=>by cases he) ac).mono ?_;rintro e w4 ⟨v,rfl,ak,al⟩;have a3:=q_ (ad.trans (al.mono ad.size));have a4:=q_ (ak.weaken ad.size);clear al ak L N;go_wp2_with fail
 go_ret2;exact⟨_,rfl,a4,a3⟩
theorem aVe(j E:Nat)(A:Option Addr)(n c:Nat)(xs:List UInt8)(w:World)(U:IsB w w.heap.size A n xs)(hn:n<=4096)(p:Nat)(V:yP xs=p)(W:vC n xs=0)
 (b6:j<4294967296) (b8:E<4294967296) (Z:p=4\/p=41) :
 Cl 87 #[vJ false 0 j,vJ false 0 E,.slice A n c] w fun e w'=>∃v,e=.returned (.tuple #[v,.int .i64 0])/\aZ w' w.heap.size v (hdB 0 0 16384 64 p j E [] n++xs)/\Below w.heap.size w w':=by
 obtain⟨O,L⟩:=eX ((w.alloc (.cells #[.bool false,.int .u64 0,.int .u64 j] 27)).alloc (.cells #[.bool false,.int .u64 0,.int .u64 E] 27));have X:Hid (Below w.heap.size w O):=q_ (L▸bC.alloc (by simp) _);have aa:Hid (O.heap[w.heap.size]?=some (.cells #[.bool false,.int .u64 0,.int .u64 j] 27 (0,0))):=q_ (L▸kE _ (by simp) (aJ _ _ _));have ab:Hid (O.heap[w.heap.size+1]?=some (.cells #[.bool false,.int .u64 0,.int .u64 E] 27 (0,0))):=q_ (L▸(by simpa using aJ (w.alloc (.cells #[.bool false,.int .u64 0,.int .u64 j] 27)) 27 #[.bool false,.int .u64 0,.int .u64 E]));have ak:w.heap.size+1<O.heap.size:=by rw[<-L];simp
 have ac:=q_ (U.on X);have I:=aA aa;have J:=aA ab;have al:n<=maxLen:=by unfold maxLen;omega
 have am:p<=255:=by omega
 have an:Hid (okA false 0 j=true):=q_ (by simp[okA];omega);have ao:Hid (okA false 0 E=true):=q_ (by simp[okA];omega);replace ⟨U,V,W,Z⟩:=q_4 U V W Z;unfold vJ;go_enter func87,ntmps87;go_wp2_with fail
 refine(vZ A n c xs _ ac al p 0 V W).mono ?_;rintro e w' ⟨rfl,rfl⟩;clear L;go_wp2_with fail
 refine(jB false 0 j true _ an).mono ?_;rintro e w2 ⟨rfl,G⟩;have ad:=q_ (kB G aa);have ae:=q_ (aC G ak ab);have af:=q_ (X.trans (G.mono X.size));have ap:w.heap.size+1<w2.heap.size:=by have:=G.size;omega
 have aq:=q_ (ac.on G);clear G I J;have I:=aA ad;have J:=aA ae;go_wp2_with fail
 refine(jB false 0 E true _ ao).mono ?_;rintro e w3 ⟨rfl,N⟩;have ar:=q_ (kB N ad);have au:=q_ (aC N ap ae);have Y:=q_ (af.trans (N.mono af.size));have av:=q_ (aq.on N);clear N I J;have I:=aA ar;have J:=aA au;go_wp2_with fail
 refine(aBw 0 0 true false 0 64 p j E 16384 rfl none 0 0 [] A n c xs _ (by omega) (by omega) (by omega) (by omega) am b6 b8 (by omega) (by omega) (IsB.nil _ _ _) av (by omega)).mono ?_;rintro e w4 ⟨v,rfl,ag,ah⟩;have aw:=q_ (Y.trans (ah.mono Y.size));have ax:=q_ (ag.weaken Y.size);clear ah ag I J;go_wp2_with fail
 go_ret2;exact⟨_,rfl,ax,aw⟩
theorem pcut_as(A:Option Addr)(n c j:Nat)(w:World)(E:n<=maxLen)(G:n<=c)(I:min n 500=j) :
 Cl 10 #[.slice A n c] w fun e w'=>e=.returned (.slice A j c)/\w=w':=by
 unfold maxLen at E;by_cases h:500<n
 .obtain rfl:j=500:=by omega
  go_enter func10,ntmps10;go_wp2;go_ret;exact⟨rfl,rfl⟩
 .obtain rfl:j=n:=by omega
  go_enter func10,ntmps10;go_wp2;go_ret;exact⟨rfl,rfl⟩
def dgK (sp dp:Int):Nat:=if pX sp dp=true then 0 else 1
theorem udp_in(j E:Int)(A:Option Addr)(n c:Nat)(P:Option Addr)(m d:Nat)(xs G:List UInt8)(w:World)(L:IsB w w.heap.size A n xs)(N:IsB w w.heap.size P m G)(V:n<=4000)(O:m<=maxLen) :
 Cl 51 #[.agg #[.int .i64 j,.int .i64 E,.bool false],.slice A n c,.slice P m d] w fun e w'=>dE (dgK j E) (dgB G j.toNat E.toNat xs) w w' e:=by
 by_cases h:pX j E=true
 .have I:dgK j E=0:=by unfold dgK;rw[bBa h]
  unfold pX at h;rw[cBa]at h;have:=aLe j.toNat E.toNat A n c P m d xs G w (by omega) (by omega) L N (by omega) O;rw[show((j.toNat:Nat):Int)=j by omega,show((E.toNat:Nat):Int)=E by omega]at this;refine this.mono ?_;rintro e w' ⟨v,rfl,U,J⟩;rw[I];exact .yes U J
 .have I:dgK j E=1:=by unfold dgK;rw[bAa h]
  refine(bytes_no j E A n c P m d w (by simpa using h)).mono ?_;rintro e w' ⟨rfl,J⟩;rw[I];exact .no _ (by omega) J
theorem lit_dg(Y:Int)(Z:Bool)(aa ab:Int)(dv:Bool)(ad ae j E:Int)(W X:Nat)(A:Option Addr)(n c:Nat)(P:Option Addr)(m d:Nat)(xs I:List UInt8)(w:World)(G:w.heap[W]?=some (.cells (tuA Y Z aa ab dv ad ae j E) 46 (0,0)))(J:w.heap[X]?=some (.cells #[.slice A n c] 43 (0,0)))
 (L:IsB w w.heap.size A n xs) (N:IsB w w.heap.size P m I) (hn:n<=4000) (hm:m<=maxLen) :
 Cl 50 #[.slice P m d,.pointer (some ⟨W,0,none⟩),.pointer (some ⟨X,0,none⟩)] w fun e w'=>dE (dgK j E) (dgB I j.toNat E.toNat xs) w w' e:=by
 unfold tuA at G;have ah:=aA G;have ai:=aA J;replace ⟨G,J,L,N⟩:=q_4 G J L N;go_enter func50,ntmps50;go_wp2_with fail
 refine(udp_in j E A n c P m d xs I _ L N hn hm).mono ?_;rintro e w4 ⟨v4,rfl,O,U,V⟩;clear ah ai;replace ⟨O,U,V⟩:=q_3 O U V;go_wp2_with fail
 go_ret2;exact⟨v4,rfl,O,U,V⟩
def kY (v6:Bool) (shi slo dhi dlo pr sz:Nat):List UInt8:=if v6=true then kR shi slo dhi dlo sz pr else((beB slo 4++beB dlo 4)++[0,UInt8.ofNat pr])++beB sz 2
def xE (v6:Bool) (shi slo dhi dlo pr:Nat) (ttl:Int) (U:List UInt8):List UInt8:=if v6=true then aAy 0 0 ttl.toNat shi slo dhi dlo pr [] U else hdB 0 0 0 ttl.toNat pr slo dlo [] U.length++U
def aEq (v6:Bool) (ttl shi slo dhi dlo:Int):Nat:=if v6=true then ttlK ttl else zG ttl shi slo dhi dlo
def dgmK (pr:Int) (sv:Bool) (shi slo:Int) (dv:Bool) (dhi dlo sp dp ttl:Int):Nat:=if pr≠17\/sv≠dv then 1 else if dgK sp dp=0 then aEq sv ttl shi slo dhi dlo else dgK sp dp
def dgU (sv:Bool) (shi slo dhi dlo:Nat) (sp dp:Int) (xs:List UInt8):List UInt8:=dgB (kY sv shi slo dhi dlo 17 (8+xs.length)) sp.toNat dp.toNat xs
theorem aCp(j:Bool)(A E G I:Nat)(J L:Int)(xs:List UInt8):(dgU j A E G I J L xs).length=8+xs.length:=by
 unfold dgU dgB;rw[gM _ _ _ (by rw[zD,aR];omega),zD]
theorem aPd(G:Int)(I:Bool)(N O:Int)(E:Bool)(U V W X Y:Int)(A:Option Addr)(n c:Nat)(w:World)(h:G≠17\/I≠E) :
 Cl 18 #[.agg (tuA G I N O E U V W X),.int .i64 Y,.slice A n c] w fun e w'=>dE 1 [] w w' e:=by
 have j:Below w.heap.size w ((w.alloc (.cells (tuA G I N O E U V W X) 46)).alloc (.cells #[.slice A n c] 43)):=bC.alloc (by simp) _;unfold tuA at j ⊢;by_cases L:G=17
 ·subst L;have J:I≠E:=by simpa using h
  replace j:=q_ j;clear h
  cases I with
  | false =>
   cases E with
   | false=>exact absurd rfl J
   | true =>
    clear J;go_enter func18,ntmps18;go_wp2_with fail
    go_ret2;exact .no (K:=1) _ (by omega) j
  | true =>
   cases E with
   | true=>exact absurd rfl J
   | false =>
    clear J;go_enter func18,ntmps18;go_wp2_with fail
    go_ret2;exact .no (K:=1) _ (by omega) j
 ·have Z:(G != 17)=true:=by simpa using L
  replace j:=q_ j;clear h L;go_enter func18,ntmps18;go_wp2_with fail
  go_ret2;exact .no (K:=1) _ (by omega) j
theorem aMc(G I J L:Nat)(j E N:Int)(A:Option Addr)(n c:Nat)(xs:List UInt8)(w:World)(hx:IsB w w.heap.size A n xs)(hn:n<=4000)
 (h4:G<18446744073709551616) (h5:I<18446744073709551616) (V:J<18446744073709551616) (W:L<18446744073709551616) :
 Cl 18 #[.agg (tuA 17 true G I true J L j E),.int .i64 N,.slice A n c] w fun e w'=>dE (dgmK 17 true G I true J L j E N) (xE true G I J L 17 N (dgU true G I J L j E xs)) w w' e:=by
 obtain⟨w1,O⟩:=eX ((w.alloc (.cells (tuA 17 true G I true J L j E) 46)).alloc (.cells #[.slice A n c] 43));have ad:Below w.heap.size w w1:=O▸bC.alloc (by simp) _;have X:w1.heap[w.heap.size]?=some (.cells (tuA 17 true G I true J L j E) 46 (0,0)):=O▸kE _ (by simp) (aJ _ _ _);have Y:w1.heap[w.heap.size+1]?=some (.cells #[.slice A n c] 43 (0,0)):=O▸(by simpa using aJ (w.alloc (.cells (tuA 17 true G I true J L j E) 46)) 43 #[.slice A n c]);have ay:w.heap.size+1<w1.heap.size:=by rw[<-O];simp
 have aq:=q_ (hx.on ad);have ae:=hx.1;obtain⟨U,Z⟩:=eX (dgU true G I J L j E xs);have al:U.length=8+n:=by rw[<-Z,aCp,ae]
 replace ⟨X,Y⟩:=q_2 X Y;have af:=aVd 17 (by omega) (by decide) G I J L j E N ⟨w.heap.size,0,none⟩ ⟨w.heap.size+1,0,none⟩ (8+n) (by omega) (dgK j E) U (by omega) w1 h4 h5 V W (by
  intro P m d w' hb hp hm;refine(lit_dg 17 true G I true J L j E _ _ A n c P m d xs _ w' (kB hb X) (kB hb Y) (aq.on hb) hp hn hm).mono ?_;intro e a0 he;rw[<-Z];unfold dgU kY;rw[bBa rfl,ae];exact he)
 have hK:dgmK 17 true G I true J L j E N=(if dgK j E=0 then ttlK N else dgK j E):=by
  unfold dgmK aEq;simp
 have hR:xE true G I J L 17 N U=aAy 0 0 N.toNat G I J L 17 [] U:=by
  unfold xE;rw[bBa rfl]
 rw[Z,hK,hR];obtain⟨KK,ah⟩:∃KK,(if dgK j E=0 then ttlK N else dgK j E)=KK:=⟨_,rfl⟩
 rw[ah]at af ⊢;clear hK hR;have ao:=aA X;have ar:=aA Y;unfold tuA at O ao ⊢;replace ⟨hx,ae,Z,al,af,ah,ad⟩:=q_7 hx ae Z al af ah ad;clear X Y;go_enter func18,ntmps18;go_wp2_with fail
 refine af.mono ?_;rintro e w4 h4;have h5:=h4.from ad;obtain⟨v4,rfl,V,W,h8⟩:=h5;clear h4 ao ar O;replace ⟨V,W,h8⟩:=q_3 V W h8;go_wp2_with fail
 go_ret2;exact⟨v4,rfl,V,W,h8⟩
theorem aLf(G j I E:Nat)(J L N:Int)(A:Option Addr)(n c:Nat)(xs:List UInt8)(w:World)(hx:IsB w w.heap.size A n xs)(hn:n<=4000)
 (h4:G<18446744073709551616) (h5:j<18446744073709551616) (V:I<18446744073709551616) (W:E<18446744073709551616) :
 Cl 18 #[.agg (tuA 17 false G j false I E J L),.int .i64 N,.slice A n c] w fun e w'=>dE (dgmK 17 false G j false I E J L N) (xE false G j I E 17 N (dgU false G j I E J L xs)) w w' e:=by
 obtain⟨w1,O⟩:=eX ((w.alloc (.cells (tuA 17 false G j false I E J L) 46)).alloc (.cells #[.slice A n c] 43));have ad:Below w.heap.size w w1:=O▸bC.alloc (by simp) _;have X:w1.heap[w.heap.size]?=some (.cells (tuA 17 false G j false I E J L) 46 (0,0)):=O▸kE _ (by simp) (aJ _ _ _);have Y:w1.heap[w.heap.size+1]?=some (.cells #[.slice A n c] 43 (0,0)):=O▸(by simpa using aJ (w.alloc (.cells (tuA 17 false G j false I E J L) 46)) 43 #[.slice A n c]);have ay:w.heap.size+1<w1.heap.size:=by rw[<-O];simp
 have aq:=q_ (hx.on ad);have ae:=hx.1;obtain⟨U,Z⟩:=eX (dgU false G j I E J L xs);have al:U.length=8+n:=by rw[<-Z,aCp,ae]
 replace ⟨X,Y⟩:=q_2 X Y;have af:=aSz 17 (by omega) (by decide) G j I E J L N ⟨w.heap.size,0,none⟩ ⟨w.heap.size+1,0,none⟩ (8+n) (by omega) (dgK J L) U (by omega) w1 h4 h5 V W (by
  intro P m d w' hb hp hm;refine(lit_dg 17 false G j false I E J L _ _ A n c P m d xs _ w' (kB hb X) (kB hb Y) (aq.on hb) hp hn hm).mono ?_;intro e a0 he;rw[<-Z];unfold dgU kY;rw[bAa (by simp),ae];exact he)
 have hK:dgmK 17 false G j false I E J L N=(if dgK J L=0 then zG N G j I E else dgK J L):=by
  unfold dgmK aEq;simp
 have hR:xE false G j I E 17 N U=hdB 0 0 0 N.toNat 17 j E [] U.length++U:=by
  unfold xE;rw[bAa (by simp)]
 rw[Z,hK,hR];obtain⟨KK,ah⟩:∃KK,(if dgK J L=0 then zG N G j I E else dgK J L)=KK:=⟨_,rfl⟩
 rw[ah]at af ⊢;clear hK hR;have ao:=aA X;have ar:=aA Y;unfold tuA at O ao ⊢;replace ⟨hx,ae,Z,al,af,ah,ad⟩:=q_7 hx ae Z al af ah ad;clear X Y;go_enter func18,ntmps18;go_wp2_with fail
 refine af.mono ?_;rintro e w4 h4;have h5:=h4.from ad;obtain⟨v4,rfl,V,W,h8⟩:=h5;clear h4 ao ar O;replace ⟨V,W,h8⟩:=q_3 V W h8;go_wp2_with fail
 go_ret2;exact⟨v4,rfl,V,W,h8⟩
def pkA (v6:Bool) (pr shi slo dhi dlo:Nat) (sp dp ttl fl sz:Int):Array Value:=#[.bool v6,.int .i64 (pr:Int),.bool v6,.int .u64 (shi:Int),.int .u64 (slo:Int),.bool v6,.int .u64 (dhi:Int),.int .u64 (dlo:Int),.int .i64 sp,.int .i64 dp,.int .i64 ttl,.int .i64 fl,.bool false,.int .i64 0,.bool false,.int .u64 0,.int .u64 0,.bool false,.int .u64 0,.int .u64 0,.int .i64 0,.int .i64 0,.int .i64 sz]
theorem pkA_one(A:Bool)(E G I J L:Nat)(N O U V sz:Int):(pkA A E G I J L N O U V sz).all (·.oneCell')=true:=all_oneCell_toArray (by
 intro v j;simp only[bXa,bVa,dTa]at j;rcases j with rfl|rfl|rfl|rfl|rfl|rfl|rfl|rfl|rfl|rfl|rfl|rfl|rfl|rfl|rfl|rfl|rfl|rfl|rfl|rfl|rfl|rfl|rfl<;>rfl)
theorem upis_dg(cs:Array Value)(I:cs.size=23)(J:cs.all (·.oneCell')=true)(E:Bool)(L:cs[0]?=some (.bool E))(N:cs[1]?=some (.int .i64 17))(G:Int)(U j:List UInt8)(hU:U.length<=4096)(hp:j.length<=4096)(s d:Nat)(O:jK (!E) j U=0)(V:beN U 0 2=s)(W:beN U 2 2=d) :
 UpIs cs G U j 0 (aAu cs s d):=fun A P c X w Y Z hc ab=>aEj cs I J E L 17 N G A P c X U j w Y Z hc ab (by omega) (by unfold maxLen;omega) rfl 0 O _ (fun _=>by unfold kN;rw[bBa rfl,bBa rfl,V,W])
theorem upis_sg(cs:Array Value)(J:cs.size=23)(L:cs.all (·.oneCell')=true)(E:Bool)(N:cs[0]?=some (.bool E))(O:cs[1]?=some (.int .i64 6))(G:Int)(U j:List UInt8)(hU:U.length<=4096)(hp:j.length<=4096)(s d I:Nat)(V:jV j U=0)(W:beN U 0 2=s)(X:beN U 2 2=d)(Y:(U.getD 13 0).toNat=I) :
 UpIs cs G U j 0 (tcpA cs s d I):=fun A P c Z w hx ab hc ad=>aEi cs J L E N 6 O G A P c Z U j w hx ab hc ad (by omega) (by unfold maxLen;omega) rfl 0 V _ (fun _=>by unfold kM wQ;rw[bBa rfl,bBa rfl,bBa rfl,W,X,Y])
theorem tJ(j:Bool)(A E:Nat):(gH j A E).length=if j=true then 8 else 2:=by
 unfold gH;split
 .rw[bHa,jX,jX]
 .rw[jX]
theorem aCk(j:Bool)(A E:Nat):∀x∈gH j A E,x<=65535:=by
 unfold gH;split
 .intro x G;rcases List.mem_append.1 G with h|h
  .exact aBd _ _ x h
  .exact aBd _ _ x h
 .exact aBd _ _
def whR (udp:Bool):Nat:=if udp=true then 6 else 16
def turnR (udp:Bool) (R:List UInt8) (s port:Nat) (fs ts:List Nat):List UInt8 :=
 if udp=true/\beN R 6 2=0 then dJ R (2*s) (beB port 2)
 else dJ (dJ R (2*s) (beB port 2)) (whR udp) (beB (if udp=true/\gZ (beN R (whR udp) 2) (fs++[beN R (2*s) 2]) (ts++[port])=0 then 65535 else gZ (beN R (whR udp) 2) (fs++[beN R (2*s) 2]) (ts++[port])) 2)
end Go.Proofs.YtpcifakangbpaaaGreat
