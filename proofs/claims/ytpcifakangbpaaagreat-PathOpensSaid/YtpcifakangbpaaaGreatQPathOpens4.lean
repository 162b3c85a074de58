/- Parts of the proof of PathOpens: contracts of functions of the program. No condition but those that each theorem names. -/
import Derived.Test.YtpcifakangbpaaaGreatQPathOpens2
import Derived.Deep.DeepCutAuto
import Derived.Deep.MidRow
set_option linter.unusedVariables false
set_option linter.unusedSimpArgs false
set_option maxRecDepth 100000
set_option maxHeartbeats 16000000
namespace Go.Proofs.YtpcifakangbpaaaGreat
open Go.RowKit Go.ChangeShapes Go.WideShapes Go.ChangeAt Go.Deep Go.Proofs.Tryz
variable {R xs:List UInt8}{B E J N O S V b base' c f fuel g i j k m n s sd sz:Nat}{Q:Exit->Act->World->Prop}{d w' w0:World}{u v z:Value}{T e t:TypeId}{A:Option Addr}{h os:List Nat}{F:List UInt8->Option Nat}{p:List Nat×List Bool}{a:Act}{α:Type}{H l:List Int}{o:Oper}{G:Array Oper}{K:Act->World->Prop}{y:Array Value}{vs:List Value}{L:List Oper}{I:Bool}{U W Y aa:List (Int×List UInt8)}{P:Program}
theorem aEe{a:World}:∀(vs:List Value) (o:Nat) {w:World},a.grownBy w (some g)->a.grownBy (w.setCells g o vs) (some g)
 | [],_,_,h=>h
 | v :: vs,o,_,h=>aEe vs (o+1) (fG (p:=⟨g,o,none⟩) h rfl v)
theorem aEd(E:List Value):∀(vs j A:List Value) {w:World},w.heap[g]?=some (.cells (j++(A++E)).toArray t (0,0))->A.length=vs.length->(w.setCells g j.length vs).heap[g]?=some (.cells (j++(vs++E)).toArray t (0,0))
 | [],j,A,w,h,hl=>by
  have:A=[]:=eGa (by simpa using hl);subst this;exact h
 | v :: vs,j,A,w,h,hl=>by
  match A,hl with
  | u :: A,hl =>
   have G:=bP h j.length v;have J:((j++(u :: A++E)).toArray).setIfInBounds j.length v=((j++[v])++(A++E)).toArray:=by simp
   rw[J]at G;have I:=aEd E vs (j++[v]) A G (by simpa using hl);rw[bHa]at I;simpa[World.setCells]using I
def pE (cs:Array Value) (o:Nat) (vs:List Value):Array Value:=(cs.toList.take o++(vs++cs.toList.drop (o+vs.length))).toArray
theorem yT(cs:Array Value)(o:Nat)(vs:List Value)(h:o+vs.length<=cs.size):(pE cs o vs).size=cs.size:=by
 unfold pE;simp;omega
theorem aBe{w:World}{o:Nat}{cs:Array Value}(h:w.heap[g]?=some (.cells cs t (0,0)))(vs:List Value)(A:o+vs.length<=cs.size):∃w',w.setCells g o vs=w'/\w'.heap[g]?=some (.cells (pE cs o vs) t (0,0))/\w.grownBy w' (some g):=by
 refine⟨_,rfl,?_,aEe _ o (dR _ _)⟩;have j:=aEd (g:=g) (t:=t) (cs.toList.drop (o+vs.length)) vs (cs.toList.take o) ((cs.toList.drop o).take vs.length) (w:=w) (by
  have:cs.toList.take o++((cs.toList.drop o).take vs.length++cs.toList.drop (o+vs.length))=cs.toList:=by
   rw[<-List.drop_drop,dHa,dHa]
  rw[this];simpa using h) (by have:=bUa (xs:=cs);rw[bGa,cCa];omega)
 rw[bGa,bUa,fCa (by omega)]at j;exact j
theorem aM{w:World}{cs:Array Value}(h:w.heap[g]?=some (.cells cs t (0,0))):w.rangeAt g 0 cs.toList:=fun j v A=>by
 rw[dWa,aA h j];simpa using A
theorem aAz{w:World}{o:Nat}{cs:Array Value}(h:w.heap[g]?=some (.cells cs t (0,0)))(A:o+n<=cs.size):w.there g o n:=fun j E=>by
 rw[aA h,bD h];simp[show o+j<cs.size by omega]
section
variable {P:Program} {ops:Array Oper} {rest:List Oper} {op:Oper} {a:Act} {w:World} {Q:Exit->Act->World->Prop}
theorem uH(j:op.guard=none)(ty:TypeId)(x:Operand)(A:op.op=.load ty x)(g:Nat)(E:a.eval x=.pointer (some ⟨g,0,none⟩))(cs:Array Value)(d:TypeDesc)(G:w.heap[g]?=some (.cells cs t (0,0)))
 (I:P.underlying ty=some d) (J:d.isRow=true) (L:(P.info? ty).map (·.size)=some cs.size) (h:wpList P ops Q rest (a.put op.dst (.agg cs)) w):wpList P ops Q (op :: rest) a w :=
 wpList_load_mid j ty x A g 0 E cs.toList d (aM G) I J (by rw[L,bUa]) (by simpa using h)
theorem bQ(E:op.guard=none)(ty:TypeId)(x y:Operand)(G:op.op=.store ty x y)(g o:Nat)(I:a.eval x=.pointer (some ⟨g,o,none⟩))(vs:Array Value)(J:a.eval y=.agg vs){cs:Array Value}(j:w.heap[g]?=some (.cells cs t (0,0)))(A:o+vs.size<=cs.size)
 (L:(P.info? ty).map (·.size)=some vs.size) (N:vs.all (·.oneCell')=true)
 (h:∀w',w'.heap[g]?=some (.cells (pE cs o vs.toList) t (0,0))->w.grownBy w' (some g)->wpList P ops Q rest (a.put op.dst undef) w'):wpList P ops Q (op :: rest) a w:=by
 obtain⟨w',e,O,U⟩:=aBe (o:=o) j vs.toList (by simpa using A);refine wpList_store_mid E ty x y G g o vs I J (aAz j A) L N ?_;rw[e];exact h w' O U
end
theorem aQ(cs vs:Array Value)(h:cs.size=vs.size):pE cs 0 vs.toList=vs:=by
 unfold pE;rw[dVa,cVa,dWa,eLa (by simp[h]),ePa]
theorem sW{P:Program}{ops:Array Oper}{Q:Exit->Act->World->Prop}{rest:List Oper}{a:Act}{w:World}{op:Oper}(ty:TypeId)(x y:Operand)(g:Nat)(vs:Array Value){cs:Array Value}{d:TypeDesc}(G:w.heap[g]?=some (.cells cs t (0,0)))(I:vs.all (·.oneCell')=true)(J:P.underlying ty=some d)(h:∀w',w'.heap[g]?=some (.cells vs t (0,0))->w.grownBy w' (some g)->(loadVar ty ⟨g,0,none⟩).run P w'=.ok (.agg vs) w'->wpList P ops Q rest (a.put op.dst undef) w')(A:cs.size=vs.size:=by rfl)(E:(P.info? ty).map (·.size)=some vs.size:=by kernel_rfl)(L:op.guard=none:=by rfl)(N:op.op=.store ty x y:=by rfl)(O:a.eval x=.pointer (some ⟨g,0,none⟩):=by rfl)(U:a.eval y=.agg vs:=by rfl)(V:d.isRow=true:=by rfl):wpList P ops Q (op :: rest) a w :=
 bQ L ty x y N g 0 O vs U G (by rw[dWa,A];exact aZa _) E I fun w' j W=>by
  rw[aQ _ _ A]at j;exact h w' j W (by simpa using run_loadVar_mid w' g 0 ty vs.toList d (aM j) J V (by rw[E,bUa]))
theorem bK:(prog.info? 48).map (·.size)=some 23:=by kernel_rfl
theorem qK:(prog.info? 46).map (·.size)=some 9:=by kernel_rfl
def pkZ:Array Value:=#[.bool false,.int .i64 0,.bool false,.int .u64 0,.int .u64 0,.bool false,.int .u64 0,.int .u64 0,.int .i64 0,.int .i64 0,.int .i64 0,.int .i64 0,.bool false,.int .i64 0,.bool false,.int .u64 0,.int .u64 0,.bool false,.int .u64 0,.int .u64 0,.int .i64 0,.int .i64 0,.int .i64 0]
theorem bG:pkZ.size=23:=rfl
theorem jF:pkZ.all (·.oneCell')=true:=all_oneCell_toArray (by
 intro v j;simp only[bXa,bVa,dTa]at j;rcases j with rfl|rfl|rfl|rfl|rfl|rfl|rfl|rfl|rfl|rfl|rfl|rfl|rfl|rfl|rfl|rfl|rfl|rfl|rfl|rfl|rfl|rfl|rfl<;>rfl)
def tuA (pr:Int) (sv:Bool) (sh sl:Int) (dv:Bool) (dh dl sp dp:Int):Array Value:=#[.int .i64 pr,.bool sv,.int .u64 sh,.int .u64 sl,.bool dv,.int .u64 dh,.int .u64 dl,.int .i64 sp,.int .i64 dp]
theorem zU(A:Int)(E:Bool)(G I:Int)(J:Bool)(L N O U:Int):(tuA A E G I J L N O U).all (·.oneCell')=true:=all_oneCell_toArray (by
 intro v j;simp only[bXa,bVa,dTa]at j;rcases j with rfl|rfl|rfl|rfl|rfl|rfl|rfl|rfl|rfl<;>rfl)
theorem aH1{cs:Array Value}{o:Nat}(h:cs.all (·.oneCell')=true)(E:vs.all (·.oneCell')=true):(pE cs o vs).all (·.oneCell')=true:=by
 refine all_oneCell_toArray fun v j=>?_;have A:=Array.all_eq_true_iff_forall_mem.1 h;rcases List.mem_append.1 j with j|j
 .exact A v (by simpa using eYa j)
 .rcases List.mem_append.1 j with j|j
  .exact List.all_eq_true.1 E v j
  .exact A v (by simpa using List.mem_of_mem_drop j)
def u16v (n:Nat):Value:=.int .u16 (n:Int)
theorem aCz:(prog.info? 221).map (fun i=>(i.zero,i.size,i.bytes))=some (some (.int .u16 0),1,2):=by kernel_rfl
theorem aFc(n:Nat):(u16v n).oneCell'=true:=rfl
def splitN (N:Nat):Nat->List Nat
 | 0=>[]
 | k+1=>N / 65536 ^ k % 65536 :: splitN N k
theorem jX(N:Nat):∀k,(splitN N k).length=k
 | 0=>rfl
 | k+1=>by rw[splitN,eFa,jX N k]
theorem aBd(N:Nat):∀k,∀x∈splitN N k,x<=65535
 | 0,x,h=>by cases h
 | k+1,x,h=>by
  rw[splitN]at h;rcases List.mem_cons.1 h with h|h
  .omega
  .exact aBd N k x h
theorem pow16(j:Nat)(A:j<=3):(2:Int) ^ min (16*(j:Int)).toNat 64=((65536 ^ j:Nat):Int):=by
 have:j=0\/j=1\/j=2\/j=3:=by omega
 rcases this with rfl|rfl|rfl|rfl<;>rfl
theorem aEf(N k:Nat)(w:World)(_hN:N<18446744073709551616)(W:k<=4) :
 Cl 156 #[.int .u64 (N:Int),.int .i64 (k:Int)] w fun e w'=>∃v,e=.returned v/\dV 221 u16v w' w.heap.size v (splitN N k)/\Below w.heap.size w w':=by
 have L:min (k:Int) 4=(k:Int):=by omega
 go_enter func156,ntmps156;go_wp2_with fail
 clear L;go_loopw [5,6] (fun u i wr=>∃(j:Nat) (A:List Nat),j<=k/\i=.int .i64 ((j:Int) - 1)/\A++splitN N j=splitN N k/\dV 221 u16v wr w.heap.size u A/\fA w (.slice none 0 0) wr u) (fun _ i _=>(intOf i+1).toNat)
 case atStart=>exact⟨k,[],aZa _,rfl,rfl,dV.nil _ _,fA.refl _ _⟩
 case round =>
  obtain⟨j,A,Z,rfl,E,J,G⟩:=hrel;have X:A.length<=4:=by
   have:=fFa List.length E;rw[bHa,jX,jX]at this;omega
  replace ⟨E,J,G⟩:=q_3 E J G;rcases j with _|i
  .go_wp2_with fail
   go_ret;have I:=E.out;simp only[splitN,ePa]at I;exact⟨_,rfl,I▸J,G.qG⟩
  .have O:(((i+1:Nat):Int) - 1)=(i:Int):=by omega
   rw[O];have Y:=pow16 i (by omega);go_wp2_with (at_builtin;refine aEn underlying261 aCz rfl (by omega) aFc rfl (.tmp 16) (.tmp 22) rfl w.heap.size _ A [N / 65536 ^ i % 65536] 1 1 rfl rfl ?_ rfl ?_ ?_ ?_ ?_)
   .rw[eCa,gHa];unfold u16v
    congr 3
    rw[Int.pow_mul];simp only[Int.natCast_emod,Int.natCast_ediv,Int.natCast_pow,Int.cast_ofNat_Int]
    rfl
   .exact J
   .have:=G.grown.size;omega
   .omega
   intro v' w' U V;go_wp2_with fail
   refine⟨⟨i,A++[N / 65536 ^ i % 65536],by omega,by go_num,?_,U,G.trans V⟩,by simp[intOf]<;>omega⟩;have I:=E.out;simp only[splitN]at I;rw[<-I];simp
def gH (v6:Bool) (hi lo:Nat):List Nat:=if v6=true then splitN hi 4++splitN lo 4 else splitN lo 2
theorem aBg(E:Bool)(A j p:Nat)(pi:Int)(a7:pi=(p:Int))(w:World)(h1:A<18446744073709551616)(h2:j<18446744073709551616)(hp:p<=65535) :
 Cl 131 #[.agg #[.bool E,.int .u64 (A:Int),.int .u64 (j:Int)],.int .i64 pi] w fun e w'=>∃v,e=.returned v/\dV 221 u16v w' w.heap.size v (gH E A j++[p])/\Below w.heap.size w w':=by
 subst a7;obtain⟨S,V⟩:=eX (gH E A j);rw[V];replace V:=q_ V;obtain⟨w1,an⟩:=eX (w.alloc (.cells #[.bool E,.int .u64 (A:Int),.int .u64 (j:Int)] 27));have I:Hid (Below w.heap.size w w1):=q_ (an▸bC);have J:Hid (w1.heap[w.heap.size]?=some (.cells #[.bool E,.int .u64 (A:Int),.int .u64 (j:Int)] 27 (0,0))):=q_ (an▸aJ _ _ _);have aa:=aA J;have bo:IntKind.u16.wrap (p:Int)=(p:Int):=by
  rw[IntKind.wrap_u16];omega
 have z0:=I.size;go_enter func131,ntmps131;go_wp2_with fail
 clear an;refine(aEf j 2 _ h2 (by omega)).mono ?_;rintro e w2 ⟨v2,rfl,L,ae⟩;clear aa;have z2:=ae.size;replace I:=q_ (I.trans (ae.mono I.size));replace J:=q_ (aG ae J);clear ae;have aa:=aA J;have a9:=q_ (jX j 2);have ax:=q_ (jX j 4);have ay:=q_ (jX A 4);rcases E with _|_
 .have hl:=a9.out;have ac:Hid (splitN j 2=S):=q_ (V);rw[ac]at L hl;replace ⟨L,hl⟩:=q_2 L hl;go_upto_region 4 with fail
  clear aa;apply aWa;iterate 4 refine pS ?_
  refine aEn underlying261 aCz rfl (by omega) aFc rfl (.tmp 18) (.tmp 21) rfl w1.heap.size v2 S [p] 1 1 rfl rfl ?_ rfl L z2 ?_ ?_
  .rfl
  .have:=hl.out;omega
  intro v3 w3 N Y;have W:=Y.aAa L z2;have af:Hid (Below w.heap.size w w3):=q_ (I.trans (W.mono z0));have ba:=q_ (N.weaken z0);clear N Y W;go_wp2_with fail
  go_ret;exact⟨v3,rfl,ba,af⟩
 .clear L;go_upto_region 3 with fail
  have zg:=pU J;have bc:=fun(l:Later w2) (o:Nat)=>aA (aC l.hb zg J) o
  clear aa;refine rL ?_;refine eS 0 2 6 ?_;simp only[dA,dC,dD];iterate 2 refine qE ?_
  refine aT ?_;refine eS 3 2 4 ?_;simp only[dB,dA,dC,dD];iterate 2 refine qE ?_
  refine aT ?_;clear bc;refine eT 2 rfl fun l K U=>?_;go_simp;have az:=I.trans (l.hb.mono I.size);have zl:=az.size;go_at_call 156;refine(aEf A 4 _ h1 (by omega)).mono ?_;rintro e w4 ⟨v4,rfl,a4,X⟩;refine U _ _ X ?_;clear U K;refine eT 5 rfl fun Z K U=>?_;go_simp;have ah:=az.trans (X.mono zl);have ai:=ah.trans (Z.hb.mono ah.size);have a0:=a4.below Z.hb;go_at_call 156;refine(aEf j 4 _ h2 (by omega)).mono ?_;rintro e w6 ⟨E,rfl,a5,O⟩;refine U _ _ O ?_;clear U K;have aj:=ai.trans (O.mono ai.size);have a1:=a0.below O;refine eE fun G=>?_;have a2:=aj.trans (G.hb.mono aj.size);have ak:=a1.below G.hb;have a3:=a5.below G.hb;obtain⟨A9,c9,rfl,bi,bp,ao⟩:=a3.form;rw[ax.out]at bi ao ⊢;refine aLb underlying261 aCz rfl (by omega) aFc 6 rfl (by as_aux_lemma=>kernel_rfl) rfl (.tmp 13) (.tmp 16) rfl l.w.heap.size v4 (splitN A 4) (splitN j 4) A9 4 c9 G.w.heap.size rfl rfl ak ao ?_ ?_ ?_
  .have:=X.size;have:=Z.hb.size;have:=O.size;have:=G.hb.size;omega
  .have:=ay.out;omega
  intro va wa al a6;have ac:Hid (splitN A 4++splitN j 4=S):=q_ (V);have bd:Hid (S.length=8):=q_ (by rw[<-ac,bHa,ay.out,ax.out]);rw[ac]at al;have zz:l.w.heap.size<=G.w.heap.size:=by have:=X.size;have:=Z.hb.size;have:=O.size;have:=G.hb.size;omega
  have ad:=q_ (a2.trans ((a6.aAa ak zz).mono zl));have howna':=q_ (al.weaken zl);clear a4 a0 a5 a1 ak a3 ao a6 al X O ah ai aj a2;refine tM 7 rfl ?_;refine tD ?_;have bf:=ad.out;go_wp2_with (at_builtin;refine aEn underlying261 aCz rfl (by omega) aFc rfl (.tmp 18) (.tmp 21) rfl w.heap.size va S [p] 1 1 rfl rfl ?_ rfl howna' ad.size ?_ ?_)
  .rfl
  .have:=bd.out;omega
  intro v3 w3 N Y;have W:=Y.aAa howna' ad.size;have af:Hid (Below w.heap.size w w3):=q_ (ad.trans W);clear Y W bf;replace N:=q_ N;go_wp2_with fail
  go_ret;exact⟨v3,rfl,N,af⟩
def gZ:Nat->List Nat->List Nat->Nat
 | c,f :: fs,t :: ts=>gZ (rZ c f t) fs ts
 | c,_,_=>c
theorem aBf:∀(j A:List Nat) (c:Nat),c<=65535->gZ c j A<=65535
 | [],_,c,h=>by simpa[gZ]using h
 | _ :: _,[],c,h=>by simpa[gZ]using h
 | f :: j,t :: A,c,_=>by rw[gZ];exact aBf j A _ (aGc _ _ _)
theorem aXm:∀(j A:List Nat) (c:Nat),j.length=A.length->c<=65535->(∀f∈j,f<=65535)->(gZ c j A+A.sum) % 65535=(c+j.sum) % 65535
 | [],[],c,_,_,_=>by simp[gZ]
 | [],_ :: _,_,h,_,_=>by simp at h
 | _ :: _,[],_,h,_,_=>by simp at h
 | f :: j,t :: A,c,hl,hc,hf=>by
  rw[gZ,List.sum_cons,List.sum_cons];have G:=aXm j A (rZ c f t) (by simpa using hl) (aGc _ _ _) (fun x E=>hf x (by simp[E]));have I:=aU2 c f t hc (hf f (by simp));omega
theorem aFp:∀(j A:List Nat) (c f t:Nat),j.length=A.length->gZ c (j++[f]) (A++[t])=rZ (gZ c j A) f t
 | [],[],c,f,t,_=>by simp[gZ]
 | [],_ :: _,_,_,_,h=>by simp at h
 | _ :: _,[],_,_,_,h=>by simp at h
 | g :: j,u :: A,c,f,t,h=>by
  simp only[eNa,gZ];exact aFp j A _ f t (by simpa using h)
theorem aK1{l:List α}{x:α}(h:l[k]?=some x):l.take (k+1)=l.take k++[x]:=by
 rw[dMa,h]
 rfl
theorem turn_b(c f t:Nat)(w:World)(j:c<=65535)(A:f<=65535)(E:t<=65535) :
 Cl 153 #[.int .u16 (c:Int),.int .u16 (f:Int),.int .u16 (t:Int)] w fun e w'=>e=.returned (.int .u16 (rZ c f t:Nat))/\Below w.heap.size w w' :=
 (aEg c f t w j A E).mono fun _ _ h=>⟨h.1,h.2▸bLa _ _⟩
theorem aSr(c:Nat)(A B:Option Addr)(n ca cb:Nat)(E G:List Nat)(w:World)(hc:c<=65535)(I:IsR u16v w w.heap.size A n E)(J:IsR u16v w w.heap.size B n G)(U:∀f∈E,f<=65535)(V:∀t∈G,t<=65535)(hn:n<=16)(ab:0<n) :
 Cl 155 #[.int .u16 (c:Int),.slice A n ca,.slice B n cb] w fun e w'=>e=.returned (.int .u16 (gZ c E G:Nat))/\Below w.heap.size w w':=by
 have ae:=q_ I.len;have af:=q_ J.len;obtain⟨ba,oa,xa,rfl,-⟩:=I.at ab;obtain⟨bb,ob,xb,rfl,-⟩:=J.at ab;replace ⟨I,J,U,V⟩:=q_4 I J U V;go_enter func155,ntmps155;go_wp2_with fail
 go_loopw [0,7] (fun v i wr=>∃k:Nat,k<=n/\i=.int .i64 (k:Int)/\v=.int .u16 (gZ c (E.take k) (G.take k):Nat)/\Below w.heap.size w wr) (fun _ i _=>n - (intOf i).toNat)
 case atStart=>exact⟨0,dEa _,rfl,by simp[gZ],bLa _ _⟩
 case round =>
  obtain⟨k,hk,rfl,rfl,j⟩:=hrel;by_cases ag:k<n
  .obtain⟨_,_,f,N,_,X,Y⟩:=(I.on j).at ag
   cases N
   obtain⟨_,_,t,O,_,Z,aa⟩:=(J.on j).at ag
   cases O
   have aj:=U f (bPa X);have ak:=V t (bPa Z);obtain⟨q,L⟩:=eX (gZ c (E.take k) (G.take k));have al:q<=65535:=L▸aBf _ _ c hc;have W:gZ c (E.take (k+1)) (G.take (k+1))=rZ q f t:=by
    rw[aK1 X,aK1 Z,aFp _ _ _ _ _ (by rw[bGa,bGa,ae.out,af.out]),L]
   rw[L];have i1:(k:Int)<(n:Int):=by omega
   have i2:(0:Int)<=(k:Int):=by omega
   unfold u16v at Y aa;have am:=fun l:Later wr=>l.cell Y
   have an:=fun l:Later wr=>l.cell aa
   have hT:=q_ (fun w:World=>turn_b q f t w al aj ak);clear Y aa X Z;replace ⟨j,L,W⟩:=q_3 j L W;go_upto_region 4 with fail
   refine rL ?_;refine eS 0 11 0 ?_;simp only[dA,dC,dD];iterate 9 refine qE ?_
   (refine aD (fun K hK=>?_);go_simp;apply bSa;refine⟨fun l=>?_,hK _ ?_⟩;(go_at_call 153;refine(hT l.w).mono ?_;rintro e w' ⟨rfl,hb⟩;exact⟨rfl,hb⟩);clear hK K)
   refine qE ?_;refine aT ?_;refine eD fun w5 ad=>?_;have ap:=q_ (j.trans (ad.mono j.size));clear am an ad;go_wp2_with fail
   go_roundw
   case rel=>exact⟨k+1,by omega,by go_num,by rw[W.out],ap⟩
   case measure=>simp[intOf];omega
  .obtain rfl:n=k:=by omega
   have N:E.take n=E:=bZa (by have:=ae.out;omega);have O:G.take n=G:=bZa (by have:=af.out;omega);rw[N,O];clear N O;replace j:=q_ j;go_wp2_with fail
   go_ret;exact⟨rfl,j⟩
theorem aA0(A P Q:Option Addr)(n c p m W cb:Nat)(X:Int)(ad:X=(p:Int))(xs:List UInt8)(j E:List Nat)(w:World)(I:IsB w w.heap.size A n xs)(hn:n<=65535)(hp:p+2<=n)(L:IsR u16v w w.heap.size P m j)(N:IsR u16v w w.heap.size Q m E)(O:∀f∈j,f<=65535)(U:∀t∈E,t<=65535)(hm:m<=16)(af:0<m) :
 Cl 130 #[.slice A n c,.int .i64 X,.slice P m W,.slice Q m cb] w fun e w'=>∃v,e=.returned v/\aZ w' w.heap.size v (dJ xs p (beB (gZ (beN xs p 2) j E) 2))/\Below w.heap.size w w':=by
 subst ad;obtain⟨q,V⟩:=eX (beN xs p 2);have Y:q<=65535:=by have:=bX xs p 2;omega
 have Z:=q_ (fB (p:Int) 2 p 2 rfl rfl A n c xs w I (by unfold maxLen;omega) (by omega) (by omega));obtain⟨r,J⟩:=eX (gZ q j E);have al:r<=65535:=J▸aBf _ _ q Y;have hT:=q_ (aSr q P Q m W cb j E w Y L N O U hm af);rw[V]at Z ⊢;rw[J]at hT ⊢;replace ⟨I,L,N,O,U,V,J⟩:=q_7 I L N O U V J;go_enter func130,ntmps130;go_wp2_with fail
 refine Z.mono ?_;rintro e w' ⟨rfl,rfl⟩;go_wp2_with fail
 refine hT.mono ?_;rintro e w2 ⟨rfl,G⟩;go_wp2_with fail
 refine(aCb A n c xs p r 2 _ _ _ rfl rfl rfl _ (I.on G) (by omega) (by omega) (by omega) (by omega) (by omega)).mono ?_;rintro e w3 ⟨v3,rfl,ab,ac⟩;have ag:=q_ (G.trans (ac.mono G.size));have ah:=q_ (ab.weaken G.size);clear ab ac G;go_wp2_with fail
 go_ret;exact⟨v3,rfl,ah,ag⟩
end Go.Proofs.YtpcifakangbpaaaGreat
