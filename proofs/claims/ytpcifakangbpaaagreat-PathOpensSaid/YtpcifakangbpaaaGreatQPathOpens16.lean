/- Parts of the proof of PathOpens: contracts of functions of the program. No condition but those that each theorem names. -/
import Derived.Test.YtpcifakangbpaaaGreatQPathOpens13
import Derived.Test.YtpcifakangbpaaaGreatQPathOpens15
set_option linter.unusedVariables false
set_option linter.unusedSimpArgs false
set_option maxRecDepth 100000
set_option maxHeartbeats 16000000
namespace Go.Proofs.YtpcifakangbpaaaGreat
open Go.RowKit Go.ChangeShapes Go.WideShapes Go.ChangeAt Go.Deep Go.Proofs.Tryz
variable {R xs:List UInt8}{B E J N O S V b base' c f fuel g i j k m n s sd sz:Nat}{Q:Exit->Act->World->Prop}{d w' w0:World}{u v z:Value}{T e t:TypeId}{A:Option Addr}{h os:List Nat}{F:List UInt8->Option Nat}{p:List Nat×List Bool}{a:Act}{α:Type}{H l:List Int}{o:Oper}{G:Array Oper}{K:Act->World->Prop}{y:Array Value}{vs:List Value}{L:List Oper}{I:Bool}{U W Y aa:List (Int×List UInt8)}{P:Program}
section
variable {α:Type} {f:α->Value} {T:TypeId} {w w':World} {g:Nat} {xs:List α}
def dX (f:α->Value) (T:TypeId) (w:World) (g:Nat) (xs:List α):Prop:=w.heap[g]?=some (.cells (xs.map f).toArray T (0,0))
theorem dX.cell(h:dX f T w g xs){x:α}(j:xs[i]?=some x):w.cell? ⟨g,i,none⟩=some (f x):=by
 rw[aA h i];simp[j]
theorem dX.lt(h:dX f T w g xs):g<w.heap.size:=by
 rcases eMa g w.heap.size with j|j
 .exact j
 .unfold dX at h;rw[eZa j]at h
  cases h
theorem dX.free(h:dX f T w g xs)(i:Nat):w.frozen? ⟨g,i,none⟩=false:=bD h i
theorem dX.set(h:dX f T w g xs)(i:Nat)(x:α):dX f T (w.setCell ⟨g,i,none⟩ (f x)) g (xs.set i x):=by
 unfold dX;rw[bP h i (f x)]
 congr 2
 rw[List.map_set];simp
theorem dX.below(h:dX f T w g xs)(j:Below B w w')(A:g<B):dX f T w' g xs:=aC j A h
theorem dX.on(h:dX f T w g xs)(j:Below w.heap.size w w'):dX f T w' g xs:=aC j h.lt h
theorem dX.isr(h:dX f T w g xs)(A:g<B):IsR f w B (some ⟨g,0,none⟩) xs.length xs:=by
 refine⟨by simp,fun _=>⟨g,0,rfl,A,fun i j=>?_⟩⟩;rw[dWa,aA h i];simp at j ⊢;exact⟨_,aXa j,rfl⟩
end
theorem mY{α:Type}{f:α->Value}{z:α}{bytes:Nat}(G:prog.underlying t=some (.slice e))(j:(prog.info? e).map (fun i=>(i.zero,i.size,i.bytes))=some (some (f z),1,bytes))(U:bytes<=16)(I:(f z).cells=#[f z])(n:Nat)(V:n<=1099511627776)(w:World) :
 ∃w',(Instr.makeSlice t (.int .i64 (n:Int)) (.int .i64 (n:Int))).run prog w=.ok (.slice (some ⟨w.heap.size,0,none⟩) n n) w'/\dX f e w' w.heap.size (List.replicate n z)/\Below w.heap.size w w'/\w'.heap.size=w.heap.size+1:=by
 cases A:prog.info? e with
 | none=>rw[A]at j;simp at j
 | some i =>
  rw[A]at j;simp only[eQa,gQa,jAa]at j;obtain⟨N,O,X⟩:=j;have E:=run_make (P:=prog) w t e i (f z) G A N .i64 .i64 n n (by omega) (Int.le_refl _) (by
   have W:i.bytes*n<=16*n:=dGa n (by omega);have J:((i.bytes*n:Nat):Int)<=281474976710656:=by omega
   rwa[Int.natCast_mul]at J) (by omega)
  simp only[bMa]at E;refine⟨_,E,?_,bC,by simp⟩;unfold dX;refine(aJ _ _ _).trans ?_;have L:madeCells #[f z] n=((List.replicate n z).map f).toArray:=by
   apply Array.toList_inj.1;rw[toList_madeCells_one];simp
  rw[O,I,Nat.mul_one,L]
section
variable {α:Type} {f:α->List Value} {sz:Nat} {T:TypeId} {w w':World} {g:Nat} {xs:List α}
def IsC (f:α->List Value) (sz:Nat) (cs:Array Value) (xs:List α):Prop:=cs.size=xs.length*sz/\∀(i:Nat) (x:α),xs[i]?=some x->∀(j:Nat) (u:Value),(f x)[j]?=some u->cs[i*sz+j]?=some u
def sZ (f:α->List Value) (sz:Nat) (T:TypeId) (w:World) (g:Nat) (xs:List α):Prop:=∃cs,w.heap[g]?=some (.cells cs T (0,0))/\IsC f sz cs xs
theorem sZ.cell(h:sZ f sz T w g xs){x:α}(A:xs[i]?=some x)(E:(f x)[j]?=some u):w.cell? ⟨g,i*sz+j,none⟩=some u:=by
 obtain⟨cs,G,J,I⟩:=h;rw[aA G (i*sz+j)];exact I i x A j u E
theorem sZ.free(h:sZ f sz T w g xs)(i:Nat):w.frozen? ⟨g,i,none⟩=false:=by
 obtain⟨cs,j,-⟩:=h;exact bD j i
theorem sZ.lt(h:sZ f sz T w g xs):g<w.heap.size:=by
 obtain⟨cs,j,-⟩:=h;exact(Array.getElem?_eq_some_iff.1 j).1
theorem sZ.on(h:sZ f sz T w g xs)(A:Below w.heap.size w w'):sZ f sz T w' g xs:=by
 obtain⟨cs,j,E⟩:=h;exact⟨cs,aC A (Array.getElem?_eq_some_iff.1 j).1 j,E⟩
theorem sZ.isT(h:sZ f sz T w g xs)(E:∀x,(f x).length=sz)(G:0<sz)(O:g<B):IsT f sz w B (some ⟨g,0,none⟩) xs.length xs:=by
 obtain⟨cs,V,X,W⟩:=h;have A:=xK sz (xs.map f) (fun r j=>by obtain⟨x,_,rfl⟩:=List.mem_map.1 j;exact E x);rw[bNa]at A;refine⟨rfl,A,fun _=>⟨g,0,rfl,O,fun i I=>?_⟩⟩;have J:=flat_get sz (xs.map f) (fun r j=>by obtain⟨x,_,rfl⟩:=List.mem_map.1 j;exact E x) (i / sz) (i % sz) (eKa i G);have e:i / sz*sz+i % sz=i:=Nat.div_add_mod' i sz;have U:i / sz<xs.length:=(Nat.div_lt_iff_lt_mul G).2 (by rw[<-A];exact I);have L:xs[i / sz]?=some xs[i / sz]:=aXa U;rw[e,fGa,L,aXa I]at J;have N:=W (i / sz) _ L (i % sz) _ J.symm;rw[e]at N;rw[dWa,aA V i];exact N
theorem IsC.make{z:α}{A:Array Value}(Z:0<sz)(E:A.size=sz)(L:f z=A.toList)(n:Nat):IsC f sz (madeCells A (n*sz)) (List.replicate n z):=by
 refine⟨by rw[size_madeCells,dCa],fun i x N j u G=>?_⟩;obtain⟨I,J⟩:=List.getElem?_eq_some_iff.1 N;rw[dCa]at I;rw[List.getElem_replicate]at J;subst J;rw[L]at G;obtain⟨X,Y⟩:=List.getElem?_eq_some_iff.1 G;have O:j<sz:=by rw[<-E];simpa using X
 have U:i*sz+j<n*sz:=by
  have:(i+1)*sz<=n*sz:=dGa sz I;rw[gVa]at this;omega
 unfold madeCells;have V:(Array.range (n*sz))[i*sz+j]?=some (i*sz+j):=by rw[Array.getElem?_range,bBa U]
 have W:(i*sz+j) % sz=j:=by rw[hAa,Nat.mul_add_mod,dPa O]
 rw[Array.getElem?_map,V,eQa,E,W,getElem!_pos A j (by omega)];rw[<-Y,Array.getElem_toList]
theorem aQs(cs:Array Value)(o:Nat)(vs:List Value)(h:o+vs.length<=cs.size)(j:Nat)(A:j<vs.length):(pE cs o vs)[o+j]?=vs[j]?:=by
 unfold pE;have E:(cs.toList.take o).length=o:=by rw[bGa,bUa];omega
 rw[gKa,cJa (by omega),E,fSa,cEa A]
theorem aQt(cs:Array Value)(o:Nat)(vs:List Value)(h:o+vs.length<=cs.size)(m:Nat)(j:m<o):(pE cs o vs)[m]?=cs[m]?:=by
 unfold pE;have A:(cs.toList.take o).length=o:=by rw[bGa,bUa];omega
 rw[gKa,cEa (by omega),dKa j,hGa]
theorem aJk(cs:Array Value)(o:Nat)(vs:List Value)(h:o+vs.length<=cs.size)(m:Nat)(A:o+vs.length<=m):(pE cs o vs)[m]?=cs[m]?:=by
 unfold pE;have j:(cs.toList.take o).length=o:=by rw[bGa,bUa];omega
 rw[gKa,cJa (by omega),j,cJa (by omega),eJa,hGa]
 congr 1
 omega
theorem IsC.put{cs:Array Value}(h:IsC f sz cs xs)(A:∀x,(f x).length=sz)(J:i<xs.length)(x:α):IsC f sz (pE cs (i*sz) (f x)) (xs.set i x):=by
 have U:i*sz+sz<=xs.length*sz:=by
  have:(i+1)*sz<=xs.length*sz:=dGa sz J;rw[gVa]at this;omega
 have G:i*sz+(f x).length<=cs.size:=by rw[A,h.1];exact U
 refine⟨by rw[yT _ _ _ G,cFa];exact h.1,fun k y E j u I=>?_⟩;have V:j<sz:=by rw[<-A y];exact(List.getElem?_eq_some_iff.1 I).1
 by_cases O:k=i
 .subst O;rw[dAa J]at E
  cases E
  rw[aQs _ _ _ G j (by rw[A];exact V)];exact I
 .rw[cQa (fVa O)]at E;have L:=h.2 k y E j u I;rcases eMa k i with N|N
  .rw[aQt _ _ _ G _ (by
    have:(k+1)*sz<=i*sz:=dGa sz N;rw[gVa]at this;omega)]
   exact L
  .rw[aJk _ _ _ G _ (by
    have:(i+1)*sz<=k*sz:=dGa sz (by omega);rw[gVa]at this;rw[A];omega)]
   exact L
theorem IsC.one{cs:Array Value}(h:IsC f sz cs xs)(G:∀x,(f x).length=sz){x y:α}(I:xs[i]?=some x)(U:j<sz)(V:f y=(f x).set j u):IsC f sz (cs.setIfInBounds (i*sz+j) u) (xs.set i y):=by
 refine⟨by rw[bQa,cFa];exact h.1,fun k v E m r A=>?_⟩;have J:=(List.getElem?_eq_some_iff.1 I).1;have Y:m<sz:=by rw[<-G v];exact(List.getElem?_eq_some_iff.1 A).1
 have W:i*sz+j<cs.size:=by
  rw[h.1];have:(i+1)*sz<=xs.length*sz:=dGa sz J;rw[gVa]at this;omega
 by_cases N:k=i
 .subst N;rw[dAa J]at E
  cases E
  rw[V]at A;by_cases O:m=j
  .subst O;rw[dAa (by rw[G];exact U)]at A
   cases A
   rw[dJa W]
  .rw[cQa (fVa O)]at A;rw[cPa (by omega)];exact h.2 k x I m r A
 .rw[cQa (fVa N)]at E;have X:=h.2 k v E m r A;rw[cPa ?_]
  .exact X
  .intro e;rcases eMa k i with L|L
   .have:(k+1)*sz<=i*sz:=dGa sz L;rw[gVa]at this;omega
   .have:(i+1)*sz<=k*sz:=dGa sz (by omega);rw[gVa]at this;omega
theorem IsC.part{cs:Array Value}(h:IsC f sz cs xs)(U:∀x,(f x).length=sz){x y:α}(J:xs[i]?=some x)(W:vs.length<=sz)(V:f y=vs++(f x).drop vs.length):IsC f sz (pE cs (i*sz) vs) (xs.set i y):=by
 have L:=(List.getElem?_eq_some_iff.1 J).1;have X:i*sz+sz<=xs.length*sz:=by
  have:(i+1)*sz<=xs.length*sz:=dGa sz L;rw[gVa]at this;omega
 have G:i*sz+vs.length<=cs.size:=by rw[h.1];omega
 refine⟨by rw[yT _ _ _ G,cFa];exact h.1,fun k u I j r E=>?_⟩;have Y:j<sz:=by rw[<-U u];exact(List.getElem?_eq_some_iff.1 E).1
 by_cases O:k=i
 .subst O;rw[dAa L]at I
  cases I
  rw[V]at E;rcases eMa j vs.length with A|A
  .rw[aQs _ _ _ G j A]
   rwa[cEa A]at E
  .rw[cJa A,eJa,show vs.length+(j - vs.length)=j by omega]at E;rw[aJk _ _ _ G _ (by omega)];exact h.2 k x J j r E
 .rw[cQa (fVa O)]at I;have N:=h.2 k u I j r E;rcases eMa k i with A|A
  .rw[aQt _ _ _ G _ (by
    have:(k+1)*sz<=i*sz:=dGa sz A;rw[gVa]at this;omega)]
   exact N
  .rw[aJk _ _ _ G _ (by
    have:(i+1)*sz<=k*sz:=dGa sz (by omega);rw[gVa]at this;omega)]
   exact N
theorem sZ.set(h:sZ f sz T w g xs)(A:∀x,(f x).length=sz){x y:α}(E:xs[i]?=some x)(G:j<sz)(I:f y=(f x).set j u):sZ f sz T (w.setCell ⟨g,i*sz+j,none⟩ u) g (xs.set i y):=by
 obtain⟨cs,J,L⟩:=h;exact⟨_,bP J _ u,L.one A E G I⟩
end
theorem aKe{α:Type}{f:α->List Value}{sz:Nat}{z:α}{zv:Value}{bytes:Nat}(G:prog.underlying t=some (.slice e))(j:(prog.info? e).map (fun i=>(i.zero,i.size,i.bytes))=some (some zv,sz,bytes))(V:bytes<=256)(I:0<sz)(J:zv.cells.size=sz)(L:f z=zv.cells.toList)(n:Nat)(W:n<=1099511627776)(w:World) :
 ∃w',(Instr.makeSlice t (.int .i64 (n:Int)) (.int .i64 (n:Int))).run prog w=.ok (.slice (some ⟨w.heap.size,0,none⟩) n n) w'/\sZ f sz e w' w.heap.size (List.replicate n z)/\Below w.heap.size w w'/\w'.heap.size=w.heap.size+1:=by
 cases A:prog.info? e with
 | none=>rw[A]at j;simp at j
 | some i =>
  rw[A]at j;simp only[eQa,gQa,jAa]at j;obtain⟨O,U,Y⟩:=j;have E:=run_make (P:=prog) w t e i zv G A O .i64 .i64 n n (by omega) (Int.le_refl _) (by
   have X:i.bytes*n<=256*n:=dGa n (by omega);have N:((i.bytes*n:Nat):Int)<=281474976710656:=by omega
   rwa[Int.natCast_mul]at N) (by omega)
  simp only[bMa]at E;refine⟨_,E,⟨_,aJ _ _ _,?_⟩,bC,by simp⟩;rw[U];exact IsC.make I J L n
def fQ (n:Nat):Value:=.int .i64 (n:Int)
theorem aTc (x y:Nat) (hx:x<18446744073709551616) (h1:1≤y) (w:World) :
 Calls Tryz.prog 189 #[.int .u64 0,.int .u64 (x:Int),.int .u64 (y:Int)] w fun e w'=>e=.returned (.tuple #[.int .u64 ((x / y:Nat):Int),.int .u64 ((x % y:Nat):Int)])∧Below w.heap.size w w':=by
 have e1:((y:Int) == 0)=false:=by rw [beq_eq_false_iff_ne];omega
 have e2:decide ((y:Int)≤0)=false:=by rw [decide_eq_false_iff_not];omega
 have e2':¬ (y:Int)≤0:=by omega
 have e3:¬ (y:Int)=0:=by omega
 have q1:Int.tdiv (x:Int) (y:Int)=((x / y:Nat):Int):=by rw [Int.tdiv_eq_ediv_of_nonneg (by omega)];rfl
 have q2:Int.tmod (x:Int) (y:Int)=((x % y:Nat):Int):=by rw [Int.tmod_eq_emod_of_nonneg (by omega)];rfl
 have q1':(x:Int) / (y:Int)=((x / y:Nat):Int):=rfl;have q2':(x:Int) % (y:Int)=((x % y:Nat):Int):=rfl;have hqx:x / y≤x:=Nat.div_le_self _ _;obtain ⟨q,hq⟩:∃q,x / y=q:=⟨_,rfl⟩
 obtain ⟨r,hr⟩:∃r,x % y=r:=⟨_,rfl⟩
 have wq:IntKind.u64.wrap (q:Int)=(q:Int):=fU _ (by omega) (by omega);rw [hq] at q1 q1' ⊢;rw [hr] at q2 q2' ⊢;clear hq hr hqx hx;go_enter Tryz.func189,Tryz.ntmps189;go_upto_region 6 with fail
 refine rL ?_;refine eS 0 8 0 ?_;simp only [dA,dC,dD];iterate 8 (refine aD (fun K hK=>?_);go_simp;refine hK _ ?_;clear hK K)
 refine aT ?_;refine eD fun w1 hb1=>?_;replace hb1:Below w.heap.size w w1:=hb1;replace hb1:=q_ hb1;go_wp2_with fail
 go_ret2;exact ⟨rfl,hb1.out⟩
theorem ndiv_any (x y:Nat) (hx:x<18446744073709551616) (h1:1≤y) (w:World) :
 Calls Tryz.prog 186 #[numV 0 x,.int .u64 (y:Int)] w fun e w'=>e=.returned (.tuple #[.int .u64 ((x / y:Nat):Int),.int .u64 ((x % y:Nat):Int),.bool true])∧Below w.heap.size w w':=by
 obtain ⟨w1,hw1⟩:=eX (w.alloc (.cells #[.int .u64 0,.int .u64 (x:Int)] 307));have hB:=bA hw1;have hg:=bN hw1;have cg:=fun i=>aA hg i
 have q:=aTc x y hx h1 w1;obtain ⟨Q,hQ⟩:∃q,x / y=q:=⟨_,rfl⟩
 obtain ⟨R,hR⟩:∃r,x % y=r:=⟨_,rfl⟩
 rw [hQ,hR] at q ⊢;have e1:((y:Int) == 0)=false:=by rw [beq_eq_false_iff_ne];omega
 have e2:decide ((y:Int)≤0)=false:=by rw [decide_eq_false_iff_not];omega
 have e3:¬ y=0:=by omega
 have e4:(y == 0)=false:=by rw [beq_eq_false_iff_ne];exact e3
 have hv:numV 0 x=.agg #[.int .u64 0,.int .u64 (x:Int)]:=rfl;rw [hv];clear hQ hR hg hv;replace hB:=q_ hB;replace q:=q_ q;go_enter Tryz.func186,Tryz.ntmps186;go_upto_region 1 with fail
 clear hw1;go_wp2_with fail
 refine q.out.mono ?_;rintro e w2 ⟨rfl,hb2⟩;have hbz:=q_ (hB.out.trans (hb2.mono hB.out.size));clear hb2 cg q;go_wp2_with fail
 exact bodyPost_ret (v:=.tuple #[.int .u64 (Q:Int),.int .u64 (R:Int),.bool true]) (by simp [results,Tryz.results186]) rfl ⟨rfl,hbz.out⟩
theorem aUs (n p a:Nat) (hn:n*p<18446744073709551616) (hn1:n<18446744073709551616) (hp1:p<18446744073709551616) (h1:1≤a) (w:World) :
 Calls Tryz.prog 181 #[.int .u64 (n:Int),.int .u64 (p:Int),.int .u64 (a:Int)] w fun e w'=>e=.returned (.tuple #[.int .u64 ((n*p / a:Nat):Int),.bool true])∧Below w.heap.size w w':=by
 have q1:=aJc n p hn1 hp1 w;have e1:hiN n p=0:=by unfold hiN;exact Nat.div_eq_of_lt hn
 have e2:loN n p=n*p:=by unfold loN;exact Nat.mod_eq_of_lt hn
 rw [e1,e2] at q1;have q2:=fun w=>ndiv_any (n*p) a hn h1 w
 obtain ⟨M,hM⟩:∃M,n*p=M:=⟨_,rfl⟩
 rw [hM] at q1 q2 ⊢;obtain ⟨Q,hQ⟩:∃q,M / a=q:=⟨_,rfl⟩
 obtain ⟨R,hR⟩:∃r,M % a=r:=⟨_,rfl⟩
 rw [hQ,hR] at q2;rw [hQ];clear hQ hR hM e1 e2 hn hn1 hp1;replace q1:=q_ q1;replace q2:=q_ q2;go_enter Tryz.func181,Tryz.ntmps181;go_wp2_with fail
 refine q1.out.mono ?_;rintro e w1 ⟨rfl,hb1⟩;replace hb1:=q_ hb1;go_wp2_with fail
 refine (q2.out w1).mono ?_;rintro e w2 ⟨rfl,hb2⟩;have hbz:=q_ (hb1.out.trans (hb2.mono hb1.out.size));clear hb2 q1 q2;go_wp2_with fail
 go_ret2;exact ⟨rfl,hbz.out⟩
def sN (h a f:Nat):Nat:=if h<1∨a<1∨f<1 then 0 else if 10000<f*100*h / a then 10000 else f*100*h / a
theorem aGx (h a f:Nat) (hh:h≤1048576) (ha:a≤1048576) (hf:f≤1000) (w:World) :
 Calls Tryz.prog 177 #[.int .i64 (h:Int),.int .i64 (a:Int),.int .i64 (f:Int)] w fun e w'=>e=.returned (.int .i64 (sN h a f:Int))∧Below w.heap.size w w':=by
 obtain ⟨R,hR⟩:=eX (sN h a f);rw [hR];unfold sN at hR;by_cases h1:h<1
 ·have t1:decide ((h:Int)<1)=true:=by rw [decide_eq_true_eq];omega
  have t1':(h:Int)<1:=by omega
  obtain rfl:0=R:=by rw [←hR,if_pos (.inl h1)]
  go_enter Tryz.func177,Tryz.ntmps177;go_wp2_with fail
  go_ret;exact ⟨rfl,Below.refl _ _⟩
 have t1:decide ((h:Int)<1)=false:=by rw [decide_eq_false_iff_not];omega
 by_cases h2:a<1
 ·have t2:decide ((a:Int)<1)=true:=by rw [decide_eq_true_eq];omega
  have t2':(a:Int)<1:=by omega
  obtain rfl:0=R:=by rw [←hR,if_pos (.inr (.inl h2))]
  go_enter Tryz.func177,Tryz.ntmps177;go_wp2_with fail
  go_ret;exact ⟨rfl,Below.refl _ _⟩
 have t2:decide ((a:Int)<1)=false:=by rw [decide_eq_false_iff_not];omega
 by_cases h3:f<1
 ·have t3:decide ((f:Int)<1)=true:=by rw [decide_eq_true_eq];omega
  have t3':(f:Int)<1:=by omega
  obtain rfl:0=R:=by rw [←hR,if_pos (.inr (.inr h3))]
  go_enter Tryz.func177,Tryz.ntmps177;go_wp2_with fail
  go_ret;exact ⟨rfl,Below.refl _ _⟩
 have t3:decide ((f:Int)<1)=false:=by rw [decide_eq_false_iff_not];omega
 rw [if_neg (by omega)] at hR;have hfh:f*100*h≤100000*1048576:=Nat.mul_le_mul (by omega) hh;have q:=aUs (f*100) h a (by omega) (by omega) (by omega) (by omega) w;obtain ⟨F,hF⟩:∃F,f*100=F:=⟨_,rfl⟩
 rw [hF] at q hR hfh;have w1:IntKind.u64.wrap (f:Int)=(f:Int):=fU _ (by omega) (by omega);have w2:IntKind.u64.wrap ((f:Int)*100)=(F:Int):=by rw [fU _ (by omega) (by omega)];omega
 have w3:IntKind.u64.wrap (h:Int)=(h:Int):=fU _ (by omega) (by omega);have w4:IntKind.u64.wrap (a:Int)=(a:Int):=fU _ (by omega) (by omega);have eF:(f:Int)*100=(F:Int):=by omega
 have w5:IntKind.u64.wrap (F:Int)=(F:Int):=fU _ (by omega) (by omega);have hq:F*h / a≤F*h:=Nat.div_le_self _ _;obtain ⟨X,hX⟩:∃X,F*h / a=X:=⟨_,rfl⟩
 rw [hX] at q hR hq;have w6:IntKind.i64.wrap (X:Int)=(X:Int):=aU _ (by omega) (by omega);clear hF hX hfh hq;replace q:=q_ q;by_cases h4:10000<X
 ·have t4:decide (10000<X)=true:=decide_eq_true h4;have t4':decide ((10000:Int)<(X:Int))=true:=by rw [decide_eq_true_eq];omega
  have t4'':(10000:Int)<(X:Int):=by omega
  obtain rfl:10000=R:=by rw [←hR,if_pos h4]
  go_enter Tryz.func177,Tryz.ntmps177;go_wp2_with fail
  refine q.out.mono ?_;rintro e w2 ⟨rfl,hb2⟩;replace hb2:=q_ hb2;go_wp2_with fail
  go_ret;exact ⟨rfl,hb2.out⟩
 ·have t4:decide (10000<X)=false:=decide_eq_false h4;have t4':decide ((10000:Int)<(X:Int))=false:=by rw [decide_eq_false_iff_not];omega
  obtain rfl:X=R:=by rw [←hR,if_neg h4]
  go_enter Tryz.func177,Tryz.ntmps177;go_wp2_with fail
  refine q.out.mono ?_;rintro e w2 ⟨rfl,hb2⟩;replace hb2:=q_ hb2;go_wp2_with fail
  go_ret;exact ⟨rfl,hb2.out⟩
theorem aKb (x y:Nat) (w:World):Calls Tryz.prog 178 #[.int .i64 (x:Int),.int .i64 (y:Int)] w fun e w'=>e=.returned (.int .i64 ((min x y:Nat):Int))∧Below w.heap.size w w':=by
 by_cases h:y<x
 ·have e:min x y=y:=by omega
  have t:(y:Int)<(x:Int):=by omega
  rw [e];go_enter Tryz.func178,Tryz.ntmps178;go_wp2_with fail
  go_ret;exact ⟨rfl,Below.refl _ _⟩
 ·have e:min x y=x:=by omega
  have t:¬ (y:Int)<(x:Int):=by omega
  rw [e];go_enter Tryz.func178,Tryz.ntmps178;go_wp2_with fail
  go_ret;exact ⟨rfl,Below.refl _ _⟩
def aEv (k from' n:Int):Int:=if k<0∨n≤k∨from'<0∨n≤from' then k else (k+from') % n
theorem back_any (k fr:Int) (n:Nat) (hn:n≤1099511627776) (hk1:-2≤k) (hk2:k≤1099511627776) (w:World) :
 Calls Tryz.prog 162 #[.int .i64 k,.int .i64 fr,.int .i64 (n:Int)] w fun e w'=>e=.returned (.int .i64 (aEv k fr (n:Int)))∧w=w':=by
 obtain ⟨R,hR⟩:=eX (aEv k fr (n:Int));rw [hR];unfold aEv at hR;obtain ⟨N,hN⟩:=eX ((n:Int));rw [hN] at hR ⊢;obtain ⟨b1,hb1⟩:∃b,decide (k<0)=b:=⟨_,rfl⟩
 obtain ⟨b2,hb2⟩:∃b,decide (N≤k)=b:=⟨_,rfl⟩
 obtain ⟨b3,hb3⟩:∃b,decide (fr<0)=b:=⟨_,rfl⟩
 obtain ⟨b4,hb4⟩:∃b,decide (N≤fr)=b:=⟨_,rfl⟩
 cases b1
 case true =>
  have h1:=of_decide_eq_true hb1;obtain rfl:k=R:=by rw [←hR,if_pos (.inl h1)]
  clear hR;go_enter Tryz.func162,Tryz.ntmps162;go_wp2_with fail
  go_ret;exact ⟨rfl,rfl⟩
 case false =>
 cases b2
 case true =>
  have h1:=of_decide_eq_true hb2;obtain rfl:k=R:=by rw [←hR,if_pos (.inr (.inl h1))]
  clear hR;go_enter Tryz.func162,Tryz.ntmps162;go_wp2_with fail
  go_ret;exact ⟨rfl,rfl⟩
 case false =>
 cases b3
 case true =>
  have h1:=of_decide_eq_true hb3;obtain rfl:k=R:=by rw [←hR,if_pos (.inr (.inr (.inl h1)))]
  clear hR;go_enter Tryz.func162,Tryz.ntmps162;go_wp2_with fail
  go_ret;exact ⟨rfl,rfl⟩
 case false =>
 cases b4
 case true =>
  have h1:=of_decide_eq_true hb4;obtain rfl:k=R:=by rw [←hR,if_pos (.inr (.inr (.inr h1)))]
  clear hR;go_enter Tryz.func162,Tryz.ntmps162;go_wp2_with fail
  go_ret;exact ⟨rfl,rfl⟩
 case false =>
  have g1:=of_decide_eq_false hb1;have g2:=of_decide_eq_false hb2;have g3:=of_decide_eq_false hb3;have g4:=of_decide_eq_false hb4;rw [if_neg (by omega)] at hR;have w1:IntKind.i64.wrap (k+fr)=k+fr:=aU _ (by omega) (by omega);have e0:¬ N=0:=by omega
  obtain ⟨S,hS⟩:∃S,k+fr=S:=⟨_,rfl⟩
  rw [hS] at hR w1;have q:Int.tmod S N=R:=by rw [Int.tmod_eq_emod_of_nonneg (by omega)];exact hR
  clear hR;replace g1:=q_ g1;replace g2:=q_ g2;replace g3:=q_ g3;replace g4:=q_ g4;go_enter Tryz.func162,Tryz.ntmps162;go_wp2_with fail
  go_ret;exact ⟨rfl,rfl⟩
structure LW (n f:Nat) (h a:List Nat):Prop where
 n4:n<=4
 lh:h.length=n
 la:a.length=n
 f1:100<=f
 f2:f<=1000
 le:∀(i x y:Nat),h[i]?=some x->a[i]?=some y->x<=y/\y<=1048576
theorem aJp{a:List Nat}(A:LW n f h a)(O U:Option Addr)(c1 c2:Nat)(w:World)(G:IsR fQ w w.heap.size O n h)(I:IsR fQ w w.heap.size U n a) :
 Cl 176 #[.slice O n c1,.slice U n c2,.int .i64 (f:Int)] w fun e w'=>e=.returned (.bool true)/\Below w.heap.size w w':=by
 have aq:=A.n4;have g1:=A.f1;have g2:=A.f2;have t1:decide (4<n)=false:=by rw[bEa];omega
 have t1':decide ((4:Int)<(n:Int))=false:=by rw[bEa];omega
 have t2:decide ((f:Int)<100)=false:=by rw[bEa];omega
 have t3:decide ((1000:Int)<(f:Int))=false:=by rw[bEa];omega
 have t3':decide (1000<f)=false:=by rw[bEa];omega
 have t2':decide (f<100)=false:=by rw[bEa];omega
 have s1:¬ (4:Int)<(n:Int):=by omega
 have s2:¬ (f:Int)<100:=by omega
 have s3:¬ (1000:Int)<(f:Int):=by omega
 replace ⟨G,I,A⟩:=q_3 G I A;go_enter func176,ntmps176;go_wp2_with fail
 clear t1 t1' t2 t2' t3 t3' s1 s2 s3;go_loopw [7,28] (fun _ J wr=>∃i:Nat,i<=n/\J=.int .i64 (i:Int)/\Below w.heap.size w wr) (fun _ J _=>n - (intOf J).toNat)
 case atStart=>exact⟨0,by omega,rfl,bLa _ _⟩
 case round =>
  obtain⟨i,hi,rfl,j⟩:=hrel;by_cases ad:i<n
  .have an:(i:Int)<(n:Int):=by omega
   have av:=wJ i;obtain⟨L,X,x,rfl,Y,Z,k1⟩:=G.at ad;obtain⟨N,o2,y,rfl,q2,y1,k2⟩:=I.at ad;obtain⟨g3,g4⟩:=A.le i x y Z y1;have hz:=j.size;have V:=fun l:Later wr=>(l.hb.cell (p:=⟨L,X+i,none⟩) (by show L<_;omega)).trans ((j.cell (p:=⟨L,X+i,none⟩) Y).trans k1)
   have W:=fun l:Later wr=>(l.hb.cell (p:=⟨N,o2+i,none⟩) (by show N<_;omega)).trans ((j.cell (p:=⟨N,o2+i,none⟩) q2).trans k2)
   unfold fQ at V W;have u1:decide ((x:Int)<0)=false:=by rw[bEa];omega
   have u2:decide ((y:Int)<(x:Int))=false:=by rw[bEa];omega
   have u2':decide (y<x)=false:=by rw[bEa];omega
   have u3:decide ((1048576:Int)<(y:Int))=false:=by rw[bEa];omega
   have u3':decide (1048576<y)=false:=by rw[bEa];omega
   clear k1 k2 Z y1 Y q2;replace j:=q_ j;go_upto_region 6 with fail
   refine rL ?_;refine eS 0 23 0 ?_;simp only[dA,dC,dD];iterate 23 refine qE ?_
   refine aT ?_;refine eD fun w1 E=>?_;replace E:Below wr.heap.size wr w1:=E;have ap:=q_ (j.trans (E.mono hz));clear V W E j;go_wp2_with fail
   exact⟨⟨i+1,by omega,by first|rfl|go_num,ap⟩,by simp only[intOf];omega⟩
  .obtain rfl:i=n:=by omega
   have an:((i:Int)<(i:Int))=False:=by simp
   replace j:=q_ j;go_wp2_with fail
   go_ret;exact⟨rfl,j⟩
def hN (h a:List Nat) (f j:Nat):Nat:=sN (h.getD j 0) (a.getD j 0) f
def vN (h a:List Nat) (f:Nat):Nat->Nat
 | 0=>0
 | i+1=>vN h a f i+hN h a f i
def totN (h a:List Nat) (f n:Nat):Nat:=min (vN h a f n) 10000
def gT (h a:List Nat) (f n:Nat):Nat->List Nat×Nat
 | 0=>(List.replicate n 0,10000)
 | i+1=>if 0<totN h a f n then((gT h a f n i).1.set i (min (hN h a f i*10000 / totN h a f n) (gT h a f n i).2),(gT h a f n i).2 - min (hN h a f i*10000 / totN h a f n) (gT h a f n i).2)else gT h a f n i
def vL (h a:List Nat) (f n:Nat):List Nat:=match h.findIdx? (fun x=>decide (0<x))with
 | some i=>(gT h a f n n).1.set i ((gT h a f n n).1.getD i 0+(gT h a f n n).2)
 | none=>(gT h a f n n).1
theorem aCx(h a f:Nat):sN h a f<=10000:=by
 unfold sN;split
 .omega
 .split<;>omega
theorem hN_le(h a:List Nat)(f j:Nat):hN h a f j<=10000:=aCx _ _ _
theorem aN2(h a:List Nat)(f:Nat):∀i,vN h a f i<=10000*i
 | 0=>aZa _
 | i+1=>by
  have:=aN2 h a f i;have:=hN_le h a f i;rw[vN];omega
theorem aC3(h a:List Nat)(f n:Nat):∀i,(gT h a f n i).1.length=n/\(gT h a f n i).2<=10000/\∀x∈(gT h a f n i).1,x<=10000
 | 0=>⟨dCa,aZa _,fun x j=>by have:=List.eq_of_mem_replicate j;omega⟩
 | i+1=>by
  obtain⟨E,A,G⟩:=aC3 h a f n i;rw[gT];split
  .refine⟨by rw[cFa];exact E,bJa (Nat.sub_le _ _) A,fun x j=>?_⟩;rcases fUa j with j|rfl
   .exact G x j
   .exact bJa (Nat.min_le_right _ _) A
  .exact⟨E,A,G⟩
def levelF:List Nat->Nat->Nat->Int
 | [],_,_=>-1
 | n :: r,d,i=>if 0<n/\d<n then(i:Int)else levelF r (d - n) (i+1)
theorem aJb(l:List Nat)(d n:Nat)(Y:d<=1099511627776)(L:∀x∈l,x<=1099511627776)(hn:n<=1099511627776)(A:Option Addr)(c:Nat)(w:World)(h:IsR fQ w w.heap.size A n l) :
 Cl 160 #[.slice A n c,.int .i64 (d:Int)] w fun e w'=>e=.returned (.int .i64 (levelF l d 0))/\w=w':=by
 have aj:=h.len;have d0:¬ (d:Int)<0:=by omega
 obtain⟨R,G⟩:=eX (levelF l d 0);rw[G];replace ⟨h,L,G⟩:=q_3 h L G;go_enter func160,ntmps160;go_wp2_with fail
 clear d0;go_loopw [1,5,6,11] (fun Z _ _ N wr=>∃i E:Nat,i<=n/\N=.int .i64 (i:Int)/\Z=.int .i64 (E:Int)/\E<=1099511627776/\levelF (l.drop i) E i=R/\w=wr) (fun _ _ _ N _=>n - (intOf N).toNat)
 case atStart=>exact⟨0,d,by omega,rfl,rfl,Y,by rw[dDa];exact G,rfl⟩
 case round =>
  obtain⟨i,E,hi,rfl,rfl,ae,j,rfl⟩:=hrel;clear G;by_cases ah:i<n
  .have ab:(i:Int)<(n:Int):=by omega
   have ak:=wJ i;obtain⟨b,af,x,rfl,hb,O,U⟩:=h.at ah;have al:=L x (bPa O);have V:l.drop i=x :: l.drop (i+1):=by
    obtain⟨I,rfl⟩:=List.getElem?_eq_some_iff.1 O;exact fMa I
   rw[V,levelF]at j;unfold fQ at U;have mx:max (x:Int) 0=(x:Int):=by omega
   clear O V;by_cases X:0<x
   .have t0:decide ((0:Int)<(x:Int))=true:=by rw[cBa];omega
    have t0':decide (0<x)=true:=bYa X;by_cases I:E<x
    .have t1:decide ((E:Int)<(x:Int))=true:=by rw[cBa];omega
     have t1':decide (E<x)=true:=bYa I;rw[bBa ⟨X,I⟩]at j;replace j:=q_ j;go_wp2_with fail
     go_ret;exact⟨by rw[<-j.out];rfl,rfl⟩
    .have t1:decide ((E:Int)<(x:Int))=false:=by rw[bEa];omega
     have t1':decide (E<x)=false:=bWa I;rw[bAa (by omega)]at j;have W:IntKind.i64.wrap ((E:Int) - (x:Int))=((E - x:Nat):Int):=by rw[wO _];omega
     obtain⟨d2,J⟩:∃k,E - x=k:=⟨_,rfl⟩
     rw[J]at W j;replace ⟨j,J⟩:=q_2 j J;go_wp2_with fail
     exact⟨⟨i+1,d2,by omega,by first|rfl|go_num,rfl,by have:=J.out;omega,j,by first|rfl|trivial⟩,by simp only[intOf];omega⟩
   .obtain rfl:x=0:=by omega
    rw[bAa (by omega),Nat.sub_zero]at j;have W:IntKind.i64.wrap (E:Int)=(E:Int):=wO _;have an:w.cell? ⟨b,af+i,none⟩=some (.int .i64 0):=U;clear U mx;replace j:=q_ j;go_wp2_with fail
    exact⟨⟨i+1,E,by omega,by first|rfl|go_num,rfl,ae,j,by first|rfl|trivial⟩,by simp only[intOf];omega⟩
  .obtain rfl:i=n:=by omega
   have ab:((i:Int)<(i:Int))=False:=by simp
   rw[eLa (by omega),levelF]at j;replace j:=q_ j;go_wp2_with fail
   go_ret;exact⟨by rw[<-j.out];rfl,rfl⟩
theorem sP:(prog.info? 3).map (fun i=>(i.zero,i.size,i.bytes))=some (some (fQ 0),1,8):=by kernel_rfl
theorem aBx{l:List Nat}{x:Nat}(h:l[i]?=some x):l.getD i 0=x:=by rw[bTa,h];rfl
theorem aT1{a:List Nat}{x:Nat}(A:h[i]?=some x)(E:0<x)(G:∀(j y:Nat),j<i->h[j]?=some y->y=0):vL h a f n=(gT h a f n n).1.set i ((gT h a f n n).1.getD i 0+(gT h a f n n).2):=by
 obtain⟨J,L⟩:=List.getElem?_eq_some_iff.1 A;have e:h.findIdx? (fun x=>decide (0<x))=some i:=by
  rw[fQa];refine⟨J,by rw[L];exact bYa E,fun j I=>?_⟩;have:=G j _ I (aXa (by omega));rw[this]
  decide
 unfold vL;rw[e]
theorem aR0{a:List Nat}(A:∀(j y:Nat),h[j]?=some y->y=0):vL h a f n=(gT h a f n n).1:=by
 have e:h.findIdx? (fun x=>decide (0<x))=none:=by
  rw[fLa];intro x G;obtain⟨j,E⟩:=List.mem_iff_getElem?.1 G;rw[A j x E]
  decide
 unfold vL;rw[e]
theorem lof_any{a:List Nat}(hw:LW n f h a)(A1 A2:Option Addr)(c1 c2:Nat)(w:World)(h1:IsR fQ w w.heap.size A1 n h)(h2:IsR fQ w w.heap.size A2 n a) :
 Cl 170 #[.slice A1 n c1,.slice A2 n c2,.int .i64 (f:Int)] w fun e w'=>(∃g,e=.returned (.slice (some ⟨g,0,none⟩) n n)/\dX fQ 3 w' g (vL h a f n)/\w.heap.size<=g)/\Below w.heap.size w w':=by
 have de:=hw.n4;have cp:=q_ hw.lh;have bw:=hw.f2;have q0:=q_ (aJp hw A1 A2 c1 c2 w h1 h2);have cell:=q_ (fun(wr:World) (A:Below w.heap.size w wr) (i:Nat) (hi:i<n)=>(⟨h1.at hi,h2.at hi⟩:(∃b ao x,A1=some ⟨b,ao,none⟩/\b<w.heap.size/\h[i]?=some x/\w.cell? ⟨b,ao+i,none⟩=some (fQ x))/\(∃b ao x,A2=some ⟨b,ao,none⟩/\b<w.heap.size/\a[i]?=some x/\w.cell? ⟨b,ao+i,none⟩=some (fQ x))));obtain⟨z,hz⟩:=eX w.heap.size;rw[hz]at q0 cell ⊢;replace ⟨h1,h2,hw⟩:=q_3 h1 h2 hw;go_enter func170,ntmps170;go_wp2_with fail
 refine q0.mono ?_;rintro e w1 ⟨rfl,bq⟩;obtain⟨w2,ca,al,cc,c8⟩:=mY (f:=fQ) (z:=0) dRa sP (by omega) rfl n (by omega) w1;obtain⟨g,hg⟩:=eX w1.heap.size;rw[hg]at ca al c8;have a9:z<=g:=by have:=bq.size;omega
 have bx:Hid (Below z w w2):=q_ ((tw bq cc));have ba:Hid (gT h a f n 0=(List.replicate n 0,10000)):=q_ (rfl);obtain⟨O0,cd⟩:∃O:List Nat,List.replicate n 0=O:=⟨_,rfl⟩
 rw[cd]at al ba;clear q0 bq cc cd;replace al:=q_ al;go_wp2_with fail
 clear ca;go_loopw [8,9,25] (fun sv _ J wr=>∃i:Nat,i<=n/\J=.int .i64 (i:Int)/\sv=.int .i64 (vN h a f i:Int)/\dX fQ 3 wr g O0/\Below z w wr) (fun _ _ J _=>n - (intOf J).toNat)
 case atStart=>exact⟨0,by omega,rfl,rfl,al,bx⟩
 case round =>
  obtain⟨i,hi,rfl,rfl,E,A⟩:=hrel;clear al bx;by_cases db:i<n
  .have cq:(i:Int)<(n:Int):=by omega
   have bz:=wJ i;obtain⟨⟨p1,o1,x,rfl,q1,I,k1⟩,⟨p2,o2,y,rfl,q2,y1,k2⟩⟩:=cell wr A i db;obtain⟨g3,g4⟩:=hw.le i x y I y1;have cr:=A.size;have lx:=fun l:Later wr=>(l.hb.cell (p:=⟨p1,o1+i,none⟩) (by show p1<_;omega)).trans ((A.cell (p:=⟨p1,o1+i,none⟩) q1).trans k1)
   have ly:=fun l:Later wr=>(l.hb.cell (p:=⟨p2,o2+i,none⟩) (by show p2<_;omega)).trans ((A.cell (p:=⟨p2,o2+i,none⟩) q2).trans k2)
   unfold fQ at lx ly;have qh:=q_ (fun l:Later wr=>aGx x y f (by omega) g4 bw l.w);have hs:=aN2 h a f i;have bc:Hid (vN h a f (i+1)=vN h a f i+sN x y f):=q_ (by rw[vN,hN,aBx I,aBx y1]);have hh:=aCx x y f;obtain⟨H,hH⟩:=eX (sN x y f);rw[hH]at qh bc hh;obtain⟨S,hS⟩:=eX (vN h a f i);rw[hS]at hs bc ⊢;obtain⟨S1,ce⟩:∃k,S+H=k:=⟨_,rfl⟩
   have ws:IntKind.i64.wrap ((S:Int)+(H:Int))=(S1:Int):=by rw[wO _];omega
   rw[ce]at bc;clear k1 k2 I y1 q1 q2 hH hS ce hh g3 g4;replace ⟨A,E⟩:=q_2 A E;go_upto_region 8 with fail
   refine rL ?_;refine eS 0 13 0 ?_;simp only[dA,dC,dD];iterate 10 refine qE ?_
   (refine aD (fun K hK=>?_);go_simp;apply bSa;refine⟨fun l=>?_,hK _ ?_⟩;(go_at_call 177;refine(qh l).mono ?_;rintro e w' ⟨rfl,hb⟩;exact⟨rfl,hb⟩);clear hK K)
   iterate 2 refine qE ?_
   refine aT ?_;refine eD fun w3 Y=>?_;replace Y:Below wr.heap.size wr w3:=Y;have bd:=q_ ((tw A Y));have be:=q_ (E.on Y);clear lx ly Y A E qh;go_wp2_with fail
   exact⟨⟨i+1,by omega,by first|rfl|go_num,by rw[bc.out],be,bd⟩,by simp only[intOf];omega⟩
  .obtain rfl:i=n:=by omega
   have cq:((i:Int)<(i:Int))=False:=by simp
   have b0:min (vN h a f i) 10000=totN h a f i:=rfl;have Z:=q_ (aKb (vN h a f i) 10000 wr);rw[b0]at Z;have cu:totN h a f i<=10000:=Nat.min_le_right _ _;obtain⟨S,hS⟩:=eX (vN h a f i);rw[hS]at Z ⊢;obtain⟨T,hT⟩:=eX (totN h a f i);rw[hT]at Z cu;clear hS b0;replace ⟨A,E,hT⟩:=q_3 A E hT;go_wp2_with fail
   refine Z.mono ?_;rintro e w3 ⟨rfl,Y⟩;have bd:=q_ (A.trans (Y.mono (by have:=A.size;omega)));have be:=q_ (E.on Y);clear Z Y A E;go_wp2_with fail
   go_loopw [11,12,13,45] (fun lv _ _ J wr=>∃k:Nat,k<=i/\J=.int .i64 (k:Int)/\lv=.int .i64 ((gT h a f i k).2:Int)/\dX fQ 3 wr g (gT h a f i k).1/\Below z w wr) (fun _ _ _ J _=>i - (intOf J).toNat)
   case atStart=>exact⟨0,by omega,rfl,by rw[ba.out];rfl,by rw[ba.out];exact be,bd⟩
   case round =>
    obtain⟨k,hk,rfl,rfl,E,A⟩:=hrel;clear be bd;by_cases dc:k<i
    .have cv:(k:Int)<(i:Int):=by omega
     have bz:=wJ k;obtain⟨bo,bp,ae⟩:=aC3 h a f i k;have G:gT h a f i (k+1)=if 0<T then((gT h a f i k).1.set k (min (hN h a f k*10000 / T) (gT h a f i k).2),(gT h a f i k).2 - min (hN h a f k*10000 / T) (gT h a f i k).2)else gT h a f i k:=by rw[gT,hT.out]
     obtain⟨O,U⟩:=eX ((gT h a f i k).1);obtain⟨L,V⟩:=eX ((gT h a f i k).2);rw[U,V]at G;rw[U]at E bo ae;rw[V]at bp ⊢;by_cases bg:0<T
     .have tT:decide ((0:Int)<(T:Int))=true:=by rw[cBa];omega
      have tT':decide (0<T)=true:=bYa bg;rw[bBa bg]at G;obtain⟨⟨p1,o1,x,rfl,q1,I,k1⟩,⟨p2,o2,y,rfl,q2,y1,k2⟩⟩:=cell wr A k dc;obtain⟨g3,g4⟩:=hw.le k x y I y1;have cr:=A.size;have lx:=fun l:Later wr=>(l.hb.cell (p:=⟨p1,o1+k,none⟩) (by show p1<_;omega)).trans ((A.cell (p:=⟨p1,o1+k,none⟩) q1).trans k1)
      have ly:=fun l:Later wr=>(l.hb.cell (p:=⟨p2,o2+k,none⟩) (by show p2<_;omega)).trans ((A.cell (p:=⟨p2,o2+k,none⟩) q2).trans k2)
      unfold fQ at lx ly;have qh:=q_ (fun l:Later wr=>aGx x y f (by omega) g4 bw l.w);have hh:=aCx x y f;have eH:hN h a f k=sN x y f:=by rw[hN,aBx I,aBx y1]
      rw[eH]at G;obtain⟨H,hH⟩:=eX (sN x y f);rw[hH]at qh hh G;obtain⟨M,hM⟩:∃M,H*10000=M:=⟨_,rfl⟩
      have wm:IntKind.i64.wrap ((H:Int)*10000)=(M:Int):=by rw[wO _];omega
      have b3:M / T<=M:=jCa _ _;have e0:¬ (T:Int)=0:=by omega
      have e0':¬ T=0:=by omega
      have q5:Int.tdiv (M:Int) (T:Int)=((M / T:Nat):Int):=by rw[gFa (by omega)];rfl
      have q5':(M:Int) / (T:Int)=((M / T:Nat):Int):=rfl;rw[hM]at G;obtain⟨Q,hQ⟩:∃Q,M / T=Q:=⟨_,rfl⟩
      rw[hQ]at q5 q5' G b3;have wq:IntKind.i64.wrap (Q:Int)=(Q:Int):=wO _;have Z:=q_ (fun l:Later wr=>aKb Q L l.w);have b5:min Q L<=L:=Nat.min_le_right _ _;obtain⟨N,hN⟩:=eX (min Q L);rw[hN]at Z G b5;obtain⟨L2,ci⟩:∃k,L - N=k:=⟨_,rfl⟩
      have wl:IntKind.i64.wrap ((L:Int) - (N:Int))=(L2:Int):=by rw[wO _];omega
      rw[ci]at G;have ag:O[k]?=some O[k]:=aXa (by omega);clear k1 k2 I y1 q1 q2 hH hQ hM hN ci b3 hh g3 g4 b5 eH ae;replace ⟨A,G,E,U,V⟩:=q_5 A G E U V;go_upto_region 16 with fail
      refine rL ?_;refine eS 0 16 0 ?_;simp only[dA,dC,dD];iterate 9 refine qE ?_
      (refine aD (fun K hK=>?_);go_simp;apply bSa;refine⟨fun l=>?_,hK _ ?_⟩;(go_at_call 177;refine(qh l).mono ?_;rintro e w' ⟨rfl,hb⟩;exact⟨rfl,hb⟩);clear hK K)
      iterate 4 refine qE ?_
      (refine aD (fun K hK=>?_);go_simp;apply bSa;refine⟨fun l=>?_,hK _ ?_⟩;(go_at_call 178;refine(Z l).mono ?_;rintro e w' ⟨rfl,hb⟩;exact⟨rfl,hb⟩);clear hK K)
      refine qE ?_;refine aT ?_;refine eD fun w4 ap=>?_;replace ap:Below wr.heap.size wr w4:=ap;have b6:=tw A ap;have av:=E.on ap;have bj:=av.cell ag;have c0:=av.free k;have dg:=av.lt;obtain⟨w5,a2⟩:=eX (w4.setCell ⟨g,k,none⟩ (.int .i64 (N:Int)));have bk:Hid (dX fQ 3 w5 g (O.set k N)):=q_ (a2▸av.set k N);have bl:Hid (Below z w w5):=q_ (a2▸b6.setCell (p:=⟨g,k,none⟩) a9 _);unfold fQ at bj;have dh:k<O.length:=by omega
      clear lx ly ap A E qh Z b6 av ag q5 q5' wm wq e0 e0' tT tT';go_wp2_with fail
      exact⟨⟨k+1,by omega,by first|rfl|go_num,by rw[G.out],by rw[G.out];exact bk,bl⟩,by simp only[intOf];omega⟩
     .have tT:decide ((0:Int)<(T:Int))=false:=by rw[bEa];omega
      have tT':decide (0<T)=false:=bWa bg;rw[bAa bg]at G;clear ae;replace ⟨G,E,U,V,A⟩:=q_5 G E U V A;go_wp2_with fail
      exact⟨⟨k+1,by omega,by first|rfl|go_num,by rw[G.out,V.out],by rw[G.out,U.out];exact E,A⟩,by simp only[intOf];omega⟩
    .obtain rfl:k=i:=by omega
     have cv:((k:Int)<(k:Int))=False:=by simp
     obtain⟨bo,bp,ae⟩:=aC3 h a f k k;have b7:=q_ (fun i x=>aT1 (h:=h) (a:=a) (f:=f) (n:=k) (i:=i) (x:=x));have b8:=q_ (aR0 (h:=h) (a:=a) (f:=f) (n:=k));obtain⟨O,U⟩:=eX ((gT h a f k k).1);obtain⟨L,V⟩:=eX ((gT h a f k k).2);rw[U,V]at b7;rw[U]at b8 E bo ae;rw[V]at bp ⊢;clear U V ba;replace ⟨A,E,ae⟩:=q_3 A E ae;go_wp2_with fail
     go_loopw [14,75] (fun _ J wr=>∃i:Nat,i<=k/\J=.int .i64 (i:Int)/\(∀(j y:Nat),j<i->h[j]?=some y->y=0)/\dX fQ 3 wr g O/\Below z w wr) (fun _ J _=>k - (intOf J).toNat)
     case atStart=>exact⟨0,by omega,rfl,fun j y hj=>absurd hj (by omega),E,A⟩
     case round =>
      obtain⟨i,hi,rfl,an,W,X⟩:=hrel;clear E A;by_cases dd:i<k
      .have c3:(i:Int)<(k:Int):=by omega
       have bz:=wJ i;obtain⟨⟨p1,o1,x,rfl,q1,I,k1⟩,-⟩:=cell wr X i dd;have cx:=(X.cell (p:=⟨p1,o1+i,none⟩) q1).trans k1;unfold fQ at cx;by_cases h0:0<x
       .have t0:decide ((0:Int)<(x:Int))=true:=by rw[cBa];omega
        have t0':decide (0<x)=true:=bYa h0;have am:=q_ (b7 i x I h0 an);have ag:O[i]?=some O[i]:=aXa (by omega);have b9:=ae _ (fNa (show i<O.length by omega));rw[aBx ag]at am;obtain⟨v,hv⟩:=eX (O[i]);rw[hv]at ag b9 am;have bj:=W.cell ag;have c0:=W.free i;obtain⟨s,hs⟩:∃s,v+L=s:=⟨_,rfl⟩
        have ws:IntKind.i64.wrap ((v:Int)+(L:Int))=(s:Int):=by rw[wO _];omega
        rw[hs]at am;obtain⟨w5,a2⟩:=eX (wr.setCell ⟨g,i,none⟩ (.int .i64 (s:Int)));have bk:Hid (dX fQ 3 w5 g (O.set i s)):=q_ (a2▸W.set i s);have bl:Hid (Below z w w5):=q_ (a2▸X.setCell (p:=⟨g,i,none⟩) a9 _);unfold fQ at bj;clear an W X q1 I k1 ag b9 hv hs h0;go_wp2_with fail
        go_ret;exact⟨⟨g,rfl,by rw[am.out];exact bk,a9⟩,bl⟩
       .have t0:decide ((0:Int)<(x:Int))=false:=by rw[bEa];omega
        have t0':decide (0<x)=false:=bWa h0;have bm:∀(j y:Nat),j<i+1->h[j]?=some y->y=0:=by
         intro j y hj hy;by_cases e:j=i
         .subst e;rw[I]at hy
          cases hy
          omega
         .exact an j y (by omega) hy
        clear an q1 I k1;replace ⟨bm,W,X⟩:=q_3 bm W X;go_wp2_with fail
        exact⟨⟨i+1,by omega,by first|rfl|go_num,bm,W,X⟩,by simp only[intOf];omega⟩
      .obtain rfl:i=k:=by omega
       have c3:((i:Int)<(i:Int))=False:=by simp
       have am:=q_ (b8 fun j y hy=>an j y (by have:=(List.getElem?_eq_some_iff.1 hy).1;have:=cp.out;omega) hy);clear an;replace ⟨W,X⟩:=q_2 W X;go_wp2_with fail
       go_ret;exact⟨⟨g,rfl,by rw[am.out];exact W,a9⟩,X⟩
theorem aFx(n:Nat):(fQ n).oneCell'=true:=rfl
theorem aLh{f:α->Value}{w:World}{xs:List α}(h:IsR f w B A n xs)(k:Nat)(J:k<=n):IsR f w B A k (xs.take k):=by
 have N:=h.len;refine⟨by rw[bNa,bGa];omega,fun L=>?_⟩;obtain⟨b,E,e,G,I⟩:=h.2 (by omega);refine⟨b,E,e,G,fun i j=>?_⟩;rw[bNa,bGa]at j;rw[I i (by rw[bNa];omega),eBa,eBa,gRa]
theorem isr_drop{f:α->Value}{w:World}{xs:List α}(h:IsR f w B (some ⟨b,j,none⟩) n xs)(k:Nat):IsR f w B (some ⟨b,j+k,none⟩) (n - k) (xs.drop k):=by
 have J:=h.len;refine⟨by rw[bNa,cCa];omega,fun I=>?_⟩;obtain⟨L,N,e,E,G⟩:=h.2 (by omega)
 cases e
 refine⟨b,j+k,rfl,E,fun i A=>?_⟩;rw[bNa,cCa]at A;rw[eVa,G (k+i) (by rw[bNa];omega),eBa,eBa,List.getElem_drop]
def mM (l:List Nat) (fr:Int):List Nat:=if fr<0\/(l.length:Int)<=fr then l else l.drop fr.toNat++l.take fr.toNat
theorem aDp(l:List Nat)(n c:Nat)(E:Int)(A:Option Addr)(w:World)(h:IsR fQ w w.heap.size A n l)(hn:n<=1073741824)(hc:n<=c)(az:c<=maxLen) :
 Cl 171 #[.slice A n c,.int .i64 E] w fun e w'=>∃v,e=.returned v/\dV 3 fQ w' w.heap.size v (mM l E)/\Below w.heap.size w w':=by
 have hl:=h.len;unfold mM;by_cases hf:E<0\/(n:Int)<=E
 .rw[bBa (by omega)];have t:decide (E<0)=true\/(decide (E<0)=false/\decide ((n:Int)<=E)=true):=by
   by_cases h0:E<0
   .exact .inl (bYa h0)
   .exact .inr ⟨bWa h0,bYa (by omega)⟩
  replace h:=q_ h;rcases t with t|⟨t1,t2⟩
  all_goals
   go_enter func171,ntmps171;go_upto_region 2 with fail
   apply aWa;refine pS ?_;refine aEp dRa sP rfl (by omega) aFx rfl (.const (.slice none 0 0)) (.tmp 13) rfl w.heap.size (.slice none 0 0) [] l A n c w.heap.size rfl rfl (dV.nil _ _) h (aZa _) (by simp;omega) fun N w2 G L=>?_;have J:=q_ (L.aAa (dV.nil (e:=3) (f:=fQ) w w.heap.size) (aZa _));rw[cVa]at G;clear L;replace G:=q_ G;refine pS ?_;refine bCa ?_;go_simp;go_wp2_with fail
   go_ret;exact⟨N,rfl,G,J⟩
 .rw[bAa (by omega)];obtain⟨k,rfl⟩:∃k:Nat,E=(k:Int):=⟨E.toNat,by omega⟩
  rw[bMa];have hk:k<n:=by omega
  have t1:decide ((k:Int)<0)=false:=by rw[bEa];omega
  have t2:decide ((n:Int)<=(k:Int))=false:=by rw[bEa];omega
  have t2':decide (n<=k)=false:=by rw[bEa];omega
  obtain⟨b,af,hA,-⟩:=h.2 (by omega);subst hA;have O:=q_ (isr_drop h k);have X:=q_ (aLh h k (by omega));have i1:(k:Int)<=(n:Int):=by omega
  have i2:k<=n:=by omega
  have i3:¬ c=k:=by omega
  have i4:(k:Int)<=(c:Int):=by omega
  have i5:k<=c:=by omega
  have i6:(n:Int)<=(c:Int):=by omega
  obtain⟨m,hm⟩:∃m,n - k=m:=⟨_,rfl⟩
  obtain⟨c2,ba⟩:∃m,c - k=m:=⟨_,rfl⟩
  rw[hm]at O;have a8:¬ n=k:=by omega
  obtain⟨D,V⟩:=eX (l.drop k);obtain⟨T,hT⟩:∃D,l.take k=D:=⟨_,rfl⟩
  have a9:D.length<=1073741824:=by rw[<-V,cCa];omega
  rw[V]at O ⊢;rw[hT]at X ⊢;clear h hf V hT;go_enter func171,ntmps171;go_upto_region 3 with fail
  refine rL ?_;refine eS 0 3 6 ?_;simp only[dA,dC,dD];iterate 3 refine qE ?_
  refine aT ?_;refine eS 4 3 3 ?_;simp only[dB,dA,dC,dD];iterate 3 refine qE ?_
  refine aT ?_;refine eT 3 rfl fun j K W=>?_;rw[bBa (by unfold Region.wanted;rfl)];have Y:=O.on j.hb;have Z:=X.on j.hb;refine aGf dRa sP rfl (by omega) aFx (.const (.slice none 0 0)) (.tmp 17) rfl j.w.heap.size (.slice none 0 0) [] D (some ⟨b,af+k,none⟩) m c2 j.w.heap.size rfl rfl (dV.nil _ _) Y (aZa _) (by simp;omega) fun N w2 G L=>?_;have J:=L.aAa (dV.nil (e:=3) (f:=fQ) j.w j.w.heap.size) (aZa _);rw[cVa]at G;refine W _ _ J ?_;clear W K L;have aa:=Z.on J;have ab:=j.hb.trans (J.mono j.hb.size);refine eE fun I=>?_;have U:=G.below I.hb;have ac:=aa.on I.hb;have an:=ab.trans (I.hb.mono ab.size);have ad:w.heap.size<=j.w.heap.size:=j.hb.size;have ae:j.w.heap.size<=I.w.heap.size:=bJa J.size I.hb.size;clear G aa Z Y;refine aLb dRa sP rfl (by omega) aFx 7 rfl (by as_aux_lemma=>kernel_rfl) rfl (.tmp 18) (.tmp 21) rfl j.w.heap.size N D T (some ⟨b,af,none⟩) k c I.w.heap.size rfl rfl U ac ae (by omega) ?_;intro v3 w3 ah ai;have ao:=q_ (an.trans ((ai.aAa U ae).mono ad));have ap:=q_ (ah.weaken ad);clear ai ah U ac;refine tM 8 rfl ?_;refine tD ?_;go_wp2_with fail
  go_ret;exact⟨v3,rfl,ap,ao⟩
end Go.Proofs.YtpcifakangbpaaaGreat
