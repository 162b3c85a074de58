/- Parts of the proof of PathOpens: contracts of functions of the program. No condition but those that each theorem names. -/
import Derived.Test.YtpcifakangbpaaaGreatQPathOpens5
import Derived.Test.YtpcifakangbpaaaGreatQPathOpens10
set_option linter.unusedVariables false
set_option linter.unusedSimpArgs false
set_option maxRecDepth 100000
set_option maxHeartbeats 16000000
namespace Go.Proofs.YtpcifakangbpaaaGreat
open Go.RowKit Go.ChangeShapes Go.WideShapes Go.ChangeAt Go.Deep Go.Proofs.Tryz
variable {R xs:List UInt8}{B E J N O S V b base' c f fuel g i j k m n s sd sz:Nat}{Q:Exit->Act->World->Prop}{d w' w0:World}{u v z:Value}{T e t:TypeId}{A:Option Addr}{h os:List Nat}{F:List UInt8->Option Nat}{p:List Nat×List Bool}{a:Act}{α:Type}{H l:List Int}{o:Oper}{G:Array Oper}{K:Act->World->Prop}{y:Array Value}{vs:List Value}{L:List Oper}{I:Bool}{U W Y aa:List (Int×List UInt8)}{P:Program}
def rotN (x:Nat):Nat:=(x*8388608 % 18446744073709551616) ||| (x / 2199023255552)
theorem rotN_lt(x:Nat)(j:x<18446744073709551616):rotN x<18446744073709551616:=by
 have h:=Nat.or_lt_two_pow (n:=64) (show x*8388608 % 18446744073709551616<2 ^ 64 by omega) (show x / 2199023255552<2 ^ 64 by omega);unfold rotN;omega
theorem rot_any(x:Nat)(J:x<18446744073709551616)(w:World):Cl 125 #[.int .u64 (x:Int),.int .i64 23] w fun e w'=>e=.returned (.int .u64 (rotN x:Int))/\w=w':=by
 have L:bits .and .u64 23 63=23:=by decide
 obtain⟨a,j⟩:∃a,x*8388608 % 18446744073709551616=a:=⟨_,rfl⟩
 obtain⟨b,A⟩:∃b,x / 2199023255552=b:=⟨_,rfl⟩
 have N:IntKind.u64.wrap ((x:Int)*8388608)=(a:Int):=by rw[cTa];omega
 have O:(x:Int) / 2199023255552=(b:Int):=by omega
 have G:=bits_or_u64_nat a b (by omega) (by omega);have I:Hid (rotN x=a ||| b):=q_ (by unfold rotN;rw[j,A]);rw[I];obtain⟨c,E⟩:=eX (a ||| b);rw[E]at G ⊢;replace ⟨j,A,E⟩:=q_3 j A E;go_enter func125,ntmps125;go_wp2_with fail
 go_ret;exact⟨rfl,rfl⟩
def aDb (h v:Nat):Nat:=aAj (rotN h ^^^ aAj ((v+11400714819323198485) % 18446744073709551616))
def ofN (key:Nat) (l:List Nat):Nat:=l.foldl aDb (aAj (key ^^^ 11400714819323198485))
theorem aB4(j:Nat)(l:List Nat):ofN j l<18446744073709551616:=by
 unfold ofN;have:∀(l:List Nat) (h:Nat),h<18446744073709551616->l.foldl aDb h<18446744073709551616:=by
  intro l
  induction l with
  | nil=>intro h A;exact A
  | cons v l ih=>intro h _;exact ih _ (aB1 _)
 exact this l _ (aB1 _)
theorem zK(j:Nat)(hk:j<18446744073709551616)(l:List Nat)(V:∀v∈l,v<18446744073709551616)(A:Option Addr)(n cap B:Nat)(w:World)(L:IsR cK w B A n l)(hn:n<4611686018427387904) :
 Cl 84 #[.int .u64 (j:Int),.slice A n cap] w fun e w'=>e=.returned (.int .u64 (ofN j l:Int))/\w=w':=by
 have ay:l.length=n:=by have:=L.1;simpa using this
 have q1:bits .xor .u64 (j:Int) 11400714819323198485=((j ^^^ 11400714819323198485:Nat):Int):=bits_xor_u64_nat j 11400714819323198485 hk (by omega);have c1:j ^^^ 11400714819323198485<2 ^ 64:=Nat.xor_lt_two_pow (by omega) (by omega);obtain⟨k1,ad⟩:∃k,j ^^^ 11400714819323198485=k:=⟨_,rfl⟩
 rw[ad]at q1 c1;have X:=q_ (aJe k1 (by omega) w);obtain⟨J,O⟩:∃h,aAj k1=h:=⟨_,rfl⟩
 rw[O]at X;have ap:J<18446744073709551616:=by rw[<-O];exact aB1 _
 have aj:ofN j l=l.foldl aDb J:=by unfold ofN;rw[ad,O]
 rw[aj];clear aj ad O c1 hk;replace ⟨L,V⟩:=q_2 L V;go_enter func84,ntmps84;go_wp2_with fail
 refine(X).mono ?_;rintro e w ⟨rfl,rfl⟩;clear q1 X;go_wp2_with fail
 go_loopw [5,7,13] (fun E _ W wr=>∃(i h:Nat),i<=n/\W=.int .i64 (i:Int)/\E=.int .u64 (h:Int)/\h<18446744073709551616/\(l.take i).foldl aDb J=h/\w=wr) (fun _ _ W _=>n - (intOf W).toNat)
 case atStart=>exact⟨0,J,by omega,rfl,rfl,ap,rfl,rfl⟩
 case round =>
  obtain⟨i,h,hi,rfl,rfl,am,G,rfl⟩:=hrel;by_cases a3:i<n
  .have aq:(i:Int)<(n:Int):=by omega
   obtain⟨b,I,v,rfl,E,av⟩:∃b I v,A=some ⟨b,I,none⟩/\l[i]?=some v/\w.cell? ⟨b,I+i,none⟩=some (.int .u64 (v:Int)):=by
    obtain⟨b,I,e,-,h2⟩:=L.2 (by omega);have E:l[i]?=some l[i]:=aXa (by omega);exact⟨b,I,l[i],e,E,(h2 i (by rw[bNa];omega)).trans (by rw[eBa];rfl)⟩
   have az:=V v (bPa E);have Y:=q_ (rot_any h am w);have Z:=rotN_lt h am;have a0:=wJ i;obtain⟨a,ha⟩:∃a,(v+11400714819323198485) % 18446744073709551616=a:=⟨_,rfl⟩
   have q2:IntKind.u64.wrap ((v:Int)+11400714819323198485)=(a:Int):=by rw[cTa];omega
   have aa:=q_ (aJe a (by omega) w);obtain⟨m,U⟩:=eX (aAj a);have ak:m<18446744073709551616:=by rw[<-U];exact aB1 _
   obtain⟨r,ae⟩:=eX (rotN h);have N:aDb h v=aAj (r ^^^ m):=by unfold aDb;rw[ha,U,ae]
   rw[U]at aa;rw[ae]at Y Z;have q3:=bits_xor_u64_nat r m Z ak;have c3:r ^^^ m<2 ^ 64:=Nat.xor_lt_two_pow (by omega) (by omega);obtain⟨x,hx⟩:=eX (r ^^^ m);rw[hx]at q3 c3 N;have ab:=q_ (aJe x (by omega) w);obtain⟨y,hy⟩:=eX (aAj x);have au:y<18446744073709551616:=by rw[<-hy];exact aB1 _
   rw[hy]at ab N;have ac:(l.take (i+1)).foldl aDb J=y:=by
    rw[dMa,E,hLa,G];rw[show(some v).toList=[v] from rfl,gPa,List.foldl_nil];exact N
   clear N hy hx U ae ha E G c3 ak Z;replace ac:=q_ ac;go_wp2_with fail
   refine(Y).mono ?_;rintro e w ⟨rfl,rfl⟩;clear Y;go_wp2_with fail
   refine(aa).mono ?_;rintro e w ⟨rfl,rfl⟩;clear aa;go_wp2_with fail
   refine(ab).mono ?_;rintro e w ⟨rfl,rfl⟩;clear ab av;go_wp2_with fail
   exact⟨⟨i+1,y,by omega,by first|rfl|go_num,rfl,au,ac,by first|rfl|trivial⟩,by simp only[intOf];omega⟩
  .obtain rfl:i=n:=by omega
   have aq:((i:Int)<(i:Int))=False:=by simp
   rw[bZa (by omega)]at G;replace G:=q_ G;go_wp2_with fail
   go_ret;exact⟨by rw[G.out];first|rfl|trivial,rfl⟩
def aA2 (h:Nat):Nat:=h / 281474976710656+1
theorem draw_any(h:Nat)(I:h<18446744073709551616)(w:World):Cl 183 #[.int .u64 (h:Int)] w fun e w'=>e=.returned (.int .i64 (aA2 h:Int))/\w=w':=by
 obtain⟨a,j⟩:∃a,h / 281474976710656=a:=⟨_,rfl⟩
 have J:(h:Int) / 281474976710656=(a:Int):=by omega
 have L:IntKind.i64.wrap (a:Int)=(a:Int):=wO _;have E:=wJ a;have G:Hid (aA2 h=a+1):=q_ (by unfold aA2;rw[j]);rw[G];obtain⟨b,A⟩:∃b,a+1=b:=⟨_,rfl⟩
 rw[A]at E ⊢;replace ⟨j,A⟩:=q_2 j A;go_enter func183,ntmps183;go_wp2_with fail
 go_ret;exact⟨rfl,rfl⟩
abbrev numV (h l:Nat):Value:=.agg #[.int .u64 (h:Int),.int .u64 (l:Int)]
def hiN (x y:Nat):Nat:=x*y / 18446744073709551616
def loN (x y:Nat):Nat:=x*y % 18446744073709551616
theorem aJc(x y:Nat)(G:x<18446744073709551616)(I:y<18446744073709551616)(w:World) :
 Cl 184 #[.int .u64 (x:Int),.int .u64 (y:Int)] w fun r w'=>r=.returned (numV (hiN x y) (loN x y))/\Below w.heap.size w w':=by
 have q:=q_ (fun w=>aKh x y G I w);unfold hiN loN;obtain⟨H,O⟩:∃H:Nat,x*y / 18446744073709551616=H:=⟨_,rfl⟩
 obtain⟨L,U⟩:∃L:Nat,x*y % 18446744073709551616=L:=⟨_,rfl⟩
 rw[O,U]at q ⊢;clear O U G I;obtain⟨A,E⟩:=eX (w.alloc (.cells #[.int .u64 0,.int .u64 0] 307));have J:Below w.heap.size w A:=E▸bC;have j:=bN E;have Y:=aA j 0;have Z:=aA (bP j 0 (.int .u64 (H:Int))) 1;have aa:=bD j 0;have ab:=bD (bP j 0 (.int .u64 (H:Int))) 1;have N:=q_ (bP (bP j 0 (.int .u64 (H:Int))) 1 (.int .u64 (L:Int)));have V:=q_ ((J.setCell (p:=⟨w.heap.size,0,none⟩) (aZa _) (.int .u64 (H:Int))).setCell (p:=⟨w.heap.size,1,none⟩) (aZa _) (.int .u64 (L:Int)));go_enter func184,ntmps184;go_upto_region 1 with fail
 clear E J j;go_wp2_with fail
 refine(q A).mono ?_;rintro e w' ⟨rfl,rfl⟩;clear q;go_wp2_with fail
 have W:(loadVar 307 ⟨w.heap.size,0,none⟩).run prog ((A.setCell ⟨w.heap.size,0,none⟩ (.int .u64 (H:Int))).setCell ⟨w.heap.size,1,none⟩ (.int .u64 (L:Int)))=.ok (.agg #[.int .u64 (H:Int),.int .u64 (L:Int)]) ((A.setCell ⟨w.heap.size,0,none⟩ (.int .u64 (H:Int))).setCell ⟨w.heap.size,1,none⟩ (.int .u64 (L:Int))):=by
  have X:=aA N 0;have k1:=aA N 1;simp at X k1;go_simp
 exact aYa (v:=.agg #[.int .u64 (H:Int),.int .u64 (L:Int)]) (by simp[results,results184,asAddr,W,Result.andThen]) rfl ⟨rfl,V⟩
def ncmp (h1 l1 h2 l2:Nat):Int:=if h1<h2\/(h1=h2/\l1<l2)then -1 else if h1=h2/\l1=l2 then 0 else 1
theorem ncmp_any(A E G J:Nat)(w:World) :
 Cl 185 #[numV A E,numV G J] w fun r w'=>r=.returned (.int .i64 (ncmp A E G J))/\Below w.heap.size w w':=by
 obtain⟨R,I⟩:=eX (ncmp A E G J);rw[I];unfold ncmp at I;obtain⟨N,L⟩:=eX ((w.alloc (.cells #[.int .u64 (A:Int),.int .u64 (E:Int)] 307)).alloc (.cells #[.int .u64 (G:Int),.int .u64 (J:Int)] 307));have j:Below w.heap.size w N:=by
  rw[<-L];exact bC.alloc (by simp) _
 have V:N.heap[w.heap.size]?=some (.cells #[.int .u64 (A:Int),.int .u64 (E:Int)] 307 (0,0)):=by
  rw[<-L];exact(hRa _ _ _ (by simp)).trans (aJ _ _ _)
 have W:N.heap[w.heap.size+1]?=some (.cells #[.int .u64 (G:Int),.int .u64 (J:Int)] 307 (0,0)):=by
  have e:w.heap.size+1=(w.alloc (.cells #[.int .u64 (A:Int),.int .u64 (E:Int)] 307)).heap.size:=by simp
  rw[<-L,e];exact aJ _ _ _
 have c1:=fun i=>aA V i
 have c2:=fun i=>aA W i
 clear V W;by_cases O:A<G
 .have X:decide (A<G)=true:=bYa O;have d1':decide ((A:Int)<(G:Int))=true:=by rw[cBa];omega
  obtain rfl:-1=R:=by rw[<-I,bBa (.inl O)]
  clear I;replace j:=q_ j;go_enter func185,ntmps185;go_upto_region 1 with fail
  clear L;go_wp2_with fail
  go_ret;exact⟨rfl,j⟩
 have X:decide (A<G)=false:=bWa O;have d1':decide ((A:Int)<(G:Int))=false:=by rw[bEa];omega
 by_cases t2:A=G
 .subst t2;clear X d1';by_cases U:E<J
  .have Y:decide (E<J)=true:=bYa U;have d3':decide ((E:Int)<(J:Int))=true:=by rw[cBa];omega
   obtain rfl:-1=R:=by rw[<-I,bBa (.inr ⟨rfl,U⟩)]
   clear I;replace j:=q_ j;go_enter func185,ntmps185;go_upto_region 1 with fail
   clear L;go_wp2_with fail
   go_ret;exact⟨rfl,j⟩
  .have Y:decide (E<J)=false:=bWa U;have d3':decide ((E:Int)<(J:Int))=false:=by rw[bEa];omega
   rw[bAa (by omega)]at I;by_cases t4:E=J
   .subst t4;obtain rfl:0=R:=by rw[<-I,bBa ⟨rfl,rfl⟩]
    clear I Y d3';replace j:=q_ j;go_enter func185,ntmps185;go_upto_region 1 with fail
    clear L;go_wp2_with fail
    go_ret;exact⟨rfl,j⟩
   .obtain rfl:1=R:=by rw[<-I,bAa (by omega)]
    have Z:¬ (E:Int)=(J:Int):=by omega
    clear I;replace j:=q_ j;go_enter func185,ntmps185;go_upto_region 1 with fail
    clear L;go_wp2_with fail
    go_ret;exact⟨rfl,j⟩
 .obtain rfl:1=R:=by rw[<-I,bAa (by omega),bAa (by omega)]
  have Z:¬ (A:Int)=(G:Int):=by omega
  have d5:((A:Int) == (G:Int))=false:=by rw[bDa];exact Z
  clear I;replace j:=q_ j;go_enter func185,ntmps185;go_upto_region 1 with fail
  clear L;go_wp2_with fail
  go_ret;exact⟨rfl,j⟩
def fcmp (u1 d1 u2 d2:Nat):Int:=if d1=0/\d2=0 then 0 else if d1=0 then 1 else if d2=0 then -1 else ncmp (hiN u1 d2) (loN u1 d2) (hiN u2 d1) (loN u2 d1)
theorem fcmp_any(u1 E u2 j:Nat)(h1:u1<18446744073709551616)(h2:E<18446744073709551616)(h3:u2<18446744073709551616)(h4:j<18446744073709551616)(w:World) :
 Cl 180 #[numV u1 E,numV u2 j] w fun r w'=>r=.returned (.int .i64 (fcmp u1 E u2 j))/\Below w.heap.size w w':=by
 obtain⟨R,I⟩:=eX (fcmp u1 E u2 j);rw[I];unfold fcmp at I;obtain⟨J,W⟩:=eX ((w.alloc (.cells #[.int .u64 (u1:Int),.int .u64 (E:Int)] 300)).alloc (.cells #[.int .u64 (u2:Int),.int .u64 (j:Int)] 300));have G:Below w.heap.size w J:=by
  rw[<-W];exact bC.alloc (by simp) _
 have V:J.heap[w.heap.size]?=some (.cells #[.int .u64 (u1:Int),.int .u64 (E:Int)] 300 (0,0)):=by
  rw[<-W];exact(hRa _ _ _ (by simp)).trans (aJ _ _ _)
 have O:J.heap[w.heap.size+1]?=some (.cells #[.int .u64 (u2:Int),.int .u64 (j:Int)] 300 (0,0)):=by
  have e:w.heap.size+1=(w.alloc (.cells #[.int .u64 (u1:Int),.int .u64 (E:Int)] 300)).heap.size:=by simp
  rw[<-W,e];exact aJ _ _ _
 have an:=(Array.getElem?_eq_some_iff.1 O).1;obtain⟨z,X⟩:=eX w.heap.size;rw[X]at V O G an;have c1:=fun i=>aA V i
 have c2:=fun i=>aA O i
 by_cases U:E=0
 .have e1:((E:Int) == 0)=true:=by rw[U];rfl
  by_cases L:j=0
  .have e2:((j:Int) == 0)=true:=by rw[L];rfl
   obtain rfl:0=R:=by rw[<-I,bBa ⟨U,L⟩]
   clear I V O U L;replace G:=q_ G;go_enter func180,ntmps180;rw[X];go_upto_region 1 with fail
   clear W;go_wp2_with fail
   go_ret;exact⟨rfl,G⟩
  .obtain rfl:1=R:=by rw[<-I,bAa (by omega),bBa U]
   have e2:((j:Int) == 0)=false:=by rw[bDa];omega
   clear I V O U L;replace G:=q_ G;go_enter func180,ntmps180;rw[X];go_upto_region 1 with fail
   clear W;go_wp2_with fail
   go_ret;exact⟨rfl,G⟩
 have e1:((E:Int) == 0)=false:=by rw[bDa];omega
 rw[bAa (by omega),bAa U]at I;by_cases L:j=0
 .have e2:((j:Int) == 0)=true:=by rw[L];rfl
  obtain rfl:-1=R:=by rw[<-I,bBa L]
  clear I V O U L;replace G:=q_ G;go_enter func180,ntmps180;rw[X];go_upto_region 1 with fail
  clear W;go_wp2_with fail
  go_ret;exact⟨rfl,G⟩
 have e2:((j:Int) == 0)=false:=by rw[bDa];omega
 rw[bAa L]at I;have l1:=fun l:Later J=>aA (kB l.hb V)
 have l2:=fun l:Later J=>aA (kB l.hb O)
 have q1:=q_ (fun l:Later J=>aJc u1 j h1 h4 l.w);have q2:=q_ (fun l:Later J=>aJc u2 E h3 h2 l.w);obtain⟨A,hA⟩:∃x,hiN u1 j=x:=⟨_,rfl⟩
 obtain⟨B,af⟩:∃x,loN u1 j=x:=⟨_,rfl⟩
 obtain⟨C,hC⟩:∃x,hiN u2 E=x:=⟨_,rfl⟩
 obtain⟨D,hD⟩:∃x,loN u2 E=x:=⟨_,rfl⟩
 rw[hA,af]at q1;rw[hC,hD]at q2;rw[hA,af,hC,hD]at I;have q3:=q_ (fun l:Later J=>ncmp_any A B C D l.w);rw[I]at q3;clear I hA af hC hD V O h1 h2 h3 h4 U L;replace G:=q_ G;go_enter func180,ntmps180;rw[X];go_upto_region 1 with fail
 clear W;go_upto_region 7 with fail
 clear c1 c2;refine rL ?_;refine eS 0 12 0 ?_;simp only[dA,dC,dD];iterate 4 refine qE ?_
 (refine aD (fun K N=>?_);go_simp;apply bSa;refine⟨fun l=>?_,N _ ?_⟩;(go_at_call 184;refine(q1 l).mono ?_;rintro e w' ⟨rfl,Y⟩;exact⟨rfl,Y⟩);clear N K)
 iterate 4 refine qE ?_
 (refine aD (fun K N=>?_);go_simp;apply bSa;refine⟨fun l=>?_,N _ ?_⟩;(go_at_call 184;refine(q2 l).mono ?_;rintro e w' ⟨rfl,Y⟩;exact⟨rfl,Y⟩);clear N K)
 (refine aD (fun K N=>?_);go_simp;apply bSa;refine⟨fun l=>?_,N _ ?_⟩;(go_at_call 185;refine(q3 l).mono ?_;rintro e w' ⟨rfl,Y⟩;exact⟨rfl,Y⟩);clear N K)
 refine qE ?_;refine aT ?_;refine eD fun w5 Z=>?_;replace Z:Below J.heap.size J w5:=Z;have av:=q_ ((tw G Z));clear l1 l2 q1 q2 q3 Z;go_wp2_with fail
 go_ret;exact⟨rfl,av⟩
end Go.Proofs.YtpcifakangbpaaaGreat
