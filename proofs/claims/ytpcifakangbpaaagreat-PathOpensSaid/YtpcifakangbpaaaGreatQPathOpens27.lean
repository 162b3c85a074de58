/- Parts of the proof of PathOpens: contracts of functions of the program. No condition but those that each theorem names. -/
import Derived.Test.YtpcifakangbpaaaGreatQPathOpens18
import Derived.Test.YtpcifakangbpaaaGreatQPathOpens26
set_option linter.unusedVariables false
set_option linter.unusedSimpArgs false
set_option maxRecDepth 100000
set_option maxHeartbeats 16000000
namespace Go.Proofs.YtpcifakangbpaaaGreat
open Go.RowKit Go.ChangeShapes Go.WideShapes Go.ChangeAt Go.Deep Go.Proofs.Tryz
variable {R xs:List UInt8}{B E J N O S V b base' c f fuel g i j k m n s sd sz:Nat}{Q:Exit->Act->World->Prop}{d w' w0:World}{u v z:Value}{T e t:TypeId}{A:Option Addr}{h os:List Nat}{F:List UInt8->Option Nat}{p:List Nat×List Bool}{a:Act}{α:Type}{H l:List Int}{o:Oper}{G:Array Oper}{K:Act->World->Prop}{y:Array Value}{vs:List Value}{L:List Oper}{I:Bool}{U W Y aa:List (Int×List UInt8)}{P:Program}
section
structure En where
 t:Tu
 host:Int
 st:Int
 un:Int
 deriving DecidableEq
structure Pl where
 e:En
 used:Bool
 prev:Int
 next:Int
def aSp:Tu:=⟨0,false,0,0,false,0,0,0,0⟩
def enZ:En:=⟨aSp,0,0,0⟩
def plZ:Pl:=⟨enZ,false,0,0⟩
def enL (e:En):List Value:=[.int .i64 e.t.pr,.bool e.t.sv,.int .u64 (e.t.sh:Int),.int .u64 (e.t.sl:Int),.bool e.t.dv,.int .u64 (e.t.dh:Int),.int .u64 (e.t.dl:Int),.int .i64 e.t.sp,.int .i64 e.t.dp,.int .i64 e.host,.int .i64 e.st,.int .i64 e.un]
abbrev cZ (e:En):Array Value:=#[.int .i64 e.t.pr,.bool e.t.sv,.int .u64 (e.t.sh:Int),.int .u64 (e.t.sl:Int),.bool e.t.dv,.int .u64 (e.t.dh:Int),.int .u64 (e.t.dl:Int),.int .i64 e.t.sp,.int .i64 e.t.dp,.int .i64 e.host,.int .i64 e.st,.int .i64 e.un]
def plL (p:Pl):List Value:=[.int .i64 p.e.t.pr,.bool p.e.t.sv,.int .u64 (p.e.t.sh:Int),.int .u64 (p.e.t.sl:Int),.bool p.e.t.dv,.int .u64 (p.e.t.dh:Int),.int .u64 (p.e.t.dl:Int),.int .i64 p.e.t.sp,.int .i64 p.e.t.dp,.int .i64 p.e.host,.int .i64 p.e.st,.int .i64 p.e.un,.bool p.used,.int .i64 p.prev,.int .i64 p.next]
abbrev tL (p:Pl):Array Value:=#[.int .i64 p.e.t.pr,.bool p.e.t.sv,.int .u64 (p.e.t.sh:Int),.int .u64 (p.e.t.sl:Int),.bool p.e.t.dv,.int .u64 (p.e.t.dh:Int),.int .u64 (p.e.t.dl:Int),.int .i64 p.e.t.sp,.int .i64 p.e.t.dp,.int .i64 p.e.host,.int .i64 p.e.st,.int .i64 p.e.un,.bool p.used,.int .i64 p.prev,.int .i64 p.next]
theorem plL_len(p:Pl):(plL p).length=15:=rfl
theorem aN3(t:Tu):(eB t).all (·.oneCell')=true:=all_oneCell_toArray (by
 intro u j;simp only[bXa,bVa,dTa]at j;rcases j with rfl|rfl|rfl|rfl|rfl|rfl|rfl|rfl|rfl<;>rfl)
theorem qV(e:En):(cZ e).all (·.oneCell')=true:=all_oneCell_toArray (by
 intro u j;simp only[bXa,bVa,dTa]at j;rcases j with rfl|rfl|rfl|rfl|rfl|rfl|rfl|rfl|rfl|rfl|rfl|rfl<;>rfl)
theorem aB6(p:Pl):(tL p).all (·.oneCell')=true:=all_oneCell_toArray (by
 intro u j;simp only[bXa,bVa,dTa]at j;rcases j with rfl|rfl|rfl|rfl|rfl|rfl|rfl|rfl|rfl|rfl|rfl|rfl|rfl|rfl|rfl<;>rfl)
theorem bW:(prog.info? 46).map (·.size)=some 9:=by kernel_rfl
theorem tN:(prog.info? 64).map (·.size)=some 12:=by kernel_rfl
theorem xQ:(prog.info? 144).map (·.size)=some 15:=by kernel_rfl
structure FT where
 seed:Nat
 most:Int
 l:List Pl
 n:Int
 first:Int
 last:Int
namespace FT
def at' (T:FT) (i:Nat):Pl:=T.l.getD i plZ
def nxt (T:FT) (i:Nat) (v:Int):FT:={ T with l:=T.l.set i { T.at' i with next:=v } }
def prv (T:FT) (i:Nat) (v:Int):FT:={ T with l:=T.l.set i { T.at' i with prev:=v } }
def put (T:FT) (i:Nat) (p:Pl):FT:={ T with l:=T.l.set i p }
def ent (T:FT) (i:Nat) (e:En):FT:={ T with l:=T.l.set i { T.at' i with e:=e } }
end FT
structure dF (w:World) (f g S:Nat) (T:FT):Prop where
 blk:w.heap[f]?=some (.cells #[.int .u64 (T.seed:Int),.int .i64 T.most,.slice (some ⟨g,0,none⟩) S S,.int .i64 T.n,.int .i64 T.first,.int .i64 T.last] 142 (0,0))
 row:sZ plL 15 144 w g T.l
 len:T.l.length=S
abbrev bH (f g:Nat) (w w':World):Prop:=aV w.heap.size (fun k=>k=f\/k=g) w w'
theorem bH.trans{f g:Nat}{a b c:World}(j:bH f g a b)(A:bH f g b c):bH f g a c :=
 ⟨A.os.trans j.os,A.tape.trans j.tape,A.output.trans j.output,bJa j.size A.size,fun k E G=>(A.block k (bKa E j.size) G).trans (j.block k E G)⟩
theorem bH.quiet{f g:Nat}{a b:World}(h:Below a.heap.size a b):bH f g a b:=bT h (aZa _)
theorem bH.set{f g:Nat}{w:World}{p:Addr}(j:p.block=f\/p.block=g)(u:Value):bH f g w (w.setCell p u):=uA (P:=fun k=>k=f\/k=g) (gQ _ _ _) j u
theorem bH.grown{f g:Nat}{w w':World}(A:k=f\/k=g)(h:w.grownBy w' (some k)):bH f g w w' :=
 ⟨h.os,h.tape,h.output,h.size,fun j E G=>h.block j E (fun e=>by cases e;exact G A)⟩
theorem kept_g{g:Nat}{w w':World}(h:w.grownBy w' (some g))(A:B<=w.heap.size):aV B (fun k=>k=g) w w' :=
 ⟨h.os,h.tape,h.output,h.size,fun k E j=>h.block k (by omega) (by simpa using j)⟩
section
variable {w w':World} {f g S:Nat} {T:FT}
theorem dF.ne(h:dF w f g S T):f≠g:=by
 rintro rfl;obtain⟨cs,j,-⟩:=h.row;rw[h.blk]at j;injection j with j
 injection j with _ h2 _
 exact absurd h2 (by decide)
theorem dF.flt(h:dF w f g S T):f<w.heap.size:=(Array.getElem?_eq_some_iff.1 h.blk).1
theorem dF.glt(h:dF w f g S T):g<w.heap.size:=h.row.lt
theorem dF.on(h:dF w f g S T)(j:Below w.heap.size w w'):dF w' f g S T:=⟨aG j h.blk,h.row.on j,h.len⟩
theorem dF.at(h:dF w f g S T)(j:i<S):T.l[i]?=some (T.at' i):=by
 have A:=h.len;unfold FT.at';rw[bTa,aXa (by omega)]
 rfl
theorem dF.cell(h:dF w f g S T)(A:i<S)(E:(plL (T.at' i))[j]?=some u):w.cell? ⟨g,i*15+j,none⟩=some u:=h.row.cell (h.at A) E
theorem dF.range(h:dF w f g S T)(E:i<S)(k n:Nat)(l:List Value)(G:((plL (T.at' i)).drop k).take n=l):w.rangeAt g (i*15+k) l:=fun j v A=>by
 rw[eVa];refine h.cell E ?_;rw[<-G,gAa]at A;split at A
 .rw[eJa]at A;exact A
 .cases A
theorem dF.nxt(h:dF w f g S T)(j:i<S)(v:Int):dF (w.setCell ⟨g,i*15+14,none⟩ (.int .i64 v)) f g S (T.nxt i v) :=
 ⟨(cLa _ _ _ f h.ne).trans h.blk,h.row.set plL_len (h.at j) (by decide) rfl,by unfold FT.nxt;rw[cFa];exact h.len⟩
theorem dF.prv(h:dF w f g S T)(j:i<S)(v:Int):dF (w.setCell ⟨g,i*15+13,none⟩ (.int .i64 v)) f g S (T.prv i v) :=
 ⟨(cLa _ _ _ f h.ne).trans h.blk,h.row.set plL_len (h.at j) (by decide) rfl,by unfold FT.prv;rw[cFa];exact h.len⟩
theorem dF.first(h:dF w f g S T)(v:Int):dF (w.setCell ⟨f,4,none⟩ (.int .i64 v)) f g S { T with first:=v } :=
 ⟨bP h.blk 4 _,by obtain⟨cs,j,A⟩:=h.row;exact⟨cs,(cLa _ _ _ g h.ne.symm).trans j,A⟩,h.len⟩
theorem dF.last(h:dF w f g S T)(v:Int):dF (w.setCell ⟨f,5,none⟩ (.int .i64 v)) f g S { T with last:=v } :=
 ⟨bP h.blk 5 _,by obtain⟨cs,j,A⟩:=h.row;exact⟨cs,(cLa _ _ _ g h.ne.symm).trans j,A⟩,h.len⟩
theorem dF.num(h:dF w f g S T)(v:Int):dF (w.setCell ⟨f,3,none⟩ (.int .i64 v)) f g S { T with n:=v } :=
 ⟨bP h.blk 3 _,by obtain⟨cs,j,A⟩:=h.row;exact⟨cs,(cLa _ _ _ g h.ne.symm).trans j,A⟩,h.len⟩
theorem dF.put(h:dF w f g S T)(A:i<S)(p:Pl){cs:Array Value}(j:w.heap[g]?=some (.cells cs 144 (0,0)))(E:w'.heap[g]?=some (.cells (pE cs (i*15) (tL p).toList) 144 (0,0)))(G:w.grownBy w' (some g)):dF w' f g S (T.put i p):=by
 refine⟨(G.block f h.flt (fun e=>h.ne (bFa e))).trans h.blk,?_,by unfold FT.put;rw[cFa];exact h.len⟩;obtain⟨L,I,J⟩:=h.row;rw[I]at j
 cases j
 exact⟨_,E,J.put plL_len (i:=i) (by rw[h.len];exact A) p⟩
theorem dF.ent(h:dF w f g S T)(A:i<S)(e:En){cs:Array Value}(j:w.heap[g]?=some (.cells cs 144 (0,0)))(E:w'.heap[g]?=some (.cells (pE cs (i*15) (cZ e).toList) 144 (0,0)))(G:w.grownBy w' (some g)):dF w' f g S (T.ent i e):=by
 refine⟨(G.block f h.flt (fun e=>h.ne (bFa e))).trans h.blk,?_,by unfold FT.ent;rw[cFa];exact h.len⟩;obtain⟨L,I,J⟩:=h.row;rw[I]at j
 cases j
 exact⟨_,E,J.part plL_len (h.at A) (vs:=(cZ e).toList) (by show 12<=15;decide) rfl⟩
end
end
def wN (i:Int):Nat:=(IntKind.u64.wrap i).toNat
theorem wN_eq(i:Int):IntKind.u64.wrap i=(wN i:Int):=by
 unfold wN;rw[cTa];omega
theorem wN_lt(i:Int):wN i<18446744073709551616:=by
 unfold wN;rw[cTa];omega
structure gY (t:Tu):Prop where
 a:t.sh<18446744073709551616
 b:t.sl<18446744073709551616
 c:t.dh<18446744073709551616
 d:t.dl<18446744073709551616
def aHi (t:Tu):Nat:=(if t.sv=true then 1 else 0)+(if t.dv=true then 2 else 0)
def aCu (t:Tu):List Nat:=[aHi t,wN t.pr,t.sh,t.sl,t.dh,t.dl,wN t.sp,wN t.dp]
def mW (seed:Nat) (t:Tu):Nat:=ofN seed (aCu t)
theorem hashL_lt{t:Tu}(h:gY t):∀v∈aCu t,v<18446744073709551616:=by
 intro v j;unfold aCu at j;have A:=h.a;have E:=h.b;have G:=h.c;have I:=h.d;have J:aHi t<=3:=by
  unfold aHi;split<;>split<;>omega
 have L:=wN_lt t.pr;have N:=wN_lt t.sp;have O:=wN_lt t.dp;simp only[bXa,bVa,dTa]at j;rcases j with rfl|rfl|rfl|rfl|rfl|rfl|rfl|rfl<;>omega
theorem aCv(seed:Nat)(hs:seed<18446744073709551616)(t:Tu)(ht:gY t)(w:World) :
 Cl 35 #[.int .u64 (seed:Int),.agg (eB t)] w fun e w'=>e=.returned (.int .u64 (mW seed t:Int))/\Below w.heap.size w w':=by
 have hl:=hashL_lt ht;have G:=q_ (fun(A:Option Addr) (w:World) (hr:IsR cK w w.heap.size A 8 (aCu t))=>zK seed hs (aCu t) hl A 8 8 w.heap.size w hr (by omega));unfold mW;obtain⟨R,hR⟩:=eX (ofN seed (aCu t));rw[hR]at G ⊢;unfold aCu at G;obtain⟨pr,sv,N,O,dv,U,V,sp,dp⟩:=t;unfold aHi at G;dsimp only[eB]at G ⊢;have e1:=wN_eq pr;have e2:=wN_eq sp;have e3:=wN_eq dp;obtain⟨a,ha⟩:=eX (wN pr);obtain⟨b,hb⟩:=eX (wN sp);obtain⟨c,hc⟩:=eX (wN dp);rw[ha]at e1 G;rw[hb]at e2 G;rw[hc]at e3 G;obtain⟨E,Z⟩:=eX (w.alloc (.cells #[.int .i64 pr,.bool sv,.int .u64 (N:Int),.int .u64 (O:Int),.bool dv,.int .u64 (U:Int),.int .u64 (V:Int),.int .i64 sp,.int .i64 dp] 46));have W:Hid (Below w.heap.size w E):=q_ (Z▸bC);have ai:=bN Z;have cc:=aA ai;have ab:=W.size;clear hl hR ht ha hb hc ai;have o1:bits .or .u64 0 1=1:=by decide
 have o2:bits .or .u64 0 2=2:=by decide
 have o3:bits .or .u64 1 2=3:=by decide
 rcases sv with _|_<;>rcases dv with _|_
 .obtain⟨j,J⟩:∃j,E.alloc (.cells #[.int .u64 0,.int .u64 (a:Int),.int .u64 (N:Int),.int .u64 (O:Int),.int .u64 (U:Int),.int .u64 (V:Int),.int .u64 (b:Int),.int .u64 (c:Int)] 25)=j:=⟨_,rfl⟩
  have L:Below E.heap.size E j:=J▸bC;have I:dX cK 25 j E.heap.size [0,a,N,O,U,V,b,c]:=J▸aJ _ _ _;have X:=q_ (G (some ⟨E.heap.size,0,none⟩) j (I.isr I.lt));have Y:=q_ (W.trans (L.mono ab));clear G W L I;go_enter func35,ntmps35;go_wp2_with fail
  clear cc Z J;refine X.mono ?_;rintro e w3 ⟨rfl,rfl⟩;go_wp2_with fail
  go_ret;exact⟨rfl,Y⟩
 .obtain⟨j,J⟩:∃j,E.alloc (.cells #[.int .u64 2,.int .u64 (a:Int),.int .u64 (N:Int),.int .u64 (O:Int),.int .u64 (U:Int),.int .u64 (V:Int),.int .u64 (b:Int),.int .u64 (c:Int)] 25)=j:=⟨_,rfl⟩
  have L:Below E.heap.size E j:=J▸bC;have I:dX cK 25 j E.heap.size [2,a,N,O,U,V,b,c]:=J▸aJ _ _ _;have X:=q_ (G (some ⟨E.heap.size,0,none⟩) j (I.isr I.lt));have Y:=q_ (W.trans (L.mono ab));clear G W L I;go_enter func35,ntmps35;go_wp2_with fail
  clear cc Z J;refine X.mono ?_;rintro e w3 ⟨rfl,rfl⟩;go_wp2_with fail
  go_ret;exact⟨rfl,Y⟩
 .obtain⟨j,J⟩:∃j,E.alloc (.cells #[.int .u64 1,.int .u64 (a:Int),.int .u64 (N:Int),.int .u64 (O:Int),.int .u64 (U:Int),.int .u64 (V:Int),.int .u64 (b:Int),.int .u64 (c:Int)] 25)=j:=⟨_,rfl⟩
  have L:Below E.heap.size E j:=J▸bC;have I:dX cK 25 j E.heap.size [1,a,N,O,U,V,b,c]:=J▸aJ _ _ _;have X:=q_ (G (some ⟨E.heap.size,0,none⟩) j (I.isr I.lt));have Y:=q_ (W.trans (L.mono ab));clear G W L I;go_enter func35,ntmps35;go_wp2_with fail
  clear cc Z J;refine X.mono ?_;rintro e w3 ⟨rfl,rfl⟩;go_wp2_with fail
  go_ret;exact⟨rfl,Y⟩
 .obtain⟨j,J⟩:∃j,E.alloc (.cells #[.int .u64 3,.int .u64 (a:Int),.int .u64 (N:Int),.int .u64 (O:Int),.int .u64 (U:Int),.int .u64 (V:Int),.int .u64 (b:Int),.int .u64 (c:Int)] 25)=j:=⟨_,rfl⟩
  have L:Below E.heap.size E j:=J▸bC;have I:dX cK 25 j E.heap.size [3,a,N,O,U,V,b,c]:=J▸aJ _ _ _;have X:=q_ (G (some ⟨E.heap.size,0,none⟩) j (I.isr I.lt));have Y:=q_ (W.trans (L.mono ab));clear G W L I;go_enter func35,ntmps35;go_wp2_with fail
  clear cc Z J;refine X.mono ?_;rintro e w3 ⟨rfl,rfl⟩;go_wp2_with fail
  go_ret;exact⟨rfl,Y⟩
section
variable {P:Program} {ops:Array Oper} {R:World->World->Prop} {w0:World} {Q:Act->Prop} {a:Act} {op:Oper} {rest:List Oper}
theorem dU(j:op.guard=none)(ty:TypeId)(x:Operand)(A:op.op=.load ty x)(b o:Nat)(E:a.eval x=.pointer (some ⟨b,o,none⟩))(cs:List Value)(d:TypeDesc)
 (G:∀l:bU R w0,l.w.rangeAt b o cs) (I:P.underlying ty=some d) (J:d.isRow=true) (L:(P.info? ty).map (·.size)=some cs.length)
 (h:kC P ops R w0 Q rest (a.put op.dst (.agg cs.toArray))):kC P ops R w0 Q (op :: rest) a:=aS fun K N=>by
 rw[bBa (by simp[Region.wanted,j])];refine⟨.agg cs.toArray,fun l=>?_,N _ h⟩;unfold execOp;simp only[A,E,Instr.loadAt,Instr.sureAddr,fJa,fHa,dNa,run_loadVar_mid l.w b o ty cs d (G l) I J L];exact⟨rfl,rfl⟩
theorem kQ(j:op.guard=none)(ty:TypeId)(x:Operand)(A:op.op=.load ty x)(b o:Nat)(E:a.eval x=.pointer (some ⟨b,o,none⟩))(cs:List Value)(d:TypeDesc)
 (G:∀l:Later w0,l.w.rangeAt b o cs) (I:P.underlying ty=some d) (J:d.isRow=true) (L:(P.info? ty).map (·.size)=some cs.length)
 (h:qM P ops w0 Q rest (a.put op.dst (.agg cs.toArray))):qM P ops w0 Q (op :: rest) a:=aD fun K N=>by
 rw[bBa (by simp[Region.wanted,j])];refine⟨.agg cs.toArray,fun l=>?_,N _ h⟩;unfold execOp;simp only[A,E,Instr.loadAt,Instr.sureAddr,fJa,fHa,dNa,run_loadVar_mid l.w b o ty cs d (G l) I J L];exact⟨by simp,mG _⟩
end
def nE (seed S:Nat) (t:Tu):Nat:=mW seed t % S
theorem aBy{seed:Nat}{t:Tu}(h:0<S):nE seed S t<S:=eKa _ h
theorem pW{w:World}{T:FT}(j:dF w f g S T)(A:T.most≠0):Cl 48 #[.pointer (some ⟨f,0,none⟩)] w fun e w'=>e=.returned (.bool false)/\w'=w:=by
 have E:=aA j.blk 1;have G:(T.most == 0)=false:=by rw[bDa];exact A
 clear j A;go_enter func48,ntmps48;go_wp2_with fail
 go_ret;exact⟨rfl,rfl⟩
theorem aQc(a b S:Nat)(N:a<S)(O:b<S)(U:S<=1099511627776)(w:World):Cl 133 #[.int .i64 (a:Int),.int .i64 (b:Int),.int .i64 (S:Int)] w fun e w'=>e=.returned (.int .i64 (far S a b:Int))/\w'=w:=by
 have V:IntKind.i64.wrap ((b:Int) - (a:Int))=(b:Int) - (a:Int):=by rw[fEa];omega
 have E:IntKind.i64.wrap ((b:Int) - (a:Int)+(S:Int))=((b+S - a:Nat):Int):=by rw[fEa];omega
 have G:¬ (S:Int)=0:=by omega
 have W:((S:Int) == 0)=false:=by rw[bDa];exact G
 unfold far;obtain⟨k,j⟩:∃k,b+S - a=k:=⟨_,rfl⟩
 rw[j]at E ⊢;have I:Int.tmod (k:Int) (S:Int)=((k % S:Nat):Int):=by rw[eUa (by omega)];omega
 have J:(k % S:Nat)<S:=eKa _ (by omega);have L:IntKind.i64.wrap ((k % S:Nat):Int)=((k % S:Nat):Int):=wO _;clear j;obtain⟨m,A⟩:∃m,k % S=m:=⟨_,rfl⟩
 rw[A]at I J L ⊢;clear A;go_enter func133,ntmps133;go_wp2_with fail
 go_ret;exact⟨rfl,rfl⟩
theorem aMu{w:World}{T:FT}(I:dF w f g S T)(U:T.seed<18446744073709551616)(t:Tu)(V:gY t)(h0:0<S)(hS:S<=1099511627776) :
 Cl 132 #[.pointer (some ⟨f,0,none⟩),.agg (eB t)] w fun e w'=>e=.returned (.int .i64 (nE T.seed S t:Int))/\Below w.heap.size w w':=by
 have J:=q_ (fun w=>aCv T.seed U t V w);have hl:mW T.seed t<18446744073709551616:=aB4 _ _;unfold nE;obtain⟨H,hH⟩:=eX (mW T.seed t);rw[hH]at J hl ⊢;have hm:=eKa H h0;have e1:IntKind.u64.wrap (S:Int)=(S:Int):=by rw[cTa];omega
 have e3:Int.tmod (H:Int) (S:Int)=((H % S:Nat):Int):=by rw[eUa (by omega)];omega
 have t0:¬ S=0:=by omega
 have e5:IntKind.i64.wrap ((H % S:Nat):Int)=((H % S:Nat):Int):=wO _;have e6:IntKind.u64.wrap ((H % S:Nat):Int)=((H % S:Nat):Int):=by rw[cTa];omega
 obtain⟨m,ac⟩:∃m,H % S=m:=⟨_,rfl⟩
 rw[ac]at e3 e5 e6 hm ⊢;obtain⟨j,L⟩:=eX (w.alloc (.cells (eB t) 46));have E:Hid (Below w.heap.size w j):=q_ (L▸bC);have G:=bN L;have X:=aG E I.blk;obtain⟨z,hz⟩:=eX w.heap.size;have ak:=I.flt;have al:=(Array.getElem?_eq_some_iff.1 G).1;rw[hz]at G E ak al;rw[hz];clear I hH ac V U;go_enter func132,ntmps132;go_upto_region 1 with fail
 clear L;refine rX (Below j.heap.size) ?_;intro O A;have Y:=q_ (aG A X);have Z:=q_ (aG A G);have am:=A.size;have aa:=q_ ((tw E A));have lf:=fun l:bU (Below j.heap.size) O=>aA ((l.hk.block f (by omega)).trans Y)
 have lr:Hid (∀l:bU (Below j.heap.size) O,l.w.rangeAt z 0 (tuL t)):=q_ (fun l=>aM (cs:=eB t) ((l.hk.block z (by omega)).trans Z));clear X G E A;refine xS (Below j.heap.size) 0 4 11 ?_;simp only[dA,dC,dD];iterate 4 refine qX ?_
 refine aN ?_;refine xS (Below j.heap.size) 4 1 10 ?_;simp only[dB,dA,dC,dD];refine dU rfl 46 (.tmp 3) rfl z 0 rfl (tuL t) _ lr cRa rfl bW ?_;refine aN ?_;refine xS (Below j.heap.size) 6 6 4 ?_;simp only[dB,dA,dC,dD];iterate 6 refine qX ?_
 refine aN ?_;clear lf;refine fS 5 rfl fun K W=>?_;go_simp;go_at_call 35;refine(J O).mono ?_;rintro e w4 ⟨rfl,N⟩;refine W _ _ (N.mono am) ?_;clear W K J;have ap:=q_ ((tw aa N));clear aa N Y Z;refine xM 12 rfl ?_;refine xM 13 rfl ?_;refine xM 14 rfl ?_;refine fD ?_;go_wp2_with fail
 go_ret;exact⟨rfl,ap⟩
theorem mod_one(j:i<S):(i+1) % S=if i+1<S then i+1 else 0:=by
 split
 ·exact dPa (by assumption)
 ·rw[show i+1=S by omega,Nat.mod_self]
theorem aMg{a:Nat}(j:a<S)(A:b<S):far S a b=if a<=b then b - a else b+S - a:=by
 unfold far;split
 ·rw[show b+S - a=(b - a)+S by omega,Nat.add_mod_right,dPa (by omega)]
 ·exact dPa (by omega)
theorem vU(A:i<S)(E:j<S)(I:i≠j):far S ((i+1) % S) j+1=far S i j:=by
 have G:=eKa (i+1) (show 0<S by omega);rw[aMg G E,aMg A E,mod_one A];split<;>split<;>split<;>omega
theorem aAd(A:i<S)(E:j<S):far S i j<S:=by
 rw[aMg A E];split<;>omega
def uL (T:FT) (S:Nat) (x:Tu):Nat->Nat->Nat×Bool
 | 0,i=>(i,false)
 | k+1,i=>if(T.at' i).used=true then(if(T.at' i).e.t=x then(i,true)else uL T S x k ((i+1) % S))else(i,false)
def aX (T:FT) (S:Nat) (x:Tu):Nat×Bool:=uL T S x S (nE T.seed S x)
theorem aMk{T:FT}{x:Tu}(E:j<S)(G:(T.at' j).used=false):∀(k i:Nat),i<S->far S i j<k->(uL T S x k i).1<S/\(T.at' (uL T S x k i).1).used=(uL T S x k i).2/\((uL T S x k i).2=true->(T.at' (uL T S x k i).1).e.t=x)
 | 0,_,_,h=>absurd h (gDa _)
 | k+1,i,hi,h=>by
  rw[uL];split
  ·rename_i A;split
   ·rename_i J;exact⟨hi,A,fun _=>J⟩
   ·have I:i≠j:=by rintro rfl;rw[G]at A;cases A
    have:=vU hi E I;exact aMk E G k _ (eKa _ (by omega)) (by omega)
  ·rename_i A;exact⟨hi,by simpa using A,fun h=>by cases h⟩
theorem rQ{T:FT}{x:Tu}(G:∃j,j<S/\(T.at' j).used=false):(aX T S x).1<S/\(T.at' (aX T S x).1).used=(aX T S x).2/\((aX T S x).2=true->(T.at' (aX T S x).1).e.t=x):=by
 obtain⟨j,E,I⟩:=G;have A:=aBy (seed:=T.seed) (t:=x) (show 0<S by omega);exact aMk E I S _ A (aAd A E)
theorem aAe{w:World}{T:FT}(hT:dF w f g S T)(hs:T.seed<18446744073709551616)(hS:S<=1099511627776)(hf:∃j,j<S/\(T.at' j).used=false)(t:Tu)(ht:gY t) :
 Cl 88 #[.pointer (some ⟨f,0,none⟩),.agg (eB t)] w fun e w'=>e=.returned (.tuple #[.int .i64 ((aX T S t).1:Int),.bool (aX T S t).2])/\Below w.heap.size w w':=by
 obtain⟨j,hj,hu⟩:=hf;have h0:0<S:=by omega
 have be:¬ S=0:=by omega
 obtain⟨w1,ak⟩:=eX (w.alloc (.cells (eB t) 46));have L:Below w.heap.size w w1:=ak▸bC;have I:=bN ak;have W:=hT.on L;have X:=aMu W hs t ht h0 hS;have hl:=aBy (seed:=T.seed) (t:=t) h0;obtain⟨R,J⟩:=eX (aX T S t);rw[J];unfold aX at J;obtain⟨h,hh⟩:=eX (nE T.seed S t);rw[hh]at X hl J;have Y:w1.rangeAt w.heap.size 0 (tuL t):=aM (cs:=eB t) I;obtain⟨z,hz⟩:=eX w.heap.size;have a6:=(Array.getElem?_eq_some_iff.1 I).1;rw[hz]at I L a6 Y;rw[hz];clear hT hh hs ht;replace ⟨L,W,J,X,I,Y⟩:=q_6 L W J X I Y;go_enter func88,ntmps88;go_upto_region 1 with fail
 apply aWa;refine pS ?_;refine wpList_load_mid rfl 46 (.tmp 3) rfl z 0 rfl (tuL t) _ Y cRa rfl bW ?_;refine bRa rfl fun K hK=>?_;go_simp;refine(X).mono ?_;rintro e w2 ⟨rfl,aa⟩;go_simp;refine hK _ _ ?_;clear hK K;refine pS ?_;refine bCa ?_;go_simp;clear ak;have ac:=W.on aa;have ah:=aG aa I;have bf:=aa.size;have aq:=q_ ((tw L aa));clear L W X I Y aa;replace ⟨ac,ah⟩:=q_2 ac ah;go_wp2_with fail
 go_loopw [6] (fun iv wr=>∃k i:Nat,iv=.int .i64 (i:Int)/\i<S/\uL T S t k i=R/\far S i j<k/\Below w2.heap.size w2 wr) (fun iv _=>far S (intOf iv).toNat j)
 case atStart=>exact⟨S,h,rfl,hl,J,aAd hl hj,bLa _ _⟩
 case round =>
  obtain⟨k,i,rfl,hi,A,hk,E⟩:=hrel;clear J;obtain⟨k,rfl⟩:∃k',k=k'+1:=⟨k - 1,by omega⟩
  rw[uL]at A;have N:=ac.on E;have ad:=aG E ah;have cf:=aA N.blk;have cu:wr.cell? ⟨g,i*15+12,none⟩=some (.bool (T.at' i).used):=N.cell hi rfl;have bg:(i:Int)<(S:Int):=by omega
  have a7:=E.size;obtain⟨U,O⟩:=eX ((T.at' i).used);rw[O]at cu A;rcases U with _|_
  ·rw[bAa (by decide)]at A;subst A;have ai:=q_ ((tw aq E));clear N O ad;replace E:=q_ E;go_wp2_with fail
   go_ret2;exact⟨rfl,ai⟩
  rw[bBa rfl]at A;have a8:i≠j:=by rintro rfl;rw[hu]at O;cases O
  have au:=q_ (vU hi hj a8);have lt:∀l:Later wr,l.w.rangeAt g (i*15+0) (tuL (T.at' i).e.t):=fun l=>(N.on l.hb).range hi 0 9 _ rfl
  have lx:Hid (∀l:Later wr,l.w.rangeAt z 0 (tuL t)):=q_ (fun l=>aM (cs:=eB t) (aG l.hb ad));have lf:=fun l:Later wr=>aA (aG l.hb N.blk)
  obtain⟨y,hy⟩:=eX ((T.at' i).e.t);rw[hy]at lt A;rw[cNa]at lt;clear hy N;replace ⟨E,ad,A,lt,O⟩:=q_5 E ad A lt O;go_upto_region 3 with fail
  clear cf cu;refine rL ?_;refine eS 0 11 0 ?_;simp only[dA,dC,dD];iterate 8 refine qE ?_
  refine kQ rfl 46 (.tmp 25) rfl g (i*15) rfl (tuL y) _ lt cRa rfl bW ?_;refine kQ rfl 46 (.tmp 3) rfl z 0 rfl (tuL t) _ lx cRa rfl bW ?_;refine nY (.bool (decide (y=t))) rfl (fun l=>eq_tu y t _ (.tmp 26) (.tmp 27) rfl rfl rfl l.w) ?_;refine aT ?_;refine eD fun w3 ab=>?_;go_simp;have hb':=E.trans (ab.mono a7);have bi:=ab.size;by_cases V:y=t
  ·rw[bYa V];have G:=A.out;rw[bBa V]at G;subst G;have ai:=q_ ((tw aq hb'));clear A V ab E hb';go_wp2_with fail
   go_ret2;exact⟨rfl,ai⟩
  ·rw[bWa V];have G:=A.out;rw[bAa V]at G;have cf:=aA (ac.on hb').blk;have e1:=wJ i;have e3:Int.tmod ((i+1:Nat):Int) (S:Int)=(((i+1) % S:Nat):Int):=by rw[eUa (by omega)];omega
   have hm:=eKa (i+1) h0;have e5:IntKind.i64.wrap (((i+1) % S:Nat):Int)=(((i+1) % S:Nat):Int):=wO _;have Z:=au.out;have e4:((i:Int)+1) % (S:Int)=(((i+1) % S:Nat):Int):=by
    show((i+1:Nat):Int) % (S:Int)=_
    exact(Int.natCast_emod _ _).symm
   obtain⟨m,a1⟩:∃m,(i+1) % S=m:=⟨_,rfl⟩
   rw[a1]at G e3 e4 e5 hm Z;clear A V ab E au a1;replace ⟨G,hb',Z⟩:=q_3 G hb' Z;go_wp2_with fail
   exact⟨⟨k,m,by first|rfl|rw[e4],hm,G,by have:=Z.out;omega,hb'⟩,by have:=Z.out;simp only[intOf,e4,bMa];omega⟩
theorem aLy(o:Oper)(h:o.op=.alloc 144)(ρ:Operand->Value)(w:World):(execOp ρ o).run prog w=.ok (.value (.pointer (some ⟨w.heap.size,0,none⟩))) (w.alloc (.cells (tL plZ) 144)):=by
 obtain⟨d,j,t,A,E,g⟩:=o;dsimp only at h;subst h
 kernel_rfl
def aAv (T:FT) (p:Pl):FT:=if 0<=p.prev then T.nxt p.prev.toNat p.next else { T with first:=p.next }
def unl2 (T:FT) (p:Pl):FT:=if 0<=p.next then T.prv p.next.toNat p.prev else { T with last:=p.prev }
def FT.unlink (T:FT) (i:Nat):FT:=unl2 (aAv T (T.at' i)) (T.at' i)
theorem aHp{w:World}{T:FT}(W:dF w f g S T)(i:Nat)(hi:i<S)(hp:(T.at' i).prev<(S:Int))(hn:(T.at' i).next<(S:Int)) :
 Cl 90 #[.pointer (some ⟨f,0,none⟩),.int .i64 (i:Int)] w fun e w'=>e=.returned (.tuple #[])/\dF w' f g S (T.unlink i)/\bH f g w w':=by
 have Z:=W.range hi 0 15 (plL (T.at' i)) rfl;unfold FT.unlink;obtain⟨P,hP⟩:=eX (T.at' i);rw[hP]at hp hn Z ⊢;rw[cNa]at Z;have cf:=aA W.blk;have a9:(i:Int)<(S:Int):=by omega
 obtain⟨z,hz⟩:=eX w.heap.size;clear hP;replace ⟨W,Z⟩:=q_2 W Z;go_enter func90,ntmps90;go_upto_region 0 with fail
 apply aWa;iterate 6 refine pS ?_
 refine wpList_load_mid rfl 144 (.tmp 10) rfl g (i*15) rfl (plL P) _ Z underlying144 rfl xQ ?_;refine gF rfl rfl 144 _ (aLy _ rfl) 4 rfl (.tmp 11) rfl _ (fun _=>rfl) (fun _=>rfl) rfl (by kernel_rfl) (aB6 P) ?_;intro j aw ar a8;refine bCa ?_;go_simp;clear cf Z;have N:=W.on ar;have hg1':j.heap[w.heap.size]?=some (.cells (tL P) 144 (0,0)):=aw;rw[hz]at hg1' a8;have ai:bH f g w j:=bH.quiet ar;have aj:j.cell? ⟨z,13,none⟩=some (.int .i64 P.prev):=aA hg1' 13;have ak:j.cell? ⟨z,14,none⟩=some (.int .i64 P.next):=aA hg1' 14;have al:z<j.heap.size:=(Array.getElem?_eq_some_iff.1 hg1').1;have ax:z≠g:=by have:=W.glt;omega
 have ay:z≠f:=by have:=W.flt;omega
 have O:aAv T P=if 0<=P.prev then T.nxt P.prev.toNat P.next else { T with first:=P.next }:=rfl
 have az:∀T',unl2 T' P=if 0<=P.next then T'.prv P.next.toNat P.prev else { T' with last:=P.prev }:=fun _=>rfl
 obtain⟨E,ap⟩:∃v,P.prev=v:=⟨_,rfl⟩
 obtain⟨G,aq⟩:∃v,P.next=v:=⟨_,rfl⟩
 rw[ap]at aj hp O;rw[aq]at ak hn O;have hu2':=az;rw[ap,aq]at hu2';have lz:=fun l:Later j=>aA (aG l.hb hg1')
 have aa:∀l:Later j,l.w.cell? ⟨z,13,none⟩=some (.int .i64 E):=fun l=>(l.hb.cell (p:=⟨z,13,none⟩) al).trans aj
 have ab:∀l:Later j,l.w.cell? ⟨z,14,none⟩=some (.int .i64 G):=fun l=>(l.hb.cell (p:=⟨z,14,none⟩) al).trans ak
 clear aw ar W ap aq az lz hg1';replace ⟨N,ai,O,hu2'⟩:=q_4 N ai O hu2';go_upto_if 14 with fail
 go_cut [] (fun wx=>dF wx f g S (aAv T P)/\bH f g j wx)
 case first =>
  by_cases h0:0<=E
  ·obtain⟨a,rfl⟩:∃a:Nat,E=(a:Int):=⟨E.toNat,by omega⟩
   have J:Hid (aAv T P=T.nxt a G):=q_ (by rw[O.out,bBa h0,bMa]);clear O;have ac:a<S:=by omega
   have lf:=fun l:Later j=>aA (N.on l.hb).blk
   go_upto_region 2 with fail
   refine rL ?_;refine eS 0 10 1 ?_;simp only[dA,dC,dD];iterate 10 refine qE ?_
   refine aT ?_;refine eE fun L=>?_;have U:=N.on L.hb;have ad:L.w.cell? ⟨g,a*15+14,none⟩=some (.int .i64 ((T).at' a).next):=U.cell ac rfl;have ae:=U.row.free (a*15+14);obtain⟨I,A⟩:∃I,L.w.setCell ⟨g,a*15+14,none⟩ (.int .i64 G)=I:=⟨_,rfl⟩
   have X:=q_ (A▸U.nxt ac G);have Y:Hid (bH f g j I):=q_ (A▸(bH.quiet L.hb).trans (bH.set (p:=⟨g,a*15+14,none⟩) (.inr rfl) _));clear lf aa ab U;refine tM 10 rfl ?_;refine tD ?_;clear ad ae A;go_wp2_with fail
   go_meet;exact⟨by rw[J.out];exact X,Y⟩
  ·have J:aAv T P={ T with first:=G }:=by rw[O.out,bAa h0]
   clear aa ab O;replace J:=q_ J;have ad:j.cell? ⟨f,4,none⟩=some (.int .i64 (T).first):=aA N.blk 4;have ae:=bD N.blk 4;have c2:=aA N.blk 2;obtain⟨I,A⟩:=eX (j.setCell ⟨f,4,none⟩ (.int .i64 G));have X:=q_ (A▸N.first G);have Y:Hid (bH f g j I):=q_ (A▸bH.set (p:=⟨f,4,none⟩) (.inl rfl) _);go_wp2_with fail
   go_meet;exact⟨by rw[J.out];exact X,Y⟩
 case rest =>
 obtain⟨V,af⟩:=hcut;have am:=ai.trans af;have a5:wc.cell? ⟨z,13,none⟩=some (.int .i64 E):=(dFa (a:=⟨z,13,none⟩) (af.block z al (by simp[ax,ay]))).trans aj;have a6:wc.cell? ⟨z,14,none⟩=some (.int .i64 G):=(dFa (a:=⟨z,14,none⟩) (af.block z al (by simp[ax,ay]))).trans ak;have a0:z<wc.heap.size:=by have:=af.size;omega
 have aa:∀l:Later wc,l.w.cell? ⟨z,13,none⟩=some (.int .i64 E):=fun l=>(l.hb.cell (p:=⟨z,13,none⟩) a0).trans a5
 have ab:∀l:Later wc,l.w.cell? ⟨z,14,none⟩=some (.int .i64 G):=fun l=>(l.hb.cell (p:=⟨z,14,none⟩) a0).trans a6
 obtain⟨T1,ag⟩:=eX (aAv T P);rw[ag]at V;clear N ai af aj ak O;replace ⟨V,am,ag⟩:=q_3 V am ag;by_cases h0:0<=G
 ·obtain⟨a,rfl⟩:∃a:Nat,G=(a:Int):=⟨G.toNat,by omega⟩
  have J:Hid (unl2 T1 P=T1.prv a E):=q_ (by rw[hu2'.out,bBa h0,bMa]);clear hu2';have ac:a<S:=by omega
  have lf:=fun l:Later wc=>aA (V.on l.hb).blk
  go_upto_region 5 with fail
  refine rL ?_;refine eS 0 10 1 ?_;simp only[dA,dC,dD];iterate 10 refine qE ?_
  refine aT ?_;refine eE fun L=>?_;have U:=V.on L.hb;have ad:L.w.cell? ⟨g,a*15+13,none⟩=some (.int .i64 ((T1).at' a).prev):=U.cell ac rfl;have ae:=U.row.free (a*15+13);obtain⟨I,A⟩:∃I,L.w.setCell ⟨g,a*15+13,none⟩ (.int .i64 E)=I:=⟨_,rfl⟩
  have X:=q_ (A▸U.prv ac E);have Y:Hid (bH f g wc I):=q_ (A▸(bH.quiet L.hb).trans (bH.set (p:=⟨g,a*15+13,none⟩) (.inr rfl) _));clear lf aa ab U;refine tM 10 rfl ?_;refine tD ?_;clear ad ae A;go_wp2_with fail
  go_end0;exact⟨rfl,by rw[ag.out,J.out];exact X,am.trans Y⟩
 ·have J:unl2 T1 P={ T1 with last:=E }:=by rw[hu2'.out,bAa h0]
  clear aa ab hu2';replace J:=q_ J;have ad:wc.cell? ⟨f,5,none⟩=some (.int .i64 (T1).last):=aA V.blk 5;have ae:=bD V.blk 5;have c2:=aA V.blk 2;obtain⟨I,A⟩:=eX (wc.setCell ⟨f,5,none⟩ (.int .i64 E));have X:=q_ (A▸V.last E);have Y:Hid (bH f g wc I):=q_ (A▸bH.set (p:=⟨f,5,none⟩) (.inl rfl) _);go_wp2_with fail
  go_end0;exact⟨rfl,by rw[ag.out,J.out];exact X,am.trans Y⟩
def fr1 (T:FT) (i:Nat):FT:=(T.prv i (-1)).nxt i T.first
def fr2 (T:FT) (i:Nat) (fs:Int):FT:=if 0<=fs then T.prv fs.toNat (i:Int)else { T with last:=(i:Int) }
def FT.front (T:FT) (i:Nat):FT:={ fr2 (fr1 T i) i T.first with first:=(i:Int) }
theorem aJ8{w:World}{T:FT}(N:dF w f g S T)(i:Nat)(hi:i<S)(a0:T.first<(S:Int)) :
 Cl 91 #[.pointer (some ⟨f,0,none⟩),.int .i64 (i:Int)] w fun e w'=>e=.returned (.tuple #[])/\dF w' f g S (T.front i)/\bH f g w w':=by
 have ao:T.front i={ fr2 (fr1 T i) i T.first with first:=(i:Int) }:=rfl;have L:∀T':FT,fr2 T' i T.first=if 0<=T.first then T'.prv T.first.toNat (i:Int)else { T' with last:=(i:Int) }:=fun _=>rfl
 have Z:(fr1 T i).first=T.first:=rfl;have a7:(i:Int)<(S:Int):=by omega
 obtain⟨I,aa⟩:∃v,T.first=v:=⟨_,rfl⟩
 rw[aa]at a0 Z;have a1:=N.flt;have a8:=N.glt;have a2:=N.ne;replace ⟨N,ao,L⟩:=q_3 N ao L;go_enter func91,ntmps91;go_upto_region 0 with fail
 refine sV [19] (aV w.heap.size (fun k=>k=g)) (by as_aux_lemma=>kernel_rfl) ?_;intro w3 am;have V:=N.on am;have a9:=am.size;have lf:∀(l:bU (aV w.heap.size (fun k=>k=g)) w3) (j:Nat),l.w.cell? ⟨f,j,none⟩=(#[.int .u64 (T.seed:Int),.int .i64 T.most,.slice (some ⟨g,0,none⟩) S S,.int .i64 T.n,.int .i64 T.first,.int .i64 T.last]:Array Value)[j]?:=fun l=>aA ((l.hk.block f a1 a2).trans V.blk)
 have ar:Hid (bH f g w w3):=q_ (bH.quiet am);clear N am;replace V:=q_ V;refine wC [19] (aV w.heap.size (fun k=>k=g)) 0 14 (fuel:=6) (by as_aux_lemma=>kernel_rfl) (fun d _ _ _ _ h=>by cases d<;>exact h) (by as_aux_lemma=>kernel_rfl) (by as_aux_lemma=>kernel_rfl) (by as_aux_lemma=>kernel_rfl) ?_;simp only[dA,dC,dD];iterate 14 refine qX ?_
 refine aN ?_;clear lf;refine wT 14 rfl fun K A=>?_;go_simp;refine A _ _ (gD (cB.refl _)) ?_;clear A K;refine wT 15 rfl fun K A=>?_;go_simp;refine A _ _ (gD (cB.refl _)) ?_;clear A K;have W:w3.cell? ⟨g,i*15+13,none⟩=some (.int .i64 (T.at' i).prev):=V.cell hi rfl;have X:=V.row.free (i*15+13);obtain⟨O,aj⟩:∃O,w3.setCell ⟨g,i*15+13,none⟩ (.int .i64 (-1))=O:=⟨_,rfl⟩
 have ah:=q_ (aj▸V.prv hi (-1));have au:Hid (aV w.heap.size (fun k=>k=g) w3 O):=q_ (aj▸uA (P:=fun k=>k=g) (gQ _ _ _) (p:=⟨g,i*15+13,none⟩) rfl _);have av:bH f g w3 O:=aj▸bH.set (p:=⟨g,i*15+13,none⟩) (.inr rfl) _;have hE4':=q_ (ar.trans av);clear V ar av;refine wT 16 rfl fun K A=>?_;go_simp;refine A _ _ (gD au) ?_;clear A K W X aj au;refine wT 17 rfl fun K A=>?_;go_simp;refine A _ _ (gD (cB.refl _)) ?_;clear A K;refine wT 18 rfl fun K A=>?_;go_simp;refine A _ _ (gD (cB.refl _)) ?_;clear A K;have W:O.cell? ⟨g,i*15+14,none⟩=some (.int .i64 ((T.prv i (-1)).at' i).next):=ah.cell hi rfl;have X:=ah.row.free (i*15+14);obtain⟨E,aq⟩:∃E,O.setCell ⟨g,i*15+14,none⟩ (.int .i64 I)=E:=⟨_,rfl⟩
 have G:dF E f g S (fr1 T i):=by
  have h:=ah.nxt hi I;rw[aq]at h;unfold fr1;rw[aa];exact h
 have aw:bH f g O E:=aq▸bH.set (p:=⟨g,i*15+14,none⟩) (.inr rfl) _;have hE5':=q_ (hE4'.trans aw);clear ah hE4' aw;replace G:=q_ G;refine wT 19 rfl fun K A=>?_;go_simp;refine A _ _ (zT (by as_aux_lemma=>kernel_rfl)) ?_;clear A K W X aq;refine xX (by as_aux_lemma=>kernel_rfl) ?_ _;obtain⟨T1,ak⟩:=eX (fr1 T i);rw[ak]at G Z;have cf:E.cell? ⟨f,4,none⟩=some (.int .i64 I):=(aA G.blk 4).trans (by rw[<-Z];rfl);rw[aa]at L;replace ⟨ak,aa,Z⟩:=q_3 ak aa Z;go_upto_if 26 with fail
 clear cf;go_cut [] (fun wx=>dF wx f g S (fr2 T1 i I)/\bH f g E wx)
 case first =>
  by_cases h0:0<=I
  ·obtain⟨a,rfl⟩:∃a:Nat,I=(a:Int):=⟨I.toNat,by omega⟩
   have hU:Hid (fr2 T1 i (a:Int)=T1.prv a (i:Int)):=q_ (by rw[L.out,bBa h0,bMa]);clear L;have ax:a<S:=by omega
   have a3:=Z.out;have lf:=fun l:Later E=>aA (G.on l.hb).blk
   go_upto_region 2 with fail
   refine rL ?_;refine eS 0 11 1 ?_;simp only[dA,dC,dD];iterate 11 refine qE ?_
   refine aT ?_;refine eE fun l2=>?_;have ai:=G.on l2.hb;have W:l2.w.cell? ⟨g,a*15+13,none⟩=some (.int .i64 ((T1).at' a).prev):=ai.cell ax rfl;have X:=ai.row.free (a*15+13);obtain⟨U,J⟩:∃U,l2.w.setCell ⟨g,a*15+13,none⟩ (.int .i64 (i:Int))=U:=⟨_,rfl⟩
   have ad:=q_ (J▸ai.prv ax (i:Int));have ae:Hid (bH f g E U):=q_ (J▸(bH.quiet l2.hb).trans (bH.set (p:=⟨g,a*15+13,none⟩) (.inr rfl) _));clear lf a3 ai;refine tM 11 rfl ?_;refine tD ?_;clear W X J;go_wp2_with fail
   go_meet;exact⟨by rw[hU.out];exact ad,ae⟩
  ·have hU:fr2 T1 i I={ T1 with last:=(i:Int) }:=by rw[L.out,bAa h0]
   clear L;replace hU:=q_ hU;have W:E.cell? ⟨f,5,none⟩=some (.int .i64 (T1).last):=aA G.blk 5;have X:=bD G.blk 5;have c2:=aA G.blk 2;obtain⟨U,J⟩:=eX (E.setCell ⟨f,5,none⟩ (.int .i64 (i:Int)));have ad:=q_ (J▸G.last (i:Int));have ae:Hid (bH f g E U):=q_ (J▸bH.set (p:=⟨f,5,none⟩) (.inl rfl) _);go_wp2_with fail
   go_meet;exact⟨by rw[hU.out];exact ad,ae⟩
 case rest =>
 obtain⟨Y,ay⟩:=hcut;have a5:=q_ (hE5'.trans ay);obtain⟨T2,al⟩:=eX (fr2 T1 i I);rw[al]at Y;clear G hE5' ay L;replace ⟨Y,al⟩:=q_2 Y al;have W:wc.cell? ⟨f,4,none⟩=some (.int .i64 (T2).first):=aA Y.blk 4;have X:=bD Y.blk 4;have c2:=aA Y.blk 2;obtain⟨U,J⟩:=eX (wc.setCell ⟨f,4,none⟩ (.int .i64 (i:Int)));have ad:=q_ (J▸Y.first (i:Int));have ae:Hid (bH f g wc U):=q_ (J▸bH.set (p:=⟨f,4,none⟩) (.inl rfl) _);go_wp2_with fail
 go_end0;exact⟨rfl,by rw[ao.out,aa.out,ak.out,al.out];exact ad,a5.trans ae⟩
def mv2 (T:FT) (p:Pl) (b:Nat):FT:=if 0<=p.prev then T.nxt p.prev.toNat (b:Int)else { T with first:=(b:Int) }
def mv3 (T:FT) (p:Pl) (b:Nat):FT:=if 0<=p.next then T.prv p.next.toNat (b:Int)else { T with last:=(b:Int) }
def mv1 (T:FT) (a b:Nat):FT:=(T.put b (T.at' a)).put a plZ
def FT.move (T:FT) (a b:Nat):FT:=mv3 (mv2 (mv1 T a b) (T.at' a) b) (T.at' a) b
theorem move_any{w:World}{T:FT}(V:dF w f g S T)(i b:Nat)(hi:i<S)(hb:b<S)(hp:(T.at' i).prev<(S:Int))(hn:(T.at' i).next<(S:Int)) :
 Cl 134 #[.pointer (some ⟨f,0,none⟩),.int .i64 (i:Int),.int .i64 (b:Int)] w fun e w'=>e=.returned (.tuple #[])/\dF w' f g S (T.move i b)/\bH f g w w':=by
 have hr:=V.range hi 0 15 (plL (T.at' i)) rfl;have al:T.move i b=mv3 (mv2 (mv1 T i b) (T.at' i) b) (T.at' i) b:=rfl;have am:mv1 T i b=(T.put b (T.at' i)).put i plZ:=rfl;obtain⟨P,hP⟩:=eX (T.at' i);rw[hP]at hp hn hr al am;rw[cNa]at hr;have cf:=aA V.blk;have b7:(i:Int)<(S:Int):=by omega
 have b8:(b:Int)<(S:Int):=by omega
 obtain⟨z,hz⟩:=eX w.heap.size;clear hP;replace ⟨V,hr,al,am⟩:=q_4 V hr al am;go_enter func134,ntmps134;go_upto_region 0 with fail
 apply aWa;iterate 6 refine pS ?_
 refine wpList_load_mid rfl 144 (.tmp 12) rfl g (i*15) rfl (plL P) _ hr underlying144 rfl xQ ?_;refine gF rfl rfl 144 _ (aLy _ rfl) 6 rfl (.tmp 13) rfl _ (fun _=>rfl) (fun _=>rfl) rfl (by kernel_rfl) (aB6 P) ?_;intro Y bk bd b6;refine bCa ?_;go_simp;clear cf hr;have aa:=V.on bd;have hg1':Y.heap[w.heap.size]?=some (.cells (tL P) 144 (0,0)):=bk;rw[hz]at hg1' b6;have a2:bH f g w Y:=bH.quiet bd;have bv:z<Y.heap.size:=(Array.getElem?_eq_some_iff.1 hg1').1;have bw:=aa.flt;have b9:=aa.glt;have bx:=aa.ne;have a3:z≠g:=by have:=V.glt;omega
 have bz:z≠f:=by have:=V.flt;omega
 clear bk bd V;replace ⟨aa,a2,hg1'⟩:=q_3 aa a2 hg1';go_upto_region 1 with fail
 refine sV [15] (aV Y.heap.size (fun k=>k=g)) (by as_aux_lemma=>kernel_rfl) ?_;intro w3 a0;have W:=aa.on a0;have b0:=a0.size;have an:=aG a0 hg1';have lf:=fun(l:bU (aV Y.heap.size (fun k=>k=g)) w3)=>aA ((l.hk.block f bw bx).trans W.blk)
 have lr:Hid (∀(l:bU (aV Y.heap.size (fun k=>k=g)) w3),l.w.rangeAt z 0 (plL P)):=q_ (fun l=>aM (cs:=tL P) ((l.hk.block z bv a3).trans an));have bm:Hid (bH f g w w3):=q_ (a2.trans (bH.quiet a0));clear aa a0 a2 hg1';replace ⟨W,an⟩:=q_2 W an;refine wC [15] (aV Y.heap.size (fun k=>k=g)) 0 12 (fuel:=4) (by as_aux_lemma=>kernel_rfl) (fun d _ _ _ _ h=>by cases d<;>exact h) (by as_aux_lemma=>kernel_rfl) (by as_aux_lemma=>kernel_rfl) (by as_aux_lemma=>kernel_rfl) ?_;simp only[dA,dC,dD];iterate 10 refine qX ?_
 refine dU rfl 144 (.tmp 6) rfl z 0 rfl (plL P) _ lr underlying144 rfl xQ ?_;refine qX ?_;refine aN ?_;clear lf;refine wT 12 rfl fun K I=>?_;go_simp;refine I _ _ (gD (cB.refl _)) ?_;clear I K;obtain⟨cs,j⟩:∃cs,w3.heap[g]?=some (.cells cs 144 (0,0)):=by obtain⟨cs,h1,-⟩:=W.row;exact⟨cs,h1⟩
 have ap:cs.size=S*15:=by
  obtain⟨ds,h1,h2⟩:=W.row;rw[h1]at j
  cases j
  rw[h2.1,W.out.len]
 have aq:b*15+15<=cs.size:=by rw[ap];omega
 replace j:=q_ j;refine wT 13 rfl fun K I=>?_;rw[bBa (by rfl)];refine nL 144 (.tmp 26) (.tmp 24) rfl g (b*15) rfl (tL P) rfl j aq xQ (aB6 P) fun w4 bi g4=>?_;have ab:=W.put hb P j bi g4;have bn:aV Y.heap.size (fun k=>k=g) w3 w4:=kept_g g4 b0;have a4:=bm.trans (bH.grown (.inr rfl) g4);have ca:=g4.size;have bo:=(g4.block z (by omega) (fun e=>a3 (bFa e))).trans an;clear W bm bi g4 j ap aq an;replace ⟨ab,a4⟩:=q_2 ab a4;refine I _ _ (gD bn) ?_;clear I K bn;refine wT 14 rfl fun K I=>?_;go_simp;refine I _ _ (gD (cB.refl _)) ?_;clear I K;obtain⟨cs,j⟩:∃cs,w4.heap[g]?=some (.cells cs 144 (0,0)):=by obtain⟨cs,h1,-⟩:=ab.row;exact⟨cs,h1⟩
 have ap:cs.size=S*15:=by
  obtain⟨ds,h1,h2⟩:=ab.row;rw[h1]at j
  cases j
  rw[h2.1,ab.out.len]
 have aq:i*15+15<=cs.size:=by rw[ap];omega
 replace j:=q_ j;refine wT 15 rfl fun K I=>?_;rw[bBa (by rfl)];refine nL 144 (.tmp 27) (.tmp 25) rfl g (i*15) rfl (tL plZ) rfl j aq xQ (aB6 plZ) fun J bj g5=>?_;have A:=ab.put hi plZ j bj g5;have ai:=a4.trans (bH.grown (.inr rfl) g5);rw[<-am.out]at A;have a5:J.heap[z]?=some (.cells (tL P) 144 (0,0)):=(g5.block z (by omega) (fun e=>a3 (bFa e))).trans bo;have cc:=g5.size;clear ab a4 bj g5 j ap aq lr bo am;replace ⟨A,ai⟩:=q_2 A ai;refine I _ _ (zT (by as_aux_lemma=>kernel_rfl)) ?_;clear I K;refine xX (by as_aux_lemma=>kernel_rfl) ?_ _;go_simp;have a9:J.cell? ⟨z,13,none⟩=some (.int .i64 P.prev):=aA a5 13;have ba:J.cell? ⟨z,14,none⟩=some (.int .i64 P.next):=aA a5 14;have bp:z<J.heap.size:=(Array.getElem?_eq_some_iff.1 a5).1;have X:∀Z,mv2 Z P b=if 0<=P.prev then Z.nxt P.prev.toNat (b:Int)else { Z with first:=(b:Int) }:=fun _=>rfl
 have ac:∀Z,mv3 Z P b=if 0<=P.next then Z.prv P.next.toNat (b:Int)else { Z with last:=(b:Int) }:=fun _=>rfl
 obtain⟨pv,bs⟩:∃v,P.prev=v:=⟨_,rfl⟩
 obtain⟨nx,bt⟩:∃v,P.next=v:=⟨_,rfl⟩
 rw[bs]at a9 hp X;rw[bt]at ba hn ac;have bb:∀l:Later J,l.w.cell? ⟨z,13,none⟩=some (.int .i64 pv):=fun l=>(l.hb.cell (p:=⟨z,13,none⟩) bp).trans a9
 obtain⟨T1,ax⟩:=eX (mv1 T i b);rw[ax]at A;clear bs bt a5;replace ⟨A,ai,X,ac,ax⟩:=q_5 A ai X ac ax;go_upto_if 30 with fail
 go_cut [] (fun wx=>dF wx f g S (mv2 T1 P b)/\bH f g J wx)
 case first =>
  by_cases h0:0<=pv
  ·obtain⟨a,rfl⟩:∃a:Nat,pv=(a:Int):=⟨pv.toNat,by omega⟩
   have L:Hid (mv2 T1 P b=T1.nxt a (b:Int)):=q_ (by rw[X.out,bBa h0,bMa]);clear X;have ar:a<S:=by omega
   have lf:=fun l:Later J=>aA (A.on l.hb).blk
   go_upto_region 3 with fail
   refine rL ?_;refine eS 0 9 1 ?_;simp only[dA,dC,dD];iterate 9 refine qE ?_
   refine aT ?_;refine eE fun N=>?_;have O:=A.on N.hb;have au:N.w.cell? ⟨g,a*15+14,none⟩=some (.int .i64 ((T1).at' a).next):=O.cell ar rfl;have av:=O.row.free (a*15+14);obtain⟨G,E⟩:∃G,N.w.setCell ⟨g,a*15+14,none⟩ (.int .i64 (b:Int))=G:=⟨_,rfl⟩
   have ad:=q_ (E▸O.nxt ar (b:Int));have ae:Hid (bH f g J G):=q_ (E▸(bH.quiet N.hb).trans (bH.set (p:=⟨g,a*15+14,none⟩) (.inr rfl) _));clear lf bb O;refine tM 9 rfl ?_;refine tD ?_;clear au av E;go_wp2_with fail
   go_meet;exact⟨by rw[L.out];exact ad,ae⟩
  ·have L:mv2 T1 P b={ T1 with first:=(b:Int) }:=by rw[X.out,bAa h0]
   clear bb X;replace L:=q_ L;have au:J.cell? ⟨f,4,none⟩=some (.int .i64 (T1).first):=aA A.blk 4;have av:=bD A.blk 4;have c2:=aA A.blk 2;obtain⟨G,E⟩:=eX (J.setCell ⟨f,4,none⟩ (.int .i64 (b:Int)));have ad:=q_ (E▸A.first (b:Int));have ae:Hid (bH f g J G):=q_ (E▸bH.set (p:=⟨f,4,none⟩) (.inl rfl) _);go_wp2_with fail
   go_meet;exact⟨by rw[L.out];exact ad,ae⟩
 case rest =>
 obtain⟨U,a8⟩:=hcut;have a6:=ai.trans a8;have b2:wc.cell? ⟨z,14,none⟩=some (.int .i64 nx):=(dFa (a:=⟨z,14,none⟩) (a8.block z bp (by simp[a3,bz]))).trans ba;have b3:z<wc.heap.size:=by have:=a8.size;omega
 have bq:∀l:Later wc,l.w.cell? ⟨z,14,none⟩=some (.int .i64 nx):=fun l=>(l.hb.cell (p:=⟨z,14,none⟩) b3).trans b2
 obtain⟨T2,ay⟩:=eX (mv2 T1 P b);rw[ay]at U;clear A ai a8 a9 ba X bb;replace ⟨U,a6,ay⟩:=q_3 U a6 ay;by_cases h0:0<=nx
 ·obtain⟨a,rfl⟩:∃a:Nat,nx=(a:Int):=⟨nx.toNat,by omega⟩
  have L:Hid (mv3 T2 P b=T2.prv a (b:Int)):=q_ (by rw[ac.out,bBa h0,bMa]);clear ac;have ar:a<S:=by omega
  have lf:=fun l:Later wc=>aA (U.on l.hb).blk
  go_upto_region 6 with fail
  refine rL ?_;refine eS 0 9 1 ?_;simp only[dA,dC,dD];iterate 9 refine qE ?_
  refine aT ?_;refine eE fun N=>?_;have O:=U.on N.hb;have au:N.w.cell? ⟨g,a*15+13,none⟩=some (.int .i64 ((T2).at' a).prev):=O.cell ar rfl;have av:=O.row.free (a*15+13);obtain⟨G,E⟩:∃G,N.w.setCell ⟨g,a*15+13,none⟩ (.int .i64 (b:Int))=G:=⟨_,rfl⟩
  have ad:=q_ (E▸O.prv ar (b:Int));have ae:Hid (bH f g wc G):=q_ (E▸(bH.quiet N.hb).trans (bH.set (p:=⟨g,a*15+13,none⟩) (.inr rfl) _));clear lf bq O;refine tM 9 rfl ?_;refine tD ?_;clear au av E;go_wp2_with fail
  go_end0;exact⟨rfl,by rw[al.out,ax.out,ay.out,L.out];exact ad,a6.trans ae⟩
 ·have L:mv3 T2 P b={ T2 with last:=(b:Int) }:=by rw[ac.out,bAa h0]
  clear bq ac;replace L:=q_ L;have au:wc.cell? ⟨f,5,none⟩=some (.int .i64 (T2).last):=aA U.blk 5;have av:=bD U.blk 5;have c2:=aA U.blk 2;obtain⟨G,E⟩:=eX (wc.setCell ⟨f,5,none⟩ (.int .i64 (b:Int)));have ad:=q_ (E▸U.last (b:Int));have ae:Hid (bH f g wc G):=q_ (E▸bH.set (p:=⟨f,5,none⟩) (.inl rfl) _);go_wp2_with fail
  go_end0;exact⟨rfl,by rw[al.out,ax.out,ay.out,L.out];exact ad,a6.trans ae⟩
section
theorem cover {S:Nat}:∀{os:List Nat},(∀j,j<S->j∈os)->S<=os.length:=by
 induction S with
 | zero=>intro os _;exact dEa _
 | succ S ih =>
  intro os h;have A:=h S (Nat.lt_succ_self S);have E:=ih (os:=os.erase S) (fun j G=>(List.mem_erase_of_ne (by omega)).2 (h j (by omega)));rw[List.length_erase_of_mem A]at E;have I:0<os.length:=List.length_pos_of_mem A;omega
section
variable {T:FT} {S:Nat}
theorem wX {i:Nat} (A:i<T.l.length) (p:Pl) (j:Nat):(T.put i p).at' j=if j=i then p else T.at' j:=by
 unfold FT.put FT.at';dsimp only;rw[bTa,List.getElem?_set];split
 .rename_i h;subst h;simp[A]
 .rename_i h;rw[bAa (fVa h),<-bTa]
theorem aG3 {i:Nat} (A:i<T.l.length) (v:Int) (j:Nat):(T.nxt i v).at' j=if j=i then { T.at' j with next:=v } else T.at' j:=by
 have h:=wX A { T.at' i with next:=v } j
 show(T.put i { T.at' i with next:=v }).at' j=_
 rw[h];split
 .rename_i e;rw[e]
 .rfl
theorem aHb {i:Nat} (A:i<T.l.length) (v:Int) (j:Nat):(T.prv i v).at' j=if j=i then { T.at' j with prev:=v } else T.at' j:=by
 have h:=wX A { T.at' i with prev:=v } j
 show(T.put i { T.at' i with prev:=v }).at' j=_
 rw[h];split
 .rename_i e;rw[e]
 .rfl
theorem aV9 {i:Nat} (A:i<T.l.length) (e:En) (j:Nat):(T.ent i e).at' j=if j=i then { T.at' j with e:=e } else T.at' j:=by
 have h:=wX A { T.at' i with e:=e } j
 show(T.put i { T.at' i with e:=e }).at' j=_
 rw[h];split
 .rename_i e;rw[e]
 .rfl
structure Alike (T T':FT):Prop where
 seed:T'.seed=T.seed
 most:T'.most=T.most
 n:T'.n=T.n
 len:T'.l.length=T.l.length
 e:∀j,(T'.at' j).e=(T.at' j).e
 used:∀j,(T'.at' j).used=(T.at' j).used
theorem Alike.trans {T1 A E:FT} (h:Alike T1 A) (k:Alike A E):Alike T1 E :=
 ⟨k.seed.trans h.seed,k.most.trans h.most,k.n.trans h.n,k.len.trans h.len,fun j=>(k.e j).trans (h.e j),fun j=>(k.used j).trans (h.used j)⟩
theorem Alike.nxt {i:Nat} (A:i<T.l.length) (v:Int):Alike T (T.nxt i v) :=
 ⟨rfl,rfl,rfl,by unfold FT.nxt;rw[cFa],fun j=>by rw[aG3 A];split<;>rfl,fun j=>by rw[aG3 A];split<;>rfl⟩
theorem Alike.prv {i:Nat} (A:i<T.l.length) (v:Int):Alike T (T.prv i v) :=
 ⟨rfl,rfl,rfl,by unfold FT.prv;rw[cFa],fun j=>by rw[aHb A];split<;>rfl,fun j=>by rw[aHb A];split<;>rfl⟩
theorem Alike.fst (v:Int):Alike T { T with first:=v }:=⟨rfl,rfl,rfl,rfl,fun _=>rfl,fun _=>rfl⟩
theorem Alike.lst (v:Int):Alike T { T with last:=v }:=⟨rfl,rfl,rfl,rfl,fun _=>rfl,fun _=>rfl⟩
theorem aQy {A v:Int} (E:-1<=A) (h:A<(T.l.length:Int)) (j:Nat):((if 0<=A then T.nxt A.toNat v else { T with first:=v }:FT).at' j).next=(if(j:Int)=A then v else(T.at' j).next)/\((if 0<=A then T.nxt A.toNat v else { T with first:=v }:FT).at' j).prev=(T.at' j).prev:=by
 split
 .rw[aG3 (by omega)];by_cases e:j=A.toNat
  .rw[bBa e,bBa (by omega)];exact⟨rfl,rfl⟩
  .rw[bAa e,bAa (by omega)];exact⟨rfl,rfl⟩
 .rw[bAa (by omega)];exact⟨rfl,rfl⟩
theorem aJs {A v:Int} (E:-1<=A) (h:A<(T.l.length:Int)) (j:Nat):((if 0<=A then T.prv A.toNat v else { T with last:=v }:FT).at' j).prev=(if(j:Int)=A then v else(T.at' j).prev)/\((if 0<=A then T.prv A.toNat v else { T with last:=v }:FT).at' j).next=(T.at' j).next:=by
 split
 .rw[aHb (by omega)];by_cases e:j=A.toNat
  .rw[bBa e,bBa (by omega)];exact⟨rfl,rfl⟩
  .rw[bAa e,bAa (by omega)];exact⟨rfl,rfl⟩
 .rw[bAa (by omega)];exact⟨rfl,rfl⟩
theorem aJv {j v:Int} (h:j<(T.l.length:Int)):Alike T (if 0<=j then T.nxt j.toNat v else { T with first:=v }):=by
 split
 .exact .nxt (by omega) v
 .exact .fst v
theorem aDs {j v:Int} (h:j<(T.l.length:Int)):Alike T (if 0<=j then T.prv j.toNat v else { T with last:=v }):=by
 split
 .exact .prv (by omega) v
 .exact .lst v
end
theorem aFv (l:List Nat):-1<=dN l:=by
 cases l with
 | nil=>decide
 | cons a l=>simp only[dN];omega
theorem aM1 (l:List Nat):-1<=jE l:=by
 rcases kK l with⟨_,h⟩|⟨_,a,_,h⟩<;>rw[h]<;>omega
theorem aAg {l:List Nat} {S:Nat} (j:0<S) (h:∀i∈l,i<S):dN l<(S:Int):=by
 cases l with
 | nil=>simp only[dN];omega
 | cons a l=>have:=h a (by simp);simp only[dN];omega
theorem aF0 {l:List Nat} {S:Nat} (E:0<S) (h:∀i∈l,i<S):jE l<(S:Int):=by
 rcases kK l with⟨_,j⟩|⟨G,a,j,A⟩
 .rw[j];omega
 .rw[A];have:=h a (by rw[j];simp);omega
structure FLk (T:FT) (S:Nat) (os:List Nat):Prop where
 len:T.l.length=S
 pos:0<S
 nod:os.Nodup
 lt:∀i∈os,i<S
 link:Linked (fun i=>(T.at' i).prev) (fun i=>(T.at' i).next) os
 first:T.first=dN os
 last:T.last=jE os
section
variable {T:FT} {S:Nat} {os l r:List Nat} {i k:Nat}
theorem FLk.prev_lt (h:FLk T S os) (I:i∈os):(T.at' i).prev<(S:Int)/\(T.at' i).next<(S:Int):=by
 obtain⟨l,r,e⟩:=eSa I;obtain⟨E,G⟩:=h.link l i r e;dsimp only at E G;rw[E,G];exact⟨aF0 h.pos (fun j A=>h.lt j (by rw[e];simp[A])),aAg h.pos (fun j A=>h.lt j (by rw[e];simp[A]))⟩
theorem FLk.aMn (h:FLk T S os):T.first<(S:Int):=by rw[h.first];exact aAg h.pos h.lt
theorem FLk.congr {j:FT} (h:FLk T S os) (A:j.l.length=T.l.length) (E:j.first=T.first) (G:j.last=T.last) (I:∀i∈os,(j.at' i).prev=(T.at' i).prev/\(j.at' i).next=(T.at' i).next):FLk j S os :=
 ⟨A.trans h.len,h.pos,h.nod,h.lt,h.link.congr I,E.trans h.first,G.trans h.last⟩
theorem FLk.unlink (h:FLk T S (l++i :: r)):FLk (T.unlink i) S (l++r)/\Alike T (T.unlink i):=by
 obtain⟨E,I⟩:=h.link l i r rfl;dsimp only at E I;have Z:=aM1 l;have J:jE l<(T.l.length:Int):=by rw[h.len];exact aF0 h.pos (fun j A=>h.lt j (by simp[A]))
 have aa:=aFv r;have ab:dN r<(T.l.length:Int):=by rw[h.len];exact aAg h.pos (fun j A=>h.lt j (by simp[A]))
 obtain⟨T1,G⟩:=eX (aAv T (T.at' i));have L:Alike T T1:=by rw[<-G];unfold aAv;rw[E];exact aJv J
 have N:∀j,(T1.at' j).next=(if(j:Int)=jE l then dN r else(T.at' j).next)/\(T1.at' j).prev=(T.at' j).prev:=by
  intro j;rw[<-G];unfold aAv;rw[E,I];exact aQy Z J j
 have O:dN r<(T1.l.length:Int):=by rw[L.len];exact ab
 have e:T.unlink i=if 0<=dN r then T1.prv (dN r).toNat (jE l)else { T1 with last:=jE l }:=by
  unfold FT.unlink unl2;rw[G,E,I]
 have U:Alike T (T.unlink i):=by rw[e];exact L.trans (aDs O)
 have V:∀j,((T.unlink i).at' j).prev=(if(j:Int)=dN r then jE l else(T1.at' j).prev)/\((T.unlink i).at' j).next=(T1.at' j).next:=by
  intro j;rw[e];exact aJs aa O j
 refine⟨⟨U.len.trans h.len,h.pos,?_,fun j A=>h.lt j ?_,h.link.unlink h.nod (fun j=>?_) (fun j=>?_),?_,?_⟩,U⟩
 .have:=h.nod;simp only[dYa,eHa,bXa]at this ⊢;exact⟨this.1,this.2.1.2,fun a X b Y=>this.2.2 a X b (.inr Y)⟩
 .rcases List.mem_append.1 A with A|A<;>simp[A]
 .rw[(V j).1,(N j).2]
 .rw[(V j).2,(N j).1]
 .have ef:(T.unlink i).first=T1.first:=by rw[e];split<;>rfl
  rw[ef,<-G];unfold aAv;rw[E,I]
  cases l with
  | nil=>rw[bAa (by decide)];rfl
  | cons x l =>
   rcases kK (x :: l)with⟨W,_⟩|⟨l',a,W,h4⟩
   .cases W
   .rw[h4,bBa (by omega)];exact h.first
 .rw[e];have el:T1.last=T.last:=by rw[<-G];unfold aAv;split<;>rfl
  cases r with
  | nil=>rw[bAa (by decide),ePa]
  | cons x r =>
   rw[bBa (by simp only[dN];omega)]
   show T1.last=_
   rw[el,h.last,nN,nN]
   rfl
theorem FLk.move (h:FLk T S (l++k :: r)) (L:i∉l++k :: r) (aa:i<S) :
 FLk (T.move k i) S (l++i :: r)/\(T.move k i).seed=T.seed/\(T.move k i).most=T.most/\(T.move k i).n=T.n/\(∀j,((T.move k i).at' j).used=(if j=k then false else if j=i then(T.at' k).used else(T.at' j).used)/\((T.move k i).at' j).e=(if j=k then enZ else if j=i then(T.at' k).e else(T.at' j).e)):=by
 obtain⟨O,Z⟩:=h.link l k r rfl;dsimp only at O Z;have ai:k≠i:=by rintro rfl;exact L (by simp)
 have aj:k<T.l.length:=by rw[h.len];exact h.lt k (by simp)
 have ak:=aM1 l;have ac:jE l<(T.l.length:Int):=by rw[h.len];exact aF0 h.pos (fun j A=>h.lt j (by simp[A]))
 have al:=aFv r;have am:dN r<(T.l.length:Int):=by rw[h.len];exact aAg h.pos (fun j A=>h.lt j (by simp[A]))
 have his':i<T.l.length:=by rw[h.len];exact aa
 obtain⟨E,W⟩:=eX (mv1 T k i);have V:E.l.length=T.l.length:=by rw[<-W];unfold mv1 FT.put;rw[cFa,cFa]
 have Y:∀j,E.at' j=if j=k then plZ else if j=i then T.at' k else T.at' j:=by
  intro j;rw[<-W];unfold mv1;rw[wX (by unfold FT.put;rw[cFa];exact aj),wX his']
 obtain⟨T1,U⟩:=eX (mv2 E (T.at' k) i);have a1:Alike E T1:=by rw[<-U];unfold mv2;rw[O];exact aJv (by rw[V];exact ac)
 have s1:∀j,(T1.at' j).next=(if(j:Int)=jE l then(i:Int)else(E.at' j).next)/\(T1.at' j).prev=(E.at' j).prev:=by
  intro j;rw[<-U];unfold mv2;rw[O];exact aQy ak (by rw[V];exact ac) j
 have e:T.move k i=if 0<=dN r then T1.prv (dN r).toNat (i:Int)else { T1 with last:=(i:Int) }:=by
  unfold FT.move mv3;rw[W,U,Z]
 have af:dN r<(T1.l.length:Int):=by rw[a1.len,V];exact am
 have I:Alike E (T.move k i):=by rw[e];exact a1.trans (aDs af)
 have s2:∀j,((T.move k i).at' j).prev=(if(j:Int)=dN r then(i:Int)else(T1.at' j).prev)/\((T.move k i).at' j).next=(T1.at' j).next:=by
  intro j;rw[e];exact aJs al af j
 have N:E.seed=T.seed/\E.most=T.most/\E.n=T.n/\E.first=T.first/\E.last=T.last:=by rw[<-W];exact⟨rfl,rfl,rfl,rfl,rfl⟩
 have an:(l++i :: r).Nodup:=by
  have G:=h.nod;simp only[dYa,eHa,bXa,gNa,not_or]at G L ⊢;refine⟨G.1,⟨L.2.2,G.2.1.2⟩,fun a ha b X=>?_⟩;rcases X with rfl|X
  .rintro rfl;exact L.1 ha
  .exact G.2.2 a ha b (.inr X)
 have ao:k∉l++i :: r:=by
  have G:=h.nod;simp only[dYa,eHa,bXa,gNa,not_or]at G ⊢;exact⟨fun hk=>G.2.2 k hk k (.inl rfl) rfl,ai,G.2.1.1⟩
 refine⟨⟨I.len.trans (V.trans h.len),h.pos,an,fun j A=>?_,?_,?_,?_⟩,I.seed.trans N.1,I.most.trans N.2.1,I.n.trans N.2.2.1,fun j=>⟨?_,?_⟩⟩
 .rcases List.mem_append.1 A with A|A
  .exact h.lt j (by simp[A])
  .rcases List.mem_cons.1 A with rfl|A
   .exact aa
   .exact h.lt j (by simp[A])
 .have h5:=h.link.move (pv':=fun j=>if(j:Int)=dN r then(i:Int)else if j=i then jE l else(T.at' j).prev) (nx':=fun j=>if(j:Int)=jE l then(i:Int)else if j=i then dN r else(T.at' j).next) h.nod L (fun _=>rfl) (fun _=>rfl);refine h5.congr fun j A=>?_;have aq:j≠k:=by rintro rfl;exact ao A
  rw[(s2 j).1,(s2 j).2,(s1 j).1,(s1 j).2,Y j,bAa aq];by_cases J:j=i
  .rw[bBa J,bBa J,bBa J,O,Z];exact⟨rfl,rfl⟩
  .rw[bAa J,bAa J,bAa J];exact⟨rfl,rfl⟩
 .have ef:(T.move k i).first=T1.first:=by rw[e];split<;>rfl
  rw[ef,<-U];unfold mv2;rw[O]
  cases l with
  | nil=>rw[bAa (by decide)];rfl
  | cons x l =>
   rcases kK (x :: l)with⟨G,_⟩|⟨l',a,G,h4⟩
   .cases G
   .rw[h4,bBa (by omega)]
    show E.first=_
    rw[N.2.2.2.1];exact h.first
 .rw[e];have el:T1.last=T.last:=by rw[<-U];unfold mv2;split<;>exact N.2.2.2.2
  cases r with
  | nil=>rw[bAa (by decide),wM]
  | cons x r =>
   rw[bBa (by simp only[dN];omega)]
   show T1.last=_
   rw[el,h.last,nN,nN]
   rfl
 .rw[I.used,Y];split
  .rfl
  .split<;>rfl
 .rw[I.e,Y];split
  .rfl
  .split<;>rfl
end
end
section
theorem goodZ:gY enZ.t:=⟨by decide,by decide,by decide,by decide⟩
structure jR (T:FT) (S:Nat) (os:List Nat):Prop where
 lk:FLk T S os
 mem:∀i,i<S->((T.at' i).used=true↔i∈os)
 good:∀i,gY (T.at' i).e.t
 seed:T.seed<18446744073709551616
theorem jR.free {T:FT} {S:Nat} {os:List Nat} (h:jR T S os) (I:os.length<S):∃j,j<S/\(T.at' j).used=false:=by
 have A:¬ ∀j,j<S->j∈os:=fun A=>by have:=cover A;omega
 simp only[Classical.not_forall]at A;obtain⟨j,E,G⟩:=A;refine⟨j,E,?_⟩;have:=h.mem j E
 cases e:(T.at' j).used with
 | false=>rfl
 | true=>exact absurd (this.1 e) G
def mX (S:Nat):Nat->FT->Nat->Nat->FT
 | 0,T,_,_=>T
 | m+1,T,i,k=>if(T.at' k).used=true then(if far S i k<=far S (nE T.seed S (T.at' k).e.t) k then mX S m (T.move k i) k ((k+1) % S)else mX S m T i ((k+1) % S))else T
def FT.clear (T:FT) (i:Nat):FT:={ (T.unlink i).put i plZ with n:=T.n - 1 }
def FT.remove (T:FT) (S i:Nat):FT:=mX S S (T.clear i) i ((i+1) % S)
section
variable {T:FT} {S:Nat} {os:List Nat}
theorem jR.move {l r:List Nat} {k i:Nat} (h:jR T S (l++k :: r)) (J:i∉l++k :: r) (O:i<S):jR (T.move k i) S (l++i :: r)/\(T.move k i).most=T.most/\(T.move k i).n=T.n/\(T.move k i).seed=T.seed/\k∉l++i :: r/\∀j,j≠k->j≠i->((T.move k i).at' j).used=(T.at' j).used:=by
 obtain⟨Z,N,A,h4,I⟩:=h.lk.move J O;have Y:k≠i:=by rintro rfl;exact J (by simp)
 have L:k∉l++i :: r:=by
  have A:=h.lk.nod;simp only[dYa,eHa,bXa,gNa,not_or]at A ⊢;exact⟨fun U=>A.2.2 k U k (.inl rfl) rfl,Y,A.2.1.1⟩
 refine⟨⟨Z,fun j V=>?_,fun j=>?_,by rw[N];exact h.seed⟩,A,h4,N,L,fun j W X=>by rw[(I j).1,bAa W,bAa X]⟩
 .rw[(I j).1];by_cases E:j=k
  .rw[bBa E,E];exact⟨fun h=>(by cases h),fun h=>absurd h L⟩
  .rw[bAa E];by_cases G:j=i
   .rw[bBa G,G];exact⟨fun _=>by simp,fun _=>(h.mem k (h.lk.lt k (by simp))).2 (by simp)⟩
   .rw[bAa G,h.mem j V];simp[E,G]
 .rw[(I j).2];split
  .exact goodZ
  .split
   .exact h.good k
   .exact h.good j
theorem jR.clear {l r:List Nat} {i:Nat} (h:jR T S (l++i :: r)):jR (T.clear i) S (l++r)/\(T.clear i).most=T.most/\(T.clear i).n=T.n - 1/\(T.clear i).seed=T.seed/\i∉l++r/\∀j,j≠i->((T.clear i).at' j).used=(T.at' j).used:=by
 obtain⟨O,A⟩:=h.lk.unlink;have N:i<(T.unlink i).l.length:=by rw[A.len,h.lk.len];exact h.lk.lt i (by simp)
 have I:i∉l++r:=by
  have J:=h.lk.nod;simp only[dYa,eHa,bXa,gNa,not_or]at J ⊢;exact⟨fun L=>J.2.2 i L i (.inl rfl) rfl,J.2.1.1⟩
 have G:∀j,(T.clear i).at' j=if j=i then plZ else(T.unlink i).at' j:=fun j=>wX N plZ j
 refine⟨⟨O.congr ?_ rfl rfl (fun j E=>?_),fun j E=>?_,fun j=>?_,?_⟩,A.most,rfl,A.seed,I,fun j E=>?_⟩
 .show((T.unlink i).put i plZ).l.length=_
  unfold FT.put;rw[cFa]
 .rw[G,bAa (by rintro rfl;exact I E)];exact⟨rfl,rfl⟩
 .rw[G];by_cases e:j=i
  .rw[bBa e,e];exact⟨fun h=>(by cases h),fun h=>absurd h I⟩
  .rw[bAa e,A.used,h.mem j E];simp[e]
 .rw[G];split
  .exact goodZ
  .rw[A.e];exact h.good j
 .show(T.unlink i).seed<_
  rw[A.seed];exact h.seed
 .rw[G,bAa E,A.used]
theorem aBn {j:Nat} (E:j<S):∀(m:Nat) {T:FT} {os:List Nat} {i k:Nat},jR T S os->i∉os->i<S->k<S->j≠i->(T.at' j).used=false->far S k j<m ->
 ∃A,jR (mX S m T i k) S A/\A.length=os.length/\(mX S m T i k).most=T.most/\(mX S m T i k).n=T.n/\(mX S m T i k).seed=T.seed
 | 0,_,_,_,_,_,_,_,_,_,_,h=>absurd h (gDa _)
 | m+1,T,os,i,k,h,hi,his,hk,hji,hju,hm=>by
  rw[mX];split
  .rename_i I;have G:k≠j:=by rintro rfl;rw[hju]at I;cases I
   have ac:=vU hk E G;have J:(k+1) % S<S:=eKa _ (by omega);split
   .obtain⟨l,r,rfl⟩:=eSa ((h.mem k hk).1 I);obtain⟨L,N,O,U,V,W⟩:=h.move hi his;obtain⟨A,X,Y,Z,g4,g5⟩:=aBn E m L V hk J G.symm (by rw[W j G.symm hji];exact hju) (by omega);exact⟨A,X,by rw[Y];simp,Z.trans N,g4.trans O,g5.trans U⟩
   .exact aBn E m h hi his J hji hju (by omega)
  .exact⟨os,h,rfl,rfl,rfl,rfl⟩
theorem jR.remove {i:Nat} (h:jR T S os) (E:i∈os) (N:os.length<S):∃A,jR (T.remove S i) S A/\A.length+1=os.length/\(T.remove S i).most=T.most/\(T.remove S i).n=T.n - 1/\(T.remove S i).seed=T.seed:=by
 obtain⟨j,G,I⟩:=h.free N;have O:=h.lk.lt i E;have J:j≠i:=by rintro rfl;rw[(h.mem j G).2 E]at I;cases I
 obtain⟨l,r,rfl⟩:=eSa E;obtain⟨U,V,W,X,Y,Z⟩:=h.clear;have L:(i+1) % S<S:=eKa _ (by omega);obtain⟨A,g1,g2,g3,g4,g5⟩:=aBn G S U Y O L J (by rw[Z j J];exact I) (aAd L G);exact⟨A,g1,by rw[g2];simp;omega,g3.trans V,g4.trans W,g5.trans X⟩
def slT (T:FT) (j:Nat):Option En:=if(T.at' j).used=true then some (T.at' j).e else none
theorem aAs {j:Nat} (h:(T.at' j).used=true):slT T j=some (T.at' j).e:=by unfold slT;rw[bBa h]
theorem aGa {j:Nat} (h:(T.at' j).used=false):slT T j=none:=by unfold slT;rw[bAa (by rw[h];decide)]
abbrev yV (T:FT) (S:Nat):Prop:=Inv En.t (nE T.seed S) S (slT T)
theorem aBm {j sd:Nat} (L:j<S):∀(m:Nat) {T:FT} {os:List Nat} {i k d:Nat},T.seed=sd->jR T S os->i∉os->i<S->k<S->j≠i->(T.at' j).used=false->far S k j<m->k=(i+d) % S->InvH En.t (nE sd S) S (slT T) i d->Inv En.t (nE sd S) S (slT (mX S m T i k))
 | 0,_,_,_,_,_,_,_,_,_,_,_,_,h,_,_=>absurd h (gDa _)
 | m+1,T,os,i,k,d,hsd,h,hi,his,hk,hji,hju,hm,hkd,hH=>by
  rw[mX];have U:∀t,nE sd S t<S:=fun t=>aBy (by omega)
  by_cases E:(T.at' k).used=true
  .rw[bBa E];have N:k≠j:=by rintro rfl;rw[hju]at E;cases E
   have aa:=vU hk L N;have V:(k+1) % S<S:=eKa _ (by omega);have I:=aAs E;rw[hkd]at I;rw[hsd];by_cases O:far S i k<=far S (nE sd S (T.at' k).e.t) k
   .rw[bBa O];obtain⟨l,r,rfl⟩:=eSa ((h.mem k hk).1 E);obtain⟨-,-,-,-,g⟩:=h.lk.move hi his;obtain⟨W,h2,h3,X,Y,Z⟩:=h.move hi his;have ab:k≠i:=by rintro rfl;exact hi (by simp)
    have A:slT (T.move k i)=fun x=>if x=(i+d) % S then none else if x=i then some (T.at' k).e else slT T x:=by
     funext x
     unfold slT;rw[(g x).1,(g x).2,<-hkd];by_cases A:x=k
     .rw[bBa A,bBa A,bAa (by decide),bBa A]
     .rw[bAa A,bAa A,bAa A];by_cases G:x=i
      .rw[bBa G,bBa G,bBa G,bBa E]
      .rw[bAa G,bAa G,bAa G]
    have J:=aTp U hH (by rw[<-hkd]at I ⊢;exact I) (by rw[<-hkd];exact O);rw[<-A,<-hkd]at J;exact aBm L m (X.trans hsd) W Y hk V N.symm (by rw[Z j N.symm hji];exact hju) (by omega) rfl J
   .rw[bAa O];have J:=aTq U hH (by rw[<-hkd]at I ⊢;exact I) (by rw[<-hkd];omega);exact aBm L m hsd h hi his V hji hju (by omega) (by rw[hkd,jBa,eVa]) J
  .rw[bAa E];exact invH_end hH (by rw[<-hkd];exact aGa (by simpa using E))
theorem jR.aHe {i:Nat} (h:jR T S os) (V:yV T S) (A:i∈os) (L:os.length<S):yV (T.remove S i) S:=by
 obtain⟨j,G,I⟩:=h.free L;have E:=h.lk.lt i A;have N:j≠i:=by rintro rfl;rw[(h.mem j G).2 A]at I;cases I
 obtain⟨af,g1,g2,g3,g4,g5⟩:=h.remove A L;have W:(T.at' i).used=true:=(h.mem i E).2 A;obtain⟨l,r,rfl⟩:=eSa A;obtain⟨k1,k2⟩:=h.lk.unlink;obtain⟨h1,h2,h3,h4,h5,h6⟩:=h.clear;have X:i<(T.unlink i).l.length:=by rw[k2.len,h.lk.len];exact E
 have Y:∀j,(T.clear i).at' j=if j=i then plZ else(T.unlink i).at' j:=fun j=>wX X plZ j
 have Z:slT (T.clear i)=fun x=>if x=i then none else slT T x:=by
  funext x
  unfold slT;rw[Y];by_cases J:x=i
  .rw[bBa J,bBa J,bAa (by decide)]
  .rw[bAa J,bAa J,k2.used,k2.e]
 have O:=aRy V E (aAs W) ⟨j,G,aGa I⟩;rw[<-Z]at O;have U:(i+1) % S<S:=eKa _ (by omega);unfold yV;rw[g5];exact aBm G S h4 h1 h5 E U N (by rw[h6 j N];exact I) (aAd U G) rfl O
theorem aBp {j:Nat} (I:j<S):∀(m:Nat) {T:FT} {os:List Nat} {i k:Nat},jR T S os->i∉os->i<S->k<S->j≠i->(T.at' j).used=false->far S k j<m->∀(a:Nat) (e:En),a<S->slT (mX S m T i k) a=some e->∃b,b<S/\slT T b=some e
 | 0,_,_,_,_,_,_,_,_,_,_,h=>absurd h (gDa _)
 | m+1,T,os,i,k,h,hi,his,hk,hji,hju,hm=>by
  rw[mX];by_cases E:(T.at' k).used=true
  .rw[bBa E];have N:k≠j:=by rintro rfl;rw[hju]at E;cases E
   have Z:=vU hk I N;have U:(k+1) % S<S:=eKa _ (by omega);split
   .obtain⟨l,r,rfl⟩:=eSa ((h.mem k hk).1 E);obtain⟨-,-,-,-,g⟩:=h.lk.move hi his;obtain⟨V,h2,h3,h4,W,X⟩:=h.move hi his;intro a e J L;obtain⟨b,Y,A⟩:=aBp I m V W hk U N.symm (by rw[X j N.symm hji];exact hju) (by omega) a e J L;unfold slT at A;rw[(g b).1,(g b).2]at A;by_cases O:b=k
    .rw[bBa O,bAa (by decide)]at A
     cases A
    .rw[bAa O,bAa O]at A;by_cases G:b=i
     .rw[bBa G,bBa G]at A;exact⟨k,hk,A⟩
     .rw[bAa G,bAa G]at A;exact⟨b,Y,A⟩
   .exact aBp I m h hi his U hji hju (by omega)
  .rw[bAa E];exact fun a e J L=>⟨a,J,L⟩
theorem jR.aSb {i:Nat} (h:jR T S os) (E:i∈os) (U:os.length<S):∀(a:Nat) (e:En),a<S->slT (T.remove S i) a=some e->∃b,b<S/\slT T b=some e:=by
 obtain⟨j,G,I⟩:=h.free U;have J:=h.lk.lt i E;have L:j≠i:=by rintro rfl;rw[(h.mem j G).2 E]at I;cases I
 obtain⟨l,r,rfl⟩:=eSa E;obtain⟨k1,k2⟩:=h.lk.unlink;obtain⟨X,h2,h3,h4,Y,Z⟩:=h.clear;have V:i<(T.unlink i).l.length:=by rw[k2.len,h.lk.len];exact J
 have W:∀j,(T.clear i).at' j=if j=i then plZ else(T.unlink i).at' j:=fun j=>wX V plZ j
 have N:(i+1) % S<S:=eKa _ (by omega);intro a e ha he;obtain⟨b,hb,A⟩:=aBp G S X Y J N L (by rw[Z j L];exact I) (aAd N G) a e ha he;unfold slT at A;rw[W]at A;by_cases O:b=i
 .rw[bBa O,bAa (by decide)]at A
  cases A
 .rw[bAa O,k2.used,k2.e]at A;exact⟨b,hb,A⟩
end
end
theorem aHd{w:World}{T:FT}(G:dF w f g S T)(E:jR T S os)(hS:S<=1099511627776)(i:Nat)(hi:i∈os)(hl:os.length<S)(cx:-1099511627776<=T.n)(cy:T.n<=1099511627776) :
 Cl 89 #[.pointer (some ⟨f,0,none⟩),.int .i64 (i:Int)] w fun e w'=>e=.returned (.tuple #[])/\dF w' f g S (T.remove S i)/\bH f g w w':=by
 obtain⟨j,hj,N⟩:=E.free hl;have O:=E.lk.lt i hi;have ag:j≠i:=by rintro rfl;rw[(E.mem j hj).2 hi]at N;cases N
 obtain⟨hp,hn⟩:=E.lk.prev_lt hi;have qu:=aHp G i O hp hn;obtain⟨l,r,rfl⟩:=eSa hi;obtain⟨J,h2,h3,h4,h5,h6⟩:=E.clear;have a1:((T.clear i).at' j).used=false:=by rw[h6 j ag];exact N
 have a2:T.clear i={ (T.unlink i).put i plZ with n:=T.n - 1 }:=rfl;have a3:(T.unlink i).n=T.n:=(E.lk.unlink).2.n;have a4:(i+1) % S<S:=eKa _ (by omega);have ao:=aAd a4 hj;obtain⟨R,hR⟩:=eX (T.remove S i);rw[hR];unfold FT.remove at hR;have e0:IntKind.i64.wrap (T.n - 1)=T.n - 1:=by rw[fEa];omega
 have e1:=wJ i;have e3:Int.tmod ((i+1:Nat):Int) (S:Int)=(((i+1) % S:Nat):Int):=by rw[eUa (by omega)];omega
 have e5:IntKind.i64.wrap (((i+1) % S:Nat):Int)=(((i+1) % S:Nat):Int):=wO _;have V:((i:Int)+1) % (S:Int)=(((i+1) % S:Nat):Int):=by
  show((i+1:Nat):Int) % (S:Int)=_
  exact(Int.natCast_emod _ _).symm
 obtain⟨k1,b3⟩:∃k,(i+1) % S=k:=⟨_,rfl⟩
 rw[b3]at hR a4 ao e3 V e5;have c0:¬ S=0:=by omega
 have ch:(i:Int)<(S:Int):=by omega
 obtain⟨cq,b4⟩:∃o,l++r=o:=⟨_,rfl⟩
 rw[b4]at J h5;clear G E hi h2 h3 h4 h6 N hl hp hn b3 b4;replace ⟨qu,hR,J,h5,a2,a1,ao,a3⟩:=q_8 qu hR J h5 a2 a1 ao a3;go_enter func89,ntmps89;go_wp2_with fail
 refine qu.mono ?_;rintro e w1 ⟨rfl,Z,a7⟩;have cf:=aA Z.blk;obtain⟨cs,ac⟩:∃cs,w1.heap[g]?=some (.cells cs 144 (0,0)):=by obtain⟨cs,J,-⟩:=Z.row;exact⟨cs,J⟩
 have bv:cs.size=S*15:=by
  obtain⟨ds,J,h2⟩:=Z.row;rw[J]at ac
  cases ac
  rw[h2.1,Z.len]
 have bw:i*15+15<=cs.size:=by rw[bv];omega
 clear qu;replace ⟨Z,a7,ac⟩:=q_3 Z a7 ac;go_upto_region 1 with fail
 apply aWa;iterate 7 refine pS ?_
 refine bQ rfl 144 (.tmp 15) (.tmp 14) rfl g (i*15) rfl (tL plZ) rfl ac bw xQ (aB6 plZ) fun w2 bt g2=>?_;refine bCa ?_;go_simp;have aq:=Z.put O plZ ac bt g2;have bx:=a7.trans (bH.grown (.inr rfl) g2);clear cf Z a7 ac bv bw bt g2;have cf:=aA aq.blk;have ci:w2.cell? ⟨f,3,none⟩=some (.int .i64 T.n):=by rw[<-a3.out];exact aA aq.blk 3
 have cj:=bD aq.blk 3;obtain⟨w3,bo⟩:∃w3,w2.setCell ⟨f,3,none⟩ (.int .i64 (T.n - 1))=w3:=⟨_,rfl⟩
 have ar:dF w3 f g S (T.clear i):=by rw[a2.out,<-bo];exact aq.num (T.n - 1)
 have bz:Hid (bH f g w w3):=q_ (bx.trans (bo▸bH.set (p:=⟨f,3,none⟩) (.inl rfl) _));have c2:=aA ar.blk 2;clear aq bx;replace ⟨ar,cf⟩:=q_2 ar cf;go_upto_region 3 with fail
 clear ci cj bo;go_wp2_with fail
 go_loopw [1,4,5] (fun iv kv _ wr=>∃(m i k:Nat) (I:FT) (ay:List Nat),iv=.int .i64 (i:Int)/\kv=.int .i64 (k:Int)/\dF wr f g S I/\jR I S ay/\i∉ay/\i<S/\k<S/\j≠i/\(I.at' j).used=false/\far S k j<m/\mX S m I i k=R/\bH f g w wr) (fun _ kv _ _=>far S (intOf kv).toNat j)
 case atStart=>exact⟨S,i,k1,_,cq,rfl,by first|rfl|rw[V],ar,J,h5,O,a4,ag,a1,ao,hR,bz⟩
 case round =>
  clear ar J h5 O a4 ag a1 ao hR bz e0 e1 e3 V e5 ch cf c2 a2 a3;obtain⟨m,i,k,I,ay,rfl,rfl,G,E,au,O,aa,ag,N,c5,L,hE⟩:=hrel;obtain⟨m,rfl⟩:∃m',m=m'+1:=⟨m - 1,by omega⟩
  rw[mX]at L;have cf:=aA G.blk;have c1:(k:Int)<(S:Int):=by omega
  have cu:wr.cell? ⟨g,k*15+12,none⟩=some (.bool (I.at' k).used):=G.cell aa rfl;obtain⟨U,hU⟩:=eX ((I.at' k).used);rw[hU]at cu L;rcases U with _|_
  ·rw[bAa (by decide)]at L;subst L;clear hU E;replace ⟨G,hE⟩:=q_2 G hE;go_wp2_with fail
   go_end0;exact⟨rfl,G,hE⟩
  rw[bBa rfl]at L;have bg:k≠j:=by rintro rfl;rw[N]at hU;cases hU
  have a8:=vU aa hj bg;have ah:k∈ay:=(E.mem k aa).1 hU;have ai:=G.range aa 0 9 (tuL (I.at' k).e.t) rfl;rw[cNa]at ai;have qh:=aMu G E.seed (I.at' k).e.t (E.good k) (by omega) hS;have a9:=aBy (seed:=I.seed) (t:=(I.at' k).e.t) (show 0<S by omega);obtain⟨y,hy⟩:=eX ((I.at' k).e.t);rw[hy]at ai qh L a9;obtain⟨h,hh⟩:=eX (nE I.seed S y);rw[hh]at qh L a9;have q1:=fun w=>aQc h k S a9 aa hS w
  have q2:=fun w=>aQc i k S O aa hS w
  obtain⟨B,hB⟩:=eX (far S h k);obtain⟨A,hA⟩:=eX (far S i k);rw[hB]at q1 L;rw[hA]at q2 L;have q1':Hid (∀l:World,Cl 133 #[.int .i64 (h:Int),.int .i64 (k:Int),.int .i64 (S:Int)] l fun e w'=>e=.returned (.int .i64 (B:Int))/\Below l.heap.size l w'):=q_ (fun l=>(q1 l).mono fun e w' ⟨J,h2⟩=>⟨J,h2▸bLa _ _⟩);have q2':Hid (∀l:World,Cl 133 #[.int .i64 (i:Int),.int .i64 (k:Int),.int .i64 (S:Int)] l fun e w'=>e=.returned (.int .i64 (A:Int))/\Below l.heap.size l w'):=q_ (fun l=>(q2 l).mono fun e w' ⟨J,h2⟩=>⟨J,h2▸bLa _ _⟩);clear hU hy hh hB hA a9 q1 q2;replace ⟨G,hE,E,au,L,N,a8,ah,ai,qh⟩:=q_10 G hE E au L N a8 ah ai qh;go_upto_region 6 with fail
  apply aWa;iterate 9 refine pS ?_
  refine wpList_load_mid rfl 46 (.tmp 55) rfl g (k*15) rfl (tuL y) _ ai cRa rfl bW ?_;refine bRa rfl fun K Y=>?_;go_simp;refine(qh).mono ?_;rintro e w4 ⟨rfl,bp⟩;go_simp;refine Y _ _ ?_;clear Y K;refine pS ?_;refine bCa ?_;go_simp;have av:=G.on bp;have b1:=q_ (hE.trans (bH.quiet bp));have lf:=fun l:Later w4=>aA (av.on l.hb).blk
  clear G hE ai qh bp cf cu;replace av:=q_ av;go_upto_region 7 with fail
  refine rL ?_;refine eS 0 17 0 ?_;simp only[dA,dC,dD];iterate 7 refine qE ?_
  (refine aD (fun K Y=>?_);go_simp;apply bSa;refine⟨fun l=>?_,Y _ ?_⟩;(go_at_call 133;refine(q1' l.w).mono ?_;rintro e w' ⟨rfl,hb⟩;exact⟨rfl,hb⟩);clear Y K)
  iterate 7 refine qE ?_
  (refine aD (fun K Y=>?_);go_simp;apply bSa;refine⟨fun l=>?_,Y _ ?_⟩;(go_at_call 133;refine(q2' l.w).mono ?_;rintro e w' ⟨rfl,hb⟩;exact⟨rfl,hb⟩);clear Y K)
  have c3:decide ((A:Int)<=(B:Int))=decide (A<=B):=by simp
  refine qE ?_;refine aT ?_;refine eD fun w5 bf=>?_;have ak:=av.on bf;have ae:=b1.trans (bH.quiet bf);clear lf av b1 bf q1' q2';have e1:=wJ k;have e3:Int.tmod ((k+1:Nat):Int) (S:Int)=(((k+1) % S:Nat):Int):=by rw[eUa (by omega)];omega
  have hm:=eKa (k+1) (show 0<S by omega);have e5:IntKind.i64.wrap (((k+1) % S:Nat):Int)=(((k+1) % S:Nat):Int):=wO _;have V:((k:Int)+1) % (S:Int)=(((k+1) % S:Nat):Int):=by
   show((k+1:Nat):Int) % (S:Int)=_
   exact(Int.natCast_emod _ _).symm
  have W:=L.out;have X:=a8.out;obtain⟨k2,b9⟩:∃k2,(k+1) % S=k2:=⟨_,rfl⟩
  rw[b9]at W hm e3 V e5 X;clear L a8 b9;by_cases bc:A<=B
  ·rw[bBa bc]at W;obtain⟨l,r,rfl⟩:=eSa ah;obtain⟨hp,hn⟩:=E.lk.prev_lt ah;have qm:=move_any ak k i aa O hp hn;obtain⟨g1,g2,g3,g4,g5,g6⟩:=E.move au O;have bk:((I.move k i).at' j).used=false:=by rw[g6 j bg.symm ag];exact N
   have cm:decide (A<=B)=true:=bYa bc;have tAB':((A:Int)<=(B:Int)):=by omega
   clear E au ak hp hn g2 g3 g4 g6 N ah;replace ⟨qm,W,X,g1,g5,bk,ae⟩:=q_7 qm W X g1 g5 bk ae;go_wp2_with fail
   refine qm.mono ?_;rintro e w6 ⟨rfl,bb,cc⟩;have cn:=q_ (ae.trans cc);have cf:=aA bb.blk;clear qm ae cc;replace bb:=q_ bb;go_wp2_with fail
   exact⟨⟨m,k,k2,_,_,rfl,by first|rfl|rw[V],bb,g1,g5,aa,hm,bg.symm,bk,by have:=X.out;omega,W,cn⟩,by have:=X.out;simp only[intOf,V,bMa];omega⟩
  ·rw[bAa bc]at W;have cm:decide (A<=B)=false:=bWa bc;have tAB':¬ ((A:Int)<=(B:Int)):=by omega
   have cf:=aA ak.blk;clear ah;replace ⟨W,X,ae,ak⟩:=q_4 W X ae ak;go_wp2_with fail
   exact⟨⟨m,i,k2,_,_,rfl,by first|rfl|rw[V],ak,E,au,O,hm,ag,N,by have:=X.out;omega,W,ae⟩,by have:=X.out;simp only[intOf,V,bMa];omega⟩
def tZ (T:FT) (S:Nat) (t:Tu):En:=if(aX T S t).2=true then(T.at' (aX T S t).1).e else enZ
theorem aQd{w:World}{T:FT}(hT:dF w f g S T)(hM:jR T S os)(hl:os.length<S)(hS:S<=1099511627776)(h0:T.most≠0)(t:Tu)(ht:gY t) :
 Cl 41 #[.pointer (some ⟨f,0,none⟩),.agg (eB t)] w fun e w'=>e=.returned (.tuple #[.agg (cZ (tZ T S t)),.bool (aX T S t).2])/\Below w.heap.size w w':=by
 have ad:=hM.free hl;have N:=rQ (x:=t) ad;obtain⟨I,Y⟩:=eX (w.alloc (.cells (eB t) 46));have ae:Below w.heap.size w I:=Y▸bC;have ao:=bN Y;have ap:I.heap.size=w.heap.size+1:=by rw[<-Y];simp
 obtain⟨Z,ai⟩:=eX (I.alloc (.cells #[.int .i64 0,.bool false,.int .u64 0,.int .u64 0,.bool false,.int .u64 0,.int .u64 0,.int .i64 0,.int .i64 0,.int .i64 0,.int .i64 0,.int .i64 0] 64));have O:Below I.heap.size I Z:=ai▸bC;have U:Hid (Z.heap[I.heap.size]?=some (.cells (cZ enZ) 64 (0,0))):=q_ (ai▸aJ _ _ _);have aq:=aG O ao;have V:=q_ ((hT.on ae).on O);have af:=q_ ((tw ae O));have qn:=q_ (pW V h0);have W:=q_ (aAe V hM.seed hS ad t ht);have lr:Hid (Z.rangeAt w.heap.size 0 (tuL t)):=q_ (aM (cs:=eB t) aq);unfold tZ;obtain⟨F,hF⟩:=eX (aX T S t);rw[hF]at N W ⊢;obtain⟨i,b⟩:=F;dsimp only at N W ⊢;have ax:=N.1;have ay:(i:Int)<(S:Int):=by omega
 obtain⟨z,hz⟩:=eX w.heap.size;rw[hz]at ap lr af;rw[ap]at U;have az:=(Array.getElem?_eq_some_iff.1 U).1;rw[hz];clear hT hM hl ad hF N ae O ao aq ht h0;go_enter func41,ntmps41;go_wp2_with fail
 clear Y ai;refine qn.mono ?_;rintro e Z ⟨rfl,rfl⟩;go_upto_region 3 with fail
 apply aWa;refine pS ?_;refine wpList_load_mid rfl 46 (.tmp 3) rfl z 0 rfl (tuL t) _ lr cRa rfl bW ?_;refine bRa rfl fun K hK=>?_;go_simp;refine(W).mono ?_;rintro e w3 ⟨rfl,L⟩;go_simp;refine hK _ _ ?_;clear hK K;iterate 5 refine pS ?_
 refine bCa ?_;go_simp;have E:=V.on L;have G:=aG L U;have a0:=L.size;have j:=tw af L;clear V U af L W qn lr;rcases b with _|_
 .replace ⟨G,j,E⟩:=q_3 G j E;go_upto_region 5 with fail
  apply aWa;refine pS ?_;refine sW 64 (.tmp 4) (.tmp 19) (z+1) (cZ enZ) G (qV _) eXa fun w9 ac J A=>?_;have ah:Hid (Below (z) w w9):=q_ ((j).trans (below_grown J (by have:=(j).size;omega) (by omega)));clear ac J;replace A:=q_ A;refine pS ?_;refine bCa ?_;go_simp;go_wp2_with fail
  exact aYa (v:=.tuple #[.agg (cZ enZ),.bool false]) (by simp[results,results41,asAddr,A.out,Result.andThen]) rfl ⟨rfl,ah⟩
 .have X:=E.range ax 0 12 (enL (T.at' i).e) rfl;rw[cNa]at X;have cf:=aA E.blk;replace ⟨G,j,E,X⟩:=q_4 G j E X;go_upto_region 6 with fail
  apply aWa;iterate 7 refine pS ?_
  refine wpList_load_mid rfl 64 (.tmp 26) rfl g (i*15) rfl (enL (T.at' i).e) _ X eXa rfl tN ?_;refine sW 64 (.tmp 4) (.tmp 27) (z+1) (cZ (T.at' i).e) G (qV _) eXa fun w9 ac J A=>?_;have ah:Hid (Below (z) w w9):=q_ ((j).trans (below_grown J (by have:=(j).size;omega) (by omega)));clear ac J;replace A:=q_ A;refine pS ?_;refine bCa ?_;go_simp;go_wp2_with fail
  exact aYa (v:=.tuple #[.agg (cZ (T.at' i).e),.bool true]) (by simp[results,results41,asAddr,A.out,Result.andThen]) rfl ⟨rfl,ah⟩
section
structure jJ (T:FT) (S:Nat) (os:List Nat):Prop where
 mid:jR T S os
 inv:yV T S
 num:T.n=(os.length:Int)
 most:1≤T.most
 room:2*T.most≤(S:Int)
 cap:(os.length:Int)≤T.most
 small:S≤1048576
def FT.touch (T:FT) (i:Nat):FT:=(T.unlink i).front i
def uN (T:FT):Bool:=decide (T.n=T.most)
def goneE (T:FT):En:=if uN T=true then (T.at' T.last.toNat).e else enZ
def kJ (T:FT) (S:Nat):FT:=if uN T=true then T.remove S T.last.toNat else T
def mF (T:FT) (i:Nat) (e:En):FT:=(T.put i ⟨e,true,0,0⟩).front i
def aG1 (T:FT):FT:={ T with n:=T.n+1 }
def pF (T:FT) (S:Nat) (e:En):FT:=if (aX T S e.t).2=true then (T.ent (aX T S e.t).1 e).touch (aX T S e.t).1 else aG1 (mF (kJ T S) (aX (kJ T S) S e.t).1 e)
def outF (T:FT) (S:Nat) (e:En):En×Bool:=if (aX T S e.t).2=true then (enZ,false) else (goneE T,uN T)
section
variable {T:FT} {S:Nat} {os:List Nat}
theorem jR.ent {i:Nat} {e:En} (h:jR T S os) (hi:i<S) (he:gY e.t):jR (T.ent i e) S os:=by
 have his:i<T.l.length:=by rw [h.lk.len];exact hi
 have hat:=aV9 his e;refine ⟨h.lk.congr (by unfold FT.ent;rw [List.length_set]) rfl rfl (fun j hj=>?_),fun j hj=>?_,fun j=>?_,h.seed⟩
 ·rw [hat];split<;>exact ⟨rfl,rfl⟩
 ·rw [hat,←h.mem j hj];split<;>exact Iff.rfl
 ·rw [hat];split
  ·exact he
  ·exact h.good j
theorem jJ.lt (h:jJ T S os):os.length<S:=by
 have:=h.most;have:=h.room;have:=h.cap;omega
theorem jJ.last (h:jJ T S os) (hf:uN T=true):∃a:Nat,T.last=(a:Int)∧a∈os:=by
 unfold uN at hf;have h1:=of_decide_eq_true hf;have h2:=h.most;have h3:=h.num;rw [h.mid.lk.last];rcases kK os with ⟨h4,_⟩|⟨l,a,h4,h5⟩
 ·rw [h4] at h3;simp at h3;omega
 ·exact ⟨a,h5,by rw [h4];simp⟩
theorem jJ.less (h:jJ T S os):∃os',jR (kJ T S) S os'∧(os'.length:Int)<T.most∧(kJ T S).most=T.most∧(kJ T S).n=(os'.length:Int)∧(kJ T S).seed=T.seed∧yV (kJ T S) S∧∀(a:Nat) (e:En),a<S→slT (kJ T S) a=some e→∃b,b<S∧slT T b=some e:=by
 unfold kJ;have hn:=h.num;by_cases hf:uN T=true
 ·rw [if_pos hf];obtain ⟨a,ha,hm⟩:=h.last hf;rw [ha,Int.toNat_natCast];obtain ⟨os',h1,h2,h3,h4,h5⟩:=h.mid.remove hm h.lt;have:=h.cap;exact ⟨os',h1,by omega,h3,by rw [h4];omega,h5,h.mid.aHe h.inv hm h.lt,h.mid.aSb hm h.lt⟩
 ·rw [if_neg hf];have hne:¬ T.n=T.most:=fun e=>hf (by unfold uN;exact decide_eq_true e)
  have:=h.cap;exact ⟨os,h.mid,by omega,rfl,hn,rfl,h.inv,fun a e ha he=>⟨a,ha,he⟩⟩
end
end
theorem dZ{w:World}{cs:Array Value}(h:w.heap[g]?=some (.cells cs t (0,0)))(o n:Nat)(l:List Value)(E:(cs.toList.drop o).take n=l):w.rangeAt g o l:=fun j v A=>by
 rw[aA h (o+j)];rw[<-E,gAa]at A;split at A
 .rw[eJa]at A;simpa using A
 .cases A
theorem bH.far{y:Nat}{w A E:World}(h:bH f g w A)(j:A.grownBy E (some y))(J:w.heap.size<=y):bH f g w E :=
 ⟨j.os.trans h.os,j.tape.trans h.tape,j.output.trans h.output,bJa h.size j.size,fun k G I=>(j.block k (bKa G h.size) (fun e=>by cases e;omega)).trans (h.block k G I)⟩
theorem dF.far{y:Nat}{T:FT}{w j:World}(h:dF w f g S T)(A:w.grownBy j (some y))(E:y≠f)(G:y≠g):dF j f g S T:=by
 refine⟨(A.block f h.flt (fun e=>E (bFa e).symm)).trans h.blk,?_,h.len⟩;obtain⟨cs,I,J⟩:=h.row;exact⟨cs,(A.block g h.glt (fun e=>G (bFa e).symm)).trans I,J⟩
theorem dF.arr{T:FT}{w:World}(h:dF w f g S T):∃cs,w.heap[g]?=some (.cells cs 144 (0,0))/\cs.size=S*15:=by
 obtain⟨cs,j,A⟩:=h.row;exact⟨cs,j,by rw[A.1,h.len]⟩
theorem bH.blk{w:World}{x:Option Obj}(h:bH f g w w')(j:w.heap[k]?=x)(A:k<w.heap.size)(E:k≠f)(G:k≠g):w'.heap[k]?=x:=(h.block k A (by simp[E,G])).trans j
theorem put_old{w:World}{T:FT}(A:dF w f g S T)(j:jJ T S os)(e:En)(he:gY e.t)(U:(aX T S e.t).2=true) :
 Cl 45 #[.pointer (some ⟨f,0,none⟩),.agg (cZ e)] w fun e' w'=>e'=.returned (.tuple #[.agg (cZ enZ),.bool false])/\dF w' f g S (pF T S e)/\bH f g w w':=by
 have hS:S<=1099511627776:=by have:=j.small;omega
 have h0:T.most≠0:=by have:=j.most;omega
 have aj:=j.mid.free j.lt;have E:=rQ (x:=e.t) aj;have ak:Hid (pF T S e=(T.ent (aX T S e.t).1 e).touch (aX T S e.t).1):=q_ (by unfold pF;rw[bBa U]);have V:=q_ ((j.mid.mem _ E.1).1 (E.2.1.trans U));have W:=q_ (j.mid.ent E.1 he);obtain⟨G,ad⟩:=eX (w.alloc (.cells (cZ e) 64));have al:Below w.heap.size w G:=ad▸bC;have aw:=bN ad;have ax:G.heap.size=w.heap.size+1:=by rw[<-ad];simp
 obtain⟨O,aq⟩:=eX (G.alloc (.cells #[.int .i64 0,.bool false,.int .u64 0,.int .u64 0,.bool false,.int .u64 0,.int .u64 0,.int .i64 0,.int .i64 0,.int .i64 0,.int .i64 0,.int .i64 0] 64));have X:Below G.heap.size G O:=aq▸bC;have Y:Hid (O.heap[G.heap.size]?=some (.cells (cZ enZ) 64 (0,0))):=q_ (aq▸aJ _ _ _);have Z:=q_ (aG X aw);have aa:=q_ ((A.on al).on X);have ay:Hid (bH f g w O):=q_ (bH.quiet ((tw al X)));have qn:=q_ (pW aa h0);have qf:=q_ (aAe aa j.mid.seed hS aj e.t he);obtain⟨i,hi⟩:=eX ((aX T S e.t).1);rw[hi]at qf E ak V W;rw[U]at qf;have am:=E.1;have bx:(i:Int)<(S:Int):=by omega
 obtain⟨z,hz⟩:=eX w.heap.size;rw[hz]at ax Z;rw[ax]at Y;have bz:z≠f:=by have:=A.flt;omega
 have b0:z≠g:=by have:=A.glt;omega
 have a0:z+1≠f:=by have:=A.flt;omega
 have a1:z+1≠g:=by have:=A.glt;omega
 have b1:=(Array.getElem?_eq_some_iff.1 Y).1;have a2:Hid (O.rangeAt z 0 (tuL e.t)):=q_ (dZ (cs:=cZ e) Z 0 9 _ rfl);clear A j aj hi E U al X aw h0 he;go_enter func45,ntmps45;go_wp2_with fail
 clear ad aq;refine qn.mono ?_;rintro e' O ⟨rfl,rfl⟩;go_upto_region 3 with fail
 apply aWa;iterate 2 refine pS ?_
 refine wpList_load_mid rfl 46 (.tmp 17) rfl z 0 rfl (tuL e.t) _ a2 cRa rfl bW ?_;refine bRa rfl fun K J=>?_;go_simp;refine(qf).mono ?_;rintro e w3 ⟨rfl,I⟩;go_simp;refine J _ _ ?_;clear J K;iterate 5 refine pS ?_
 refine bCa ?_;go_simp;have an:=q_ (aa.on I);have a3:=q_ (aG I Y);have a4:=q_ (aG I Z);have b2:=I.size;have a5:=q_ (ay.trans (bH.quiet I));have lf:=fun l:Later w3=>aA (an.on l.hb).blk
 have lE:Hid (∀l:Later w3,l.w.rangeAt z 0 (enL e)):=q_ (fun l=>aM (cs:=cZ e) (aG l.hb a4));clear aa Y Z ay I qf qn a2;go_upto_region 5 with fail
 refine rL ?_;refine eS 0 8 1 ?_;simp only[dA,dC,dD];iterate 5 refine qE ?_
 refine kQ rfl 64 (.tmp 3) rfl z 0 rfl (enL e) _ lE eXa rfl tN ?_;iterate 2 refine qE ?_
 refine aT ?_;refine eE fun l2=>?_;have ao:=q_ (an.on l2.hb);obtain⟨cs,L,bi⟩:=ao.arr;have a7:i*15+12<=cs.size:=by rw[bi];omega
 have a8:Hid (bH f g w3 l2.w):=q_ (bH.quiet l2.hb);replace L:=q_ L;refine tS 8 rfl fun K J=>?_;rw[bBa (by rfl)];refine nL 64 (.tmp 30) (.tmp 28) rfl g (i*15) rfl (cZ e) rfl L a7 tN (qV e) fun w5 au g5=>?_;have a9:=ao.ent am e L au g5;have ba:=q_ (a8.trans (bH.grown (.inr rfl) g5));clear L a7 bi ao a8 au g5 lf lE an;refine J _ _ ?_;clear J K;obtain⟨hp,hn⟩:=W.lk.prev_lt V;have qu:=q_ (aHp a9 i am hp hn);have ac:((T.ent i e).unlink i).first<(S:Int):=by
  obtain⟨l,r,e1⟩:=eSa V;have h1:=W.lk;rw[e1]at h1;exact h1.unlink.1.aMn
 clear a9 hp hn W V;replace ac:=q_ ac;refine tD ?_;go_wp2_with fail
 refine qu.mono ?_;rintro e' w6 ⟨rfl,bl,bm⟩;have qr:=q_ (aJ8 bl i am ac);have be:=q_ (ba.trans bm);clear qu ba bm bl ac;go_wp2_with fail
 refine qr.mono ?_;rintro e' w7 ⟨rfl,N,bn⟩;have ap:=be.trans bn;have bf:=q_ (ap.blk a3 (by omega) a0 a1);have bg:=q_ (a5.trans ap);clear qr be bn ap a5 a3 a4;rw[show((T.ent i e).unlink i).front i=pF T S e from ak.out.symm]at N;clear ak;replace N:=q_ N;go_upto_region 8 with fail
 apply aWa;refine pS ?_;refine sW 64 (.tmp 4) (.tmp 37) (z+1) (cZ enZ) bf (qV _) eXa fun w9 bo g9 ai=>?_;have br:=q_ (N.far g9 a0 a1);have bs:=q_ (bg.far g9 (by omega));clear N bg bf bo g9;replace ai:=q_ ai;refine pS ?_;refine bCa ?_;go_simp;go_wp2_with fail
 exact aYa (v:=.tuple #[.agg (cZ enZ),.bool false]) (by simp[results,results45,asAddr,ai.out,Result.andThen]) rfl ⟨rfl,br,bs⟩
theorem build_pl{E:Oper}(e:En)(j:Operand->Value)(x y:Operand)(G:E.op=.build 144 #[(0,x),(1,y)])(I:j x=.agg (cZ e))(J:j y=.bool true)(w:World):(execOp j E).run prog w=.ok (.value (.agg (tL ⟨e,true,0,0⟩))) w:=by
 have h:(Instr.build 144 #[(0,j x),(1,j y)]).run prog w=.ok (.agg (tL ⟨e,true,0,0⟩)) w:=by
  rw[I,J];obtain⟨⟨N,O,U,V,W,X,Y,Z,dp⟩,G,st,un⟩:=e
  kernel_rfl
 have L:∀A,A=#[(0,j x),(1,j y)]->Sem.run prog (do let v <- Instr.build 144 A;pure (Next.value v)) w=.ok (.value (.agg (tL ⟨e,true,0,0⟩))) w:=by
  rintro _ rfl;simp only[fJa,fHa,h,dNa]
 unfold execOp;simp only[G];exact L _ (by simp)
theorem put_new{w:World}{T:FT}(E:dF w f g S T)(j:jJ T S os)(e:En)(he:gY e.t)(hb:(aX T S e.t).2=false) :
 Cl 45 #[.pointer (some ⟨f,0,none⟩),.agg (cZ e)] w fun e' w'=>e'=.returned (.tuple #[.agg (cZ (goneE T)),.bool (uN T)])/\dF w' f g S (pF T S e)/\bH f g w w':=by
 have hS:S<=1099511627776:=by have:=j.small;omega
 have h0:T.most≠0:=by have:=j.most;omega
 have b9:=j.mid.free j.lt;have bk:Hid (pF T S e=aG1 (mF (kJ T S) (aX (kJ T S) S e.t).1 e)):=q_ (by unfold pF;rw[bAa (by rw[hb];decide)]);have ay:=q_ j.last;have aa:Hid (goneE T=if uN T=true then(T.at' T.last.toNat).e else enZ):=q_ (rfl);have hle':Hid (kJ T S=if uN T=true then T.remove S T.last.toNat else T):=q_ (rfl);have bl:(T.n == T.most)=uN T:=by
  unfold uN;by_cases h:T.n=T.most
  .rw[bYa h,h];simp
  .rw[bWa h,bDa];exact h
 obtain⟨O,L,h2,h3,h4,h5,-,-⟩:=j.less;have hl':Hid (O.length<S):=q_ (by have:=j.room;have:=j.most;omega);have bm:=q_ (rQ (x:=e.t) (L.free hl'));obtain⟨B,hB⟩:=eX (uN T);obtain⟨G,hG⟩:=eX (goneE T);obtain⟨T1,bu⟩:=eX (kJ T S);rw[hB]at bl ay aa hle' ⊢;rw[hG]at aa ⊢;rw[bu]at hle' bk L h4 bm;have bn:Hid (∀(a:Nat),a∈os->∀w,dF w f g S T->Cl 89 #[.pointer (some ⟨f,0,none⟩),.int .i64 (a:Int)] w fun e w'=>e=.returned (.tuple #[])/\dF w' f g S (T.remove S a)/\bH f g w w'):=q_ (fun a ha w E=>aHd E j.mid hS a ha j.lt (by have:=j.num;omega) (by have:=j.num;have:=j.lt;omega));have cc:=q_ j.mid.lk.lt;obtain⟨w1,bd⟩:=eX (w.alloc (.cells (cZ e) 64));have bo:Below w.heap.size w w1:=bd▸bC;have cd:=bN bd;have ce:w1.heap.size=w.heap.size+1:=by rw[<-bd];simp
 obtain⟨w2,b0⟩:=eX (w1.alloc (.cells #[.int .i64 0,.bool false,.int .u64 0,.int .u64 0,.bool false,.int .u64 0,.int .u64 0,.int .i64 0,.int .i64 0,.int .i64 0,.int .i64 0,.int .i64 0] 64));have az:Below w1.heap.size w1 w2:=b0▸bC;have a0:Hid (w2.heap[w1.heap.size]?=some (.cells (cZ enZ) 64 (0,0))):=q_ (b0▸aJ _ _ _);have a1:=q_ (aG az cd);have V:=q_ ((E.on bo).on az);have cg:Hid (bH f g w w2):=q_ (bH.quiet ((tw bo az)));have qn:=q_ (pW V h0);have J:=q_ (aAe V j.mid.seed hS b9 e.t he);rw[hb]at J;obtain⟨i0,de⟩:∃i,(aX T S e.t).1=i:=⟨_,rfl⟩
 rw[de]at J;obtain⟨z,hz⟩:=eX w.heap.size;rw[hz]at ce a1;rw[ce]at a0;have dl:z≠f:=by have:=E.flt;omega
 have dm:z≠g:=by have:=E.glt;omega
 have bp:z+1≠f:=by have:=E.flt;omega
 have bq:z+1≠g:=by have:=E.glt;omega
 have d0:=E.flt;have d1:=E.glt;have d2:=(Array.getElem?_eq_some_iff.1 a0).1;have af:Hid (w2.rangeAt z 0 (tuL e.t)):=q_ (dZ (cs:=cZ e) a1 0 9 _ rfl);clear E j b9 de hb bo az cd h0 hB hG;replace ⟨L,h2,h3,h4,h5,bu,he⟩:=q_7 L h2 h3 h4 h5 bu he;go_enter func45,ntmps45;go_wp2_with fail
 clear bd b0;refine qn.mono ?_;rintro e' w2 ⟨rfl,rfl⟩;go_upto_region 3 with fail
 apply aWa;iterate 2 refine pS ?_
 refine wpList_load_mid rfl 46 (.tmp 17) rfl z 0 rfl (tuL e.t) _ af cRa rfl bW ?_;refine bRa rfl fun K A=>?_;go_simp;refine(J).mono ?_;rintro e w3 ⟨rfl,ad⟩;go_simp;refine A _ _ ?_;clear A K;iterate 5 refine pS ?_
 refine bCa ?_;go_simp;have ci:=V.on ad;have cj:=aG ad a0;have ck:=aG ad a1;have d3:=ad.size;have cl:=cg.trans (bH.quiet ad);obtain⟨w4,b2⟩:=eX (w3.alloc (.cells #[.int .i64 0,.bool false,.int .u64 0,.int .u64 0,.bool false,.int .u64 0,.int .u64 0,.int .i64 0,.int .i64 0,.int .i64 0,.int .i64 0,.int .i64 0] 64));have ah:Below w3.heap.size w3 w4:=b2▸bC;have a2:Hid (w4.heap[w3.heap.size]?=some (.cells (cZ enZ) 64 (0,0))):=q_ (b2▸aJ _ _ _);obtain⟨y,hy⟩:=eX w3.heap.size;have bv:=q_ (ci.on ah);have cm:=q_ (aG ah cj);have cn:=q_ (aG ah ck);have co:=q_ (cl.trans (bH.quiet ah));rw[hy]at a2;have d4:=(Array.getElem?_eq_some_iff.1 a2).1;have d5:z+1<y:=by omega
 have N:=fun l:Later w4=>aA (bv.on l.hb).blk
 clear V a0 a1 cg ad J qn af ci cj ck cl ah;go_upto_region 10 with fail
 clear b2;refine rL ?_;refine eS 0 10 0 ?_;simp only[dA,dC,dD];iterate 10 refine qE ?_
 refine aT ?_;refine eD fun w5 U=>?_;have W:=q_ (bv.on U);have a3:=q_ (aG U cm);have a4:=q_ (aG U cn);have a5:=q_ (aG U a2);have a6:=q_ (co.trans (bH.quiet U));have d6:=U.size;have N:=fun l:Later w5=>aA (W.on l.hb).blk
 clear N bv cm cn co a2 U;have N:=fun l:Later w5=>aA (W.on l.hb).blk
 replace bl:=q_ bl;go_upto_if 47 with fail
 go_cut [] (fun wx=>dF wx f g S T1/\bH f g w wx/\wx.heap[z]?=some (.cells (cZ e) 64 (0,0))/\wx.heap[z+1]?=some (.cells (cZ enZ) 64 (0,0))/\wx.heap[y]?=some (.cells (cZ G) 64 (0,0)))
 case first =>
  rcases B with _|_
  .have e1:T1=T:=hle'.out;have e2:Hid (G=enZ):=q_ (aa);clear N;replace e1:=q_ e1;go_wp2_with fail
   go_meet;exact⟨by rw[e1.out];exact W,a6,a4,a3,by rw[e2.out];exact a5⟩
  .obtain⟨a,ha,a8⟩:=ay rfl;have e1:Hid (T1=T.remove S a):=q_ (by have:=hle'.out;rw[bBa rfl,ha,bMa]at this;exact this);have e2:Hid (G=(T.at' a).e):=q_ (by have:=aa.out;rw[bBa rfl,ha,bMa]at this;exact this);have dn:=cc a a8;have d7:(a:Int)<(S:Int):=by omega
   have lr:∀l:Later w5,l.w.rangeAt g (a*15) (enL (T.at' a).e):=fun l=>by
    have:=(W.on l.hb).range dn 0 12 (enL (T.at' a).e) rfl;rw[cNa]at this;exact this
   have cp:=q_ (bn a a8);clear bn ay hle' aa;replace ⟨lr,a8⟩:=q_2 lr a8;go_upto_region 12 with fail
   refine rL ?_;refine eS 0 11 1 ?_;simp only[dA,dC,dD];iterate 10 refine qE ?_
   refine kQ rfl 64 (.tmp 57) rfl g (a*15) rfl (enL (T.at' a).e) _ lr eXa rfl tN ?_;refine aT ?_;refine eE fun I=>?_;have aj:=q_ (aG I.hb a5);refine tS 11 rfl fun K A=>?_;rw[bBa (by rfl)];refine nL 64 (.tmp 8) (.tmp 58) rfl y 0 rfl (cZ (T.at' a).e) rfl aj (by simp) tN (qV _) fun w7 ae Z=>?_;rw[aQ _ _ (by rfl)]at ae;have cq:y≠f:=by omega
   have cr:y≠g:=by omega
   have X:=q_ ((W.on I.hb).far Z cq cr);have ct:=q_ ((a6.trans (bH.quiet I.hb)).far Z (by omega));have d8:=I.hb.size;have cu:=q_ ((Z.block z (by omega) (fun e=>by have:=bFa e;omega)).trans (aG I.hb a4));have cv:=q_ ((Z.block (z+1) (by omega) (fun e=>by have:=bFa e;omega)).trans (aG I.hb a3));have d9:=Z.size;have cw:=q_ (cp w7 X);clear N lr cp W a6 a3 a4 a5 aj Z;refine A _ _ ?_;clear A K;have cf:=aA X.blk;replace ae:=q_ ae;refine tD ?_;go_wp2_with fail
   refine cw.mono ?_;rintro e' w8 ⟨rfl,ab,au⟩;have k1:=q_ (ct.trans au);have k2:=q_ (au.blk cu (by omega) dl dm);have k3:=q_ (au.blk cv (by omega) bp bq);have k4:=q_ (au.blk ae (by omega) cq cr);clear cf X ct cu cv ae au cw;replace ab:=q_ ab;go_wp2_with fail
   go_meet;exact⟨by rw[e1.out];exact ab,k1,k2,k3,by rw[e2.out];exact k4⟩
 case rest =>
 obtain⟨ak,ba,al,bb,am⟩:=hcut;clear N W a3 a4 a5 a6 hle' aa bn cc ay;have J:=q_ (aAe ak (L.seed) hS (L.free hl') e.t he);obtain⟨i,hi⟩:=eX ((aX T1 S e.t).1);obtain⟨b,df⟩:=eX ((aX T1 S e.t).2);have bx:=bm.out.1;rw[hi]at J bx;rw[df]at J;have a9:=q_ bk;rw[hi]at a9;have ea:(i:Int)<(S:Int):=by omega
 have af:Hid (wc.rangeAt z 0 (tuL e.t)):=q_ (dZ (cs:=cZ e) al 0 9 _ rfl);have eb:=(Array.getElem?_eq_some_iff.1 am).1;have cx:=q_ L;have cy:=q_ h4;have dq:T1.first<(S:Int):=cx.lk.aMn;have ec:(O.length:Int)<(S:Int):=by have:=hl'.out;omega
 clear bk df hi bm L h2 h3 h4 h5;replace ⟨ak,ba,al,bb,am⟩:=q_5 ak ba al bb am;go_upto_region 14 with fail
 apply aWa;iterate 2 refine pS ?_
 refine wpList_load_mid rfl 46 (.tmp 67) rfl z 0 rfl (tuL e.t) _ af cRa rfl bW ?_;refine bRa rfl fun K A=>?_;go_simp;refine(J).mono ?_;rintro e w6 ⟨rfl,Y⟩;go_simp;refine A _ _ ?_;clear A K;iterate 5 refine pS ?_
 refine bCa ?_;go_simp;have bz:=q_ (ak.on Y);have cz:=aG Y al;have c0:=q_ (aG Y bb);have aj:=q_ (aG Y am);have c1:=q_ (ba.trans (bH.quiet Y));have ed:=Y.size;have N:=fun l:Later w6=>aA (bz.on l.hb).blk
 have lE:Hid (∀l:Later w6,l.w.rangeAt z 0 (enL e)):=q_ (fun l=>aM (cs:=cZ e) (aG l.hb cz));clear ak ba al bb am J af Y cz;go_upto_region 15 with fail
 refine rL ?_;refine eS 0 8 1 ?_;simp only[dA,dC,dD];iterate 5 refine qE ?_
 refine kQ rfl 64 (.tmp 3) rfl z 0 rfl (enL e) _ lE eXa rfl tN ?_;refine nY (.agg (tL ⟨e,true,0,0⟩)) rfl (fun l=>build_pl e _ (.tmp 77) (.const (.bool true)) rfl rfl rfl l.w) ?_;refine qE ?_;refine aT ?_;refine eE fun I=>?_;have X:=q_ (bz.on I.hb);obtain⟨cs,an,dg⟩:=X.arr;have ca:i*15+15<=cs.size:=by rw[dg];omega
 have c3:Hid (bH f g w6 I.w):=q_ (bH.quiet I.hb);replace an:=q_ an;refine tS 8 rfl fun K A=>?_;rw[bBa (by rfl)];refine nL 144 (.tmp 79) (.tmp 78) rfl g (i*15) rfl (tL ⟨e,true,0,0⟩) rfl an ca xQ (aB6 _) fun w8 b7 g8=>?_;have ab:=X.put bx ⟨e,true,0,0⟩ an b7 g8;have c4:=q_ (c3.trans (bH.grown (.inr rfl) g8));clear an ca dg X c3 b7 g8 N lE bz;refine A _ _ ?_;clear A K;have qr:=q_ (aJ8 ab i bx dq);clear ab;refine tD ?_;go_wp2_with fail
 refine qr.mono ?_;rintro e' w9 ⟨rfl,c7,dh⟩;have c6:=c4.trans dh;have hT9':dF w9 f g S (mF T1 i e):=c7;have bc:(mF T1 i e).n=(O.length:Int):=by
  rw[<-cy.out];unfold mF FT.front fr2;split<;>rfl
 obtain⟨T2,V⟩:=eX (mF T1 i e);rw[V]at hT9' bc a9;have dr:w9.cell? ⟨f,3,none⟩=some (.int .i64 (O.length:Int)):=by rw[<-bc];exact aA hT9'.blk 3
 have ds:=bD hT9'.blk 3;have e0:IntKind.i64.wrap ((O.length:Int)+1)=(O.length:Int)+1:=by rw[fEa];omega
 obtain⟨aw,b4⟩:∃aw,w9.setCell ⟨f,3,none⟩ (.int .i64 ((O.length:Int)+1))=aw:=⟨_,rfl⟩
 have ao:dF aw f g S (aG1 T2):=by
  have h:=hT9'.num ((O.length:Int)+1);rw[b4]at h;unfold aG1;rw[bc];exact h
 have ap:=c6.trans (b4▸bH.set (p:=⟨f,3,none⟩) (.inl rfl) _);have c8:=q_ (ap.blk c0 (by omega) bp bq);have c9:=q_ (ap.blk aj (by omega) (by omega) (by omega));have da:=q_ (c1.trans ap);have ee:=ap.size;rw[<-a9]at ao;clear qr c4 dh c7 hT9' c6 ap c0 aj c1 bc V a9 cy cx;replace ao:=q_ ao;go_upto_region 18 with fail
 clear dr ds b4 e0;have db:Hid (aw.rangeAt y 0 (enL G)):=q_ (aM (cs:=cZ G) c9);apply aWa;refine wpList_load_mid rfl 64 (.tmp 8) rfl y 0 rfl (enL G) _ db eXa rfl tN ?_;refine pS ?_;refine sW 64 (.tmp 4) (.tmp 90) (z+1) (cZ G) c8 (qV _) eXa fun dz dk bh bi=>?_;have du:=q_ (ao.far bh bp bq);have dv:=q_ (da.far bh (by omega));clear ao da c8 c9 db dk bh;replace bi:=q_ bi;refine pS ?_;refine bCa ?_;go_simp;go_wp2_with fail
 exact aYa (v:=.tuple #[.agg (cZ G),.bool B]) (by simp[results,results45,asAddr,bi.out,Result.andThen]) rfl ⟨rfl,du,dv⟩
structure Ru where
 a:Int
 b:Int
 c:Int
 d:Int
abbrev xH (r:Ru):Array Value:=#[.int .i64 r.a,.int .i64 r.b,.int .i64 r.c,.int .i64 r.d]
def ruL (r:Ru):List Value:=[.int .i64 r.a,.int .i64 r.b,.int .i64 r.c,.int .i64 r.d]
def kG:Ru:=⟨30,3600,60,120⟩
structure GoodU (r:Ru):Prop where
 a:1<=r.a/\r.a<=1073741824
 b:1<=r.b/\r.b<=1073741824
 c:1<=r.c/\r.c<=1073741824
 d:1<=r.d/\r.d<=1073741824
theorem aCt:GoodU kG:=⟨by decide,by decide,by decide,by decide⟩
theorem aE9:(prog.info? 40).map (·.size)=some 4:=by kernel_rfl
theorem ru_one(r:Ru):(xH r).all (·.oneCell')=true:=all_oneCell_toArray (by
 intro u j;simp only[bXa,bVa,dTa]at j;rcases j with rfl|rfl|rfl|rfl<;>rfl)
theorem rW(w:World):Cl 8 #[] w fun e w'=>e=.returned (.agg (xH kG))/\Below w.heap.size w w':=by
 obtain⟨I,A⟩:=eX (w.alloc (.cells #[.int .i64 0,.int .i64 0,.int .i64 0,.int .i64 0] 40));have G:Hid (Below w.heap.size w I):=q_ (A▸bC);have N:Hid (I.heap[w.heap.size]?=some (.cells #[.int .i64 0,.int .i64 0,.int .i64 0,.int .i64 0] 40 (0,0))):=q_ (A▸aJ _ _ _);go_enter func8,ntmps8;go_upto_region 1 with fail
 clear A;apply aWa;refine pS ?_;refine sW 40 (.tmp 0) (.tmp 1) (w.heap.size) (#[.int .i64 30,.int .i64 3600,.int .i64 60,.int .i64 120]) N (ru_one ⟨30,3600,60,120⟩) underlying40 fun J L E j=>?_;have O:Hid (Below (w.heap.size) w J):=q_ ((G).trans (below_grown E (by have:=(G).size;omega) (aZa _)));clear L E;replace j:=q_ j;refine bCa ?_;go_simp;go_wp2_with fail
 exact aYa (v:=.agg #[.int .i64 30,.int .i64 3600,.int .i64 60,.int .i64 120]) (by simp[results,results8,asAddr,j.out,Result.andThen]) rfl ⟨rfl,O⟩
def wG (pr fl:Int):Int:=if pr≠6 then 5 else if bits .and .i64 fl 4≠0 then 4 else if bits .and .i64 fl 1≠0 then 3 else if bits .and .i64 fl 2≠0 then 1 else 2
def zJ (st fl:Int):Int:=if st=5\/st=4 then st else if bits .and .i64 fl 4≠0 then 4 else if bits .and .i64 fl 1≠0\/st=3 then 3 else if bits .and .i64 fl 2≠0 then 1 else 2
def aA5 (r:Ru) (st:Int):Int:=if st=1 then r.a else if st=2 then r.b else if st=3 then r.c else if st=5 then r.d else 0
theorem aS1(I J:Int)(w:World):Cl 46 #[.int .i64 I,.int .i64 J] w fun e w'=>e=.returned (.int .i64 (wG I J))/\w'=w:=by
 obtain⟨x,V⟩:=eX (bits .and .i64 J 4);obtain⟨y,W⟩:=eX (bits .and .i64 J 1);obtain⟨z,X⟩:=eX (bits .and .i64 J 2);unfold wG;rw[V,W,X];by_cases j:I=6
 .have L:(I != 6)=false:=by rw[j];rfl
  rw[bAa (fun h=>h j)];clear j;by_cases A:x=0
  .have N:(x != 0)=false:=by rw[A];rfl
   rw[bAa (fun h=>h A)];clear A;by_cases E:y=0
   .have O:(y != 0)=false:=by rw[E];rfl
    rw[bAa (fun h=>h E)];clear E;by_cases G:z=0
    .have U:(z != 0)=false:=by rw[G];rfl
     rw[bAa (fun h=>h G)];clear G;go_enter func46,ntmps46;go_wp2_with fail
     go_ret;exact⟨rfl,rfl⟩
    .have U:(z != 0)=true:=by simpa using G
     rw[bBa G];clear G;go_enter func46,ntmps46;go_wp2_with fail
     go_ret;exact⟨rfl,rfl⟩
   .have O:(y != 0)=true:=by simpa using E
    rw[bBa E];clear E;go_enter func46,ntmps46;go_wp2_with fail
    go_ret;exact⟨rfl,rfl⟩
  .have N:(x != 0)=true:=by simpa using A
   rw[bBa A];clear A;go_enter func46,ntmps46;go_wp2_with fail
   go_ret;exact⟨rfl,rfl⟩
 .have L:(I != 6)=true:=by simpa using j
  rw[bBa j];clear j;go_enter func46,ntmps46;go_wp2_with fail
  go_ret;exact⟨rfl,rfl⟩
theorem aG2(j N:Int)(w:World):Cl 42 #[.int .i64 j,.int .i64 N] w fun e w'=>e=.returned (.int .i64 (zJ j N))/\w'=w:=by
 obtain⟨x,Z⟩:=eX (bits .and .i64 N 4);obtain⟨y,hy⟩:=eX (bits .and .i64 N 1);obtain⟨z,hz⟩:=eX (bits .and .i64 N 2);unfold zJ;rw[Z,hy,hz];by_cases A:j=5
 .have O:(j == 5)=true:=by rw[A];rfl
  rw[bBa (.inl A)];clear A;go_enter func42,ntmps42;go_wp2_with fail
  go_ret;exact⟨rfl,rfl⟩
 have O:(j == 5)=false:=by rw[bDa];exact A
 by_cases G:j=4
 .have U:(j == 4)=true:=by rw[G];rfl
  rw[bBa (.inr G)];clear A G;go_enter func42,ntmps42;go_wp2_with fail
  go_ret;exact⟨rfl,rfl⟩
 have U:(j == 4)=false:=by rw[bDa];exact G
 rw[bAa (by rintro(h|h);exact A h;exact G h)];clear A G;by_cases I:x=0
 .have V:(x != 0)=false:=by rw[I];rfl
  rw[bAa (fun h=>h I)];clear I;by_cases E:y=0
  .have W:(y != 0)=false:=by rw[E];rfl
   by_cases J:j=3
   .have X:(j == 3)=true:=by rw[J];rfl
    rw[bBa (.inr J)];clear E J;go_enter func42,ntmps42;go_wp2_with fail
    go_ret;exact⟨rfl,rfl⟩
   .have X:(j == 3)=false:=by rw[bDa];exact J
    rw[bAa (by rintro(h|h);exact h E;exact J h)];clear E J;by_cases L:z=0
    .have Y:(z != 0)=false:=by rw[L];rfl
     rw[bAa (fun h=>h L)];clear L;go_enter func42,ntmps42;go_wp2_with fail
     go_ret;exact⟨rfl,rfl⟩
    .have Y:(z != 0)=true:=by simpa using L
     rw[bBa L];clear L;go_enter func42,ntmps42;go_wp2_with fail
     go_ret;exact⟨rfl,rfl⟩
  .have W:(y != 0)=true:=by simpa using E
   rw[bBa (.inl E)];clear E;go_enter func42,ntmps42;go_wp2_with fail
   go_ret;exact⟨rfl,rfl⟩
 .have V:(x != 0)=true:=by simpa using I
  rw[bBa I];clear I;go_enter func42,ntmps42;go_wp2_with fail
  go_ret;exact⟨rfl,rfl⟩
theorem aMx(r:Ru)(j:Int)(w:World):Cl 43 #[.agg (xH r),.int .i64 j] w fun e w'=>e=.returned (.int .i64 (aA5 r j))/\Below w.heap.size w w':=by
 obtain⟨a,b,c,d⟩:=r;dsimp only[xH];unfold aA5;obtain⟨X,N⟩:=eX (w.alloc (.cells #[.int .i64 a,.int .i64 b,.int .i64 c,.int .i64 d] 40));have J:Hid (Below w.heap.size w X):=q_ (N▸bC);have L:=bN N;have Y:=aA L;clear L;dsimp only;by_cases A:j=1
 .have O:(j == 1)=true:=by rw[A];rfl
  rw[bBa A];clear A;go_enter func43,ntmps43;go_wp2_with fail
  go_ret;exact⟨rfl,J⟩
 have O:(j == 1)=false:=by rw[bDa];exact A
 rw[bAa A];clear A;by_cases E:j=2
 .have U:(j == 2)=true:=by rw[E];rfl
  rw[bBa E];clear E;go_enter func43,ntmps43;go_wp2_with fail
  go_ret;exact⟨rfl,J⟩
 have U:(j == 2)=false:=by rw[bDa];exact E
 rw[bAa E];clear E;by_cases G:j=3
 .have V:(j == 3)=true:=by rw[G];rfl
  rw[bBa G];clear G;go_enter func43,ntmps43;go_wp2_with fail
  go_ret;exact⟨rfl,J⟩
 have V:(j == 3)=false:=by rw[bDa];exact G
 rw[bAa G];clear G;by_cases I:j=5
 .have W:(j == 5)=true:=by rw[I];rfl
  rw[bBa I];clear I;go_enter func43,ntmps43;go_wp2_with fail
  go_ret;exact⟨rfl,J⟩
 have W:(j == 5)=false:=by rw[bDa];exact I
 rw[bAa I];clear I;go_enter func43,ntmps43;go_wp2_with fail
 go_ret;exact⟨rfl,J⟩
theorem idx_ru{r:Ru}(j:GoodU r)(i:Nat)(U:i<4)(w:World):∃v:Int,(Instr.index 200 (.agg (xH r)) (.int .i64 (i:Int))).run prog w=.ok (.int .i64 v) w/\1<=v/\v<=1073741824:=by
 obtain⟨⟨A,E⟩,⟨G,I⟩,⟨J,L⟩,⟨N,O⟩⟩:=j;obtain⟨a,b,c,d⟩:=r;rcases(by omega:i=0\/i=1\/i=2\/i=3)with rfl|rfl|rfl|rfl
 .exact⟨a,by kernel_rfl,A,E⟩
 .exact⟨b,by kernel_rfl,G,I⟩
 .exact⟨c,by kernel_rfl,J,L⟩
 .exact⟨d,by kernel_rfl,N,O⟩
theorem aF7(r:Ru)(G:GoodU r)(w:World):Cl 28 #[.agg (xH r)] w fun e w'=>e=.returned (.bool true)/\Below w.heap.size w w':=by
 have J:=q_ (fun i I w=>idx_ru G i I w);clear G;obtain⟨a,b,c,d⟩:=r;dsimp only[xH]at J ⊢;obtain⟨A,E⟩:=eX (w.alloc (.cells #[.int .i64 a,.int .i64 b,.int .i64 c,.int .i64 d] 40));have N:Hid (Below w.heap.size w A):=q_ (E▸bC);have L:=bN E;have O:=aA L;clear L;go_enter func28,ntmps28;go_wp2_with fail
 clear O E;go_loopw [4,14] (fun _ j wr=>∃i:Nat,i<=4/\j=.int .i64 (i:Int)/\A=wr) (fun _ j _=>4 - (intOf j).toNat)
 case atStart=>exact⟨0,by omega,rfl,by first|rfl|trivial⟩
 case round =>
  obtain⟨i,I,rfl,rfl⟩:=hrel;by_cases U:i<4
  .obtain⟨v,Z,aa,ab⟩:=J i U A;have V:decide (v<1)=false:=by rw[bEa];omega
   have W:decide (1073741824<v)=false:=by rw[bEa];omega
   have t1':¬ v<1:=by omega
   have t2':¬ (1073741824:Int)<v:=by omega
   have X:=wJ i;have Y:(i:Int)<4:=by omega
   go_wp2_with fail
   exact⟨⟨i+1,by omega,by first|rfl|go_num,by first|rfl|trivial⟩,by simp only[intOf];omega⟩
  .obtain rfl:i=4:=by omega
   go_wp2_with fail
   go_ret;exact⟨rfl,N⟩
def wZ (m:Nat):Nat->Nat->Nat
 | 0,s=>s
 | k+1,s=>if s<2*m then wZ m k (s*2)else s
def nJ (m:Nat):Nat:=wZ m 14 2
theorem aN1:∀(k s:Nat),2<=s->2*m<=s*2 ^ k->s<=4*m->2*m<=wZ m k s/\wZ m k s<=4*m/\2<=wZ m k s
 | 0,s,h,h1,h2=>by rw[wZ];simp at h1;exact⟨h1,h2,h⟩
 | k+1,s,h,h1,h2=>by
  rw[wZ];split
  .exact aN1 k (s*2) (by omega) (by rw[gUa,hAa (2 ^ k) 2,<-Nat.mul_assoc]at h1;exact h1) (by omega)
  .exact⟨by omega,h2,h⟩
theorem aN0(j:1<=m)(A:m<=4096):2*m<=nJ m/\nJ m<=4*m/\2<=nJ m:=aN1 14 2 (aZa _) (by omega) (by omega)
def rR (seed m:Nat):FT:=⟨seed,(m:Int),List.replicate (nJ m) plZ,0,-1,-1⟩
theorem aJd(seed m j:Nat):(rR seed m).at' j=plZ:=by
 unfold rR FT.at';dsimp only;rw[bTa,List.getElem?_replicate];split<;>rfl
theorem aNa{seed:Nat}(G:seed<18446744073709551616)(I:1<=m)(J:m<=4096):jJ (rR seed m) (nJ m) []:=by
 obtain⟨N,O,U⟩:=aN0 I J;refine⟨⟨⟨dCa,by omega,List.nodup_nil,fun i E=>(by cases E),fun l i r e=>?_,rfl,rfl⟩,fun i E=>?_,fun j=>?_,G⟩,fun j e L A=>?_,rfl,?_,?_,?_,by omega⟩
 .cases l<;>cases e
 .rw[aJd];exact⟨fun h=>(by cases h),fun h=>(by cases h)⟩
 .rw[aJd];exact goodZ
 .unfold slT at A;rw[aJd,bAa (by decide)]at A
  cases A
 .show(1:Int)<=(m:Int);omega
 .show 2*(m:Int)<=_;omega
 .show((0:Nat):Int)<=(m:Int);omega
theorem info_pl:(prog.info? 144).map (fun i=>(i.zero,i.size,i.bytes))=some (some (.agg (tL plZ)),15,120):=by kernel_rfl
def FNewEnd (S:Nat) (T:FT) (w:World) (e:Ending) (w':World):Prop:=(∃f g,e=.returned (.tuple #[.pointer (some ⟨f,0,none⟩),.int .i64 0])/\dF w' f g S T/\w.heap.size<=f/\w.heap.size<=g)/\Below w.heap.size w w'
theorem fnew_any(m:Nat)(h1:1<=m)(h2:m<=4096)(seed:Nat)(w:World):Cl 29 #[.int .i64 (m:Int),.int .u64 (seed:Int)] w fun e w'=>FNewEnd (nJ m) (rR seed m) w e w':=by
 have t1:decide ((m:Int)<1)=false:=by rw[bEa];omega
 have t2:decide ((4096:Int)<(m:Int))=false:=by rw[bEa];omega
 have al:decide (4096<m)=false:=by rw[bEa];omega
 have t1':¬ (m:Int)<1:=by omega
 have t2':¬ (4096:Int)<(m:Int):=by omega
 have t3:¬ m<1:=by omega
 have hS:=q_ (aN0 h1 h2);have U:Hid (nJ m=wZ m 14 2):=q_ (rfl);have an:IntKind.i64.wrap (2*(m:Int))=2*(m:Int):=by rw[fEa];omega
 obtain⟨S,I⟩:=eX (nJ m);rw[I]at hS U ⊢;have V:rR seed m=⟨seed,(m:Int),List.replicate S plZ,0,-1,-1⟩:=by unfold rR;rw[I]
 rw[V];clear V;replace I:=q_ I;go_enter func29,ntmps29;go_wp2_with fail
 go_loopw [6] (fun L wr=>∃k s:Nat,L=.int .i64 (s:Int)/\2<=s/\s<=16384/\2*m<=s*2 ^ k/\wZ m k s=S/\w=wr) (fun L _=>16384 - (intOf L).toNat)
 case atStart=>exact⟨14,2,rfl,by omega,by omega,by omega,U.symm,rfl⟩
 case round =>
  obtain⟨k,s,rfl,ap,aq,A,j,rfl⟩:=hrel;by_cases Z:s<2*m
  .obtain⟨k,rfl⟩:∃k',k=k'+1:=by
    cases k with
    | zero=>simp at A;omega
    | succ k=>exact⟨k,rfl⟩
   rw[wZ,bBa Z]at j;have c1:(s:Int)<2*(m:Int):=by omega
   have e1:IntKind.i64.wrap ((s:Int)*2)=((s*2:Nat):Int):=by rw[fEa];omega
   have hk':Hid (2*m<=s*2*2 ^ k):=q_ (by rw[gUa,hAa (2 ^ k) 2,<-Nat.mul_assoc]at A;exact A);clear A;replace j:=q_ j;go_wp2_with fail
   exact⟨⟨k,s*2,by first|rfl|go_num,by omega,by omega,hk',j,by first|rfl|trivial⟩,by simp only[intOf];omega⟩
  .have af:s=S:=by
    cases k with
    | zero=>exact j
    | succ k=>rw[wZ,bAa Z]at j;exact j
   subst af;have c1:¬ (s:Int)<2*(m:Int):=by omega
   obtain⟨J,ah,X,Y,ai⟩:=aKe (f:=plL) (sz:=15) (z:=plZ) (zv:=.agg (tL plZ)) underlying140 info_pl (by decide) (by decide) rfl rfl s (by omega) w;obtain⟨E,O⟩:∃E,J.alloc (.cells #[.int .u64 (seed:Int),.int .i64 (m:Int),.slice (some ⟨w.heap.size,0,none⟩) s s,.int .i64 0,.int .i64 (-1),.int .i64 (-1)] 142)=E:=⟨_,rfl⟩
   have N:Below J.heap.size J E:=O▸bC;have W:=bN O;have G:dF E J.heap.size w.heap.size s ⟨seed,(m:Int),List.replicate s plZ,0,-1,-1⟩:=by
    exact⟨W,X.on N,dCa⟩
   have ag:=q_ ((tw Y N));rw[ai]at G;clear j A X Y N W;replace G:=q_ G;go_wp2_with fail
   clear ah O;go_ret2;exact⟨⟨_,_,rfl,G,by omega,aZa _⟩,ag⟩
structure PAt (w:World) (p f g S:Nat) (T:FT) (r:Ru) (now:Int):Prop where
 blk:w.heap[p]?=some (.cells #[.pointer (some ⟨f,0,none⟩),.int .i64 r.a,.int .i64 r.b,.int .i64 r.c,.int .i64 r.d,.int .i64 now] 80 (0,0))
 tab:dF w f g S T
theorem PAt.on{w:World}{p:Nat}{T:FT}{r:Ru}{j:Int}(h:PAt w p f g S T r j)(A:Below w.heap.size w w'):PAt w' p f g S T r j:=⟨aG A h.blk,h.tab.on A⟩
theorem PAt.plt{w:World}{p:Nat}{T:FT}{r:Ru}{j:Int}(h:PAt w p f g S T r j):p<w.heap.size:=(Array.getElem?_eq_some_iff.1 h.blk).1
theorem PAt.nf{w:World}{p:Nat}{T:FT}{r:Ru}{A:Int}(h:PAt w p f g S T r A):p≠f:=by
 rintro rfl;have j:=h.tab.blk;rw[h.blk]at j;injection j with j
 injection j with _ h2 _
 exact absurd h2 (by decide)
theorem PAt.ng{w:World}{p:Nat}{T:FT}{r:Ru}{A:Int}(h:PAt w p f g S T r A):p≠g:=by
 rintro rfl;obtain⟨cs,j,-⟩:=h.tab.row;rw[h.blk]at j;injection j with j
 injection j with _ h2 _
 exact absurd h2 (by decide)
def aCy (T:FT) (S:Nat) (t:Tu):Int:=if(aX T S t).2=true then(tZ T S t).host else -1
theorem vW{w:World}{p:Nat}(h:w.cell? ⟨p,0,none⟩=some (.pointer (some ⟨f,0,none⟩))):Cl 40 #[.pointer (some ⟨p,0,none⟩)] w fun e w'=>e=.returned (.bool false)/\w'=w:=by
 go_enter func40,ntmps40;go_wp2_with fail
 go_ret;exact⟨rfl,rfl⟩
theorem aKm{w:World}{p:Nat}{T:FT}{r:Ru}{au:Int}(hP:PAt w p f g S T r au)(Y:jJ T S os)(t:Tu)(ht:gY t) :
 Cl 72 #[.pointer (some ⟨p,0,none⟩),.agg (eB t)] w fun e w'=>e=.returned (.int .i64 (aCy T S t))/\Below w.heap.size w w':=by
 have V:Hid (∀w',PAt w' p f g S T r au->Cl 41 #[.pointer (some ⟨f,0,none⟩),.agg (eB t)] w' fun e a3=>e=.returned (.tuple #[.agg (cZ (tZ T S t)),.bool (aX T S t).2])/\Below w'.heap.size w' a3):=q_ (fun w' h=>aQd h.tab Y.mid Y.lt (by have:=Y.small;omega) (by have:=Y.most;omega) t ht);unfold aCy;obtain⟨E,hE⟩:=eX (tZ T S t);obtain⟨b,hb⟩:=eX ((aX T S t).2);rw[hE,hb]at V;rw[hE,hb];obtain⟨R,W⟩:∃R,(if b=true then E.host else -1)=R:=⟨_,rfl⟩
 rw[W];obtain⟨A,ar⟩:=eX (w.alloc (.cells (eB t) 46));have aa:Hid (Below w.heap.size w A):=q_ (ar▸bC);have ab:Hid (A.heap[w.heap.size]?=some (.cells (eB t) 46 (0,0))):=q_ (ar▸aJ _ _ _);have ac:=q_ (hP.on aa);have qn:=q_ (vW (aA ac.blk 0));have a7:=(Array.getElem?_eq_some_iff.1 ab).1;obtain⟨z,hz⟩:=eX w.heap.size;rw[hz]at aa ab a7;rw[hz];clear hP Y ht hE hb;replace W:=q_ W;go_enter func72,ntmps72;go_wp2_with fail
 clear ar;refine qn.mono ?_;rintro e A ⟨rfl,rfl⟩;go_upto_region 3 with fail
 go_cut [5,6] (fun pv bv wx=>∃y,pv=.pointer (some ⟨y,0,none⟩)/\bv=.bool b/\wx.heap[y]?=some (.cells (cZ E) 64 (0,0))/\Below z w wx)
 case first =>
  clear qn W;refine rX (Below A.heap.size) ?_;intro N ai;have ad:=q_ (ac.on ai);have ax:=q_ (aG ai ab);have ay:=ai.size;have aj:=q_ ((tw aa ai));have lp:=fun l:bU (Below A.heap.size) N=>aA ((l.hk.block p (by have:=ac.plt;omega)).trans ad.blk)
  have lr:Hid (∀l:bU (Below A.heap.size) N,l.w.rangeAt z 0 (tuL t)):=q_ (fun l=>aM (cs:=eB t) ((l.hk.block z (by omega)).trans ax));clear ac aa ab ai;refine xS (Below A.heap.size) 0 4 8 ?_;simp only[dA,dC,dD];iterate 4 refine qX ?_
  refine aN ?_;refine xS (Below A.heap.size) 4 1 7 ?_;simp only[dB,dA,dC,dD];refine dU rfl 46 (.tmp 3) rfl z 0 rfl (tuL t) _ lr cRa rfl bW ?_;refine aN ?_;clear lp lr ax;refine rH 5 9 rfl rfl (by as_aux_lemma=>kernel_rfl) (fun K j=>?_) (fun K j=>?_)
  .go_simp;go_at_call 41;refine(V N ad).mono ?_;rintro e J ⟨rfl,I⟩;refine j _ _ (I.mono ay) ?_;clear j K;have ae:=q_ ((tw aj I));have a9:=I.size;clear I;refine xS (Below A.heap.size) 6 3 3 ?_;simp only[dB,dA,dC,dD];iterate 3 refine qX ?_
   refine aN ?_;refine fS 9 rfl fun K j=>?_;go_simp;obtain⟨w5,ak⟩:=eX (J.alloc (.cells #[.int .i64 0,.bool false,.int .u64 0,.int .u64 0,.bool false,.int .u64 0,.int .u64 0,.int .i64 0,.int .i64 0,.int .i64 0,.int .i64 0,.int .i64 0] 64));have G:Below J.heap.size J w5:=ak▸bC;have af:Hid (w5.heap[J.heap.size]?=some (.cells (cZ enZ) 64 (0,0))):=q_ (ak▸aJ _ _ _);have ba:=G.size;rw[ak];refine j _ _ (G.mono (by omega)) ?_;clear j K ak;have ag:=q_ ((tw ae G));clear G ae;clear ad aj V;refine fS 10 rfl fun K j=>?_;rw[bBa (by rfl)];refine nL 64 (.tmp 5) (.tmp 16) rfl (J.heap.size) 0 rfl (cZ E) rfl af (by simp) tN (qV _) fun w6 L Z=>?_;rw[aQ _ _ (by rfl)]at L;have O:=below_grown Z (show A.heap.size<=w5.heap.size by omega) (show A.heap.size<=J.heap.size by omega);refine j _ _ O ?_;clear j K Z;have an:=q_ ((tw ag O));clear O ag af;replace L:=q_ L;refine xM 11 rfl ?_;refine fD ?_;go_wp2_with fail
   go_meet;exact⟨_,rfl,rfl,L,an⟩
  .go_simp;obtain⟨J,al⟩:=eX (N.alloc (.cells #[.int .i64 0,.bool false,.int .u64 0,.int .u64 0,.bool false,.int .u64 0,.int .u64 0,.int .i64 0,.int .i64 0,.int .i64 0,.int .i64 0,.int .i64 0] 64));have I:Below N.heap.size N J:=al▸bC;have ao:Hid (J.heap[N.heap.size]?=some (.cells (cZ enZ) 64 (0,0))):=q_ (al▸aJ _ _ _);have a9:=I.size;rw[al];refine j _ _ (I.mono ay) ?_;clear j K al;have a0:=q_ (ad.on I);have ae:=q_ ((tw aj I));have bb:=(Array.getElem?_eq_some_iff.1 ao).1;clear I;refine fS 5 rfl fun K j=>?_;go_simp;go_at_call 41;refine(V J a0).mono ?_;rintro e w5 ⟨rfl,G⟩;refine j _ _ (G.mono (by omega)) ?_;clear j K;have ag:=q_ ((tw ae G));have af:=q_ (aG G ao);have ba:=G.size;clear G ae ao a0;refine xS (Below A.heap.size) 6 3 2 ?_;simp only[dB,dA,dC,dD];iterate 3 refine qX ?_
   refine aN ?_;clear ad aj V;refine fS 10 rfl fun K j=>?_;rw[bBa (by rfl)];refine nL 64 (.tmp 5) (.tmp 16) rfl (N.heap.size) 0 rfl (cZ E) rfl af (by simp) tN (qV _) fun w6 L Z=>?_;rw[aQ _ _ (by rfl)]at L;have O:=below_grown Z (show A.heap.size<=w5.heap.size by omega) (show A.heap.size<=N.heap.size by omega);refine j _ _ O ?_;clear j K Z;have an:=q_ ((tw ag O));clear O ag af;replace L:=q_ L;refine xM 11 rfl ?_;refine fD ?_;go_wp2_with fail
   go_meet;exact⟨_,rfl,rfl,L,an⟩
 case rest =>
 obtain⟨y,rfl,rfl,hy,X⟩:=hcut;have cy:=aA hy;clear ac aa qn ab V hy;rcases b with _|_
 .have U:R=-1:=W.symm;replace ⟨X,U⟩:=q_2 X U;go_wp2_with fail
  go_ret;exact⟨by rw[U.out];rfl,X⟩
 .have U:R=E.host:=W.symm;replace ⟨X,U⟩:=q_2 X U;go_wp2_with fail
  go_ret;exact⟨by rw[U.out];rfl,X⟩
def uM (T:FT) (S:Nat) (t:Tu):FT:=if(aX T S t).2=true then T.remove S (aX T S t).1 else T
theorem frem_any{w:World}{T:FT}(L:dF w f g S T)(j:jJ T S os)(t:Tu)(ht:gY t) :
 Cl 44 #[.pointer (some ⟨f,0,none⟩),.agg (eB t)] w fun e w'=>e=.returned (.bool (aX T S t).2)/\dF w' f g S (uM T S t)/\bH f g w w':=by
 have hS:S<=1099511627776:=by have:=j.small;omega
 have h0:T.most≠0:=by have:=j.most;omega
 have O:=j.mid.free j.lt;have U:=rQ (x:=t) O;obtain⟨J,ab⟩:=eX (w.alloc (.cells (eB t) 46));have V:Below w.heap.size w J:=ab▸bC;have W:Hid (J.heap[w.heap.size]?=some (.cells (eB t) 46 (0,0))):=q_ (ab▸aJ _ _ _);have N:=q_ (L.on V);have qn:=q_ (pW N h0);have X:=q_ (aAe N j.mid.seed hS O t ht);have ai:Hid (bH f g w J):=q_ (bH.quiet V);have Y:Hid ((aX T S t).2=true->∀w,dF w f g S T->Cl 89 #[.pointer (some ⟨f,0,none⟩),.int .i64 ((aX T S t).1:Int)] w fun e w'=>e=.returned (.tuple #[])/\dF w' f g S (T.remove S (aX T S t).1)/\bH f g w w'):=q_ (fun G w L=>aHd L j.mid hS _ ((j.mid.mem _ U.1).1 (U.2.1.trans G)) j.lt (by have:=j.num;omega) (by have:=j.num;have:=j.lt;omega));have Z:Hid (uM T S t=if(aX T S t).2=true then T.remove S (aX T S t).1 else T):=q_ (rfl);obtain⟨i,hi⟩:=eX ((aX T S t).1);obtain⟨b,G⟩:=eX ((aX T S t).2);rw[hi,G]at X Y Z;rw[G];obtain⟨z,hz⟩:=eX w.heap.size;rw[hz]at W;have lr:Hid (J.rangeAt z 0 (tuL t)):=q_ (aM (cs:=eB t) W);clear L j O U hi G V ht h0;go_enter func44,ntmps44;go_wp2_with fail
 clear ab;refine qn.mono ?_;rintro e J ⟨rfl,rfl⟩;go_upto_region 3 with fail
 apply aWa;refine pS ?_;refine wpList_load_mid rfl 46 (.tmp 3) rfl z 0 rfl (tuL t) _ lr cRa rfl bW ?_;refine bRa rfl fun K hK=>?_;go_simp;refine(X).mono ?_;rintro e w3 ⟨rfl,ac⟩;go_simp;refine hK _ _ ?_;clear hK K;iterate 5 refine pS ?_
 refine bCa ?_;go_simp;have I:=N.on ac;have E:=ai.trans (bH.quiet ac);clear N ai ac X qn lr W;rcases b with _|_
 .have A:uM T S t=T:=Z.out;replace ⟨I,E,A⟩:=q_3 I E A;go_wp2_with fail
  go_ret;exact⟨rfl,by rw[A.out];exact I,E⟩
 .have A:uM T S t=T.remove S i:=Z.out;have q:=q_ (Y rfl w3 I);clear Y I;replace ⟨E,A⟩:=q_2 E A;go_wp2_with fail
  refine q.mono ?_;rintro e w4 ⟨rfl,aa,ao⟩;have hE:=q_ (E.trans ao);replace aa:=q_ aa;go_wp2_with fail
  go_ret;exact⟨rfl,by rw[A.out];exact aa,hE⟩
theorem aB8{w:World}{T:FT}(j:dF w f g S T)(A:jJ T S os)(e:En)(E:gY e.t) :
 Cl 45 #[.pointer (some ⟨f,0,none⟩),.agg (cZ e)] w fun e' w'=>e'=.returned (.tuple #[.agg (cZ (outF T S e).1),.bool (outF T S e).2])/\dF w' f g S (pF T S e)/\bH f g w w':=by
 unfold outF
 cases G:(aX T S e.t).2 with
 | true =>
  rw[bBa rfl];exact put_old j A e E G
 | false =>
  rw[bAa (by decide)];exact put_new j A e E G
abbrev fZ (e:En) (y:Int):Array Value:=#[.int .i64 e.t.pr,.bool e.t.sv,.int .u64 (e.t.sh:Int),.int .u64 (e.t.sl:Int),.bool e.t.dv,.int .u64 (e.t.dh:Int),.int .u64 (e.t.dl:Int),.int .i64 e.t.sp,.int .i64 e.t.dp,.int .i64 e.host,.int .i64 e.st,.int .i64 e.un,.int .i64 y]
theorem rF:(prog.info? 66).map (·.size)=some 13:=by kernel_rfl
theorem aAf(e:En)(y:Int):(fZ e y).all (·.oneCell')=true:=all_oneCell_toArray (by
 intro u j;simp only[bXa,bVa,dTa]at j;rcases j with rfl|rfl|rfl|rfl|rfl|rfl|rfl|rfl|rfl|rfl|rfl|rfl|rfl<;>rfl)
theorem PAt.far{w:World}{p y:Nat}{T:FT}{r:Ru}{j:Int}(h:PAt w p f g S T r j)(A:w.grownBy w' (some y))(E:y≠p)(G:y≠f)(I:y≠g):PAt w' p f g S T r j :=
 ⟨(A.block p h.plt (fun e=>E (bFa e).symm)).trans h.blk,h.tab.far A G I⟩
theorem PAt.turn{w:World}{p:Nat}{T j:FT}{r:Ru}{A:Int}(h:PAt w p f g S T r A)(E:dF w' f g S j)(G:bH f g w w'):PAt w' p f g S j r A :=
 ⟨G.blk h.blk h.plt h.nf h.ng,E⟩
theorem aL7{E:Oper}(e:En)(n:Int)(j:Operand->Value)(x y:Operand)(G:E.op=.build 66 #[(0,x),(1,y)])(I:j x=.agg (cZ e))(J:j y=.int .i64 n)(w:World):(execOp j E).run prog w=.ok (.value (.agg (fZ e n))) w:=by
 have h:(Instr.build 66 #[(0,j x),(1,j y)]).run prog w=.ok (.agg (fZ e n)) w:=by
  rw[I,J];obtain⟨⟨N,O,U,V,W,X,Y,Z,dp⟩,G,st,un⟩:=e
  kernel_rfl
 have L:∀A,A=#[(0,j x),(1,j y)]->Sem.run prog (do let v <- Instr.build 66 A;pure (Next.value v)) w=.ok (.value (.agg (fZ e n))) w:=by
  rintro _ rfl;simp only[fJa,fHa,h,dNa]
 unfold execOp;simp only[G];exact L _ (by simp)
def aE4 (e:En) (r:Ru) (now fl:Int):En:={ e with st:=zJ e.st fl,un:=IntKind.i64.wrap (now+aA5 r (zJ e.st fl)) }
def uR (T:FT) (S:Nat) (r:Ru) (now:Int) (t:Tu) (fl:Int):FT :=
 if(aX T S t).2=true then(if zJ (tZ T S t).st fl=4 then uM T S t else pF T S (aE4 (tZ T S t) r now fl))else T
def aFe (p f g S:Nat) (T:FT) (r:Ru) (now:Int) (w:World) (e:Ending) (w':World):Prop:=(∃v,e=.returned v)/\PAt w' p f g S T r now/\bH f g w w'
theorem aNx{w:World}{p:Nat}{T:FT}{r:Ru}{I:Int}(Z:PAt w p f g S T r I)(hI:jJ T S os)(t:Tu)(ht:gY t)(L:Int) :
 Cl 15 #[.pointer (some ⟨p,0,none⟩),.agg (eB t),.int .i64 L] w fun e w'=>aFe p f g S (uR T S r I t L) r I w e w':=by
 have qg:∀w',PAt w' p f g S T r I->Cl 41 #[.pointer (some ⟨f,0,none⟩),.agg (eB t)] w' fun e ax=>e=.returned (.tuple #[.agg (cZ (tZ T S t)),.bool (aX T S t).2])/\Below w'.heap.size w' ax:=fun w' h=>aQd h.tab hI.mid hI.lt (by have:=hI.small;omega) (by have:=hI.most;omega) t ht
 have au:∀w',PAt w' p f g S T r I->Cl 44 #[.pointer (some ⟨f,0,none⟩),.agg (eB t)] w' fun e ax=>e=.returned (.bool (aX T S t).2)/\dF ax f g S (uM T S t)/\bH f g w' ax:=fun w' h=>frem_any h.tab hI t ht
 have bt:gY (tZ T S t).t:=by
  unfold tZ;split
  ·exact hI.mid.good _
  ·exact goodZ
 have az:∀(e:En),gY e.t->∀w',PAt w' p f g S T r I->Cl 45 #[.pointer (some ⟨f,0,none⟩),.agg (cZ e)] w' fun e' ax=>e'=.returned (.tuple #[.agg (cZ (outF T S e).1),.bool (outF T S e).2])/\dF ax f g S (pF T S e)/\bH f g w' ax:=fun e he w' h=>aB8 h.tab hI e he
 have al:uR T S r I t L=if(aX T S t).2=true then(if zJ (tZ T S t).st L=4 then uM T S t else pF T S (aE4 (tZ T S t) r I L))else T:=rfl
 obtain⟨E,hE⟩:=eX (tZ T S t);obtain⟨b,hb⟩:=eX ((aX T S t).2);rw[hE,hb]at qg al;rw[hE]at bt;rw[hb]at au;have a0:=fun w=>aG2 E.st L w
 have av:aE4 E r I L={ E with st:=zJ E.st L,un:=IntKind.i64.wrap (I+aA5 r (zJ E.st L)) }:=rfl;obtain⟨N,hN⟩:=eX (zJ E.st L);rw[hN]at a0 al av;have a1:=fun w=>aMx r N w
 obtain⟨D,hD⟩:=eX (aA5 r N);rw[hD]at a1 av;obtain⟨G,ci⟩:=eX (w.alloc (.cells (eB t) 46));have co:Below w.heap.size w G:=ci▸bC;have c3:=bN ci;have c4:G.heap.size=w.heap.size+1:=by rw[<-ci];simp
 obtain⟨w2,cx⟩:=eX (G.alloc (.cells #[.int .i64 0,.bool false,.int .u64 0,.int .u64 0,.bool false,.int .u64 0,.int .u64 0,.int .i64 0,.int .i64 0,.int .i64 0,.int .i64 0,.int .i64 0,.int .i64 0] 66));have b6:Below G.heap.size G w2:=cx▸bC;have a2:w2.heap[G.heap.size]?=some (.cells (fZ enZ 0) 66 (0,0)):=cx▸aJ _ _ _;have bb:=aG b6 c3;have bc:=(Z.on co).on b6;have bd:=tw co b6;have qn:=vW (aA bc.blk 0);obtain⟨z,hz⟩:=eX w.heap.size;rw[hz]at c4 bb bd;rw[c4]at a2;have cp:z+1≠p:=by have:=Z.plt;omega
 have bw:z+1≠f:=by have:=Z.tab.flt;omega
 have bx:z+1≠g:=by have:=Z.tab.glt;omega
 have dy:z≠p:=by have:=Z.plt;omega
 have dl:z≠f:=by have:=Z.tab.flt;omega
 have dm:z≠g:=by have:=Z.tab.glt;omega
 have dz:p<z:=by rw[<-hz];exact Z.plt
 have d0:f<z:=by rw[<-hz];exact Z.tab.flt
 have d1:g<z:=by rw[<-hz];exact Z.tab.glt
 have d2:=(Array.getElem?_eq_some_iff.1 a2).1;have hN':=hN;have cq:Hid (∀w',Below z w w'->PAt w' p f g S T r I):=q_ (fun w' hb=>Z.on (by rw[hz];exact hb));clear Z hI ht hE hb hN hD co b6 c3;replace ⟨qg,au,az,al,bt,a0,a1,bc,bd,a2,bb,qn⟩:=q_12 qg au az al bt a0 a1 bc bd a2 bb qn;replace ⟨av,hN'⟩:=q_2 av hN';go_enter func15,ntmps15;go_wp2_with fail
 clear ci cx;refine qn.mono ?_;rintro e G ⟨rfl,rfl⟩;go_upto_region 3 with fail
 go_cut [8,9] (fun pv bv wx=>∃y,pv=.pointer (some ⟨y,0,none⟩)/\bv=.bool b/\wx.heap[y]?=some (.cells (cZ E) 64 (0,0))/\z+2<=y/\wx.heap[z]?=some (.cells (eB t) 46 (0,0))/\wx.heap[z+1]?=some (.cells (fZ enZ 0) 66 (0,0))/\Below z w wx)
 case first =>
  clear qn au az al bt a0 a1 av hN' cq;refine rX (Below G.heap.size) ?_;intro U a9;have a3:=bc.on a9;have bz:=aG a9 bb;have b7:=aG a9 a2;have c5:=a9.size;have be:=tw bd a9;have dn:Below G.heap.size G U:=a9;have lp:=fun l:bU (Below G.heap.size) U=>aA ((l.hk.block p (by omega)).trans a3.blk)
  have lr:∀l:bU (Below G.heap.size) U,l.w.rangeAt z 0 (tuL t):=fun l=>aM (cs:=eB t) ((l.hk.block z (by omega)).trans bz)
  have c6:Hid (∀w',Below G.heap.size U w'->w'.heap[z]?=some (.cells (eB t) 46 (0,0))/\w'.heap[z+1]?=some (.cells (fZ enZ 0) 66 (0,0))/\Below z w w'):=q_ (fun w' h=>⟨(h.block z (by omega)).trans bz,(h.block (z+1) (by omega)).trans b7,(tw be h)⟩);have be:Hid (Below G.heap.size U U):=q_ (bLa _ _);clear bc bd bb a2 a9 dn;replace ⟨a3,lr,bz,b7⟩:=q_4 a3 lr bz b7;refine xS (Below G.heap.size) 0 4 8 ?_;simp only[dA,dC,dD];iterate 4 refine qX ?_
  refine aN ?_;refine xS (Below G.heap.size) 4 1 7 ?_;simp only[dB,dA,dC,dD];refine dU rfl 46 (.tmp 4) rfl z 0 rfl (tuL t) _ lr cRa rfl bW ?_;refine aN ?_;clear lp lr bz b7;refine rH 5 9 rfl rfl (by as_aux_lemma=>kernel_rfl) (fun K A=>?_) (fun K A=>?_)
  ·go_simp;go_at_call 41;refine(qg U a3).mono ?_;rintro e w4 ⟨rfl,ah⟩;refine A _ _ (ah.mono c5) ?_;clear A K;have b0:=q_ (be.trans (ah.mono (by omega):Below G.heap.size U w4));have dp:=ah.size;clear ah;refine xS (Below G.heap.size) 6 3 3 ?_;simp only[dB,dA,dC,dD];iterate 3 refine qX ?_
   refine aN ?_;refine fS 9 rfl fun K A=>?_;go_simp;obtain⟨w5,cj⟩:=eX (w4.alloc (.cells #[.int .i64 0,.bool false,.int .u64 0,.int .u64 0,.bool false,.int .u64 0,.int .u64 0,.int .i64 0,.int .i64 0,.int .i64 0,.int .i64 0,.int .i64 0] 64));have ag:Below w4.heap.size w4 w5:=cj▸bC;have X:w5.heap[w4.heap.size]?=some (.cells (cZ enZ) 64 (0,0)):=cj▸aJ _ _ _;have c7:=ag.size;rw[cj];refine A _ _ (ag.mono (by omega)) ?_;clear A K cj;have b1:=q_ ((tw b0 ag));clear ag b0;replace X:=q_ X;clear a3 be qg;refine fS 10 rfl fun K A=>?_;rw[bBa (by rfl)];refine nL 64 (.tmp 8) (.tmp 20) rfl (w4.heap.size) 0 rfl (cZ E) rfl X (by simp) tN (qV _) fun w6 aj g6=>?_;rw[aQ _ _ (by rfl)]at aj;have a5:=below_grown g6 (show G.heap.size<=w5.heap.size by omega) (show G.heap.size<=w4.heap.size by omega);refine A _ _ a5 ?_;clear A K g6;have cr:=q_ ((tw b1 a5));clear a5 b1 X;replace aj:=q_ aj;refine xM 11 rfl ?_;refine fD ?_;go_wp2_with fail
   go_meet;obtain⟨k1,k2,k3⟩:=c6 _ cr;exact⟨_,rfl,rfl,aj,by omega,k1,k2,k3⟩
  ·go_simp;obtain⟨w4,ck⟩:=eX (U.alloc (.cells #[.int .i64 0,.bool false,.int .u64 0,.int .u64 0,.bool false,.int .u64 0,.int .u64 0,.int .i64 0,.int .i64 0,.int .i64 0,.int .i64 0,.int .i64 0] 64));have ah:Below U.heap.size U w4:=ck▸bC;have b2:w4.heap[U.heap.size]?=some (.cells (cZ enZ) 64 (0,0)):=ck▸aJ _ _ _;have dp:=ah.size;rw[ck];refine A _ _ (ah.mono c5) ?_;clear A K ck;have b8:=a3.on ah;have b0:=q_ (be.trans (ah.mono (by omega):Below G.heap.size U w4));have d3:=(Array.getElem?_eq_some_iff.1 b2).1;clear ah;replace ⟨b8,b2⟩:=q_2 b8 b2;refine fS 5 rfl fun K A=>?_;go_simp;go_at_call 41;refine(qg w4 b8).mono ?_;rintro e w5 ⟨rfl,ag⟩;refine A _ _ (ag.mono (by omega)) ?_;clear A K;have b1:=q_ ((tw b0 ag));have X:=q_ (aG ag b2);have c7:=ag.size;clear ag b0 b2 b8;refine xS (Below G.heap.size) 6 3 2 ?_;simp only[dB,dA,dC,dD];iterate 3 refine qX ?_
   refine aN ?_;clear a3 be qg;refine fS 10 rfl fun K A=>?_;rw[bBa (by rfl)];refine nL 64 (.tmp 8) (.tmp 20) rfl (U.heap.size) 0 rfl (cZ E) rfl X (by simp) tN (qV _) fun w6 aj g6=>?_;rw[aQ _ _ (by rfl)]at aj;have a5:=below_grown g6 (show G.heap.size<=w5.heap.size by omega) (show G.heap.size<=U.heap.size by omega);refine A _ _ a5 ?_;clear A K g6;have cr:=q_ ((tw b1 a5));clear a5 b1 X;replace aj:=q_ aj;refine xM 11 rfl ?_;refine fD ?_;go_wp2_with fail
   go_meet;obtain⟨k1,k2,k3⟩:=c6 _ cr;exact⟨_,rfl,rfl,aj,by omega,k1,k2,k3⟩
 case rest =>
 obtain⟨y,rfl,rfl,hy,d7,ha,hc,hB⟩:=hcut;have bf:=cq wc hB;have bg:bH f g w wc:=bH.quiet (by rw[hz];exact hB);have d4:=(Array.getElem?_eq_some_iff.1 hy).1;have c8:y≠p:=by omega
 have b9:y≠f:=by omega
 have ca:y≠g:=by omega
 clear bc bd a2 bb qn qg cq hB;rcases b with _|_
 ·have ai:uR T S r I t L=T:=al.out;clear al au az a0 a1 av hy ha;replace ⟨ai,bf,bg,hc⟩:=q_4 ai bf bg hc;go_upto_region 5 with fail
  apply aWa;refine pS ?_;refine sW 66 (.tmp 6) (.tmp 24) (z+1) (fZ enZ 0) hc (aAf _ _) hCa fun w9 bs g9 ac=>?_;have ad:=bf.far g9 cp bw bx;have j:=q_ (bg.far g9 (by omega));clear bf bg hc bs g9;replace ⟨ad,ac⟩:=q_2 ad ac;refine pS ?_;refine bCa ?_;go_simp;go_wp2_with fail
  exact aYa (v:=.tuple #[.agg (fZ enZ 0),.bool false]) (by simp[results,results15,asAddr,ac.out,Result.andThen]) rfl ⟨⟨_,rfl⟩,by rw[ai.out];exact ad,j⟩
 have ai:uR T S r I t L=if N=4 then uM T S t else pF T S (aE4 E r I L):=al.out
 have cy:=aA hy;have ct:=bD hy 10;obtain⟨w5,c1⟩:=eX (wc.setCell ⟨y,10,none⟩ (.int .i64 N));have g5:wc.grownBy w5 (some y):=c1▸fG (dR _ _) (p:=⟨y,10,none⟩) rfl _;have X:w5.heap[y]?=some (.cells (cZ { E with st:=N }) 64 (0,0)):=c1▸bP hy 10 _;have bj:=bf.far g5 c8 b9 ca;have cd:=bg.far g5 (by omega);have ce:=(g5.block z (by omega) (fun e=>by have:=bFa e;omega)).trans ha;have c9:=q_ ((g5.block (z+1) (by omega) (fun e=>by have:=bFa e;omega)).trans hc);have c7:=g5.size;have lp:=fun l:Later w5=>aA (bj.on l.hb).blk
 have ly:=fun l:Later w5=>aA (aG l.hb X)
 have lu:Hid (∀l:Later w5,l.w.rangeAt p 1 (ruL r)):=q_ (fun l=>dZ (bj.on l.hb).blk 1 4 _ rfl);clear al bf bg hy ha hc g5;replace ⟨ai,bj,cd,ce,X⟩:=q_5 ai bj cd ce X;go_wp2_with fail
 refine(a0 wc).mono ?_;rintro e wc ⟨rfl,rfl⟩;clear a0;go_upto_region 7 with fail
 clear cy ct c1;refine rL ?_;refine eS 0 13 1 ?_;simp only[dA,dC,dD];iterate 7 refine qE ?_
 refine kQ rfl 40 (.tmp 36) rfl p 1 rfl (ruL r) _ lu underlying40 rfl aE9 ?_;iterate 2 refine qE ?_
 (refine aD (fun K A=>?_);go_simp;apply bSa;refine⟨fun l=>?_,A _ ?_⟩;(go_at_call 43;refine(a1 l.w).mono ?_;rintro e w' ⟨rfl,hb⟩;exact⟨rfl,hb⟩);clear A K)
 iterate 2 refine qE ?_
 refine aT ?_;refine eE fun l2=>?_;obtain⟨W,hW⟩:∃W,IntKind.i64.wrap (I+D)=W:=⟨_,rfl⟩
 have cg:aE4 E r I L={ E with st:=N,un:=W }:=by rw[av.out,hW]
 have ch:=aG l2.hb X;have dr:l2.w.cell? ⟨y,11,none⟩=some (.int .i64 E.un):=aA ch 11;have ct:=bD ch 11;obtain⟨Y,c2⟩:=eX (l2.w.setCell ⟨y,11,none⟩ (.int .i64 W));have g7:l2.w.grownBy Y (some y):=c2▸fG (dR _ _) (p:=⟨y,11,none⟩) rfl _;have aw:Y.heap[y]?=some (.cells (cZ { E with st:=N,un:=W }) 64 (0,0)):=c2▸bP ch 11 _;have bl:=(bj.on l2.hb).far g7 c8 b9 ca;have bm:=(cd.trans (bH.quiet l2.hb)).far g7 (by omega);have d5:=l2.hb.size;have b3:=(g7.block z (by omega) (fun e=>by have:=bFa e;omega)).trans (aG l2.hb ce);have bn:=(g7.block (z+1) (by omega) (fun e=>by have:=bFa e;omega)).trans (aG l2.hb c9);have d6:=g7.size;clear lp ly lu bj cd ce c9 X ch a1 av g7;obtain⟨O,cl⟩:∃O:En,({ E with st:=N,un:=W }:En)=O:=⟨_,rfl⟩
 have cu:O.st=N:=by rw[<-cl]
 have cv:O.t=E.t:=by rw[<-cl]
 rw[cl]at aw cg;have cy:Y.cell? ⟨y,10,none⟩=some (.int .i64 N):=by rw[<-cu];exact aA aw 10
 replace ⟨bl,bm,b3,bn,aw,cg,cu,cv⟩:=q_8 bl bm b3 bn aw cg cu cv;clear cl;refine tM 13 rfl ?_;refine tD ?_;clear dr ct c2;by_cases bq:N=4
 ·have a6:uR T S r I t L=uM T S t:=by rw[ai.out,bBa bq]
  have t4:(N == 4)=true:=by rw[bq];rfl
  clear bq ai az;replace a6:=q_ a6;go_upto_region 9 with fail
  clear cy;refine rX (aV Y.heap.size (fun k=>k=f\/k=g)) ?_;intro w8 V;have J:=bl.on V;have db:=aG V b3;have am:=aG V bn;have a7:=aG V aw;have dt:=V.size;have an:=bm.trans (bH.quiet V);have lp:=fun l:bU (aV Y.heap.size (fun k=>k=f\/k=g)) w8=>aA ((l.hk.block p (by omega) (by rintro(e|e);exact J.nf e;exact J.ng e)).trans J.blk)
  have lr:Hid (∀l:bU (aV Y.heap.size (fun k=>k=f\/k=g)) w8,l.w.rangeAt z 0 (tuL t)):=q_ (fun l=>aM (cs:=eB t) ((l.hk.block z (by omega) (by rintro(e|e);exact dl e;exact dm e)).trans db));clear bl b3 bn aw bm V db;replace ⟨J,am,a7,an⟩:=q_4 J am a7 an;refine xS (aV Y.heap.size (fun k=>k=f\/k=g)) 0 4 2 ?_;simp only[dA,dC,dD];iterate 4 refine qX ?_
  refine aN ?_;refine xS (aV Y.heap.size (fun k=>k=f\/k=g)) 4 1 1 ?_;simp only[dB,dA,dC,dD];refine dU rfl 46 (.tmp 4) rfl z 0 rfl (tuL t) _ lr cRa rfl bW ?_;refine aN ?_;clear lp lr;refine fS 5 rfl fun K A=>?_;go_simp;go_at_call 44;refine(au w8 J).mono ?_;rintro e w9 ⟨rfl,b4,j⟩;refine A _ _ ⟨j.os,j.tape,j.output,j.size,fun k hk hn=>j.block k (by omega) hn⟩ ?_;clear A K;have ao:=J.turn b4 j;have ap:=an.trans j;have a8:=j.blk am (by omega) bw bx;have du:=q_ (j.blk a7 (by omega) b9 ca);have dv:=j.size;clear J an am a7 b4 j au;replace ⟨ao,ap,a8⟩:=q_3 ao ap a8;refine fD ?_;go_upto_region 10 with fail
  have dw:Hid (w9.rangeAt y 0 (enL O)):=q_ (aM (cs:=cZ O) du);apply aWa;refine wpList_load_mid rfl 64 (.tmp 8) rfl y 0 rfl (enL O) _ dw eXa rfl tN ?_;refine gG (.agg (fZ O 1)) rfl (aL7 O 1 _ (.tmp 52) (.const (.int .i64 1)) rfl rfl rfl w9) ?_;refine sW 66 (.tmp 6) (.tmp 53) (z+1) (fZ O 1) a8 (aAf _ _) hCa fun dk bs g9 ac=>?_;have ad:=ao.far g9 cp bw bx;have j:=q_ (ap.far g9 (by omega));clear ao ap a8 bs g9;replace ⟨ad,ac⟩:=q_2 ad ac;refine pS ?_;refine bCa ?_;go_simp;go_wp2_with fail
  exact aYa (v:=.tuple #[.agg (fZ O 1),.bool true]) (by simp[results,results15,asAddr,ac.out,Result.andThen]) rfl ⟨⟨_,rfl⟩,by rw[a6.out];exact ad,j⟩
 ·have a6:uR T S r I t L=pF T S O:=by rw[ai.out,bAa bq,cg.out]
  have t4:(N == 4)=false:=by rw[bDa];exact bq
  have dc:=q_ (az O (by rw[cv.out];exact bt));clear bq ai au az;replace a6:=q_ a6;go_upto_region 11 with fail
  clear cy;refine rX (aV Y.heap.size (fun k=>k=f\/k=g)) ?_;intro w8 V;have J:=bl.on V;have am:=aG V bn;have a7:=aG V aw;have dt:=V.size;have an:=bm.trans (bH.quiet V);have lp:=fun l:bU (aV Y.heap.size (fun k=>k=f\/k=g)) w8=>aA ((l.hk.block p (by omega) (by rintro(e|e);exact J.nf e;exact J.ng e)).trans J.blk)
  have lr:Hid (∀l:bU (aV Y.heap.size (fun k=>k=f\/k=g)) w8,l.w.rangeAt y 0 (enL O)):=q_ (fun l=>aM (cs:=cZ O) ((l.hk.block y (by omega) (by rintro(e|e);exact b9 e;exact ca e)).trans a7));clear bl b3 bn aw bm V a7;replace ⟨J,am,an⟩:=q_3 J am an;refine xS (aV Y.heap.size (fun k=>k=f\/k=g)) 0 4 2 ?_;simp only[dA,dC,dD];iterate 4 refine qX ?_
  refine aN ?_;refine xS (aV Y.heap.size (fun k=>k=f\/k=g)) 4 1 1 ?_;simp only[dB,dA,dC,dD];refine dU rfl 64 (.tmp 8) rfl y 0 rfl (enL O) _ lr eXa rfl tN ?_;refine aN ?_;clear lp lr;refine fS 5 rfl fun K A=>?_;go_simp;go_at_call 45;refine(dc w8 J).mono ?_;rintro e w9 ⟨rfl,b4,j⟩;refine A _ _ ⟨j.os,j.tape,j.output,j.size,fun k hk hn=>j.block k (by omega) hn⟩ ?_;clear A K;have ao:=J.turn b4 j;have ap:=an.trans j;have a8:=q_ (j.blk am (by omega) bw bx);have dv:=j.size;clear J an am b4 j dc;replace ⟨ao,ap⟩:=q_2 ao ap;refine fD ?_;go_upto_region 12 with fail
  apply aWa;refine pS ?_;refine sW 66 (.tmp 6) (.tmp 60) (z+1) (fZ enZ 0) a8 (aAf _ _) hCa fun dk bs g9 ac=>?_;have ad:=ao.far g9 cp bw bx;have j:=q_ (ap.far g9 (by omega));clear ao ap a8 bs g9;replace ⟨ad,ac⟩:=q_2 ad ac;refine pS ?_;refine bCa ?_;go_simp;go_wp2_with fail
  exact aYa (v:=.tuple #[.agg (fZ enZ 0),.bool false]) (by simp[results,results15,asAddr,ac.out,Result.andThen]) rfl ⟨⟨_,rfl⟩,by rw[a6.out];exact ad,j⟩
section
variable {P:Program} {ops:Array Oper} {R:World->World->Prop} {w0:World} {Q:Act->Prop} {a:Act} {op:Oper} {rest:List Oper}
theorem vX(v:Value)(j:Region.wanted op (yielded ops a.tmps)=true)(A:∀l:bU R w0,(execOp a.eval op).run P l.w=.ok (.value v) l.w)
 (h:kC P ops R w0 Q rest (a.put op.dst v)):kC P ops R w0 Q (op :: rest) a:=aS fun K E=>by
 rw[bBa j];refine⟨v,fun l=>?_,E _ h⟩;rw[A l];exact⟨rfl,rfl⟩
end
theorem aL6{op:Oper}(t:Tu)(E G I:Int)(j:Operand->Value)(x y u v:Operand)(J:op.op=.build 64 #[(0,x),(1,y),(2,u),(3,v)])(L:j x=.agg (eB t))(N:j y=.int .i64 E)(O:j u=.int .i64 G)(U:j v=.int .i64 I)(w:World):(execOp j op).run prog w=.ok (.value (.agg (cZ ⟨t,E,G,I⟩))) w:=by
 have h:(Instr.build 64 #[(0,j x),(1,j y),(2,j u),(3,j v)]).run prog w=.ok (.agg (cZ ⟨t,E,G,I⟩)) w:=by
  rw[L,N,O,U];obtain⟨W,X,Y,Z,dv,dh,dl,sp,dp⟩:=t
  kernel_rfl
 have V:∀A,A=#[(0,j x),(1,j y),(2,j u),(3,j v)]->Sem.run prog (do let v <- Instr.build 64 A;pure (Next.value v)) w=.ok (.value (.agg (cZ ⟨t,E,G,I⟩))) w:=by
  rintro _ rfl;simp only[fJa,fHa,h,dNa]
 unfold execOp;simp only[J];exact V _ (by simp)
def if1E (e:En) (y:Int) (b:Bool):Array Value:=if b=true then fZ e y else fZ enZ 0
theorem if1_any(e:En)(y:Int)(b:Bool)(w:World):Cl 47 #[.agg (fZ e y),.bool b] w fun e' w'=>e'=.returned (.tuple #[.agg (if1E e y b),.bool b])/\Below w.heap.size w w':=by
 obtain⟨A,I⟩:=eX (w.alloc (.cells (fZ e y) 66));have Y:Below w.heap.size w A:=I▸bC;have Z:=bN I;have aa:A.heap.size=w.heap.size+1:=by rw[<-I];simp
 obtain⟨X,L⟩:=eX (A.alloc (.cells #[.int .i64 0,.bool false,.int .u64 0,.int .u64 0,.bool false,.int .u64 0,.int .u64 0,.int .i64 0,.int .i64 0,.int .i64 0,.int .i64 0,.int .i64 0,.int .i64 0] 66));have U:Below A.heap.size A X:=L▸bC;have J:Hid (X.heap[A.heap.size]?=some (.cells (fZ enZ 0) 66 (0,0))):=q_ (L▸aJ _ _ _);have V:=aG U Z;have G:=q_ ((tw Y U));obtain⟨z,hz⟩:=eX w.heap.size;rw[hz]at aa V G;rw[aa]at J;have ad:=(Array.getElem?_eq_some_iff.1 J).1;have lr:Hid (X.rangeAt z 0 (fZ e y).toList):=q_ (aM V);rw[hz];clear Y U Z V;unfold if1E;rcases b with _|_
 .rw[bAa (by decide)];go_enter func47,ntmps47;go_upto_region 2 with fail
  clear I L;apply aWa;refine pS ?_;refine sW 66 (.tmp 4) (.tmp 8) (z+1) (fZ enZ 0) J (aAf _ _) hCa fun N O E j=>?_;have W:Hid (Below (z) w N):=q_ ((G).trans (below_grown E (by have:=(G).size;omega) (by omega)));clear O E;replace j:=q_ j;refine pS ?_;refine bCa ?_;go_simp;go_wp2_with fail
  exact aYa (v:=.tuple #[.agg (fZ enZ 0),.bool false]) (by simp[results,results47,asAddr,j.out,Result.andThen]) rfl ⟨rfl,W⟩
 .rw[bBa rfl];go_enter func47,ntmps47;go_upto_region 3 with fail
  clear I L;apply aWa;refine wpList_load_mid rfl 66 (.tmp 2) rfl z 0 rfl (fZ e y).toList _ lr hCa rfl rF ?_;refine sW 66 (.tmp 4) (.tmp 9) (z+1) (fZ e y) J (aAf _ _) hCa fun N O E j=>?_;have W:Hid (Below (z) w N):=q_ ((G).trans (below_grown E (by have:=(G).size;omega) (by omega)));clear O E;replace j:=q_ j;refine pS ?_;refine bCa ?_;go_simp;go_wp2_with fail
  exact aYa (v:=.tuple #[.agg (fZ e y),.bool true]) (by simp[results,results47,asAddr,j.out,Result.andThen]) rfl ⟨rfl,W⟩
def pinE (t:Tu) (host:Int) (r:Ru) (now fl:Int):En:=⟨t,host,wG t.pr fl,IntKind.i64.wrap (now+aA5 r (wG t.pr fl))⟩
def aAq (T:FT) (S:Nat) (r:Ru) (now:Int) (t:Tu) (host fl:Int):FT:=if wG t.pr fl=4 then T else pF T S (pinE t host r now fl)
theorem aQp{w:World}{p:Nat}{T:FT}{r:Ru}{aa:Int}(hP:PAt w p f g S T r aa)(hI:jJ T S os)(t:Tu)(ht:gY t)(X fl:Int) :
 Cl 16 #[.pointer (some ⟨p,0,none⟩),.agg (eB t),.int .i64 X,.int .i64 fl] w fun e w'=>aFe p f g S (aAq T S r aa t X fl) r aa w e w':=by
 have a3:Hid (aAq T S r aa t X fl=if wG t.pr fl=4 then T else pF T S (pinE t X r aa fl)):=q_ (rfl);have bc:pinE t X r aa fl=⟨t,X,wG t.pr fl,IntKind.i64.wrap (aa+aA5 r (wG t.pr fl))⟩:=rfl;have aw:Hid (∀w',PAt w' p f g S T r aa->Cl 45 #[.pointer (some ⟨f,0,none⟩),.agg (cZ (pinE t X r aa fl))] w' fun e' b3=>e'=.returned (.tuple #[.agg (cZ (outF T S (pinE t X r aa fl)).1),.bool (outF T S (pinE t X r aa fl)).2])/\dF b3 f g S (pF T S (pinE t X r aa fl))/\bH f g w' b3):=q_ (fun w' h=>aB8 h.tab hI _ ht);have bu:=q_ (fun w=>aS1 t.pr fl w);obtain⟨N,hN⟩:=eX (wG t.pr fl);rw[hN]at bu a3 bc;have bd:=q_ (fun w=>aMx r N w);obtain⟨D,hD⟩:=eX (aA5 r N);rw[hD]at bd bc;obtain⟨W,hW⟩:∃W,IntKind.i64.wrap (aa+D)=W:=⟨_,rfl⟩
 rw[hW]at bc;rw[bc]at a3 aw;obtain⟨O,hO⟩:=eX ((outF T S ⟨t,X,N,W⟩).1);obtain⟨B,hB⟩:=eX ((outF T S ⟨t,X,N,W⟩).2);rw[hO,hB]at aw;obtain⟨w1,bs⟩:=eX (w.alloc (.cells (eB t) 46));have bw:Below w.heap.size w w1:=bs▸bC;have b4:=bN bs;have b5:w1.heap.size=w.heap.size+1:=by rw[<-bs];simp
 obtain⟨Z,bz⟩:=eX (w1.alloc (.cells #[.int .i64 0,.bool false,.int .u64 0,.int .u64 0,.bool false,.int .u64 0,.int .u64 0,.int .i64 0,.int .i64 0,.int .i64 0,.int .i64 0,.int .i64 0,.int .i64 0] 66));have bo:Below w1.heap.size w1 Z:=bz▸bC;have ax:Hid (Z.heap[w1.heap.size]?=some (.cells (fZ enZ 0) 66 (0,0))):=q_ (bz▸aJ _ _ _);have a4:=q_ (aG bo b4);have a5:=q_ ((hP.on bw).on bo);have be:Hid (bH f g w Z):=q_ (bH.quiet ((tw bw bo)));have qn:=q_ (vW (aA a5.blk 0));obtain⟨z,hz⟩:=eX w.heap.size;rw[hz]at b5 a4;rw[b5]at ax;have b7:z+1≠p:=by have:=hP.plt;omega
 have bf:z+1≠f:=by have:=hP.tab.flt;omega
 have bg:z+1≠g:=by have:=hP.tab.glt;omega
 have cj:z≠f:=by have:=hP.tab.flt;omega
 have ck:z≠g:=by have:=hP.tab.glt;omega
 have cr:p<z:=by rw[<-hz];exact hP.plt
 have cu:f<z:=by rw[<-hz];exact hP.tab.flt
 have cv:g<z:=by rw[<-hz];exact hP.tab.glt
 have cw:=(Array.getElem?_eq_some_iff.1 ax).1;have ct:Z.cell? ⟨z,0,none⟩=some (.int .i64 t.pr):=aA a4 0;clear hP hI ht hN hD bw bo b4 bc hO hB;go_enter func16,ntmps16;go_wp2_with fail
 clear bs bz;refine qn.mono ?_;rintro e Z ⟨rfl,rfl⟩;go_wp2_with fail
 refine(bu Z).mono ?_;rintro e Z ⟨rfl,rfl⟩;clear qn bu ct;by_cases a9:N=4
 .have a6:aAq T S r aa t X fl=T:=by rw[a3.out,bBa a9]
  have t4:(N == 4)=true:=by rw[a9];rfl
  have ay:=a5;have az:=be;have hc:=ax;clear a9 a3 aw bd a5 be ax a4;replace a6:=q_ a6;go_upto_region 5 with fail
  apply aWa;refine pS ?_;refine sW 66 (.tmp 8) (.tmp 22) (z+1) (fZ enZ 0) hc (aAf _ _) hCa fun w9 Y j av=>?_;have al:=q_ (ay.far j b7 bf bg);have am:=q_ (az.far j (by omega));clear ay az hc Y j;replace av:=q_ av;refine pS ?_;refine bCa ?_;go_simp;go_wp2_with fail
  exact aYa (v:=.tuple #[.agg (fZ enZ 0),.bool false]) (by simp[results,results16,asAddr,av.out,Result.andThen]) rfl ⟨⟨_,rfl⟩,by rw[a6.out];exact al,am⟩
 have a6:Hid (aAq T S r aa t X fl=pF T S ⟨t,X,N,W⟩):=q_ (by rw[a3.out,bAa a9]);have t4:(N == 4)=false:=by rw[bDa];exact a9
 clear a9 a3;go_upto_region 6 with fail
 go_cut [11,12] (fun pv bv wx=>∃y,pv=.pointer (some ⟨y,0,none⟩)/\bv=.bool B/\wx.heap[y]?=some (.cells (cZ O) 64 (0,0))/\z+2<=y/\wx.heap[z+1]?=some (.cells (fZ enZ 0) 66 (0,0))/\PAt wx p f g S (pF T S ⟨t,X,N,W⟩) r aa/\bH f g w wx)
 case first =>
  clear a6;refine rX (aV Z.heap.size (fun k=>k=f\/k=g)) ?_;intro w3 a8;have ai:=q_ (a5.on a8);have b8:=aG a8 a4;have bp:=q_ (aG a8 ax);have cx:=a8.size;have bq:=q_ (be.trans (bH.quiet a8));have lp:=fun l:bU (aV Z.heap.size (fun k=>k=f\/k=g)) w3=>aA ((l.hk.block p (by omega) (by rintro(e|e);exact ai.nf e;exact ai.ng e)).trans ai.blk)
  have lu:Hid (∀l:bU (aV Z.heap.size (fun k=>k=f\/k=g)) w3,l.w.rangeAt p 1 (ruL r)):=q_ (fun l=>dZ ((l.hk.block p (by omega) (by rintro(e|e);exact ai.nf e;exact ai.ng e)).trans ai.blk) 1 4 _ rfl);have lr:Hid (∀l:bU (aV Z.heap.size (fun k=>k=f\/k=g)) w3,l.w.rangeAt z 0 (tuL t)):=q_ (fun l=>aM (cs:=eB t) ((l.hk.block z (by omega) (by rintro(e|e);exact cj e;exact ck e)).trans b8));clear a5 be a4 ax a8 b8;refine xS (aV Z.heap.size (fun k=>k=f\/k=g)) 0 16 10 ?_;simp only[dA,dC,dD];iterate 4 refine qX ?_
  refine dU rfl 46 (.tmp 5) rfl z 0 rfl (tuL t) _ lr cRa rfl bW ?_;iterate 9 refine qX ?_
  refine dU rfl 40 (.tmp 37) rfl p 1 rfl (ruL r) _ lu underlying40 rfl aE9 ?_;refine qX ?_;refine aN ?_;clear lp lr lu;refine rH 16 23 rfl rfl (by as_aux_lemma=>kernel_rfl) (fun K A=>?_) (fun K A=>?_)
  .go_simp;go_at_call 43;refine(bd w3).mono ?_;rintro e w4 ⟨rfl,E⟩;refine A _ _ (bT E (by omega)) ?_;clear A K;have co:=E.size;have L:=ai.on E;have U:=bq.trans (bH.quiet E);have V:=aG E bp;clear E ai bq bp;have ao:=q_ L;have a1:=q_ U;have a2:=q_ V;clear L U V;refine xS (aV Z.heap.size (fun k=>k=f\/k=g)) 17 2 7 ?_;simp only[dB,dA,dC,dD];refine qX ?_;refine vX (.agg (cZ ⟨t,X,N,W⟩)) rfl (fun l=>aL6 t X N W _ (.tmp 28) (.tmp 29) (.tmp 30) (.tmp 41) rfl rfl rfl rfl rfl l.w) ?_;refine aN ?_;refine rH 19 23 rfl rfl (by as_aux_lemma=>kernel_rfl) (fun K A=>?_) (fun K A=>?_)
   .go_simp;go_at_call 45;refine(aw w4 ao).mono ?_;rintro e w5 ⟨rfl,au,I⟩;refine A _ _ ⟨I.os,I.tape,I.output,I.size,fun k hk hn=>I.block k (by omega) hn⟩ ?_;clear A K;have ca:=I.size;have L:=ao.turn au I;have U:=a1.trans I;have V:=I.blk a2 (by omega) bf bg;clear au I ao a1 a2;have aj:=q_ L;have ap:=q_ U;have aq:=q_ V;clear L U V;refine xS (aV Z.heap.size (fun k=>k=f\/k=g)) 20 3 3 ?_;simp only[dB,dA,dC,dD];iterate 3 refine qX ?_
    refine aN ?_;refine fS 23 rfl fun K A=>?_;go_simp;obtain⟨w6,ac⟩:=eX (w5.alloc (.cells #[.int .i64 0,.bool false,.int .u64 0,.int .u64 0,.bool false,.int .u64 0,.int .u64 0,.int .i64 0,.int .i64 0,.int .i64 0,.int .i64 0,.int .i64 0] 64));have E:Below w5.heap.size w5 w6:=ac▸bC;have J:Hid (w6.heap[w5.heap.size]?=some (.cells (cZ enZ) 64 (0,0))):=q_ (ac▸aJ _ _ _);have cc:=E.size;rw[ac];refine A _ _ (bT E (by omega)) ?_;clear A K ac;have L:=aj.on E;have U:=ap.trans (bH.quiet E);have V:=aG E aq;have br:=(Array.getElem?_eq_some_iff.1 J).1;clear E aj ap aq;have ad:=q_ L;have ae:=q_ U;have af:=q_ V;clear L U V;refine fS 24 rfl fun K A=>?_;rw[bBa (by rfl)];refine nL 64 (.tmp 11) (.tmp 44) rfl (w5.heap.size) 0 rfl (cZ O) rfl J (by simp) tN (qV _) fun w9 Y j=>?_;rw[aQ _ _ (by rfl)]at Y;have al:=q_ (ad.far j (by omega) (by omega) (by omega));have am:=q_ (ae.far j (by omega));have bi:=q_ ((j.block (z+1) (by omega) (fun e=>by have:=bFa e;omega)).trans af);refine A _ _ ⟨j.os,j.tape,j.output,j.size,fun k hk _=>j.block k (by omega) (fun e=>by have:=bFa e;omega)⟩ ?_;clear A K j ad ae af J;replace Y:=q_ Y;refine xM 25 rfl ?_;refine fD ?_;go_wp2_with fail
    go_meet;exact⟨_,rfl,rfl,Y,by omega,bi,al,am⟩
   .go_simp;obtain⟨w5,ac⟩:=eX (w4.alloc (.cells #[.int .i64 0,.bool false,.int .u64 0,.int .u64 0,.bool false,.int .u64 0,.int .u64 0,.int .i64 0,.int .i64 0,.int .i64 0,.int .i64 0,.int .i64 0] 64));have E:Below w4.heap.size w4 w5:=ac▸bC;have J:Hid (w5.heap[w4.heap.size]?=some (.cells (cZ enZ) 64 (0,0))):=q_ (ac▸aJ _ _ _);have ca:=E.size;rw[ac];refine A _ _ (bT E (by omega)) ?_;clear A K ac;have L:=ao.on E;have U:=a1.trans (bH.quiet E);have V:=aG E a2;have br:=(Array.getElem?_eq_some_iff.1 J).1;clear E ao a1 a2;have aj:=q_ L;have ap:=q_ U;have aq:=q_ V;clear L U V;refine fS 19 rfl fun K A=>?_;go_simp;go_at_call 45;refine(aw w5 aj).mono ?_;rintro e w6 ⟨rfl,au,I⟩;refine A _ _ ⟨I.os,I.tape,I.output,I.size,fun k hk hn=>I.block k (by omega) hn⟩ ?_;clear A K;have cc:=I.size;have L:=aj.turn au I;have U:=ap.trans I;have V:=I.blk aq (by omega) bf bg;have ar:=I.blk J (by omega) (by omega) (by omega);clear J;have J:=q_ ar;clear ar;clear au I aj ap aq;have ad:=q_ L;have ae:=q_ U;have af:=q_ V;clear L U V;refine xS (aV Z.heap.size (fun k=>k=f\/k=g)) 20 3 2 ?_;simp only[dB,dA,dC,dD];iterate 3 refine qX ?_
    refine aN ?_;refine fS 24 rfl fun K A=>?_;rw[bBa (by rfl)];refine nL 64 (.tmp 11) (.tmp 44) rfl (w4.heap.size) 0 rfl (cZ O) rfl J (by simp) tN (qV _) fun w9 Y j=>?_;rw[aQ _ _ (by rfl)]at Y;have al:=q_ (ad.far j (by omega) (by omega) (by omega));have am:=q_ (ae.far j (by omega));have bi:=q_ ((j.block (z+1) (by omega) (fun e=>by have:=bFa e;omega)).trans af);refine A _ _ ⟨j.os,j.tape,j.output,j.size,fun k hk _=>j.block k (by omega) (fun e=>by have:=bFa e;omega)⟩ ?_;clear A K j ad ae af J;replace Y:=q_ Y;refine xM 25 rfl ?_;refine fD ?_;go_wp2_with fail
    go_meet;exact⟨_,rfl,rfl,Y,by omega,bi,al,am⟩
  .go_simp;obtain⟨w4,ac⟩:=eX (w3.alloc (.cells #[.int .i64 0,.bool false,.int .u64 0,.int .u64 0,.bool false,.int .u64 0,.int .u64 0,.int .i64 0,.int .i64 0,.int .i64 0,.int .i64 0,.int .i64 0] 64));have E:Below w3.heap.size w3 w4:=ac▸bC;have J:Hid (w4.heap[w3.heap.size]?=some (.cells (cZ enZ) 64 (0,0))):=q_ (ac▸aJ _ _ _);have co:=E.size;rw[ac];refine A _ _ (bT E (by omega)) ?_;clear A K ac;have L:=ai.on E;have U:=bq.trans (bH.quiet E);have V:=aG E bp;have br:=(Array.getElem?_eq_some_iff.1 J).1;clear E ai bq bp;have ao:=q_ L;have a1:=q_ U;have a2:=q_ V;clear L U V;refine fS 16 rfl fun K A=>?_;go_simp;go_at_call 43;refine(bd w4).mono ?_;rintro e w5 ⟨rfl,E⟩;refine A _ _ (bT E (by omega)) ?_;clear A K;have ca:=E.size;have L:=ao.on E;have U:=a1.trans (bH.quiet E);have V:=aG E a2;have ar:=aG E J;clear J;have J:=q_ ar;have br:=(Array.getElem?_eq_some_iff.1 J).1;clear ar;clear E ao a1 a2;have aj:=q_ L;have ap:=q_ U;have aq:=q_ V;clear L U V;refine xS (aV Z.heap.size (fun k=>k=f\/k=g)) 17 2 6 ?_;simp only[dB,dA,dC,dD];refine qX ?_;refine vX (.agg (cZ ⟨t,X,N,W⟩)) rfl (fun l=>aL6 t X N W _ (.tmp 28) (.tmp 29) (.tmp 30) (.tmp 41) rfl rfl rfl rfl rfl l.w) ?_;refine aN ?_;refine fS 19 rfl fun K A=>?_;go_simp;go_at_call 45;refine(aw w5 aj).mono ?_;rintro e w6 ⟨rfl,au,I⟩;refine A _ _ ⟨I.os,I.tape,I.output,I.size,fun k hk hn=>I.block k (by omega) hn⟩ ?_;clear A K;have cc:=I.size;have L:=aj.turn au I;have U:=ap.trans I;have V:=I.blk aq (by omega) bf bg;have ar:=I.blk J (by omega) (by omega) (by omega);clear J;have J:=q_ ar;clear ar;clear au I aj ap aq;have ad:=q_ L;have ae:=q_ U;have af:=q_ V;clear L U V;refine xS (aV Z.heap.size (fun k=>k=f\/k=g)) 20 3 2 ?_;simp only[dB,dA,dC,dD];iterate 3 refine qX ?_
   refine aN ?_;refine fS 24 rfl fun K A=>?_;rw[bBa (by rfl)];refine nL 64 (.tmp 11) (.tmp 44) rfl (w3.heap.size) 0 rfl (cZ O) rfl J (by simp) tN (qV _) fun w9 Y j=>?_;rw[aQ _ _ (by rfl)]at Y;have al:=q_ (ad.far j (by omega) (by omega) (by omega));have am:=q_ (ae.far j (by omega));have bi:=q_ ((j.block (z+1) (by omega) (fun e=>by have:=bFa e;omega)).trans af);refine A _ _ ⟨j.os,j.tape,j.output,j.size,fun k hk _=>j.block k (by omega) (fun e=>by have:=bFa e;omega)⟩ ?_;clear A K j ad ae af J;replace Y:=q_ Y;refine xM 25 rfl ?_;refine fD ?_;go_wp2_with fail
   go_meet;exact⟨_,rfl,rfl,Y,by omega,bi,al,am⟩
 case rest =>
 obtain⟨y,rfl,rfl,J,cz,hc,ay,az⟩:=hcut;have br:=(Array.getElem?_eq_some_iff.1 J).1;have bx:=q_ (if1_any O 4 B wc);have lr:Hid (wc.rangeAt y 0 (enL O)):=q_ (aM (cs:=cZ O) J);obtain⟨G,hG⟩:=eX (if1E O 4 B);rw[hG]at bx;have cp:∃e2 y2,G=fZ e2 y2:=by
  rw[<-hG];unfold if1E;split
  .exact⟨_,_,rfl⟩
  .exact⟨_,_,rfl⟩
 obtain⟨e2,y2,rfl⟩:=cp;clear a5 be ax a4 aw bd J hG;replace ⟨hc,ay,az⟩:=q_3 hc ay az;go_upto_region 7 with fail
 apply aWa;refine wpList_load_mid rfl 64 (.tmp 11) rfl y 0 rfl (enL O) _ lr eXa rfl tN ?_;refine gG (.agg (fZ O 4)) rfl (aL7 O 4 _ (.tmp 46) (.const (.int .i64 4)) rfl rfl rfl wc) ?_;refine pS ?_;refine bRa rfl fun K A=>?_;go_simp;refine(bx).mono ?_;rintro e w6 ⟨rfl,bk⟩;go_simp;refine A _ _ ?_;clear A K;iterate 2 refine pS ?_
 have af:=q_ (aG bk hc);have ad:=q_ (ay.on bk);have ae:=q_ (az.trans (bH.quiet bk));have cy:=bk.size;clear hc ay az bk lr bx;refine sW 66 (.tmp 8) (.tmp 50) (z+1) (fZ e2 y2) af (aAf _ _) hCa fun w9 Y j av=>?_;have al:=q_ (ad.far j b7 bf bg);have am:=q_ (ae.far j (by omega));clear ad ae af Y j;replace av:=q_ av;refine pS ?_;refine bCa ?_;go_simp;go_wp2_with fail
 exact aYa (v:=.tuple #[.agg (fZ e2 y2),.bool B]) (by simp[results,results16,asAddr,av.out,Result.andThen]) rfl ⟨⟨_,rfl⟩,by rw[a6.out];exact al,am⟩
theorem build_pn{E:Oper}(f:Nat)(r:Ru)(j:Operand->Value)(x y:Operand)(G:E.op=.build 80 #[(0,x),(1,y)])(I:j x=.pointer (some ⟨f,0,none⟩))(J:j y=.agg (xH r))(w:World):(execOp j E).run prog w=.ok (.value (.agg #[.pointer (some ⟨f,0,none⟩),.int .i64 r.a,.int .i64 r.b,.int .i64 r.c,.int .i64 r.d,.int .i64 0])) w:=by
 have h:(Instr.build 80 #[(0,j x),(1,j y)]).run prog w=.ok (.agg #[.pointer (some ⟨f,0,none⟩),.int .i64 r.a,.int .i64 r.b,.int .i64 r.c,.int .i64 r.d,.int .i64 0]) w:=by
  rw[I,J];obtain⟨a,b,c,d⟩:=r
  kernel_rfl
 have L:∀A,A=#[(0,j x),(1,j y)]->Sem.run prog (do let v <- Instr.build 80 A;pure (Next.value v)) w=.ok (.value (.agg #[.pointer (some ⟨f,0,none⟩),.int .i64 r.a,.int .i64 r.b,.int .i64 r.c,.int .i64 r.d,.int .i64 0])) w:=by
  rintro _ rfl;simp only[fJa,fHa,h,dNa]
 unfold execOp;simp only[G];exact L _ (by simp)
def PNewEnd (S:Nat) (T:FT) (r:Ru) (w:World) (e:Ending) (w':World):Prop:=(∃p f g,e=.returned (.tuple #[.pointer (some ⟨p,0,none⟩),.int .i64 0])/\PAt w' p f g S T r 0/\w.heap.size<=p/\w.heap.size<=f/\w.heap.size<=g)/\Below w.heap.size w w'
theorem aF6(m:Nat)(Y:1<=m)(Z:m<=4096)(seed:Nat)(r:Ru)(hr:GoodU r)(w:World):Cl 7 #[.int .i64 (m:Int),.int .u64 (seed:Int),.agg (xH r)] w fun e w'=>PNewEnd (nJ m) (rR seed m) r w e w':=by
 have qr:=q_ (fun w=>aF7 r hr w);have L:=q_ (fun w=>fnew_any m Y Z seed w);obtain⟨S,U⟩:=eX (nJ m);obtain⟨T,V⟩:=eX (rR seed m);rw[U,V]at L;rw[U,V];obtain⟨G,W⟩:=eX (w.alloc (.cells (xH r) 40));have N:Hid (Below w.heap.size w G):=q_ (W▸bC);have A:Hid (G.heap[w.heap.size]?=some (.cells (xH r) 40 (0,0))):=q_ (W▸aJ _ _ _);obtain⟨z,hz⟩:=eX w.heap.size;rw[hz]at N A;have ap:=(Array.getElem?_eq_some_iff.1 A).1;have E:Hid (G.rangeAt z 0 (ruL r)):=q_ (aM (cs:=xH r) A);clear U V hr Y Z;go_enter func7,ntmps7;go_upto_region 1 with fail
 clear W;apply aWa;refine wpList_load_mid rfl 40 (.tmp 5) rfl z 0 rfl (ruL r) _ E underlying40 rfl aE9 ?_;refine bRa rfl fun K hK=>?_;go_simp;refine((qr G)).mono ?_;rintro e w2 ⟨rfl,I⟩;go_simp;refine hK _ _ ?_;clear hK K;refine pS ?_;refine bCa ?_;go_simp;have ad:=q_ (aG I A);have ae:=q_ ((tw N I));have aq:=I.size;clear N A E I qr;go_wp2_with fail
 refine(L w2).mono ?_;rintro e j ⟨⟨f,g,rfl,al,hf,hg⟩,J⟩;have af:=aG J ad;have ag:=tw ae J;have ar:=J.size;have E:Hid (j.rangeAt z 0 (ruL r)):=q_ (aM (cs:=xH r) af);obtain⟨w4,X⟩:=eX (j.alloc (.cells #[.pointer (some ⟨f,0,none⟩),.int .i64 r.a,.int .i64 r.b,.int .i64 r.c,.int .i64 r.d,.int .i64 0] 80));have O:Below j.heap.size j w4:=X▸bC;have ah:=bN X;have ai:Hid (PAt w4 j.heap.size f g S T r 0):=q_ (⟨ah,al.on O⟩);have am:=q_ ((tw ag O));obtain⟨q,hq⟩:=eX j.heap.size;rw[hq]at ai;clear L al J ad ae af ag O ah;go_upto_region 6 with fail
 apply aWa;refine pS ?_;refine wpList_load_mid rfl 40 (.tmp 5) rfl z 0 rfl (ruL r) _ E underlying40 rfl aE9 ?_;refine gG (.agg #[.pointer (some ⟨f,0,none⟩),.int .i64 r.a,.int .i64 r.b,.int .i64 r.c,.int .i64 r.d,.int .i64 0]) rfl (build_pn f r _ (.tmp 22) (.tmp 23) rfl rfl rfl j) ?_;refine pS ?_;clear X;iterate 2 refine pS ?_
 refine bCa ?_;go_simp;go_wp2_with fail
 go_ret2;exact⟨⟨q,f,g,rfl,ai,by omega,by omega,by omega⟩,by rw[hz];exact am⟩
end Go.Proofs.YtpcifakangbpaaaGreat
