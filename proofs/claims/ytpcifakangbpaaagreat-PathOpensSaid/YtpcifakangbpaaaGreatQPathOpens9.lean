/- Parts of the proof of PathOpens: contracts of functions of the program. No condition but those that each theorem names. -/
import Derived.Test.YtpcifakangbpaaaGreatQPathOpens4
import Derived.Test.YtpcifakangbpaaaGreatQPathOpens7
import Derived.Deep.CutBlock
set_option linter.unusedVariables false
set_option linter.unusedSimpArgs false
set_option maxRecDepth 100000
set_option maxHeartbeats 16000000
namespace Go.Proofs.YtpcifakangbpaaaGreat
open Go.RowKit Go.ChangeShapes Go.WideShapes Go.ChangeAt Go.Deep Go.Proofs.Tryz
variable {R xs:List UInt8}{B E J N O S V b base' c f fuel g i j k m n s sd sz:Nat}{Q:Exit->Act->World->Prop}{d w' w0:World}{u v z:Value}{T e t:TypeId}{A:Option Addr}{h os:List Nat}{F:List UInt8->Option Nat}{p:List Nat×List Bool}{a:Act}{α:Type}{H l:List Int}{o:Oper}{G:Array Oper}{K:Act->World->Prop}{y:Array Value}{vs:List Value}{L:List Oper}{I:Bool}{U W Y aa:List (Int×List UInt8)}{P:Program}
theorem v6_any(j A:Int)(w:World) :
 Cl 152 #[.int .u64 j,.int .u64 A] w fun e w'=>e=.returned (.agg #[.bool true,.int .u64 j,.int .u64 A])/\Below w.heap.size w w':=by
 go_enter func152,ntmps152;go_wp2;exact aYa (v:=.agg #[.bool true,.int .u64 j,.int .u64 A]) (by simp[results,results152,go_sem]) rfl ⟨rfl,bC⟩
theorem aHn(n:Int)(j:0<=n)(A:n<2 ^ 63):IntKind.u64.wrap n=n:=fU n j (by omega)
theorem aSs(x:Int)(j:0<=x)(A:x<4294967296):bits .and .u64 x 255=x % 256:=bits_mask .u64 63 (by decide) aHn 8 (by decide) x j (by omega)
theorem aU5(x:Int)(j:0<=x)(A:x<4294967296):bits .and .u64 x 1048575=x % 1048576:=bits_mask .u64 63 (by decide) aHn 20 (by decide) x j (by omega)
theorem set11{w:World}{W Y Z a3 a4 a5 a6 a7 a8 a9 ah:Value}(h:w.heap[g]?=some (.cells #[W,Y,Z,a3,a4,a5,a6,a7,a8,a9,ah] t (0,0)))(j A E G I J L N O U V:Value) :
 ∃w',(((((((((((w.setCell ⟨g,0,none⟩ j).setCell ⟨g,1,none⟩ A).setCell ⟨g,2,none⟩ E).setCell ⟨g,3,none⟩ G).setCell ⟨g,4,none⟩ I).setCell ⟨g,5,none⟩ J).setCell ⟨g,6,none⟩ L).setCell ⟨g,7,none⟩ N).setCell ⟨g,8,none⟩ O).setCell ⟨g,9,none⟩ U).setCell ⟨g,10,none⟩ V)=w'/\w'.heap[g]?=some (.cells #[j,A,E,G,I,J,L,N,O,U,V] t (0,0))/\w.grownBy w' (some g):=by
 refine⟨_,rfl,?_,?_⟩
 ·simpa using(bP (bP (bP (bP (bP (bP (bP (bP (bP (bP (bP h 0 j) 1 A) 2 E) 3 G) 4 I) 5 J) 6 L) 7 N) 8 O) 9 U) 10 V)
 ·iterate 11 refine fG ?_ rfl _
  exact dR _ _
theorem aAn{w w':World}{base:Nat}{size:Nat}{xs:List Value}{row:Option Nat}(h:w.ownsRow base e size v n xs)(j:w.grownBy w' row)(A:v.ownBlock=none\/v.ownBlock≠row):w'.ownsRow base e size v n xs:=cDa h j A
theorem aRu{w w':World}(j:Below w.heap.size w w'):w.grownBy w' none:=⟨j.os,j.tape,j.output,j.size,fun k A _=>j.block k A⟩
theorem own_below{w w':World}{base:Nat}{size:Nat}{xs:List Value}(h:w.ownsRow base e size v n xs)(j:Below w.heap.size w w'):w'.ownsRow base e size v n xs :=
 aAn h (aRu j) (by cases v.ownBlock<;>simp)
theorem aKj{w:World}{base:Nat}{e':TypeId}{size A:Nat}{xs G:List Value}(h:w.ownsRow base e size v n xs)(I:w.ownsRow base' e' A u E G)(J:e≠e'):v.ownBlock=none\/v.ownBlock≠u.ownBlock:=by
 rcases h.2 with⟨rfl,_⟩|⟨g,cap,O,rfl,U,L,_⟩
 ·exact .inl rfl
 ·rcases I.2 with⟨rfl,_⟩|⟨N,V,W,rfl,Y,j,_⟩
  ·exact .inr (by intro e;cases e)
  ·right;intro e;have:g=N:=by simpa[Value.ownBlock]using e
   subst this;rw[L]at j;simp at j;exact J j.2
theorem mH{w:World}{base:Nat}{size:Nat}{xs:List Value}(h:w.ownsRow base e size v n xs)(j:g<base):v.ownBlock=none\/v.ownBlock≠some g:=by
 rcases hob:v.ownBlock with _|k
 ·exact .inl rfl
 ·right;intro e;have A:=(cYa h k hob).1
  cases e
  omega
section
def Ext.pe (e:Ext):Int×List UInt8:=(e.k,e.xs)
def partP (acc:List (Int×List UInt8)):List UInt8:=match acc.find? fun p=>decide (p.1=44/\p.2.length=7)with|some p=>p.2|none=>[]
theorem aC7(es:List Ext):qR es=partP (es.map Ext.pe):=by
 unfold qR partP;rw[List.find?_map];have e:((fun p:Int×List UInt8=>decide (p.1=44/\p.2.length=7))∘Ext.pe)=Ext.mR:=by
  funext e
  exact decide_eq_decide.mpr Iff.rfl
 rw[e];rcases es.find? Ext.mR with _|e<;>rfl
def nZ (acc:List (Int×List UInt8)):Nat:=beN (partP acc) 1 2 / 8
def tH (next:Nat) (rs:List UInt8):Nat:=if next=44 then 8 else 8+8*(rs.getD 1 0).toNat
def mP:Nat->Nat->List UInt8->List (Int×List UInt8)->Option (List (Int×List UInt8)×Nat×List UInt8)
 | 0,_,_,_=>none
 | f+1,next,rs,acc =>
  if isB (next:Int)=false then some (acc,next,rs)
  else if acc.length=8\/rs.length<8 then none
  else if rs.length<tH next rs\/(next=0/\0<acc.length)then none
  else if 0<nZ (acc++[((next:Int),(rs.take (tH next rs)).drop 1)])then
   (if isB ((rs.getD 0 0).toNat:Int)=true then none else some (acc++[((next:Int),(rs.take (tH next rs)).drop 1)],(rs.getD 0 0).toNat,rs.drop (tH next rs)))
  else mP f (rs.getD 0 0).toNat (rs.drop (tH next rs)) (acc++[((next:Int),(rs.take (tH next rs)).drop 1)])
abbrev hd0_Six:Value:=eZ 0 0 0 false 0 0 false 0 0 none 0 0 0
def ChW (w1:World) (base g:Nat) (cls lab hop shi slo dhi dlo:Nat) (acc:List (Int×List UInt8)) (wr:World):Prop :=
 ∃(X:Option Addr) (xc:Nat) (es:List Ext),es.map Ext.pe=acc/\wr.ownsRow base 231 2 (.slice X es.length xc) es.length (cells es)/\(∀e∈es,aZ wr base (.slice e.A e.xs.length e.c) e.xs) /\
  wr.heap[g]?=some (.cells #[.int .i64 cls,.int .i64 lab,.int .i64 hop,.bool true,.int .u64 shi,.int .u64 slo,.bool true,.int .u64 dhi,.int .u64 dlo,.slice X es.length xc,.int .i64 0] 164 (0,0))/\Below g w1 wr
theorem info_ext:(prog.info? 231).map (fun i=>(i.zero,i.size,i.bytes))=some (some (.agg #[.int .i64 0,.slice none 0 0]),2,32):=by kernel_rfl
def wD (w:World) (base:Nat) (X:Option Addr) (xc:Nat) (es:List Ext):Prop :=
 w.ownsRow base 231 2 (.slice X es.length xc) es.length (cells es)/\∀e∈es,aZ w base (.slice e.A e.xs.length e.c) e.xs
theorem aG6{w:World}{base:Nat}{size:Nat}{xs:List Value}(h:w.ownsRow base e size v n xs)(j:base'<=base):w.ownsRow base' e size v n xs :=
 ⟨h.1,h.2.imp id fun⟨g,cap,A,E,G,I⟩=>⟨g,cap,A,E,bJa j G,I⟩⟩
section
variable {w w':World} {base:Nat} {X:Option Addr} {xc:Nat} {es:List Ext}
theorem wD.weaken(h:wD w base X xc es)(j:base'<=base):wD w base' X xc es:=⟨aG6 h.1 j,fun e A=>(h.2 e A).weaken j⟩
theorem wD.below(h:wD w base X xc es)(j:Below w.heap.size w w'):wD w' base X xc es:=⟨own_below h.1 j,fun e A=>(h.2 e A).below j⟩
theorem wD.kept(h:wD w base X xc es)(j:w.grownBy w' (some g))(A:g<base):wD w' base X xc es:=⟨aAn h.1 j (mH h.1 A),fun e E=>aZ.kept (h.2 e E) j (mH (h.2 e E) A)⟩
theorem wD.isX(h:wD w base X xc es):IsX w w.heap.size X es.length es/\es.length<=xc/\xc<=maxLen:=by
 obtain⟨_,_,e,A,E,G⟩:=bE h.1
 cases e
 refine⟨⟨rfl,G,fun e j=>?_⟩,A,E⟩;obtain⟨_,I,J,L⟩:=(h.2 e j).reads;exact⟨L,I,J⟩
end
def ChEnd (R:Option (List (Int×List UInt8)×Nat×List UInt8)) (cls lab hop shi slo dhi dlo:Nat) (w w':World) (e:Ending):Prop :=
 (R=none->e=.returned (.tuple #[hd0_Six,.slice none 0 0,.int .i64 11])) /\
 (∀acc next rest,R=some (acc,next,rest)->∃(X:Option Addr) (xc:Nat) (es:List Ext) (A2:Option Addr) (c2:Nat),e=.returned (.tuple #[eZ cls lab hop true shi slo true dhi dlo X es.length xc next,.slice A2 rest.length c2,.int .i64 0])/\es.map Ext.pe=acc/\wD w' w.heap.size X xc es/\aZ w' w.heap.size (.slice A2 rest.length c2) rest)/\Below w.heap.size w w'
def sliceLen:Value->Nat
 | .slice _ n _=>n
 | _=>0
def ChS (w4:World) (g:Nat) (cls lab hop shi slo dhi dlo:Nat) (R:Option (List (Int×List UInt8)×Nat×List UInt8)) (fin:Bool) (nx rs:Value) (wx:World):Prop :=
 ∃(next:Nat) (rest:List UInt8) (acc:List (Int×List UInt8)) (Ar:Option Addr) (nr cr:Nat),nx=.int .i64 (next:Int)/\rs=.slice Ar nr cr/\nr<=cr/\cr<=maxLen/\next<=255/\nr<=1099511627776/\IsB wx g Ar nr rest/\acc.length<=8 /\
  (if fin=true then(if isB (next:Int)=true then none else some (acc,next,rest))else mP (9 - acc.length) next rest acc)=R/\ChW w4 w4.heap.size g cls lab hop shi slo dhi dlo acc wx
theorem aJ4(A:Option Addr)(n c:Nat)(xs:List UInt8)(w:World)(hx:IsB w w.heap.size A n xs)(f0:n<=c)(hc:c<=maxLen)(hd:n<=1099511627776)(f1:40<=n)
 (W Y e7 ag ah ai aj:Nat) (q1:beN xs 0 4 / 1048576 % 256=W) (q2:beN xs 0 4 % 1048576=Y) (q3:(xs.getD 7 0).toNat=e7) (q4:beN xs 8 8=ag) (q5:beN xs 16 8=ah) (q6:beN xs 24 8=ai) (q7:beN xs 32 8=aj)
 (R:Option (List (Int×List UInt8)×Nat×List UInt8)) (hR:mP 9 (xs.getD 6 0).toNat (xs.drop 40) []=R) :
 Cl 122 #[.slice A n c] w fun e w'=>ChEnd R W Y e7 ag ah ai aj w w' e:=by
 obtain⟨b,b3,v7,rfl,gw,dy,hz,fm⟩:=hx.byte (i:=7) (by omega);obtain⟨v6,cy,gx,a6⟩:=hx.uZ (i:=6) (by omega);rw[dy]at q3;subst q3;rw[cy]at hR;obtain⟨wd,cg⟩:=eX (beN xs 0 4);rw[cg]at q1 q2;have hi:wd<4294967296:=by rw[<-cg];exact bX xs 0 4
 obtain⟨w1,b4⟩:=eX (w.alloc (bS 0 0 0 false 0 0 false 0 0 none 0 0 0));have cw:Below w.heap.size w w1:=b4▸bC;have dx:w1.heap[w.heap.size]?=some (.cells #[.int .i64 0,.int .i64 0,.int .i64 0,.bool false,.int .u64 0,.int .u64 0,.bool false,.int .u64 0,.int .u64 0,.slice none 0 0,.int .i64 0] 164 (0,0)):=b4▸aJ _ _ _;have cx:w.heap.size<w1.heap.size:=by rw[<-b4];simp
 have a0:IsB w1 w1.heap.size (some ⟨b,b3,none⟩) n xs:=hx.on cw;have f5:∀l:Later w1,l.w.cell? ⟨b,b3+7,none⟩=some (.int .u8 (v7:Nat)):=fun l=>l.cell (by rw[<-b4];exact(bC.cell gw).trans fm)
 have i7:(7:Int)<(n:Int):=by omega
 have e1:bits .and .u64 ((wd:Int) / 1048576) 255=(W:Int):=by rw[aSs _ (by omega) (by omega)];omega
 have e2:bits .and .u64 (wd:Int) 1048575=(Y:Int):=by rw[aU5 _ (by omega) (by omega)];omega
 have r1:IntKind.i64.wrap (W:Int)=(W:Int):=wO _;have r2:IntKind.i64.wrap (Y:Int)=(Y:Int):=wO _;have r3:IntKind.i64.wrap (v7:Int)=(v7:Int):=wO _;unfold bS at b4;clear fm a6;replace ⟨q1,q2,q4,q5,q6,q7,hR,cy,dy,cg,cw,dx⟩:=q_12 q1 q2 q4 q5 q6 q7 hR cy dy cg cw dx;replace ⟨a0,hx⟩:=q_2 a0 hx;go_enter func122,ntmps122;go_wp2_with fail
 refine(fB _ _ 0 4 rfl rfl _ _ _ xs _ a0 (by unfold maxLen;omega) (by omega) (by omega)).mono ?_;rintro e w' ⟨rfl,rfl⟩;rw[cg.out];clear b4;go_wp2_with fail
 refine rL ?_;refine eS 0 22 2 ?_;simp only[dA,dC,dD];iterate 12 refine qE ?_
 (refine aD (fun K E=>?_);go_simp;apply bSa;refine⟨fun l=>?_,E _ ?_⟩;(go_at_call 115;refine(fB _ _ 8 8 rfl rfl _ _ _ xs _ (IsB.later a0 l) (by unfold maxLen;omega) (by omega) (by omega)).mono ?_;rw[q4.out];rintro e w' ⟨rfl,rfl⟩;exact⟨rfl,mG _⟩);clear E K)
 refine qE ?_
 (refine aD (fun K E=>?_);go_simp;apply bSa;refine⟨fun l=>?_,E _ ?_⟩;(go_at_call 115;refine(fB _ _ 16 8 rfl rfl _ _ _ xs _ (IsB.later a0 l) (by unfold maxLen;omega) (by omega) (by omega)).mono ?_;rw[q5.out];rintro e w' ⟨rfl,rfl⟩;exact⟨rfl,mG _⟩);clear E K)
 (refine aD (fun K E=>?_);go_simp;apply bSa;refine⟨fun l=>?_,E _ ?_⟩;(go_at_call 152;refine(v6_any _ _ _).mono ?_;rintro e w' ⟨rfl,hb⟩;exact⟨rfl,hb⟩);clear E K)
 refine qE ?_
 (refine aD (fun K E=>?_);go_simp;apply bSa;refine⟨fun l=>?_,E _ ?_⟩;(go_at_call 115;refine(fB _ _ 24 8 rfl rfl _ _ _ xs _ (IsB.later a0 l) (by unfold maxLen;omega) (by omega) (by omega)).mono ?_;rw[q6.out];rintro e w' ⟨rfl,rfl⟩;exact⟨rfl,mG _⟩);clear E K)
 refine qE ?_
 (refine aD (fun K E=>?_);go_simp;apply bSa;refine⟨fun l=>?_,E _ ?_⟩;(go_at_call 115;refine(fB _ _ 32 8 rfl rfl _ _ _ xs _ (IsB.later a0 l) (by unfold maxLen;omega) (by omega) (by omega)).mono ?_;rw[q7.out];rintro e w' ⟨rfl,rfl⟩;exact⟨rfl,mG _⟩);clear E K)
 (refine aD (fun K E=>?_);go_simp;apply bSa;refine⟨fun l=>?_,E _ ?_⟩;(go_at_call 152;refine(v6_any _ _ _).mono ?_;rintro e w' ⟨rfl,hb⟩;exact⟨rfl,hb⟩);clear E K)
 refine qE ?_;refine aT ?_;clear f5;refine eT 22 rfl fun l K E=>?_;go_simp;have dz:=aJ l.w 164 #[.int .i64 0,.int .i64 0,.int .i64 0,.bool false,.int .u64 0,.int .u64 0,.bool false,.int .u64 0,.int .u64 0,.slice none 0 0,.int .i64 0];have bu:Below l.w.heap.size l.w (l.w.alloc (bS 0 0 0 false 0 0 false 0 0 none 0 0 0)):=bC;obtain⟨wa,dl⟩:=eX (l.w.alloc (bS 0 0 0 false 0 0 false 0 0 none 0 0 0));have cz:l.w.heap.size<wa.heap.size:=by rw[<-dl];simp
 unfold bS at dl bu;rw[dl]at dz bu ⊢;refine E _ _ bu ?_;clear E K dl;refine eE fun l2=>?_;have ch:=aC l2.hb cz dz;have O:=aA ch;have Z:=bD ch;refine tM 23 rfl ?_;refine tD ?_;have d0:Below w1.heap.size w1 l2.w:=(l.hb.trans (bu.mono l.hb.size)).trans (l2.hb.mono (bJa l.hb.size bu.size));obtain⟨g,hg⟩:=eX l.w.heap.size;have d1:w1.heap.size<=g:=by rw[<-hg];exact l.hb.size
 rw[hg]at ch cz ⊢;have gb:g<l2.w.heap.size:=bKa cz l2.hb.size;clear O Z;obtain⟨w3,e3,d5,ew⟩:=set11 ch (.int .i64 W) (.int .i64 Y) (.int .i64 v7) (.bool true) (.int .u64 ag) (.int .u64 ah) (.bool true) (.int .u64 ai) (.int .u64 aj) (.slice none 0 0) (.int .i64 0);rw[e3];clear e3;have bd:Below w1.heap.size w1 w3:=d0.trans (bV ew d0.size (by intro k hk;cases hk;exact d1));have d2:g<w3.heap.size:=bKa gb ew.size;clear dz bu ch ew d0 cz;have c0:=a0.on bd;have c1:=cw.trans (bd.mono (cAa cx));have d3:=aC bd cx dx;have d4:IsB w3 g (some ⟨b,b3,none⟩) n xs:=(a0.below bd).more d1;obtain⟨_,_,_,a6⟩:=c0.uZ (i:=6) (by omega);obtain⟨ex,fo,_,a6⟩:=c0.uZ (i:=6) (by omega);obtain rfl:v6=ex:=by rw[<-cy.out,<-fo]
 have gc:∀l:Later w3,l.w.cell? ⟨b,b3+6,none⟩=some (.int .u8 (v6:Nat)):=fun l=>l.cell a6
 have i6:(6:Int)<(n:Int):=by omega
 have hn:(40:Int)<=(n:Int):=by omega
 have gd:(n:Int)<=(c:Int):=by omega
 have r6:IntKind.i64.wrap (v6:Int)=(v6:Int):=wO _;obtain⟨A8,gz⟩:∃A8,(if c=40 then some (⟨b,b3,none⟩:Addr)else some ⟨b,b3+40,none⟩)=A8:=⟨_,rfl⟩
 have gf:Hid (IsB w3 g A8 (n - 40) (xs.drop 40)):=q_ (d4.aMd gz f1 f0);clear a6 fo;replace ⟨c0,c1,d3,d5,d4,bd,hg⟩:=q_7 c0 c1 d3 d5 d4 bd hg;clear e1 e2 r1 r2 r3;go_wp2_with fail
 refine rL ?_;refine eS 0 8 0 ?_;simp only[dA,dC,dD];iterate 8 refine qE ?_
 refine aT ?_;refine eD fun I bo=>?_;have c3:g<I.heap.size:=bKa d2 bo.size;have d6:ChS I g W Y v7 ag ah ai aj R false (.int .i64 (v6:Int)) (.slice A8 (n - 40) (c - 40)) I:=by
  refine⟨v6,xs.drop 40,[],A8,n - 40,c - 40,rfl,rfl,by omega,by omega,gx,by omega,gf.below (bo.mono (cAa d2)),by simp,hR,none,0,[],rfl,cKa I _ _ 2,(fun e G=>by cases G),aC bo d2 d5,bLa _ _⟩
 have fa:=q_ (c1.trans (bo.mono c1.size));have fb:=q_ (aC bo (bKa cx bd.size) d3);have be:w.heap.size<g:=bKa cx d1;clear bo gc r6;replace d6:=q_ d6;go_upto_block 0 with fail
 go_cut [7,8,9] (fun nx rs sz wx=>ChS I g W Y v7 ag ah ai aj R true nx rs wx)
 case first =>
  go_wp2_with fail
  go_loopw [7,8] (fun nx rs wr=>ChS I g W Y v7 ag ah ai aj R false nx rs wr) (fun _ rs _=>sliceLen rs)
  case atStart=>exact d6
  case round =>
   obtain⟨next,rest,aw,Ar,J,cr,rfl,rfl,ey,fq,fr,fs,al,ez,j,X,xc,es,a1,ar,a9,aa,ae⟩:=hrel;obtain⟨m,hm⟩:=eX es.length;have a8:aw.length=m:=by rw[<-a1,bNa,hm]
   rw[hm]at ar aa;rw[a8]at ez;have aq:=aC ae be fb;have bv:=fa.trans (ae.mono (cAa be));simp only[eAa,hYa]at j;obtain⟨f,hf⟩:∃f,9 - aw.length=f+1:=⟨8 - m,by omega⟩
   rw[hf]at j;unfold mP at j;replace ⟨al,a1,ar,a9,aa,ae,aq,bv,hf,hm,a8⟩:=q_11 al a1 ar a9 aa ae aq bv hf hm a8;rcases V:isB (next:Int)with _|_
   ·rw[bBa V]at j;replace ⟨j,V⟩:=q_2 j V;go_wp2_with fail
    refine(aB0 (next:Int) _).mono ?_;rw[V.out];rintro e w' ⟨rfl,rfl⟩;go_wp2_with fail
    go_meet;refine⟨next,rest,aw,Ar,J,cr,rfl,rfl,ey,fq,fr,fs,al,by rw[a8.out];exact ez,?_,X,xc,es,a1,by rw[hm.out];exact ar,a9,by rw[hm.out];exact aa,ae⟩;rw[bBa rfl,V.out];simpa using j.out
   ·rw[bAa (by rw[V];simp)]at j;replace V:=q_ V;have ci:=aA aa;go_wp2_with fail
    refine(aB0 (next:Int) _).mono ?_;rw[V.out];rintro e w' ⟨rfl,rfl⟩;have au:rest.length=J:=al.out.1;rw[a8.out,au]at j;by_cases h8:m=8
    ·rw[bBa (.inl h8)]at j;have t1:((m:Int) == 8)=true:=by rw[fKa];omega
     replace h8:=q_ h8;clear ci;have ci:=aA aa;replace j:=q_ j;have O:=aA aq;have Z:=bD aq;go_wp2_with fail
     refine aYa (v:=.tuple #[hd0_Six,.slice none 0 0,.int .i64 11]) (by simp[results,results122,go_sem,O]) rfl ⟨fun _=>rfl,?_,?_⟩
     ·intro a b c L;rw[<-j.out]at L
      cases L
     ·iterate 11 refine fF ?_ (by rfl) _
      exact bv
    have t1:((m:Int) == 8)=false:=by rw[bDa];omega
    by_cases h9:J<8
    ·rw[bBa (.inr h9)]at j;have t2:(J:Int)<8:=by omega
     clear ci;have ci:=aA aa;replace j:=q_ j;have O:=aA aq;have Z:=bD aq;go_wp2_with fail
     refine aYa (v:=.tuple #[hd0_Six,.slice none 0 0,.int .i64 11]) (by simp[results,results122,go_sem,O]) rfl ⟨fun _=>rfl,?_,?_⟩
     ·intro a b c L;rw[<-j.out]at L
      cases L
     ·iterate 11 refine fF ?_ (by rfl) _
      exact bv
    rw[bAa (by omega)]at j;have t2:¬ (J:Int)<8:=by omega
    obtain⟨s,hs⟩:=eX (tH next rest);rw[hs]at j;obtain⟨br,b6,v0,rfl,g0,d9,g1,e0⟩:=al.byte (i:=0) (by omega);obtain⟨v1,c5,ia,g2⟩:=al.uZ (i:=1) (by omega);rw[cNa]at e0;rw[d9]at j;have i1:(1:Int)<(J:Int):=by omega
    have i0:(0:Int)<(J:Int):=by omega
    have gi:s<=2048/\8<=s:=by rw[<-hs];unfold tH;rw[c5];split<;>omega
    obtain⟨ib,ic⟩:=gi;have d8:next=44->(8:Int)=(s:Int):=fun h=>by rw[<-hs];unfold tH;rw[bBa h];rfl
    have gj:Hid (next≠44->8+8*(v1:Int)=(s:Int)):=q_ (fun h=>by rw[<-hs];unfold tH;rw[bAa h,c5];omega);replace ⟨hs,d9,c5,d8,j,au⟩:=q_6 hs d9 c5 d8 j au;go_upto_if 53 with fail
    go_cut [9] (fun s9 wx=>s9=.int .i64 (s:Int)/\wr=wx)
    case first =>
     by_cases bx:next=44
     ·have e:=d8 bx;have t3:((next:Int) != 44)=false:=by simp;omega
      replace ⟨bx,e⟩:=q_2 bx e;go_wp2_with fail
      go_meet;exact⟨by rw[e.out],rfl⟩
     ·have e:=gj bx;have t3:((next:Int) != 44)=true:=by simp;omega
      replace ⟨bx,e⟩:=q_2 bx e;go_wp2_with fail
      go_meet;exact⟨by rw[e.out],rfl⟩
    case rest =>
    obtain⟨rfl,rfl⟩:=hcut;have j:=j.out;by_cases ha:J<s
    ·rw[bBa (.inl ha)]at j;have t3:(J:Int)<(s:Int):=by omega
     skip
     replace j:=q_ j;have O:=aA aq;have Z:=bD aq;go_wp2_with fail
     refine aYa (v:=.tuple #[hd0_Six,.slice none 0 0,.int .i64 11]) (by simp[results,results122,go_sem,O]) rfl ⟨fun _=>rfl,?_,?_⟩
     ·intro a b c L;rw[<-j.out]at L
      cases L
     ·iterate 11 refine fF ?_ (by rfl) _
      exact bv
    have t3:¬ (J:Int)<(s:Int):=by omega
    by_cases e6:next=0/\0<m
    ·rw[bBa (.inr e6)]at j;have t4:((next:Int) == 0)=true:=by rw[fKa];omega
     have t5:(0:Int)<(m:Int):=by omega
     clear e6
     skip
     replace j:=q_ j;have O:=aA aq;have Z:=bD aq;go_wp2_with fail
     refine aYa (v:=.tuple #[hd0_Six,.slice none 0 0,.int .i64 11]) (by simp[results,results122,go_sem,O]) rfl ⟨fun _=>rfl,?_,?_⟩
     ·intro a b c L;rw[<-j.out]at L
      cases L
     ·iterate 11 refine fF ?_ (by rfl) _
      exact bv
    rw[bAa (by omega)]at j;have gl:Hid (next=0->m=0):=q_ (fun h=>by omega);replace j:=q_ j;clear e6;go_upto_region 10 with fail
    go_cut [74] (fun f4 wx=>f4=.bool false/\wr=wx)
    case first =>
     by_cases cj:next=0
     ·have t4:((next:Int) == 0)=true:=by rw[fKa];omega
      have eb:=gl cj;have t5:¬ (0:Int)<(m:Int):=by omega
      replace ⟨cj,eb⟩:=q_2 cj eb;go_wp2_with fail
      go_meet;exact⟨by simp[eb.out],rfl⟩
     ·have t4:((next:Int) == 0)=false:=by rw[bDa];omega
      replace cj:=q_ cj;go_wp2_with fail
      go_meet;exact⟨rfl,rfl⟩
    case rest =>
    obtain⟨rfl,rfl⟩:=hcut;have am:g<wr.heap.size:=bKa c3 ae.size;have c7:IsB wr g (some ⟨br,b6+1,none⟩) (s - 1) ((rest.take s).drop 1):=by
     have h1:=al.cut (k:=1) (m:=s) (cap:=cr) (by omega) (by omega) (by omega);rw[bAa (by omega)]at h1;exact h1
    have bz:((rest.take s).drop 1).length=s - 1:=by rw[cCa,bGa,au.out];omega
    obtain⟨ds,ed⟩:=eX ((rest.take s).drop 1);have c8:=j.out;rw[ed]at c8 c7 bz;have hq:¬ cr=1:=by omega
    have hr:(1:Int)<=(s:Int):=by omega
    have ht:(s:Int)<=(J:Int):=by omega
    have gd:(J:Int)<=(cr:Int):=by omega
    have hv:s<=cr:=by omega
    have ec:∀(l:Later wr) (o:Nat),l.w.cell? ⟨g,o,none⟩=_:=fun l o=>aA (aC l.hb am aa) o
    clear j ci;replace ⟨c8,c7,bz,ed⟩:=q_4 c8 c7 bz ed;go_wp2_with fail
    refine rL ?_;refine eS 0 6 6 ?_;simp only[dA,dC,dD];iterate 6 refine qE ?_
    refine aT ?_;clear ec;refine eT 6 rfl fun l K E=>?_;go_simp;go_at_call 118;refine(nM _ _ _ ds _ ((c7.below (l.hb.mono (cAa am))).more (bJa (cAa am) l.hb.size)) (by omega)).mono ?_;rintro e w6 ⟨ex,rfl,ab,bj⟩;refine E _ _ bj ?_;clear E K;have da:Below wr.heap.size wr w6:=l.hb.trans (bj.mono l.hb.size);have ab:=ab.weaken (base':=I.heap.size) (bJa ae.size l.hb.size);obtain⟨A6,c6,rfl,a6,g3,_⟩:=ab.form;rw[bz.out]at ab a6 ⊢;have fd:=da.size;clear bj;replace ⟨ab,da⟩:=q_2 ab da;refine eS 7 1 4 ?_;simp only[dB,dA,dC,dD];refine qE ?_;refine aT ?_;refine eT 8 rfl fun N K E=>?_;go_simp;obtain⟨w7,cp⟩:∃w7,N.w.alloc (.cells #[.int .i64 (next:Int),.slice A6 (s - 1) c6] 231)=w7:=⟨_,rfl⟩
    have db:Below N.w.heap.size N.w w7:=cp▸bC;have gm:w7.heap.size=N.w.heap.size+1:=by rw[<-cp];simp
    have fe:IsV w7 (N.w.heap.size+1) 2 (some ⟨N.w.heap.size,0,none⟩) 1 (cells [⟨(next:Int),A6,c6,ds⟩]):=by
     have h1:=IsV.lit (size:=2) N.w 231 [.int .i64 (next:Int),.slice A6 (s - 1) c6] 1 1 rfl;rw[cp]at h1;simpa[cells,Ext.cs,bz.out]using h1
    have dc:Below wr.heap.size wr w7:=(da.trans (N.hb.mono fd)).trans (db.mono (bJa fd N.hb.size));have bg:=(ab.below N.hb).below db;rw[cp];refine E _ _ db ?_;clear E K cp;replace ⟨bg,dc⟩:=q_2 bg dc;refine eE fun l8=>?_;have b0:Below wr.heap.size wr l8.w:=dc.trans (l8.hb.mono dc.size);have av:=own_below ar b0;have bh:∀e∈es,aZ l8.w I.heap.size (.slice e.A e.xs.length e.c) e.xs:=fun e G=>(a9 e G).below b0
    have bi:=bg.below l8.hb;have ff:=fe.below (l8.hb.mono (by omega));have ba:=aC b0 am aa;have ee:=b0.size;obtain⟨i9,fu,fv,fw,fx⟩:=gZa info_ext;refine tS 9 rfl fun K E=>?_;rw[bBa (by rfl)];refine pM l8.w (.tmp 77) (.tmp 84) 162 rfl I.heap.size 231 i9 _ 2 32 underlying162 fu fv fw fx rfl (by omega) (.slice X m xc) m (cells es) rfl av (N.w.heap.size+1) (some ⟨N.w.heap.size,0,none⟩) 1 1 (cells [⟨(next:Int),A6,c6,ds⟩]) rfl ff ?_ (by unfold maxLen;omega) (by omega) (bJa ae.size ee) ?_
    ·intro u hu;simp only[cells,Ext.cs,jFa,List.flatMap_nil,ePa,bXa,bVa,dTa]at hu;rcases hu with rfl|rfl<;>rfl
    intro v9 w9 b2 cu _;refine E _ _ ?_;clear E K;have a2:g<I.heap.size:=c3;have ck:∀e∈es,aZ w9 I.heap.size (.slice e.A e.xs.length e.c) e.xs:=fun e G=>aZ.kept (bh e G) cu (aKj (bh e G) av (by decide))
    have ef:=q_ (aZ.kept bi cu (aKj bi av (by decide)));have b1:=(cu.block g (bKa am ee) (fun h=>(mH av a2).elim (fun e=>by rw[e]at h;cases h) (fun e=>e h.symm))).trans ba;have fh:Hid (Below g wr w9):=q_ ((b0.mono (cAa am)).trans (bV cu (cAa (bKa am ee)) (fun k hk=>bJa (cAa a2) (cYa av k hk).1)));obtain⟨X9,c9,rfl,id,ie,_⟩:=bE b2;clear bh bi ba av cu ff fe db gm b0 fu fv fw fx i9;have gn:=aA b1;have gp:=bD b1;replace ⟨ck,b1,b2⟩:=q_3 ck b1 b2;refine tM 10 rfl ?_;refine tM 11 rfl ?_;refine tD ?_;have a3:(w9.setCell ⟨g,9,none⟩ (.slice X9 (m+1) c9)).heap[g]?=some (.cells #[.int .i64 W,.int .i64 Y,.int .i64 v7,.bool true,.int .u64 ag,.int .u64 ah,.bool true,.int .u64 ai,.int .u64 aj,.slice X9 (m+1) c9,.int .i64 0] 164 (0,0)):=by
     simpa using bP b1 9 (.slice X9 (m+1) c9)
    have an:w9.grownBy (w9.setCell ⟨g,9,none⟩ (.slice X9 (m+1) c9)) (some g):=fG (dR _ _) rfl _;have ac:Below g wr (w9.setCell ⟨g,9,none⟩ (.slice X9 (m+1) c9)):=fh.setCell (aZa _) _;obtain⟨U,cq⟩:∃U,w9.setCell ⟨g,9,none⟩ (.slice X9 (m+1) c9)=U:=⟨_,rfl⟩
    rw[cq]at a3 an ac ⊢;have dd:=aAn b2 an (mH b2 a2);have de:∀e∈es,aZ U I.heap.size (.slice e.A e.xs.length e.c) e.xs:=fun e G=>aZ.kept (ck e G) an (mH (ck e G) a2)
    have eg:=aZ.kept ef an (mH ef a2);clear gn gp cq an;obtain⟨ak,ct⟩:∃ak,es++[(⟨(next:Int),A6,c6,ds⟩:Ext)]=ak:=⟨_,rfl⟩
    have cl:ak.length=m+1:=by rw[<-ct,bHa,hm.out];rfl
    have hrowT':U.ownsRow I.heap.size 231 2 (.slice X9 (m+1) c9) (m+1) (cells ak):=by
     rw[<-ct];simpa[cells]using dd
    have hdataT':∀e∈ak,aZ U I.heap.size (.slice e.A e.xs.length e.c) e.xs:=by
     intro e G;rw[<-ct,gNa]at G;rcases G with G|G
     ·exact de e G
     ·simp only[bXa,bVa,dTa]at G;subst G;rw[<-bz.out]at eg;exact eg
    have df:ak.map Ext.pe=aw++[((next:Int),ds)]:=by
     rw[<-ct,cWa,a1.out]
     rfl
    clear dd de eg ct b2 ck ef b1 fh;have a4:g<U.heap.size:=bKa am ac.size;have fi:U.cell? ⟨br,b6,none⟩=some (.int .u8 (v0:Int)):=(ac.cell (p:=⟨br,b6,none⟩) g0).trans e0;have gq:∀l:Later U,l.w.cell? ⟨br,b6,none⟩=some (.int .u8 (v0:Int)):=fun l=>l.cell fi
    have r0:IntKind.i64.wrap (v0:Int)=(v0:Int):=wO _;obtain⟨ca,g4⟩:∃ca,(if cr=s then some (⟨br,b6,none⟩:Addr)else some ⟨br,b6+s,none⟩)=ca:=⟨_,rfl⟩
    have hw:(0:Int)<=(s:Int):=by omega
    have j0:0<J:=by omega
    clear fi e0 g2;replace ⟨a3,ac,hrowT',hdataT',df,cl⟩:=q_6 a3 ac hrowT' hdataT' df cl;go_wp2_with fail
    refine rL ?_;refine eS 0 9 0 ?_;simp only[dA,dC,dD];iterate 9 refine qE ?_
    refine aT ?_;refine eD fun wU bs=>?_;have eh:IsB wU g ca (J - s) (rest.drop s):=((al.aMd g4 (by omega) ey).below ac).below (bs.mono (cAa a4));have dg:Below g wr wU:=ac.trans (bs.mono (cAa a4));have dh:=own_below hrowT' bs;have di:∀e∈ak,aZ wU I.heap.size (.slice e.A e.xs.length e.c) e.xs:=fun e G=>(hdataT' e G).below bs
    have dj:=aC bs a4 a3;have ei:IsX wU wU.heap.size X9 (m+1) ak:=by
     refine⟨cl,?_,fun e G=>?_⟩
     ·obtain⟨_,_,e,_,_,h⟩:=bE dh
      cases e
      exact h
     ·obtain⟨_,h1,h2,h3⟩:=(di e G).reads;exact⟨h3,h1,h2⟩
    have gs:=aA dj;obtain⟨fg,Z⟩:∃fg,nZ (aw++[((next:Int),ds)])=fg:=⟨_,rfl⟩
    have ej:beN (qR ak) 1 2 / 8=fg:=by rw[aC7,df.out];exact Z
    have gt:m+1<=maxLen:=by unfold maxLen;omega
    have a5:=c8.out;rw[Z]at a5;clear bs gq r0;replace ⟨eh,dg,dh,di,dj,ei,Z,ej⟩:=q_8 eh dg dh di dj ei Z ej;go_wp2_with fail
    refine(xL W Y v7 true ag ah true ai aj X9 (m+1) c9 0 ak _ ei gt).mono ?_;rw[ej.out];rintro e wV ⟨rfl,b7⟩;have ek:g<wU.heap.size:=bKa am dg.size;have bt:∀dv:Bool,(if dv=true then(if isB (v0:Int)=true then none else some (aw++[((next:Int),ds)],v0,rest.drop s))else mP (9 - (aw++[((next:Int),ds)]).length) v0 (rest.drop s) (aw++[((next:Int),ds)]))=R ->
     ChS I g W Y v7 ag ah ai aj R dv (.int .i64 (v0:Int)) (.slice ca (J - s) (cr - s)) wV:=fun dv bt =>
     ⟨v0,rest.drop s,aw++[((next:Int),ds)],ca,J - s,cr - s,rfl,rfl,by omega,by omega,g1,by omega,eh.below (b7.mono (cAa ek)),by rw[bHa,a8.out];simp;omega,bt,X9,c9,ak,df,by rw[cl.out];exact own_below dh b7,fun e G=>(di e G).below b7,by rw[cl.out];exact aC b7 ek dj,ae.trans (dg.trans (b7.mono (cAa ek)))⟩
    clear gs b7;replace bt:=q_ bt;by_cases fz:0<fg
    ·rw[bBa fz]at a5;have t6:(0:Int)<(fg:Int):=by omega
     replace a5:=q_ a5;go_wp2_with fail
     go_meet;exact bt true (by rw[bBa rfl];exact a5)
    ·rw[bAa fz]at a5;have t6:¬ (0:Int)<(fg:Int):=by omega
     replace a5:=q_ a5;go_wp2_with fail
     refine⟨bt false ?_,?_⟩
     ·rw[bAa (by simp),bHa,a8.out];have h9:=hf.out;rw[a8.out]at h9;rw[show 9 - (m+[((next:Int),ds)].length)=f by simp;omega];exact a5
     ·show J - s<J
      omega
 case rest =>
 obtain⟨next,rest,aw,Ar,J,cr,rfl,rfl,ey,fq,fr,fs,al,ez,j,X,xc,es,a1,ar,a9,aa,ae⟩:=hcut;obtain⟨wr,g7⟩:=eX wc;subst g7;obtain⟨m,hm⟩:=eX es.length;rw[hm]at ar aa;rw[bBa rfl]at j;have a2:g<I.heap.size:=c3;have am:g<wc.heap.size:=bKa c3 ae.size;have O:=aA aa;have Z:=bD aa;have a3:(wc.setCell ⟨g,10,none⟩ (.int .i64 (next:Int))).heap[g]?=some (.cells #[.int .i64 W,.int .i64 Y,.int .i64 v7,.bool true,.int .u64 ag,.int .u64 ah,.bool true,.int .u64 ai,.int .u64 aj,.slice X m xc,.int .i64 (next:Int)] 164 (0,0)):=by
  simpa using bP aa 10 (.int .i64 (next:Int))
 have an:wc.grownBy (wc.setCell ⟨g,10,none⟩ (.int .i64 (next:Int))) (some g):=fG (dR _ _) rfl _;have ac:Below g I (wc.setCell ⟨g,10,none⟩ (.int .i64 (next:Int))):=ae.setCell (aZa _) _;have em:Below g wc (wc.setCell ⟨g,10,none⟩ (.int .i64 (next:Int))):=fF (n:=g) (bLa g wc) (p:=⟨g,10,none⟩) rfl _;obtain⟨U,cq⟩:=eX (wc.setCell ⟨g,10,none⟩ (.int .i64 (next:Int)));rw[cq]at a3 an ac em;have dd:=q_ (aAn ar an (mH ar a2));have de:Hid (∀e∈es,aZ U I.heap.size (.slice e.A e.xs.length e.c) e.xs):=q_ (fun e G=>aZ.kept (a9 e G) an (mH (a9 e G) a2));have fj:=q_ (al.below em);have a4:g<U.heap.size:=bKa am an.size;have en:=q_ (aC ac be fb);have fk:=q_ (fa.trans (ac.mono (cAa be)));clear aa ar a9 al ae an em;replace ⟨a3,ac,a1,hm⟩:=q_4 a3 ac a1 hm;have fl:=q_ j;clear j;go_wp2_with fail
 refine(aB0 (next:Int) _).mono ?_;rintro e w' ⟨rfl,rfl⟩;clear O Z cq;have j:=fl.out;clear fl;rcases V:isB (next:Int)with _|_
 ·rw[V,bAa (by simp)]at j;have ec:∀(l:Later U) (o:Nat),l.w.cell? ⟨g,o,none⟩=_:=fun l o=>aA (aC l.hb a4 a3) o
  have au:rest.length=J:=fj.out.1;replace ⟨j,V⟩:=q_2 j V;go_wp2_with fail
  refine rL ?_;refine eS 0 2 4 ?_;simp only[dA,dC,dD];iterate 2 refine qE ?_
  refine aT ?_;clear ec;refine eT 2 rfl fun l K E=>?_;go_simp;go_at_call 118;refine(nM _ _ _ rest _ ((fj.below (l.hb.mono (cAa a4))).more (bJa (cAa a4) l.hb.size)) (by omega)).mono ?_;rintro e w6 ⟨ex,rfl,ab,bj⟩;refine E _ _ bj ?_;clear E K;have eo:Below U.heap.size U w6:=l.hb.trans (bj.mono l.hb.size);have ab:=ab.weaken (base':=I.heap.size) (bJa ac.size l.hb.size);obtain⟨A6,c6,rfl,a6,g3,_⟩:=ab.form;rw[au]at ab a6 ⊢;clear bj;refine eE fun N=>?_;have cm:Below U.heap.size U N.w:=eo.trans (N.hb.mono eo.size);have ep:=own_below dd cm;have eq:∀e∈es,aZ N.w I.heap.size (.slice e.A e.xs.length e.c) e.xs:=fun e G=>(de e G).below cm
  have bg:=ab.below N.hb;have cn:=aC cm (Nat.lt_trans be a4) en;have er:=fk.trans (cm.mono (cAa (Nat.lt_trans be a4)));have O:=aA cn;have Z:=bD cn;have dk:w.heap.size<I.heap.size:=Nat.lt_trans be a2;clear cm eo ab;obtain⟨w8,e8,eu,ba⟩:=set11 cn (.int .i64 W) (.int .i64 Y) (.int .i64 v7) (.bool true) (.int .u64 ag) (.int .u64 ah) (.bool true) (.int .u64 ai) (.int .u64 aj) (.slice X m xc) (.int .i64 (next:Int));have av:=aAn ep ba (mH ep dk);have bh:∀e∈es,aZ w8 I.heap.size (.slice e.A e.xs.length e.c) e.xs:=fun e G=>aZ.kept (eq e G) ba (mH (eq e G) dk)
  have bi:=aZ.kept bg ba (mH bg dk);have gv:=q_ (er.trans (bV ba er.size (by intro k hk;cases hk;exact aZa _)));clear ep eq bg er ba;replace ⟨av,bh,bi,cn,e8,au⟩:=q_6 av bh bi cn e8 au;refine tS 3 rfl fun K E=>?_;go_simp;rw[e8.out];refine E _ _ ?_;clear E K O Z;have O:=aA eu;replace eu:=q_ eu;refine tM 4 rfl ?_;refine tM 5 rfl ?_;refine tD ?_;go_wp2_with fail
  refine aYa (v:=.tuple #[eZ W Y v7 true ag ah true ai aj X m xc next,.slice A6 J c6,.int .i64 0]) (by simp[results,results122,go_sem,O]) rfl ⟨?_,?_,gv⟩
  ·intro L;rw[<-j.out]at L
   cases L
  ·intro ih ii ij L;rw[<-j.out]at L
   cases L
   have ev:w.heap.size<=I.heap.size:=cAa dk;refine⟨X,xc,es,A6,c6,by rw[hm.out,au.out],a1,⟨?_,fun e G=>(bh e G).weaken ev⟩,?_⟩
   ·rw[hm.out];exact aG6 av ev
   ·rw[au.out];exact bi.weaken ev
 ·rw[V,bBa rfl]at j;have O:=aA en;have Z:=bD en;replace ⟨j,V⟩:=q_2 j V;go_wp2_with fail
  refine aYa (v:=.tuple #[hd0_Six,.slice none 0 0,.int .i64 11]) (by simp[results,results122,go_sem,O]) rfl ⟨fun _=>rfl,?_,?_⟩
  ·intro a b c L;rw[<-j.out]at L
   cases L
  ·iterate 11 refine fF ?_ (by rfl) _
   exact fk
end
def Ends (k:Nat) (R:Option (List (Int×List UInt8)×Nat×List UInt8)) (cls lab hop shi slo dhi dlo:Nat) (w w':World) (e:Ending):Prop :=
 (k≠0->e=.returned (.tuple #[hd0_Six,.slice none 0 0,.int .i64 (k:Int)])) /\
 (k=0->∃acc next rest,R=some (acc,next,rest)/\∃(X:Option Addr) (xc:Nat) (es:List Ext) (A2:Option Addr) (c2:Nat),
  e=.returned (.tuple #[eZ cls lab hop true shi slo true dhi dlo X es.length xc next,.slice A2 rest.length c2,.int .i64 0])/\es.map Ext.pe=acc/\wD w' w.heap.size X xc es/\aZ w' w.heap.size (.slice A2 rest.length c2) rest)/\Below w.heap.size w w'
def mK (n:Nat) (xs:List UInt8):Nat:=if n<40 then 2 else if(xs.getD 0 0).toNat / 16≠6 then 10 else if(mP 9 (xs.getD 6 0).toNat (xs.drop 40) []).isNone then 11 else 0
def aD6 (xs:List UInt8):Option (List (Int×List UInt8)×Nat×List UInt8):=mP 9 (xs.getD 6 0).toNat (xs.drop 40) []
def gL (n:Nat) (xs:List UInt8):Nat:=if n<40 then 2 else if(xs.getD 0 0).toNat / 16≠6 then 10 else if n - 40<beN xs 4 2 then 12 else if(mP 9 (xs.getD 6 0).toNat ((xs.take (40+beN xs 4 2)).drop 40) []).isNone then 11 else 0
def jW (xs:List UInt8):Option (List (Int×List UInt8)×Nat×List UInt8):=mP 9 (xs.getD 6 0).toNat ((xs.take (40+beN xs 4 2)).drop 40) []
theorem getD_take(xs:List UInt8)(m i:Nat)(h:i<m):(xs.take m).getD i 0=xs.getD i 0:=by
 simp only[List.getD,dKa h]
theorem nT(xs:List UInt8)(m p:Nat):∀k,p+k<=m->beN (xs.take m) p k=beN xs p k
 | 0,_=>rfl
 | k+1,h=>by rw[beN,beN,nT xs m p k (by omega),getD_take xs m _ (by omega)]
theorem aDk(A:Option Addr)(n c:Nat)(xs:List UInt8)(w:World)(hx:IsB w w.heap.size A n xs)(a6:n<=c)(a7:c<=maxLen)(a8:n<=1099511627776)
 (J L N O U V W:Nat) (q1:beN xs 0 4 / 1048576 % 256=J) (q2:beN xs 0 4 % 1048576=L) (q3:(xs.getD 7 0).toNat=N) (q4:beN xs 8 8=O) (q5:beN xs 16 8=U) (q6:beN xs 24 8=V) (q7:beN xs 32 8=W) :
 Cl 167 #[.slice A n c] w fun e w'=>Ends (mK n xs) (aD6 xs) J L N O U V W w w' e:=by
 replace ⟨q1,q2,q3,q4,q5,q6,q7⟩:=q_7 q1 q2 q3 q4 q5 q6 q7;have E:=aJ w 164 #[.int .i64 0,.int .i64 0,.int .i64 0,.bool false,.int .u64 0,.int .u64 0,.bool false,.int .u64 0,.int .u64 0,.slice none 0 0,.int .i64 0];have j:Below w.heap.size w (w.alloc (bS 0 0 0 false 0 0 false 0 0 none 0 0 0)):=bC;obtain⟨w1,ac⟩:=eX (w.alloc (bS 0 0 0 false 0 0 false 0 0 none 0 0 0));have I:w.heap.size<w1.heap.size:=by rw[<-ac];simp
 unfold bS at ac j;rw[ac]at E j;have Y:=aA E;have az:=bD E;have G:=hx.on j;by_cases h1:n<40
 .have e:mK n xs=2:=by unfold mK;rw[bBa h1]
  rw[e];replace ⟨E,j,G⟩:=q_3 E j G;clear hx e;go_enter func167,ntmps167;go_wp2_with fail
  refine aYa (v:=.tuple #[hd0_Six,.slice none 0 0,.int .i64 2]) (by simp[results,results167,go_sem,Y]) rfl ⟨fun _=>rfl,(fun h=>by cases h),?_⟩;iterate 11 refine fF ?_ (by rfl) _
  exact j
 obtain⟨b,bj,v0,rfl,bk,ab,bl,a1⟩:=G.byte (i:=0) (by omega);rw[cNa]at a1;have i0:0<n:=by omega
 have k0:(0:Int)<(n:Int):=by omega
 by_cases h2:v0 / 16=6
 .have hb:(((v0:Int) / 16) != 6)=false:=by rw[dQa];omega
  obtain⟨R,Z⟩:=eX (mP 9 (xs.getD 6 0).toNat (xs.drop 40) []);have e:mK n xs=if R.isNone then 11 else 0:=by unfold mK;rw[bAa h1,bAa (by omega),Z]
  have e2:aD6 xs=R:=Z;rw[e,e2];have ba:40<=n:=by omega
  replace ⟨ab,Z,E,j,G⟩:=q_5 ab Z E j G;clear hx e e2 h1;go_enter func167,ntmps167;go_wp2_with fail
  refine(aJ4 _ n c xs _ G a6 a7 a8 ba J L N O U V W q1 q2 q3 q4 q5 q6 q7 R Z).mono ?_;rintro e w2 ⟨hn,hs,ay⟩;clear ac Y az a1;have an:=q_ (aC ay I E);have Y:=aA an;have az:=bD an;have ao:=q_ (j.trans (ay.mono (cAa I)));clear ay;rcases R with _|⟨a5,next,rest⟩
  .obtain rfl:=hn rfl;clear hs hn;go_wp2_with fail
   refine aYa (v:=.tuple #[hd0_Six,.slice none 0 0,.int .i64 11]) (by simp[results,results167,go_sem,Y]) rfl ⟨fun _=>rfl,(fun h=>by simp at h),?_⟩;iterate 11 refine fF ?_ (by rfl) _
   exact ao
  .obtain⟨X,xc,es,A2,c2,rfl,ap,hX,hr⟩:=hs a5 next rest rfl;obtain⟨w8,e8,aq,ad⟩:=set11 an (.int .i64 J) (.int .i64 L) (.int .i64 N) (.bool true) (.int .u64 O) (.int .u64 U) (.bool true) (.int .u64 V) (.int .u64 W) (.slice X es.length xc) (.int .i64 (next:Int));have bb:=q_ ((hX.kept ad I).weaken (cAa I));have bc:=q_ ((aZ.kept hr ad (mH hr I)).weaken (cAa I));have bd:=q_ (ao.trans (bV ad ao.size (by intro k hk;cases hk;exact aZa _)));clear hn hs hX hr ad;replace ⟨ap,aq⟩:=q_2 ap aq;go_wp2_with fail
   have be:=aA aq;exact aYa (v:=.tuple #[eZ J L N true O U true V W X es.length xc next,.slice A2 rest.length c2,.int .i64 0]) (by simp[results,results167,go_sem,be]) rfl ⟨fun h=>absurd rfl h,fun _=>⟨a5,next,rest,rfl,X,xc,es,A2,c2,rfl,ap,bb,bc⟩,bd⟩
 .have hb:(((v0:Int) / 16) != 6)=true:=by rw[dLa];omega
  have e:mK n xs=10:=by unfold mK;rw[bAa h1,bBa (by omega)]
  rw[e];replace ⟨E,j,G,ab⟩:=q_4 E j G ab;clear hx e;go_enter func167,ntmps167;go_wp2_with fail
  refine aYa (v:=.tuple #[hd0_Six,.slice none 0 0,.int .i64 10]) (by simp[results,results167,go_sem,Y]) rfl ⟨fun _=>rfl,(fun h=>by cases h),?_⟩;iterate 11 refine fF ?_ (by rfl) _
  exact j
def aAc (v6:Bool) (k:Int):Bool:=if v6 then decide (1<=k/\k<=4)else decide (k=3\/k=4\/k=5\/k=11\/k=12)
theorem aDz(I:Bool)(k:Int)(w:World):Cl 166 #[.bool I,.int .i64 k] w fun e w'=>e=.returned (.bool (aAc I k))/\w=w':=by
 rcases I with _|_
 .by_cases E:k=3
  .subst E;go_enter func166,ntmps166;go_wp2_with fail
   go_ret;exact⟨rfl,rfl⟩
  by_cases j:k=4
  .subst j;go_enter func166,ntmps166;go_wp2_with fail
   go_ret;exact⟨rfl,rfl⟩
  by_cases A:k=5
  .subst A;go_enter func166,ntmps166;go_wp2_with fail
   go_ret;exact⟨rfl,rfl⟩
  by_cases G:k=11
  .subst G;go_enter func166,ntmps166;go_wp2_with fail
   go_ret;exact⟨rfl,rfl⟩
  have e:∀b:Bool,(k == 12)=b->aAc false k=b:=by
   intro b J;subst J;unfold aAc;by_cases L:k=12<;>simp[E,j,A,G,L]
  have N:(k == 3)=false:=by simp[E]
  have O:(k == 4)=false:=by simp[j]
  have U:(k == 5)=false:=by simp[A]
  have V:(k == 11)=false:=by simp[G]
  rw[e _ rfl];clear E j A G e;go_enter func166,ntmps166;go_wp2_with fail
  all_goals(go_ret;exact⟨rfl,rfl⟩)
 .by_cases j:1<=k
  .by_cases A:k<=4
   .go_enter func166,ntmps166;go_wp2_with fail
    go_ret;exact⟨kP (by simp[aAc,j,A]),rfl⟩
   .go_enter func166,ntmps166;go_wp2_with fail
    go_ret;exact⟨kP (by simp[aAc,j,A]),rfl⟩
  .go_enter func166,ntmps166;go_wp2_with fail
   go_ret;exact⟨kP (by simp[aAc];omega),rfl⟩
theorem set9{w:World}{U V W X Y Z a6 a7 a8:Value}(h:w.heap[g]?=some (.cells #[U,V,W,X,Y,Z,a6,a7,a8] t (0,0)))(j A E G I J L N O:Value) :
 ∃w',(((((((((w.setCell ⟨g,0,none⟩ j).setCell ⟨g,1,none⟩ A).setCell ⟨g,2,none⟩ E).setCell ⟨g,3,none⟩ G).setCell ⟨g,4,none⟩ I).setCell ⟨g,5,none⟩ J).setCell ⟨g,6,none⟩ L).setCell ⟨g,7,none⟩ N).setCell ⟨g,8,none⟩ O)=w'/\w'.heap[g]?=some (.cells #[j,A,E,G,I,J,L,N,O] t (0,0))/\w.grownBy w' (some g):=by
 refine⟨_,rfl,?_,?_⟩
 .simpa using(bP (bP (bP (bP (bP (bP (bP (bP (bP h 0 j) 1 A) 2 E) 3 G) 4 I) 5 J) 6 L) 7 N) 8 O)
 .iterate 9 refine fG ?_ rfl _
  exact dR _ _
theorem yD{w:World}(h:w.grownBy w' (some g))(j:B<=w.heap.size)(A:B<=g):Below B w w':=bV h j (by intro k E;cases E;exact A)
theorem aD0{w:World}{x:Option Obj}(h:w.grownBy w' (some g))(j:k<w.heap.size)(A:k≠g)(E:w.heap[k]?=x):w'.heap[k]?=x:=(h.block k j (by simpa using A)).trans E
abbrev tuV (proto:Int) (sv:Bool) (shi slo:Int) (dv:Bool) (dhi dlo sp dp:Int):Value:=.agg #[.int .i64 proto,.bool sv,.int .u64 shi,.int .u64 slo,.bool dv,.int .u64 dhi,.int .u64 dlo,.int .i64 sp,.int .i64 dp]
abbrev tuC (proto:Int) (sv:Bool) (shi slo:Int) (dv:Bool) (dhi dlo sp dp:Int):Obj:=.cells #[.int .i64 proto,.bool sv,.int .u64 shi,.int .u64 slo,.bool dv,.int .u64 dhi,.int .u64 dlo,.int .i64 sp,.int .i64 dp] 46
abbrev tu0:Value:=tuV 0 false 0 0 false 0 0 0 0
def QIs (v6:Bool) (n:Nat) (xs:List UInt8) (K proto shi slo dhi dlo frag:Nat) (rest:List UInt8):Prop :=
 if v6=true then K=mK n xs/\(K=0->∃acc,aD6 xs=some (acc,proto,rest)/\frag=nZ acc/\shi=beN xs 8 8/\slo=beN xs 16 8/\dhi=beN xs 24 8/\dlo=beN xs 32 8)
 else K=yG n xs/\(K=0->proto=(xs.getD 9 0).toNat/\shi=0/\slo=beN xs 12 4/\dhi=0/\dlo=beN xs 16 4/\frag=beN xs 6 2 % 8192/\rest=xs.drop ((xs.getD 0 0).toNat % 16*4))
theorem aNn(j:Bool)(n:Nat)(xs:List UInt8):∃K A E G I J L rest,QIs j n xs K A E G I J L rest:=by
 rcases j with _|_
 .exact⟨_,_,_,_,_,_,_,_,by unfold QIs;rw[bAa (by simp)];exact⟨rfl,fun _=>⟨rfl,rfl,rfl,rfl,rfl,rfl,rfl⟩⟩⟩
 .rcases hR:aD6 xs with _|⟨N,next,rest⟩
  .refine⟨mK n xs,0,0,0,0,0,0,[],?_⟩;unfold QIs;rw[bBa rfl];refine⟨rfl,fun h=>?_⟩;unfold aD6 at hR;unfold mK at h;rw[hR]at h;split at h
   .cases h
   .split at h<;>simp at h
  .exact⟨_,next,_,_,_,_,_,rest,by unfold QIs;rw[bBa rfl,hR];exact⟨rfl,fun _=>⟨N,rfl,rfl,rfl,rfl,rfl,rfl⟩⟩⟩
theorem aTh(n:Nat)(xs:List UInt8)(K E G I J L N:Nat)(rest:List UInt8)(j:QIs false n xs K E G I J L N rest)(O:K≠0)(A:Option Addr)(c:Nat)(w:World)(U:IsB w w.heap.size A n xs)(V:n<=c)(_hcm:c<=maxLen)(W:n<=1099511627776) :
 Cl 168 #[.slice A n c] w fun e w'=>e=.returned (.tuple #[fP,.slice none 0 0,.int .i64 (K:Int)])/\Below w.heap.size w w':=by
 unfold QIs at j;rw[bAa (by simp)]at j;exact quote_no A n c xs w U V W K j.1.symm O
theorem aMr(n:Nat)(xs:List UInt8)(N O U V W X:Nat)(rest:List UInt8)(I:QIs false n xs 0 N O U V W X rest)(A:Option Addr)(c:Nat)(w:World)(Y:IsB w w.heap.size A n xs)(Z:n<=c)(aa:c<=maxLen)(ab:n<=1099511627776) :
 Cl 168 #[.slice A n c] w fun e w'=>∃(ac id:Nat) (df mf:Bool) (af:Nat) (J:Option Addr) (n1 L:Nat) (E:Option Addr) (G:Nat),e=.returned (.tuple #[fE ac id df mf X af N false O U false V W J n1 L,.slice E rest.length G,.int .i64 0])/\aZ w' w.heap.size (.slice E rest.length G) rest/\Below w.heap.size w w':=by
 unfold QIs at I;rw[bAa (by simp)]at I;obtain⟨j,h⟩:=I;obtain⟨rfl,rfl,rfl,rfl,rfl,rfl,rfl⟩:=h rfl;unfold yG at j;split at j
 .cases j
 rename_i h1;split at j
 .cases j
 rename_i h2;split at j
 .cases j
 rename_i h3;refine(quote_ok A n c xs w Y Z aa ab (by omega) (by omega) _ rfl (by omega) (by omega)).mono ?_;rintro e w' ⟨J,L,E,G,rfl,i1,i2,i3,i4,i5⟩;have hl:(xs.drop ((xs.getD 0 0).toNat % 16*4)).length=n - (xs.getD 0 0).toNat % 16*4:=by rw[cCa,Y.1]
 rw[hl];exact⟨_,_,_,_,_,J,_,L,E,G,rfl,i4,i5⟩
theorem six_fail(n:Nat)(xs:List UInt8)(K E G I J L N:Nat)(rest:List UInt8)(j:QIs true n xs K E G I J L N rest)(O:K≠0)(A:Option Addr)(c:Nat)(w:World)(U:IsB w w.heap.size A n xs)(V:n<=c)(W:c<=maxLen)(X:n<=1099511627776) :
 Cl 167 #[.slice A n c] w fun e w'=>e=.returned (.tuple #[hd0_Six,.slice none 0 0,.int .i64 (K:Int)])/\Below w.heap.size w w':=by
 unfold QIs at j;rw[bBa rfl]at j;obtain⟨rfl,_⟩:=j;exact(aDk A n c xs w U V W X _ _ _ _ _ _ _ rfl rfl rfl rfl rfl rfl rfl).mono fun e w' ⟨h1,_,h3⟩=>⟨h1 O,h3⟩
theorem aPr(n:Nat)(xs:List UInt8)(L N O U V W:Nat)(rest:List UInt8)(J:QIs true n xs 0 L N O U V W rest)(A:Option Addr)(c:Nat)(w:World)(Z:IsB w w.heap.size A n xs)(aa:n<=c)(ab:c<=maxLen)(ac:n<=1099511627776) :
 Cl 167 #[.slice A n c] w fun e w'=>∃(ad ae af:Nat) (X:Option Addr) (E:Nat) (j:List Ext) (G:Option Addr) (I:Nat),e=.returned (.tuple #[eZ ad ae af true N O true U V X j.length E L,.slice G rest.length I,.int .i64 0])/\wD w' w.heap.size X E j/\beN (qR j) 1 2 / 8=W/\aZ w' w.heap.size (.slice G rest.length I) rest/\Below w.heap.size w w':=by
 unfold QIs at J;rw[bBa rfl]at J;obtain⟨hk,h⟩:=J;obtain⟨al,hR,rfl,rfl,rfl,rfl,rfl⟩:=h rfl;refine(aDk A n c xs w Z aa ab ac _ _ _ _ _ _ _ rfl rfl rfl rfl rfl rfl rfl).mono fun e w' ⟨_,h2,h3⟩=>?_;obtain⟨am,an,ao,Y,X,E,j,G,I,rfl,ai,hX,hr⟩:=h2 hk.symm;rw[hR]at Y
 cases Y
 exact⟨_,_,_,X,E,j,G,I,rfl,hX,by rw[aC7,ai];rfl,hr,h3⟩
theorem aKr(J:Bool)(ty E G:Int)(A:Option Addr)(n c:Nat)(w:World)(L:aAc J ty=false) :
 Cl 151 #[.bool J,.agg #[.int .i64 ty,.int .i64 E,.int .u32 G,.slice A n c]] w fun e w'=>e=.returned (.tuple #[tu0,.int .i64 24])/\Below w.heap.size w w':=by
 obtain⟨N,j⟩:=eX ((w.alloc (.cells #[.int .i64 ty,.int .i64 E,.int .u32 G,.slice A n c] 159)).alloc (tuC 0 false 0 0 false 0 0 0 0));have O:Hid (Below w.heap.size w N):=q_ (j▸bC.alloc (by simp) _);have U:Hid (N.heap[w.heap.size]?=some (.cells #[.int .i64 ty,.int .i64 E,.int .u32 G,.slice A n c] 159 (0,0))):=q_ (by rw[<-j];exact kE _ (by simp) (aJ _ _ _));have I:N.heap[w.heap.size+1]?=some (.cells #[.int .i64 0,.bool false,.int .u64 0,.int .u64 0,.bool false,.int .u64 0,.int .u64 0,.int .i64 0,.int .i64 0] 46 (0,0)):=by
  have:=aJ (w.alloc (.cells #[.int .i64 ty,.int .i64 E,.int .u32 G,.slice A n c] 159)) 46 #[.int .i64 0,.bool false,.int .u64 0,.int .u64 0,.bool false,.int .u64 0,.int .u64 0,.int .i64 0,.int .i64 0];have hw1':=j;unfold tuC at hw1';rw[hw1']at this;simpa using this
 unfold tuC at j;have W:=aA U;have V:=aA I;have X:=bD I;replace ⟨I,L⟩:=q_2 I L;go_enter func151,ntmps151;go_wp2_with fail
 refine(aDz J ty _).mono ?_;rw[L.out];rintro e w' ⟨rfl,rfl⟩;clear j;go_wp2_with fail
 refine aYa (v:=.tuple #[tu0,.int .i64 24]) (by simp[results,hVa,go_sem,V]) rfl ⟨rfl,?_⟩;iterate 9 refine hJa ?_ (by simp) _
 exact O
theorem aFi(O:Bool)(ty X Y:Int)(A:Option Addr)(n c:Nat)(xs:List UInt8)(w:World)(hx:IsB w w.heap.size A n xs)(al:n<=c)(am:c<=maxLen)(an:n<=1099511627776)(hE:aAc O ty=true)
 (K ad ae af ag ah ai:Nat) (rest:List UInt8) (Z:QIs O n xs K ad ae af ag ah ai rest) (hK:K≠0) :
 Cl 151 #[.bool O,.agg #[.int .i64 ty,.int .i64 X,.int .u32 Y,.slice A n c]] w fun e w'=>e=.returned (.tuple #[tu0,.int .i64 (K:Int)])/\Below w.heap.size w w':=by
 have a5:((K:Int) != 0)=true:=by simp;omega
 replace Z:=q_ Z;obtain⟨j,L⟩:=eX ((w.alloc (.cells #[.int .i64 ty,.int .i64 X,.int .u32 Y,.slice A n c] 159)).alloc (tuC 0 false 0 0 false 0 0 0 0));have ap:Hid (Below w.heap.size w j):=q_ (L▸bC.alloc (by simp) _);have aq:Hid (j.heap.size=w.heap.size+1+1):=q_ (by rw[<-L];simp);have ar:Hid (j.heap[w.heap.size]?=some (.cells #[.int .i64 ty,.int .i64 X,.int .u32 Y,.slice A n c] 159 (0,0))):=q_ (by rw[<-L];exact kE _ (by simp) (aJ _ _ _));have aj:j.heap[w.heap.size+1]?=some (.cells #[.int .i64 0,.bool false,.int .u64 0,.int .u64 0,.bool false,.int .u64 0,.int .u64 0,.int .i64 0,.int .i64 0] 46 (0,0)):=by
  have:=aJ (w.alloc (.cells #[.int .i64 ty,.int .i64 X,.int .u32 Y,.slice A n c] 159)) 46 #[.int .i64 0,.bool false,.int .u64 0,.int .u64 0,.bool false,.int .u64 0,.int .u64 0,.int .i64 0,.int .i64 0];have hw1':=L;unfold tuC at hw1';rw[hw1']at this;simpa using this
 unfold tuC at L;have az:=aA ar;have a0:=q_ (hx.on ap);replace ⟨hx,aj,hE⟩:=q_3 hx aj hE;go_enter func151,ntmps151;go_wp2_with fail
 refine(aDz O ty _).mono ?_;rw[hE.out];rintro e w' ⟨rfl,rfl⟩;clear L;obtain⟨G,N⟩:=eX (j.alloc (tuC 0 false 0 0 false 0 0 0 0));have U:Below j.heap.size j G:=N▸bC;unfold tuC at N;have a6:=q_ (N▸aJ j 46 #[.int .i64 0,.bool false,.int .u64 0,.int .u64 0,.bool false,.int .u64 0,.int .u64 0,.int .i64 0,.int .i64 0]);have aa:Hid (G.heap.size=j.heap.size+1):=q_ (by rw[<-N];simp);have au:w.heap.size<j.heap.size:=by have:=aq.out;omega
 have a1:w.heap.size+1<j.heap.size:=by have:=aq.out;omega
 have a2:=q_ (aC U au ar);have av:=q_ (aC U a1 aj);have aw:=q_ (a0.on U);have ax:=q_ (ap.trans (U.mono (cAa au)));clear az;have ay:=aA a2;clear U;rcases O with _|_
 .go_wp2_with fail
  refine(aTh n xs K ad ae af ag ah ai rest Z hK A c _ aw al am an).mono ?_;rintro e W ⟨rfl,E⟩;clear N ay;have a3:G.heap.size<=W.heap.size:=E.size;have I:Below G.heap.size G (W.alloc (dS 0 0 false false 0 0 0 false 0 0 false 0 0 none 0 0)):=E.alloc E.size _;have J:=q_ (aC I (by have:=aa.out;omega) av);have V:=q_ (ax.trans (I.mono (by have:=aa.out;omega)));unfold dS at J V;have ak:=aA J;have a4:=bD J;clear E I;go_wp2_with fail
  refine aYa (v:=.tuple #[tu0,.int .i64 (K:Int)]) (by simp[results,hVa,go_sem,ak]) rfl ⟨rfl,?_⟩;iterate 9 refine hJa ?_ (by simp) _
  exact V
 .go_wp2_with fail
  refine(six_fail n xs K ad ae af ag ah ai rest Z hK A c _ aw al am an).mono ?_;rintro e W ⟨rfl,E⟩;clear N ay;have a3:G.heap.size<=W.heap.size:=E.size;have I:Below G.heap.size G (W.alloc (bS 0 0 0 false 0 0 false 0 0 none 0 0 0)):=E.alloc E.size _;have J:=q_ (aC I (by have:=aa.out;omega) av);have V:=q_ (ax.trans (I.mono (by have:=aa.out;omega)));unfold bS at J V;have ak:=aA J;have a4:=bD J;clear E I;go_wp2_with fail
  refine aYa (v:=.tuple #[tu0,.int .i64 (K:Int)]) (by simp[results,hVa,go_sem,ak]) rfl ⟨rfl,?_⟩;iterate 9 refine hJa ?_ (by simp) _
  exact V
def FlowEnd (F:Nat) (v6:Bool) (proto shi slo dhi dlo:Nat) (rest:List UInt8) (w w':World) (e:Ending):Prop :=
 (F≠0->e=.returned (.tuple #[tu0,.int .i64 (F:Int)]))/\(F=0->e=.returned (.tuple #[tuV proto v6 shi slo v6 dhi dlo (beN rest 0 2:Nat) (beN rest 2 2:Nat),.int .i64 0]))/\Below w.heap.size w w'
def aGs (frag proto len:Nat):Nat:=if 0<frag then 21 else if proto≠6/\proto≠17 then 14 else if len<4 then 2 else 0
theorem aA9(J:Bool)(ty cd Y:Int)(A:Option Addr)(n c:Nat)(xs:List UInt8)(w:World)(hx:IsB w w.heap.size A n xs)(cc:n<=c)(ce:c<=maxLen)(cg:n<=1099511627776)(hE:aAc J ty=true)
 (E L N O U ad:Nat) (rest:List UInt8) (hQ:QIs J n xs 0 E L N O U ad rest) (a5:rest.length<=maxLen) (F:Nat) (hF:aGs ad E rest.length=F) :
 Cl 151 #[.bool J,.agg #[.int .i64 ty,.int .i64 cd,.int .u32 Y,.slice A n c]] w fun e w'=>FlowEnd F J E L N O U rest w w' e:=by
 replace ⟨hQ,hF⟩:=q_2 hQ hF;obtain⟨j,av⟩:=eX ((w.alloc (.cells #[.int .i64 ty,.int .i64 cd,.int .u32 Y,.slice A n c] 159)).alloc (tuC 0 false 0 0 false 0 0 0 0));have ch:Hid (Below w.heap.size w j):=q_ (av▸bC.alloc (by simp) _);have ci:Hid (j.heap.size=w.heap.size+1+1):=q_ (by rw[<-av];simp);have cj:Hid (j.heap[w.heap.size]?=some (.cells #[.int .i64 ty,.int .i64 cd,.int .u32 Y,.slice A n c] 159 (0,0))):=q_ (by rw[<-av];exact kE _ (by simp) (aJ _ _ _));have bi:j.heap[w.heap.size+1]?=some (.cells #[.int .i64 0,.bool false,.int .u64 0,.int .u64 0,.bool false,.int .u64 0,.int .u64 0,.int .i64 0,.int .i64 0] 46 (0,0)):=by
  have:=aJ (w.alloc (.cells #[.int .i64 ty,.int .i64 cd,.int .u32 Y,.slice A n c] 159)) 46 #[.int .i64 0,.bool false,.int .u64 0,.int .u64 0,.bool false,.int .u64 0,.int .u64 0,.int .i64 0,.int .i64 0];have hw1':=av;unfold tuC at hw1';rw[hw1']at this;simpa using this
 unfold tuC at av;have c8:=aA cj;have c9:=q_ (hx.on ch);replace ⟨hx,bi,hE⟩:=q_3 hx bi hE;go_enter func151,ntmps151;go_wp2_with fail
 refine(aDz J ty _).mono ?_;rw[hE.out];rintro e w' ⟨rfl,rfl⟩;clear av;obtain⟨Z,aq⟩:=eX (j.alloc (tuC 0 false 0 0 false 0 0 0 0));have ax:Below j.heap.size j Z:=aq▸bC;unfold tuC at aq;have ck:=q_ (aq▸aJ j 46 #[.int .i64 0,.bool false,.int .u64 0,.int .u64 0,.bool false,.int .u64 0,.int .u64 0,.int .i64 0,.int .i64 0]);have ay:Hid (Z.heap.size=j.heap.size+1):=q_ (by rw[<-aq];simp);have a7:w.heap.size<j.heap.size:=by have:=ci.out;omega
 have bj:w.heap.size+1<j.heap.size:=by have:=ci.out;omega
 have da:=q_ (aC ax a7 cj);have db:=q_ (aC ax bj bi);have cl:=q_ (c9.on ax);have dc:=q_ (ch.trans (ax.mono (cAa a7)));clear c8;have bk:=aA da;clear ax;go_upto_if 21 with fail
 go_cut [7,8] (fun s7 s8 wx=>∃(Ar:Option Addr) (cr:Nat),s7=.slice Ar rest.length cr/\s8=.int .i64 (ad:Int)/\aZ wx Z.heap.size (.slice Ar rest.length cr) rest/\wx.heap[j.heap.size]?=some (.cells #[.int .i64 E,.bool J,.int .u64 L,.int .u64 N,.bool J,.int .u64 O,.int .u64 U,.int .i64 0,.int .i64 0] 46 (0,0))/\Below j.heap.size Z wx)
 case first =>
  rcases J with _|_
  .go_wp2_with fail
   refine(aMr n xs E L N O U ad rest hQ A c _ cl cc ce cg).mono ?_;rintro e I ⟨cu,id,df,mf,cx,A1,n1,c1,A2,c2,rfl,hr,ah⟩;clear aq bk;obtain⟨W,ac⟩:=eX (I.alloc (dS cu id df mf ad cx E false L N false O U A1 n1 c1));have ai:Below I.heap.size I W:=ac▸bC;have az:I.heap.size<W.heap.size:=by rw[<-ac];simp
   have ae:Hid (Below Z.heap.size Z W):=q_ (ah.trans (ai.mono ah.size));unfold dS at ac;have bl:=q_ (ac▸aJ I 167 #[.int .i64 cu,.int .i64 id,.bool df,.bool mf,.int .i64 ad,.int .i64 cx,.int .i64 E,.bool false,.int .u64 L,.int .u64 N,.bool false,.int .u64 O,.int .u64 U,.slice A1 n1 c1]);have bm:=q_ (hr.below ai);have V:j.heap.size<Z.heap.size:=by have:=ay.out;omega
   have bn:=q_ (aC ae V ck);have bo:j.heap.size+1<=I.heap.size:=by have:=ah.size;have:=ay.out;omega
   clear hr ah ai;go_wp2_with fail
   clear ac;have hgt4':=bn.out;obtain⟨Y,ar⟩:=eX W.drew;have aa:Below W.heap.size W Y:=ar▸(bLa _ _).drew;have bp:I.heap.size≠j.heap.size:=by have:=bo;omega
   have bq:=aC aa az bl;have br:I.heap.size<Y.heap.size:=bKa az aa.size;have bs:∀(l:Grown j.heap.size Y) (o:Nat),l.w.cell? ⟨I.heap.size,o,none⟩=_:=fun l o=>aA (aD0 l.hg br bp bq) o
   refine vH (zY j.heap.size) (by as_aux_lemma=>kernel_rfl) ?_;rw[ar];clear ar;refine aRb j.heap.size 0 10 (fuel:=3) (by as_aux_lemma=>kernel_rfl) (fun d _ _ _ _ h=>by cases d<;>exact h) (by as_aux_lemma=>kernel_rfl) (by as_aux_lemma=>kernel_rfl) ?_;simp only[dA,dC,dD];iterate 10(refine aK9 (fun K G=>?_);go_simp;refine G _ ?_;clear G K)
   refine aN ?_;clear bs;have af:=aC aa (bKa V ae.size) hgt4';have al:=bm.below aa;have am:=ae.trans (aa.mono ae.size);obtain⟨w6,e6,an,ab⟩:=set9 af (.int .i64 E) (.bool false) (.int .u64 L) (.int .u64 N) (.bool false) (.int .u64 O) (.int .u64 U) (.int .i64 0) (.int .i64 0);have bt:=aA af;have bu:=bD af;have bv:=q_ (aZ.kept al ab (mH al V));have bw:=q_ ((am.mono (cAa V)).trans (yD ab (bJa (cAa V) am.size) (aZa _)));clear al am af;replace ⟨an,ab⟩:=q_2 an ab;refine aK 10 (fuel:=2) rfl (by as_aux_lemma=>kernel_rfl) (fun K G=>?_);go_simp;refine G _ _ ab ?_;clear G K e6 bt bu;refine aK 11 (fuel:=1) rfl (by as_aux_lemma=>kernel_rfl) (fun K G=>?_);go_simp;refine G _ _ (dR _ _) ?_;clear G K;refine aK 12 (fuel:=0) rfl (by as_aux_lemma=>kernel_rfl) (fun K G=>?_);go_simp;refine G _ _ (dR _ _) ?_;clear G K;refine fD ?_;go_wp2_with fail
   go_meet;exact⟨A2,c2,rfl,rfl,bv,an,bw⟩
  .go_wp2_with fail
   refine(aPr n xs E L N O U ad rest hQ A c _ cl cc ce cg).mono ?_;rintro e I ⟨b6,b7,b8,X,xc,es,A2,c2,rfl,hX,bx,hr,ah⟩;clear aq bk;obtain⟨W,ac⟩:=eX (I.alloc (bS b6 b7 b8 true L N true O U X es.length xc E));have ai:Below I.heap.size I W:=ac▸bC;have az:I.heap.size<W.heap.size:=by rw[<-ac];simp
   have ae:Hid (Below Z.heap.size Z W):=q_ (ah.trans (ai.mono ah.size));unfold bS at ac;have bl:=q_ (ac▸aJ I 164 #[.int .i64 b6,.int .i64 b7,.int .i64 b8,.bool true,.int .u64 L,.int .u64 N,.bool true,.int .u64 O,.int .u64 U,.slice X es.length xc,.int .i64 E]);have bm:=q_ (hr.below ai);have dd:=q_ (hX.below ai);have V:j.heap.size<Z.heap.size:=by have:=ay.out;omega
   have bn:=q_ (aC ae V ck);have bo:j.heap.size+1<=I.heap.size:=by have:=ah.size;have:=ay.out;omega
   clear hr ah ai hX;replace bx:=q_ bx;go_wp2_with fail
   clear ac;have hgt4':=bn.out;obtain⟨Y,ar⟩:=eX W.drew;have aa:Below W.heap.size W Y:=ar▸(bLa _ _).drew;have bp:I.heap.size≠j.heap.size:=by have:=bo;omega
   have bq:=aC aa az bl;have br:I.heap.size<Y.heap.size:=bKa az aa.size;have bs:∀(l:Grown j.heap.size Y) (o:Nat),l.w.cell? ⟨I.heap.size,o,none⟩=_:=fun l o=>aA (aD0 l.hg br bp bq) o
   refine vH (zY j.heap.size) (by as_aux_lemma=>kernel_rfl) ?_;rw[ar];clear ar;refine aRb j.heap.size 0 9 (fuel:=4) (by as_aux_lemma=>kernel_rfl) (fun d _ _ _ _ h=>by cases d<;>exact h) (by as_aux_lemma=>kernel_rfl) (by as_aux_lemma=>kernel_rfl) ?_;simp only[dA,dC,dD];iterate 9(refine aK9 (fun K G=>?_);go_simp;refine G _ ?_;clear G K)
   refine aN ?_;clear bs;refine aK 9 (fuel:=3) rfl (by as_aux_lemma=>kernel_rfl) (fun K G=>?_);go_simp;go_at_call 81;have cm:=(dd.below aa).isX;refine(xL b6 b7 b8 true L N true O U X es.length xc E es _ cm.1 (by omega)).mono ?_;rw[bx.out];rintro e w5 ⟨rfl,ca⟩;refine G _ _ (aH6 ca) ?_;clear G K cm;have a8:=aa.trans (ca.mono aa.size);have af:=aC a8 (bKa V ae.size) hgt4';have al:=bm.below a8;have am:=ae.trans (a8.mono ae.size);clear ca a8;obtain⟨w6,e6,an,ab⟩:=set9 af (.int .i64 E) (.bool true) (.int .u64 L) (.int .u64 N) (.bool true) (.int .u64 O) (.int .u64 U) (.int .i64 0) (.int .i64 0);have bt:=aA af;have bu:=bD af;have bv:=q_ (aZ.kept al ab (mH al V));have bw:=q_ ((am.mono (cAa V)).trans (yD ab (bJa (cAa V) am.size) (aZa _)));clear al am af;replace ⟨an,ab⟩:=q_2 an ab;refine aK 10 (fuel:=2) rfl (by as_aux_lemma=>kernel_rfl) (fun K G=>?_);go_simp;refine G _ _ ab ?_;clear G K e6 bt bu;refine aK 11 (fuel:=1) rfl (by as_aux_lemma=>kernel_rfl) (fun K G=>?_);go_simp;refine G _ _ (dR _ _) ?_;clear G K;refine aK 12 (fuel:=0) rfl (by as_aux_lemma=>kernel_rfl) (fun K G=>?_);go_simp;refine G _ _ (dR _ _) ?_;clear G K;refine fD ?_;go_wp2_with fail
   go_meet;exact⟨A2,c2,rfl,rfl,bv,an,bw⟩
 case rest =>
 obtain⟨Ar,cr,rfl,rfl,hr,a0,a1⟩:=hcut;have V:j.heap.size<Z.heap.size:=by have:=ay.out;omega
 have bz:=q_ (aC a1 bj db);have aw:=q_ (dc.trans (a1.mono (cAa a7)));have a9:=aA bz;have dj:=bD bz;have dk:=aA a0;have dl:=bD a0;have de:Z.heap.size<=wc.heap.size:=a1.size;clear aq bk;replace ⟨hr,a0,a1⟩:=q_3 hr a0 a1;have hF':=hF.out;unfold aGs at hF';by_cases h1:0<ad
 .rw[bBa h1]at hF';subst hF';have t1:(0:Int)<(ad:Int):=by omega
  go_wp2_with fail
  refine aYa (v:=.tuple #[tu0,.int .i64 21]) (by simp[results,hVa,go_sem,a9]) rfl ⟨fun _=>rfl,(fun h=>by cases h),?_⟩;iterate 9 refine hJa ?_ (by simp) _
  exact aw
 rw[bAa h1]at hF';have t1:¬ (0:Int)<(ad:Int):=by omega
 by_cases h2:E≠6/\E≠17
 .rw[bBa h2]at hF';subst hF';have t2:((E:Int) != 6)=true:=by simp;omega
  have t3:((E:Int) != 17)=true:=by simp;omega
  clear h2;go_wp2_with fail
  refine aYa (v:=.tuple #[tu0,.int .i64 14]) (by simp[results,hVa,go_sem,a9]) rfl ⟨fun _=>rfl,(fun h=>by cases h),?_⟩;iterate 9 refine hJa ?_ (by simp) _
  exact aw
 rw[bAa h2]at hF';by_cases h3:rest.length<4
 .rw[bBa h3]at hF';subst hF';have t4:(rest.length:Int)<4:=by omega
  by_cases h6:E=6
  .have t2:((E:Int) != 6)=false:=by simp;omega
   clear h2;replace h6:=q_ h6;go_wp2_with fail
   refine aYa (v:=.tuple #[tu0,.int .i64 2]) (by simp[results,hVa,go_sem,a9]) rfl ⟨fun _=>rfl,(fun h=>by cases h),?_⟩;iterate 9 refine hJa ?_ (by simp) _
   exact aw
  .have t2:((E:Int) != 6)=true:=by simp;omega
   have t3:((E:Int) != 17)=false:=by simp;omega
   clear h2;go_wp2_with fail
   refine aYa (v:=.tuple #[tu0,.int .i64 2]) (by simp[results,hVa,go_sem,a9]) rfl ⟨fun _=>rfl,(fun h=>by cases h),?_⟩;iterate 9 refine hJa ?_ (by simp) _
   exact aw
 rw[bAa h3]at hF';subst hF';have t4:¬ (rest.length:Int)<4:=by omega
 have hi:=q_ hr.reads.2.2.2;obtain⟨p1,ao⟩:=eX (beN rest 0 2);obtain⟨p2,ap⟩:=eX (beN rest 2 2);have dm:p1<65536:=by rw[<-ao];exact bX rest 0 2
 have dn:p2<65536:=by rw[<-ap];exact bX rest 2 2
 obtain⟨w7,e7,b1,b0⟩:∃w7,(wc.setCell ⟨j.heap.size,7,none⟩ (.int .i64 (p1:Int))).setCell ⟨j.heap.size,8,none⟩ (.int .i64 (p2:Int))=w7/\w7.heap[j.heap.size]?=some (.cells #[.int .i64 E,.bool J,.int .u64 L,.int .u64 N,.bool J,.int .u64 O,.int .u64 U,.int .i64 p1,.int .i64 p2] 46 (0,0))/\wc.grownBy w7 (some j.heap.size):=by
  refine⟨_,rfl,?_,?_⟩
  .simpa using bP (bP a0 7 (.int .i64 p1)) 8 (.int .i64 p2)
  .iterate 2 refine fG ?_ rfl _
   exact dR _ _
 have hgr7':=q_ (aD0 b0 (bKa (Nat.lt_trans bj V) de) (by omega) bz);have co:=q_ (aw.trans (yD b0 aw.size (cAa a7)));have dp:=aA hgr7';have dq:=bD hgr7';have dr:=aA b1;obtain⟨w8,e8,b2,ct⟩:=set9 hgr7' (.int .i64 E) (.bool J) (.int .u64 L) (.int .u64 N) (.bool J) (.int .u64 O) (.int .u64 U) (.int .i64 p1) (.int .i64 p2);have cp:=q_ (co.trans (yD ct co.size (by omega)));have cq:=aA b2;clear b0 ct;replace ⟨ao,ap,b1,b2⟩:=q_4 ao ap b1 b2;by_cases h6:E=6
 .have t2:((E:Int) != 6)=false:=by simp;omega
  replace h6:=q_ h6;clear h2;go_wp2_with fail
  refine(fB _ _ 0 2 rfl rfl _ _ _ rest _ hi a5 (by omega) (by omega)).mono ?_;rintro e w' ⟨rfl,rfl⟩;rw[ao.out];go_wp2_with fail
  refine(fB _ _ 2 2 rfl rfl _ _ _ rest _ hi a5 (by omega) (by omega)).mono ?_;rintro e w' ⟨rfl,rfl⟩;rw[ap.out];go_wp2_with fail
  exact aYa (v:=.tuple #[tuV E J L N J O U p1 p2,.int .i64 0]) (by simp[results,hVa,go_sem,cq]) rfl ⟨fun h=>absurd rfl h,fun _=>by rw[ao.out,ap.out],cp⟩
 .have t2:((E:Int) != 6)=true:=by simp;omega
  have t3:((E:Int) != 17)=false:=by simp;omega
  clear h2;go_wp2_with fail
  refine(fB _ _ 0 2 rfl rfl _ _ _ rest _ hi a5 (by omega) (by omega)).mono ?_;rintro e w' ⟨rfl,rfl⟩;rw[ao.out];go_wp2_with fail
  refine(fB _ _ 2 2 rfl rfl _ _ _ rest _ hi a5 (by omega) (by omega)).mono ?_;rintro e w' ⟨rfl,rfl⟩;rw[ap.out];go_wp2_with fail
  exact aYa (v:=.tuple #[tuV E J L N J O U p1 p2,.int .i64 0]) (by simp[results,hVa,go_sem,cq]) rfl ⟨fun h=>absurd rfl h,fun _=>by rw[ao.out,ap.out],cp⟩
def aHz (xs ps:List UInt8) (K:Nat) (ty cd wd:Int) (ds:List UInt8):Prop :=
 ∀(A P:Option Addr) (c d:Nat) (W:World),IsB W W.heap.size A xs.length xs->IsB W W.heap.size P ps.length ps->xs.length<=c->c<=maxLen->Cl 150 #[.slice A xs.length c,.slice P ps.length d] W fun e w'=>∃A' c',
  e=.returned (.tuple #[.agg #[.int .i64 ty,.int .i64 cd,.int .u32 wd,.slice A' ds.length c'],.int .i64 (K:Int)])/\IsB w' w'.heap.size A' ds.length ds/\ds.length<=c'/\c'<=maxLen/\Below W.heap.size W w'
theorem aNe(xs j:List UInt8)(X:xs.length<=1099511627776)(L:j.length<=maxLen):∃K ty Y Z N,K<=20/\N.length<=xs.length/\aHz xs j K ty Y Z N:=by
 by_cases h8:xs.length<8
 .refine⟨2,0,0,0,[],by omega,by simp,fun A P c d W G I J O=>?_⟩;refine(aF3 A P xs.length c j.length d W h8).mono ?_;rintro e w' ⟨rfl,E⟩;exact⟨none,0,rfl,IsB.nil _ _ _,aZa _,by unfold maxLen;omega,E⟩
 by_cases V:ones (tot false (j++xs))=65535
 .refine⟨0,((xs.getD 0 0).toNat:Nat),((xs.getD 1 0).toNat:Nat),(beN xs 4 4:Nat),xs.drop 8,by omega,by rw[cCa];omega,fun A P c d W G I J O=>?_⟩;refine(aLs A P xs.length c j.length d xs j W G I (by omega) J X L V).mono ?_;rintro e w' ⟨A',m',c',rfl,U,h1,h2,E⟩;obtain rfl:(xs.drop 8).length=m':=U.1;exact⟨A',c',rfl,U,h1,h2,E⟩
 .refine⟨13,0,0,0,[],by omega,by simp,fun A P c d W G I J O=>?_⟩;refine(aJi A P xs.length c j.length d xs j W G I (by omega) (by unfold maxLen;omega) L V).mono ?_;rintro e w' ⟨rfl,E⟩;exact⟨none,0,rfl,IsB.nil _ _ _,aZa _,by unfold maxLen;omega,E⟩
theorem aDy:∀(f next:Nat) (j:List UInt8) (A:List (Int×List UInt8)) (r:List (Int×List UInt8)×Nat×List UInt8),mP f next j A=some r->r.2.2.length<=j.length
 | 0,_,_,_,_,h=>by simp[mP]at h
 | f+1,next,j,A,r,h=>by
  unfold mP at h;split at h
  .cases h;exact aZa _
  .split at h
   .cases h
   .split at h
    .cases h
    .split at h
     .split at h
      .cases h
      .cases h
       simp
     .have:=aDy f _ _ _ _ h;rw[cCa]at this;omega
def aCi (v6:Bool) (ty:Int) (ds:List UInt8) (K:Nat) (pr:Int) (sv:Bool) (sh sl:Int) (dv:Bool) (dh dl sp dp:Int):Prop :=
 ∀(cd wd:Int) (A:Option Addr) (c:Nat) (W:World),IsB W W.heap.size A ds.length ds->ds.length<=c->c<=maxLen->Cl 151 #[.bool v6,.agg #[.int .i64 ty,.int .i64 cd,.int .u32 wd,.slice A ds.length c]] W fun e w' =>
  e=.returned (.tuple #[tuV pr sv sh sl dv dh dl sp dp,.int .i64 (K:Int)])/\Below W.heap.size W w'
theorem aUj(E:Bool)(ty:Int)(j:List UInt8)(hn:j.length<=1099511627776):∃K pr sv sh sl dv dh dl sp dp,aCi E ty j K pr sv sh sl dv dh dl sp dp:=by
 rcases hE:aAc E ty with _|_
 .exact⟨24,0,false,0,0,false,0,0,0,0,fun G I A c W L N O=>aKr E ty G I A j.length c W hE⟩
 obtain⟨K,U,V,X,Y,Z,aa,rest,J⟩:=aNn E j.length j;by_cases hK:K=0
 .subst hK;have ae:rest.length<=maxLen:=by
   have h1:rest.length<=j.length:=by
    unfold QIs at J;split at J
    .obtain⟨av,hR,_⟩:=J.2 rfl;have h2:=aDy _ _ _ _ _ hR;simp only[cCa]at h2;omega
    .obtain⟨_,_,_,_,_,_,rfl⟩:=J.2 rfl;rw[cCa];omega
   unfold maxLen;omega
  obtain⟨F,hF⟩:=eX (aGs aa U rest.length);by_cases ai:F=0
  .refine⟨0,(U:Int),E,(V:Int),(X:Int),E,(Y:Int),(Z:Int),(beN rest 0 2:Nat),(beN rest 2 2:Nat),fun G I A c W L N O=>?_⟩;refine(aA9 E ty G I A j.length c j W L N O hn hE U V X Y Z aa rest J ae F hF).mono ?_;rintro e w' ⟨_,h2,hb⟩;exact⟨h2 ai,hb⟩
  .refine⟨F,0,false,0,0,false,0,0,0,0,fun G I A c W L N O=>?_⟩;refine(aA9 E ty G I A j.length c j W L N O hn hE U V X Y Z aa rest J ae F hF).mono ?_;rintro e w' ⟨h1,_,hb⟩;exact⟨h1 ai,hb⟩
 .exact⟨K,0,false,0,0,false,0,0,0,0,fun G I A c W L N O=>aFi E ty G I A j.length c j W L N O hn hE K U V X Y Z aa rest J hK⟩
theorem aWw(j A E:Int)(G I:Bool)(J L N O:Int)(w:World) :
 Cl 21 #[tuV j G J L I N O A E] w fun e w'=>e=.returned (tuV j I N O G J L E A)/\Below w.heap.size w w':=by
 go_enter func21,ntmps21;go_wp2;refine aYa (v:=tuV j I N O G J L E A) (by simp[results,results21,go_sem]) rfl ⟨rfl,?_⟩;exact bC.alloc (by simp) _
theorem aDj(A:Option Addr)(n c:Nat)(xs:List UInt8)(w:World)(hx:IsB w w.heap.size A n xs)(bw:n<=c)(bk:c<=maxLen)(bx:n<=1099511627776)
 (ae af ag ah ai aj ak:Nat) (J:beN xs 0 4 / 1048576 % 256=ae) (L:beN xs 0 4 % 1048576=af) (N:(xs.getD 7 0).toNat=ag) (O:beN xs 8 8=ah) (U:beN xs 16 8=ai) (V:beN xs 24 8=aj) (W:beN xs 32 8=ak) :
 Cl 80 #[.slice A n c] w fun e w'=>Ends (gL n xs) (jW xs) ae af ag ah ai aj ak w w' e:=by
 have q1':=q_ J;have q2':=q_ L;have q3':=q_ N;have q4':=q_ O;have q5':=q_ U;have q6':=q_ V;have q7':=q_ W;clear J L N O U V W;have E:=aJ w 164 #[.int .i64 0,.int .i64 0,.int .i64 0,.bool false,.int .u64 0,.int .u64 0,.bool false,.int .u64 0,.int .u64 0,.slice none 0 0,.int .i64 0];have j:Below w.heap.size w (w.alloc (bS 0 0 0 false 0 0 false 0 0 none 0 0 0)):=bC;obtain⟨w1,al⟩:=eX (w.alloc (bS 0 0 0 false 0 0 false 0 0 none 0 0 0));have Z:w.heap.size<w1.heap.size:=by rw[<-al];simp
 unfold bS at al j;rw[al]at E j;have aa:=aA E;have bb:=bD E;have G:=hx.on j;by_cases h1:n<40
 .have e:gL n xs=2:=by unfold gL;rw[bBa h1]
  rw[e];replace ⟨E,j,G⟩:=q_3 E j G;clear hx e;go_enter func80,ntmps80;go_wp2_with fail
  refine aYa (v:=.tuple #[hd0_Six,.slice none 0 0,.int .i64 2]) (by simp[results,results80,go_sem,aa]) rfl ⟨fun _=>rfl,(fun h=>by cases h),?_⟩;iterate 11 refine fF ?_ (by rfl) _
  exact j
 obtain⟨b,b7,v0,rfl,b8,ab,b9,be⟩:=G.byte (i:=0) (by omega);rw[cNa]at be;have i0:0<n:=by omega
 have k0:(0:Int)<(n:Int):=by omega
 by_cases h2:v0 / 16=6
 .have hb:(((v0:Int) / 16) != 6)=false:=by rw[dQa];omega
  have b1:40<=n:=by omega
  have J:=q1'.out;have L:=q2'.out;have N:=q3'.out;have O:=q4'.out;have U:=q5'.out;have V:=q6'.out;have W:=q7'.out;clear q1' q2' q3' q4' q5' q6' q7';obtain⟨sz,I⟩:=eX (beN xs 4 2);have b2:sz<65536:=by rw[<-I];exact bX xs 4 2
  have bc:((n:Int) - 40)=((n - 40:Nat):Int):=by omega
  have bm:IntKind.i64.wrap (sz:Int)=(sz:Int):=wO _;by_cases h3:n - 40<sz
  .have e:gL n xs=12:=by unfold gL;rw[bAa h1,bAa (by omega),I,bBa h3]
   rw[e];have t3:(n:Int) - 40<(sz:Int):=by omega
   replace ⟨ab,I,E,j,G⟩:=q_5 ab I E j G;clear hx e h1 bc bm J L N O U V W;go_enter func80,ntmps80;go_wp2_with fail
   refine(fB _ _ 4 2 rfl rfl _ _ _ xs _ G (by unfold maxLen;omega) (by omega) (by omega)).mono ?_;rintro e w' ⟨rfl,rfl⟩;rw[I.out];go_wp2_with fail
   refine aYa (v:=.tuple #[hd0_Six,.slice none 0 0,.int .i64 12]) (by simp[results,results80,go_sem,aa]) rfl ⟨fun _=>rfl,(fun h=>by cases h),?_⟩;iterate 11 refine fF ?_ (by rfl) _
   exact j
  have t3:¬ (n:Int) - 40<(sz:Int):=by omega
  obtain⟨R,Y⟩:∃R,mP 9 (xs.getD 6 0).toNat ((xs.take (40+sz)).drop 40) []=R:=⟨_,rfl⟩
  have e:gL n xs=if R.isNone then 11 else 0:=by unfold gL;rw[bAa h1,bAa (by omega),I,bAa h3,Y]
  have e2:jW xs=R:=by unfold jW;rw[I];exact Y
  rw[e,e2];have ap:=q_ (G.take (m:=40+sz) (by omega));have g1:=nT xs (40+sz) 0 4 (by omega);have g2:=getD_take xs (40+sz) 7 (by omega);have g3:=nT xs (40+sz) 8 8 (by omega);have g4:=nT xs (40+sz) 16 8 (by omega);have g5:=nT xs (40+sz) 24 8 (by omega);have g6:=nT xs (40+sz) 32 8 (by omega);have g7:=getD_take xs (40+sz) 6 (by omega);obtain⟨ts,az⟩:∃ts,xs.take (40+sz)=ts:=⟨_,rfl⟩
  rw[az]at g1 g2 g3 g4 g5 g6 g7 ap Y;rw[<-g1]at J L;rw[<-g2]at N;rw[<-g3]at O;rw[<-g4]at U;rw[<-g5]at V;rw[<-g6]at W;rw[<-g7]at Y;clear g1 g2 g3 g4 g5 g6 g7 bc;obtain⟨m,hm⟩:∃m,40+sz=m:=⟨_,rfl⟩
  have b3:m<=n:=by omega
  have bo:40<=m:=by omega
  have b4:40+(sz:Int)=(m:Int):=by omega
  rw[hm]at ap;have b5:(m:Int)<=(c:Int):=by omega
  have b6:(0:Int)<=(m:Int):=by omega
  have bp:m<=c:=by omega
  replace ⟨J,L,N,O,U,V,W,az,hm,I,ab,Y⟩:=q_12 J L N O U V W az hm I ab Y;replace ⟨E,j,G⟩:=q_3 E j G;clear hx e e2 h1;go_enter func80,ntmps80;go_wp2_with fail
  refine(fB _ _ 4 2 rfl rfl _ _ _ xs _ G (by unfold maxLen;omega) (by omega) (by omega)).mono ?_;rintro e w' ⟨rfl,rfl⟩;rw[I.out];go_wp2_with fail
  refine(aJ4 _ m c ts _ ap bp bk (by omega) bo ae af ag ah ai aj ak J L N O U V W R Y).mono ?_;rintro e w2 ⟨hn,hs,ba⟩;clear al aa bb be;have a1:=q_ (aC ba Z E);have aa:=aA a1;have bb:=bD a1;have a2:=q_ (j.trans (ba.mono (cAa Z)));clear ba;rcases R with _|⟨bi,next,rest⟩
  .obtain rfl:=hn rfl;clear hs hn;go_wp2_with fail
   refine aYa (v:=.tuple #[hd0_Six,.slice none 0 0,.int .i64 11]) (by simp[results,results80,go_sem,aa]) rfl ⟨fun _=>rfl,(fun h=>by simp at h),?_⟩;iterate 11 refine fF ?_ (by rfl) _
   exact a2
  .obtain⟨X,xc,es,A2,c2,rfl,a3,hX,hr⟩:=hs bi next rest rfl;obtain⟨w8,e8,a4,am⟩:=set11 a1 (.int .i64 ae) (.int .i64 af) (.int .i64 ag) (.bool true) (.int .u64 ah) (.int .u64 ai) (.bool true) (.int .u64 aj) (.int .u64 ak) (.slice X es.length xc) (.int .i64 (next:Int));have bq:=q_ ((hX.kept am Z).weaken (cAa Z));have br:=q_ ((aZ.kept hr am (mH hr Z)).weaken (cAa Z));have bs:=q_ (a2.trans (bV am a2.size (by intro k hk;cases hk;exact aZa _)));clear hn hs hX hr am;replace ⟨a3,a4⟩:=q_2 a3 a4;go_wp2_with fail
   have bt:=aA a4;exact aYa (v:=.tuple #[eZ ae af ag true ah ai true aj ak X es.length xc next,.slice A2 rest.length c2,.int .i64 0]) (by simp[results,results80,go_sem,bt]) rfl ⟨fun h=>absurd rfl h,fun _=>⟨bi,next,rest,rfl,X,xc,es,A2,c2,rfl,a3,bq,br⟩,bs⟩
 .have hb:(((v0:Int) / 16) != 6)=true:=by rw[dLa];omega
  have e:gL n xs=10:=by unfold gL;rw[bAa h1,bBa (by omega)]
  rw[e];replace ⟨E,j,G,ab⟩:=q_4 E j G ab;clear hx e;go_enter func80,ntmps80;go_wp2_with fail
  refine aYa (v:=.tuple #[hd0_Six,.slice none 0 0,.int .i64 10]) (by simp[results,results80,go_sem,aa]) rfl ⟨fun _=>rfl,(fun h=>by cases h),?_⟩;iterate 11 refine fF ?_ (by rfl) _
  exact j
def xR (es:List Ext):Nat:=(es.map fun e=>e.xs.length+1).sum
theorem aUu{A:List Ext}{e:Ext}(h:A[j]?=some e):xR (A.take (j+1))=xR (A.take j)+(e.xs.length+1):=by
 obtain⟨E,rfl⟩:=List.getElem?_eq_some_iff.1 h;unfold xR;rw[fBa E,cWa,List.sum_append];simp
theorem vD(U V W:Int)(Y:Bool)(Z aa:Int)(dv:Bool)(ac ad:Int)(X:Option Addr)(n c:Nat)(ae:Int)(A:List Ext)(w:World)(J:IsX w w.heap.size X n A)(hn:n<=8)(hb:∀e∈A,e.xs.length<=2047)(T:Nat)(hT:40+xR A=T) :
 Cl 83 #[eZ U V W Y Z aa dv ac ad X n c ae] w fun e w'=>e=.returned (.int .i64 (T:Int))/\Below w.heap.size w w':=by
 have aj:=q_ (aJ w 164 #[.int .i64 U,.int .i64 V,.int .i64 W,.bool Y,.int .u64 Z,.int .u64 aa,.bool dv,.int .u64 ac,.int .u64 ad,.slice X n c,.int .i64 ae]);obtain⟨I,O⟩:=eX (w.alloc (bS U V W Y Z aa dv ac ad X n c ae));have ah:Hid (Below w.heap.size w I):=q_ (O▸bC);unfold bS at O;rw[O]at aj;have an:=aA aj;have ao:=q_ (J.on ah);replace ⟨J,hb,hT⟩:=q_3 J hb hT;unfold eZ;go_enter func83,ntmps83;go_wp2_with fail
 clear O an;go_loopw [3,9] (fun t i wr=>∃j s:Nat,j<=n/\i=.int .i64 (j:Int)/\t=.int .i64 (s:Int)/\s=40+xR (A.take j)/\s<=40+j*2048/\Below I.heap.size I wr) (fun _ i _=>n - (intOf i).toNat)
 case atStart=>exact⟨0,40,dEa _,rfl,rfl,rfl,by omega,bLa _ _⟩
 case round =>
  obtain⟨j,s,hj,rfl,rfl,L,a0,E⟩:=hrel;have G:=ao.on E;replace ⟨L,E⟩:=q_2 L E;by_cases av:j<n
  .obtain⟨b,a1,k,Ae,ce,xs,rfl,a2,N,a3,a4,ak,a5,a6⟩:=G.at av;have ap:(j:Int)<(n:Int):=by omega
   have ax:(0:Int)<=(j:Int):=by omega
   have ay:xs.length<=2047:=hb ⟨k,Ae,ce,xs⟩ (bPa N);have aq:Hid (xR (A.take (j+1))=xR (A.take j)+(xs.length+1)):=q_ (aUu N);have ar:Hid (Below I.heap.size I (wr.alloc (.cells #[.int .i64 k,.slice Ae xs.length ce] 231))):=q_ (E.alloc E.size _);replace ⟨G,N,ak⟩:=q_3 G N ak;go_wp2_with fail
   exact⟨⟨j+1,s+(xs.length+1),by omega,by go_num,by go_num,by rw[aq.out,L.out];omega,by omega,ar⟩,by simp[intOf];omega⟩
  .have ai:A.take j=A:=bZa (by have:=J.out.1;omega);have ap:¬ (j:Int)<(n:Int):=by omega
   have au:Hid (s=T):=q_ (by rw[L.out,ai];exact hT);replace ⟨G,ai⟩:=q_2 G ai;go_wp2_with fail
   go_ret;exact⟨by rw[<-au.out];rfl,ah.trans (E.mono ah.size)⟩
def pX (s d:Int):Bool:=decide (0<=s/\s<=65535/\0<=d/\d<=65535)
theorem aDn(s d:Int)(E:Bool)(w:World)(r:Bool)(j:pX s d=r) :
 Cl 92 #[.agg #[.int .i64 s,.int .i64 d,.bool E]] w fun e w'=>e=.returned (.bool r)/\Below w.heap.size w w':=by
 have A:Hid (Below w.heap.size w (w.alloc (.cells #[.int .i64 s,.int .i64 d,.bool E] 148))):=q_ (bC);unfold pX at j;replace j:=q_ j;by_cases G:0<=s
 .by_cases I:s<=65535
  .by_cases J:0<=d
   .by_cases L:d<=65535
    .go_enter func92,ntmps92;go_wp2;go_ret;exact⟨by rw[<-j.out];simp[*],A⟩
    .go_enter func92,ntmps92;go_wp2;go_ret;exact⟨by rw[<-j.out];simp[*],A⟩
   .go_enter func92,ntmps92;go_wp2;go_ret;exact⟨by rw[<-j.out,bWa (by omega)];rfl,A⟩
  .go_enter func92,ntmps92;go_wp2;go_ret;exact⟨by rw[<-j.out,bWa (by omega)];rfl,A⟩
 .go_enter func92,ntmps92;go_wp2;go_ret;exact⟨by rw[<-j.out,bWa (by omega)];rfl,A⟩
theorem bytes_no(s d:Int)(A:Option Addr)(n c:Nat)(P:Option Addr)(m e:Nat)(w:World)(h:pX s d=false) :
 Cl 51 #[.agg #[.int .i64 s,.int .i64 d,.bool false],.slice A n c,.slice P m e] w fun e w'=>e=.returned (.tuple #[.slice none 0 0,.int .i64 1])/\Below w.heap.size w w':=by
 go_enter func51,ntmps51;go_wp2_with fail
 refine(aDn s d false _ false h).mono ?_;rintro e E ⟨rfl,j⟩;go_wp2_with fail
 go_ret2;exact⟨rfl,bC.trans (j.mono (by simp))⟩
def dg0 (s d:Nat) (xs:List UInt8):List UInt8:=nS 2 [s,d,8+xs.length,0]++xs
def ckP (c:Nat):Nat:=if c=0 then 65535 else c
def dgB (ps:List UInt8) (s d:Nat) (xs:List UInt8):List UInt8:=dJ (dg0 s d xs) 6 (beB (ckP (65535 - ones (tot false (ps++dg0 s d xs)))) 2)
theorem zD(s d:Nat)(xs:List UInt8):(dg0 s d xs).length=8+xs.length:=by simp[dg0,jU]
theorem aLe(s d:Nat)(A:Option Addr)(n c:Nat)(P:Option Addr)(m e:Nat)(xs E:List UInt8)(w:World)(hs:s<=65535)(hd:d<=65535)(Z:IsB w w.heap.size A n xs)(hp:IsB w w.heap.size P m E)(hn:8+n<=65535)(hm:m<=maxLen) :
 Cl 51 #[.agg #[.int .i64 (s:Int),.int .i64 (d:Int),.bool false],.slice A n c,.slice P m e] w fun e w'=>∃v,e=.returned (.tuple #[v,.int .i64 0])/\aZ w' w.heap.size v (dgB E s d xs)/\Below w.heap.size w w':=by
 have ag:=q_ Z.1;have hR:Hid (pX (s:Int) (d:Int)=true):=q_ (by unfold pX;rw[cBa];omega);replace ⟨Z,hp⟩:=q_2 Z hp;go_enter func51,ntmps51;go_wp2_with fail
 refine(aDn s d false _ true hR).mono ?_;rintro e j ⟨rfl,L⟩;have ad:=q_ (aC L (by simp) (aJ w 148 #[.int .i64 (s:Int),.int .i64 (d:Int),.bool false]));have ah:Hid (Below w.heap.size w j):=q_ (bC.trans (L.mono (by simp)));have au:=L.size;simp only[fTa]at au;have ai:w.heap.size<j.heap.size:=by omega
 have av:=aA ad;replace L:=q_ L;go_wp2_with fail
 refine(aBu j.heap.size _ [] 2 _ rfl [s,d,8+n,0] _ ?_ 4 _ rfl _ j _ rfl (aZ.nil _ _) (aZa _) (by omega) (by simp) (by omega) ?_).mono ?_
 .simp[u64v]
 .intro N hN;simp only[bXa,bVa,dTa]at hN;omega
 rintro e w2 ⟨v2,rfl,O,ao⟩;rw[cVa]at O;have aa:=q_ (ao.below (aZ.nil _ _) (aZa _));have be:=aa.size;have aw:=q_ (aC aa ai ad);have ax:=aA aw;have ay:=q_ ((Z.on ah).on aa);clear av ao;replace O:=q_ O;go_wp2_with (at_builtin;refine sD rfl (.tmp 31) (.tmp 32) rfl j.heap.size _ _ xs _ _ _ w2.heap.size rfl rfl O ay ?_ ?_ ?_)
 .omega
 .simp only[jU,eFa,hZa];omega
 intro v3 Y aj ae;have hown3':Hid (aZ Y j.heap.size v3 (dg0 s d xs)):=q_ (by rw[dg0,ag.out];exact aj);clear aj;obtain⟨W,J,rfl,a6,bh,U⟩:=hown3'.form;rw[zD,ag.out]at a6 U hown3' ⊢;have ak:=q_ (ae.below O (by omega));have bf:=ak.size;have al:Below j.heap.size j Y:=tw aa ak;have am:Hid (Below w.heap.size w Y):=q_ ((tw ah al));have az:=q_ (aC al ai ad);have bg:=aA az;have a0:=q_ (hp.on am);have a1:=q_ (aWf Y.heap.size rfl (t:=43) (c:=J) (d:=e) U a0 (by unfold maxLen;omega) hm);have a2:=q_ (U.alloc (.cells #[.slice P m e,.slice W (8+n) J] 43));have a3:=aB5 (tot false (E++dg0 s d xs));have an:Hid (flat [⟨P,e,E⟩,⟨W,J,dg0 s d xs⟩]=E++dg0 s d xs):=q_ (by simp[flat]);obtain⟨T,V⟩:∃T,65535 - ones (tot false (E++dg0 s d xs))=T:=⟨_,rfl⟩
 rw[<-an]at V;have a4:T<=65535:=by omega
 replace ⟨U,ae,V⟩:=q_3 U ae V;clear ax a3;go_wp2_with fail
 refine(aDh _ _ _ _ _ a1 (by unfold maxLen;omega)).mono ?_;rintro e w' ⟨rfl,rfl⟩;rw[V.out];have ab:∀(N:Nat),ckP T=N->N<=65535->Cl 95 #[.slice W (8+n) J,.int .i64 6,.int .u64 (N:Int),.int .i64 2] (Y.alloc (.cells #[.slice P m e,.slice W (8+n) J] 43)) fun e w'=>∃v,e=.returned v/\aZ w' w.heap.size v (dgB E s d xs)/\Below w.heap.size w w':=by
  intro N hN bj;refine(aCb W (8+n) J (dg0 s d xs) 6 N 2 _ _ _ rfl rfl rfl _ a2 (by omega) (by omega) (by omega) (by omega) (by omega)).mono ?_;rintro e w4 ⟨X,rfl,a8,a9⟩;refine⟨X,rfl,?_,(am.alloc (by omega) _).trans (a9.mono (by simp;omega))⟩;have h1:=a8.weaken (base':=w.heap.size) (by simp;omega);unfold dgB;rw[<-an.out,V.out,hN];exact h1
 replace ab:=q_ ab;by_cases af:T=0
 .have G:=ab 65535 (by rw[af];rfl) (by omega);subst af;replace G:=q_ G;go_wp2_with fail
  refine G.mono ?_;rintro e w4 ⟨X,rfl,I⟩;replace I:=q_ I;go_wp2_with fail
  go_ret2;exact⟨X,rfl,I⟩
 .have G:=ab T (by unfold ckP;rw[bAa af]) a4;replace G:=q_ G;go_wp2_with fail
  refine G.mono ?_;rintro e w4 ⟨X,rfl,I⟩;replace I:=q_ I;go_wp2_with fail
  go_ret2;exact⟨X,rfl,I⟩
theorem aEh (N:Nat):beB N 2=[UInt8.ofNat (N / 256),UInt8.ofNat N]:=by simp[beB]
theorem ones_ck (T:Nat):ones (T+ckP (65535 - ones T))=65535:=by
 unfold ckP;split
 .rename_i h;have:=aB5 T;have j:ones T=65535:=by omega
  rw[<-j];refine aC2 (by omega) ?_;unfold ones at j;split at j<;>omega
 .exact aG5 T
theorem ckP_le (c:Nat) (h:c<=65535):ckP c<=65535/\ckP c≠0:=by
 unfold ckP;split<;>omega
theorem dg_form (s d C:Nat) (xs:List UInt8):dJ (dg0 s d xs) 6 (beB C 2)=beB s 2++(beB d 2++(beB (8+xs.length) 2++(beB C 2++xs))):=by
 simp[dg0,dJ,nS,aEh]
theorem dg0_zero (s d:Nat) (xs:List UInt8):((dg0 s d xs).drop 6).take 2=[0,0]:=by
 simp[dg0,nS,aEh]
theorem aVw (J:Bool) (j:List UInt8) (s d:Nat) (xs:List UInt8) (W:j.length % 2=0) (X:s<=65535) (Y:d<=65535) (Z:8+xs.length<=65535) :
 jK J j (dgB j s d xs)=0/\beN (dgB j s d xs) 0 2=s/\beN (dgB j s d xs) 2 2=d/\(dgB j s d xs).length=8+xs.length/\(dgB j s d xs).drop 8=xs:=by
 obtain⟨C,E⟩:∃C,ckP (65535 - ones (tot false (j++dg0 s d xs)))=C:=⟨_,rfl⟩
 have G:=ckP_le (65535 - ones (tot false (j++dg0 s d xs))) (by omega);rw[E]at G;have L:ones (tot false (j++dgB j s d xs))=65535:=by
  unfold dgB;rw[E,aQ2 j (dg0 s d xs) 6 C G.1 (by rw[zD];omega) (dg0_zero s d xs) (by omega),<-E];exact ones_ck _
 have A:dgB j s d xs=beB s 2++(beB d 2++(beB (8+xs.length) 2++(beB C 2++xs))):=by
  unfold dgB;rw[E];exact dg_form s d C xs
 have I:(dgB j s d xs).length=8+xs.length:=by rw[A];simp[aR];omega
 have N:beN (dgB j s d xs) 0 2=s:=by
  rw[A];exact aEw s 2 [] _ 0 rfl (by omega)
 have O:beN (dgB j s d xs) 2 2=d:=by
  rw[A];exact aEw d 2 (beB s 2) _ 2 (aR _ _) (by omega)
 have U:beN (dgB j s d xs) 4 2=8+xs.length:=by
  rw[A,<-eDa];exact aEw (8+xs.length) 2 (beB s 2++beB d 2) _ 4 (by simp[aR]) (by omega)
 have V:beN (dgB j s d xs) 6 2=C:=by
  rw[A,<-eDa,<-eDa];exact aEw C 2 ((beB s 2++beB d 2)++beB (8+xs.length) 2) _ 6 (by simp[aR]) (by omega)
 refine⟨?_,N,O,I,?_⟩
 .unfold jK;rw[I,U,V,L,bAa (by omega),bAa (by simp),bAa G.2,bBa rfl]
 .rw[A];simp[aEh]
def uY (v6:Bool) (ps:List UInt8):List UInt8:=if v6=true then ps else[]
def vT (cs ab:Array Value):Array Value:=pE (cs.setIfInBounds 12 (.bool true)) 13 ab.toList
def aCh (K1 K2:Nat) (y:Value) (w w':World) (e:Ending):Prop :=
 ((K1≠0->e=.returned (.tuple #[.agg pkZ,.int .i64 (K1:Int)]))/\(K1=0->K2≠0->e=.returned (.tuple #[.agg pkZ,.int .i64 (K2:Int)]))/\(K1=0->K2=0->e=.returned (.tuple #[y,.int .i64 0])))/\Below w.heap.size w w'
theorem aAi(w:World)(a b:Array Value)(t u:TypeId):∃w',(w.alloc (.cells a t)).alloc (.cells b u)=w'/\Below w.heap.size w w'/\w'.heap[w.heap.size]?=some (.cells a t (0,0))/\w'.heap[w.heap.size+1]?=some (.cells b u (0,0))/\w.heap.size+2<=w'.heap.size :=
 ⟨_,rfl,bC.alloc (by simp) _,kE _ (by simp) (aJ _ _ _),by simpa using aJ (w.alloc (.cells a t)) u b,by simp⟩
theorem aLv(cs:Array Value)(bi:cs.size=23)(bj:cs.all (·.oneCell')=true)(Z:Bool)(h0:cs[0]?=some (.bool Z))(A P:Option Addr)(c d:Nat)(xs ps:List UInt8)(w:World)
 (hx:IsB w w.heap.size A xs.length xs) (hp:IsB w w.heap.size P ps.length ps) (hc:xs.length<=c) (cc:c<=maxLen)
 (K1:Nat) (ty cd wd:Int) (ds:List UInt8) (hP:aHz xs (uY Z ps) K1 ty cd wd ds) (K2:Nat) (G:Int) (I:Bool) (J L:Int) (N:Bool) (O U V W:Int) (hQ:aCi Z ty ds K2 G I J L N O U V W) :
 Cl 121 #[.agg cs,.slice A xs.length c,.slice P ps.length d] w fun e w'=>aCh K1 K2 (.agg (vT cs (tuA G N O U I J L W V))) w w' e:=by
 obtain⟨az,bc⟩:=eX (uY Z ps);rw[bc]at hP;obtain⟨P',d',bt,bd,be⟩:∃P' d',IsB w w.heap.size P' az.length az/\(Z=true->P'=P/\d'=d/\az.length=ps.length)/\(Z=false->P'=none/\d'=0/\az.length=0):=by
  subst bc;unfold uY;rcases Z with _|_
  .exact⟨none,0,IsB.nil _ _ _,(fun h=>by cases h),fun _=>⟨rfl,rfl,rfl⟩⟩
  .exact⟨P,d,hp,(fun _=>⟨rfl,rfl,rfl⟩),fun h=>by cases h⟩
 obtain⟨n,hn⟩:=eX xs.length;obtain⟨zs,ao⟩:=eX pkZ;obtain⟨w2,b3,an,a9,ba,db⟩:=aAi w cs pkZ 48 48;unfold pkZ at b3;rw[ao]at ba;have af:zs.size=23:=ao▸bG;have c2:Hid (zs.all (·.oneCell')=true):=q_ (ao▸jF);have b0:=q_ (hP A P' c d' w2 (hx.on an) (bt.on an) hc cc);have ch:=(aA a9 0).trans h0;rw[hn]at b0 ⊢;replace ⟨hx,hp,bt,a9,ba,an,hP,hQ,bc,bj,ao,h0⟩:=q_12 hx hp bt a9 ba an hP hQ bc bj ao h0;go_enter func121,ntmps121;go_upto_if 13 with fail
 clear b3;go_cut [2] (fun pv wx=>pv=.slice P' az.length d'/\w2=wx)
 case first =>
  rcases Z with _|_
  .obtain⟨rfl,rfl,h3⟩:=be rfl;clear be bd;go_wp2_with fail
   go_meet;exact⟨by rw[h3],rfl⟩
  .obtain⟨rfl,rfl,h3⟩:=bd rfl;clear be bd;go_wp2_with fail
   go_meet;exact⟨by rw[h3],rfl⟩
 case rest =>
 obtain⟨rfl,rfl⟩:=hcut;clear be bd ch;go_wp2_with fail
 refine b0.mono ?_;rintro e w3 ⟨A3,c3,rfl,b7,c0,c1,a2⟩;obtain⟨w4,a0⟩:=eX (w3.alloc (.cells #[.int .i64 ty,.int .i64 cd,.int .u32 wd,.slice A3 ds.length c3] 159));have z3:=a2.size;have ap:Below w3.heap.size w3 w4:=a0▸bC;have aq:=bN a0;have c5:w3.heap.size<w4.heap.size:=by rw[<-a0];simp
 have ag:=((tw an a2)).trans (ap.mono (by omega));have ah:=kB ap (kB a2 a9);have ai:=kB ap (kB a2 ba);have ar:=b7.on ap;clear a2 ap b7;by_cases bx:K1=0
 case neg =>
  have t1:((K1:Int) == 0)=false:=by rw[bDa];omega
  replace ⟨aq,ah,ai,ar,ag⟩:=q_5 aq ah ai ar ag;go_upto_region 5 with fail
  clear a0;apply aWa;refine pS ?_;refine pS ?_;refine bQ rfl 48 (.tmp 6) (.tmp 22) rfl (w.heap.size+1) 0 rfl pkZ rfl ai (by rw[af,bG];omega) bK jF fun X j Y=>?_;rw[aQ _ _ (by rw[af,bG])]at j;have au:=q_ (ag.trans (gB Y));have E:(loadVar 48 ⟨w.heap.size+1,0,none⟩).run prog X=.ok (.agg pkZ) X:=by
   simpa using run_loadVar_mid X (w.heap.size+1) 0 48 pkZ.toList _ (aM j) cMa rfl (by rw[bK];rfl)
  have av:Hid (aCh K1 K2 (.agg (vT cs (tuA G N O U I J L W V))) w X (.returned (.tuple #[.agg pkZ,.int .i64 (K1:Int)]))):=q_ (⟨⟨fun _=>rfl,fun h=>absurd h bx,fun h=>absurd h bx⟩,au⟩);clear Y;replace ⟨j,E⟩:=q_2 j E;refine pS ?_;refine bCa ?_;go_wp2_with fail
  exact aYa (v:=.tuple #[.agg pkZ,.int .i64 (K1:Int)]) (by simp[results,results121,asAddr,E.out,Result.andThen]) rfl av
 subst bx;have cj:=aA aq;have ck:=(aA ah 0).trans h0;have cl:=q_ (hQ cd wd A3 c3 w4 ar c0 c1);replace ⟨aq,ah,ai,ar,ag⟩:=q_5 aq ah ai ar ag;go_wp2_with fail
 refine cl.mono ?_;rintro e w5 ⟨rfl,a3⟩;clear a0 cj ck;obtain⟨w6,a1⟩:=eX (w5.alloc (.cells #[.int .i64 G,.bool I,.int .u64 J,.int .u64 L,.bool N,.int .u64 O,.int .u64 U,.int .i64 V,.int .i64 W] 46));have z5:=a3.size;have bb:Below w5.heap.size w5 w6:=a1▸bC;have aw:=bN a1;have c7:w5.heap.size<w6.heap.size:=by rw[<-a1];simp
 have aj:=((tw ag a3)).trans (bb.mono (by omega));have ax:=kB bb (kB a3 ah);have ak:=kB bb (kB a3 ai);clear a3 bb;by_cases b8:K2=0
 case neg =>
  have t1:((K2:Int) == 0)=false:=by rw[bDa];omega
  replace ⟨aw,ax,ak,aj⟩:=q_4 aw ax ak aj;go_upto_region 8 with fail
  clear a1;apply aWa;refine pS ?_;refine pS ?_;refine bQ rfl 48 (.tmp 6) (.tmp 33) rfl (w.heap.size+1) 0 rfl pkZ rfl ak (by rw[af,bG];omega) bK jF fun X j Y=>?_;rw[aQ _ _ (by rw[af,bG])]at j;have au:=q_ (aj.trans (gB Y));have E:(loadVar 48 ⟨w.heap.size+1,0,none⟩).run prog X=.ok (.agg pkZ) X:=by
   simpa using run_loadVar_mid X (w.heap.size+1) 0 48 pkZ.toList _ (aM j) cMa rfl (by rw[bK];rfl)
  have av:Hid (aCh 0 K2 (.agg (vT cs (tuA G N O U I J L W V))) w X (.returned (.tuple #[.agg pkZ,.int .i64 (K2:Int)]))):=q_ (⟨⟨fun h=>absurd rfl h,fun _ _=>rfl,fun _ h=>absurd h b8⟩,au⟩);clear Y;replace ⟨j,E⟩:=q_2 j E;refine pS ?_;refine bCa ?_;go_wp2_with fail
  exact aYa (v:=.tuple #[.agg pkZ,.int .i64 (K2:Int)]) (by simp[results,results121,asAddr,E.out,Result.andThen]) rfl av
 subst b8;have cm:=q_ (aWw G V W I N J L O U w6);have cn:=aA aw;replace ⟨aw,ax,ak,aj⟩:=q_4 aw ax ak aj;go_wp2_with fail
 refine cm.mono ?_;rintro e w7 ⟨rfl,a4⟩;clear a1 cn;have z7:=a4.size;have co:=q_ ((tw aj a4));have bq:=q_ (kB a4 ax);have cp:=q_ (kB a4 ak);clear a4;have cq:∃x,cs[12]?=some x:=⟨_,dXa (by omega)⟩
 obtain⟨dc,b4⟩:=cq;have cr:=(aA bq 12).trans b4;have ct:=bD bq 12;obtain⟨w8,e8,br,g8⟩:=eY bq 12 (.bool true);have z8:=g8.size;have cu:=q_ (co.trans (gB g8));have cv:=q_ (fC g8 (by omega) (by omega) cp);clear g8 b4;replace br:=q_ br;dsimp only;rename_i b9;refine b9 _ _ ?_;clear b9;refine pS ?_;refine pS ?_;refine pS ?_;clear cr ct e8;refine bQ rfl 46 (.tmp 38) (.tmp 36) rfl w.heap.size 13 rfl (tuA G N O U I J L W V) rfl br (by rw[bQa,bi];exact(show 13+9<=23 by omega)) qK (zU _ _ _ _ _ _ _ _ _) fun X j Y=>?_;have z9:=Y.size;have cw:=q_ (fC Y (by omega) (by omega) cv);have au:=q_ (cu.trans (gB Y));obtain⟨ab,al⟩:=eX (pE (cs.setIfInBounds 12 (.bool true)) 13 (tuA G N O U I J L W V).toList);have ay:ab.size=23:=by
  rw[<-al,yT _ _ _ (by rw[bQa,bi];exact(show 13+9<=23 by omega)),bQa,bi]
 have bs:ab.all (·.oneCell')=true:=by
  rw[<-al];refine aH1 ?_ ?_
  .refine Array.all_eq_true_iff_forall_mem.2 fun v hv=>?_;rcases Array.mem_or_eq_of_mem_setIfInBounds hv with h|h
   .exact Array.all_eq_true_iff_forall_mem.1 bj v h
   .rw[h];rfl
  .have:=zU G N O U I J L W V;simpa using this
 rw[al]at j;clear Y;replace ⟨j,al,bs⟩:=q_3 j al bs;refine bCa ?_;go_upto_region 10 with fail
 apply aWa;refine uH rfl 48 (.tmp 3) rfl w.heap.size rfl ab _ j cMa rfl (by rw[bK,ay]) ?_;refine bQ rfl 48 (.tmp 6) (.tmp 39) rfl (w.heap.size+1) 0 rfl ab rfl cw (by rw[af,ay];omega) (by rw[bK,ay]) bs fun a7 a8 bz=>?_;rw[aQ _ _ (by rw[af,ay])]at a8;have cx:=q_ (au.trans (gB bz));have E:(loadVar 48 ⟨w.heap.size+1,0,none⟩).run prog a7=.ok (.agg ab) a7:=by
  simpa using run_loadVar_mid a7 (w.heap.size+1) 0 48 ab.toList _ (aM a8) cMa rfl (by rw[bK,bUa,ay])
 have av:Hid (aCh 0 0 (.agg (vT cs (tuA G N O U I J L W V))) w a7 (.returned (.tuple #[.agg ab,.int .i64 0]))):=q_ (⟨⟨fun h=>absurd rfl h,fun _ h=>absurd rfl h,fun _ _=>by unfold vT;rw[al.out]⟩,cx⟩);clear bz;replace ⟨a8,E⟩:=q_2 a8 E;refine pS ?_;refine bCa ?_;go_wp2_with fail
 exact aYa (v:=.tuple #[.agg ab,.int .i64 0]) (by simp[results,results121,asAddr,E.out,Result.andThen]) rfl av
def mD (K:Nat) (y:Array Value) (w w':World) (e:Ending):Prop:=e=.returned (.tuple #[.agg (if K=0 then y else pkZ),.int .i64 (K:Int)])/\Below w.heap.size w w'
theorem qW(K:Nat)(j:K≠0){w:World}(A:Below w.heap.size w w'):mD K y w w' (.returned (.tuple #[.agg pkZ,.int .i64 (K:Int)])):=⟨by rw[bAa j],A⟩
theorem aMf{w:World}(j:Below w.heap.size w w'):mD 0 y w w' (.returned (.tuple #[.agg y,.int .i64 0])):=⟨by rw[bBa rfl];rfl,j⟩
theorem one_set{cs:Array Value}(h:cs.all (·.oneCell')=true)(i:Nat)(A:v.oneCell'=true):(cs.setIfInBounds i v).all (·.oneCell')=true:=by
 refine Array.all_eq_true_iff_forall_mem.2 fun u E=>?_;rcases Array.mem_or_eq_of_mem_setIfInBounds E with j|j
 .exact Array.all_eq_true_iff_forall_mem.1 h u j
 .rw[j];exact A
theorem qZ{w:World}(h:w.grownBy w' (some g))(E:S<=w.heap.size){q:Nat}(j:g=q):aV S (fun k=>k=q) w w' :=
 ⟨h.os,h.tape,h.output,h.size,fun k G A=>h.block k (by omega) (fun e=>by cases e;exact A j)⟩
def aAu (cs:Array Value) (sp dp:Nat):Array Value:=(cs.setIfInBounds 8 (.int .i64 (sp:Int))).setIfInBounds 9 (.int .i64 (dp:Int))
def tcpA (cs:Array Value) (sp dp fl:Nat):Array Value:=((cs.setIfInBounds 8 (.int .i64 (sp:Int))).setIfInBounds 9 (.int .i64 (dp:Int))).setIfInBounds 11 (.int .i64 (fl:Int))
theorem aEi(cs:Array Value)(bs:cs.size=23)(a1:cs.all (·.oneCell')=true)(v6:Bool)(h0:cs[0]?=some (.bool v6))(pr:Int)(h1:cs[1]?=some (.int .i64 pr))(bu:Int)(A P:Option Addr)(c d:Nat)(xs G:List UInt8)(w:World)
 (hx:IsB w w.heap.size A xs.length xs) (hp:IsB w w.heap.size P G.length G) (hc:xs.length<=c) (bw:c<=maxLen) (bx:xs.length<=1099511627776) (hm:G.length<=maxLen) (b0:pr=6) (K:Nat) (j:jV G xs=K) (y:Array Value) (O:K=0->y=tcpA cs (kM K xs 0) (kM K xs 2) (wQ K xs)) :
 Cl 78 #[.agg cs,.slice A xs.length c,.slice P G.length d,.int .i64 bu] w fun e w'=>mD K y w w' e:=by
 subst b0;obtain⟨n,hn⟩:=eX xs.length;obtain⟨pn,bg⟩:∃n,G.length=n:=⟨_,rfl⟩
 obtain⟨zs,ar⟩:=eX pkZ;obtain⟨w2,cu,ac,ab,aq,da⟩:=aAi w cs pkZ 48 48;unfold pkZ at cu;rw[ar]at aq;have ap:zs.size=23:=ar▸bG;have b1:=(aA ab 0).trans h0;have b2:=(aA ab 1).trans h1;have z0:True:=trivial;rw[hn,bg];replace ⟨hx,hp,ab,aq,ac,a1,ar,h0,h1,j,O⟩:=q_11 hx hp ab aq ac a1 ar h0 h1 j O;go_enter func78,ntmps78;have bc:=q_ (aLi A P xs.length c G.length d xs G w2 (hx.on ac) (hp.on ac) hc bw bx hm K j);rw[hn,bg]at bc;go_wp2_with fail
 refine bc.mono ?_;rintro e w3 ⟨sq,ak,wn,ug,A3,n3,c3,A4,n4,c4,rfl,al⟩;clear b1 b2;obtain⟨s0,au⟩:∃s,kM K xs 0=s:=⟨_,rfl⟩
 obtain⟨s2,U⟩:∃s,kM K xs 2=s:=⟨_,rfl⟩
 obtain⟨fl,av⟩:∃s,wQ K xs=s:=⟨_,rfl⟩
 rw[au,U,av]at O;rw[au,U,av];replace ⟨O,au,U,av⟩:=q_4 O au U av;obtain⟨I,ay⟩:=eX (w3.alloc (.cells #[.int .i64 (s0:Int),.int .i64 (s2:Int),.int .u32 sq,.int .u32 ak,.int .i64 (fl:Int),.int .i64 wn,.int .i64 ug,.slice A3 n3 c3] 248));have z3:=al.size;have aw:Below w3.heap.size w3 I:=ay▸bC;have b3:Hid (I.heap[w3.heap.size]?=some (.cells #[.int .i64 (s0:Int),.int .i64 (s2:Int),.int .u32 sq,.int .u32 ak,.int .i64 (fl:Int),.int .i64 wn,.int .i64 ug,.slice A3 n3 c3] 248 (0,0))):=q_ (ay▸aJ _ _ _);have c1:w3.heap.size<I.heap.size:=by rw[<-ay];simp
 have bd:=q_ (((tw ac al)).trans (aw.mono (by omega)));have b4:=q_ (kB aw (kB al ab));have be:=q_ (kB aw (kB al aq));clear al aw;by_cases br:K=0
 case neg =>
  have t3:((K:Int) == 0)=false:=by rw[bDa];omega
  go_upto_region 6 with fail
  apply aWa;refine pS ?_;refine pS ?_;refine bQ rfl 48 (.tmp 8) (.tmp 31) rfl (w.heap.size+1) 0 rfl pkZ rfl be (by rw[ap,bG];omega) bK jF fun J E g9=>?_;rw[aQ _ _ (by rw[ap,bG])]at E;have a6:=q_ (bd.trans (gB g9));have L:(loadVar 48 ⟨w.heap.size+1,0,none⟩).run prog J=.ok (.agg pkZ) J:=by
   simpa using run_loadVar_mid J (w.heap.size+1) 0 48 pkZ.toList _ (aM E) cMa rfl (by rw[bK,bUa,bG])
  have a7:=q_ (qW (y:=y) (K:Nat) br a6);clear g9;replace ⟨E,L⟩:=q_2 E L;refine pS ?_;refine bCa ?_;go_wp2_with fail
  exact aYa (v:=.tuple #[.agg pkZ,.int .i64 (K:Int)]) (by simp[results,results78,asAddr,L.out,Result.andThen]) rfl a7
 subst br;go_upto_region 7 with fail
 clear ay;refine yH I.heap.size (fun k=>k=w.heap.size) (by as_aux_lemma=>kernel_rfl) ?_;intro wd N;have zd:=N.size;have b5:=q_ (kB N b3);have a8:=q_ (kB N b4);have b6:=q_ (kB N be);have b7:=q_ ((tw bd N));have b8:=fun(l:yJ I.heap.size (fun k=>k=w.heap.size) wd) (o:Nat)=>aA (l.blk b5 (by omega) (by omega)) o
 replace N:=q_ N;refine xW I.heap.size (fun k=>k=w.heap.size) 0 8 (fuel:=6) (by as_aux_lemma=>kernel_rfl) (fun d _ _ _ _ h=>by cases d<;>exact h) (by as_aux_lemma=>kernel_rfl) (by as_aux_lemma=>kernel_rfl) ?_;simp only[dA,dC,dD];iterate 8(refine uG (fun K j=>?_);go_simp;refine j _ ?_;clear j K)
 refine aN ?_;obtain⟨x1,bh⟩:∃x,cs[8]?=some x:=⟨_,dXa (by omega)⟩
 have ad:=(aA a8 8).trans bh;have ae:=bD a8 8;obtain⟨dc,cv,V,ag⟩:=eY a8 8 (.int .i64 (s0:Int));obtain⟨az,W⟩:∃x,cs.setIfInBounds 8 (.int .i64 (s0:Int))=x:=⟨_,rfl⟩
 rw[W]at V;have b9:az.size=23:=by rw[<-W,bQa,bs]
 have ca:Hid (az.all (·.oneCell')=true):=q_ (by rw[<-W];exact one_set a1 _ rfl);have c6:=ag.size;have cc:=q_ (fC ag (by omega) (by omega) b6);have cd:=q_ (b7.trans (gB ag));clear bh;replace ⟨V,W⟩:=q_2 V W;refine fS 8 rfl fun K j=>?_;go_simp;refine j _ _ (qZ ag (by omega) rfl) ?_;clear j K ad ae cv ag;refine xW I.heap.size (fun k=>k=w.heap.size) 9 2 (fuel:=3) (by as_aux_lemma=>kernel_rfl) (fun d _ _ _ _ h=>by cases d<;>exact h) (by as_aux_lemma=>kernel_rfl) (by as_aux_lemma=>kernel_rfl) ?_;simp only[dB,dA,dC,dD];iterate 2(refine uG (fun K j=>?_);go_simp;refine j _ ?_;clear j K)
 refine aN ?_;obtain⟨x2,bi⟩:∃x,az[9]?=some x:=⟨_,dXa (by omega)⟩
 have ad:=(aA V 9).trans bi;have ae:=bD V 9;obtain⟨de,cw,X,ah⟩:=eY V 9 (.int .i64 (s2:Int));obtain⟨a0,Y⟩:∃x,az.setIfInBounds 9 (.int .i64 (s2:Int))=x:=⟨_,rfl⟩
 rw[Y]at X;have U:a0.size=23:=by rw[<-Y,bQa,b9]
 have ce:Hid (a0.all (·.oneCell')=true):=q_ (by rw[<-Y];exact one_set ca _ rfl);have c7:=ah.size;have cg:=q_ (fC ah (by omega) (by omega) cc);have ch:=q_ (cd.trans (gB ah));clear bi;replace ⟨X,Y⟩:=q_2 X Y;refine fS 11 rfl fun K j=>?_;go_simp;refine j _ _ (qZ ah (by omega) rfl) ?_;clear j K ad ae cw ah;refine xW I.heap.size (fun k=>k=w.heap.size) 12 1 (fuel:=1) (by as_aux_lemma=>kernel_rfl) (fun d _ _ _ _ h=>by cases d<;>exact h) (by as_aux_lemma=>kernel_rfl) (by as_aux_lemma=>kernel_rfl) ?_;simp only[dB,dA,dC,dD];refine uG (fun K j=>?_);go_simp;refine j _ ?_;clear j K;refine aN ?_;obtain⟨x3,bj⟩:∃x,a0[11]?=some x:=⟨_,dXa (by omega)⟩
 have ad:=(aA X 11).trans bj;have ae:=bD X 11;obtain⟨dg,cx,ax,ai⟩:=eY X 11 (.int .i64 (fl:Int));obtain⟨ba,Z⟩:∃x,a0.setIfInBounds 11 (.int .i64 (fl:Int))=x:=⟨_,rfl⟩
 rw[Z]at ax;have ci:ba.size=23:=by rw[<-Z,bQa,U]
 have cj:Hid (ba.all (·.oneCell')=true):=q_ (by rw[<-Z];exact one_set ce _ rfl);have c8:=ai.size;have ck:=q_ (fC ai (by omega) (by omega) cg);have cl:=q_ (ch.trans (gB ai));clear bj;replace ⟨ax,Z⟩:=q_2 ax Z;refine fS 13 rfl fun K j=>?_;go_simp;refine j _ _ (qZ ai (by omega) rfl) ?_;clear j K ad ae cx ai;refine fD ?_;have cm:y=ba:=by
  have h9:=O (by simp);unfold tcpA at h9;rw[W.out,Y.out,Z.out]at h9;exact h9
 subst cm;have cn:=q_ ax;have co:=q_ ck;have cp:=q_ cl;have af:=ci;have cq:=q_ cj;clear b8;go_upto_region 15 with fail
 apply aWa;refine uH rfl 48 (.tmp 4) rfl w.heap.size rfl y _ cn cMa rfl (by rw[bK,af]) ?_;refine bQ rfl 48 (.tmp 8) (.tmp 77) rfl (w.heap.size+1) 0 rfl y rfl co (by rw[ap,af];omega) (by rw[bK,af]) cq fun J E g9=>?_;rw[aQ _ _ (by rw[ap,af])]at E;have a6:=q_ (cp.trans (gB g9));have L:(loadVar 48 ⟨w.heap.size+1,0,none⟩).run prog J=.ok (.agg y) J:=by
  simpa using run_loadVar_mid J (w.heap.size+1) 0 48 y.toList _ (aM E) cMa rfl (by rw[bK,bUa,af])
 have a7:=q_ (aMf (y:=y) a6);clear g9;replace ⟨E,L⟩:=q_2 E L;refine pS ?_;refine bCa ?_;go_wp2_with fail
 exact aYa (v:=.tuple #[.agg y,.int .i64 0]) (by simp[results,results78,asAddr,L.out,Result.andThen]) rfl a7
theorem aEj(cs:Array Value)(bh:cs.size=23)(aq:cs.all (·.oneCell')=true)(v6:Bool)(h0:cs[0]?=some (.bool v6))(pr:Int)(h1:cs[1]?=some (.int .i64 pr))(bi:Int)(A P:Option Addr)(c d:Nat)(xs G:List UInt8)(w:World)
 (hx:IsB w w.heap.size A xs.length xs) (hp:IsB w w.heap.size P G.length G) (hc:xs.length<=c) (bk:c<=maxLen) (bl:xs.length<=1099511627776) (hm:G.length<=maxLen) (bn:pr=17) (K:Nat) (j:jK (!v6) G xs=K) (y:Array Value) (O:K=0->y=aAu cs (kN K xs 0) (kN K xs 2)) :
 Cl 78 #[.agg cs,.slice A xs.length c,.slice P G.length d,.int .i64 bi] w fun e w'=>mD K y w w' e:=by
 subst bn;obtain⟨n,hn⟩:=eX xs.length;obtain⟨pn,bc⟩:∃n,G.length=n:=⟨_,rfl⟩
 obtain⟨zs,ak⟩:=eX pkZ;obtain⟨w2,cc,aa,Z,aj,cp⟩:=aAi w cs pkZ 48 48;unfold pkZ at cc;rw[ak]at aj;have ai:zs.size=23:=ak▸bG;have bo:=(aA Z 0).trans h0;have bp:=(aA Z 1).trans h1;have z0:True:=trivial;rw[hn,bc];replace ⟨hx,hp,Z,aj,aa,aq,ak,h0,h1,j,O⟩:=q_11 hx hp Z aj aa aq ak h0 h1 j O;go_enter func78,ntmps78;have a7:=q_ (aLj A P xs.length c G.length d xs G (!v6) w2 (hx.on aa) (hp.on aa) hc bk bl hm K j);rw[hn,bc]at a7;go_wp2_with fail
 refine a7.mono ?_;rintro e w3 ⟨A3,n3,c3,rfl,_,_,_,af⟩;clear bo bp;obtain⟨s0,al⟩:∃s,kN K xs 0=s:=⟨_,rfl⟩
 obtain⟨s2,U⟩:∃s,kN K xs 2=s:=⟨_,rfl⟩
 obtain⟨bb,ay⟩:∃s,aG7 K xs=s:=⟨_,rfl⟩
 rw[al,U]at O;rw[al,U,ay];replace ⟨O,al,U,ay⟩:=q_4 O al U ay;obtain⟨N,ao⟩:=eX (w3.alloc (.cells #[.int .i64 (s0:Int),.int .i64 (s2:Int),.bool bb] 148));have z3:=af.size;have am:Below w3.heap.size w3 N:=ao▸bC;have bq:Hid (N.heap[w3.heap.size]?=some (.cells #[.int .i64 (s0:Int),.int .i64 (s2:Int),.bool bb] 148 (0,0))):=q_ (ao▸aJ _ _ _);have cj:w3.heap.size<N.heap.size:=by rw[<-ao];simp
 have a8:=q_ (((tw aa af)).trans (am.mono (by omega)));have br:=q_ (kB am (kB af Z));have a9:=q_ (kB am (kB af aj));clear af am;by_cases bg:K=0
 case neg =>
  have t3:((K:Int) == 0)=false:=by rw[bDa];omega
  go_upto_region 11 with fail
  apply aWa;refine pS ?_;refine pS ?_;refine bQ rfl 48 (.tmp 8) (.tmp 58) rfl (w.heap.size+1) 0 rfl pkZ rfl a9 (by rw[ai,bG];omega) bK jF fun I E Y=>?_;rw[aQ _ _ (by rw[ai,bG])]at E;have az:=q_ (a8.trans (gB Y));have J:(loadVar 48 ⟨w.heap.size+1,0,none⟩).run prog I=.ok (.agg pkZ) I:=by
   simpa using run_loadVar_mid I (w.heap.size+1) 0 48 pkZ.toList _ (aM E) cMa rfl (by rw[bK,bUa,bG])
  have a0:=q_ (qW (y:=y) (K:Nat) bg az);clear Y;replace ⟨E,J⟩:=q_2 E J;refine pS ?_;refine bCa ?_;go_wp2_with fail
  exact aYa (v:=.tuple #[.agg pkZ,.int .i64 (K:Int)]) (by simp[results,results78,asAddr,J.out,Result.andThen]) rfl a0
 subst bg;go_upto_region 12 with fail
 clear ao;refine yH N.heap.size (fun k=>k=w.heap.size) (by as_aux_lemma=>kernel_rfl) ?_;intro wd L;have zd:=L.size;have bs:=q_ (kB L bq);have a1:=q_ (kB L br);have bt:=q_ (kB L a9);have bu:=q_ ((tw a8 L));have bv:=fun(l:yJ N.heap.size (fun k=>k=w.heap.size) wd) (o:Nat)=>aA (l.blk bs (by omega) (by omega)) o
 replace L:=q_ L;refine xW N.heap.size (fun k=>k=w.heap.size) 0 6 (fuel:=4) (by as_aux_lemma=>kernel_rfl) (fun d _ _ _ _ h=>by cases d<;>exact h) (by as_aux_lemma=>kernel_rfl) (by as_aux_lemma=>kernel_rfl) ?_;simp only[dA,dC,dD];iterate 6(refine uG (fun K j=>?_);go_simp;refine j _ ?_;clear j K)
 refine aN ?_;obtain⟨x1,be⟩:∃x,cs[8]?=some x:=⟨_,dXa (by omega)⟩
 have a2:=(aA a1 8).trans be;have a3:=bD a1 8;obtain⟨cr,cd,V,ac⟩:=eY a1 8 (.int .i64 (s0:Int));obtain⟨ap,W⟩:∃x,cs.setIfInBounds 8 (.int .i64 (s0:Int))=x:=⟨_,rfl⟩
 rw[W]at V;have bw:ap.size=23:=by rw[<-W,bQa,bh]
 have bx:Hid (ap.all (·.oneCell')=true):=q_ (by rw[<-W];exact one_set aq _ rfl);have cm:=ac.size;have bz:=q_ (fC ac (by omega) (by omega) bt);have b0:=q_ (bu.trans (gB ac));clear be;replace ⟨V,W⟩:=q_2 V W;refine fS 6 rfl fun K j=>?_;go_simp;refine j _ _ (qZ ac (by omega) rfl) ?_;clear j K a2 a3 cd ac;refine xW N.heap.size (fun k=>k=w.heap.size) 7 2 (fuel:=1) (by as_aux_lemma=>kernel_rfl) (fun d _ _ _ _ h=>by cases d<;>exact h) (by as_aux_lemma=>kernel_rfl) (by as_aux_lemma=>kernel_rfl) ?_;simp only[dB,dA,dC,dD];iterate 2(refine uG (fun K j=>?_);go_simp;refine j _ ?_;clear j K)
 refine aN ?_;obtain⟨x2,bf⟩:∃x,ap[9]?=some x:=⟨_,dXa (by omega)⟩
 have a2:=(aA V 9).trans bf;have a3:=bD V 9;obtain⟨cu,ce,an,ad⟩:=eY V 9 (.int .i64 (s2:Int));obtain⟨a5,X⟩:∃x,ap.setIfInBounds 9 (.int .i64 (s2:Int))=x:=⟨_,rfl⟩
 rw[X]at an;have U:a5.size=23:=by rw[<-X,bQa,bw]
 have b1:Hid (a5.all (·.oneCell')=true):=q_ (by rw[<-X];exact one_set bx _ rfl);have cn:=ad.size;have b2:=q_ (fC ad (by omega) (by omega) bz);have b3:=q_ (b0.trans (gB ad));clear bf;replace ⟨an,X⟩:=q_2 an X;refine fS 9 rfl fun K j=>?_;go_simp;refine j _ _ (qZ ad (by omega) rfl) ?_;clear j K a2 a3 ce ad;refine fD ?_;have b4:y=a5:=by
  have h9:=O (by simp);unfold aAu at h9;rw[W.out,X.out]at h9;exact h9
 subst b4;have b5:=q_ an;have b6:=q_ b2;have b7:=q_ b3;have ab:=U;have b8:=q_ b1;clear bv;go_upto_region 15 with fail
 apply aWa;refine uH rfl 48 (.tmp 4) rfl w.heap.size rfl y _ b5 cMa rfl (by rw[bK,ab]) ?_;refine bQ rfl 48 (.tmp 8) (.tmp 77) rfl (w.heap.size+1) 0 rfl y rfl b6 (by rw[ai,ab];omega) (by rw[bK,ab]) b8 fun I E Y=>?_;rw[aQ _ _ (by rw[ai,ab])]at E;have az:=q_ (b7.trans (gB Y));have J:(loadVar 48 ⟨w.heap.size+1,0,none⟩).run prog I=.ok (.agg y) I:=by
  simpa using run_loadVar_mid I (w.heap.size+1) 0 48 y.toList _ (aM E) cMa rfl (by rw[bK,bUa,ab])
 have a0:=q_ (aMf (y:=y) az);clear Y;replace ⟨E,J⟩:=q_2 E J;refine pS ?_;refine bCa ?_;go_wp2_with fail
 exact aYa (v:=.tuple #[.agg y,.int .i64 0]) (by simp[results,results78,asAddr,J.out,Result.andThen]) rfl a0
theorem aHq(cs:Array Value)(_hcs:cs.size=23)(Y:cs.all (·.oneCell')=true)(v6:Bool)(N:cs[0]?=some (.bool v6))(j:Int)(O:cs[1]?=some (.int .i64 j))(U:Int)(A P:Option Addr)(c d:Nat)(xs E:List UInt8)(w:World)
 (Z:IsB w w.heap.size A xs.length xs) (hp:IsB w w.heap.size P E.length E) (_hc:xs.length<=c) (_hcm:c<=maxLen) (_hnm:xs.length<=1099511627776) (_hm:E.length<=maxLen) (ab:j≠6) (ac:j≠17) (ad:j≠U) (y:Array Value) :
 Cl 78 #[.agg cs,.slice A xs.length c,.slice P E.length d,.int .i64 U] w fun e w'=>mD 14 y w w' e:=by
 obtain⟨n,hn⟩:=eX xs.length;obtain⟨pn,an⟩:∃n,E.length=n:=⟨_,rfl⟩
 obtain⟨zs,L⟩:=eX pkZ;obtain⟨w2,ag,W,I,J,aw⟩:=aAi w cs pkZ 48 48;unfold pkZ at ag;rw[L]at J;have af:zs.size=23:=L▸bG;have ai:=(aA I 0).trans N;have aj:=(aA I 1).trans O;have t1:(j == 6)=false:=by simpa using ab
 have t2:(j == 17)=false:=by simpa using ac
 have t3:(j == U)=false:=by simpa using ad
 rw[hn,an];clear ab ac ad;replace ⟨Z,hp,I,J,W,Y,L,N,O⟩:=q_9 Z hp I J W Y L N O;go_enter func78,ntmps78;go_upto_region 2 with fail
 clear ag ai aj;apply aWa;refine pS ?_;refine bQ rfl 48 (.tmp 8) (.tmp 19) rfl (w.heap.size+1) 0 rfl pkZ rfl J (by rw[af,bG];omega) bK jF fun V G g9=>?_;rw[aQ _ _ (by rw[af,bG])]at G;have ak:=q_ (W.trans (gB g9));have X:(loadVar 48 ⟨w.heap.size+1,0,none⟩).run prog V=.ok (.agg pkZ) V:=by
  simpa using run_loadVar_mid V (w.heap.size+1) 0 48 pkZ.toList _ (aM G) cMa rfl (by rw[bK,bUa,bG])
 have al:=q_ (qW (y:=y) 14 (by omega) ak);clear g9;replace ⟨G,X⟩:=q_2 G X;refine pS ?_;refine bCa ?_;go_wp2_with fail
 exact aYa (v:=.tuple #[.agg pkZ,.int .i64 (14:Int)]) (by simp[results,results78,asAddr,X.out,Result.andThen]) rfl al
theorem aK6(cs:Array Value)(af:cs.size=23)(ag:cs.all (·.oneCell')=true)(v6:Bool)(h0:cs[0]?=some (.bool v6))(L:Int)(j:cs[1]?=some (.int .i64 L))(a0:Int)(A P:Option Addr)(c d:Nat)(xs E:List UInt8)(w:World)
 (hx:IsB w w.heap.size A xs.length xs) (hp:IsB w w.heap.size P E.length E) (hc:xs.length<=c) (bg:c<=maxLen) (_hnm:xs.length<=1099511627776) (_hm:E.length<=maxLen) (a1:L≠6) (a2:L≠17) (bh:L=a0)
 (G:Nat) (ty cd wd:Int) (ds:List UInt8) (hP:aHz xs (uY v6 E) G ty cd wd ds) (N:Nat) (O:Int) (U:Bool) (V W:Int) (X:Bool) (Y Z sp dp:Int) (hQ:aCi v6 ty ds N O U V W X Y Z sp dp) :
 Cl 78 #[.agg cs,.slice A xs.length c,.slice P E.length d,.int .i64 a0] w fun e w'=>mD (if G≠0 then G else N) (vT cs (tuA O X Y Z U V W dp sp)) w w' e:=by
 subst bh;obtain⟨n,hn⟩:=eX xs.length;obtain⟨pn,ba⟩:∃n,E.length=n:=⟨_,rfl⟩
 obtain⟨zs,am⟩:=eX pkZ;obtain⟨w2,bb,ad,ac,al,bz⟩:=aAi w cs pkZ 48 48;unfold pkZ at bb;rw[am]at al;have a7:zs.size=23:=am▸bG;have bk:=(aA ac 0).trans h0;have bl:=(aA ac 1).trans j;have t1:(L == 6)=false:=by simpa using a1
 have t2:(L == 17)=false:=by simpa using a2
 have au:=q_ (aLv cs af ag v6 h0 A P c d xs E w2 (hx.on ad) (hp.on ad) hc bg G ty cd wd ds hP N O U V W X Y Z sp dp hQ);rw[hn,ba]at au;rw[hn,ba];clear a1 a2;obtain⟨y,hy⟩:=eX (vT cs (tuA O X Y Z U V W dp sp));rw[hy]at au ⊢;have bm:y.size=23:=by
  rw[<-hy];unfold vT;rw[yT _ _ _ (by rw[bQa,af];exact(show 13+9<=23 by omega)),bQa,af]
 have av:y.all (·.oneCell')=true:=by
  rw[<-hy];exact aH1 (one_set ag _ rfl) (by simpa using zU O X Y Z U V W dp sp)
 obtain⟨I,J⟩:∃I,(if G≠0 then G else N)=I:=⟨_,rfl⟩
 rw[J];replace ⟨hx,hp,ac,al,ad,ag,am,h0,j,hy,av,J⟩:=q_12 hx hp ac al ad ag am h0 j hy av J;go_enter func78,ntmps78;go_upto_region 14 with fail
 clear bb bk bl;apply aWa;refine uH rfl 48 (.tmp 4) rfl w.heap.size rfl cs _ ac cMa rfl (by rw[bK,af]) ?_;refine pS ?_;refine pS ?_;refine bRa rfl fun K hK=>?_;go_simp;go_at_call 121;refine au.mono ?_;rintro e w3 ⟨⟨r1,r2,r3⟩,ao⟩;obtain⟨z,rfl,hz,aw,ax⟩:∃z:Array Value,e=.returned (.tuple #[.agg z,.int .i64 (I:Int)])/\z.size=23/\z.all (·.oneCell')=true/\(if I=0 then y else pkZ)=z:=by
  by_cases j:G=0
  .rw[bAa (fun h=>h j)]at J;have a8:=J.out;by_cases h2:N=0
   .refine⟨y,by rw[r3 j h2,<-a8,h2];rfl,bm,av,by rw[bBa (by omega)]⟩
   .refine⟨pkZ,by rw[r2 j h2,<-a8],bG,jF,by rw[bAa (by omega)]⟩
  .rw[bBa j]at J;have bn:=J.out;exact⟨pkZ,by rw[r1 j,<-bn],bG,jF,by rw[bAa (by omega)]⟩
 have z3:=ao.size;have bo:=q_ ((tw ad ao));have bp:=q_ (kB ao al);clear r1 r2 r3 ao;replace ⟨aw,ax⟩:=q_2 aw ax;refine hK _ _ ?_;clear hK K;refine pS ?_;refine pS ?_;refine bQ rfl 48 (.tmp 8) (.tmp 75) rfl (w.heap.size+1) 0 rfl z rfl bp (by rw[a7,hz];omega) (by rw[bK,hz]) aw fun w9 ak g9=>?_;rw[aQ _ _ (by rw[a7,hz])]at ak;have bq:=q_ (bo.trans (gB g9));have ay:(loadVar 48 ⟨w.heap.size+1,0,none⟩).run prog w9=.ok (.agg z) w9:=by
  simpa using run_loadVar_mid w9 (w.heap.size+1) 0 48 z.toList _ (aM ak) cMa rfl (by rw[bK,bUa,hz])
 have br:Hid (mD I y w w9 (.returned (.tuple #[.agg z,.int .i64 (I:Int)]))):=q_ (⟨by rw[ax.out],bq⟩);clear g9;replace ⟨ak,ay⟩:=q_2 ak ay;refine pS ?_;refine bCa ?_;go_wp2_with fail
 exact aYa (v:=.tuple #[.agg z,.int .i64 (I:Int)]) (by simp[results,results78,asAddr,ay.out,Result.andThen]) rfl br
theorem aCw(j id A E G I J:Nat)(os:List UInt8)(L:Nat):(hdB j id A E G I J os L).length=20+os.length:=by
 unfold hdB;rw[gM _ _ _ (by rw[yE];simp[beB];omega),yE]
theorem aBw(j id:Nat)(V X:Bool)(U G I J L O:Nat)(ag:flI V X U=(O:Int))(A:Option Addr)(n c:Nat)(os:List UInt8)(P:Option Addr)(m d:Nat)(ps:List UInt8)(w:World)
 (h1:j<=255) (h2:id<=65535) (h3:U<=8191) (h4:G<=255) (h5:I<=255) (h6:J<4294967296) (h7:L<4294967296) (h8:n<=40) (h9:n % 4=0)
 (ho:IsB w w.heap.size A n os) (hp:IsB w w.heap.size P m ps) (hm:20+n+m<=65535) :
 Cl 59 #[fE j id V X U G I false 0 J false 0 L A n c,.slice P m d] w fun e w'=>∃v,e=.returned (.tuple #[v,.int .i64 0])/\aZ w' w.heap.size v (hdB j id O G I J L os m++ps)/\Below w.heap.size w w':=by
 have a3:=q_ ho.1;have dp:=q_ hp.1;have a4:=aJ w 167 #[.int .i64 j,.int .i64 id,.bool V,.bool X,.int .i64 U,.int .i64 G,.int .i64 I,.bool false,.int .u64 0,.int .u64 J,.bool false,.int .u64 0,.int .u64 L,.slice A n c];replace ⟨ho,hp⟩:=q_2 ho hp;unfold fE;go_enter func59,ntmps59;go_wp2_with fail
 refine(aUn j id V X U G I J L A n c _ (by omega) (by omega) (by omega) (by omega) (by omega) (by omega) (by omega) (by omega) (by omega) (by omega) (by omega) (by omega) h8 h9).mono ?_;rintro e w1 ⟨rfl,ab⟩;obtain⟨B,hB⟩:∃B,w.heap.size+1=B:=⟨_,rfl⟩
 have dq:Hid (Below B (w.alloc (dS j id V X U G I false 0 J false 0 L A n c)) w1):=q_ (by rw[<-hB];simpa using ab);have bp:B<=w1.heap.size:=by have:=ab.size;simp only[fTa]at this;omega
 have bq:=q_ (aC ab (by simp) a4);have cm:=aA bq;have cn:Hid (Below w.heap.size w w1):=q_ (bC.trans (ab.mono (by simp)));have Z:w.heap.size<B:=by omega
 replace ⟨a4,ab⟩:=q_2 a4 ab;have a5:n<=1099511627776:=by omega
 go_wp2_with fail
 refine(uB j id V X U G I false 0 J false 0 L A n c _ a5).mono ?_;rintro e w2 ⟨rfl,ah⟩;have ac:=q_ (aC (ah.mono bp) Z bq);have co:=aA ac;have W:=bJa bp ah.size;have a6:Hid (Below w.heap.size w w2):=q_ ((tw cn ah));clear cm;replace ah:=q_ ah;have q0:bits .or .u64 (U:Int) 16384=(U:Int)+16384:=aBs _ (by omega) (by omega);unfold flI at ag;obtain⟨f1,ad⟩:∃f1:Int,(U:Int)+(if V then 16384 else 0)=f1:=⟨_,rfl⟩
 have q1:bits .or .u64 f1 8192=f1+8192:=by
  rw[<-ad];rcases V with _|_
  .simpa using aSt (U:Int) (by omega) (by omega)
  .simpa using aPt (U:Int) (by omega) (by omega)
 rw[ad]at ag;have dr:O<65536:=by
  have:f1<=8191+16384:=by rw[<-ad];split<;>omega
  have:(if X then(8192:Int)else 0)<=8192:=by split<;>omega
  omega
 replace ⟨ad,ag⟩:=q_2 ad ag;go_upto_if 23 with fail
 go_cut [6] (fun s6 wx=>s6=.int .u64 f1/\w2=wx)
 case first =>
  rcases V with _|_<;>(go_wp2_with fail;go_meet;exact⟨by rw[<-ad.out];simp,rfl⟩)
 case rest =>
 obtain⟨rfl,rfl⟩:=hcut;go_upto_if 27 with fail
 go_cut [6] (fun s6 wx=>s6=.int .u64 (O:Int)/\w2=wx)
 case first =>
  rcases X with _|_<;>(go_wp2_with fail;go_meet;exact⟨by rw[<-ag.out];simp,rfl⟩)
 case rest =>
 obtain⟨rfl,rfl⟩:=hcut;clear q0 q1;have cr:∀(l:Later w2) (o:Nat),l.w.cell? ⟨w.heap.size,o,none⟩=_:=fun l o=>aA (aC l.hb (bKa Z W) ac) o
 go_wp2_with fail
 refine aP (by kernel_rfl) ?_;refine aY 0 8 (fuel:=2) (by kernel_rfl) (fun d _ _ _ _ h=>by cases d<;>exact h) (by kernel_rfl) (by kernel_rfl) ?_;simp only[dA,dC,dD]
 (refine aD (fun K E=>?_);go_simp;refine E _ ?_;clear E K)
 (refine aD (fun K E=>?_);go_simp;apply bSa;refine⟨fun l=>?_,E _ ?_⟩;(go_at_call 77;refine(uB j id _ _ U G I false 0 J false 0 L A n c _ a5).mono ?_;rintro e w' ⟨rfl,hb⟩;exact⟨rfl,hb⟩);clear E K)
 iterate 6 refine qE ?_
 refine aT ?_;obtain⟨sz,bd⟩:∃sz,(20+n) / 4=sz:=⟨_,rfl⟩
 have r1:IntKind.i64.wrap ((20+(n:Int)).tdiv 4)=(sz:Int):=by
  rw[gFa (by omega)];rw[wO _];omega
 have r2:bits .or .i64 64 (sz:Int)=((64+sz:Nat):Int):=by rw[i64_or64 _ (by omega) (by omega)];omega
 have r3:IntKind.u8.wrap ((64+sz:Nat):Int)=((64+sz:Nat):Int):=wraps_u8 _ (by omega) (by omega);have r4:IntKind.u8.wrap (j:Int)=(j:Int):=wraps_u8 _ (by omega) (by omega);rw[r1,r2,r3,r4];clear r1 r2 r3 r4 cr;refine eT 8 rfl fun l K E=>?_;go_simp;have a7:B<=l.w.heap.size:=bJa W l.hb.size;have a8:aZ (l.w.alloc (.cells #[.int .u8 ((64+sz:Nat):Int),.int .u8 (j:Int)] 5)) B (.slice (some ⟨l.w.heap.size,0,none⟩) 2 2) [UInt8.ofNat (64+sz),UInt8.ofNat j] :=
  aZ.litv l.w B _ _ 2 (by simp only[eCa,gHa];rw[rG _ (by omega),rG _ (by omega)]) rfl a7 (by omega)
 obtain⟨v3,bh⟩:=eX (Value.slice (some ⟨l.w.heap.size,0,none⟩) 2 2);obtain⟨w3,ai⟩:∃w3,l.w.alloc (.cells #[.int .u8 ((64+sz:Nat):Int),.int .u8 (j:Int)] 5)=w3:=⟨_,rfl⟩
 have ap:Below l.w.heap.size l.w w3:=ai▸bC;rw[ai,bh]at a8;refine E _ _ (by simpa[eP]using ai▸ap) ?_;clear E K;have hw3':(l.w.alloc (.cells #[.int .u8 (64+(sz:Int)),.int .u8 (j:Int)] 5))=w3:=by rw[<-ai];simp
 rw[hw3',bh];clear ai hw3' bh;refine dG (by kernel_rfl) (fun Y=>?_);refine bF 9 rfl (by kernel_rfl) (fun K E=>?_);go_simp;refine E _ _ ?_;clear E K;refine bY (by kernel_rfl) ?_ 0;obtain⟨w4,a0⟩:=eX Y.w;have bv:Hid (aZ w4 B v3 _):=q_ (a0▸a8.below Y.hb);have aj:Below B w2 w4:=a0▸((l.hb.mono W).trans (ap.mono a7)).trans (Y.hb.mono (bJa a7 ap.size));rw[a0];clear a0 a8 ap;have aq:B<=w4.heap.size:=bJa W aj.size;have ct:=q_ (aC aj Z ac);have cu:∀(l:Later w4) (o:Nat),l.w.cell? ⟨w.heap.size,o,none⟩=_:=fun l o=>aA (aC l.hb (bKa Z aq) ct) o
 go_wp2_with fail
 refine aP (by kernel_rfl) ?_;refine aY 0 11 (fuel:=3) (by kernel_rfl) (fun d _ _ _ _ h=>by cases d<;>exact h) (by kernel_rfl) (by kernel_rfl) ?_;simp only[dA,dC,dD];iterate 2 refine qE ?_
 (refine aD (fun K E=>?_);go_simp;apply bSa;refine⟨fun l=>?_,E _ ?_⟩;(go_at_call 77;refine(uB j id _ _ U G I false 0 J false 0 L A n c _ a5).mono ?_;rintro e w' ⟨rfl,hb⟩;exact⟨rfl,hb⟩);clear E K)
 iterate 8 refine qE ?_
 refine aT ?_;clear cu;refine eT 11 rfl fun l K E=>?_;go_simp;obtain⟨T,hT⟩:∃T,20+n+m=T:=⟨_,rfl⟩
 have r5:IntKind.i64.wrap (20+(n:Int)+(m:Int))=(T:Int):=by rw[wO _];omega
 have r6:IntKind.u64.wrap (T:Int)=(T:Int):=fU _ (by omega) (by omega);have r7:IntKind.u64.wrap (id:Int)=(id:Int):=fU _ (by omega) (by omega);rw[r5,r6,r7];clear r5 r6 r7;obtain⟨w5,al⟩:=eX (l.w.alloc (.cells #[.int .u64 (T:Int),.int .u64 (id:Int),.int .u64 (O:Int)] 25));have cv:=l.hb.size;have b0:IsV w5 (l.w.heap.size+1) 1 (some ⟨l.w.heap.size,0,none⟩) 3 (([T,id,O]:List Nat).map u64v):=al▸IsV.lit l.w 25 [.int .u64 (T:Int),.int .u64 (id:Int),.int .u64 (O:Int)] 3 3 rfl;have a9:Below l.w.heap.size l.w w5:=al▸bC;have ds:w5.heap.size=l.w.heap.size+1:=by rw[<-al];simp
 rw[al];refine E _ _ a9 ?_;clear E K;clear al;refine dG (by kernel_rfl) (fun Y=>?_);refine bF 12 rfl (by kernel_rfl) (fun K E=>?_);go_simp;go_at_call 93;have ar:Below w4.heap.size w4 Y.w:=(l.hb.trans (a9.mono cv)).trans (Y.hb.mono (by omega));have ba:=bv.below ar;have b1:=ar.size;refine(aP4 B _ _ 2 _ rfl _ 3 _ [T,id,O] _ ba (bJa aq b1) (by omega) (by simp) (l.w.heap.size+1) (b0.below (Y.hb.mono (by omega))) ?_ (by have:=Y.hb.size;omega) (by omega) ?_).mono ?_
 .intro b dy he e
  cases he
  have:=(bv.lt _ e.symm).2;omega
 .intro N hN;simp only[bXa,bVa,dTa]at hN;omega
 rintro e w7 ⟨v7,rfl,au,cd⟩;refine E _ _ ?_;clear E K;refine bF 13 rfl (by kernel_rfl) (fun K E=>?_);go_simp;refine E _ _ ?_;clear E K;refine bY (by kernel_rfl) ?_ 0;have bb:Hid (Below B w2 w7):=q_ ((aj.trans (ar.mono aq)).trans (cd.below ba (bJa aq b1)));have b2:B<=w7.heap.size:=bJa W bb.size;have cw:=q_ (aC bb Z ac);have cx:=aA cw;have bc:[Value.int .u8 (G:Int),.int .u8 (I:Int),.int .u8 0,.int .u8 0]=([UInt8.ofNat G,UInt8.ofNat I,0,0]:List UInt8).map u8v:=by
  simp only[eCa,gHa];rw[rG _ (by omega),rG _ (by omega)]
  rfl
 clear ar ba cd a9 b0 co;replace ⟨aj,bc,au,bd⟩:=q_4 aj bc au bd;go_wp2_with (at_builtin;refine xD rfl (.tmp 52) (.tmp 59) rfl B _ _ [UInt8.ofNat G,UInt8.ofNat I,0,0] _ _ rfl rfl ?_ ?_ au ?_ ?_ ?_)
 .exact bc
 .rfl
 .exact b2
 .simp[jU]
 intro v8 w8 av ch;have be:=q_ (bb.trans (ch.below au b2));have b3:=bJa W be.size;have cy:=q_ (aC be Z ac);have cz:=aA cy;clear cx ch;replace av:=q_ av;go_wp2_with fail
 refine(aBu B _ _ 4 _ rfl [J,L] _ rfl 2 _ rfl _ _ _ rfl av b3 (by omega) (by simp[jU]) (by omega) ?_).mono ?_
 .intro N hN;simp only[bXa,bVa,dTa]at hN;omega
 rintro e w9 ⟨v9,rfl,ay,ce⟩;have aw:=q_ (be.trans (ce.below av b3));have b4:=bJa W aw.size;have c0:=q_ (aC aw Z ac);have c1:=aA c0;have ax:w.heap.size<=B:=by omega
 have c2:=q_ (ho.below (a6.trans (aw.mono ax)));clear cz ce;replace ay:=q_ ay;go_wp2_with (at_builtin;refine sD rfl (.tmp 70) (.tmp 72) rfl B _ _ os A n c w.heap.size rfl rfl ay c2 ?_ ?_ ?_)
 .exact b4
 .simp[jU];omega
 intro de bn b6 ci;have b5:=q_ (aw.trans (ci.below ay b4));have c3:=bJa W b5.size;have hown10':aZ bn B de (qY j id O G I J L os m):=by
  unfold qY;rw[a3.out,bd.out,hT];simpa[nS]using b6
 have c4:Hid ((qY j id O G I J L os m).length=20+n):=q_ (by rw[yE,a3.out]);obtain⟨bj,bk,rfl,db,du,ak⟩:=hown10'.form;rw[c4]at db ak hown10' ⊢;clear ci b6 c1;replace ⟨hown10',ak⟩:=q_2 hown10' ak;go_wp2_with fail
 refine(aDh _ _ _ [⟨bj,bk,qY j id O G I J L os m⟩] _ (aH8 _ rfl ak (by unfold maxLen;omega)) (by unfold maxLen;omega)).mono ?_;rintro e w' ⟨rfl,rfl⟩;have b7:flat [(⟨bj,bk,qY j id O G I J L os m⟩:Part)]=qY j id O G I J L os m:=by simp[flat]
 rw[b7];clear b7;obtain⟨C,hC⟩:∃C,65535 - ones (tot false (qY j id O G I J L os m))=C:=⟨_,rfl⟩
 rw[hC];have dt:C<=65535:=by omega
 replace hC:=q_ hC;go_wp2_with fail
 refine(aCb bj (20+n) bk (qY j id O G I J L os m) 10 C 2 _ _ _ rfl rfl rfl _ (ak.alloc _) (by omega) (by omega) (by omega) (by omega) (by omega)).mono ?_;rintro e cg ⟨dc,rfl,b9,b8⟩;have hb11':Below bn.heap.size bn cg:=bC.trans (b8.mono (by simp));have bf:=q_ (b5.trans (hb11'.mono c3));have hown11':aZ cg B dc (hdB j id O G I J L os m):=by
  have h1:=b9.weaken (base':=B) (by simp;omega);unfold hdB;rw[hC.out];exact h1
 have ca:=bJa W bf.size;have c5:=q_ (hp.below (a6.trans (bf.mono ax)));have c6:(hdB j id O G I J L os m).length+m<=1099511627776:=by
  rw[aCw,a3.out];omega
 clear b9 b8 hb11';replace hown11':=q_ hown11';go_wp2_with (at_builtin;refine sD rfl (.tmp 80) (.tmp 81) rfl B _ _ ps P m d w.heap.size rfl rfl hown11' c5 ?_ ?_ ?_)
 .exact ca
 .exact c6
 intro dg d1 bg cj;have c7:=q_ (a6.trans ((bf.trans (cj.below hown11' ca)).mono ax));replace bg:=q_ bg;clear cj;go_wp2_with fail
 go_ret2;exact⟨dg,rfl,bg.weaken ax,c7⟩
def kH (k:Int) (at_:Int) (xs:List UInt8):Bool :=
 isB k && (!((k == 0) && decide (0<at_)) && (decide (xs.length % 8=7) && (decide (xs.length<=2047) && (if k=44 then decide (xs.length=7)else decide ((xs.getD 0 0).toNat=xs.length / 8)))))
def aC1:List (Int×List UInt8)->Int->Int
 | [],p=>p
 | e :: _,_=>e.1
def tX:List (Int×List UInt8)->Int->List UInt8
 | [],_=>[]
 | e :: es,p=>UInt8.ofNat (aC1 es p).toNat :: (e.2++tX es p)
def nK (es:List (Int×List UInt8)):Nat:=(es.map fun e=>e.2.length+1).sum
theorem sM:∀(j:List (Int×List UInt8)) (p:Int),(tX j p).length=nK j
 | [],_=>rfl
 | e :: j,p=>by
  have:=sM j p;simp only[tX,eFa,bHa,nK,eCa,List.sum_cons]at this ⊢;omega
def jG (es:List (Int×List UInt8)) (m:Nat):Bool :=
 (List.range m).all fun i=>match es[i]? with
  | some e=>kH e.1 (i:Int) e.2 && decide (nZ (es.take i)=0)
  | none=>true
theorem rE(j:List (Int×List UInt8))(m:Nat)(e:Int×List UInt8)(h:j[m]?=some e):jG j (m+1)=(jG j m && (kH e.1 (m:Int) e.2 && decide (nZ (j.take m)=0))):=by
 unfold jG;rw[List.range_succ,List.all_append];simp[h]
theorem aFk(j A:List (Int×List UInt8)):∀m,m<=j.length->jG (j++A) m=jG j m
 | 0,_=>rfl
 | m+1,h=>by
  have E:j[m]?=some j[m]:=aXa (by omega);have G:(j++A)[m]?=some j[m]:=by rw[cEa (by omega),E]
  rw[rE _ m _ E,rE _ m _ G,aFk j A m (by omega),eWa (by omega)]
theorem aHf(j:List (Int×List UInt8))(h:jG j m=true)(A:k<=m):jG j k=true:=by
 unfold jG at *;rw[jKa]at *;intro i E;exact h i (by rw[List.mem_range]at *;omega)
theorem cut_rs(j:List UInt8)(size:Nat)(E:1<=size)(A:size<=j.length):j=j.getD 0 0 :: ((j.take size).drop 1++j.drop size):=by
 obtain⟨k,rfl⟩:∃k,size=k+1:=⟨size - 1,by omega⟩
 cases j with
 | nil=>simp at A
 | cons x t=>simp
theorem frag_nil:nZ []=0:=rfl
theorem aDx:∀(f next:Nat) (A:List UInt8) (j G:List (Int×List UInt8)) (I:Nat) (J:List UInt8),mP f next A j=some (G,I,J)->jG j j.length=true->nZ j=0->j.length<=8->next<=255 ->
 ∃L,G=j++L/\aC1 L (I:Int)=(next:Int)/\A=tX L (I:Int)++J/\jG G G.length=true/\isB (I:Int)=false/\I<=255/\G.length<=8
 := by
 intro f
 induction f with
 | zero=>intro next A j G I J h;simp[mP]at h
 | succ f ih =>
  intro next A j G I J h hr hf hl hn;unfold mP at h;split at h
  .rename_i O;simp only[gQa,jAa]at h;obtain⟨rfl,rfl,rfl⟩:=h;exact⟨[],by simp,rfl,rfl,hr,O,hn,hl⟩
  .rename_i O;split at h
   .cases h
   .rename_i h8;split at h
    .cases h
    .rename_i ad;have hb':isB (next:Int)=true:=by simpa using O
     obtain⟨size,N⟩:=eX (tH next A);rw[N]at h ad;have hv:(A.getD 1 0).toNat<=255:=by have:=(A.getD 1 0).toNat_lt;omega
     have ar:8<=size:=by rw[<-N];unfold tH;split<;>omega
     have hcut:=cut_rs A size (by omega) (by omega);obtain⟨E,V⟩:=eX ((A.take size).drop 1);rw[V]at h hcut;have ae:E.length=size - 1:=by rw[<-V,cCa,bGa];omega
     have af:E.getD 0 0=A.getD 1 0:=by
      rw[<-V];simp only[List.getD,eJa,dKa (show 1+0<size by omega)]
     have ag:kH (next:Int) (j.length:Int) E=true:=by
      unfold kH;rw[hb',ae,af];have hz:(!(((next:Int) == 0) && decide ((0:Int)<(j.length:Int))))=true:=by
       by_cases h0:next=0
       .have:¬ 0<j.length:=fun h=>ad (.inr ⟨h0,h⟩)
        have U:¬ ((0:Int)<(j.length:Int)):=by omega
        rw[bWa U];simp
       .simp[h0]
      rw[hz];by_cases W:next=44
      .have:size=8:=by rw[<-N];unfold tH;rw[bBa W]
       subst this;rw[bBa (by omega)]
       rfl
      .have:size=8+8*(A.getD 1 0).toNat:=by rw[<-N];unfold tH;rw[bAa W]
       have h44':¬ (next:Int)=44:=by omega
       simp only[bAa h44',gWa];simp only[eEa,cBa];omega
     have ai:(j++[((next:Int),E)])[j.length]?=some ((next:Int),E):=by simp
     have X:jG (j++[((next:Int),E)]) (j++[((next:Int),E)]).length=true:=by
      rw[bHa,cZa,rE _ _ _ ai,aFk _ _ _ (aZa _),hr,ag,List.take_left];simp[hf]
     have Y:(j++[((next:Int),E)]).length<=8:=by
      simp only[bHa,cZa];omega
     have Z:UInt8.ofNat (((A.getD 0 0).toNat:Int)).toNat=A.getD 0 0:=by simp
     have aa:(A.getD 0 0).toNat<=255:=by have:=(A.getD 0 0).toNat_lt;omega
     split at h
     .split at h
      .cases h
      .rename_i ap;simp only[gQa,jAa]at h;obtain⟨rfl,rfl,rfl⟩:=h;refine⟨[((next:Int),E)],rfl,rfl,?_,X,by simpa using ap,aa,Y⟩;simp only[tX,aC1,Z,ePa];exact hcut
     .rename_i av;obtain⟨L,h1,h2,U,h4⟩:=ih _ _ _ G I J h X (by omega) Y aa;refine⟨((next:Int),E) :: L,by rw[h1];simp,rfl,?_,h4⟩;simp only[tX,h2,Z,eNa,eDa];rw[<-U];exact hcut
theorem aWr(p:Int)(E:List UInt8)(aj:0<=p)(hp:p<=255)(hb:isB p=false):∀(A j:List (Int×List UInt8)) (f:Nat),jG (j++A) (j++A).length=true->(j++A).length<=8->(nZ j=0\/A=[])->A.length+1<=f ->
 (nZ j=0)->mP f (aC1 A p).toNat (tX A p++E) j=some (j++A,p.toNat,E)
 := by
 intro A
 induction A with
 | nil =>
  intro j f _ _ _ U _;obtain⟨f,rfl⟩:∃W,f=W+1:=⟨f - 1,by simp at U;omega⟩
  have X:((p.toNat:Nat):Int)=p:=by omega
  unfold mP;simp only[aC1,X,hb,jEa,tX,cVa,ePa]
 | cons e A ih =>
  obtain⟨k,d⟩:=e;intro j f V hl _ U a4;obtain⟨f,rfl⟩:∃W,f=W+1:=⟨f - 1,by simp at U;omega⟩
  have al:(j++(k,d) :: A)[j.length]?=some (k,d):=by simp
  have Y:=aHf _ V (k:=j.length+1) (by simp);rw[rE _ _ _ al]at Y;simp only[eEa,cBa]at Y;have Z:=Y.2.1;unfold kH at Z;simp only[eEa]at Z;obtain⟨hk,hz,h7,ax,hd0_Six⟩:=Z;have ay:0<=k/\k<=60:=by
   unfold isB at hk;simp only[cBa]at hk;omega
  have am:((k.toNat:Nat):Int)=k:=by omega
  simp only[cBa]at h7 ax;have az:j.length<=7:=by simp at hl;omega
  obtain⟨L,N⟩:=eX (aC1 A p);have a0:0<=L/\L<=255:=by
   rw[<-N]
   cases A with
   | nil=>exact⟨aj,hp⟩
   | cons G O =>
    have aa:(j++(k,d) :: G :: O)[j.length+1]?=some G:=by
     rw[cJa (by omega)];simp
    have I:=aHf _ V (k:=j.length+1+1) (by simp;omega);rw[rE _ _ _ aa]at I;simp only[eEa]at I;have J:=I.2.1;unfold kH at J;simp only[eEa]at J;have h4:=J.1;unfold isB at h4;simp only[cBa]at h4
    show 0<=G.1/\G.1<=255
    omega
  have an:(tX ((k,d) :: A) p++E).getD 0 0=UInt8.ofNat L.toNat:=by simp[tX,N]
  have ao:(UInt8.ofNat L.toNat).toNat=L.toNat:=by rw[cGa];omega
  have a1:(tX ((k,d) :: A) p++E).length=d.length+1+((tX A p).length+E.length):=by
   simp[tX];omega
  have ap:0<d.length->(tX ((k,d) :: A) p++E).getD 1 0=d.getD 0 0:=by
   intro h
   cases d with
   | nil=>simp at h
   | cons x t=>simp[tX]
  have aq:tH k.toNat (tX ((k,d) :: A) p++E)=d.length+1:=by
   unfold tH;by_cases ah:k=44
   .subst ah;simp only[jEa,cBa]at hd0_Six;rw[bBa (by rfl)];omega
   .rw[bAa ah]at hd0_Six;simp only[cBa]at hd0_Six;rw[bAa (by omega),ap (by omega),hd0_Six];omega
  have ar:((tX ((k,d) :: A) p++E).take (d.length+1)).drop 1=d:=by simp[tX]
  have au:(tX ((k,d) :: A) p++E).drop (d.length+1)=tX A p++E:=by simp[tX]
  unfold mP;simp only[aC1,am,hk,aq,ar,au,an,ao];rw[bAa (by simp),bAa (by omega),bAa ?_]
  .by_cases ai:0<nZ (j++[(k,d)])
   .have av:A=[]:=by
     cases A with
     | nil=>rfl
     | cons G O =>
      exfalso;have aa:(j++(k,d) :: G :: O)[j.length+1]?=some G:=by
       rw[cJa (by omega)];simp
      have I:=aHf _ V (k:=j.length+1+1) (by simp;omega);rw[rE _ _ _ aa]at I;simp only[eEa,cBa]at I;have J:=I.2.2;rw[show j++(k,d) :: G :: O=(j++[(k,d)])++(G :: O) by simp,show j.length+1=(j++[(k,d)]).length by simp,List.take_left]at J;omega
    subst av;simp only[aC1]at N;subst N;have X:((p.toNat:Nat):Int)=p:=by omega
    rw[bBa ai,X,hb];simp[tX]
   .rw[bAa ai];have h5:=ih (j++[(k,d)]) f (by simpa using V) (by simpa using hl) (.inl (by omega)) (by simp at U;omega) (by omega);rw[N]at h5;rw[h5];simp
  .rintro(h|⟨h0,h1⟩)
   .omega
   .have:k=0:=by omega
    subst this;have h1':(0:Int)<(j.length:Int):=by omega
    rw[bYa h1']at hz
    cases hz
theorem aD9{k at_:Int}(j:xs.length=n)(h:¬ (isB k=true/\n % 8=7)):kH k at_ xs=false:=by
 unfold kH;rw[j];rcases hk:isB k with _|_
 .rfl
 .have:¬ n % 8=7:=fun A=>h ⟨hk,A⟩
  simp[this]
theorem aNp{k at_:Int}{q:Nat}(G:xs.length=n)(I:isB k=true)(A:n % 8=7)(J:(xs.getD 0 0).toNat=j)(L:n / 8=q) :
 kH k at_ xs=decide (¬ (k=0/\0<at_)/\n<=2047/\(k=44->n=7)/\(k≠44->j=q)):=by
 unfold kH;rw[G,I,J,L,gCa,eRa];by_cases E:k=44
 .simp[E,A]
 .by_cases N:k=0<;>simp[E,A,N]
theorem aNq(k at_:Int)(A:Option Addr)(n c:Nat)(xs:List UInt8)(w:World)(V:IsB w w.heap.size A n xs)(hn:n<=maxLen) :
 Cl 137 #[.agg #[.int .i64 k,.slice A n c],.int .i64 at_] w fun e w'=>e=.returned (.bool (kH k at_ xs))/\Below w.heap.size w w':=by
 unfold maxLen at hn;obtain⟨r,E⟩:=eX (kH k at_ xs);rw[E];have G:=V.1;have Y:=q_ (aJ w 231 #[.int .i64 k,.slice A n c]);obtain⟨X,U⟩:=eX (w.alloc (.cells #[.int .i64 k,.slice A n c] 231));have L:Hid (Below w.heap.size w X):=q_ (U▸bC);have ae:w.heap.size<X.heap.size:=by rw[<-U];simp
 rw[U]at Y;have ag:=aA Y;have N:=V.on L;replace V:=q_ V;by_cases J:n % 8=7
 .have m7:((n:Int) % 8 != 7)=false:=by rw[dQa];omega
  obtain⟨b,aq,v0,rfl,ar,Z,au,ab⟩:=N.byte (i:=0) (by omega);rw[cNa]at ab;obtain⟨q,hq⟩:∃q,n / 8=q:=⟨_,rfl⟩
  have s1:(n:Int).tdiv 8=(q:Int):=by rw[gFa (by omega)];omega
  have s1':(n:Int) / 8=(q:Int):=by omega
  have s2:IntKind.i64.wrap (q:Int)=(q:Int):=wO _;have s3:IntKind.i64.wrap (v0:Int)=(v0:Int):=wO _;have i0:(0:Int)<(n:Int):=by omega
  have j0:0<n:=by omega
  have hd0_Six:=fun l:Later X=>l.cell ab
  have ai:=fun(l:Later X) (o:Nat)=>aA (aC l.hb ae Y) o
  have W:=q_ (fun j=>E.symm.trans (aNp (k:=k) (at_:=at_) G j J Z hq));clear ab;replace ⟨Z,hq,N,J,G,E⟩:=q_6 Z hq N J G E;go_enter func137,ntmps137;go_wp2_with fail
  refine(aB0 k _).mono ?_;rintro e w' ⟨rfl,rfl⟩;clear U;rcases j:isB k with _|_
  .have O:=E.symm.trans <| aD9 (k:=k) (at_:=at_) G (fun h=>by rw[j]at h;cases h.1)
   replace ⟨j,O⟩:=q_2 j O;go_wp2_with fail
   go_ret;exact⟨kP O.symm,L⟩
  .replace W:=q_ (W j);replace j:=q_ j;go_wp2_with fail
   all_goals(try(go_ret;exact⟨kP (by rw[W.out];first|exact(bWa (by omega)).symm|(rw[gCa,fKa,eRa];(first|omega|(have I:=‹(k == 44)=true›;simp only[fKa]at I;omega)|(have I:=‹(k == 44)=false›;simp only[bDa,ne_eq]at I;omega)))),L⟩))
   all_goals
    clear ag;refine rL ?_;refine eS 0 11 0 ?_;simp only[dA,dC,dD];iterate 11 refine qE ?_
    refine aT ?_;refine eD fun w3 ad=>?_;have aj:=q_ (L.trans (ad.mono (cAa ae)));clear ad ai hd0_Six;go_wp2_with fail
    go_ret;exact⟨kP (by rw[W.out,gCa,fKa,eRa];(first|omega|(have I:=‹(k == 44)=true›;simp only[fKa]at I;omega)|(have I:=‹(k == 44)=false›;simp only[bDa,ne_eq]at I;omega))),aj⟩
 .have m7:((n:Int) % 8 != 7)=true:=by rw[dLa];omega
  have O:=q_ (E.symm.trans <| aD9 (k:=k) (at_:=at_) G (fun h=>J h.2));replace ⟨N,J,G,E⟩:=q_4 N J G E;go_enter func137,ntmps137;go_wp2_with fail
  refine(aB0 k _).mono ?_;rintro e w' ⟨rfl,rfl⟩;clear U;rcases j:isB k with _|_
  all_goals
   replace j:=q_ j;go_wp2_with fail
   all_goals(go_ret;exact⟨kP O.symm,L⟩)
theorem IsX.take{w:World}{j:List Ext}(h:IsX w B A n j)(Y:m<=n):IsX w B A m (j.take m):=by
 obtain⟨hl,O,U⟩:=h;refine⟨by rw[bGa];omega,⟨by rw[tV,bGa];omega,fun Z=>?_⟩,fun e E=>U e (eYa E)⟩;obtain⟨b,V,e,W,X⟩:=O.2 (by omega);refine⟨b,V,e,W,fun i G=>?_⟩;have I:cells j=cells (j.take m)++cells (j.drop m):=by
  unfold cells;rw[<-hUa,dHa]
 have J:(cells (j.take m)).length=m*2:=by rw[tV,bGa];omega
 have L:cells (j.take m)=(cells j).take (m*2):=by rw[I,<-J,List.take_left]
 have N:i<(cells j).length:=by rw[tV];rw[tV,bGa]at G;omega
 rw[X i N];simp[L,gRa]
def pes (es:List Ext):List (Int×List UInt8):=es.map Ext.pe
theorem rU(j:List Ext):(pes j).length=j.length:=by simp[pes]
theorem pes_take(j:List Ext)(m:Nat):pes (j.take m)=(pes j).take m:=by simp[pes,List.map_take]
theorem aJj{j:List Ext}{e:Ext}(h:j[i]?=some e):(pes j)[i]?=some (e.k,e.xs):=by simp[pes,h,Ext.pe]
theorem aF5(j:List Ext):beN (qR j) 1 2 / 8=nZ (pes j):=by rw[aC7];rfl
def sS (cls lab hop:Int) (sv dv:Bool) (proto:Int) (es:List (Int×List UInt8)):Bool :=
 decide (0<=cls/\cls<=255/\0<=hop/\hop<=255/\0<=lab/\lab<=1048575/\sv=true/\dv=true/\0<=proto/\proto<=255/\isB proto=false/\es.length<=8) && jG es es.length
theorem zL{A E G:Int}{J:Bool}{j:Int}{L:List (Int×List UInt8)}
 (h:¬ (0<=A/\A<=255/\0<=G/\G<=255/\0<=E/\E<=1048575/\I=true/\J=true/\0<=j/\j<=255/\isB j=false/\L.length<=8)):sS A E G I J j L=false:=by
 unfold sS;rw[bWa h]
 rfl
theorem aFj{E G I:Int}{J L:Bool}{j:Int}{A:List (Int×List UInt8)}
 (h:0<=E/\E<=255/\0<=I/\I<=255/\0<=G/\G<=1048575/\J=true/\L=true/\0<=j/\j<=255/\isB j=false/\A.length<=8):sS E G I J L j A=jG A A.length:=by
 unfold sS;rw[bYa h]
 rfl
theorem aEa{j:List (Int×List UInt8)}{e:Int×List UInt8}(h:j[m]?=some e)(E:(kH e.1 (m:Int) e.2 && decide (nZ (j.take m)=0))=false):jG j j.length=false:=by
 rcases hr:jG j j.length with _|_
 .rfl
 .have G:=(List.getElem?_eq_some_iff.1 h).1;have A:=aHf j hr (k:=m+1) (by omega);rw[rE j m e h,E]at A;simp at A
theorem aDm(Z aa ab:Int)(sv:Bool)(an ao:Int)(dv:Bool)(ap aq:Int)(X:Option Addr)(n c:Nat)(I:Int)(A:List Ext)(w:World)(hx:IsX w w.heap.size X n A)(bj:n<=c)(a9:c<=maxLen) :
 Cl 101 #[eZ Z aa ab sv an ao dv ap aq X n c I] w fun e w'=>e=.returned (.bool (sS Z aa ab sv dv I (pes A)))/\Below w.heap.size w w':=by
 obtain⟨r,J⟩:=eX (sS Z aa ab sv dv I (pes A));rw[J];unfold maxLen at a9;have ar:=q_ (aJ w 164 #[.int .i64 Z,.int .i64 aa,.int .i64 ab,.bool sv,.int .u64 an,.int .u64 ao,.bool dv,.int .u64 ap,.int .u64 aq,.slice X n c,.int .i64 I]);obtain⟨w1,ag⟩:=eX (w.alloc (bS Z aa ab sv an ao dv ap aq X n c I));have E:Hid (Below w.heap.size w w1):=q_ (ag▸bC);have ay:w.heap.size<w1.heap.size:=by rw[<-ag];simp
 unfold bS at ag;rw[ag]at ar;have ae:=aA ar;have ba:=q_ (hx.on E);have af:Hid ((pes A).length=n):=q_ (by rw[rU];exact hx.1);replace ⟨hx,J⟩:=q_2 hx J;unfold eZ;go_enter func101,ntmps101;go_wp2_with fail
 all_goals(try(go_ret;refine⟨kP (J.symm.trans (zL ?_)).symm,E⟩;intro hh;first|omega|simp_all))
 refine(aB0 I _).mono ?_;rintro e w' ⟨rfl,rfl⟩;clear ag;rcases O:isB I with _|_
 case true =>
  replace O:=q_ O;go_wp2_with fail
  go_ret;refine⟨kP (J.symm.trans (zL ?_)).symm,E⟩;intro hh;rw[O.out]at hh;simp at hh
 replace O:=q_ O;by_cases h8:n<=8
 case neg =>
  have h8':(8:Int)<(n:Int):=by omega
  go_wp2_with fail
  go_ret;refine⟨kP (J.symm.trans (zL ?_)).symm,E⟩;intro hh;rw[af.out]at hh;omega
 have h8':¬ (8:Int)<(n:Int):=by omega
 have au:Hid (r=jG (pes A) n):=q_ (J.symm.trans ((aFj ⟨by omega,by omega,by omega,by omega,by omega,by omega,by assumption,by assumption,by omega,by omega,O,by rw[af.out];exact h8⟩).trans (by rw[af.out])));go_wp2_with fail
 go_loopw [70] (fun i wr=>∃j:Nat,j<=n/\i=.int .i64 (j:Int)/\jG (pes A) j=true/\Below w1.heap.size w1 wr) (fun i _=>n - (intOf i).toNat)
 case atStart=>exact⟨0,dEa _,rfl,rfl,bLa _ _⟩
 case round =>
  obtain⟨j,hj,rfl,ak,G⟩:=hrel;have U:=ba.on G;have bc:=q_ (aC G ay ar);have bk:=bKa ay G.size;clear ae;have ae:=aA bc;replace ⟨ak,G⟩:=q_2 ak G;by_cases bi:j<n
  .have bd:(j:Int)<(n:Int):=by omega
   have bl:(0:Int)<=(j:Int):=by omega
   have bm:(j:Int)<=(c:Int):=by omega
   obtain⟨f,hf⟩:∃f,beN (qR (A.take j)) 1 2 / 8=f:=⟨_,rfl⟩
   have az:Hid (nZ ((pes A).take j)=f):=q_ (by rw[<-hf,aF5,pes_take]);have a0:=U.take (m:=j) (by omega);obtain⟨b,V,k,W,Y,xs,rfl,bp,a6,bq,br,a7,bs,bt⟩:=U.at bi;have av:=q_ (aJj a6);have a1:=q_ ((a0.alloc (.cells #[.int .i64 k,.slice W xs.length Y] 231)).alloc (bS 0 0 0 false 0 0 false 0 0 (some ⟨b,V,none⟩) j c 0));have a2:=q_ ((a7.alloc (.cells #[.int .i64 k,.slice W xs.length Y] 231)).alloc (bS 0 0 0 false 0 0 false 0 0 (some ⟨b,V,none⟩) j c 0));have a3:Hid (Below wr.heap.size wr ((wr.alloc (.cells #[.int .i64 k,.slice W xs.length Y] 231)).alloc (bS 0 0 0 false 0 0 false 0 0 (some ⟨b,V,none⟩) j c 0))):=q_ (bC.alloc (by simp) _);have a4:Hid (((wr.alloc (.cells #[.int .i64 k,.slice W xs.length Y] 231)).alloc (bS 0 0 0 false 0 0 false 0 0 (some ⟨b,V,none⟩) j c 0)).heap[wr.heap.size+1]?=some (bS 0 0 0 false 0 0 false 0 0 (some ⟨b,V,none⟩) j c 0)):=q_ (by simpa using aJ (wr.alloc (.cells #[.int .i64 k,.slice W xs.length Y] 231)) 164 #[.int .i64 0,.int .i64 0,.int .i64 0,.bool false,.int .u64 0,.int .u64 0,.bool false,.int .u64 0,.int .u64 0,.slice (some ⟨b,V,none⟩) j c,.int .i64 0]);unfold bS at a1 a2 a3 a4;clear a6 a7 a0;replace ⟨U,hf⟩:=q_2 U hf;go_wp2_with fail
   refine(aNq k _ W xs.length Y xs _ a2 (by omega)).mono ?_;rintro e w2 ⟨rfl,ah⟩;have be:=ah.size;simp only[fTa]at be;have bf:=q_ (aC ah (by simp) a4);have aw:=q_ (G.trans ((a3.trans (ah.mono (by simp;omega))).mono G.size));have bg:=q_ (a1.on ah);clear ae ah;have ae:=aA bf;rcases N:kH k (j:Int) xs with _|_
   .have L:=au.trans ((fFa (jG (pes A)) af.symm).trans (aEa av (by rw[N];rfl)));replace ⟨L,N⟩:=q_2 L N;go_wp2_with fail
    go_ret;exact⟨kP L.symm,E.trans (aw.mono E.size)⟩
   .replace N:=q_ N;go_wp2_with fail
    refine(xL 0 0 0 false 0 0 false 0 0 _ j c 0 (A.take j) _ bg (by unfold maxLen;omega)).mono ?_;rintro e w3 ⟨rfl,a8⟩;rw[hf.out];have a5:=q_ (aw.trans (a8.mono aw.size));clear ae a8;by_cases bn:0<f
    .have L:=au.trans ((fFa (jG (pes A)) af.symm).trans (aEa av (by rw[N.out,az.out];simp;omega)));have hf0':(0:Int)<(f:Int):=by omega
     replace L:=q_ L;go_wp2_with fail
     go_ret;exact⟨kP L.symm,E.trans (a5.mono E.size)⟩
    .have ax:jG (pes A) (j+1)=true:=by rw[rE _ _ _ av.out,ak.out,N.out,az.out];simp;omega
     have hf0':¬ (0:Int)<(f:Int):=by omega
     replace ax:=q_ ax;go_wp2_with fail
     exact⟨⟨j+1,by omega,by go_num,ax,a5⟩,by simp[intOf];omega⟩
  .have bd:¬ (j:Int)<(n:Int):=by omega
   obtain rfl:j=n:=by omega
   have bh:Hid (r=true):=q_ (au.trans ak);replace U:=q_ U;go_wp2_with fail
   go_ret;exact⟨kP bh.symm,E.trans (G.mono E.size)⟩
end Go.Proofs.YtpcifakangbpaaaGreat
