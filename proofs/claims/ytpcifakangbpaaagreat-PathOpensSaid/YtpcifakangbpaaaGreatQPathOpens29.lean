/- Parts of the proof of PathOpens: contracts of functions of the program. No condition but those that each theorem names. -/
import Derived.Test.YtpcifakangbpaaaGreatQPathOpens20
import Derived.Test.YtpcifakangbpaaaGreatQPathOpens28
set_option linter.unusedVariables false
set_option linter.unusedSimpArgs false
set_option maxRecDepth 100000
set_option maxHeartbeats 16000000
namespace Go.Proofs.YtpcifakangbpaaaGreat
open Go.RowKit Go.ChangeShapes Go.WideShapes Go.ChangeAt Go.Deep Go.Proofs.Tryz
variable {R xs:List UInt8}{B E J N O S V b base' c f fuel g i j k m n s sd sz:Nat}{Q:Exit->Act->World->Prop}{d w' w0:World}{u v z:Value}{T e t:TypeId}{A:Option Addr}{h os:List Nat}{F:List UInt8->Option Nat}{p:List Nat×List Bool}{a:Act}{α:Type}{H l:List Int}{o:Oper}{G:Array Oper}{K:Act->World->Prop}{y:Array Value}{vs:List Value}{L:List Oper}{I:Bool}{U W Y aa:List (Int×List UInt8)}{P:Program}
section
theorem flat_int(j:List Int):(j.map fun x=>[bL x]).flatten=j.map bL:=by
 induction j with
 | nil=>rfl
 | cons a t ih=>rw[eCa,gSa,ih];rfl
theorem aFr:prog.cellsOf 3=1:=by kernel_rfl
section
variable {H:Type} {enc:TypeId×Value->H} {w:World} {spare:Nat->Bool} {held:Bool}
theorem aR4{y:DataW H×List MemPlace}(h:DataW.trod enc prog w 0 spare held m 31 [v]=some y) :
 ∃A n c j,v=.slice A n c/\IsR bL w w.heap.size A n j/\n<=c/\c<=maxLen:=by
 obtain⟨A,n,c,j,e,⟨I,-⟩,J,L⟩:=uE (f:=fun x:Int=>[bL x]) (size:=1) (fun _=>True) dRa aFr (by omega) (fun n cs y h G=>by
  match cs,G with
  | [a],_ =>
   obtain⟨k,rfl,_⟩:=rT h;exact⟨k,rfl,trivial⟩) h
 have E:=I.2;rw[flat_int]at E;exact⟨A,n,c,j,e,E,J,L⟩
end
end
section
abbrev Mv (b f g:Nat) (k:Nat):Prop:=k=b\/k=f\/k=g
abbrev ScE (b f g:Nat) (w w':World):Prop:=aV w.heap.size (Mv b f g) w w'
structure Sc (w:World) (pp x v s b p f g S:Nat) (c:Cfg) (H:List Int) (F:Int) (sd:Nat) (T:FT) (r:Ru) (now:Int):Prop where
 blk:w.heap[pp]?=some (.cells #[.pointer (some ⟨x,0,none⟩),.pointer (some ⟨v,0,none⟩),.pointer (some ⟨s,0,none⟩),.pointer (some ⟨b,0,none⟩),.pointer (some ⟨p,0,none⟩)] 76 (0,0))
 conf:∃lo hi,VIn w lo hi x c/\hi<=w.heap.size/\∀k,lo<=k->k<hi->¬ Mv b f g k
 vips:∃lo hi,zC w lo hi v c/\hi<=w.heap.size/\∀k,lo<=k->k<hi->¬ Mv b f g k
 set:∃xt,fH w s xt c.nodes (pG c.nodes H) (fT c.nodes H).2
 wk:gV w b F sd
 pins:PAt w p f g S T r now
section
variable {w w':World} {pp x v s b p f g S:Nat} {c:Cfg} {H:List Int} {F:Int} {sd:Nat} {T:FT} {r:Ru} {now:Int}
theorem ScE.trans{a e:World}(j:ScE b f g a d)(A:ScE b f g d e):ScE b f g a e :=
 ⟨A.os.trans j.os,A.tape.trans j.tape,A.output.trans j.output,bJa j.size A.size,fun k E G=>(A.block k (bKa E j.size) G).trans (j.block k E G)⟩
theorem ScE.quiet{a:World}(h:Below a.heap.size a d):ScE b f g a d:=bT h (aZa _)
theorem ScE.wk{a:World}(h:bJ b F sd a d):ScE b f g a d:=⟨h.2.os,h.2.tape,h.2.output,h.2.size,fun k j A=>h.2.block k j (fun e=>A (.inl e))⟩
theorem ScE.pin{a:World}(h:bH f g a d):ScE b f g a d:=⟨h.os,h.tape,h.output,h.size,fun k j A=>h.block k j (fun e=>A (.inr e))⟩
theorem aE2{A:Nat}(h:ScE b f g w w')(E:j<=w.heap.size)(G:∀k,A<=k->k<j->¬ Mv b f g k):Kp A j w w':=Kp.xP h E G
theorem Sc.ty(j:Sc w pp x v s b p f g S c H F sd T r now)(A:Mv b f g k):∃cs t,w.heap[k]?=some (.cells cs t (0,0))/\(t=120\/t=142\/t=144):=by
 rcases A with rfl|rfl|rfl
 .obtain⟨G,I,J,h,-⟩:=j.wk;exact⟨_,_,h,.inl rfl⟩
 .exact⟨_,_,j.pins.tab.blk,.inr (.inl rfl)⟩
 .obtain⟨cs,E,-⟩:=j.pins.tab.row;exact⟨_,_,E,.inr (.inr rfl)⟩
theorem Sc.other(A:Sc w pp x v s b p f g S c H F sd T r now){E:Array Value}(G:w.heap[k]?=some (.cells E t (0,0)))(I:t≠120)(J:t≠142)(L:t≠144):¬ Mv b f g k:=by
 intro N;obtain⟨cs,O,h,j⟩:=A.ty N;rw[G]at h;injection(bFa h)with _ e _
 subst e;rcases j with j|j|j
 .exact I j
 .exact J j
 .exact L j
theorem Sc.npp(j:Sc w pp x v s b p f g S c H F sd T r now):¬ Mv b f g pp:=j.other j.blk (by decide) (by decide) (by decide)
theorem Sc.on(j:Sc w pp x v s b p f g S c H F sd T r now)(h:Below w.heap.size w w'):Sc w' pp x v s b p f g S c H F sd T r now:=by
 obtain⟨G,I,J,A,L⟩:=j.conf;obtain⟨N,O,U,E,V⟩:=j.vips;obtain⟨W,d⟩:=j.set;exact⟨aG h j.blk,⟨G,I,J.keep (Kp.of_below h A),bJa A h.size,L⟩,⟨N,O,U.keep (Kp.of_below h E),bJa E h.size,V⟩,⟨W,d.on h⟩,j.wk.on h,j.pins.on h⟩
theorem Sc.walk(j:Sc w pp x v s b p f g S c H F sd T r now)(h:bJ b F sd w w'):Sc w' pp x v s b p f g S c H F sd T r now:=by
 obtain⟨U,V,W,I,J⟩:=j.conf;obtain⟨X,Y,Z,L,N⟩:=j.vips;obtain⟨xt,d⟩:=j.set;have A:ScE b f g w w':=ScE.wk h;have O:=j.wk;obtain⟨dn,sm,lv,G,-⟩:=O;have E:=j.pins;refine⟨dW j.blk G (by decide) h.2,⟨U,V,W.keep (aE2 A I J),bJa I A.size,J⟩,⟨X,Y,Z.keep (aE2 A L N),bJa L A.size,N⟩,⟨xt,aNy d j.wk h⟩,h.1,⟨dW E.blk G (by decide) h.2,⟨dW E.tab.blk G (by decide) h.2,?_,E.tab.len⟩⟩⟩;obtain⟨cs,h1,h2⟩:=E.tab.row;exact⟨cs,dW h1 G (by decide) h.2,h2⟩
theorem aG0{a:World}(h:bH f g a d)(E:g<a.heap.size)(L:f≠g):∃j,aV a.heap.size (fun k=>k=f) a j/\aV j.heap.size (fun k=>k=g) j d/\j.heap[g]?=a.heap[g]?:=by
 obtain⟨o,I⟩:∃o,a.heap[g]?=some o:=⟨_,dXa E⟩
 have G:g<d.heap.size:=bKa E h.size;refine⟨{ d with heap:=d.heap.setIfInBounds g o },⟨h.os,h.tape,h.output,?_,?_⟩,⟨rfl,rfl,rfl,?_,?_⟩,?_⟩
 .simpa using h.size
 .intro k J A;by_cases e:k=g
  .subst e;simp[G,I]
  .show(d.heap.setIfInBounds g o)[k]?=_
   rw[cPa (fun x=>e x.symm)];exact h.block k J (by rintro(rfl|rfl);exact A rfl;exact e rfl)
 .simp
 .intro k _ A
  show d.heap[k]?=(d.heap.setIfInBounds g o)[k]?
  rw[cPa (fun x=>A x.symm)]
 .simp[G,I]
theorem wk_pin{a:World}{I:Array Value}(J:gV a b F sd)(E:a.heap[f]?=some (.cells I 142 (0,0))){L:Array Value}(A:a.heap[g]?=some (.cells L 144 (0,0)))(h:bH f g a d):gV d b F sd:=by
 obtain⟨O,U,V,W,j⟩:=J;have N:f≠g:=by
  rintro rfl;rw[E]at A;injection(bFa A)with _ e _
  exact absurd e (by decide)
 obtain⟨w1,k1,k2,k3⟩:=aG0 h (aL A) N;have G:=k3.trans A;refine⟨O,U,V,dW (dW W E (by decide) k1) G (by decide) k2,?_⟩;rcases j with j|⟨j,q,xs,X,Y,Z⟩
 .exact .inl j
 .exact .inr ⟨j,q,xs,X,Y,dW (dW Z E (by decide) k1) G (by decide) k2⟩
end
end
section
section
variable {w:World} {pp x v s b p f g S:Nat} {c:Cfg} {H:List Int} {F:Int} {sd:Nat} {T:FT} {r:Ru} {now:Int}
theorem aAr(A:Sc w pp x v s b p f g S c H F sd T r now):Cl 37 #[.pointer (some ⟨pp,0,none⟩)] w fun e w'=>e=.returned (.bool false)/\w'=w:=by
 have j:=A.blk;have E:=aA j 0;have k1:=aA j 1;have k2:=aA j 2;have k3:=aA j 3;have G:=aA j 4;clear A j;go_enter func37,ntmps37;go_wp2_with fail
 go_ret;exact⟨rfl,rfl⟩
theorem aNh(E:Sc w pp x v s b p f g S c H F sd T r now)(U:sd<18446744073709551616)(t:Tu)(V:gY t) :
 Cl 34 #[.pointer (some ⟨pp,0,none⟩),.agg (eB t)] w fun e w'=>e=.returned (.int .u64 (mW sd t:Int))/\Below w.heap.size w w':=by
 have L:=q_ (fun w=>aCv sd U t V w);obtain⟨hv,ae⟩:∃n,mW sd t=n:=⟨_,rfl⟩
 rw[ae]at L ⊢;obtain⟨j,N⟩:=eX (w.alloc (.cells (eB t) 46));have G:Hid (Below w.heap.size w j):=q_ (N▸bC);have I:=bN N;have ah:=aL E.blk;have ai:=E.wk.lt;have X:=aG G E.blk;obtain⟨dn,sm,lv,hk,-⟩:=E.wk;have Y:=aG G hk;obtain⟨z,hz⟩:=eX w.heap.size;have aj:=(Array.getElem?_eq_some_iff.1 I).1;rw[hz]at I G ah ai aj;rw[hz];clear E ae V U hk;go_enter func34,ntmps34;go_upto_region 1 with fail
 clear N;refine rX (Below j.heap.size) ?_;intro J A;have Z:=aG A X;have aa:=aG A Y;have ab:=aG A I;have ak:=A.size;have ac:=q_ ((tw G A));have lp:=fun l:bU (Below j.heap.size) J=>aA ((l.hk.block pp (by omega)).trans Z) 3
 have lb:=fun l:bU (Below j.heap.size) J=>aA ((l.hk.block b (by omega)).trans aa) 5
 have lr:Hid (∀l:bU (Below j.heap.size) J,l.w.rangeAt z 0 (tuL t)):=q_ (fun l=>aM (cs:=eB t) ((l.hk.block z (by omega)).trans ab));clear X Y I G A Z aa ab;refine xS (Below j.heap.size) 0 7 3 ?_;simp only[dA,dC,dD];iterate 7 refine qX ?_
 refine aN ?_;refine xS (Below j.heap.size) 7 1 2 ?_;simp only[dB,dA,dC,dD];refine dU rfl 46 (.tmp 3) rfl z 0 rfl (tuL t) _ lr cRa rfl bW ?_;refine aN ?_;clear lp lb lr;refine fS 8 rfl fun K W=>?_;go_simp;go_at_call 35;refine(L J).mono ?_;rintro e w4 ⟨rfl,O⟩;refine W _ _ (O.mono ak) ?_;clear W K L;have an:=q_ ((tw ac O));clear ac O;refine xM 9 rfl ?_;refine fD ?_;go_wp2_with fail
 go_ret;exact⟨rfl,an⟩
theorem aGr(A:ByteArray)(j E G:Int)(I:Bool)(J L:Int)(w:World):(Instr.field 93 (.agg #[.string A,.int .i64 j,.int .i64 E,.int .i64 G,.bool I,.int .u64 J,.int .u64 L]) 1).run prog w=.ok (.int .i64 j) w:=by kernel_rfl
theorem aGq(G:ByteArray)(I J L:Int)(j:Bool)(A E:Int)(w:World):(Instr.field 93 (.agg #[.string G,.int .i64 I,.int .i64 J,.int .i64 L,.bool j,.int .u64 A,.int .u64 E]) 4).run prog w=.ok (.agg #[.bool j,.int .u64 A,.int .u64 E]) w:=by kernel_rfl
theorem Sc.cf(G:Sc w pp x v s b p f g S c H F sd T r now):∃j A E k1 k2 k3 t I,w.heap[x]?=some (.cells (cfC c (.slice j c.nodes.length k1) (.slice A c.vips.length k2) (.slice E c.views.length k3)++#[.pointer (some ⟨t,0,none⟩)]) 87 (0,0))/\dH w I t c.nodes:=by
 obtain⟨J,O,h,-⟩:=G.conf;obtain⟨j,A,E,k1,k2,k3,t,L,U,V,N⟩:=h.at.h;exact⟨j,A,E,k1,k2,k3,t,J,L,N⟩
theorem live_any(j:Sc w pp x v s b p f g S c H F sd T r now)(h:Int) :
 Cl 73 #[.pointer (some ⟨pp,0,none⟩),.int .i64 h] w fun e w'=>e=.returned (.bool ((eU c.nodes h).kind == 4))/\Below w.heap.size w w':=by
 obtain⟨A1,A2,A3,k1,k2,k3,t,V,G,I⟩:=j.cf;have q:=q_ (uD c.nodes h V t w I);have c0:=aA j.blk 0;have U:=aA G 11;unfold cfC at U;obtain⟨⟨W,X,Y,Z,⟨av,L,N⟩⟩,J⟩:∃O,eU c.nodes h=O:=⟨_,rfl⟩
 rw[J]at q ⊢;unfold ndA at q;dsimp only at q ⊢;have E:=fun w=>aGr (str W) X Y Z av (L:Int) (N:Int) w
 clear I G j J;go_enter func73,ntmps73;go_wp2_with fail
 refine(q).mono ?_;rintro e w1 ⟨rfl,A⟩;clear q;have ae:=E w1;clear E;replace A:=q_ A;go_wp2_with fail
 go_ret;exact⟨rfl,A⟩
end
end
def qH (x:Px):Tu:=if x.er=true then x.ab else x.t
theorem aQg{x:Px}(h:xG x):BdTu (qH x):=by
 unfold qH;split
 .exact h.ab
 .exact h.t
theorem nP{t:Tu}(h:BdTu t):gY t:=⟨h.a,h.b,h.c,h.d⟩
theorem bd_wf{t:Tu}(h:BdTu t):WfTu t:=⟨nP h,by have:=h.p;omega,by have:=h.p;omega,by have:=h.q;omega,by have:=h.q;omega⟩
theorem key_px(x:Px)(w:World):Cl 70 #[.agg (gP x)] w fun e w'=>e=.returned (.agg (eB (qH x)))/\Below w.heap.size w w':=by
 refine(key_any x.v6 x.t.pr x.t.sv x.t.sh x.t.sl x.t.dv x.t.dh x.t.dl x.t.sp x.t.dp x.ttl x.fl x.er x.ab.pr x.ab.sv x.ab.sh x.ab.sl x.ab.dv x.ab.dh x.ab.dl x.ab.sp x.ab.dp x.sz w).mono ?_;rintro e w' ⟨rfl,h⟩;refine⟨?_,h⟩;unfold qH keyA
 cases x.er<;>rfl
structure vQ where
 K:Nat
 hosts:List Int
 vip:Vp
 pin:Bool
def jS (K:Nat):vQ:=⟨K,[],vpZ,false⟩
def bM (c:Cfg) (H:List Int) (F sd:Nat) (T:FT) (S:Nat) (x:Px):vQ :=
 match nA c (qH x)with
 | none=>jS 23
 | some v =>
  if x.ttl<2 then jS 20 else
  if(0<=aCy T S (qH x)/\(eU c.nodes (aCy T S (qH x))).kind=4)/\v.copies=1 then⟨0,[aCy T S (qH x)],v,true⟩else
  if x.er=true then jS 7 else
  if pJ c.nodes H (zH c ⟨(qH x).sv,(qH x).sh,(qH x).sl⟩) F sd (mW sd (qH x)) v.copies c.domain=[]then jS 22 else
  ⟨0,pJ c.nodes H (zH c ⟨(qH x).sv,(qH x).sh,(qH x).sl⟩) F sd (mW sd (qH x)) v.copies c.domain,v,false⟩
abbrev aH (hv:Value) (v:Vp) (pn:Bool):Array Value:=#[hv,.bool v.a.v6,.int .u64 (v.a.hi:Int),.int .u64 (v.a.lo:Int),.int .i64 v.proto,.int .i64 v.port,.int .i64 v.copies,.bool v.nat,.bool pn]
theorem eG{j:Value}(h:j.oneCell'=true)(v:Vp)(E:Bool):(aH j v E).all (·.oneCell')=true:=all_oneCell_toArray (by
 intro u A;simp only[bXa,bVa,dTa]at A;rcases A with rfl|rfl|rfl|rfl|rfl|rfl|rfl|rfl|rfl<;>first|exact h|rfl)
def aGi (b:Nat) (F:Int) (sd:Nat) (R:vQ) (w w':World) (e:Ending):Prop :=
 ∃hv,e=.returned (.tuple #[.agg (aH hv R.vip R.pin),.int .i64 (R.K:Int)])/\w'.ownsRow w.heap.size 3 1 hv R.hosts.length (R.hosts.map bL)/\bJ b F sd w w'
theorem bJ.below{F:Int}{w:World}(j:gV w b F sd)(h:Below w.heap.size w w'):bJ b F sd w w':=⟨j.on h,bT h (aZa _)⟩
theorem zW{F:Int}{R:vQ}{w:World}(K:Nat)(j:R=jS K)(A:gV w b F sd)(h:Below w.heap.size w w') :
 aGi b F sd R w w' (.returned (.tuple #[.agg (aH (.slice none 0 0) vpZ false),.int .i64 (K:Int)])):=by
 subst j;exact⟨_,rfl,⟨rfl,.inl ⟨rfl,rfl⟩⟩,bJ.below A h⟩
theorem jZ:(prog.info? 54).map (·.size)=some 9:=by kernel_rfl
theorem yK(o:Oper)(h:o.op=.alloc 54)(ρ:Operand->Value)(w:World):(execOp ρ o).run prog w=.ok (.value (.pointer (some ⟨w.heap.size,0,none⟩))) (w.alloc (.cells (aH (.slice none 0 0) vpZ false) 54)):=by
 obtain⟨d,j,t,A,E,g⟩:=o;dsimp only at h;subst h
 kernel_rfl
theorem aDv{I:Oper}(A:Option Addr)(n G:Nat)(v:Vp)(E:Bool)(j:Operand->Value)(x y:Operand)(J:I.op=.build 54 #[(0,x),(1,y),(2,.const (.bool E))])(L:j x=.slice A n G)(N:j y=.agg (fK v))(O:j (.const (.bool E))=.bool E)(w:World):(execOp j I).run prog w=.ok (.value (.agg (aH (.slice A n G) v E))) w:=by
 have h:(Instr.build 54 #[(0,j x),(1,j y),(2,j (.const (.bool E)))]).run prog w=.ok (.agg (aH (.slice A n G) v E)) w:=by
  rw[L,N,O];obtain⟨⟨V,W,X⟩,Y,Z,co,na⟩:=v
  kernel_rfl
 have U:∀B,B=#[(0,j x),(1,j y),(2,j (.const (.bool E)))]->Sem.run prog (do let v <- Instr.build 54 B;pure (Next.value v)) w=.ok (.value (.agg (aH (.slice A n G) v E))) w:=by
  rintro _ rfl;simp only[fJa,fHa,h,dNa]
 unfold execOp;simp only[J];exact U _ (by simp)
section
def aCj (c:Cfg) (x:Px) (n:Nat) (xs:List UInt8) (u:Vp) (h:Int) (K:Nat) (U:List UInt8):Prop :=
 ∃K1 U1,LessA n xs K1 U1/\(K1≠0->K=K1)/\(K1=0->if(u.nat && !x.er)=true then TurnA (eU c.nodes h).a.v6 (eU c.nodes h).a.hi (eU c.nodes h).a.lo x.t.dp U1.length U1 K U
  else WrapA (if(eU c.nodes h).a.v6=true then c.s1 else c.s0).v6 (if(eU c.nodes h).a.v6=true then c.s1 else c.s0).hi (if(eU c.nodes h).a.v6=true then c.s1 else c.s0).lo (eU c.nodes h).a.v6 (eU c.nodes h).a.hi (eU c.nodes h).a.lo U1.length U1 K U)
section
variable {w:World} {pp x v s b p f g S:Nat} {c:Cfg} {H:List Int} {F:Int} {sd:Nat} {T:FT} {r:Ru} {now:Int}
theorem aUg(hS:Sc w pp x v s b p f g S c H F sd T r now)(X:Px)(n:Nat)(xs:List UInt8)(u:Vp)(h:Int)(K:Nat)(U:List UInt8)(hR:aCj c X n xs u h K U)(A:Option Addr)(cc:Nat)(hx:IsB w w.heap.size A n xs)(c3:n<=cc)(c4:cc<=maxLen) :
 Cl 38 #[.pointer (some ⟨pp,0,none⟩),.agg (gP X),.slice A n cc,.agg (fK u),.int .i64 h] w fun e w'=>dE K U w w' e:=by
 obtain⟨K1,U1,hL,aw,ad⟩:=hR;obtain⟨A1,A2,A3,k1,k2,k3,t,bt,cw,hT⟩:=hS.cf;have q:=fun w' (hb:Below w.heap.size w w')=>uD c.nodes h bt t w' (by
  obtain⟨nv,kv,tv,hv,us,hC⟩:=hT;exact⟨nv,kv,tv,hv,us,hC.on hb⟩)
 obtain⟨⟨nm,kd,ab,wt,⟨av,ah,al⟩⟩,cy⟩:∃nd,eU c.nodes h=nd:=⟨_,rfl⟩
 rw[cy]at q ad;unfold ndA at q;dsimp only at q ad;have b6:=fun w=>aGq (str nm) kd ab wt av (ah:Int) (al:Int) w
 obtain⟨⟨sv,sh,sl⟩,V⟩:∃a,(if av=true then c.s1 else c.s0)=a:=⟨_,rfl⟩
 rw[V]at ad;dsimp only at ad;obtain⟨w1,bc⟩:=eX (w.alloc (.cells (gP X) 48));have au:Below w.heap.size w w1:=bc▸bC;have b7:=bN bc;have be:w1.heap.size=w.heap.size+1:=by rw[<-bc];simp
 obtain⟨w2,bm⟩:=eX (w1.alloc (.cells (fK u) 52));have ap:Below w1.heap.size w1 w2:=bm▸bC;have a6:Hid (w2.heap[w1.heap.size]?=some (.cells (fK u) 52 (0,0))):=q_ (bm▸aJ _ _ _);have a7:=q_ ((tw au ap));have q2:=q_ (q w2 a7);have bf:=q_ (aG ap (aG au hS.blk));have bg:=q_ (aG ap (aG au cw));have b9:=q_ ((hx.on au).on ap);have bh:=q_ (aG ap b7);obtain⟨z,hz⟩:=eX w.heap.size;rw[hz]at be bh a7;rw[be]at a6;have dt:=aL a6;have c0:=aA bf 0;have cg:=aA bg 11;unfold cfC at cg;clear hS cw hT q au ap b7 hx cy;replace ⟨hL,aw,ad,V⟩:=q_4 hL aw ad V;go_enter func38,ntmps38;go_upto_region 1 with fail
 clear bc bm be;apply aWa;iterate 2 refine pS ?_
 refine hSa fun K G=>?_;go_simp;refine G _ _ ?_;clear G K
 iterate 5 refine pS ?_
 refine bRa rfl fun K G=>?_;go_simp;refine((q2)).mono ?_;rintro e w3 ⟨rfl,j⟩;have c9:=b6 w3;have ag:=q_ (aG j bf);have ai:=q_ (aG j bg);have ch:=q_ (b9.on j);have aj:=q_ (aG j a6);have ci:=q_ (aG j bh);have ak:=q_ ((tw a7 j));have a9:=j.size;clear j bf bg b9 a6 bh a7 q2 b6 c0 cg;go_simp;refine G _ _ ?_;clear G K;refine pS ?_;clear c9;refine gF rfl rfl 27 _ (aDt _ rfl) 12 rfl (.tmp 25) rfl _ (fun _=>rfl) (fun _=>rfl) rfl (by kernel_rfl) (aBt av (ah:Int) (al:Int)) ?_;intro w4 ax ao ds;have cj:=q_ (aG ao ag);have ck:=q_ (aG ao ai);have cl:=ch.on ao;have cm:=q_ (aG ao aj);have co:=q_ (aG ao ci);have cp:=q_ ((tw ak ao));have da:=ao.size;obtain⟨y,hy⟩:=eX w3.heap.size;have db:z<w3.heap.size:=by omega
 rw[hy]at ax ds da db;rw[hy];have cq:=q_ (hL A cc w4 cl c3 c4);clear ao ag ai ch aj ci ak hy cl hL;replace ax:=q_ ax;refine bCa ?_;go_simp;go_wp2_with fail
 refine cq.mono ?_;rintro e E ⟨v1,rfl,b0,b1,am⟩;have W:=aG am cj;have Y:=aG am ck;have bi:=aG am cm;have ba:=aG am co;have I:=aG am ax;have J:=tw cp am;have du:=am.size;clear cj ck cm co cp ax cq am;by_cases hk:K1=0
 case neg =>
  have e1:((K1:Int) != 0)=true:=by rw[dLa];omega
  obtain rfl:=b1 hk;obtain rfl:=aw hk;clear b0 b1 W Y bi ba I ad aw V;replace J:=q_ J;go_wp2_with fail
  go_ret2;exact dE.no U hk (by rw[hz];exact J)
 obtain⟨A1,c1,rfl,bp,bq,hu⟩:=(b0 hk).form;have G:=q_ (ad hk);subst hk;have cn:=aA bi 6;have ce:E.cell? ⟨z,12,none⟩=some (.bool X.er):=aA ba 12;have cd:E.cell? ⟨z,9,none⟩=some (.int .i64 X.t.dp):=aA ba 9;have ca:=aA I 0;clear b0 b1 ad aw bi ba;obtain⟨nb,bs⟩:=eX u.nat;obtain⟨eb,bw⟩:=eX X.er;rw[bs,bw]at G;rw[bw]at ce;rw[show(fK u)[6]?=some (.bool u.nat) from rfl,bs]at cn;clear bs bw;replace ⟨W,Y,I,J,hu⟩:=q_5 W Y I J hu;go_upto_region 5 with fail
 go_cut [40] (fun bv wx=>bv=.bool (nb && !eb)/\E=wx)
 case first =>
  clear W Y I J hu G V;rcases nb with _|_<;>rcases eb with _|_<;>(go_wp2_with fail)<;>go_meet<;>exact⟨rfl,rfl⟩
 case rest =>
 obtain⟨rfl,rfl⟩:=hcut;obtain⟨tb,bx⟩:=eX ((nb && !eb));have L:=G.out;rw[bx]at L;rw[bx];clear G bx cn ce;rcases tb with _|_
 case true =>
  rw[bBa rfl]at L;have hq:=q_ (L A1 c1 E hu bp bq);clear L hu ca W Y V;go_upto_region 6 with fail
  apply aWa;refine pS ?_;refine gG (.agg #[.bool av,.int .u64 (ah:Int),.int .u64 (al:Int)]) rfl (jL E _ 27 (.tmp 12) rfl y rfl _ _ I dSa rfl (by rw[kS];rfl)) ?_;dsimp only[Act.put];iterate 3 refine pS ?_
  refine bRa rfl fun K G=>?_;go_simp;refine((hq)).mono ?_;rintro e w6 ⟨v2,rfl,an,N,Z⟩;have ay:=q_ ((tw J Z));have az:=q_ (fun h=>(an h).weaken (show w.heap.size<=E.heap.size by omega));clear an hq Z J I cd;replace N:=q_ N;go_simp;refine G _ _ ?_;clear G K;iterate 4 refine pS ?_
  refine bCa ?_;go_simp;go_wp2_with fail
  go_ret2;exact⟨v2,rfl,az,N,by rw[hz];exact ay⟩
 case false =>
  rw[bAa (by decide)]at L;have dw:=aL W;have dx:=aL Y;have dy:=aL I;clear cd;replace L:=q_ L;rcases av with _|_
  .have e:=V.out;rw[bAa (by decide)]at e;clear V;replace e:=q_ e;go_upto_region 10 with fail
   clear ca;refine rX (Below E.heap.size) ?_;intro O j;have ag:=aG j W;have ai:=aG j Y;have aj:=aG j I;have a0:=q_ (hu.on j);have a9:=j.size;have ak:=q_ ((tw J j));have lp:=fun l:bU (Below E.heap.size) O=>aA ((l.hk.block pp (by omega)).trans ag)
   have la:Hid (∀l:bU (Below E.heap.size) O,l.w.rangeAt y 0 [.bool false,.int .u64 (ah:Int),.int .u64 (al:Int)]):=q_ (fun l=>aM (cs:=#[.bool false,.int .u64 (ah:Int),.int .u64 (al:Int)]) ((l.hk.block y (by omega)).trans aj));have ls:Hid (∀l:bU (Below E.heap.size) O,l.w.rangeAt x 5 [.bool c.s0.v6,.int .u64 (c.s0.hi:Int),.int .u64 (c.s0.lo:Int)]):=q_ (fun l=>dZ ((l.hk.block x (by omega)).trans ai) 5 3 _ rfl);rw[e.out]at ls;dsimp only at ls;clear j W Y I hu J ag ai aj e;refine xS (Below E.heap.size) 0 9 8 ?_;simp only[dA,dC,dD];iterate 9 refine qX ?_
   refine aN ?_;refine xS (Below E.heap.size) 9 3 5 ?_;simp only[dB,dA,dC,dD];refine dU rfl 27 (.tmp 59) rfl x 5 rfl [.bool sv,.int .u64 (sh:Int),.int .u64 (sl:Int)] _ ls dSa rfl kS ?_;refine dU rfl 27 (.tmp 12) rfl y 0 rfl [.bool false,.int .u64 (ah:Int),.int .u64 (al:Int)] _ la dSa rfl kS ?_;refine qX ?_;refine aN ?_;clear lp ls la;refine fS 12 rfl fun K G=>?_;go_simp;go_at_call 87;refine(L A1 c1 O a0 bp bq).mono ?_;rintro e v6 ⟨v2,rfl,an,N,Z⟩;refine G _ _ (Z.mono a9) ?_;clear G K;have ay:=q_ ((tw ak Z));have az:=q_ (fun h=>(an h).weaken (show w.heap.size<=O.heap.size by omega));clear an Z ak a0 L;replace N:=q_ N;refine xS (Below E.heap.size) 13 2 2 ?_;simp only[dB,dA,dC,dD];iterate 2 refine qX ?_
   refine aN ?_;refine xM 15 rfl ?_;refine xM 16 rfl ?_;refine fD ?_;go_wp2_with fail
   go_ret2;exact⟨v2,rfl,az,N,by rw[hz];exact ay⟩
  .have e:=V.out;rw[bBa rfl]at e;clear V;replace e:=q_ e;go_upto_region 10 with fail
   clear ca;refine rX (Below E.heap.size) ?_;intro O j;have ag:=aG j W;have ai:=aG j Y;have aj:=aG j I;have a0:=q_ (hu.on j);have a9:=j.size;have ak:=q_ ((tw J j));have lp:=fun l:bU (Below E.heap.size) O=>aA ((l.hk.block pp (by omega)).trans ag)
   have la:Hid (∀l:bU (Below E.heap.size) O,l.w.rangeAt y 0 [.bool true,.int .u64 (ah:Int),.int .u64 (al:Int)]):=q_ (fun l=>aM (cs:=#[.bool true,.int .u64 (ah:Int),.int .u64 (al:Int)]) ((l.hk.block y (by omega)).trans aj));have ls:Hid (∀l:bU (Below E.heap.size) O,l.w.rangeAt x 8 [.bool c.s1.v6,.int .u64 (c.s1.hi:Int),.int .u64 (c.s1.lo:Int)]):=q_ (fun l=>dZ ((l.hk.block x (by omega)).trans ai) 8 3 _ rfl);rw[e.out]at ls;dsimp only at ls;clear j W Y I hu J ag ai aj e;refine xS (Below E.heap.size) 0 9 8 ?_;simp only[dA,dC,dD];iterate 9 refine qX ?_
   refine aN ?_;refine xS (Below E.heap.size) 9 3 5 ?_;simp only[dB,dA,dC,dD];refine dU rfl 27 (.tmp 59) rfl x 8 rfl [.bool sv,.int .u64 (sh:Int),.int .u64 (sl:Int)] _ ls dSa rfl kS ?_;refine dU rfl 27 (.tmp 12) rfl y 0 rfl [.bool true,.int .u64 (ah:Int),.int .u64 (al:Int)] _ la dSa rfl kS ?_;refine qX ?_;refine aN ?_;clear lp ls la;refine fS 12 rfl fun K G=>?_;go_simp;go_at_call 87;refine(L A1 c1 O a0 bp bq).mono ?_;rintro e v6 ⟨v2,rfl,an,N,Z⟩;refine G _ _ (Z.mono a9) ?_;clear G K;have ay:=q_ ((tw ak Z));have az:=q_ (fun h=>(an h).weaken (show w.heap.size<=O.heap.size by omega));clear an Z ak a0 L;replace N:=q_ N;refine xS (Below E.heap.size) 13 2 2 ?_;simp only[dB,dA,dC,dD];iterate 2 refine qX ?_
   refine aN ?_;refine xM 15 rfl ?_;refine xM 16 rfl ?_;refine fD ?_;go_wp2_with fail
   go_ret2;exact⟨v2,rfl,az,N,by rw[hz];exact ay⟩
end
end
theorem aKw(k:Nat){m:Machine}{o:Outcome}{x:World}(h:runN P n m=.ended o x):runN P (n+k) m=.ended o x:=by rw[runN_add,h]
theorem aS3{f:FuncId}{args:Array Value}{w:World}{j A:Value}{G I:World->Prop}(J:Calls P f args w fun e w'=>e=.returned j/\G w')(L:Calls P f args w fun e w'=>e=.returned A/\I w')(E:P.inits.idxOf? f=none):j=A:=by
 obtain⟨N,u1,W,O,rfl⟩:=Calls.done (R:=fun v _=>v=j) (J.mono (by rintro e w' ⟨rfl,_⟩;exact rfl)) E;obtain⟨U,u2,X,V,rfl⟩:=Calls.done (R:=fun v _=>v=A) (L.mono (by rintro e w' ⟨rfl,_⟩;exact rfl)) E;have a:=aKw U O;have b:=aKw N V;rw[Nat.add_comm,b]at a;injection a with a _
 injection a with a
 exact a.symm
theorem isb_ex(w:World)(xs:List UInt8):∃A w',IsB w' w'.heap.size A xs.length xs:=by
 refine⟨some ⟨w.heap.size,0,none⟩,w.alloc (.cells (xs.map u8v).toArray 5),rfl,fun _=>⟨_,_,rfl,by simp,fun i j=>?_⟩⟩;rw[aA (aJ _ _ _)];simp[j]
theorem aQq(w:World){K:Nat}{E:Array Value}(h:PIs n xs K y)(O:PIs n xs j E)(U:xs.length=n)(W:n<=4000):K=j/\(K=0->y=E):=by
 subst U;obtain⟨A,w',J⟩:=isb_ex w xs;have e:=aS3 (h A xs.length w' J (aZa _) (by unfold maxLen;omega)) (O A xs.length w' J (aZa _) (by unfold maxLen;omega)) (by kernel_rfl);injection e with e
 obtain⟨L,V⟩:=Array.mk.inj e |> List.cons.inj
 obtain⟨N,-⟩:=List.cons.inj V;have I:K=j:=by
  injection N with _ N
  omega
 refine⟨I,fun G=>?_⟩;subst I;rw[bBa G,bBa G]at L;injection L
theorem less_ex(n:Nat)(xs:List UInt8)(hl:xs.length=n)(hn:n<=4000):∃K U,LessA n xs K U/\U.length<=n/\(K=0->U.length=n\/U.length<n) /\
 (∀(_:World) (X:Px),PxA n xs 0 X->K=0->PxA U.length U 0 { X with ttl:=X.ttl - 1 }):=by
 by_cases W:n=0
 .exact⟨2,[],fun A c w G j E=>uC n xs 2 [] A c w G j E (fun _=>rfl) (fun h=>absurd h (by omega)) (fun h=>absurd h (by omega)) (fun h=>absurd h (by omega)),by simp,fun h=>by omega,fun _ _ _ h=>by omega⟩
 have a4:0<n:=by omega
 by_cases Y:(xs.getD 0 0).toNat / 16=4
 .rcases aJ7 n xs hl (by omega)with⟨K,V,_,L⟩|I
  .exact⟨K,[],fun A c w G j E=>uC n xs K [] A c w G j E (fun h=>absurd h W) (fun _ _ w' J=>aTs n xs K _ _ _ _ _ _ _ _ _ _ _ _ V L [] A c w' J j E) (fun _ h=>absurd h (by omega)) (fun _ h=>absurd Y h),by simp,fun h=>absurd h V,fun _ _ _ h=>absurd h V⟩
  obtain⟨s,hs⟩:∃s,(xs.getD 0 0).toNat % 16*4=s:=⟨_,rfl⟩
  obtain⟨N,ac⟩:=eX (beN xs 2 2);have L:=I.is (by omega) s N hs ac;have g3:=I.h3;have g4:=I.h4;have g6:=I.h6;have g7:=I.h7;rw[hs]at g3 g4 g6;rw[ac]at g6 g7;have e:20+(s - 20)+(N - s)=N:=by omega
  by_cases h8:(xs.getD 8 0).toNat<2
  .exact⟨20,[],fun A c w G j E=>uC n xs 20 [] A c w G j E (fun h=>absurd h W) (fun _ _ w' J=>aTt n xs _ _ _ _ _ _ _ _ _ _ _ _ L h8 [] A c w' J j E) (fun _ h=>absurd h (by omega)) (fun _ h=>absurd Y h),by simp,fun h=>by omega,fun _ _ _ h=>by omega⟩
  .obtain⟨ho,hL,a7,ay,a8⟩:=aKc I s N hs ac (by omega);obtain⟨Kp,y1,y2,aj,O,hy⟩:=aPi I (by omega) N ac (by omega);have b8:=(xs.getD 8 0).toNat_lt;refine⟨0,jM xs N,fun A c w G j E=>uC n xs 0 (jM xs N) A c w G j E (fun h=>absurd h W) (fun _ _ w' J=>aTu n xs _ _ _ _ _ _ _ _ _ _ _ _ L (by omega) N e (by omega) (by omega) (by omega) A c w' J j E) (fun _ h=>absurd h (by omega)) (fun _ h=>absurd Y h),by omega,fun _=>by omega,fun w X hX _=>?_⟩;rw[hL];obtain⟨e1,e2⟩:=aQq w hX aj hl hn;subst e1;obtain⟨Z,aa,-,-⟩:=hy rfl;have ey:=e2 rfl;rw[<-ey]at Z aa;have et:X.ttl=((xs.getD 8 0).toNat:Int):=by
    have:(some (Value.int .i64 X.ttl))=some (Value.int .i64 ((xs.getD 8 0).toNat:Int)):=Z;injection this with this
    injection this
   rw[<-aa]at O;rw[<-et]at O;exact O
 by_cases h6:(xs.getD 0 0).toNat / 16=6
 .rcases aNz n xs hl (by omega)with⟨K,V,_,L⟩|⟨a2,nx,rest,I⟩
  .exact⟨K,[],fun A c w G j E=>uC n xs K [] A c w G j E (fun h=>absurd h W) (fun _ h=>absurd h Y) (fun _ _ w' J=>aTv n xs K _ _ _ _ _ _ _ _ _ _ _ _ _ L V (by simp) [] A c w' J j E) (fun _ _ h=>absurd h6 h),by simp,fun h=>absurd h V,fun _ _ _ h=>absurd h V⟩
  obtain⟨f1,f2,f3,f4,f5,f6,f7,f8⟩:=I.facts;have L:=I.is (by omega);obtain⟨T,ao⟩:∃T,40+nK a2+rest.length=T:=⟨_,rfl⟩
  by_cases h7:(xs.getD 7 0).toNat<2
  .exact⟨20,[],fun A c w G j E=>uC n xs 20 [] A c w G j E (fun h=>absurd h W) (fun _ h=>absurd h Y) (fun _ _ w' J=>aTw n xs _ _ _ _ _ _ _ _ _ _ _ _ _ L (by omega) f7 [] A c w' J j E) (fun _ _ h=>absurd h6 h),by simp,fun h=>by omega,fun _ _ _ h=>by omega⟩
  .obtain⟨ho,hL,bf,ay⟩:=aKd I T ao;obtain⟨Kp,y1,y2,aj,O,hy⟩:=aPj I (by omega) T ao (by omega);have b7:=(xs.getD 7 0).toNat_lt;refine⟨0,jQ xs T,fun A c w G j E=>uC n xs 0 (jQ xs T) A c w G j E (fun h=>absurd h W) (fun _ h=>absurd h Y) (fun _ _ w' J=>aTx n xs _ _ _ _ _ _ _ _ _ _ _ _ _ L (by omega) f6 f7 T ao (by omega) (by omega) (by omega) A c w' J j E) (fun _ _ h=>absurd h6 h),by omega,fun _=>by omega,fun w X hX _=>?_⟩;rw[hL];obtain⟨e1,e2⟩:=aQq w hX aj hl hn;subst e1;obtain⟨Z,aa,-,-⟩:=hy rfl;have ey:=e2 rfl;rw[<-ey]at Z aa;have et:X.ttl=((xs.getD 7 0).toNat:Int):=by
    have:(some (Value.int .i64 X.ttl))=some (Value.int .i64 ((xs.getD 7 0).toNat:Int)):=Z;injection this with this
    injection this
   rw[<-aa]at O;rw[<-et]at O;exact O
 exact⟨10,[],fun A c w G j E=>uC n xs 10 [] A c w G j E (fun h=>absurd h W) (fun _ h=>absurd h Y) (fun _ h=>absurd h h6) (fun _ _ _=>rfl),by simp,fun h=>by omega,fun _ _ _ h=>by omega⟩
theorem aQf(h:vC n xs=0):yP xs=4\/yP xs=41:=by
 unfold vC at h;unfold yP;split at h
 .cases h
 .split at h
  .rename_i j;rcases j with j|j
   .rw[bBa j];exact .inl rfl
   .rw[bAa (by omega),bBa j];exact .inr rfl
  .cases h
section
theorem aQm(w:World)(h:Int):(w.alloc (.cells #[.int .i64 h] 3)).ownsRow w.heap.size 3 1 (.slice (some ⟨w.heap.size,0,none⟩) 1 1) 1 [bL h] :=
 ⟨rfl,.inr ⟨w.heap.size,1,_,rfl,aZa _,aJ _ _ _,by omega,by decide,rfl,rfl⟩⟩
theorem aNm(x:Px):(gP x).all (·.oneCell')=true:=all_oneCell_toArray (by
 intro u j;simp only[bXa,bVa,dTa]at j;rcases j with rfl|rfl|rfl|rfl|rfl|rfl|rfl|rfl|rfl|rfl|rfl|rfl|rfl|rfl|rfl|rfl|rfl|rfl|rfl|rfl|rfl|rfl|rfl<;>rfl)
theorem uF{j E:World}{b y:Nat}{F:Int}{sd:Nat}{cs:Array Value}{G:TypeId}(J:gV j b F sd)(I:j.heap[y]?=some (.cells cs G (0,0)))(L:G≠120)(N:G≠25)(g:j.grownBy E (some y)):gV E b F sd:=by
 have k:aV j.heap.size (fun k=>k=y) j E:=⟨g.os,g.tape,g.output,g.size,fun k O U=>g.block k O (fun e=>U (bFa e))⟩
 obtain⟨V,W,X,h,A⟩:=J;refine⟨V,W,X,dW h I L k,?_⟩;rcases A with A|⟨A,q,xs,Y,Z,h6⟩
 .exact .inl A
 .exact .inr ⟨A,q,xs,Y,Z,dW h6 I N k⟩
theorem aCf(K:Nat){w A G:World}{b y:Nat}{F:Int}{sd:Nat}{cs:Array Value}{E:Value}{u:Vp}(j:bJ b F sd w A)(J:A.ownsRow w.heap.size 3 1 E l.length (l.map bL))(L:A.heap[y]?=some (.cells cs 54 (0,0)))(g:A.grownBy G (some y))(U:w.heap.size<=y) :
 aGi b F sd ⟨K,l,u,I⟩ w G (.returned (.tuple #[.agg (aH E u I),.int .i64 (K:Int)])):=by
 refine⟨E,rfl,cDa J g (kU J L (by decide)),uF j.1 L (by decide) (by decide) g,⟨g.os.trans j.2.os,g.tape.trans j.2.tape,g.output.trans j.2.output,bJa j.2.size g.size,fun k N O=>(g.block k (bKa N j.2.size) (fun e=>by have:=bFa e;omega)).trans (j.2.block k N O)⟩⟩
theorem aUy{j cb:Bool}{a b c:Prop}[Decidable ((a/\b)/\c)](A:a)(E:j=true↔b)(G:cb=true↔c):decide ((a/\b)/\c)=(j && cb):=by
 apply Bool.eq_iff_iff.2;rw[eRa,eEa,E,G];exact⟨fun h=>⟨h.1.2,h.2⟩,fun h=>⟨⟨A,h.1⟩,h.2⟩⟩
section
variable {w:World} {pp x v s b p f g S:Nat} {c:Cfg} {H:List Int} {Fn:Nat} {sd:Nat} {T:FT} {r:Ru} {now:Int}
theorem aKk(hS:Sc w pp x v s b p f g S c H (Fn:Int) sd T r now)(hI:jJ T S os)(c8:sd<18446744073709551616)(h1:100<=Fn)(h2:Fn<=1000)(hG:nD c.nodes)(X:Px)(hX:xG X) :
 Cl 30 #[.pointer (some ⟨pp,0,none⟩),.agg (gP X)] w fun e w'=>aGi b (Fn:Int) sd (bM c H Fn sd T S X) w w' e:=by
 have qk:=q_ (fun w=>key_px X w);have a5:=aQg hX;obtain⟨R,hR⟩:=eX (bM c H Fn sd T S X);rw[hR];unfold bM at hR;obtain⟨t,ht⟩:=eX (qH X);rw[ht]at hR qk a5;clear ht;have qm:∀w',Sc w' pp x v s b p f g S c H (Fn:Int) sd T r now->Cl 71 #[.pointer (some ⟨v,0,none⟩),.agg (eB t)] w' fun e bg=>e=.returned (.tuple #[.agg (fK ((nA c t).getD vpZ)),.bool (nA c t).isSome])/\Below w'.heap.size w' bg:=fun w' h=>by
  obtain⟨lo,hi,a,-⟩:=h.vips;exact aKf c lo v w' a.at t (bd_wf a5)
 have qf:∀w',Sc w' pp x v s b p f g S c H (Fn:Int) sd T r now->Cl 75 #[.pointer (some ⟨v,0,none⟩),.agg #[.bool t.sv,.int .u64 (t.sh:Int),.int .u64 (t.sl:Int)]] w' fun e bg=>e=.returned (.int .i64 (zH c ⟨t.sv,t.sh,t.sl⟩))/\Below w'.heap.size w' bg:=fun w' h=>by
  obtain⟨lo,hi,a,-⟩:=h.vips;exact aMs c lo v w' a.at ⟨t.sv,t.sh,t.sl⟩ ⟨a5.a,a5.b⟩
 have qh:=q_ (fun w' (h:Sc w' pp x v s b p f g S c H (Fn:Int) sd T r now)=>aKm h.pins hI t (nP a5));have qy:=q_ (fun w' (h:Sc w' pp x v s b p f g S c H (Fn:Int) sd T r now)=>aNh h c8 t (nP a5));have ql:=fun w' (h:Sc w' pp x v s b p f g S c H (Fn:Int) sd T r now)=>live_any h
 have qc:∀(fr bn bo:Int) w',Sc w' pp x v s b p f g S c H (Fn:Int) sd T r now->Cl 74 #[.pointer (some ⟨b,0,none⟩),.pointer (some ⟨s,0,none⟩),.int .i64 fr,.int .u64 (mW sd t:Int),.int .i64 bn,.int .i64 bo] w' fun e bg=>(∃v,e=.returned v/\bg.ownsRow w'.heap.size 3 1 v (pJ c.nodes H fr Fn sd (mW sd t) bn bo).length ((pJ c.nodes H fr Fn sd (mW sd t) bn bo).map bL))/\bJ b (Fn:Int) sd w' bg:=fun fr bn bo w' h=>by
  obtain⟨xt,hs⟩:=h.set;exact aGn c.nodes hG H s xt b Fn sd (mW sd t) h1 h2 fr bn bo w' hs h.wk (aB4 _ _) c8
 obtain⟨M,hM⟩:∃M,nA c t=M:=⟨_,rfl⟩
 obtain⟨hp,cx⟩:∃n,aCy T S t=n:=⟨_,rfl⟩
 obtain⟨kd,cz⟩:∃n,(eU c.nodes hp).kind=n:=⟨_,rfl⟩
 obtain⟨fr,c0⟩:∃n,zH c ⟨t.sv,t.sh,t.sl⟩=n:=⟨_,rfl⟩
 obtain⟨hk,c1⟩:∃n,mW sd t=n:=⟨_,rfl⟩
 have ql':=q_ (fun w' h=>ql w' h hp);clear ql;rw[hM,cx,cz,c0,c1]at hR;rw[hM]at qm;rw[cx]at qh;rw[c0]at qf;rw[c1]at qy qc;rw[cz]at ql';clear hM cx cz c0 c1;obtain⟨w1,ca⟩:=eX (w.alloc (.cells (gP X) 48));have dg:Below w.heap.size w w1:=ca▸bC;have dh:=bN ca;have ck:w1.heap.size=w.heap.size+1:=by rw[<-ca];simp
 obtain⟨w2,c2⟩:=eX (w1.alloc (.cells #[.slice none 0 0,.bool false,.int .u64 0,.int .u64 0,.int .i64 0,.int .i64 0,.int .i64 0,.bool false,.bool false] 54));have cm:Below w1.heap.size w1 w2:=c2▸bC;have b4:Hid (w2.heap[w1.heap.size]?=some (.cells (aH (.slice none 0 0) vpZ false) 54 (0,0))):=q_ (c2▸aJ _ _ _);have b5:=q_ (aG cm dh);have b6:=q_ ((tw dg cm));have cn:=q_ (hS.on b6);have hW:=q_ hS.wk;obtain⟨z,hz⟩:=eX w.heap.size;rw[hz]at ck;rw[ck]at b4;rw[hz]at b5 b6;have qn:=aAr cn;have em:=aL b4;clear dg cm dh;have co:=X.ttl;replace ⟨qm,qf,qc,hR,hS,a5⟩:=q_6 qm qf qc hR hS a5;go_enter func30,ntmps30;go_wp2_with fail
 clear ca c2 ck;refine qn.mono ?_;rintro e w2 ⟨rfl,rfl⟩;clear qn;go_upto_region 3 with fail
 apply aWa;refine gG (.agg (gP X)) rfl (jL w2 _ 48 (.tmp 3) rfl z rfl (gP X) _ b5 cMa rfl (by rw[bK];rfl)) ?_;dsimp only[Act.put];refine bRa rfl fun K G=>?_;go_simp;refine((qk w2)).mono ?_;rintro e w3 ⟨rfl,I⟩;have ak:=q_ (cn.on I);have ag:=q_ (aG I b4);have br:=q_ (aG I b5);have av:=q_ ((tw b6 I));have cp:=I.size;clear I cn b4 b5 b6 qk;go_simp;refine G _ _ ?_;clear G K;refine gF rfl rfl 46 _ (aLz _ rfl) 6 rfl (.tmp 15) rfl _ (fun _=>rfl) (fun _=>rfl) rfl (by kernel_rfl) (aN3 t) ?_;intro w4 ap E cr;have ae:=q_ (ak.on E);have bb:=q_ (aG E ag);have a7:=q_ (aG E br);have Y:=q_ ((tw av E));have cq:=E.size;obtain⟨y,hy⟩:=eX w3.heap.size;rw[hy]at ap cr cq;have en:z+1<y:=by omega
 rw[hy];clear E ak ag br av hy;replace ap:=q_ ap;refine bCa ?_;go_simp;go_upto_region 4 with fail
 go_cut [7,8] (fun pv bv wx=>∃q,pv=.pointer (some ⟨q,0,none⟩)/\bv=.bool M.isSome/\wx.heap[q]?=some (.cells (fK (M.getD vpZ)) 52 (0,0))/\Below w4.heap.size w4 wx)
 case first =>
  clear qf qh qy ql' qc hR hW hS;refine rX (Below w4.heap.size) ?_;intro O I;have bs:=q_ (ae.on I);have ag:=q_ (aG I ap);have cp:=I.size;have lp:=fun l:bU (Below w4.heap.size) O=>aA ((l.hk.block pp (by have:=aL ae.blk;omega)).trans bs.blk) 1
  have lr:Hid (∀l:bU (Below w4.heap.size) O,l.w.rangeAt y 0 (tuL t)):=q_ (fun l=>aM (cs:=eB t) ((l.hk.block y (by omega)).trans ag));have av:Hid (Below w4.heap.size w4 O):=q_ (I);clear I ae ap bb a7 Y;refine xS (Below w4.heap.size) 0 4 8 ?_;simp only[dA,dC,dD];iterate 4 refine qX ?_
  refine aN ?_;refine xS (Below w4.heap.size) 4 1 7 ?_;simp only[dB,dA,dC,dD];refine dU rfl 46 (.tmp 6) rfl y 0 rfl (tuL t) _ lr cRa rfl bW ?_;refine aN ?_;clear lp lr ag;refine rH 5 9 rfl rfl (by as_aux_lemma=>kernel_rfl) (fun K G=>?_) (fun K G=>?_)
  .go_simp;go_at_call 71;refine(qm O bs).mono ?_;rintro e v4 ⟨rfl,E⟩;refine G _ _ (E.mono cp) ?_;clear G K;have Y:=q_ ((tw av E));have cr:=E.size;clear E;refine xS (Below w4.heap.size) 6 3 3 ?_;simp only[dB,dA,dC,dD];iterate 3 refine qX ?_
   refine aN ?_;refine fS 9 rfl fun K G=>?_;go_simp;obtain⟨v5,cc⟩:=eX (v4.alloc (.cells #[.bool false,.int .u64 0,.int .u64 0,.int .i64 0,.int .i64 0,.int .i64 0,.bool false] 52));have j:Below v4.heap.size v4 v5:=cc▸bC;have bw:Hid (v5.heap[v4.heap.size]?=some (.cells (fK vpZ) 52 (0,0))):=q_ (cc▸aJ _ _ _);have dj:=j.size;rw[cc];refine G _ _ (j.mono (by omega)) ?_;clear G K cc;have N:=q_ ((tw Y j));clear j Y;clear bs av qm;refine fS 10 rfl fun K G=>?_;rw[bBa (by rfl)];refine nL 52 (.tmp 7) (.tmp 23) rfl (v4.heap.size) 0 rfl (fK (M.getD vpZ)) rfl bw (by simp) mJ (nX _) fun v6 W g6=>?_;rw[aQ _ _ (by rfl)]at W;have Z:=below_grown g6 (show w4.heap.size<=v5.heap.size by omega) (show w4.heap.size<=v4.heap.size by omega);refine G _ _ Z ?_;clear G K g6;have aq:=q_ ((tw N Z));clear Z N bw;replace W:=q_ W;refine xM 11 rfl ?_;refine fD ?_;go_wp2_with fail
   go_meet;exact⟨_,rfl,rfl,W,aq⟩
  .go_simp;obtain⟨v4,cd⟩:=eX (O.alloc (.cells #[.bool false,.int .u64 0,.int .u64 0,.int .i64 0,.int .i64 0,.int .i64 0,.bool false] 52));have E:Below O.heap.size O v4:=cd▸bC;have ct:Hid (v4.heap[O.heap.size]?=some (.cells (fK vpZ) 52 (0,0))):=q_ (cd▸aJ _ _ _);have cr:=E.size;rw[cd];refine G _ _ (E.mono cp) ?_;clear G K cd;have dk:=q_ (bs.on E);have Y:=q_ ((tw av E));have eo:=(Array.getElem?_eq_some_iff.1 ct).1;clear E;refine fS 5 rfl fun K G=>?_;go_simp;go_at_call 71;refine(qm v4 dk).mono ?_;rintro e v5 ⟨rfl,j⟩;refine G _ _ (j.mono (by omega)) ?_;clear G K;have N:=q_ ((tw Y j));have bw:=q_ (aG j ct);have dj:=j.size;clear j Y ct dk;refine xS (Below w4.heap.size) 6 3 2 ?_;simp only[dB,dA,dC,dD];iterate 3 refine qX ?_
   refine aN ?_;clear bs av qm;refine fS 10 rfl fun K G=>?_;rw[bBa (by rfl)];refine nL 52 (.tmp 7) (.tmp 23) rfl (O.heap.size) 0 rfl (fK (M.getD vpZ)) rfl bw (by simp) mJ (nX _) fun v6 W g6=>?_;rw[aQ _ _ (by rfl)]at W;have Z:=below_grown g6 (show w4.heap.size<=v5.heap.size by omega) (show w4.heap.size<=O.heap.size by omega);refine G _ _ Z ?_;clear G K g6;have aq:=q_ ((tw N Z));clear Z N bw;replace W:=q_ W;refine xM 11 rfl ?_;refine fD ?_;go_wp2_with fail
   go_meet;exact⟨_,rfl,rfl,W,aq⟩
 case rest =>
 obtain⟨q,rfl,rfl,a1,j⟩:=hcut;have a0:=ae.on j;have ah:=aG j bb;have a9:=aG j a7;have bi:=aG j ap;have N:=tw Y j;have dj:=j.size;have dl:=aA a9 10;have aw:=aA a9 12;clear ae bb a7 ap Y j qm;rcases M with _|u
 .have aa:R=jS 23:=hR.symm;clear dl aw a1 bi a9 a0 qf qh qy ql' qc hR;replace ⟨aa,ah,N⟩:=q_3 aa ah N;go_upto_region 6 with fail
  apply aWa;refine pS ?_;refine sW 54 (.tmp 4) (.tmp 28) (z+1) (aH (.slice none 0 0) vpZ false) ah (eG rfl vpZ false) cXa fun w9 am U J=>?_;have bx:Hid (Below (z) w w9):=q_ ((N).trans (below_grown U (by have:=(N).size;omega) (by omega)));clear am U;replace J:=q_ J;refine pS ?_;refine bCa ?_;go_simp;go_wp2_with fail
  exact aYa (v:=.tuple #[.agg (aH (.slice none 0 0) vpZ false),.int .i64 23]) (by simp[results,results30,asAddr,J.out,Result.andThen]) rfl (zW 23 aa hW (by rw[hz];exact bx))
 have aa:=hR.out;dsimp only at aa;clear hR;by_cases c7:X.ttl<2
 .have V:R=jS 20:=by rw[bBa c7]at aa;exact aa.symm
  clear aa aw a1 bi a9 a0 qf qh qy ql' qc;replace ⟨V,ah,N⟩:=q_3 V ah N;go_upto_region 8 with fail
  apply aWa;refine pS ?_;refine sW 54 (.tmp 4) (.tmp 33) (z+1) (aH (.slice none 0 0) vpZ false) ah (eG rfl vpZ false) cXa fun w9 am U J=>?_;have bx:Hid (Below (z) w w9):=q_ ((N).trans (below_grown U (by have:=(N).size;omega) (by omega)));clear am U;replace J:=q_ J;refine pS ?_;refine bCa ?_;go_simp;go_wp2_with fail
  exact aYa (v:=.tuple #[.agg (aH (.slice none 0 0) vpZ false),.int .i64 20]) (by simp[results,results30,asAddr,J.out,Result.andThen]) rfl (zW 20 V hW (by rw[hz];exact bx))
 rw[bAa c7]at aa;have tl:(2:Int)<=X.ttl:=by omega
 have b7:=aA a1 5;have ep:=aL a1;have eq:=aL a0.blk;dsimp only[Option.getD]at a1 b7;clear c7;replace ⟨aa,ah,N,a0,bi,a9,a1⟩:=q_7 aa ah N a0 bi a9 a1;go_upto_region 9 with fail
 clear dl tl;refine rX (Below wc.heap.size) ?_;intro O I;have ak:=q_ (a0.on I);have ag:=q_ (aG I bi);have br:=q_ (aG I a9);have dm:=q_ (aG I ah);have bz:=q_ (aG I a1);have av:=q_ ((tw N I));have dn:=I.size;have lp:=fun l:bU (Below wc.heap.size) O=>aA ((l.hk.block pp (by omega)).trans ak.blk) 4
 have lr:Hid (∀l:bU (Below wc.heap.size) O,l.w.rangeAt y 0 (tuL t)):=q_ (fun l=>aM (cs:=eB t) ((l.hk.block y (by omega)).trans ag));clear I a0 bi a9 ah a1 N;refine xS (Below wc.heap.size) 0 4 3 ?_;simp only[dA,dC,dD];iterate 4 refine qX ?_
 refine aN ?_;refine xS (Below wc.heap.size) 4 1 2 ?_;simp only[dB,dA,dC,dD];refine dU rfl 46 (.tmp 6) rfl y 0 rfl (tuL t) _ lr cRa rfl bW ?_;refine aN ?_;clear lp lr;refine fS 5 rfl fun K G=>?_;go_simp;go_at_call 72;refine(qh O ak).mono ?_;rintro e v4 ⟨rfl,E⟩;refine G _ _ (E.mono dn) ?_;clear G K qh;have ae:=q_ (ak.on E);have ap:=q_ (aG E ag);have a7:=q_ (aG E br);have bb:=q_ (aG E dm);have bj:=q_ (aG E bz);have Y:=q_ ((tw av E));have cq:=E.size;have aw:=aA a7 12;have b7:=aA bj 5;clear E ak ag br dm bz av;refine xM 6 rfl ?_;refine fD ?_;obtain⟨P,hP⟩:∃P,decide ((0<=hp/\kd=4)/\u.copies=1)=P:=⟨_,rfl⟩
 replace hP:=q_ hP;go_upto_region 10 with fail
 go_cut [51] (fun bv wx=>bv=.bool P/\Below v4.heap.size v4 wx)
 case first =>
  clear qf qy qc aa hW hS bb Y ap a7 aw;by_cases h0:0<=hp
  .have q1:=ql' v4 ae;clear ql' ae;obtain⟨kb,c5⟩:=eX ((kd == 4));rw[c5]at q1;have co:kb=true↔kd=4:=by rw[<-c5];simp
   clear c5;obtain⟨cb,ek⟩:=eX ((u.copies == 1));have dp:cb=true↔u.copies=1:=by rw[<-ek];simp
   have bc:P=(kb && cb):=by
    rw[<-hP.out];exact aUy h0 co dp
   clear co dp hP;replace ⟨q1,bc⟩:=q_2 q1 bc;go_wp2_with fail
   refine(q1).mono ?_;rintro e v5 ⟨rfl,j⟩;have b7:=aA (aG j bj) 5;clear q1 bj;replace j:=q_ j;rcases kb with _|_<;>rcases cb with _|_<;>(go_wp2_with fail)<;>go_meet<;>exact⟨by rw[bc.out];rfl,j⟩
  .have bc:P=false:=by
    rw[<-hP.out];exact bWa fun h=>h0 h.1.1
   clear hP ql' ae bj;replace bc:=q_ bc;go_wp2_with fail
   go_meet;exact⟨by rw[bc.out],bLa _ _⟩
 case rest =>
 obtain⟨rfl,Z⟩:=hcut;have ay:=q_ (ae.on Z);have W:=q_ (aG Z ap);have b1:=q_ (aG Z a7);have ar:=q_ (aG Z bb);have al:=q_ (aG Z bj);have aq:=q_ ((tw Y Z));have es:=Z.size;have aw:wc.cell? ⟨z,12,none⟩=some (.bool X.er):=aA b1 12;clear Z ae ap a7 bb bj Y ql' b7;rcases P with _|_
 case true =>
  have V:R=⟨0,[hp],u,true⟩:=by
   rw[<-aa.out,bBa (cHa hP.out)]
  clear aa hP qf qy qc W b1 aw;go_upto_region 11 with fail
  apply aWa;iterate 2 refine pS ?_
  obtain⟨w7,cg⟩:=eX (wc.alloc (.cells #[.int .i64 hp] 3));rw[cg];have b8:Below wc.heap.size wc w7:=cg▸bC;have dq:w7.ownsRow wc.heap.size 3 1 (.slice (some ⟨wc.heap.size,0,none⟩) 1 1) [hp].length ([hp].map bL):=cg▸aQm wc hp;have d9:=q_ (aG b8 al);have dr:=q_ (aG b8 ar);have ea:=q_ ((tw aq b8));have b9:=q_ (jC dq (show w.heap.size<=wc.heap.size by omega));clear cg b8 dq al ar aq ay;replace V:=q_ V;refine gG (.agg (fK u)) rfl (jL w7 _ 52 (.tmp 7) rfl q rfl (fK u) _ d9 fWa rfl (by rw[mJ];rfl)) ?_;dsimp only[Act.put];refine gG (.agg (aH (.slice (some ⟨wc.heap.size,0,none⟩) 1 1) u true)) rfl (aDv _ 1 1 u true _ (.tmp 53) (.tmp 54) rfl rfl rfl rfl w7) ?_;dsimp only[Act.put];refine sW 54 (.tmp 4) (.tmp 55) (z+1) (aH (.slice (some ⟨wc.heap.size,0,none⟩) 1 1) u true) dr (eG rfl u true) cXa fun w9 am U J=>?_;clear am;replace ⟨J,U⟩:=q_2 J U;refine pS ?_;refine bCa ?_;go_simp;go_wp2_with fail
  exact aYa (v:=.tuple #[.agg (aH (.slice (some ⟨wc.heap.size,0,none⟩) 1 1) u true),.int .i64 0]) (by simp[results,results30,asAddr,J.out,Result.andThen]) rfl (V.out▸aCf 0 (bJ.below hW (by rw[hz];exact ea)) b9 dr U (by omega))
 case false =>
  have V:=aa.out;rw[bAa (cUa hP.out)]at V;clear aa hP;by_cases b2:X.er=true
  .have ab:R=jS 7:=by rw[bBa b2]at V;exact V.symm
   rw[b2]at aw;clear V qf qy qc W b1 al ay;replace ab:=q_ ab;go_upto_region 13 with fail
   apply aWa;refine pS ?_;refine sW 54 (.tmp 4) (.tmp 58) (z+1) (aH (.slice none 0 0) vpZ false) ar (eG rfl vpZ false) cXa fun w9 am U J=>?_;have bx:Hid (Below (z) w w9):=q_ ((aq).trans (below_grown U (by have:=(aq).size;omega) (by omega)));clear am U;replace J:=q_ J;refine pS ?_;refine bCa ?_;go_simp;go_wp2_with fail
   exact aYa (v:=.tuple #[.agg (aH (.slice none 0 0) vpZ false),.int .i64 7]) (by simp[results,results30,asAddr,J.out,Result.andThen]) rfl (zW 7 ab hW (by rw[hz];exact bx))
  rw[bAa b2]at V;have her':X.er=false:=by simpa using b2
  rw[her']at aw;clear b2 her';replace V:=q_ V;obtain⟨L,hL⟩:=eX (pJ c.nodes H fr Fn sd hk u.copies c.domain);have qc':=q_ (fun w' h=>qc fr u.copies c.domain w' h);rw[hL]at qc';have ab:=q_ V;rw[hL]at ab;clear qc hL V;have et:b<z:=by have:=hS.wk.lt;omega
  have eb:∃A1 A2 A3 k1 k2 k3 t bt,wc.heap[x]?=some (.cells (cfC c (.slice A1 c.nodes.length k1) (.slice A2 c.vips.length k2) (.slice A3 c.views.length k3)++#[.pointer (some ⟨t,0,none⟩)]) 87 (0,0))/\dH wc bt t c.nodes:=ay.cf
  obtain⟨A1,A2,A3,k1,k2,k3,t4,bt,bd,-⟩:=eb;have ec:x≠b:=fun e=>ay.other bd (by decide) (by decide) (by decide) (.inl e)
  have ed:pp≠b:=fun e=>ay.npp (.inl e)
  have ds:q≠b:=fun e=>ay.other al (by decide) (by decide) (by decide) (.inl e)
  have dt:y≠b:=by omega
  have eu:=aL bd;have ev:=aL al;have ew:=aL W;have ex:=aL ay.blk;replace bd:=q_ bd;go_upto_region 14 with fail
  go_cut [10] (fun lv wx=>∃v5,Below wc.heap.size wc v5/\(∃hv,lv=hv/\wx.ownsRow v5.heap.size 3 1 hv L.length (L.map bL))/\bJ b (Fn:Int) sd v5 wx)
  case first =>
   clear ab ar aq b1 hW aw;refine rX (aV wc.heap.size (fun k=>k=b)) ?_;intro O I;have ak:=q_ (ay.on I);have ag:=aG I W;have bz:=aG I al;have du:=aG I bd;have dn:=I.size;have lp:=fun l:bU (aV wc.heap.size (fun k=>k=b)) O=>aA ((l.hk.block pp (by omega) ed).trans ak.blk)
   have lq:=fun l:bU (aV wc.heap.size (fun k=>k=b)) O=>aA ((l.hk.block q (by omega) ds).trans bz) 5
   have lx:∀l:bU (aV wc.heap.size (fun k=>k=b)) O,l.w.cell? ⟨x,4,none⟩=some (.int .i64 c.domain):=fun l=>by
    have k4:=aA ((l.hk.block x (by omega) ec).trans du) 4;unfold cfC at k4;exact k4
   have la:Hid (∀l:bU (aV wc.heap.size (fun k=>k=b)) O,l.w.rangeAt y 1 [.bool t.sv,.int .u64 (t.sh:Int),.int .u64 (t.sl:Int)]):=q_ (fun l=>dZ ((l.hk.block y (by omega) dt).trans ag) 1 3 _ rfl);have lr:Hid (∀l:bU (aV wc.heap.size (fun k=>k=b)) O,l.w.rangeAt y 0 (tuL t)):=q_ (fun l=>aM (cs:=eB t) ((l.hk.block y (by omega) dt).trans ag));clear ay W al bd ag bz du;replace I:=q_ I;refine xS (aV wc.heap.size (fun k=>k=b)) 0 13 17 ?_;simp only[dA,dC,dD];iterate 13 refine qX ?_
   refine aN ?_;refine xS (aV wc.heap.size (fun k=>k=b)) 13 1 16 ?_;simp only[dB,dA,dC,dD];refine dU rfl 27 (.tmp 71) rfl y 1 rfl [.bool t.sv,.int .u64 (t.sh:Int),.int .u64 (t.sl:Int)] _ la dSa rfl kS ?_;refine aN ?_;refine xS (aV wc.heap.size (fun k=>k=b)) 15 2 14 ?_;simp only[dB,dA,dC,dD];refine qX ?_;refine dU rfl 46 (.tmp 6) rfl y 0 rfl (tuL t) _ lr cRa rfl bW ?_;refine aN ?_;refine xS (aV wc.heap.size (fun k=>k=b)) 18 10 4 ?_;simp only[dB,dA,dC,dD];iterate 10 refine qX ?_
   refine aN ?_;clear lp lq lx la lr;refine fS 14 rfl fun K G=>?_;go_simp;go_at_call 75;refine(qf O ak).mono ?_;rintro e v4 ⟨rfl,E⟩;refine G _ _ (bT E (by omega)) ?_;clear G K qf;have ae:=q_ (ak.on E);have Y:=q_ ((tw I E));have cq:=E.size;clear ak I E;refine fS 17 rfl fun K G=>?_;go_simp;go_at_call 34;refine(qy v4 ae).mono ?_;rintro e v5 ⟨rfl,j⟩;refine G _ _ (bT j (by omega)) ?_;clear G K qy;have a0:=q_ (ae.on j);have N:=q_ ((tw Y j));have eg:=j.size;clear ae Y j;refine fS 28 rfl fun K G=>?_;go_simp;go_at_call 74;refine(qc' v5 a0).mono ?_;rintro e v6 ⟨⟨hv,rfl,hr⟩,hE⟩;refine G _ _ ⟨hE.2.os,hE.2.tape,hE.2.output,hE.2.size,fun k hk hn=>hE.2.block k (by omega) hn⟩ ?_;clear G K qc';replace ⟨hr,hE⟩:=q_2 hr hE;refine xM 29 rfl ?_;refine fD ?_;go_wp2_with fail
   go_meet;exact⟨v5,N,⟨hv,rfl,hr⟩,hE⟩
  case rest =>
  obtain⟨v5,j,⟨hv,rfl,hr⟩,hE⟩:=hcut;obtain⟨A,cl,rfl,-,-,-⟩:=bE hr;have eg:=j.size;have N:=tw aq j;have dx:Hid (bJ b (Fn:Int) sd w wc):=q_ ((bJ.below hW (by rw[hz];exact N)).trans hE);have dy:=(hE.2.block q (by omega) ds).trans (aG j al);have ah:=(hE.2.block (z+1) (by omega) (by omega)).trans (aG j ar);have b9:=q_ (jC hr (show w.heap.size<=v5.heap.size by omega));clear al ar hr hE N j ay W b1 aq bd qf qy qc' aw hW;have al:=q_ dy;have ar:=q_ ah;clear dy ah;have bk:=ab.out;clear ab;by_cases bm:L=[]
  .have ab:R=jS 22:=by rw[bBa bm]at bk;exact bk.symm
   have tl:((L.length:Int) == 0)=true:=by rw[bm];rfl
   clear bk al b9 bm;replace ab:=q_ ab;go_upto_region 16 with fail
   apply aWa;refine pS ?_;refine sW 54 (.tmp 4) (.tmp 91) (z+1) (aH (.slice none 0 0) vpZ false) ar (eG rfl vpZ false) cXa fun w9 am U J=>?_;clear am;replace ⟨J,U⟩:=q_2 J U;refine pS ?_;refine bCa ?_;go_simp;go_wp2_with fail
   exact aYa (v:=.tuple #[.agg (aH (.slice none 0 0) vpZ false),.int .i64 22]) (by simp[results,results30,asAddr,J.out,Result.andThen]) rfl (ab.out▸aCf 22 (l:=[]) dx ⟨rfl,.inl ⟨rfl,rfl⟩⟩ ar U (by omega))
  .have ab:R=⟨0,L,u,false⟩:=by rw[bAa bm]at bk;exact bk.symm
   have tl:((L.length:Int) == 0)=false:=by
    rw[bDa];intro e;exact bm (eGa (by omega))
   clear bk bm;replace ab:=q_ ab;go_upto_region 17 with fail
   apply aWa;refine pS ?_;refine gG (.agg (fK u)) rfl (jL wc _ 52 (.tmp 7) rfl q rfl (fK u) _ al fWa rfl (by rw[mJ];rfl)) ?_;dsimp only[Act.put];refine gG (.agg (aH (.slice A L.length cl) u false)) rfl (aDv A L.length cl u false _ (.tmp 92) (.tmp 93) rfl rfl rfl rfl wc) ?_;dsimp only[Act.put];refine sW 54 (.tmp 4) (.tmp 94) (z+1) (aH (.slice A L.length cl) u false) ar (eG rfl u false) cXa fun w9 am U J=>?_;clear am;replace ⟨J,U⟩:=q_2 J U;refine pS ?_;refine bCa ?_;go_simp;go_wp2_with fail
   exact aYa (v:=.tuple #[.agg (aH (.slice A L.length cl) u false),.int .i64 0]) (by simp[results,results30,asAddr,J.out,Result.andThen]) rfl (ab.out▸aCf 0 dx b9 ar U (by omega))
end
end
section
def pV (T:FT) (S:Nat) (r:Ru) (now:Int) (X:Px) (R:vQ):FT :=
 if X.er=true\/1<R.vip.copies then T else if R.pin=true then uR T S r now X.t X.fl else aAq T S r now X.t (R.hosts.headD 0) X.fl
theorem aNv{w:World}{I:Value}{j:Int}{G:List Int}(h:w.ownsRow J 3 1 I (j :: G).length ((j :: G).map bL)) :
 ∃q cap A,I=.slice (some ⟨q,0,none⟩) (G.length+1) cap/\w.heap[q]?=some (.cells A 3 (0,0))/\A[0]?=some (.int .i64 j):=by
 obtain⟨_,⟨_,L⟩|⟨q,cap,A,rfl,_,N,_,_,U,O⟩⟩:=h
 .cases L
 .refine⟨q,cap,A,rfl,N,?_⟩;have E:(A.toList.take ((j :: G).length*1))[0]?=some (bL j):=by rw[O];rfl
  rw[gAa]at E;split at E
  .rw[hGa]at E;exact E
  .cases E
section
variable {w:World} {pp x v s b p f g S:Nat} {c:Cfg} {H:List Int} {F:Int} {sd:Nat} {T:FT} {r:Ru} {now:Int}
theorem keep_any(hS:Sc w pp x v s b p f g S c H F sd T r now)(hI:jJ T S os)(X:Px)(hX:xG X)(R:vQ)(bl:Nat)(hv:Value)(hr:w.ownsRow bl 3 1 hv R.hosts.length (R.hosts.map bL))(h0:Int)(tl:List Int)(hh:R.hosts=h0 :: tl) :
 Cl 39 #[.pointer (some ⟨pp,0,none⟩),.agg (gP X),.agg (aH hv R.vip R.pin)] w fun e w'=>(∃u,e=.returned u)/\PAt w' p f g S (pV T S r now X R) r now/\bH f g w w':=by
 rw[hh]at hr;obtain⟨q,cap,bx,rfl,hq,Y⟩:=aNv hr;have be:R.hosts.headD 0=h0:=by rw[hh];rfl
 obtain⟨T',ab⟩:=eX (pV T S r now X R);rw[ab];unfold pV at ab;rw[be]at ab;have qs:=q_ (fun w' (h:PAt w' p f g S T r now)=>aNx h hI X.t (nP hX.t) X.fl);have qp:=q_ (fun w' (h:PAt w' p f g S T r now)=>aQp h hI X.t (nP hX.t) h0 X.fl);obtain⟨w1,ao⟩:=eX (w.alloc (.cells (gP X) 48));have a4:Below w.heap.size w w1:=ao▸bC;have bf:=bN ao;have bg:w1.heap.size=w.heap.size+1:=by rw[<-ao];simp
 obtain⟨j,ax⟩:∃j,w1.alloc (.cells (aH (.slice (some ⟨q,0,none⟩) (tl.length+1) cap) R.vip R.pin) 54)=j:=⟨_,rfl⟩
 have ar:Below w1.heap.size w1 j:=ax▸bC;have L:Hid (j.heap[w1.heap.size]?=some (.cells (aH (.slice (some ⟨q,0,none⟩) (tl.length+1) cap) R.vip R.pin) 54 (0,0))):=q_ (ax▸aJ _ _ _);have a5:=tw a4 ar;have U:=hS.on a5;have N:=q_ (aG ar bf);have V:=q_ (aG ar (aG a4 hq));obtain⟨z,hz⟩:=eX w.heap.size;rw[hz]at bg N;rw[bg]at L;have ce:j.cell? ⟨z,12,none⟩=some (.bool X.er):=aA N 12;have cc:j.cell? ⟨z+1,6,none⟩=some (.int .i64 R.vip.copies):=aA L 6;have cp:j.cell? ⟨z+1,8,none⟩=some (.bool R.pin):=aA L 8;have ac:=q_ U.npp;have aj:=q_ (U.other V (by decide) (by decide) (by decide));have O:=q_ (U.other N (by decide) (by decide) (by decide));have ak:=q_ (U.other L (by decide) (by decide) (by decide));have ad:=q_ U.pins;have ae:Hid (bH f g w j):=q_ (bH.quiet a5);have W:=q_ U.blk;clear hS hr hq a4 ar bf U a5 hI hX hh be;replace ⟨ab,Y⟩:=q_2 ab Y;go_enter func39,ntmps39;have I:=ab.out;clear ab;by_cases al:X.er=true
 .have E:T'=T:=by rw[bBa (.inl al)]at I;exact I.symm
  rw[al]at ce;clear I qs qp ac aj O ak Y W V L N;replace E:=q_ E;go_wp2_with fail
  go_end0;exact⟨⟨_,rfl⟩,E.out▸ad,ae⟩
 have her':X.er=false:=by simpa using al
 rw[her']at ce;by_cases bb:1<R.vip.copies
 .have E:T'=T:=by rw[bBa (.inr bb)]at I;exact I.symm
  clear I qs qp ac aj O ak Y W V L N;replace E:=q_ E;go_wp2_with fail
  go_end0;exact⟨⟨_,rfl⟩,E.out▸ad,ae⟩
 rw[bAa (fun h=>h.elim al bb)]at I;have bs:=aL W;have bt:=aL N;have bu:=aL L;have bv:=aL V;have tc:R.vip.copies<=1:=by omega
 clear bb al her';by_cases af:R.pin=true
 .have E:T'=uR T S r now X.t X.fl:=by rw[bBa af]at I;exact I.symm
  rw[af]at cp;clear I qp af;replace E:=q_ E;go_upto_region 4 with fail
  clear ce cc cp ao ax;refine rX (aV j.heap.size (fun k=>k=f\/k=g)) ?_;intro J A;have a6:=q_ (ad.on A);have a7:=q_ (ae.trans (bH.quiet A));have am:=aG A W;have Z:=aG A N;have bn:=A.size;have lp:=fun l:bU (aV j.heap.size (fun k=>k=f\/k=g)) J=>aA ((l.hk.block pp (by omega) (fun e=>ac (.inr e))).trans am) 4
  have lf:∀l:bU (aV j.heap.size (fun k=>k=f\/k=g)) J,l.w.cell? ⟨z,11,none⟩=some (.int .i64 X.fl):=fun l=>aA ((l.hk.block z (by omega) (fun e=>O (.inr e))).trans Z) 11
  have lr:Hid (∀l:bU (aV j.heap.size (fun k=>k=f\/k=g)) J,l.w.rangeAt z 1 (tuL X.t)):=q_ (fun l=>dZ ((l.hk.block z (by omega) (fun e=>O (.inr e))).trans Z) 1 9 _ rfl);clear ad ae W am Z V L N ac aj O ak Y;replace A:=q_ A;refine xS (aV j.heap.size (fun k=>k=f\/k=g)) 0 5 4 ?_;simp only[dA,dC,dD];iterate 5 refine qX ?_
  refine aN ?_;refine xS (aV j.heap.size (fun k=>k=f\/k=g)) 5 3 1 ?_;simp only[dB,dA,dC,dD];refine dU rfl 46 (.tmp 35) rfl z 1 rfl (tuL X.t) _ lr cRa rfl bW ?_;iterate 2 refine qX ?_
  refine aN ?_;clear lp lf lr;refine fS 8 rfl fun K hK=>?_;go_simp;go_at_call 15;refine(qs J a6).mono ?_;rintro e v4 ⟨⟨u,rfl⟩,aa,G⟩;have ba:=q_ (a7.trans G);refine hK _ _ ⟨G.os,G.tape,G.output,G.size,fun k hk hn=>G.block k (by omega) hn⟩ ?_;clear hK K G;replace aa:=q_ aa;refine fD ?_;go_wp2_with fail
  go_end0;exact⟨⟨_,rfl⟩,E.out▸aa,ba⟩
 .have E:T'=aAq T S r now X.t h0 X.fl:=by rw[bAa af]at I;exact I.symm
  have hpn':R.pin=false:=by simpa using af
  rw[hpn']at cp;clear I qs af hpn';replace E:=q_ E;go_upto_region 1 with fail
  clear ce cc cp ao ax;refine rX (aV j.heap.size (fun k=>k=f\/k=g)) ?_;intro J A;have a6:=q_ (ad.on A);have a7:=q_ (ae.trans (bH.quiet A));have am:=aG A W;have Z:=aG A N;have bn:=A.size;have bi:=aG A L;have bj:=aG A V;have lp:=fun l:bU (aV j.heap.size (fun k=>k=f\/k=g)) J=>aA ((l.hk.block pp (by omega) (fun e=>ac (.inr e))).trans am) 4
  have lf:∀l:bU (aV j.heap.size (fun k=>k=f\/k=g)) J,l.w.cell? ⟨z,11,none⟩=some (.int .i64 X.fl):=fun l=>aA ((l.hk.block z (by omega) (fun e=>O (.inr e))).trans Z) 11
  have lr:Hid (∀l:bU (aV j.heap.size (fun k=>k=f\/k=g)) J,l.w.rangeAt z 1 (tuL X.t)):=q_ (fun l=>dZ ((l.hk.block z (by omega) (fun e=>O (.inr e))).trans Z) 1 9 _ rfl);have lw:=fun l:bU (aV j.heap.size (fun k=>k=f\/k=g)) J=>aA ((l.hk.block (z+1) (by omega) (fun e=>ak (.inr e))).trans bi) 0
  have lq:∀l:bU (aV j.heap.size (fun k=>k=f\/k=g)) J,l.w.cell? ⟨q,0,none⟩=some (.int .i64 h0):=fun l=>(aA ((l.hk.block q (by omega) (fun e=>aj (.inr e))).trans bj) 0).trans Y
  clear ad ae W am Z V L N ac aj O ak Y bi bj;replace A:=q_ A;refine xS (aV j.heap.size (fun k=>k=f\/k=g)) 0 5 8 ?_;simp only[dA,dC,dD];iterate 5 refine qX ?_
  refine aN ?_;refine xS (aV j.heap.size (fun k=>k=f\/k=g)) 5 7 1 ?_;simp only[dB,dA,dC,dD];refine dU rfl 46 (.tmp 10) rfl z 1 rfl (tuL X.t) _ lr cRa rfl bW ?_;iterate 6 refine qX ?_
  refine aN ?_;clear lp lf lr lw lq;refine fS 12 rfl fun K hK=>?_;go_simp;go_at_call 16;refine(qp J a6).mono ?_;rintro e v4 ⟨⟨u,rfl⟩,aa,G⟩;have ba:=q_ (a7.trans G);refine hK _ _ ⟨G.os,G.tape,G.output,G.size,fun k hk hn=>G.block k (by omega) hn⟩ ?_;clear hK K G;replace aa:=q_ aa;refine fD ?_;go_wp2_with fail
  go_end0;exact⟨⟨_,rfl⟩,E.out▸aa,ba⟩
end
end
section
def zM (snd:Int→Nat×List UInt8):List Int→Nat
 | []=>0
 | h :: t=>if (snd h).1≠0 then (snd h).1 else zM snd t
theorem aF9 {snd:Int→Nat×List UInt8}:∀{l:List Int},(∀h∈l,(snd h).1=0)→zM snd l=0
 | [],_=>rfl
 | h :: t,H=>by
  rw [zM,if_neg (fun e=>e (H h (List.mem_cons_self ..)))];exact aF9 fun k j=>H k (List.mem_cons_of_mem _ j)
theorem aEb {snd:Int→Nat×List UInt8}:∀{l:List Int} {i:Nat} {h:Int},(∀k∈l.take i,(snd k).1=0)→l[i]?=some h→(snd h).1≠0→zM snd l=(snd h).1
 | [],i,h,_,e,_=>by simp at e
 | a :: t,0,h,_,e,k=>by
  obtain rfl:a=h:=by simpa using e
  rw [zM,if_pos k]
 | a :: t,i+1,h,H,e,k=>by
  rw [zM,if_neg (fun x=>x (H a (by simp)))];exact aEb (fun k j=>H k (by rw [List.take_succ_cons];exact List.mem_cons_of_mem _ j)) (by simpa using e) k
structure TakeR where
 K:Nat
 outs:List (Int×List UInt8)
 way:vQ
 T:FT
def gX (K0:Nat) (R:vQ) (snd:Int→Nat×List UInt8) (T T1:FT):TakeR :=
 if K0≠0 then ⟨K0,[],jS 0,T⟩ else if R.K≠0 then ⟨R.K,[],jS 0,T⟩ else if zM snd R.hosts≠0 then ⟨zM snd R.hosts,[],jS 0,T⟩ else ⟨0,R.hosts.map fun h=>(h,(snd h).2),R,T1⟩
structure nR where
 h:Int
 A:Option Addr
 n:Nat
 c:Nat
 U:List UInt8
def yY (e:nR):List Value:=[.int .i64 e.h,.slice e.A e.n e.c]
theorem outC_one (e:nR):∀u∈yY e,u.oneCell'=true:=by
 intro u j;simp only [yY,List.mem_cons,List.not_mem_nil,or_false] at j;rcases j with rfl|rfl<;>rfl
theorem info_out:(Tryz.prog.info? 62).map (fun i=>(i.zero,i.size,i.bytes))=some (some (.agg #[.int .i64 0,.slice none 0 0]),2,32):=by kernel_rfl
def mZ (w:World) (base:Nat) (v:Value) (outs:List (Int×List UInt8)):Prop :=
 ∃es:List nR,es.map (fun e=>(e.h,e.U))=outs∧w.ownsRow base 62 2 v es.length (es.map yY).flatten∧∀e∈es,aZ w base (.slice e.A e.n e.c) e.U
theorem mZ.nil (w:World) (j:Nat):mZ w j (.slice none 0 0) []:=⟨[],rfl,World.ownsRow_nil w j _ 2,fun e h=>by cases h⟩
theorem mZ.below {w w':World} {j:Nat} {v:Value} {A:List (Int×List UInt8)} (h:mZ w j v A) (E:Below w.heap.size w w'):mZ w' j v A:=by
 obtain ⟨I,J,L,N⟩:=h;exact ⟨I,J,own_below L E,fun e G=>(N e G).below E⟩
theorem mZ.weaken {w:World} {j base':Nat} {v:Value} {A:List (Int×List UInt8)} (h:mZ w j v A) (E:base'≤j):mZ w base' v A:=by
 obtain ⟨I,J,L,N⟩:=h;exact ⟨I,J,jC L E,fun e G=>(N e G).weaken E⟩
theorem kT {w w':World} {j sz n:Nat} {e:TypeId} {v:Value} {xs:List Value} {P:Nat→Prop} (A:w.ownsRow j e sz v n xs) (h:aV w.heap.size P w w') (E:∀k,j≤k→k<w.heap.size→¬ P k):w'.ownsRow j e sz v n xs :=
 yU A (Kp.xP h (Nat.le_refl _) E)
theorem mZ.kept {w w':World} {j:Nat} {v:Value} {A:List (Int×List UInt8)} {P:Nat→Prop} (h:mZ w j v A) (E:aV w.heap.size P w w') (G:∀k,j≤k→k<w.heap.size→¬ P k):mZ w' j v A:=by
 obtain ⟨J,L,N,O⟩:=h;exact ⟨J,L,kT N E G,fun e I=>kT (O e I) E G⟩
theorem mZ.push {w w':World} {j:Nat} {v I:Value} {E:List nR} (e:nR) (V:∀e∈E,aZ w j (.slice e.A e.n e.c) e.U) (W:w.ownsRow j 62 2 v E.length (E.map yY).flatten) (X:aZ w j (.slice e.A e.n e.c) e.U)
 (Y:w'.ownsRow j 62 2 I (E.length+1) ((E.map yY).flatten++yY e)) (Z:fA w v w' I) :
 w'.ownsRow j 62 2 I (E++[e]).length ((E++[e]).map yY).flatten∧∀a∈E++[e],aZ w' j (.slice a.A a.n a.c) a.U:=by
 refine ⟨by simpa using Y,fun a G=>?_⟩;have L:∀a:nR,aZ w j (.slice a.A a.n a.c) a.U→aZ w' j (.slice a.A a.n a.c) a.U:=fun a h=>by
  refine World.ownsRow.kept h Z.grown ?_;rcases h.2 with ⟨J,_⟩|⟨g,cap,ac,J,_,hh,_⟩
  ·rw [J];exact .inl rfl
  ·right;rw [J];intro N;rcases W.2 with ⟨rfl,_⟩|⟨g2,ad,ae,rfl,_,O,_⟩
   ·cases N
   ·have:g=g2:=by simpa [Value.ownBlock] using N
    subst this;rw [hh] at O;injection (Option.some.inj O) with _ e3 _
    exact absurd e3 (by decide)
 rcases List.mem_append.1 G with G|G
 ·exact L a (V a G)
 ·obtain rfl:a=e:=by simpa using G
  exact L _ X
section
variable {w w':World} {P:Nat→Prop}
abbrev TyP (w:World) (P:Nat→Prop):Prop:=∀k,P k→∃cs t,w.heap[k]?=some (.cells cs t (0,0))∧(t=120∨t=142∨t=144)
theorem ty_ne {k:Nat} {cs:Array Value} {t e:TypeId} (E:TyP w P) (h:w.heap[k]?=some (.cells cs e (0,0))) (G:e≠120) (I:e≠142) (J:e≠144):¬ P k:=by
 intro L;obtain ⟨N,O,A,j⟩:=E k L;rw [h] at A;injection (Option.some.inj A) with _ e1 _
 subst e1;rcases j with j|j|j
 ·exact G j
 ·exact I j
 ·exact J j
theorem yL {g:Nat} {A:Array Value} {e:TypeId} (j:w.heap[g]?=some (.cells A e (0,0))) (E:TyP w P) (G:e≠120) (I:e≠142) (J:e≠144) (h:aV w.heap.size P w w'):w'.heap[g]?=some (.cells A e (0,0)) :=
 (h.block g (aL j) (ty_ne (t:=e) E j G I J)).trans j
theorem aBb {j sz n:Nat} {e:TypeId} {v:Value} {xs:List Value} (A:w.ownsRow j e sz v n xs) (E:TyP w P) (G:e≠120) (I:e≠142) (J:e≠144) (h:aV w.heap.size P w w'):w'.ownsRow j e sz v n xs:=by
 refine ⟨A.1,A.2.imp id ?_⟩;rintro ⟨g,cap,L,N,O,U,V⟩;exact ⟨g,cap,L,N,O,yL U E G I J h,V⟩
theorem aSn {G x:Nat} {ns:List Nd} (I:dH w G x ns) (E:TyP w P) (h:aV w.heap.size P w w'):dH w' G x ns:=by
 obtain ⟨N,O,U,V,W,A⟩:=I;exact ⟨N,O,U,V,W,yL A.blk E (by decide) (by decide) (by decide) h,A.hx,aBb A.nodes E (by decide) (by decide) (by decide) h,aBb A.kids E (by decide) (by decide) (by decide) h,⟨A.rows.len,fun j u y J L=>aBb (A.rows.own j u y J L) E (by decide) (by decide) (by decide) h,A.rows.apart⟩,A.small⟩
theorem aUr {s x:Nat} {ns:List Nd} {p:List Nat×List Bool} {H:List Int} (E:fH w s x ns p H) (A:TyP w P) (h:aV w.heap.size P w w'):fH w' s x ns p H:=by
 obtain ⟨⟨G,I⟩,⟨J,L,N,O,j⟩,U⟩:=E;exact ⟨⟨G,aSn I A h⟩,⟨J,L,N,O,yL j.blk A (by decide) (by decide) (by decide) h,yL j.rw A (by decide) (by decide) (by decide) h,yL j.rs A (by decide) (by decide) (by decide) h,aBb j.hosts A (by decide) (by decide) (by decide) h,j.lw,j.ls,j.b1,j.b2,j.b3,j.n1,j.n2,j.n3⟩,U⟩
theorem Sc.go {pp x v s b p f g S:Nat} {c:Cfg} {H:List Int} {F:Int} {sd:Nat} {T E:FT} {r G:Ru} {now I:Int} (j:Sc w pp x v s b p f g S c H F sd T r now) (A:ScE b f g w w') (U:gV w' b F sd) (V:PAt w' p f g S E G I):Sc w' pp x v s b p f g S c H F sd E G I:=by
 obtain ⟨X,Y,Z,J,L⟩:=j.conf;obtain ⟨aa,ab,b1,N,O⟩:=j.vips;obtain ⟨xt,d⟩:=j.set;exact ⟨(A.block _ (aL j.blk) j.npp).trans j.blk,⟨X,Y,Z.keep (aE2 A J L),Nat.le_trans J A.size,L⟩,⟨aa,ab,b1.keep (aE2 A N O),Nat.le_trans N A.size,O⟩,⟨xt,aUr d (fun k W=>j.ty W) A⟩,U,V⟩
end
section
variable (pp x v s b p f g S:Nat) (c:Cfg) (H:List Int) (F:Int) (sd:Nat) (r:Ru) (now:Int)
def aP1 (R:TakeR) (w w':World) (e:Ending):Prop :=
 ∃ov hv,e=.returned (.tuple #[ov,.agg (aH hv R.way.vip R.way.pin),.int .i64 (R.K:Int)])∧mZ w' w.heap.size ov R.outs∧w'.ownsRow w.heap.size 3 1 hv R.way.hosts.length (R.way.hosts.map bL)∧Sc w' pp x v s b p f g S c H F sd R.T r now∧ScE b f g w w'
end
end
theorem aMa(ns:List Nd)(A:Int)(F sd E:Nat)(G:Int):∀(k:Nat) (I j J:List Int),(aVq ns A F sd E G k I j J).length<=j.length+k
 | 0,_,j,_=>by rw[aVq];omega
 | k+1,I,j,J=>by
  rw[aVq];split
  .omega
  .refine bJa (aMa ns A F sd E G k _ _ _) ?_;rw[bHa,cZa];omega
theorem aMm(c:Cfg)(H:List Int)(F sd:Nat)(T:FT)(S:Nat)(x:Px):(bM c H F sd T S x).hosts.length<=8:=by
 unfold bM
 cases j:nA c (qH x)with
 | none=>exact dEa _
 | some v =>
  dsimp only;split
  .exact dEa _
  .split
   .exact(by decide:1<=8)
   .split
    .exact dEa _
    .split
     .exact dEa _
     .refine bJa (aMa _ _ _ _ _ _ _ _ _ _) ?_;rw[hZa];omega
section
structure ScM (w:World) (lo m pp x v s b p f g S:Nat) (c:Cfg) (H:List Int) (F:Int) (sd:Nat) (T:FT) (r:Ru) (now:Int):Prop where
 sc:Sc w pp x v s b p f g S c H F sd T r now
 conf:∃l h,VIn w l h x c/\(h<=m/\h<=pp)/\∀k,l<=k->k<h->¬ Mv b f g k
 vips:∃l h,zC w l h v c/\(h<=m/\h<=pp)/\∀k,l<=k->k<h->¬ Mv b f g k
 ge:lo<=b/\lo<=f/\lo<=g/\lo<=pp
 size:m<=w.heap.size
 lt:b<m/\f<m/\g<m
section
variable {w w':World} {lo m pp x v s b p f g S:Nat} {c:Cfg} {H:List Int} {F:Int} {sd:Nat} {T T':FT} {r r':Ru} {now now':Int}
theorem ScM.next(h:ScM w lo m pp x v s b p f g S c H F sd T r now)(j:ScE b f g w w')(G:Sc w' pp x v s b p f g S c H F sd T' r' now'):ScM w' lo m pp x v s b p f g S c H F sd T' r' now':=by
 obtain⟨I,J,L,N,A⟩:=h.conf;obtain⟨O,U,V,W,E⟩:=h.vips;have X:=h.size;exact⟨G,⟨I,J,L.keep (aE2 j (by omega) A),N,A⟩,⟨O,U,V.keep (aE2 j (by omega) E),W,E⟩,h.ge,by have:=j.size;omega,h.lt⟩
theorem ScM.on(h:ScM w lo m pp x v s b p f g S c H F sd T r now)(j:Below w.heap.size w w'):ScM w' lo m pp x v s b p f g S c H F sd T r now:=h.next (ScE.quiet j) (h.sc.on j)
theorem ScM.more(h:ScM w lo m pp x v s b p f g S c H F sd T r now)(A:j<=lo):ScM w j m pp x v s b p f g S c H F sd T r now:=by
 obtain⟨E,G,I,J⟩:=h.ge;exact⟨h.sc,h.conf,h.vips,⟨by omega,by omega,by omega,by omega⟩,h.size,h.lt⟩
theorem ScM.below(h:ScM w lo m pp x v s b p f g S c H F sd T r now)(A:lo<=w.heap.size)(j:ScE b f g w w'):Below lo w w':=by
 obtain⟨G,I,J,-⟩:=h.ge;exact⟨j.os,j.tape,j.output,j.size,fun k E=>j.block k (by omega) (by rintro(rfl|rfl|rfl)<;>omega)⟩
end
theorem rowE_all{f:α->List α->Nat}{l:List α}{n:α}(h:kW f l l.length=0)(E:l[i]?=some n):f n (l.take i)=0:=by
 have I:=(List.getElem?_eq_some_iff.1 E).1;have G:∀k,kW f l (i+1+k)=0->kW f l (i+1)=0:=by
  intro k
  induction k with
  | zero=>exact id
  | succ k ih =>
   intro A;refine ih ?_;rw[<-eVa,kW]at A;by_cases e:kW f l (i+1+k)=0
   .exact e
   .rw[bBa e]at A;exact A
 have j:=G (l.length - (i+1)) (by rw[show i+1+(l.length - (i+1))=l.length by omega];exact h);rw[kW]at j;by_cases e:kW f l i=0
 .rw[bAa (fun x=>x e),E]at j;exact j
 .rw[bBa e]at j;exact absurd j e
structure VOk (c:Cfg):Prop where
 factor:100<=c.factor/\c.factor<=1000
 tree:nD c.nodes
 vips:∀v∈c.vips,(0<=v.port/\v.port<=65535)/\(v.proto=6\/v.proto=17)/\1<=v.copies/\(1<v.copies->v.proto=17)
theorem aAw{c:Cfg}(h:qF c=0):VOk c:=by
 obtain⟨A,G,-,I,-⟩:=aN7 h;refine⟨?_,good_of G,fun v E=>?_⟩
 .unfold vG at A;by_cases L:c.factor<100\/1000<c.factor\/(c.domain≠2/\c.domain≠3)
  .rw[bBa L]at A;cases A
  .omega
 .obtain⟨i,J⟩:=List.getElem?_of_mem E;have j:=rowE_all I J;unfold yZ at j;split at j
  .cases j
  .split at j
   .cases j
   .split at j
    .cases j
    .omega
end
theorem px_ex2(n:Nat)(xs:List UInt8)(A:xs.length=n)(E:n<=4000):∃K x,PxA n xs K x/\xG x/\(K≠0->x=pxZ):=by
 obtain⟨K,x,h,G⟩:=px_ex n xs A E;by_cases j:K=0
 .exact⟨K,x,h,G,fun e=>absurd j e⟩
 .exact⟨K,pxZ,rJ h j,⟨uK _ _,uK _ _,by decide⟩,fun _=>rfl⟩
theorem aNb{ns:List Nd}(h:∀n∈ns,n.a.ok)(i:Int):(eU ns i).a.ok:=by
 unfold eU;split
 .exact aHx
 .rw[bTa]
  cases e:ns[i.toNat]? with
  | none=>exact aHx
  | some n=>exact h n (bPa e)
theorem aVy(w:World){X:Px}(L:PxA n xs 0 X)(N:xs.length=n)(O:n<=4000):vC n xs=0:=by
 have I:∀K,K≠0->¬ PIs n xs K #[]:=fun K U h=>U (aQq w L h N O).1.symm
 unfold vC;by_cases J:n=0
 .exact absurd (fun A c w j E G=>aRh n xs J #[] A c w j E G) (I 2 (by omega))
 rw[bAa J];by_cases h:(xs.getD 0 0).toNat / 16=4\/(xs.getD 0 0).toNat / 16=6
 .rw[bBa h]
 .exact absurd (fun A c w j E G=>aRg n xs (by omega) (by omega) ⟨fun e=>h (.inl e),fun e=>h (.inr e)⟩ #[] A c w j E G) (I 10 (by omega))
theorem aXq{x y:Px}(h:gP x=gP y):x=y:=by
 obtain⟨j,⟨A,E,G,I,J,L,N,O,U⟩,V,W,X,⟨Y,Z,aa,ab,ac,ad,ae,af,ag⟩,sz⟩:=x;obtain⟨w6,⟨qr,tv,th,tl,ev,eh,el,tp,ep⟩,ar,gl,fr,⟨aw,ax,ay,az,a0,a1,a2,a3,a4⟩,tz⟩:=y;have h:=Array.mk.inj h;simp only[fYa,Value.bool.injEq,Value.int.injEq,true_and,and_true,Int.natCast_inj]at h;obtain⟨rfl,rfl,rfl,rfl,rfl,rfl,rfl,rfl,rfl,rfl,rfl,rfl,rfl,rfl,rfl,rfl,rfl,rfl,rfl,rfl,rfl,rfl,rfl⟩:=h
 rfl
theorem aYi(w:World){U:List UInt8}(I:U.length<=4000){X:Px}(Z:PxA U.length U 0 X)(he:X.er=false)(E:Bool)(G j:Nat)(b1:G<18446744073709551616)(b2:j<18446744073709551616) :
 ∃K V,TurnA E G j X.t.dp U.length U K V/\(K=0->PxA V.length V 0 { X with t:={ X.t with dv:=E,dh:=G,dl:=j } }):=by
 rcases aNk _ U rfl I with⟨K,hK,h⟩|⟨x,h,hb,af⟩|⟨al,e,ag,R,aw,ax,sp,J,az,fl,h⟩|⟨a4,e,ag,R,a5,aw,a6,ax,sp,J,az,fl,h⟩
 .exact absurd (aQq w Z h rfl I).1.symm hK
 .obtain rfl:=aXq ((aQq w Z h rfl I).2 rfl);rw[he]at af
  cases af
 .have W:=aJm h I;obtain rfl:=aXq ((aQq w Z W rfl I).2 rfl);obtain⟨u1,u2⟩:=h.up.aE6;obtain⟨s1,s2,s3,s4,s5,s6,s7,s8,s9⟩:=h.sizes;by_cases aa:E≠false\/okA E (G:Int) (j:Int)=false
  .exact⟨18,[],fun A c w L N O=>aK4 _ c U [] _ _ _ _ _ _ _ _ _ _ _ _ _ _ _ _ _ _ _ _ _ _ _ rfl 1 E G j J (.inr rfl) (by omega) (by omega) aa A w L N O W,fun h=>by cases h⟩
  .obtain rfl:E=false:=by cases E<;>simp_all
   have ai:okA false (G:Int) (j:Int)=true:=by
    cases h5:okA false (G:Int) (j:Int)
    .exact absurd (.inr h5) aa
    .rfl
   have:G=0/\j<4294967296:=by simp[okA]at ai;omega
   obtain⟨rfl,ae⟩:=this;have Y:=h.turn 1 j J (by omega) ae (by omega);have hL:=Y.sizes.2.2.2.2.2.1;refine⟨0,_,fun A c w L N O=>aU0 h I 1 j J _ (by omega) rfl ae (by omega) A c w L N O,fun _=>?_⟩;rw[hL];exact aJm Y (by omega)
 .have W:=aX1 h I;obtain rfl:=aXq ((aQq w Z W rfl I).2 rfl);obtain⟨u1,u2⟩:=h.up.aE6;obtain⟨s1,s2,s3,s4,s5,s6,s7,s8,s9⟩:=h.sizes;by_cases aa:E≠true
  .exact⟨18,[],fun A c w L N O=>aK4 _ c U [] _ _ _ _ _ _ _ _ _ _ _ _ _ _ _ _ _ _ _ _ _ _ _ rfl 1 E G j J (.inr rfl) (by omega) (by omega) (.inl aa) A w L N O W,fun h=>by cases h⟩
  .obtain rfl:E=true:=by cases E<;>simp_all
   have Y:=h.turn 1 G j J (by omega) b1 b2 (by omega);have hL:=Y.sizes.2.2.2.1;refine⟨0,_,fun A c w L N O=>aU1 h I 1 G j J _ _ (by omega) rfl rfl b1 b2 (by omega) A c w L N O,fun _=>?_⟩;rw[hL];have:=aX1 Y (by omega);rw[(aXk ag R 1 J _ _ (by omega) h.up.len).1]at this;exact this
def aXr (v:Bool) (shi slo dhi dlo n:Nat) (xs V:List UInt8):Prop :=
 ∀(A:Option Addr) (c:Nat) (w:World),IsB w w.heap.size A V.length V->V.length<=c->c<=maxLen->Cl 24 #[.slice A V.length c] w fun e w'=>aXp 0 v shi slo v dhi dlo n xs w w' e
theorem aYj(X:xs.length=n)(hn:n<=4000)(L:vC n xs=0)(J:Bool)(G j:Nat)(N:Bool)(I E:Nat)(b1:G<18446744073709551616)(b2:j<18446744073709551616)(b3:I<18446744073709551616)(b4:E<18446744073709551616) :
 ∃K V,WrapA J G j N I E n xs K V/\(K=0->aXr N G j I E n xs V):=by
 by_cases Z:aBh n xs J G j N I E=0
 .have Y:=Z;unfold aBh at Y;rw[bAa (fun h=>h L)]at Y;split at Y
  .cases Y
  .rename_i ad;have h1:J=N:=by
    by_cases e:J=N
    .exact e
    .exact absurd (.inl e) ad
   subst h1;have h2:okA J (G:Int) (j:Int)=true:=by
    cases O:okA J (G:Int) (j:Int)
    .exact absurd (.inr (.inl O)) ad
    .rfl
   have h3:okA J (I:Int) (E:Int)=true:=by
    cases O:okA J (I:Int) (E:Int)
    .exact absurd (.inr (.inr O)) ad
    .rfl
   cases J
   .have e1:G=0/\j<4294967296:=by simp[okA]at h2;omega
    have e2:I=0/\E<4294967296:=by simp[okA]at h3;omega
    obtain⟨rfl,O⟩:=e1;obtain⟨rfl,h6⟩:=e2;refine⟨0,_,fun A c w U hc hm=>(aVe j E A n c xs w U (by omega) _ rfl L O h6 (aQf L)).mono (by rintro e w' ⟨v,rfl,ho,W⟩;exact dE.yes ho W),fun _=>?_⟩;have e:(hdB 0 0 16384 64 (yP xs) j E [] n++xs).length=20+n:=by rw[bHa,aCw,X];rfl
    unfold aXr;rw[e];exact aX6 (yP xs) j E n xs _ X (by omega) rfl L O h6 rfl
   .refine⟨0,_,fun A c w U hc hm=>(aWq G j I E A n c xs w U (by omega) hc hm _ rfl L b1 b2 b3 b4 (aQf L)).mono (by rintro e w' ⟨v,rfl,ho,W⟩;exact dE.yes ho W),fun _=>?_⟩;have e:(aAy 0 0 64 G j I E (yP xs) [] xs).length=40+n:=by rw[aVh,X];rfl
    unfold aXr;rw[e];exact aYh (yP xs) G j I E n xs _ X (by omega) rfl L b1 b2 b3 b4 rfl
 .exact⟨_,[],fun A c w U hc hm=>(wrap_no J G j N I E A n c xs w U (by omega) _ rfl Z).mono (by rintro e w' ⟨rfl,W⟩;exact dE.no [] Z W),fun h=>absurd h Z⟩
def aXn (c:Cfg) (X:Px) (u:Vp) (i:Int) (V:List UInt8):Prop :=
 ((u.nat && !X.er)=true->PxA V.length V 0 { X with ttl:=X.ttl - 1,t:={ X.t with dv:=(eU c.nodes i).a.v6,dh:=(eU c.nodes i).a.hi,dl:=(eU c.nodes i).a.lo } }) /\
 ((u.nat && !X.er)=false->∃xs sh sl,xs.length<=4000/\aXr (eU c.nodes i).a.v6 sh sl (eU c.nodes i).a.hi (eU c.nodes i).a.lo xs.length xs V/\PxA xs.length xs 0 { X with ttl:=X.ttl - 1 })
theorem aX9(w:World){c:Cfg}{M:Nat}(j:c.good M){X:Px}(Y:PxA n xs 0 X)(Z:xs.length=n)(L:n<=4000)(u:Vp):∃snd:Int->Nat×List UInt8,∀i,aCj c X n xs u i (snd i).1 (snd i).2/\((snd i).1=0->aXn c X u i (snd i).2):=by
 have H:∀i,∃p:Nat×List UInt8,aCj c X n xs u i p.1 p.2/\(p.1=0->aXn c X u i p.2):=fun i=>by
  have J:=aNb (fun n L=>(j.nodes n L).1) i;obtain⟨A,E,O,h2,-,h4⟩:=less_ex n xs Z L;by_cases G:A=0
  .have N:=h4 w X Y G;by_cases hN:(u.nat && !X.er)=true
   .have he:X.er=false:=by
     cases e:X.er
     .rfl
     .rw[e]at hN;simp at hN
    obtain⟨K,V,U,W⟩:=aYi w (by omega) N he (eU c.nodes i).a.v6 (eU c.nodes i).a.hi (eU c.nodes i).a.lo J.1 J.2;exact⟨(K,V),⟨A,E,O,fun h=>absurd G h,fun _=>by rw[bBa hN];exact U⟩,fun h=>⟨fun _=>W h,fun I=>by rw[hN]at I;cases I⟩⟩
   .obtain⟨K,V,U,W⟩:=aYj (n:=E.length) rfl (by omega) (aVy w N rfl (by omega)) (if(eU c.nodes i).a.v6=true then c.s1 else c.s0).v6 (if(eU c.nodes i).a.v6=true then c.s1 else c.s0).hi (if(eU c.nodes i).a.v6=true then c.s1 else c.s0).lo (eU c.nodes i).a.v6 (eU c.nodes i).a.hi (eU c.nodes i).a.lo (by split;exact j.s1.1;exact j.s0.1) (by split;exact j.s1.2;exact j.s0.2) J.1 J.2;exact⟨(K,V),⟨A,E,O,fun h=>absurd G h,fun _=>by rw[bAa hN];exact U⟩,fun h=>⟨fun I=>absurd I hN,fun _=>⟨E,_,_,by omega,W h,N⟩⟩⟩
  .exact⟨(A,[]),⟨A,E,O,fun _=>rfl,fun h=>absurd h G⟩,fun h=>absurd h G⟩
 exact⟨fun h=>(H h).choose,fun h=>(H h).choose_spec⟩
theorem aXw{snd:Int->Nat×List UInt8}:∀{l:List Int},zM snd l=0->∀h∈l,(snd h).1=0
 | [],_,h,j=>by cases j
 | a :: t,e,h,j=>by
  rw[zM]at e;by_cases A:(snd a).1=0
  .rw[bAa (fun x=>x A)]at e;rcases List.mem_cons.1 j with rfl|j
   .exact A
   .exact aXw e h j
  .rw[bBa A]at e;exact absurd e A
theorem neq_px{A:Oper}(p:Px)(j:Operand->Value)(x y:Operand)(E:A.op=.binOp .neq 48 x y 48)(G:j x=.agg (gP p))(I:j y=.agg (gP p))(w:World):(execOp j A).run prog w=.ok (.value (.bool false)) w :=
 neq_pk p.v6 p.t.pr p.t.sv p.t.sh p.t.sl p.t.dv p.t.dh p.t.dl p.t.sp p.t.dp p.ttl p.fl p.er p.ab.pr p.ab.sv p.ab.sh p.ab.sl p.ab.dv p.ab.dh p.ab.dl p.ab.sp p.ab.dp p.sz j x y E G I w
theorem neq_ad{A:Oper}(v:Bool)(E G:Int)(j:Operand->Value)(x y:Operand)(I:A.op=.binOp .neq 27 x y 27)(J:j x=.agg #[.bool v,.int .u64 E,.int .u64 G])(L:j y=.agg #[.bool v,.int .u64 E,.int .u64 G])(w:World):(execOp j A).run prog w=.ok (.value (.bool false)) w:=by
 unfold execOp;simp only[I,J,L];clear J L I;simp[go_sem]
theorem take_ok{R:vQ}{snd:Int->Nat×List UInt8}{T T1:FT}{Y:TakeR}(h:gX 0 R snd T T1=Y):(Y.K≠0->Y.outs=[])/\(Y.K=0->R.K=0/\(∀i∈R.hosts,(snd i).1=0)/\Y.outs=R.hosts.map (fun i=>(i,(snd i).2))/\Y.way=R):=by
 unfold gX at h;rw[bAa (by simp)]at h;split at h
 .rename_i j;subst h;exact⟨fun _=>rfl,fun h=>absurd h j⟩
 .split at h
  .rename_i j;subst h;exact⟨fun _=>rfl,fun h=>absurd h j⟩
  .rename_i j A;subst h;exact⟨fun h=>absurd rfl h,fun _=>⟨by omega,aXw (by omega),rfl,rfl⟩⟩
theorem aYg{c:Cfg}{X:Px}{R:vQ}{snd:Int->Nat×List UInt8}(A:∀i,(snd i).1=0->aXn c X R.vip i (snd i).2)(E:∀i∈R.hosts,(snd i).1=0){j:List nR}(G:j.map (fun e=>(e.h,e.U))=R.hosts.map (fun i=>(i,(snd i).2))){e:nR}(I:e∈j):aXn c X R.vip e.h e.U:=by
 have J:(e.h,e.U)∈R.hosts.map (fun i=>(i,(snd i).2)):=by
  rw[<-G];exact List.mem_map.2 ⟨e,I,rfl⟩
 obtain⟨i,L,N⟩:=List.mem_map.1 J;obtain⟨O,V⟩:=Prod.mk.inj N;rw[<-O,<-V];exact A i (E i L)
def aHy (c:Cfg) (H:List Int) (sd:Nat) (w w':World) (e:Ending):Prop :=
 Below w.heap.size w w'/\((qF c≠0/\e=.returned (.pointer none))\/(qF c=0/\∃pp x v s b p f g,e=.returned (.pointer (some ⟨pp,0,none⟩))/\ScM w' w.heap.size w'.heap.size pp x v s b p f g (nJ 8) c H c.factor sd (rR sd 8) kG 0))
theorem aTe(A:Option Addr)(n c j:Nat)(w:World)(E:n<=maxLen)(G:n<=c)(I:min n 30=j) :
 Cl 20 #[.slice A n c] w fun e w'=>e=.returned (.slice A j c)/\w=w':=by
 unfold maxLen at E;by_cases h:30<n
 .obtain rfl:j=30:=by omega
  go_enter func20,ntmps20;go_wp2;go_ret;exact⟨rfl,rfl⟩
 .obtain rfl:j=n:=by omega
  go_enter func20,ntmps20;go_wp2;go_ret;exact⟨rfl,rfl⟩
theorem build_wk{A:Oper}(F:Int)(sd:Nat)(j:Operand->Value)(x y:Operand)(E:A.op=.build 120 #[(1,x),(2,y)])(G:j x=.int .i64 F)(I:j y=.int .u64 (sd:Int))(w:World):(execOp j A).run prog w=.ok (.value (.agg #[.int .u32 0,.int .i32 0,.int .u32 0,.slice none 0 0,.int .i64 F,.int .u64 (sd:Int)])) w:=by
 have h:(Instr.build 120 #[(1,j x),(2,j y)]).run prog w=.ok (.agg #[.int .u32 0,.int .i32 0,.int .u32 0,.slice none 0 0,.int .i64 F,.int .u64 (sd:Int)]) w:=by
  rw[G,I]
  kernel_rfl
 have J:∀B,B=#[(1,j x),(2,j y)]->Sem.run prog (do let v <- Instr.build 120 B;pure (Next.value v)) w=.ok (.value (.agg #[.int .u32 0,.int .i32 0,.int .u32 0,.slice none 0 0,.int .i64 F,.int .u64 (sd:Int)])) w:=by
  rintro _ rfl;simp only[fJa,fHa,h,dNa]
 unfold execOp;simp only[E];exact J _ (by simp)
theorem aCn{L:Oper}(x v s b p:Nat)(j:Operand->Value)(A E G I J:Operand)(N:L.op=.build 76 #[(0,A),(1,E),(2,G),(3,I),(4,J)])(O:j A=.pointer (some ⟨x,0,none⟩))(U:j E=.pointer (some ⟨v,0,none⟩))(V:j G=.pointer (some ⟨s,0,none⟩))(W:j I=.pointer (some ⟨b,0,none⟩))(X:j J=.pointer (some ⟨p,0,none⟩))(w:World) :
 (execOp j L).run prog w=.ok (.value (.agg #[.pointer (some ⟨x,0,none⟩),.pointer (some ⟨v,0,none⟩),.pointer (some ⟨s,0,none⟩),.pointer (some ⟨b,0,none⟩),.pointer (some ⟨p,0,none⟩)])) w:=by
 have h:(Instr.build 76 #[(0,j A),(1,j E),(2,j G),(3,j I),(4,j J)]).run prog w=.ok (.agg #[.pointer (some ⟨x,0,none⟩),.pointer (some ⟨v,0,none⟩),.pointer (some ⟨s,0,none⟩),.pointer (some ⟨b,0,none⟩),.pointer (some ⟨p,0,none⟩)]) w:=by
  rw[O,U,V,W,X]
  kernel_rfl
 have Y:∀B,B=#[(0,j A),(1,j E),(2,j G),(3,j I),(4,j J)]->Sem.run prog (do let v <- Instr.build 76 B;pure (Next.value v)) w=.ok (.value (.agg #[.pointer (some ⟨x,0,none⟩),.pointer (some ⟨v,0,none⟩),.pointer (some ⟨s,0,none⟩),.pointer (some ⟨b,0,none⟩),.pointer (some ⟨p,0,none⟩)])) w:=by
  rintro _ rfl;simp only[fJa,fHa,h,dNa]
 unfold execOp;simp only[N];exact Y _ (by simp)
structure Parts (w:World) (lo x v s b p f g:Nat) (c:Cfg) (H:List Int) (sd:Nat):Prop where
 conf:∃h,VIn w lo h x c/\h<=p/\h<=f/\h<=g/\h<=b/\h<=w.heap.size
 pins:PAt w p f g (nJ 8) (rR sd 8) kG 0
 vips:∃l h,zC w l h v c/\h<=w.heap.size/\f<l/\g<l/\(b<l\/h<=b)
 set:∃xt,fH w s xt c.nodes (pG c.nodes H) (fT c.nodes H).2
 wk:gV w b c.factor sd
 ge:lo<=b/\lo<=f/\lo<=g
theorem Parts.made{w:World}{x v p:Nat}{c:Cfg}(h:Parts w j x v s b p f g c H sd)(ae:j<=w.heap.size)(A:Below w.heap.size w w')(hp:w.heap.size<=E)(V:w'.heap[E]?=some (.cells #[.pointer (some ⟨x,0,none⟩),.pointer (some ⟨v,0,none⟩),.pointer (some ⟨s,0,none⟩),.pointer (some ⟨b,0,none⟩),.pointer (some ⟨p,0,none⟩)] 76 (0,0))) :
 ScM w' j w'.heap.size E x v s b p f g (nJ 8) c H c.factor sd (rR sd 8) kG 0:=by
 obtain⟨G,W,a2,a3,a4,a5,X⟩:=h.conf;obtain⟨I,J,Y,Z,b3,b4,b5⟩:=h.vips;obtain⟨xt,d⟩:=h.set;obtain⟨g1,g2,g3⟩:=h.ge;have hz:=A.size;have y1:=h.wk.lt;have y2:=h.pins.tab.flt;have y3:=h.pins.tab.glt;have L:∀k,j<=k->k<G->¬ Mv b f g k:=by rintro k _ hk (rfl|rfl|rfl)<;>omega
 have N:∀k,I<=k->k<J->¬ Mv b f g k:=by rintro k au av (rfl|rfl|rfl)<;>omega
 have O:=W.keep (Kp.of_below A X);have U:=Y.keep (Kp.of_below A Z);exact⟨⟨V,⟨j,G,O,by omega,L⟩,⟨I,J,U,by omega,N⟩,⟨xt,d.on A⟩,h.wk.on A,h.pins.on A⟩,⟨j,G,O,by omega,L⟩,⟨I,J,U,by omega,N⟩,⟨g1,g2,g3,by omega⟩,aZa _,⟨by omega,by omega,by omega⟩⟩
theorem aN8{w:World}{l v:Nat}{c:Cfg}(h:yB w l v c)(j:Below w.heap.size w w'):zC w' l w.heap.size v c:=⟨w,rfl,h,Kp.of_below j (aZa _)⟩
theorem aGz{f:α->Value}{w:World}{xs:List α}(h:IsR f w B A n xs)(k:Nat)(N:k<=n):IsR f w B A k (xs.take k):=by
 have U:=h.len;refine⟨by simp;omega,fun O=>?_⟩;obtain⟨b,I,e,J,L⟩:=h.2 (by omega);refine⟨b,I,e,J,fun j E=>?_⟩;simp only[bNa,bGa]at E;have G:=L j (by rw[bNa];omega);rw[G];simp
theorem aQz:(prog.info? 30).map (·.size)=some 11:=by kernel_rfl
structure Mk (w0 w:World) (z lo hi x t p f g:Nat) (c:Cfg) (A:Option Addr) (n:Nat) (H:List Int) (sd:Nat):Prop where
 V:VAt w lo x c
 I:VIn w lo hi x c
 B:Below z w0 w
 R:IsR bL w w.heap.size A n H
 P:PAt w p f g (nJ 8) (rR sd 8) kG 0
 T:dH w lo t c.nodes
 le:hi<=w.heap.size
 ge:z<=w.heap.size
theorem Mk.on{w v:World}{z G x t p:Nat}{c:Cfg}(h:Mk w0 w z E G x t p f g c A n H sd)(j:Below w.heap.size w v):Mk w0 v z E G x t p f g c A n H sd:=by
 obtain⟨J,L,N,O,U,W⟩:=h.T;exact⟨h.V.kp (Kp.of_below j (aZa _)),h.I.keep (Kp.of_below j h.le),h.B.trans (j.mono h.ge),h.R.on j,h.P.on j,⟨J,L,N,O,U,W.on j⟩,bJa h.le j.size,bJa h.ge j.size⟩
theorem aM8(G:Cfg)(hg:G.good 9223372036854775807)(w:World)(A1 A2 A3:Option Addr)(k1 k2 k3:Nat)(hR:uV w w.heap.size G A1 A2 A3 k1 k2 k3)(j1:G.nodes.length<=k1/\k1<=maxLen)(j2:G.vips.length<=k2/\k2<=maxLen)(j3:G.views.length<=k3/\k3<=maxLen)
 (A:Option Addr) (nh ch:Nat) (hs:List Int) (hH:IsR bL w w.heap.size A nh hs) (cy:nh<=ch) (ef:ch<=maxLen) (sd:Nat) :
 Cl 6 #[.agg (cfC G (.slice A1 G.nodes.length k1) (.slice A2 G.vips.length k2) (.slice A3 G.views.length k3)),.slice A nh ch,.int .u64 (sd:Int)] w fun e w'=>aHy (mQ G) (hs.take 30) sd w w' e:=by
 obtain⟨arr,b7⟩:∃a,cfC G (.slice A1 G.nodes.length k1) (.slice A2 G.vips.length k2) (.slice A3 G.views.length k3)=a:=⟨_,rfl⟩
 have eh:Hid (arr.size=11):=q_ (by rw[<-b7];rfl);have cz:Hid (arr[3]?=some (.int .i64 (mQ G).factor)):=q_ (by rw[<-b7];rfl);have qf:=fun w hR=>cfew_any G w A1 A2 A3 k1 k2 k3 hR j1 j2 j3
 have e1:(mQ G).nodes.length=min 60 G.nodes.length:=bGa;have e2:(mQ G).vips.length=min 20 G.vips.length:=bGa;have e3:(mQ G).views.length=min 20 G.views.length:=bGa;have qv:=fun w (hR:uV w w.heap.size G A1 A2 A3 k1 k2 k3)=>vnew_any (mQ G) ⟨by omega,by omega,by omega⟩ (fun y hy=>(hg.nodes y (eYa hy)).2) (fun v L=>hg.views v (eYa L)) w A1 A2 A3 k1 k2 k3 ⟨by omega,j1.2⟩ ⟨by omega,j2.2⟩ ⟨by omega,j3.2⟩ hR.few
 have ak:qF (mQ G)=0->∀v∈(mQ G).vips,GoodVp v:=fun h v L=>by
  obtain⟨o1,o2,-,-⟩:=(aAw h).vips v L;have o3:=hg.vips v (eYa L);exact⟨o3.1,o3.2,by omega,by omega,by omega,by omega⟩
 have a3:Hid (∀v∈(mQ G).views,v.a.ok):=q_ (fun v L=>hg.views v (eYa L));have hF:=q_ (fun w=>aTe A nh ch _ w (bJa cy ef) cy rfl);obtain⟨n3,cr⟩:∃n,min nh 30=n:=⟨_,rfl⟩
 have be:IsR bL w w.heap.size A n3 (hs.take 30):=by
  have h:=aGz hH n3 (by omega);have hl:hs.length=nh:=by have:=hH.1;rw[bNa]at this;omega
  have:hs.take n3=hs.take 30:=by
   rw[<-cr];by_cases fo:nh<=30
   .rw[show min nh 30=nh by omega,bZa (by omega),bZa (by omega)]
   .rw[show min nh 30=30 by omega]
  rw[<-this];exact h
 rw[cr]at hF;have bw:n3<=1099511627776:=by omega
 obtain⟨H,d7⟩:=eX (hs.take 30);rw[d7]at be ⊢;rw[b7]at qf ⊢;clear d7 hH cr hg j1 j2 j3;obtain⟨w1,ct⟩:=eX (w.alloc (.cells arr 30));have bf:Hid (Below w.heap.size w w1):=q_ (ct▸bC);have a4:Hid (w1.heap[w.heap.size]?=some (.cells arr 30 (0,0))):=q_ (ct▸aJ _ _ _);have bx:=q_ (qf w1 (hR.on bf));have bz:=q_ (fun w' (h:Below w1.heap.size w1 w')=>qv w' ((hR.on bf).on h));have c6:=q_ (be.on bf);obtain⟨c,hc⟩:=eX (mQ G);rw[hc]at bx bz ak a3 cz e1 e2 e3 ⊢;have c7:c.vips.length<=1073741824:=by omega
 have c8:c.views.length<=1073741824:=by omega
 clear hc qf qv hR be b7 e1 e2 e3;obtain⟨z,hz⟩:=eX w.heap.size;rw[hz]at bf a4;have ey:=aL a4;obtain⟨fl,d9⟩:∃a,cfC c (.slice A1 c.nodes.length k1) (.slice A2 c.vips.length k2) (.slice A3 c.views.length k3)=a:=⟨_,rfl⟩
 rw[d9]at bx bz;clear d9;unfold aHy;replace ak:=q_ ak;go_enter func6,ntmps6;go_upto_region 1 with fail
 clear ct;apply aWa;refine gG (.agg arr) rfl (jL w1 _ 30 (.tmp 3) rfl z rfl arr _ a4 hDa rfl (by rw[aQz,eh.out])) ?_;dsimp only[Act.put];refine bRa rfl fun K E=>?_;go_simp;refine((bx)).mono ?_;rintro e w2 ⟨rfl,bk⟩;go_simp;refine E _ _ ?_;clear E K;refine bRa rfl fun K E=>?_;go_simp;refine((bz w2 bk)).mono ?_;rintro e w3 ⟨bt,ee⟩;have ez:=bk.size;have e0:=bt.size;have be:=q_ ((c6.on bk).on bt);have c9:=q_ (aG bt (aG bk a4));have b0:=q_ (bf.trans (((tw bk bt)).mono (by omega)));obtain⟨J,el⟩:∃n,w2.heap.size=n:=⟨_,rfl⟩
 rw[el]at ee;clear bk bt a4 bf c6 bx bz;rcases ee with⟨L,rfl⟩|⟨L,x,rfl,hV⟩
 .have t1:((qF c:Int) != 0)=true:=by rw[dLa];omega
  obtain⟨KN,ea⟩:∃K,qF c=K:=⟨_,rfl⟩
  rw[ea]at t1;rw[ea];replace L:=q_ L;go_simp;refine E _ _ ?_;clear E K;iterate 5 refine pS ?_
  refine bCa ?_;go_simp;go_upto_region 2 with fail
  apply aWa;refine pS ?_;refine bRa rfl fun K E=>?_;go_simp;refine((rW w3)).mono ?_;rintro e w4 ⟨rfl,ai⟩;have a5:=tw b0 ai;clear ai;go_simp;refine E _ _ ?_;clear E K;refine bRa rfl fun K E=>?_;go_simp;refine((aF6 8 (by omega) (by omega) sd kG aCt w4)).mono ?_;rintro e U ⟨⟨p,f,g,rfl,hP,ev,ew,a4⟩,aj⟩;have bn:=q_ (a5.trans (aj.mono (by have:=a5.size;omega)));clear aj hP a5 b0;go_simp;refine E _ _ ?_;clear E K;iterate 5 refine pS ?_
  refine bCa ?_;go_simp;go_wp2_with fail
  go_ret;exact⟨by rw[hz];exact bn,.inl ⟨L,rfl⟩⟩
 .go_simp;refine E _ _ ?_;clear E K;iterate 5 refine pS ?_
  refine bCa ?_;go_simp;have da:=VIn.mk hV;go_upto_region 2 with fail
  apply aWa;refine pS ?_;refine bRa rfl fun K E=>?_;go_simp;refine((rW w3)).mono ?_;rintro e w4 ⟨rfl,ai⟩;have db:=q_ (hV.kp (Kp.of_below ai (aZa _)));have dc:=q_ (da.keep (Kp.of_below ai (aZa _)));have a5:=q_ ((tw b0 ai));have dd:=q_ (aG ai c9);have de:=q_ (be.on ai);have e4:=ai.size;clear ai hV da b0 c9 be;go_simp;refine E _ _ ?_;clear E K;refine bRa rfl fun K E=>?_;go_simp;refine((aF6 8 (by omega) (by omega) sd kG aCt w4)).mono ?_;rintro e U ⟨⟨p,f,g,rfl,hP,ev,ew,a4⟩,aj⟩;have df:=q_ (db.kp (Kp.of_below aj (aZa _)));have dg:=q_ (dc.keep (Kp.of_below aj (by omega)));have bn:=q_ (a5.trans (aj.mono (by have:=a5.size;omega)));have dh:=q_ (aG aj dd);have di:=q_ (de.on aj);have e5:=aj.size;clear aj db dc a5 dd de;replace hP:=q_ hP;go_simp;refine E _ _ ?_;clear E K;iterate 5 refine pS ?_
  refine bCa ?_;go_simp;go_upto_region 5 with fail
  refine rX (Below U.heap.size) ?_;intro Z ax;have ck:=df.kp (Kp.of_below ax (aZa _));have b1:=dg.keep (Kp.of_below ax (by omega));have dj:=bn.trans (ax.mono (by have:=bn.size;omega));have dk:=aG ax dh;have dl:=di.on ax;have dm:=hP.on ax;have e6:=ax.size;have yf:=hP.tab.flt;have yg:=hP.tab.glt;clear ax df dg bn dh hP di;obtain⟨B1,B2,B3,m1,m2,m3,t,hx,fn,es,hT⟩:=ck.h;have lx:=fun l:bU (Below U.heap.size) Z=>aA ((l.hk.block x (by have:=(b1.x).2;omega)).trans hx) 11
  have lf:∀l:bU (Below U.heap.size) Z,l.w.cell? ⟨z,3,none⟩=some (.int .i64 c.factor):=fun l=>(aA ((l.hk.block z (by omega)).trans dk) 3).trans cz
  have dp:(cfC c (.slice B1 c.nodes.length m1) (.slice B2 c.vips.length m2) (.slice B3 c.views.length m3)++#[.pointer (some ⟨t,0,none⟩)])[11]?=some (.pointer (some ⟨t,0,none⟩)):=rfl;rw[dp]at lx;have dq:dH Z J t c.nodes:=hT;obtain⟨hi,eu⟩:∃n,w3.heap.size=n:=⟨_,rfl⟩
  rw[eu]at b1;have bo:Hid (Mk w Z z J hi x t p f g c A n3 H sd):=q_ (⟨ck,b1,dj,dl,dm,dq,by omega,by omega⟩);clear hx es hT dk dp ck b1 dj dl dm dq;refine xS (Below U.heap.size) 0 2 17 ?_;simp only[dA,dC,dD];iterate 2 refine qX ?_
  refine aN ?_;refine xS (Below U.heap.size) 3 5 12 ?_;simp only[dB,dA,dC,dD];iterate 5 refine qX ?_
  refine aN ?_;refine xS (Below U.heap.size) 10 3 9 ?_;simp only[dB,dA,dC,dD];iterate 3 refine qX ?_
  refine aN ?_;refine xS (Below U.heap.size) 13 1 8 ?_;simp only[dB,dA,dC,dD];refine vX (.agg #[.int .u32 0,.int .i32 0,.int .u32 0,.slice none 0 0,.int .i64 c.factor,.int .u64 (sd:Int)]) rfl (fun l=>build_wk c.factor sd _ (.tmp 48) (.tmp 49) rfl rfl rfl l.w) ?_;refine aN ?_;refine xS (Below U.heap.size) 15 1 7 ?_;simp only[dB,dA,dC,dD];refine qX ?_;refine aN ?_;clear lx lf;refine rH 2 14 rfl rfl (by as_aux_lemma=>kernel_rfl) (fun K E=>?_) (fun K E=>?_)
  .skip
   go_simp;go_at_call 27;refine(aHr c J x Z bo.V (ak L) a3 c7 c8).mono ?_;rintro e X ⟨⟨v,rfl,bu⟩,j⟩;refine E _ _ (j.mono (by omega)) ?_;clear E K;have aq:=q_ (bo.on j);have e9:=j.size;have a6:=q_ (aN8 bu (bLa _ _));have zl:f<Z.heap.size/\g<Z.heap.size:=⟨by omega,by omega⟩
   obtain⟨lv,ar⟩:∃n,Z.heap.size=n:=⟨_,rfl⟩
   obtain⟨ah,br⟩:∃n,X.heap.size=n:=⟨_,rfl⟩
   rw[ar,br]at a6;rw[ar]at zl;have ek:ah<=X.heap.size:=by omega
   clear j bu br ar;clear bo;refine rH 8 14 rfl rfl (by as_aux_lemma=>kernel_rfl) (fun K E=>?_) (fun K E=>?_)
   .skip
    go_simp;go_at_call 20;refine(hF X).mono ?_;rintro e X ⟨rfl,rfl⟩;refine E _ _ (bLa _ _) ?_;clear E K;refine rH 9 14 rfl rfl (by as_aux_lemma=>kernel_rfl) (fun K E=>?_) (fun K E=>?_)
    .skip
     go_simp;go_at_call 19;refine(aB3 c.nodes (aAw L).tree.good H A n3 ch X J t aq.T aq.R bw).mono ?_;rintro e w8 ⟨⟨s,gw,gs,bd,rfl,N,ae⟩,j⟩;refine E _ _ (j.mono (by omega)) ?_;clear E K;have cl:=q_ (aq.on j);have fa:=j.size;have dr:=q_ (a6.keep (Kp.of_below j (by omega)));have ds:Hid (fH w8 s t c.nodes (pG c.nodes H) (fT c.nodes H).2):=q_ (⟨⟨J,cl.T⟩,⟨_,gw,gs,bd,N⟩,ae⟩);clear j N ae;clear aq a6;refine fS 14 rfl fun K E=>?_;go_simp;obtain⟨w9,b8⟩:∃x,w8.alloc (.cells #[.int .u32 0,.int .i32 0,.int .u32 0,.slice none 0 0,.int .i64 c.factor,.int .u64 (sd:Int)] 120)=x:=⟨_,rfl⟩
     rw[b8];have j:Below w8.heap.size w8 w9:=b8▸bC;have cm:Hid (w9.heap[w8.heap.size]?=some (.cells #[.int .u32 0,.int .i32 0,.int .u32 0,.slice none 0 0,.int .i64 c.factor,.int .u64 (sd:Int)] 120 (0,0))):=q_ (b8▸aJ _ _ _);obtain⟨b,Y⟩:=eX w8.heap.size;refine E _ _ (j.mono (by omega)) ?_;clear E K b8;rw[Y]at cm;rw[Y];have bp:=q_ (cl.on j);have fb:=j.size;have dt:=q_ (dr.keep (Kp.of_below j (by omega)));have du:=q_ (ds.on j);have zb:ah<=b:=by have:=Y;omega
     clear j;clear cl dr ds;have ab:Hid (Parts w9 J x v s b p f g c H sd):=q_ (⟨⟨_,bp.I,by omega,by omega,by omega,by omega,bp.le⟩,bp.P,⟨lv,ah,dt,by omega,zl.1,zl.2,by omega⟩,⟨t,du⟩,⟨0,_,_,cm,.inl rfl⟩,⟨by omega,by omega,by omega⟩⟩);have hlo':J<=w9.heap.size:=by omega
     have a7:z<=J:=by omega
     have W:=q_ bp.B;have a8:U.heap.size<=w9.heap.size:=by omega
     clear bp dt cm du ak a3 hF;refine xS (Below U.heap.size) 16 1 2 ?_;simp only[dB,dA,dC,dD];refine vX (.agg #[.pointer (some ⟨x,0,none⟩),.pointer (some ⟨v,0,none⟩),.pointer (some ⟨s,0,none⟩),.pointer (some ⟨b,0,none⟩),.pointer (some ⟨p,0,none⟩)]) rfl (fun l=>aCn x v s b p _ (.tmp 37) (.tmp 39) (.tmp 46) (.tmp 51) (.tmp 52) rfl rfl rfl rfl rfl rfl l.w) ?_;refine aN ?_;refine fS 17 rfl fun K E=>?_;go_simp;obtain⟨ad,O⟩:∃y,w9.alloc (.cells #[.pointer (some ⟨x,0,none⟩),.pointer (some ⟨v,0,none⟩),.pointer (some ⟨s,0,none⟩),.pointer (some ⟨b,0,none⟩),.pointer (some ⟨p,0,none⟩)] 76)=y:=⟨_,rfl⟩
     rw[O];have j:Below w9.heap.size w9 ad:=O▸bC;have ac:ad.heap[w9.heap.size]?=some (.cells #[.pointer (some ⟨x,0,none⟩),.pointer (some ⟨v,0,none⟩),.pointer (some ⟨s,0,none⟩),.pointer (some ⟨b,0,none⟩),.pointer (some ⟨p,0,none⟩)] 76 (0,0)):=O▸aJ _ _ _;refine E _ _ (j.mono a8) ?_;clear E K O;have N:=q_ (ab.made hlo' j (aZa _) ac);have a9:=q_ (W.trans (j.mono (by have:=W.size;omega)));clear ab W j ac;refine xM 18 rfl ?_;refine fD ?_;go_wp2_with fail
     go_ret;exact⟨by rw[hz];exact a9,.inr ⟨L,_,_,_,_,_,_,_,_,rfl,by rw[hz];exact N.more a7⟩⟩
    .skip
     go_simp;obtain⟨cu,b9⟩:∃x,X.alloc (.cells #[.int .u32 0,.int .i32 0,.int .u32 0,.slice none 0 0,.int .i64 c.factor,.int .u64 (sd:Int)] 120)=x:=⟨_,rfl⟩
     rw[b9];have j:Below X.heap.size X cu:=b9▸bC;have cn:Hid (cu.heap[X.heap.size]?=some (.cells #[.int .u32 0,.int .i32 0,.int .u32 0,.slice none 0 0,.int .i64 c.factor,.int .u64 (sd:Int)] 120 (0,0))):=q_ (b9▸aJ _ _ _);obtain⟨b,Y⟩:=eX X.heap.size;refine E _ _ (j.mono (by omega)) ?_;clear E K b9;rw[Y]at cn;rw[Y];have b3:=q_ (aq.on j);have fc:=j.size;have dv:=q_ (a6.keep (Kp.of_below j (by omega)));have zb:ah<=b:=by have:=Y;omega
     clear j;clear aq a6;refine fS 9 rfl fun K E=>?_;go_simp;go_at_call 19;refine(aB3 c.nodes (aAw L).tree.good H A n3 ch cu J t b3.T b3.R bw).mono ?_;rintro e au ⟨⟨s,gw,gs,bd,rfl,N,ae⟩,j⟩;refine E _ _ (j.mono (by omega)) ?_;clear E K;have bg:=q_ (b3.on j);have fd:=j.size;have dw:=q_ (dv.keep (Kp.of_below j (by omega)));have dx:=q_ (aG j cn);have dy:Hid (fH au s t c.nodes (pG c.nodes H) (fT c.nodes H).2):=q_ (⟨⟨J,bg.T⟩,⟨_,gw,gs,bd,N⟩,ae⟩);clear j N ae;clear b3 dv cn;have ab:Hid (Parts au J x v s b p f g c H sd):=q_ (⟨⟨_,bg.I,by omega,by omega,by omega,by omega,bg.le⟩,bg.P,⟨lv,ah,dw,by omega,zl.1,zl.2,by omega⟩,⟨t,dy⟩,⟨0,_,_,dx,.inl rfl⟩,⟨by omega,by omega,by omega⟩⟩);have hlo':J<=au.heap.size:=by omega
     have a7:z<=J:=by omega
     have W:=q_ bg.B;have a8:U.heap.size<=au.heap.size:=by omega
     clear bg dw dx dy ak a3 hF;refine xS (Below U.heap.size) 16 1 2 ?_;simp only[dB,dA,dC,dD];refine vX (.agg #[.pointer (some ⟨x,0,none⟩),.pointer (some ⟨v,0,none⟩),.pointer (some ⟨s,0,none⟩),.pointer (some ⟨b,0,none⟩),.pointer (some ⟨p,0,none⟩)]) rfl (fun l=>aCn x v s b p _ (.tmp 37) (.tmp 39) (.tmp 46) (.tmp 51) (.tmp 52) rfl rfl rfl rfl rfl rfl l.w) ?_;refine aN ?_;refine fS 17 rfl fun K E=>?_;go_simp;obtain⟨ad,O⟩:∃y,au.alloc (.cells #[.pointer (some ⟨x,0,none⟩),.pointer (some ⟨v,0,none⟩),.pointer (some ⟨s,0,none⟩),.pointer (some ⟨b,0,none⟩),.pointer (some ⟨p,0,none⟩)] 76)=y:=⟨_,rfl⟩
     rw[O];have j:Below au.heap.size au ad:=O▸bC;have ac:ad.heap[au.heap.size]?=some (.cells #[.pointer (some ⟨x,0,none⟩),.pointer (some ⟨v,0,none⟩),.pointer (some ⟨s,0,none⟩),.pointer (some ⟨b,0,none⟩),.pointer (some ⟨p,0,none⟩)] 76 (0,0)):=O▸aJ _ _ _;refine E _ _ (j.mono a8) ?_;clear E K O;have N:=q_ (ab.made hlo' j (aZa _) ac);have a9:=q_ (W.trans (j.mono (by have:=W.size;omega)));clear ab W j ac;refine xM 18 rfl ?_;refine fD ?_;go_wp2_with fail
     go_ret;exact⟨by rw[hz];exact a9,.inr ⟨L,_,_,_,_,_,_,_,_,rfl,by rw[hz];exact N.more a7⟩⟩
   .skip
    go_simp;obtain⟨bs,ca⟩:∃x,X.alloc (.cells #[.int .u32 0,.int .i32 0,.int .u32 0,.slice none 0 0,.int .i64 c.factor,.int .u64 (sd:Int)] 120)=x:=⟨_,rfl⟩
    rw[ca];have j:Below X.heap.size X bs:=ca▸bC;have co:Hid (bs.heap[X.heap.size]?=some (.cells #[.int .u32 0,.int .i32 0,.int .u32 0,.slice none 0 0,.int .i64 c.factor,.int .u64 (sd:Int)] 120 (0,0))):=q_ (ca▸aJ _ _ _);obtain⟨b,Y⟩:=eX X.heap.size;refine E _ _ (j.mono (by omega)) ?_;clear E K ca;rw[Y]at co;rw[Y];have b4:=q_ (aq.on j);have fe:=j.size;have dz:=q_ (a6.keep (Kp.of_below j (by omega)));have zb:ah<=b:=by have:=Y;omega
    clear j;clear aq a6;refine fS 8 rfl fun K E=>?_;go_simp;go_at_call 20;refine(hF bs).mono ?_;rintro e bs ⟨rfl,rfl⟩;refine E _ _ (bLa _ _) ?_;clear E K;refine fS 9 rfl fun K E=>?_;go_simp;go_at_call 19;refine(aB3 c.nodes (aAw L).tree.good H A n3 ch bs J t b4.T b4.R bw).mono ?_;rintro e av ⟨⟨s,gw,gs,bd,rfl,N,ae⟩,j⟩;refine E _ _ (j.mono (by omega)) ?_;clear E K;have bh:=q_ (b4.on j);have ff:=j.size;have d0:=q_ (dz.keep (Kp.of_below j (by omega)));have d1:=q_ (aG j co);have d2:Hid (fH av s t c.nodes (pG c.nodes H) (fT c.nodes H).2):=q_ (⟨⟨J,bh.T⟩,⟨_,gw,gs,bd,N⟩,ae⟩);clear j N ae;clear b4 dz co;have ab:Hid (Parts av J x v s b p f g c H sd):=q_ (⟨⟨_,bh.I,by omega,by omega,by omega,by omega,bh.le⟩,bh.P,⟨lv,ah,d0,by omega,zl.1,zl.2,by omega⟩,⟨t,d2⟩,⟨0,_,_,d1,.inl rfl⟩,⟨by omega,by omega,by omega⟩⟩);have hlo':J<=av.heap.size:=by omega
    have a7:z<=J:=by omega
    have W:=q_ bh.B;have a8:U.heap.size<=av.heap.size:=by omega
    clear bh d0 d1 d2 ak a3 hF;refine xS (Below U.heap.size) 16 1 2 ?_;simp only[dB,dA,dC,dD];refine vX (.agg #[.pointer (some ⟨x,0,none⟩),.pointer (some ⟨v,0,none⟩),.pointer (some ⟨s,0,none⟩),.pointer (some ⟨b,0,none⟩),.pointer (some ⟨p,0,none⟩)]) rfl (fun l=>aCn x v s b p _ (.tmp 37) (.tmp 39) (.tmp 46) (.tmp 51) (.tmp 52) rfl rfl rfl rfl rfl rfl l.w) ?_;refine aN ?_;refine fS 17 rfl fun K E=>?_;go_simp;obtain⟨ad,O⟩:∃y,av.alloc (.cells #[.pointer (some ⟨x,0,none⟩),.pointer (some ⟨v,0,none⟩),.pointer (some ⟨s,0,none⟩),.pointer (some ⟨b,0,none⟩),.pointer (some ⟨p,0,none⟩)] 76)=y:=⟨_,rfl⟩
    rw[O];have j:Below av.heap.size av ad:=O▸bC;have ac:ad.heap[av.heap.size]?=some (.cells #[.pointer (some ⟨x,0,none⟩),.pointer (some ⟨v,0,none⟩),.pointer (some ⟨s,0,none⟩),.pointer (some ⟨b,0,none⟩),.pointer (some ⟨p,0,none⟩)] 76 (0,0)):=O▸aJ _ _ _;refine E _ _ (j.mono a8) ?_;clear E K O;have N:=q_ (ab.made hlo' j (aZa _) ac);have a9:=q_ (W.trans (j.mono (by have:=W.size;omega)));clear ab W j ac;refine xM 18 rfl ?_;refine fD ?_;go_wp2_with fail
    go_ret;exact⟨by rw[hz];exact a9,.inr ⟨L,_,_,_,_,_,_,_,_,rfl,by rw[hz];exact N.more a7⟩⟩
  .skip
   go_simp;obtain⟨ba,cc⟩:∃x,Z.alloc (.cells #[.int .u32 0,.int .i32 0,.int .u32 0,.slice none 0 0,.int .i64 c.factor,.int .u64 (sd:Int)] 120)=x:=⟨_,rfl⟩
   rw[cc];have j:Below Z.heap.size Z ba:=cc▸bC;have b5:Hid (ba.heap[Z.heap.size]?=some (.cells #[.int .u32 0,.int .i32 0,.int .u32 0,.slice none 0 0,.int .i64 c.factor,.int .u64 (sd:Int)] 120 (0,0))):=q_ (cc▸aJ _ _ _);obtain⟨b,Y⟩:=eX Z.heap.size;refine E _ _ (j.mono (by omega)) ?_;clear E K cc;rw[Y]at b5;rw[Y];have cp:=q_ (bo.on j);have fg:=j.size;clear j;clear bo;refine fS 2 rfl fun K E=>?_;go_simp;go_at_call 27;refine(aHr c J x ba cp.V (ak L) a3 c7 c8).mono ?_;rintro e bv ⟨⟨v,rfl,bu⟩,j⟩;refine E _ _ (j.mono (by omega)) ?_;clear E K;have b6:=q_ (cp.on j);have fh:=j.size;have d3:=q_ (aG j b5);have cq:=q_ (aN8 bu (bLa _ _));have zl:f<ba.heap.size/\g<ba.heap.size:=⟨by omega,by omega⟩
   have zb:b<ba.heap.size:=aL b5;obtain⟨lv,ar⟩:∃n,ba.heap.size=n:=⟨_,rfl⟩
   obtain⟨ah,br⟩:∃n,bv.heap.size=n:=⟨_,rfl⟩
   rw[ar,br]at cq;rw[ar]at zl;rw[ar]at zb;have ek:ah<=bv.heap.size:=by omega
   clear j bu br ar;clear cp b5;refine fS 8 rfl fun K E=>?_;go_simp;go_at_call 20;refine(hF bv).mono ?_;rintro e bv ⟨rfl,rfl⟩;refine E _ _ (bLa _ _) ?_;clear E K;refine fS 9 rfl fun K E=>?_;go_simp;go_at_call 19;refine(aB3 c.nodes (aAw L).tree.good H A n3 ch bv J t b6.T b6.R bw).mono ?_;rintro e aw ⟨⟨s,gw,gs,bd,rfl,N,ae⟩,j⟩;refine E _ _ (j.mono (by omega)) ?_;clear E K;have bi:=q_ (b6.on j);have fi:=j.size;have d4:=q_ (cq.keep (Kp.of_below j (by omega)));have d5:=q_ (aG j d3);have d6:Hid (fH aw s t c.nodes (pG c.nodes H) (fT c.nodes H).2):=q_ (⟨⟨J,bi.T⟩,⟨_,gw,gs,bd,N⟩,ae⟩);clear j N ae;clear b6 cq d3;have ab:Hid (Parts aw J x v s b p f g c H sd):=q_ (⟨⟨_,bi.I,by omega,by omega,by omega,by omega,bi.le⟩,bi.P,⟨lv,ah,d4,by omega,zl.1,zl.2,by omega⟩,⟨t,d6⟩,⟨0,_,_,d5,.inl rfl⟩,⟨by omega,by omega,by omega⟩⟩);have hlo':J<=aw.heap.size:=by omega
   have a7:z<=J:=by omega
   have W:=q_ bi.B;have a8:U.heap.size<=aw.heap.size:=by omega
   clear bi d4 d5 d6 ak a3 hF;refine xS (Below U.heap.size) 16 1 2 ?_;simp only[dB,dA,dC,dD];refine vX (.agg #[.pointer (some ⟨x,0,none⟩),.pointer (some ⟨v,0,none⟩),.pointer (some ⟨s,0,none⟩),.pointer (some ⟨b,0,none⟩),.pointer (some ⟨p,0,none⟩)]) rfl (fun l=>aCn x v s b p _ (.tmp 37) (.tmp 39) (.tmp 46) (.tmp 51) (.tmp 52) rfl rfl rfl rfl rfl rfl l.w) ?_;refine aN ?_;refine fS 17 rfl fun K E=>?_;go_simp;obtain⟨ad,O⟩:∃y,aw.alloc (.cells #[.pointer (some ⟨x,0,none⟩),.pointer (some ⟨v,0,none⟩),.pointer (some ⟨s,0,none⟩),.pointer (some ⟨b,0,none⟩),.pointer (some ⟨p,0,none⟩)] 76)=y:=⟨_,rfl⟩
   rw[O];have j:Below aw.heap.size aw ad:=O▸bC;have ac:ad.heap[aw.heap.size]?=some (.cells #[.pointer (some ⟨x,0,none⟩),.pointer (some ⟨v,0,none⟩),.pointer (some ⟨s,0,none⟩),.pointer (some ⟨b,0,none⟩),.pointer (some ⟨p,0,none⟩)] 76 (0,0)):=O▸aJ _ _ _;refine E _ _ (j.mono a8) ?_;clear E K O;have N:=q_ (ab.made hlo' j (aZa _) ac);have a9:=q_ (W.trans (j.mono (by have:=W.size;omega)));clear ab W j ac;refine xM 18 rfl ?_;refine fD ?_;go_wp2_with fail
   go_ret;exact⟨by rw[hz];exact a9,.inr ⟨L,_,_,_,_,_,_,_,_,rfl,by rw[hz];exact N.more a7⟩⟩
end Go.Proofs.YtpcifakangbpaaaGreat
