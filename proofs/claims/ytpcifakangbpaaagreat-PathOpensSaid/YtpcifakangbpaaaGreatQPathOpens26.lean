/- Parts of the proof of PathOpens: contracts of functions of the program. No condition but those that each theorem names. -/
import Derived.Test.YtpcifakangbpaaaGreatQPathOpens21
import Derived.Test.YtpcifakangbpaaaGreatQPathOpens25
set_option linter.unusedVariables false
set_option linter.unusedSimpArgs false
set_option maxRecDepth 100000
set_option maxHeartbeats 16000000
namespace Go.Proofs.YtpcifakangbpaaaGreat
open Go.RowKit Go.ChangeShapes Go.WideShapes Go.ChangeAt Go.Deep Go.Proofs.Tryz
variable {R xs:List UInt8}{B E J N O S V b base' c f fuel g i j k m n s sd sz:Nat}{Q:Exit->Act->World->Prop}{d w' w0:World}{u v z:Value}{T e t:TypeId}{A:Option Addr}{h os:List Nat}{F:List UInt8->Option Nat}{p:List Nat×List Bool}{a:Act}{α:Type}{H l:List Int}{o:Oper}{G:Array Oper}{K:Act->World->Prop}{y:Array Value}{vs:List Value}{L:List Oper}{I:Bool}{U W Y aa:List (Int×List UInt8)}{P:Program}
section
def vK (b:Bool):Value:=.bool b
def zZ (i:Nat) (p:List Nat×List Bool) (k:Int):List Nat×List Bool :=
 (p.1.set i ((p.1.getD i 0+p.1.getD k.toNat 0) % 18446744073709551616),p.2.set i (p.2.getD i false || p.2.getD k.toNat false))
def fixW (n:Nd) (i:Nat) (p:List Nat×List Bool):List Nat×List Bool:=if 0<n.weight/\p.2.getD i false=true then(p.1.set i n.weight.toNat,p.2)else p
def uP (ns:List Nd) (i:Nat) (p:List Nat×List Bool):List Nat×List Bool:=match ns[i]? with
 | none=>p
 | some n=>if n.kind=4 then p else fixW n i ((gJ ns i).foldl (zZ i) p)
structure jY (w:World) (base s x gw gs:Nat) (n:Nat) (p:List Nat×List Bool) (hv:Value) (H:List Int):Prop where
 blk:w.heap[s]?=some (.cells #[.pointer (some ⟨x,0,none⟩),.slice (some ⟨gw,0,none⟩) n n,.slice (some ⟨gs,0,none⟩) n n,hv] 153 (0,0))
 rw:dX cK 25 w gw p.1
 rs:dX vK 4 w gs p.2
 hosts:dV 3 bL w base hv H
 lw:p.1.length=n
 ls:p.2.length=n
 b1:base<=s
 b2:base<=gw
 b3:base<=gs
 n1:s≠gw
 n2:s≠gs
 n3:gw≠gs
section
variable {w w':World} {base s x gw gs n:Nat} {p:List Nat×List Bool} {hv:Value} {H:List Int}
theorem jY.on(h:jY w base s x gw gs n p hv H)(j:Below w.heap.size w w'):jY w' base s x gw gs n p hv H :=
 ⟨aG j h.blk,h.rw.on j,h.rs.on j,mU h.hosts j,h.lw,h.ls,h.b1,h.b2,h.b3,h.n1,h.n2,h.n3⟩
theorem jY.setW(h:jY w base s x gw gs n p hv H)(i v:Nat):jY (w.setCell ⟨gw,i,none⟩ (.int .u64 (v:Int))) base s x gw gs n (p.1.set i v,p.2) hv H :=
 ⟨(cLa _ _ _ s h.n1).trans h.blk,h.rw.set i v,(cLa _ _ _ gs (fVa h.n3)).trans h.rs,gK h.hosts h.rw (by decide) i _,by rw[cFa];exact h.lw,h.ls,h.b1,h.b2,h.b3,h.n1,h.n2,h.n3⟩
theorem jY.setS(h:jY w base s x gw gs n p hv H)(i:Nat)(v:Bool):jY (w.setCell ⟨gs,i,none⟩ (.bool v)) base s x gw gs n (p.1,p.2.set i v) hv H :=
 ⟨(cLa _ _ _ s h.n2).trans h.blk,(cLa _ _ _ gw h.n3).trans h.rw,h.rs.set i v,gK h.hosts h.rs (by decide) i _,h.lw,by rw[cFa];exact h.ls,h.b1,h.b2,h.b3,h.n1,h.n2,h.n3⟩
end
structure GoodT (ns:List Nd):Prop where
 rise:Rise ns
 wt:∀n∈ns,0<=n.weight/\n.weight<=65535
end
theorem kids_mem{ns:List Nd}{k:Int}(h:k∈gJ ns i):∃(a:Nat) (n:Nd),k=(a:Int)/\ns[a]?=some n/\n.above=(i:Int):=by
 unfold gJ jA jP at h;obtain⟨a,A,rfl⟩:=List.mem_map.1 h;rw[List.mem_filter]at A;obtain⟨E,j⟩:=A;rcases e:ns[a]? with _|n
 .rw[e]at j
  cases j
 .rw[e]at j;exact⟨a,n,rfl,e,cHa j⟩
theorem aGv{l:List Bool}{b:Bool}(h:l[i]?=some b):l.getD i false=b:=by rw[bTa,h];rfl
theorem aGw{l:List Nat}{x:Nat}(h:l[i]?=some x):l.getD i 0=x:=by rw[bTa,h];rfl
theorem aRq(ns:List Nd)(hG:GoodT ns)(w0:World)(bt x:Nat)(hT:dH w0 bt x ns)(i:Nat)(hi:i<ns.length)(hn:ns.length<=1024)(w:World)(hB:Below w0.heap.size w0 w)(s gw U:Nat)(p:List Nat×List Bool)(hv:Value)(H:List Int)(hM:jY w w0.heap.size s x gw U ns.length p hv H)(hW:∀v∈p.1,v<18446744073709551616) :
 Cl 55 #[.pointer (some ⟨s,0,none⟩),.int .i64 (i:Int)] w fun e w'=>e=.returned (.tuple #[])/\jY w' w0.heap.size s x gw U ns.length (uP ns i p) hv H/\Below w0.heap.size w0 w'/\(∀v∈(uP ns i p).1,v<18446744073709551616):=by
 have a9:∀w',Below w0.heap.size w0 w'->dH w' bt x ns:=fun w' hb=>by
  obtain⟨nv,kv,tv,hv,us,hC⟩:=hT;exact⟨nv,kv,tv,hv,us,hC.on hb⟩
 obtain⟨N,d0⟩:∃b,w0.heap.size=b:=⟨_,rfl⟩
 rw[d0]at a9 hB hM ⊢;have b6:ns[i]?=some ns[i]:=aXa hi;have cq:eU ns (i:Int)=ns[i]:=by
  unfold eU;rw[bAa (by omega),bMa,bTa,b6]
  rfl
 have qn:=q_ (uD ns (i:Int) bt x w (a9 w hB));rw[cq]at qn;obtain⟨g1,g2⟩:=hG.wt _ (fNa hi);have az:Hid (uP ns i p=if(ns[i]).kind=4 then p else fixW ns[i] i ((gJ ns i).foldl (zZ i) p)):=q_ (by unfold uP;rw[b6]);obtain⟨nd,c4⟩:=eX (ns[i]);rw[c4]at qn g1 g2 az;obtain⟨R,hR⟩:=eX (uP ns i p);rw[hR]at az ⊢;obtain⟨nm,kd,ab,wt,a⟩:=nd;unfold ndA at qn;dsimp only at qn g1 g2 az;have d8:=hB.size;have hc:=aA hM.blk;clear b6 cq c4 hR hT;replace ⟨hB,hM,a9,hW⟩:=q_4 hB hM a9 hW;go_enter func55,ntmps55;go_upto_region 0 with fail
 apply aWa;iterate 5 refine pS ?_
 refine bRa rfl fun K hK=>?_;go_simp;refine(qn).mono ?_;rintro e w1 ⟨rfl,bp⟩;go_simp;refine hK _ _ ?_;clear hK K;refine gF rfl rfl 93 _ (aCm _ rfl) 4 rfl (.tmp 12) rfl _ (fun _=>rfl) (fun _=>rfl) rfl (by kernel_rfl) (aB2 (str nm) kd ab wt a.v6 (a.hi:Int) (a.lo:Int)) ?_;intro w2 ba cm em;refine bCa ?_;go_simp;have bu:=q_ ((hM.on bp).on cm);have bv:=q_ (hB.trans ((bp.trans (cm.mono bp.size)).mono (by omega)));have d9:N<=w1.heap.size:=by have:=bp.size;omega
 have di:=aA bu.blk;have cn:=aA ba;clear bp cm hc qn hM hB;replace ba:=q_ ba;by_cases h4:kd=4
 .have t4:(kd == 4)=true:=beq_iff_eq.2 h4;have an:=az.out;rw[bBa h4]at an;subst an;clear h4;go_wp2_with fail
  first|refine aYa (gJa rfl _ _ _) rfl ?_|(simp only[Exit.inBlock,Exit.then];refine aYa (gJa rfl _ _ _) rfl ?_)
  exact⟨rfl,bu,bv,hW⟩
 .have t4:(kd == 4)=false:=by rw[bDa];exact h4
  have an:=q_ az;rw[bAa h4]at an;have qk:=q_ (aM0 ns bt x (i:Int) w2 (a9 w2 bv));have cr:nV ns (i:Int)=gJ ns i:=by unfold nV;rw[bBa ⟨by omega,by omega⟩,bMa]
  rw[cr]at qk;have b7:=q_ (fun k hk=>kids_mem (ns:=ns) (i:=i) (k:=k) hk);have dl:=aFz ns i;obtain⟨K,hK⟩:=eX (gJ ns i);rw[hK]at qk b7 dl an;clear h4 cr az hK;go_upto_region 2 with fail
  apply aWa;iterate 5 refine pS ?_
  refine bRa rfl fun K hK=>?_;go_simp;refine(qk).mono ?_;rintro e w3 ⟨kv,rfl,cv,b4⟩;go_simp;refine hK _ _ ?_;clear hK K;have ct:=q_ (bu.on b4);have cu:=q_ ((tw bv b4));have hkv':Hid (dV 3 bL w3 N kv K):=q_ (dV.weaken cv (by omega));have cw:=q_ (aG b4 ba);obtain⟨Ak,ck,d3,eg,eh,a0⟩:=hkv'.form;subst d3;clear cv b4 bu bv ba di cn qk;replace a0:=q_ a0;iterate 2 refine pS ?_
  refine bCa ?_;go_simp;go_wp2_with fail
  go_loopw [6,23] (fun _ iv wr=>∃j:Nat,j<=K.length/\iv=.int .i64 (j:Int)/\jY wr N s x gw U ns.length ((K.take j).foldl (zZ i) p) hv H/\Below N w0 wr/\dV 3 bL wr N (.slice Ak K.length ck) K/\wr.heap[w1.heap.size]?=some (.cells #[.string (str nm),.int .i64 kd,.int .i64 ab,.int .i64 wt,.bool a.v6,.int .u64 (a.hi:Int),.int .u64 (a.lo:Int)] 93 (0,0))/\(∀v∈((K.take j).foldl (zZ i) p).1,v<18446744073709551616)) (fun _ iv _=>K.length - (intOf iv).toNat)
  case atStart=>exact⟨0,by omega,rfl,ct,cu,hkv',cw,hW⟩
  case round =>
   obtain⟨j,hj,rfl,A,E,a2,ao,I⟩:=hrel;clear ct cu hkv' cw a0 hW;by_cases d6:j<K.length
   .have ea:(j:Int)<(K.length:Int):=by omega
    have eb:=wJ j;obtain⟨A',c',e',-,-,a0⟩:=a2.form
    cases e'
    obtain⟨kb,ko,k,rfl,el,cj,c6⟩:=a0.at d6;obtain⟨V,nk,rfl,c7,-⟩:=b7 k (bPa cj);have ec:=(List.getElem?_eq_some_iff.1 c7).1;unfold bL at c6;have ad:(K.take (j+1)).foldl (zZ i) p=zZ i ((K.take j).foldl (zZ i) p) (V:Int):=by
     rw[dMa,cj,hLa,show(some (V:Int)).toList=[(V:Int)] from rfl,gPa,List.foldl_nil]
    obtain⟨⟨J,O⟩,hP⟩:∃P,(K.take j).foldl (zZ i) p=P:=⟨_,rfl⟩
    rw[hP]at A I ad;dsimp only at I;have bb:=A.lw;have bc:=A.ls;dsimp only at bb bc;have ag:J[i]?=some J[i]:=aXa (by omega);have bx:J[V]?=some J[V]:=aXa (by omega);have X:O[i]?=some O[i]:=aXa (by omega);have b8:O[V]?=some O[V]:=aXa (by omega);obtain⟨wi,bk⟩:∃v,J[i]=v:=⟨_,rfl⟩
    obtain⟨wk,c8⟩:∃v,J[V]=v:=⟨_,rfl⟩
    obtain⟨si,bm⟩:∃v,O[i]=v:=⟨_,rfl⟩
    obtain⟨sk,c9⟩:∃v,O[V]=v:=⟨_,rfl⟩
    rw[bk]at ag;rw[c8]at bx;rw[bm]at X;rw[c9]at b8;have cx:zZ i (J,O) (V:Int)=(J.set i ((wi+wk) % 18446744073709551616),O.set i (si || sk)):=by
     unfold zZ;dsimp only;rw[bMa,aGw ag,aGw bx,aGv X,aGv b8]
    rw[cx]at ad;clear cx;obtain⟨v,da⟩:∃v,(wi+wk) % 18446744073709551616=v:=⟨_,rfl⟩
    have dm:v<18446744073709551616:=by omega
    have wv:IntKind.u64.wrap ((wi:Int)+(wk:Int))=(v:Int):=by rw[cTa];omega
    rw[da]at ad;have i1:(i:Int)<(ns.length:Int):=by omega
    have i2:(V:Int)<(ns.length:Int):=by omega
    have ef:=E.size;have lc:=fun l:Later wr=>aA (aG l.hb A.blk)
    have cy:=fun l:Later wr=>(A.rw.on l.hb).cell ag
    have cz:=fun l:Later wr=>(A.rw.on l.hb).cell bx
    unfold cK at cy cz;have bz:∀u∈J.set i v,u<18446744073709551616:=fun u hu=>by
     rcases fUa hu with hu|rfl
     .exact I u hu
     .exact dm
    clear a0 cj c7 hP bk c8 bm c9 da I bc bb bx nk;replace ⟨A,E,a2,ao,ad,bz⟩:=q_6 A E a2 ao ad bz;go_upto_region 5 with fail
    clear c6;refine rL ?_;refine eS 0 16 1 ?_;simp only[dA,dC,dD];iterate 16 refine qE ?_
    refine aT ?_;refine eE fun l2=>?_;have L:=A.on l2.hb;have bd:=E.trans (l2.hb.mono (by omega));have c0:=a2.below l2.hb;have b9:=aG l2.hb ao;have Y:=L.rw.cell ag;have ap:=L.rw.free i;unfold cK at Y;obtain⟨w5,ah⟩:=eX (l2.w.setCell ⟨gw,i,none⟩ (.int .u64 (v:Int)));have aq:=q_ (ah▸L.setW i v);have a3:Hid (Below N w0 w5):=q_ (ah▸bd.setCell (p:=⟨gw,i,none⟩) L.b2 _);have b0:Hid (dV 3 bL w5 N (.slice (some ⟨kb,ko,none⟩) K.length ck) K):=q_ (ah▸gK c0 L.rw (by decide) i _);have a4:w5.heap[w1.heap.size]?=some (.cells #[.string (str nm),.int .i64 kd,.int .i64 ab,.int .i64 wt,.bool a.v6,.int .u64 (a.hi:Int),.int .u64 (a.lo:Int)] 93 (0,0)):=by
     rw[<-ah];refine(cLa _ _ _ _ fun e=>?_).trans b9;have Z:=L.rw;unfold dX at Z;rw[show(⟨gw,i,none⟩:Addr).block=gw from rfl]at e;rw[<-e,b9]at Z;injection(bFa Z)with _ h10 _
     exact absurd h10 (by decide)
    clear lc cy cz A E a2 ao L bd c0 b9 ag;replace a4:=q_ a4;refine tM 16 rfl ?_;refine tD ?_;clear Y ap ah;have lc:=fun l:Later w5=>aA (aG l.hb aq.blk)
    have ca:=fun l:Later w5=>(aq.rs.on l.hb).cell X
    have cc:=fun l:Later w5=>(aq.rs.on l.hb).cell b8
    unfold vK at ca cc;obtain⟨sv,cl⟩:∃b,(si || sk)=b:=⟨_,rfl⟩
    rw[cl]at ad;go_upto_region 6 with fail
    cases si
    case true =>
     obtain rfl:true=sv:=cl;refine rL ?_;refine eS 0 22 1 ?_;simp only[dA,dC,dD];iterate 12 refine qE ?_
     refine jD (.bool true) 7 rfl (fun l=>rfl) (by as_aux_lemma=>kernel_rfl) ?_;dsimp only[wW,List.take_succ_cons,List.take_zero,List.drop_succ_cons,List.drop_zero,Act.put];iterate 2 refine qE ?_
     refine aT ?_;refine eE fun W=>?_;have G:=aq.on W.hb;have be:=a3.trans (W.hb.mono (by have:=a3.size;omega));have bf:=b0.below W.hb;have ar:=aG W.hb a4;have Y:=G.rs.cell X;have ap:=G.rs.free i;unfold vK at Y;obtain⟨w7,ac⟩:=eX (W.w.setCell ⟨U,i,none⟩ (.bool true));have bg:=q_ (ac▸G.setS i true);have bh:Hid (Below N w0 w7):=q_ (ac▸be.setCell (p:=⟨U,i,none⟩) G.b3 _);have cd:Hid (dV 3 bL w7 N (.slice (some ⟨kb,ko,none⟩) K.length ck) K):=q_ (ac▸gK bf G.rs (by decide) i _);have au:w7.heap[w1.heap.size]?=some (.cells #[.string (str nm),.int .i64 kd,.int .i64 ab,.int .i64 wt,.bool a.v6,.int .u64 (a.hi:Int),.int .u64 (a.lo:Int)] 93 (0,0)):=by
      rw[<-ac];refine(cLa _ _ _ _ fun e=>?_).trans ar;have Z:=G.rs;unfold dX at Z;rw[show(⟨U,i,none⟩:Addr).block=U from rfl]at e;rw[<-e,ar]at Z;injection(bFa Z)with _ h10 _
      exact absurd h10 (by decide)
     clear lc ca cc aq a3 b0 a4 G be bf ar X;replace au:=q_ au;refine tM 22 rfl ?_;refine tD ?_;clear Y ap ac;go_wp2_with fail
     exact⟨⟨j+1,by omega,by first|rfl|go_num,by rw[ad.out];exact bg,bh,cd,au,by rw[ad.out];exact bz⟩,by simp only[intOf];omega⟩
    case false =>
     obtain rfl:sk=sv:=by rw[<-cl];rfl
     refine rL ?_;refine eS 0 22 1 ?_;simp only[dA,dC,dD];iterate 22 refine qE ?_
     refine aT ?_;refine eE fun W=>?_;have G:=aq.on W.hb;have be:=a3.trans (W.hb.mono (by have:=a3.size;omega));have bf:=b0.below W.hb;have ar:=aG W.hb a4;have Y:=G.rs.cell X;have ap:=G.rs.free i;unfold vK at Y;obtain⟨w7,ac⟩:=eX (W.w.setCell ⟨U,i,none⟩ (.bool sk));have bg:=q_ (ac▸G.setS i sk);have bh:Hid (Below N w0 w7):=q_ (ac▸be.setCell (p:=⟨U,i,none⟩) G.b3 _);have cd:Hid (dV 3 bL w7 N (.slice (some ⟨kb,ko,none⟩) K.length ck) K):=q_ (ac▸gK bf G.rs (by decide) i _);have au:w7.heap[w1.heap.size]?=some (.cells #[.string (str nm),.int .i64 kd,.int .i64 ab,.int .i64 wt,.bool a.v6,.int .u64 (a.hi:Int),.int .u64 (a.lo:Int)] 93 (0,0)):=by
      rw[<-ac];refine(cLa _ _ _ _ fun e=>?_).trans ar;have Z:=G.rs;unfold dX at Z;rw[show(⟨U,i,none⟩:Addr).block=U from rfl]at e;rw[<-e,ar]at Z;injection(bFa Z)with _ h10 _
      exact absurd h10 (by decide)
     clear lc ca cc aq a3 b0 a4 G be bf ar X;replace au:=q_ au;refine tM 22 rfl ?_;refine tD ?_;clear Y ap ac;go_wp2_with fail
     exact⟨⟨j+1,by omega,by first|rfl|go_num,by rw[ad.out];exact bg,bh,cd,au,by rw[ad.out];exact bz⟩,by simp only[intOf];omega⟩
   .have dp:j=K.length:=by omega
    subst dp;rw[fDa]at A I;obtain⟨⟨J,O⟩,hP⟩:∃P,K.foldl (zZ i) p=P:=⟨_,rfl⟩
    rw[hP]at A I;have hR2':=an.out;rw[hP]at hR2';unfold fixW at hR2';dsimp only at hR2' I;have bb:=A.lw;have bc:=A.ls;dsimp only at bb bc;have ag:J[i]?=some J[i]:=aXa (by omega);have X:O[i]?=some O[i]:=aXa (by omega);obtain⟨wi,bk⟩:∃v,J[i]=v:=⟨_,rfl⟩
    obtain⟨si,bm⟩:∃v,O[i]=v:=⟨_,rfl⟩
    rw[bk]at ag;rw[bm]at X;rw[aGv X]at hR2';have i1:(i:Int)<(ns.length:Int):=by omega
    have dq:=aA A.blk;have dr:=aA ao;have c1:=A.rs.cell X;unfold vK at c1;clear bk bm bc bb hP an b7 a2;by_cases aw:0<wt
    .have ds:decide (0<wt)=true:=bYa aw
     cases si
     case false =>
      rw[bAa (by rintro⟨_,h⟩;cases h)]at hR2';subst hR2';clear aw;replace ⟨A,E,I⟩:=q_3 A E I;go_wp2_with fail
      first|go_end0|refine aYa (gJa rfl _ _ _) rfl ?_|(simp only[Exit.inBlock,Exit.then];refine aYa (gJa rfl _ _ _) rfl ?_)
      exact⟨rfl,A,E,I⟩
     case true =>
      rw[bBa ⟨aw,rfl⟩]at hR2';have dt:IntKind.u64.wrap wt=((wt.toNat:Nat):Int):=by rw[cTa];omega
      obtain⟨wn,dc⟩:∃v,wt.toNat=v:=⟨_,rfl⟩
      rw[dc]at dt hR2';subst hR2';have du:wn<18446744073709551616:=by omega
      have ce:∀u∈J.set i wn,u<18446744073709551616:=fun u hu=>by
       rcases fUa hu with hu|rfl
       .exact I u hu
       .exact du
      have lc:=fun l:Later wr=>aA (aG l.hb A.blk)
      have ln:=fun l:Later wr=>aA (aG l.hb ao)
      clear dc aw I ao;replace ⟨A,E,ce⟩:=q_3 A E ce;go_upto_region 9 with fail
      clear dq dr c1;refine rL ?_;refine eS 0 9 1 ?_;simp only[dA,dC,dD];iterate 9 refine qE ?_
      refine aT ?_;refine eE fun l2=>?_;have L:=A.on l2.hb;have bd:=E.trans (l2.hb.mono (by have:=E.size;omega));have Y:=L.rw.cell ag;have ap:=L.rw.free i;unfold cK at Y;obtain⟨w5,ah⟩:=eX (l2.w.setCell ⟨gw,i,none⟩ (.int .u64 (wn:Int)));have bg:=q_ (ah▸L.setW i wn);have bh:Hid (Below N w0 w5):=q_ (ah▸bd.setCell (p:=⟨gw,i,none⟩) L.b2 _);clear lc ln A E L bd ag;refine tM 9 rfl ?_;refine tD ?_;clear Y ap ah
      first|go_end0|refine aYa (gJa rfl _ _ _) rfl ?_|(simp only[Exit.inBlock,Exit.then];refine aYa (gJa rfl _ _ _) rfl ?_)
      exact⟨rfl,bg,bh,ce⟩
    .have ds:decide (0<wt)=false:=bWa aw;rw[bAa (by rintro⟨h,_⟩;exact aw h)]at hR2';subst hR2';clear aw;replace ⟨A,E,I⟩:=q_3 A E I;go_wp2_with fail
     first|go_end0|refine aYa (gJa rfl _ _ _) rfl ?_|(simp only[Exit.inBlock,Exit.then];refine aYa (gJa rfl _ _ _) rfl ?_)
     exact⟨rfl,A,E,I⟩
section
section
variable {w w':World} {base s x gw gs n:Nat} {p:List Nat×List Bool} {hv hv':Value} {H:List Int}
theorem aFy{xs:List Value}{cs:Array Value}(E:w.ownsRow base e sz v m xs)(j:w.heap[g]?=some (.cells cs T (0,0)))(G:T≠e)(I:w.grownBy w' v.ownBlock):w'.heap[g]?=some (.cells cs T (0,0)):=by
 refine(I.block g (aL j) ?_).trans j;rcases kU E j G with A|A
 .rw[A];intro e;cases e
 .intro e;exact A e.symm
theorem jY.push(h:jY w base s x gw gs n p hv H){k:Int}(E:w'.ownsRow base 3 1 hv' (H.length+1) (H.map bL++[bL k]))(j:fA w hv w' hv') :
 w'.heap[s]?=some (.cells #[.pointer (some ⟨x,0,none⟩),.slice (some ⟨gw,0,none⟩) n n,.slice (some ⟨gs,0,none⟩) n n,hv] 153 (0,0))/\jY (w'.setCell ⟨s,3,none⟩ hv') base s x gw gs n p hv' (H++[k]):=by
 have A:=aFy h.hosts h.blk (by decide) j.grown;have G:=aFy h.hosts h.rw (by decide) j.grown;have I:=aFy h.hosts h.rs (by decide) j.grown;refine⟨A,(bP A 3 hv').trans rfl,(cLa _ _ _ gw (fVa h.n1)).trans G,(cLa _ _ _ gs (fVa h.n2)).trans I,?_,h.lw,h.ls,h.b1,h.b2,h.b3,h.n1,h.n2,h.n3⟩;have J:=gK E A (by decide) 3 hv';unfold dV;rw[bHa,cWa];exact J
end
def gW (ns:List Nd) (hs:List Int) (q:(List Nat×List Bool)×List Int) (h:Int):(List Nat×List Bool)×List Int :=
 if h∈hs/\0<(eU ns h).weight then((q.1.1.set h.toNat (eU ns h).weight.toNat,q.1.2.set h.toNat true),q.2++[h])else q
def fT (ns:List Nd) (hs:List Int):(List Nat×List Bool)×List Int:=(fM ns).foldl (gW ns hs) ((List.replicate ns.length 0,List.replicate ns.length false),[])
def aGu (ns:List Nd):Nat->List Nat×List Bool->List Nat×List Bool
 | 0,p=>p
 | j+1,p=>aGu ns j (uP ns j p)
def pG (ns:List Nd) (hs:List Int):List Nat×List Bool:=aGu ns ns.length (fT ns hs).1
theorem aMv{ns:List Nd}{k:Int}(h:k∈fM ns):∃(a:Nat) (n:Nd),k=(a:Int)/\ns[a]?=some n:=by
 unfold fM jA jP at h;obtain⟨a,j,rfl⟩:=List.mem_map.1 h;rw[List.mem_filter]at j;obtain⟨E,A⟩:=j;rcases e:ns[a]? with _|n
 .rw[e]at A
  cases A
 .exact⟨a,n,rfl,e⟩
theorem aA4(ns:List Nd):(fM ns).length<=ns.length:=by
 unfold fM jA jP;rw[bNa];exact bJa (eTa _ _) (by rw[fPa];exact aZa _)
theorem aKa:(prog.info? 25).map (fun i=>(i.zero,i.size,i.bytes))=some (some (cK 0),1,8):=by kernel_rfl
theorem aGy:(prog.info? 4).map (fun i=>(i.zero,i.size,i.bytes))=some (some (vK false),1,1):=by kernel_rfl
theorem yN:(prog.info? 3).map (fun i=>(i.zero,i.size,i.bytes))=some (some (bL 0),1,8):=by kernel_rfl
theorem aMi(A:ByteArray)(E G j:Int)(I:Bool)(J L:Int)(w:World):(Instr.field 93 (.agg #[.string A,.int .i64 E,.int .i64 G,.int .i64 j,.bool I,.int .u64 J,.int .u64 L]) 3).run prog w=.ok (.int .i64 j) w:=by kernel_rfl
theorem apart_lt{a b:Option Nat}(A:∀k,a=some k->k<B)(E:b=none\/∃k,b=some k/\B<=k):a=none\/a≠b:=by
 rcases a with _|k
 .exact .inl rfl
 .refine .inr fun e=>?_;rcases E with h|⟨j,h,G⟩
  .rw[h]at e
   cases e
  .rw[h]at e;injection e with e
   have:=A k rfl;omega
theorem aK0(ns:List Nd)(j:List Int):∀(l:List Int) (q:(List Nat×List Bool)×List Int),(l.foldl (gW ns j) q).2.length<=q.2.length+l.length
 | [],q=>aZa _
 | k :: l,q=>by
  rw[gPa];have A:=aK0 ns j l (gW ns j q k);have E:(gW ns j q k).2.length<=q.2.length+1:=by
   unfold gW;split
   .rw[bHa];exact aZa _
   .omega
  rw[eFa];omega
theorem aB3(ns:List Nd)(hG:GoodT ns)(I:List Int)(A:Option Addr)(nh ch:Nat)(w:World)(bt x:Nat)(hT:dH w bt x ns)(hH:IsR bL w w.heap.size A nh I)(hn:nh<=1099511627776) :
 Cl 19 #[.pointer (some ⟨x,0,none⟩),.slice A nh ch] w fun e w'=>(∃s gw gs hv,e=.returned (.pointer (some ⟨s,0,none⟩))/\jY w' w.heap.size s x gw gs ns.length (pG ns I) hv (fT ns I).2/\(∀v∈(pG ns I).1,v<18446744073709551616))/\Below w.heap.size w w':=by
 have an:∀w',Below w.heap.size w w'->dH w' bt x ns:=fun w' W=>by
  obtain⟨nv,kv,tv,hv,us,hC⟩:=hT;exact⟨nv,kv,tv,hv,us,hC.on W⟩
 have dr:ns.length<=1024:=by
  obtain⟨nv,kv,tv,hv,us,hC⟩:=hT;exact hC.small.1
 have qg:∀(s gw gs:Nat) (j:Nat) (wr:World) (p:List Nat×List Bool) (hv:Value) (H:List Int),j<ns.length->Below w.heap.size w wr->jY wr w.heap.size s x gw gs ns.length p hv H->(∀v∈p.1,v<18446744073709551616)->Cl 55 #[.pointer (some ⟨s,0,none⟩),.int .i64 (j:Int)] wr fun e w'=>e=.returned (.tuple #[])/\jY w' w.heap.size s x gw gs ns.length (uP ns j p) hv H/\Below w.heap.size w w'/\(∀v∈(uP ns j p).1,v<18446744073709551616) :=
  fun s gw gs j wr p hv H h1 h2 h3 h4=>aRq ns hG w bt x hT j h1 dr wr h2 s gw gs p hv H h3 h4
 obtain⟨base,Z⟩:∃b,w.heap.size=b:=⟨_,rfl⟩
 have ql:Hid (∀l:Later w,Cl 52 #[.pointer (some ⟨x,0,none⟩)] l.w fun e w'=>e=.returned (.int .i64 (ns.length:Int))/\Below l.w.heap.size l.w w'):=q_ (fun l=>(rA ns bt x l.w (an l.w l.hb)).mono fun e w' ⟨h1,h2⟩=>⟨h1,by subst h2;exact bLa _ _⟩);obtain⟨N,hN⟩:∃k,ns.length=k:=⟨_,rfl⟩
 rw[hN]at ql dr qg;obtain⟨R,hR⟩:=eX (pG ns I);have a4:Hid (aGu ns N (fT ns I).1=R):=q_ (by rw[<-hR];unfold pG;rw[hN]);rw[hR];clear hR;rw[Z]at qg;have et:=q_ hG.wt;replace ⟨an,hH,hN,Z,qg⟩:=q_5 an hH hN Z qg;go_enter func19,ntmps19;go_upto_region 1 with fail
 refine rL ?_;refine eS 0 3 7 ?_;simp only[dA,dC,dD];iterate 2 refine qE ?_
 (refine aD (fun K G=>?_);go_simp;apply bSa;refine⟨fun l=>?_,G _ ?_⟩;(go_at_call 52;refine(ql l).mono ?_;rintro e w' ⟨rfl,W⟩;exact⟨rfl,W⟩);clear G K)
 refine aT ?_;refine eS 4 2 5 ?_;simp only[dB,dA,dC,dD];refine qE ?_
 (refine aD (fun K G=>?_);go_simp;apply bSa;refine⟨fun l=>?_,G _ ?_⟩;(go_at_call 52;refine(ql l).mono ?_;rintro e w' ⟨rfl,W⟩;exact⟨rfl,W⟩);clear G K)
 refine aT ?_;refine wpE_pair 3 6 (fun v w'=>∃g,v=.slice (some ⟨g,0,none⟩) N N/\dX cK 25 w' g (List.replicate N 0)/\base<=g) (fun v w'=>∃g,v=.slice (some ⟨g,0,none⟩) N N/\dX vK 4 w' g (List.replicate N false)/\base<=g) (fuel:=3) rfl rfl (by as_aux_lemma=>kernel_rfl) (by as_aux_lemma=>kernel_rfl) (by as_aux_lemma=>kernel_rfl) rfl ?_ ?_ ?_ ?_ ?_ ?_ ?_ ?_
 .exact fun u v=>rfl
 .rintro v w1 w2 W ⟨g,rfl,h,hg⟩;exact⟨g,rfl,dX.on h W,hg⟩
 .rintro v w1 w2 W ⟨g,rfl,h,hg⟩;exact⟨g,rfl,dX.on h W,hg⟩
 .intro l K ak;obtain⟨w2,de,ah,ai,df⟩:=mY (f:=cK) (z:=0) underlying114 aKa (by omega) rfl N (by omega) l.w;have cu:=l.hb.size;have cv:=Z.out;go_simp;refine ak _ _ ai ⟨_,rfl,ah,by omega⟩
 .intro l K ak;obtain⟨w2,de,ah,ai,df⟩:=mY (f:=vK) (z:=false) underlying151 aGy (by omega) rfl N (by omega) l.w;have cu:=l.hb.size;have cv:=Z.out;go_simp;refine ak _ _ ai ⟨_,rfl,ah,by omega⟩
 .intro v l K ak;obtain⟨w2,de,ah,ai,df⟩:=mY (f:=cK) (z:=0) underlying114 aKa (by omega) rfl N (by omega) l.w;have cu:=l.hb.size;have cv:=Z.out;go_simp;refine ak _ _ ai ⟨_,rfl,ah,by omega⟩
 .intro v l K ak;obtain⟨w2,de,ah,ai,df⟩:=mY (f:=vK) (z:=false) underlying151 aGy (by omega) rfl N (by omega) l.w;have cu:=l.hb.size;have cv:=Z.out;go_simp;refine ak _ _ ai ⟨_,rfl,ah,by omega⟩
 .rintro u v l ⟨gw,rfl,hw,em⟩ ⟨gs,rfl,bm,en⟩;refine eE fun l2=>?_;have br:=hw.on l2.hb;have bs:=bm.on l2.hb;have bu:Below base w l2.w:=by have:=Z.out;subst this;exact l.hb.trans (l2.hb.mono l.hb.size)
  have ds:gw≠gs:=by
   rintro rfl;unfold dX at hw bm;rw[hw]at bm;injection(bFa bm)with _ h10 _
   exact absurd h10 (by decide)
  clear hw bm;obtain⟨w0,aw⟩:=eX l2.w;rw[aw]at br bs bu ⊢;clear aw;obtain⟨w3,dg⟩:=eX (w0.alloc (.cells #[.pointer (some ⟨x,0,none⟩),.slice (some ⟨gw,0,none⟩) N N,.slice (some ⟨gs,0,none⟩) N N,.slice none 0 0] 153));have bv:Below w0.heap.size w0 w3:=dg▸bC;have dt:=bN dg;have z1:=br.lt;have z2:=bs.lt;have z3:=bu.size;have a5:=Z.out;have ao:jY w3 base w0.heap.size x gw gs N (List.replicate N 0,List.replicate N false) (.slice none 0 0) [] :=
   ⟨dt,br.on bv,bs.on bv,dV.nil _ _,dCa,dCa,by omega,em,en,by omega,by omega,ds⟩
  have a6:=q_ ((tw bu bv));obtain⟨s,ee⟩:=eX w0.heap.size;rw[ee]at ao;clear dt bv br bs bu z1 z2 z3;replace ao:=q_ ao;refine tM 7 rfl ?_;refine tS 8 rfl fun K G=>?_;go_simp;refine G _ _ ?_;clear G K dg ee ds em en;refine tM 9 rfl ?_;refine tD ?_;have qh:=q_ (aJ9 ns bt x w3 (an w3 (by rw[a5];exact a6)));have a7:=q_ (fun k hk=>aMv (ns:=ns) (k:=k) hk);have dv:=aA4 ns;go_wp2_with fail
  refine qh.mono ?_;rintro e w4 ⟨kv,rfl,dl,dm⟩;have ex:=aL ao.blk;have dw:=ao.on dm;have dx:=q_ (a6.trans (dm.mono (by have:=a6.size;omega)));obtain⟨K,G⟩:=eX (fM ns);have bw:fT ns I=K.foldl (gW ns I) ((List.replicate N 0,List.replicate N false),[]):=by
   unfold fT;rw[G,hN.out]
  rw[G]at dl a7 dv;rw[hN.out]at dv;have bx:Hid (dV 3 bL w4 base kv K):=q_ (dV.weaken dl (by have:=a6.size;omega));obtain⟨Ak,ck,fh,f5,f6,ap⟩:=bx.form;subst fh;have cw:Hid (∀k,(Value.slice Ak K.length ck).ownBlock=some k->k<w4.heap.size):=q_ (fun k h=>(dV.lt bx k h).2);obtain⟨B4,a8⟩:∃b,w4.heap.size=b:=⟨_,rfl⟩
  rw[a8]at cw;obtain⟨V,be⟩:∃q:(List Nat×List Bool)×List Int,((List.replicate N 0,List.replicate N false),[])=q:=⟨_,rfl⟩
  have hM4':Hid (jY w4 base s x gw gs N V.1 (.slice none 0 0) V.2):=q_ (by rw[<-be];exact dw);have bz:∀v∈V.1.1,v<18446744073709551616:=by
   rw[<-be];intro v hv;rw[List.mem_replicate]at hv;rw[hv.2]
   decide
  have dy:Hid (V.2.length=0):=q_ (by rw[<-be];rfl);rw[be]at bw;have dz:=q_ (fFa Prod.snd bw);have hRp':=a4.out;rw[bw]at hRp';clear a4;replace a4:=q_ hRp';clear hRp' ao a6 dm dl qh dw G bw be ex;replace ⟨bz,a8,ap,a7⟩:=q_4 bz a8 ap a7;go_wp2_with fail
  go_loopw [7,21] (fun _ iv wr=>∃(j:Nat) (hv:Value),j<=K.length/\iv=.int .i64 (j:Int)/\jY wr base s x gw gs N ((K.take j).foldl (gW ns I) V).1 hv ((K.take j).foldl (gW ns I) V).2/\Below base w wr/\dV 3 bL wr base (.slice Ak K.length ck) K/\(hv.ownBlock=none\/∃k,hv.ownBlock=some k/\B4<=k)/\B4<=wr.heap.size/\(∀v∈((K.take j).foldl (gW ns I) V).1.1,v<18446744073709551616)) (fun _ iv _=>K.length - (intOf iv).toNat)
  case atStart=>exact⟨0,_,by omega,rfl,hM4',dx,bx,.inl rfl,Nat.le_of_eq a8.symm,bz⟩
  case round =>
   obtain⟨j,hv,hj,rfl,J,O,ag,aa,eg,L⟩:=hrel;clear hM4' dx bx ap bz a8;by_cases fr:j<K.length
   .have ft:(j:Int)<(K.length:Int):=by omega
    have fu:=wJ j;obtain⟨A',c',e',-,-,ap⟩:=ag.form
    cases e'
    obtain⟨kb,ko,k,rfl,ga,dh,fi⟩:=ap.at fr;obtain⟨E,nk,rfl,ce⟩:=a7 k (bPa dh);have ey:=(List.getElem?_eq_some_iff.1 ce).1;have fv:E<N:=by rw[<-hN.out];exact ey
    unfold bL at fi;have X:(K.take (j+1)).foldl (gW ns I) V=gW ns I ((K.take j).foldl (gW ns I) V) (E:Int):=by
     rw[dMa,dh,hLa,show(some (E:Int)).toList=[(E:Int)] from rfl,gPa,List.foldl_nil]
    have cx:=aK0 ns I (K.take j) V;rw[dy.out,bGa]at cx;obtain⟨⟨⟨PW,PS⟩,H⟩,hP⟩:∃P,(K.take j).foldl (gW ns I) V=P:=⟨_,rfl⟩
    rw[hP]at J L X cx;dsimp only at J L cx;have cy:eU ns (E:Int)=nk:=by
     unfold eU;rw[bAa (by omega),bMa,bTa,ce]
     rfl
    obtain⟨g1,g2⟩:=et nk (bPa ce);have qn:∀w',Below base w w'->Cl 23 #[.pointer (some ⟨x,0,none⟩),.int .i64 (E:Int)] w' fun e es=>e=.returned (.agg (ndA nk))/\Below w'.heap.size w' es:=fun w' W=>by
     have:=uD ns (E:Int) bt x w' (an w' (by rw[a5];exact W))
     rwa[cy]at this
    have qc:=q_ (aL9 I (E:Int) nh ch A wr (hH.on (by rw[a5];exact O)) hn);have d1:gW ns I ((PW,PS),H) (E:Int)=if decide ((E:Int)∈I)=true/\decide (0<nk.weight)=true then((PW.set E nk.weight.toNat,PS.set E true),H++[(E:Int)])else((PW,PS),H):=by
     unfold gW;rw[cy,bMa];simp only[cBa]
    rw[d1]at X;obtain⟨c,Y⟩:∃c,decide ((E:Int)∈I)=c:=⟨_,rfl⟩
    rw[Y]at qc X;obtain⟨nm,kd,ab,wt,a⟩:=nk;unfold ndA at qn;dsimp only at qn X g1 g2;have ez:=J.lw;have e0:=J.ls;dsimp only at ez e0;clear ap dh ce hP Y d1 cy;replace ⟨J,O,ag,aa,X,L,qn⟩:=q_7 J O ag aa X L qn;go_wp2_with fail
    refine qc.mono ?_;rintro e wr ⟨rfl,rfl⟩
    cases c
    case false =>
     go_wp2_with fail
     have U:=X.out;rw[bAa (by rintro⟨h,_⟩;cases h)]at U;exact⟨⟨j+1,hv,by omega,by first|rfl|go_num,by rw[U];exact J,O,ag,aa,eg,by rw[U];exact L⟩,by simp only[intOf];omega⟩
    case true =>
    go_wp2_with fail
    refine(qn _ O).mono ?_;rintro e w5 ⟨rfl,bn⟩;have cz:=aMi (str nm) kd ab wt a.v6 (a.hi:Int) (a.lo:Int) w5;have ac:=q_ (J.on bn);have b0:=q_ (O.trans (bn.mono (by have:=O.size;omega)));have c0:=q_ (ag.below bn);have e1:=bn.size;clear J O ag bn;by_cases aw:0<wt
    case neg =>
     have c1:decide (0<wt)=false:=bWa aw;go_wp2_with fail
     have U:=X.out;rw[bAa (by rintro⟨_,h⟩;rw[c1]at h;cases h)]at U;exact⟨⟨j+1,hv,by omega,by first|rfl|go_num,by rw[U];exact ac,b0,c0,aa,by omega,by rw[U];exact L⟩,by simp only[intOf];omega⟩
    case pos =>
    have c1:decide (0<wt)=true:=bYa aw;have U:=q_ X;rw[bBa ⟨by trivial,by first|exact c1|trivial⟩]at U;obtain⟨wn,ek⟩:∃v,wt.toNat=v:=⟨_,rfl⟩
    have e2:wn<18446744073709551616:=by omega
    have fw:IntKind.u64.wrap wt=((wn:Nat):Int):=by rw[cTa];omega
    rw[ek]at U;clear X aw ek;obtain⟨Ah,cH,fn,-,-,-⟩:=bE ac.hosts;subst fn;have e3:=aA ac.blk;have c2:base<=w5.heap.size:=by have:=b0.size;omega
    go_upto_region 6 with fail
    apply aWa;iterate 7 refine pS ?_
    refine rM (T:=3) dRa yN rfl (by decide) (by decide) rfl (.tmp 39) (.tmp 41) rfl base (.slice Ah H.length cH) H.length (H.map bL) [.int .i64 (E:Int)] rfl rfl ac.hosts rfl (by intro u hu;rw[dZa]at hu;subst hu;rfl) c2 (by omega) fun v6 w6 q1 q2=>?_;obtain⟨A6,c6,fo,-,-,-⟩:=bE q1;subst fo;obtain⟨cg,ar⟩:=ac.push (k:=(E:Int)) q1 q2;have d2:=b0.trans (bV q2.grown c2 (fun k hk=>(cYa ac.hosts k hk).1));have d3:dV 3 bL w6 base (.slice (some ⟨kb,ko,none⟩) K.length ck) K:=c0.kept q2.grown (apart_lt cw aa);have b4:Hid (Below base w (w6.setCell ⟨s,3,none⟩ (.slice A6 (H.length+1) c6))):=q_ (d2.setCell (p:=⟨s,3,none⟩) ac.b1 _);have c3:Hid (dV 3 bL (w6.setCell ⟨s,3,none⟩ (.slice A6 (H.length+1) c6)) base (.slice (some ⟨kb,ko,none⟩) K.length ck) K):=q_ (gK d3 cg (by decide) 3 _);have e4:Hid ((Value.slice A6 (H.length+1) c6).ownBlock=none\/∃k,(Value.slice A6 (H.length+1) c6).ownBlock=some k/\B4<=k):=q_ (aKg q2 aa (by omega));have Y:=aA cg 3;have a9:=bD cg 3;have e5:=q2.grown.size;clear q1 q2 d2 cg d3 ac b0 c0 aa e3 c2;obtain⟨w7,di⟩:∃w7,w6.setCell ⟨s,3,none⟩ (.slice A6 (H.length+1) c6)=w7:=⟨_,rfl⟩
    have fx:B4<=w7.heap.size:=by rw[<-di,World.size_setCell];omega
    rw[di]at ar b4 c3;replace ar:=q_ ar;iterate 3 refine pS ?_
    refine bCa ?_;go_simp;clear Y a9 di e1 e5 cz;have i2:(E:Int)<(N:Int):=by omega
    have d4:PW[E]?=some PW[E]:=aXa (by omega);have d5:PS[E]?=some PS[E]:=aXa (by omega);go_upto_region 7 with fail
    refine sV [18] (aV w7.heap.size (fun k=>k=gw)) (by as_aux_lemma=>kernel_rfl) ?_;intro w9 bo;have b5:=q_ (ar.on bo);have b6:=q_ (b4.trans (bo.mono (by have:=b4.size;omega)));have d6:=q_ (c3.below bo);have e6:=bo.size;have e7:=aL ar.blk;have lc:=fun l:bU (aV w7.heap.size (fun k=>k=gw)) w9=>aA ((l.hk.block s e7 b5.n1).trans b5.blk)
    clear ar b4 c3 bo;refine wC [18] (aV w7.heap.size (fun k=>k=gw)) 0 12 (fuel:=7) (by as_aux_lemma=>kernel_rfl) (fun d _ _ _ _ h=>by cases d<;>exact h) (by as_aux_lemma=>kernel_rfl) (by as_aux_lemma=>kernel_rfl) (by as_aux_lemma=>kernel_rfl) ?_;simp only[dA,dC,dD];iterate 12 refine qX ?_
    refine aN ?_;clear lc;refine wT 12 rfl fun K G=>?_;go_simp;go_at_call 23;refine(qn _ b6).mono ?_;rintro e dn ⟨rfl,a0⟩;refine G _ _ (gD (bT a0 e6)) ?_;clear G K;have cz:=aMi (str nm) kd ab wt a.v6 (a.hi:Int) (a.lo:Int) dn;have au:=b5.on a0;have d7:=b6.trans (a0.mono (by have:=b6.size;omega));have d8:=d6.below a0;have fz:=a0.size;clear b5 b6 d6 a0;refine wT 13 rfl fun K G=>?_;go_simp;refine G _ _ (gD (cB.refl _)) ?_;clear G K;clear cz;refine wT 14 rfl fun K G=>?_;go_simp;refine G _ _ (gD (cB.refl _)) ?_;clear G K;refine wT 15 rfl fun K G=>?_;go_simp;refine G _ _ (gD (cB.refl _)) ?_;clear G K;have Y:=au.rw.cell d4;have a9:=au.rw.free E;unfold cK at Y;obtain⟨bj,bk⟩:=eX (dn.setCell ⟨gw,E,none⟩ (.int .u64 (wn:Int)));have av:=q_ (bk▸au.setW E wn);have d9:Hid (Below base w bj):=q_ (bk▸d7.setCell (p:=⟨gw,E,none⟩) au.b2 _);have ea:Hid (dV 3 bL bj base (.slice (some ⟨kb,ko,none⟩) K.length ck) K):=q_ (bk▸gK d8 au.rw (by decide) E _);have c4:Hid (aV w7.heap.size (fun k=>k=gw) dn bj):=q_ (bk▸uA (P:=fun k=>k=gw) (gQ _ _ _) (p:=⟨gw,E,none⟩) rfl _);have f0:=c4.size;clear au d7 d8 d4;refine wT 16 rfl fun K G=>?_;go_simp;refine G _ _ (gD c4) ?_;clear G K Y a9 bk c4;refine wT 17 rfl fun K G=>?_;go_simp;refine G _ _ (gD (cB.refl _)) ?_;clear G K;have Y:=av.rs.cell d5;have a9:=av.rs.free E;unfold vK at Y;obtain⟨dj,bl⟩:=eX (bj.setCell ⟨gs,E,none⟩ (.bool true));have e9:=q_ (bl▸av.setS E true);have fa:Hid (Below base w dj):=q_ (bl▸d9.setCell (p:=⟨gs,E,none⟩) av.b3 _);have fb:Hid (dV 3 bL dj base (.slice (some ⟨kb,ko,none⟩) K.length ck) K):=q_ (bl▸gK ea av.rs (by decide) E _);have f1:dj.heap.size=bj.heap.size:=by rw[<-bl,World.size_setCell]
    clear av d9 ea d5;refine wT 18 rfl fun K G=>?_;go_simp;refine G _ _ (zT (by as_aux_lemma=>kernel_rfl)) ?_;clear G K Y a9 bl;refine xX (by as_aux_lemma=>kernel_rfl) ?_ _;have c5:∀u∈PW.set E wn,u<18446744073709551616:=fun u hu=>by
     rcases fUa hu with hu|rfl
     .exact L u hu
     .exact e2
    replace c5:=q_ c5;go_wp2_with fail
    exact⟨⟨j+1,_,by omega,by first|rfl|go_num,by rw[U.out];exact e9,fa,fb,e4,by omega,by rw[U.out];exact c5⟩,by simp only[intOf];omega⟩
   .have fc:j=K.length:=by omega
    subst fc;rw[fDa]at J L;have f2:w.heap.size=base:=a5;have c7:=q_ ((rA ns bt x wr (an wr (by rw[a5];exact O))));rw[hN.out]at c7;obtain⟨⟨p1,H⟩,hP⟩:∃P,K.foldl (gW ns I) V=P:=⟨_,rfl⟩
    have b7:=q_ a4;have c8:=q_ dz;rw[hP]at J L b7 c8;dsimp only at J L b7 c8;have f3:IntKind.i64.wrap ((N:Int) - 1)=(N:Int) - 1:=by rw[fEa];omega
    clear ag aa a4 hP a7 dy cw eg dz;replace ⟨J,O,L⟩:=q_3 J O L;go_wp2_with fail
    refine c7.mono ?_;rintro e wr ⟨rfl,rfl⟩;go_wp2_with fail
    clear c7;go_loopw [8] (fun iv wx=>∃(m:Nat) (y:Int) (p:List Nat×List Bool),m<=N/\iv=.int .i64 y/\y=(m:Int) - 1/\jY wx base s x gw gs N p hv H/\Below base w wx/\aGu ns m p=R/\(∀v∈p.1,v<18446744073709551616)) (fun iv _=>(intOf iv+1).toNat)
    case atStart=>exact⟨N,_,_,aZa _,rfl,rfl,J,O,b7,L⟩
    case round =>
     obtain⟨m,y,p,hm,rfl,hy,ba,bb,ci,bc⟩:=hrel;clear J O b7 L;rcases m with _|m
     .have fd:¬ 0<=y:=by omega
      have fe:p=R:=ci;subst fe;clear ci hy;replace ⟨ba,bb,bc⟩:=q_3 ba bb bc;go_wp2_with fail
      go_ret;exact⟨⟨s,rfl,⟨gw,gs,hv,by rw[hN.out,c8.out];exact ba⟩,bc⟩,bb⟩
     .have fd:0<=y:=by omega
      obtain rfl:(m:Int)=y:=by omega
      have qx:=q_ (qg s gw gs m wr p hv H (by omega) bb ba bc);have fg:Hid (aGu ns m (uP ns m p)=R):=q_ (ci);have f4:IntKind.i64.wrap ((m:Int) - 1)=(m:Int) - 1:=by rw[fEa];omega
      clear ba bb bc ci hy;go_wp2_with fail
      refine qx.mono ?_;rintro e gd ⟨rfl,c9,da,db⟩;replace ⟨c9,da,db⟩:=q_3 c9 da db;go_wp2_with fail
      exact⟨⟨m,_,_,by omega,rfl,rfl,c9,da,fg,db⟩,by simp only[intOf];omega⟩
end
structure fH (w:World) (s x:Nat) (ns:List Nd) (p:List Nat×List Bool) (H:List Int):Prop where
 tree:∃bt,dH w bt x ns
 set:∃base gw gs hv,jY w base s x gw gs ns.length p hv H
 bound:∀v∈p.1,v<18446744073709551616
theorem fH.on{w:World}{x:Nat}{ns:List Nd}(h:fH w s x ns p H)(j:Below w.heap.size w w'):fH w' s x ns p H:=by
 obtain⟨⟨A,E,G,I,J,L,N⟩,⟨O,U,V,W,X⟩,Y⟩:=h;exact⟨⟨A,E,G,I,J,L,N.on j⟩,⟨O,U,V,W,X.on j⟩,Y⟩
theorem sH(s x:Nat)(w:World)(j:w.cell? ⟨s,0,none⟩=some (.pointer (some ⟨x,0,none⟩))):Cl 143 #[.pointer (some ⟨s,0,none⟩)] w fun e w'=>e=.returned (.bool false)/\w'=w:=by
 go_enter func143,ntmps143;go_wp2_with fail
 go_ret;exact⟨rfl,rfl⟩
def vV (n:Nat) (p:List Nat×List Bool) (i:Int):Bool:=decide (0<=i) && decide (i<(n:Int)) && p.2.getD i.toNat false
def xV (n:Nat) (p:List Nat×List Bool) (i:Int):Nat:=if 0<=i/\i<(n:Int)then p.1.getD i.toNat 0 else 0
theorem aE0(ns:List Nd)(p:List Nat×List Bool)(H:List Int)(s x:Nat)(i:Int)(w:World)(O:fH w s x ns p H) :
 Cl 163 #[.pointer (some ⟨s,0,none⟩),.int .i64 i] w fun e w'=>e=.returned (.bool (vV ns.length p i))/\w'=w:=by
 obtain⟨-,⟨U,V,W,X,A⟩,-⟩:=O;have c:=aA A.blk;have j:=sH s x w (c 0);have E:=A.ls;unfold vV;obtain⟨N,hN⟩:∃k,ns.length=k:=⟨_,rfl⟩
 rw[hN]at c E ⊢;by_cases J:0<=i
 .obtain⟨k,rfl⟩:∃k:Nat,i=(k:Int):=⟨i.toNat,by omega⟩
  rw[bMa];by_cases L:(k:Int)<(N:Int)
  .have G:p.2[k]?=some p.2[k]:=aXa (by omega);have cs:=A.rs.cell G;rw[aGv G];obtain⟨b,I⟩:=eX (p.2[k]);rw[I]at cs ⊢;unfold vK at cs;have e:(decide (0<=(k:Int)) && decide ((k:Int)<(N:Int)) && b)=b:=by rw[bYa J,bYa L];rfl
   rw[e];clear e G I A E;replace j:=q_ j;go_enter func163,ntmps163;go_wp2_with fail
   refine j.mono ?_;rintro e w ⟨rfl,rfl⟩;go_wp2_with fail
   go_ret;exact⟨rfl,rfl⟩
  .have e:(decide (0<=(k:Int)) && decide ((k:Int)<(N:Int)) && p.2.getD k false)=false:=by rw[bWa L];simp
   rw[e];clear e A E;replace j:=q_ j;go_enter func163,ntmps163;go_wp2_with fail
   refine j.mono ?_;rintro e w ⟨rfl,rfl⟩;go_wp2_with fail
   go_ret;exact⟨rfl,rfl⟩
 .have e:(decide (0<=i) && decide (i<(N:Int)) && p.2.getD i.toNat false)=false:=by rw[bWa J];simp
  rw[e];clear e A E;replace j:=q_ j;go_enter func163,ntmps163;go_wp2_with fail
  refine j.mono ?_;rintro e w ⟨rfl,rfl⟩;go_wp2_with fail
  go_ret;exact⟨rfl,rfl⟩
theorem aSv(ns:List Nd)(p:List Nat×List Bool)(H:List Int)(s x:Nat)(i:Int)(w:World)(O:fH w s x ns p H) :
 Cl 173 #[.pointer (some ⟨s,0,none⟩),.int .i64 i] w fun e w'=>e=.returned (.int .u64 ((xV ns.length p i:Nat):Int))/\w'=w:=by
 obtain⟨-,⟨V,W,X,Y,A⟩,-⟩:=O;have c:=aA A.blk;have j:=sH s x w (c 0);have E:=A.lw;unfold xV;obtain⟨N,hN⟩:∃k,ns.length=k:=⟨_,rfl⟩
 rw[hN]at c E ⊢;by_cases I:0<=i
 .obtain⟨k,rfl⟩:∃k:Nat,i=(k:Int):=⟨i.toNat,by omega⟩
  have h0':¬ (k:Int)<0:=by omega
  rw[bMa];by_cases L:(k:Int)<(N:Int)
  .have G:p.1[k]?=some p.1[k]:=aXa (by omega);have cs:=A.rw.cell G;rw[aGw G,bBa ⟨I,L⟩];obtain⟨b,J⟩:=eX (p.1[k]);rw[J]at cs ⊢;unfold cK at cs;have U:¬ (N:Int)<=(k:Int):=by omega
   clear G J A E;replace j:=q_ j;go_enter func173,ntmps173;go_wp2_with fail
   refine j.mono ?_;rintro e w ⟨rfl,rfl⟩;go_wp2_with fail
   go_ret;exact⟨rfl,rfl⟩
  .rw[bAa (fun h=>L h.2)];have U:(N:Int)<=(k:Int):=by omega
   clear A E;replace j:=q_ j;go_enter func173,ntmps173;go_wp2_with fail
   refine j.mono ?_;rintro e w ⟨rfl,rfl⟩;go_wp2_with fail
   go_ret;exact⟨rfl,rfl⟩
 .rw[bAa (fun h=>I h.1)];have h0':i<0:=by omega
  clear A E;replace j:=q_ j;go_enter func173,ntmps173;go_wp2_with fail
  refine j.mono ?_;rintro e w ⟨rfl,rfl⟩;go_wp2_with fail
  go_ret;exact⟨rfl,rfl⟩
structure nD (ns:List Nd):Prop where
 good:GoodT ns
 kind:∀(i:Nat) (n:Nd),ns[i]?=some n->(n.kind=1/\n.above=-1)\/(2<=n.kind/\n.kind<=4/\∃(a:Nat) (m:Nd),n.above=(a:Int)/\a<i/\ns[a]?=some m/\m.kind=n.kind - 1)
 tops:(dM ns).length<=4
theorem aHm{l:List Nd}:∀{k:Nat},qD l k=none->∀(i:Nat) (n:Nd),i<k->l[i]?=some n->xJ n (l.take i)=0
 | 0,_,i,n,hi,_=>absurd hi (gDa _)
 | k+1,h,i,n,hi,hn=>by
  rw[qD]at h;rcases e:qD l k with _|p
  .rw[e]at h;rcases eMa i k with j|j
   .exact aHm e i n j hn
   .obtain rfl:i=k:=by omega
    rw[hn]at h;dsimp only at h;by_cases A:xJ n (l.take i)=0
    .exact A
    .rw[bBa A]at h
     cases h
  .rw[e]at h
   cases h
theorem aNt{n:Nd}{l:List Nd}(h:sJ n l=0):1<=n.kind/\n.kind<=4/\0<=n.weight/\n.weight<=65535/\(n.kind=1->n.above=-1)/\(1<n.kind->0<=n.above/\n.above<(l.length:Int)/\(l.getD n.above.toNat n).kind=n.kind - 1):=by
 unfold sJ at h;split at h
 .cases h
 .rename_i I;split at h
  .cases h
  .rename_i J;split at h
   .cases h
   .rename_i E;split at h
    .cases h
    .rename_i G;refine⟨by omega,by omega,by omega,by omega,fun j=>?_,fun j=>⟨by omega,by omega,?_⟩⟩
     .exact gMa fun A=>E (.inl ⟨j,A⟩)
     .exact gMa fun A=>G ⟨j,A⟩
theorem aL3{n:Nd}{l:List Nd}(h:xJ n l=0):sJ n l=0/\¬ (n.kind=1/\4<=(dM l).length):=by
 unfold xJ at h;split at h
 .rename_i j;exact absurd h j
 .rename_i j;split at h
  .cases h
  .rename_i E;exact⟨gMa j,fun A=>E (.inr (.inl A))⟩
theorem good_of{ns:List Nd}(h:zN ns=none):nD ns:=by
 have E:=fun i n j=>aHm h i n (List.getElem?_eq_some_iff.1 j).1 j
 have I:∀(i:Nat) (n:Nd),ns[i]?=some n->(n.kind=1/\n.above=-1)\/(2<=n.kind/\n.kind<=4/\∃(a:Nat) (m:Nd),n.above=(a:Int)/\a<i/\ns[a]?=some m/\m.kind=n.kind - 1):=by
  intro i n j;obtain⟨r1,Y,-,-,Z,r6⟩:=aNt (aL3 (E i n j)).1;by_cases A:n.kind=1
  .exact .inl ⟨A,Z A⟩
  .obtain⟨s1,s2,N⟩:=r6 (by omega);have hl:=(List.getElem?_eq_some_iff.1 j).1;rw[bGa]at s2;have J:n.above.toNat<i:=by omega
   have e:ns[n.above.toNat]?=some ns[n.above.toNat]:=aXa (by omega);refine .inr ⟨by omega,Y,n.above.toNat,_,by omega,J,e,?_⟩;rw[bTa,dKa J,e]at N;exact N
 refine⟨⟨fun i n j=>?_,fun n j=>?_⟩,I,?_⟩
 .rcases I i n j with⟨_,G⟩|⟨_,_,a,_,G,L,_⟩<;>omega
 .obtain⟨i,O⟩:=List.mem_iff_getElem?.1 j;obtain⟨-,-,r3,r4,-,-⟩:=aNt (aL3 (E i n O)).1;exact⟨r3,r4⟩
 .have V:∀i,i<=ns.length->(dM (ns.take i)).length<=4:=by
   intro i
   induction i with
   | zero=>intro _;rw[dVa];decide
   | succ i ih =>
    intro O;have e:ns[i]?=some ns[i]:=aXa (by omega);have A:=ih (by omega);rw[dMa,e,show(some ns[i]).toList=[ns[i]] from rfl];unfold dM;rw[wS];split
    .rename_i G;have L:=(aL3 (E i _ e)).2;have W:=cHa G;rw[bHa,cZa];have X:¬ 4<=(dM (ns.take i)).length:=fun U=>L ⟨W,U⟩
     unfold dM at X;omega
    .exact A
  have:=V ns.length (aZa _)
  rwa[fDa]at this
theorem mem_places{q:Nd->Bool}{ns:List Nd}{n:Nd}(j:ns[i]?=some n)(A:q n=true):(i:Int)∈jA q ns:=by
 unfold jA jP;refine List.mem_map.2 ⟨i,List.mem_filter.2 ⟨List.mem_range.2 (List.getElem?_eq_some_iff.1 j).1,?_⟩,rfl⟩;rw[j];exact A
theorem up_top{ns:List Nd}(h:nD ns):∀(k i:Nat) (n:Nd),i<k->ns[i]?=some n->∃a:Nat,upAt ns 1 k (i:Int)=(a:Int)/\(a:Int)∈dM ns
 | 0,i,n,hi,_=>absurd hi (gDa _)
 | k+1,i,n,hi,hn=>by
  have G:=(List.getElem?_eq_some_iff.1 hn).1;rw[upAt,bBa ⟨by omega,by omega⟩,bMa,hn];dsimp only;rcases h.kind i n hn with⟨j,-⟩|⟨j,-,a,m,A,I,E,J⟩
  .rw[bBa j];exact⟨i,rfl,mem_places hn (bYa j)⟩
  .rw[bAa (by omega),A];exact up_top h k a m (by omega) E
theorem idx_lt{x:Int}(h:x∈l):∃k:Nat,xN l x=(k:Int)/\k<l.length:=by
 have j:=(aMy (l:=l) (x:=x)).2 h;unfold xN at j ⊢;rcases e:l.findIdx? (fun y=>decide (x=y))with _|k
 .rw[e]at j;exact absurd j (by decide)
 .exact⟨k,rfl,(List.findIdx?_eq_some_iff_getElem.1 e).1⟩
theorem lev_in{ns:List Nd}(h:nD ns){n:Nd}(j:ns[i]?=some n):∃k:Nat,levF ns (i:Int)=(k:Int)/\k<(dM ns).length:=by
 obtain⟨a,A,E⟩:=up_top h ns.length i n (List.getElem?_eq_some_iff.1 j).1 j;unfold levF upF;rw[A,bAa (by omega)];exact idx_lt E
theorem intv_one(x:Int):(bL x).oneCell'=true:=rfl
theorem list_any(ns:List Nd)(p:List Nat×List Bool)(H:List Int)(W:H.length<=1099511627776)(s x:Nat)(w:World)(L:fH w s x ns p H) :
 Cl 145 #[.pointer (some ⟨s,0,none⟩)] w fun e w'=>∃v,e=.returned v/\dV 3 bL w' w.heap.size v H/\Below w.heap.size w w':=by
 obtain⟨-,⟨Z,gw,gs,hv,G⟩,-⟩:=L;have c:=aA G.blk;have N:=q_ (sH s x w (c 0));have J:=G.hosts;obtain⟨A,U,V,-,-,E⟩:=J.form;subst V;clear G J;replace E:=q_ E;go_enter func145,ntmps145;go_wp2_with fail
 refine N.mono ?_;rintro e w ⟨rfl,rfl⟩;go_upto_region 3 with fail
 apply aWa;iterate 4 refine pS ?_
 refine aEp dRa yN rfl (by omega) intv_one rfl (.const (.slice none 0 0)) (.tmp 8) rfl w.heap.size (.slice none 0 0) [] H A H.length U w.heap.size rfl rfl (dV.nil _ _) E (aZa _) (by simp;omega) fun X Y j I=>?_;have O:=q_ (I.aAa (dV.nil (e:=3) (f:=bL) w w.heap.size) (aZa _));clear I;replace j:=q_ j;refine pS ?_;refine bCa ?_;go_simp;go_wp2_with fail
 go_ret;exact⟨_,rfl,j,O⟩
def mV (ns:List Nd) (p:List Nat×List Bool) (q:List Nat×List Nat) (h:Int):List Nat×List Nat :=
 (if p.2.getD h.toNat false=true then q.1.set (levF ns h).toNat (q.1.getD (levF ns h).toNat 0+1)else q.1,q.2.set (levF ns h).toNat (q.2.getD (levF ns h).toNat 0+1))
def jN (ns:List Nd) (p:List Nat×List Bool):List Nat×List Nat:=(fM ns).foldl (mV ns p) (List.replicate (dM ns).length 0,List.replicate (dM ns).length 0)
structure CntI (L m:Nat) (q:List Nat×List Nat):Prop where
 l1:q.1.length=L
 l2:q.2.length=L
 le:∀(i x y:Nat),q.1[i]?=some x->q.2[i]?=some y->x<=y/\y<=m
theorem CntI.step{L:Nat}{q:List Nat×List Nat}(h:CntI L m q)(ns:List Nd)(p:List Nat×List Bool)(k:Int):CntI L (m+1) (mV ns p q k):=by
 unfold mV;obtain⟨j,W⟩:=eX ((levF ns k).toNat);rw[W];refine⟨?_,by rw[cFa];exact h.l2,fun i x y A E=>?_⟩
 .dsimp only;split
  .rw[cFa];exact h.l1
  .exact h.l1
 .dsimp only at A E;have X:=h.l1;have Y:=h.l2;by_cases J:i=j
  .subst J;obtain⟨O,I⟩:=List.getElem?_eq_some_iff.1 E;rw[cFa]at O;rw[List.getElem_set_self]at I;have N:q.2[i]?=some q.2[i]:=aXa O;have G:q.1[i]?=some q.1[i]:=aXa (by omega);obtain⟨Z,r2⟩:=h.le i _ _ G N;rw[bTa,N]at I;simp only[hQa]at I;split at A
   .obtain⟨g3,U⟩:=List.getElem?_eq_some_iff.1 A;rw[List.getElem_set_self,bTa,G]at U;simp only[hQa]at U;omega
   .rw[G]at A;injection A with A
    omega
  .rw[cQa (fVa J)]at E;have V:q.1[i]?=some x:=by
    split at A
    .rwa[cQa (fVa J)]at A
    .exact A
   have:=h.le i x y V E;omega
theorem aFs(ns:List Nd)(p:List Nat×List Bool){L:Nat}:∀(l:List Int) {m:Nat} {q:List Nat×List Nat},CntI L m q->CntI L (m+l.length) (l.foldl (mV ns p) q)
 | [],_,_,h=>h
 | k :: l,m,q,h=>by
  rw[gPa,eFa,show m+(l.length+1)=(m+1)+l.length by omega];exact aFs ns p l (h.step ns p k)
theorem aL8(L:Nat):CntI L 0 (List.replicate L 0,List.replicate L 0) :=
 ⟨dCa,dCa,fun i x y j A=>by
  obtain⟨I,E⟩:=List.getElem?_eq_some_iff.1 j;obtain⟨J,G⟩:=List.getElem?_eq_some_iff.1 A;rw[List.getElem_replicate]at E G;omega⟩
theorem aGp(ns:List Nd)(p:List Nat×List Bool):CntI (dM ns).length (fM ns).length (jN ns p):=by
 have:=aFs ns p (fM ns) (aL8 (dM ns).length)
 rwa[dWa]at this
theorem aRn(ns:List Nd)(hG:nD ns)(p:List Nat×List Bool)(H:List Int)(s x:Nat)(w:World)(hS:fH w s x ns p H) :
 Cl 169 #[.pointer (some ⟨s,0,none⟩)] w fun e w'=>(∃I J,e=.returned (.tuple #[.slice (some ⟨I,0,none⟩) (dM ns).length (dM ns).length,.slice (some ⟨J,0,none⟩) (dM ns).length (dM ns).length])/\dX fQ 3 w' I (jN ns p).1/\dX fQ 3 w' J (jN ns p).2/\w.heap.size<=I/\w.heap.size<=J)/\Below w.heap.size w w':=by
 obtain⟨z,hz⟩:=eX w.heap.size;have ea:Hid (∀w',Below z w w'->fH w' s x ns p H):=q_ (fun w' hb=>hS.on (by rw[hz];exact hb));obtain⟨⟨bt,hT⟩,⟨em,gw,gs,hv,hM⟩,-⟩:=hS;have qn:=q_ (sH s x w (aA hM.blk 0));have eb:ns.length<=1024:=by
  obtain⟨nv,kv,tv,hv,us,hC⟩:=hT;exact hC.small.1
 have av:∀w',Below z w w'->dH w' bt x ns:=fun w' hb=>by
  obtain⟨nv,kv,tv,hv,us,hC⟩:=hT;exact⟨nv,kv,tv,hv,us,hC.on (by rw[hz];exact hb)⟩
 have ba:Hid (∀w',Below z w w'->w'.heap[s]?=w.heap[s]?):=q_ (fun w' hb=>hb.block s (by rw[<-hz];exact aL hM.blk));have hM':=q_ hM.blk;have b9:=q_ (fun i n hn=>lev_in hG (i:=i) (n:=n) hn);have cc:=q_ (fun k hk=>aMv (ns:=ns) (k:=k) hk);have dm:=aA4 ns;have dn:=q_ hM.ls;have cd:=q_ hM.rs;have dp:gs<z:=by rw[<-hz];exact cd.lt
 have dq:=hG.tops;have ql:Hid (∀w',Below z w w'->Cl 67 #[.pointer (some ⟨x,0,none⟩)] w' fun e b7=>∃v,e=.returned v/\b7.ownsRow w'.heap.size 3 1 v (dM ns).length ((dM ns).map bL)/\Below w'.heap.size w' b7):=q_ (fun w' hb=>aC0 ns bt x w' (av w' hb));have an:∀j,CntI (dM ns).length (((fM ns).take j).length) (((fM ns).take j).foldl (mV ns p) (List.replicate (dM ns).length 0,List.replicate (dM ns).length 0)):=fun j=>by
  have:=aFs ns p ((fM ns).take j) (aL8 (dM ns).length)
  rwa[dWa]at this
 have aw:Hid (jN ns p=(fM ns).foldl (mV ns p) (List.replicate (dM ns).length 0,List.replicate (dM ns).length 0)):=q_ (rfl);obtain⟨R,hR⟩:=eX (jN ns p);rw[hR]at aw ⊢;obtain⟨L,hL⟩:=eX ((dM ns).length);rw[hL]at an aw ql dq b9 ⊢;rw[hz];clear hR hM;replace ⟨av,an,hL⟩:=q_3 av an hL;go_enter func169,ntmps169;go_wp2_with fail
 refine qn.mono ?_;rintro e w ⟨rfl,rfl⟩;clear qn;go_upto_region 3 with fail
 go_cut [4,5] (fun uh ua wx=>∃I J,uh=.slice (some ⟨I,0,none⟩) L L/\ua=.slice (some ⟨J,0,none⟩) L L/\dX fQ 3 wx I (List.replicate L 0)/\dX fQ 3 wx J (List.replicate L 0)/\z<=I/\z<=J/\I≠J/\Below z w wx)
 case first =>
  refine rX (Below z) ?_;intro X ao;replace ao:Below z w X:=by rw[<-hz];exact ao
  have lc:=fun l:bU (Below z) X=>aA ((ba l.w (ao.trans l.hk)).trans hM')
  have ce:z<=X.heap.size:=by have:=ao.size;omega
  have ab:=ao;refine xS (Below z) 0 4 12 ?_;simp only[dA,dC,dD];iterate 4 refine qX ?_
  refine aN ?_;refine xS (Below z) 7 4 8 ?_;simp only[dB,dA,dC,dD];iterate 4 refine qX ?_
  refine aN ?_;clear lc;refine fS 4 rfl fun K A=>?_;go_simp;go_at_call 67;refine(ql X ab).mono ?_;rintro e w6 ⟨v6,rfl,df,bl⟩;obtain⟨A6,c6,d1,-,-,-⟩:=bE df;subst d1;refine A _ _ (bl.mono ce) ?_;clear A K df;have bq:=ab.trans (bl.mono ce);have ax:z<=w6.heap.size:=by have:=bl.size;omega
  clear ab ao bl;refine xS (Below z) 5 1 6 ?_;simp only[dB,dA,dC,dD];refine qX ?_;refine aN ?_;refine rH 6 11 rfl rfl (by as_aux_lemma=>kernel_rfl) (fun K A=>?_) (fun K A=>?_)
  .obtain⟨V,W,c0,aj,-⟩:=mY (f:=fQ) (z:=0) dRa sP (by omega) rfl L (by omega) w6;go_simp;refine A _ _ (aj.mono ax) ?_;clear A K W;have Y:z<=V.heap.size:=by have:=aj.size;omega
   have ag:=bq.trans (aj.mono ax);refine fS 11 rfl fun K A=>?_;go_simp;go_at_call 67;refine(ql V ag).mono ?_;rintro e w8 ⟨v8,rfl,dg,O⟩;obtain⟨A8,c8,d2,-,-,-⟩:=bE dg;subst d2;refine A _ _ (O.mono Y) ?_;clear A K dg;have ay:=ag.trans (O.mono Y);have U:z<=w8.heap.size:=by have:=O.size;omega
   refine xS (Below z) 12 1 3 ?_;simp only[dB,dA,dC,dD];refine qX ?_;refine aN ?_;refine xS (Below z) 14 1 2 ?_;simp only[dB,dA,dC,dD];refine qX ?_;refine aN ?_;refine fS 13 rfl fun K A=>?_;obtain⟨w9,W,a4,N,-⟩:=mY (f:=fQ) (z:=0) dRa sP (by omega) rfl L (by omega) w8;go_simp;refine A _ _ (N.mono U) ?_;clear A K W;have cg:z<=w9.heap.size:=by have:=N.size;omega
   have az:=ay.trans (N.mono U);refine xM 15 rfl ?_;refine fD ?_;have k1:=c0.lt;have k2:=O.size;go_wp2_with fail
   go_meet;exact⟨_,_,rfl,rfl,(c0.on O).on N,a4,ax,U,by omega,az⟩
  .go_simp;go_at_call 67;refine(ql w6 bq).mono ?_;rintro e V ⟨v7,rfl,dh,aj⟩;obtain⟨A7,c7,d3,-,-,-⟩:=bE dh;subst d3;refine A _ _ (aj.mono ax) ?_;clear A K dh;have ag:=bq.trans (aj.mono ax);have Y:z<=V.heap.size:=by have:=aj.size;omega
   refine xS (Below z) 12 1 4 ?_;simp only[dB,dA,dC,dD];refine qX ?_;refine aN ?_;refine rH 6 13 rfl rfl (by as_aux_lemma=>kernel_rfl) (fun K A=>?_) (fun K A=>?_)
   .obtain⟨w8,W,a5,O,-⟩:=mY (f:=fQ) (z:=0) dRa sP (by omega) rfl L (by omega) V;go_simp;refine A _ _ (O.mono Y) ?_;clear A K W;have U:z<=w8.heap.size:=by have:=O.size;omega
    have ay:=ag.trans (O.mono Y);refine xS (Below z) 14 1 2 ?_;simp only[dB,dA,dC,dD];refine qX ?_;refine aN ?_;refine fS 13 rfl fun K A=>?_;obtain⟨w9,W,a4,N,-⟩:=mY (f:=fQ) (z:=0) dRa sP (by omega) rfl L (by omega) w8;go_simp;refine A _ _ (N.mono U) ?_;clear A K W;have cg:z<=w9.heap.size:=by have:=N.size;omega
    have az:=ay.trans (N.mono U);refine xM 15 rfl ?_;refine fD ?_;have k1:=a5.lt;go_wp2_with fail
    go_meet;exact⟨_,_,rfl,rfl,a5.on N,a4,Y,U,by omega,az⟩
   .obtain⟨w8,W,a5,O,-⟩:=mY (f:=fQ) (z:=0) dRa sP (by omega) rfl L (by omega) V;go_simp;refine A _ _ (O.mono Y) ?_;clear A K W;have U:z<=w8.heap.size:=by have:=O.size;omega
    have ay:=ag.trans (O.mono Y);refine fS 6 rfl fun K A=>?_;obtain⟨w9,W,a4,N,-⟩:=mY (f:=fQ) (z:=0) dRa sP (by omega) rfl L (by omega) w8;go_simp;refine A _ _ (N.mono U) ?_;clear A K W;have cg:z<=w9.heap.size:=by have:=N.size;omega
    have az:=ay.trans (N.mono U);refine xM 14 rfl ?_;refine xM 15 rfl ?_;refine fD ?_;have k1:=a5.lt;go_wp2_with fail
    go_meet;exact⟨_,_,rfl,rfl,a4,a5.on N,U,Y,by omega,az⟩
 case rest =>
 obtain⟨I,J,rfl,rfl,a0,G,zh,za,c3,ah⟩:=hcut;have ch:z<=wc.heap.size:=by have:=ah.size;omega
 have qh:=q_ (aJ9 ns bt x wc (av wc ah));have cj:=a0.lt;have cl:=G.lt;have c:=aA ((ba wc ah).trans hM');replace ⟨a0,G,ah⟩:=q_3 a0 G ah;go_wp2_with fail
 refine qh.mono ?_;rintro e w4 ⟨kv,rfl,a9,bm⟩;have br:=q_ (a0.on bm);have bs:=q_ (G.on bm);have cm:=q_ (ah.trans (bm.mono ch));obtain⟨K,A⟩:=eX (fM ns);rw[A]at a9 cc dm an aw;obtain⟨B4,c4⟩:∃b,wc.heap.size=b:=⟨_,rfl⟩
 rw[c4]at cj cl a9;obtain⟨Ak,ck,d4,eu,ev,bf⟩:=dV.form a9;subst d4;have cn:Hid (dV 3 bL w4 B4 (.slice Ak K.length ck) K):=q_ (a9);obtain⟨q0,bg⟩:∃q:List Nat×List Nat,(List.replicate L 0,List.replicate L 0)=q:=⟨_,rfl⟩
 have co:List.replicate L 0=q0.1:=by rw[<-bg]
 have cp:List.replicate L 0=q0.2:=by rw[<-bg]
 rw[co]at br;rw[cp]at bs;rw[bg]at aw an;have ec:z<=B4:=by omega
 clear qh a0 G ah a9 bm A bg co cp bf c4 ch c;go_wp2_with fail
 go_loopw [7,8,31] (fun _ _ iv wr=>∃j:Nat,j<=K.length/\iv=.int .i64 (j:Int)/\dX fQ 3 wr I ((K.take j).foldl (mV ns p) q0).1/\dX fQ 3 wr J ((K.take j).foldl (mV ns p) q0).2/\Below z w wr/\dV 3 bL wr B4 (.slice Ak K.length ck) K) (fun _ _ iv _=>K.length - (intOf iv).toNat)
 case atStart=>exact⟨0,by omega,rfl,br,bs,cm,cn⟩
 case round =>
  obtain⟨j,hj,rfl,Z,G,ac,a2⟩:=hrel;clear br bs cm cn;by_cases d9:j<K.length
  .have ed:(j:Int)<(K.length:Int):=by omega
   have ee:=wJ j;obtain⟨A',c',e',-,-,bf⟩:=a2.form
   cases e'
   obtain⟨kb,ko,k,rfl,ez,b0,d5⟩:=bf.at d9;obtain⟨kn,nk,rfl,b1⟩:=cc k (bPa b0);have ds:=(List.getElem?_eq_some_iff.1 b1).1;unfold bL at d5;have ai:(K.take (j+1)).foldl (mV ns p) q0=mV ns p ((K.take j).foldl (mV ns p) q0) (kn:Int):=by
    rw[dMa,b0,hLa,show(some (kn:Int)).toList=[(kn:Int)] from rfl,gPa,List.foldl_nil]
   have hI:=an j;rw[bGa]at hI;obtain⟨⟨QH,QA⟩,hQ⟩:∃P,(K.take j).foldl (mV ns p) q0=P:=⟨_,rfl⟩
   rw[hQ]at Z G ai hI;obtain⟨E,b2,e0⟩:=b9 kn nk b1;have qv:=q_ (aF1 ns bt x (kn:Int) wr (av wr ac) hG.good.rise);rw[b2]at qv;have cq:=hI.l1;have cr:=hI.l2;dsimp only at cq cr Z G;obtain⟨u1,e1⟩:∃v,QH[E]?=some v:=⟨_,aXa (by omega)⟩
   obtain⟨u2,e2⟩:∃v,QA[E]?=some v:=⟨_,aXa (by omega)⟩
   have dt:=hI.le E u1 u2 e1 e2;obtain⟨sb,s1⟩:∃v,p.2[kn]?=some v:=⟨_,aXa (by rw[dn.out];exact ds)⟩
   have ct:mV ns p (QH,QA) (kn:Int)=(if sb=true then QH.set E (u1+1)else QH,QA.set E (u2+1)):=by
    unfold mV;rw[bMa,b2,bMa,aGv s1,aGw e1,aGw e2]
   rw[ct]at ai;obtain⟨v1,dd⟩:∃v,u1+1=v:=⟨_,rfl⟩
   obtain⟨v2,de⟩:∃v,u2+1=v:=⟨_,rfl⟩
   have ef:IntKind.i64.wrap ((u1:Int)+1)=(v1:Int):=by rw[wO _];omega
   have eg:IntKind.i64.wrap ((u2:Int)+1)=(v2:Int):=by rw[wO _];omega
   rw[dd,de]at ai;have i1:(E:Int)<(L:Int):=by omega
   have i2:(kn:Int)<(ns.length:Int):=by omega
   have ca:=G.cell e2;have fa:=G.free E;unfold fQ at ca;have cs:=aA ((ba wr ac).trans hM');obtain⟨X,bj⟩:=eX (wr.setCell ⟨J,E,none⟩ (.int .i64 (v2:Int)));have cu:Hid (dX fQ 3 X J (QA.set E v2)):=q_ (bj▸G.set E v2);have a1:Hid (dX fQ 3 X I QH):=q_ (bj▸(cLa _ _ _ I c3).trans Z);have ab:Hid (Below z w X):=q_ (bj▸ac.setCell (p:=⟨J,E,none⟩) za _);have bc:dV 3 bL X B4 (.slice (some ⟨kb,ko,none⟩) K.length ck) K:=by
    obtain⟨w6,h1,h2,h3⟩:=eY G E (.int .i64 (v2:Int));rw[<-bj,h1];exact aNu a2 h3 cl
   have ek:=aA ((ba X ab).trans hM');have dv:=(cd.below ab dp).cell s1;unfold vK at dv;have dw:=a1.cell e1;have el:=a1.free E;unfold fQ at dw;clear e1 e2 s1 b0 hQ bf hI cq cr b2 b1 dt dd de ct;replace ⟨ai,Z,G,ac,a2,bc⟩:=q_6 ai Z G ac a2 bc
   cases sb
   case false =>
    go_wp2_with fail
    refine qv.mono ?_;rintro e wr ⟨rfl,rfl⟩;go_wp2_with fail
    have hf:=ai.out;rw[bAa (by decide)]at hf;exact⟨⟨j+1,by omega,by first|rfl|go_num,by rw[hf];exact a1,by rw[hf];exact cu,ab,bc⟩,by simp only[intOf];omega⟩
   case true =>
    obtain⟨V,bk⟩:=eX (X.setCell ⟨I,E,none⟩ (.int .i64 (v1:Int)));have dx:Hid (dX fQ 3 V I (QH.set E v1)):=q_ (bk▸a1.set E v1);have dy:Hid (dX fQ 3 V J (QA.set E v2)):=q_ (bk▸(cLa _ _ _ J (fVa c3)).trans cu);have ag:Hid (Below z w V):=q_ (bk▸ab.setCell (p:=⟨I,E,none⟩) zh _);have bv:dV 3 bL V B4 (.slice (some ⟨kb,ko,none⟩) K.length ck) K:=by
     obtain⟨w6,h1,h2,h3⟩:=eY a1 E (.int .i64 (v1:Int));rw[<-bk,h1];exact aNu bc h3 cj
    replace bv:=q_ bv;go_wp2_with fail
    refine qv.mono ?_;rintro e wr ⟨rfl,rfl⟩;go_wp2_with fail
    have hf:=ai.out
    first|rw[bBa rfl]at hf|rw[bBa trivial]at hf
    exact⟨⟨j+1,by omega,by first|rfl|go_num,by rw[hf];exact dx,by rw[hf];exact dy,ag,bv⟩,by simp only[intOf];omega⟩
  .have dz:j=K.length:=by omega
   subst dz;rw[fDa,<-aw.out]at Z G;clear a2;replace ⟨Z,G,ac⟩:=q_3 Z G ac;go_wp2_with fail
   refine aYa (v:=.tuple #[.slice (some ⟨I,0,none⟩) L L,.slice (some ⟨J,0,none⟩) L L]) (by simp[results,results169,go_sem]) rfl ?_;exact⟨⟨I,J,rfl,Z,G,zh,za⟩,ac⟩
def outB (ns:List Nd) (h n:Int):Bool:=decide ((eU ns n).kind≠0) && decide (upF ns h (eU ns n).kind=n)
theorem aCs(A:ByteArray)(j E G:Int)(I:Bool)(J L:Int)(w:World):(Instr.field 93 (.agg #[.string A,.int .i64 j,.int .i64 E,.int .i64 G,.bool I,.int .u64 J,.int .u64 L]) 1).run prog w=.ok (.int .i64 j) w:=by kernel_rfl
theorem aS9(ns:List Nd)(hG:nD ns)(p:List Nat×List Bool)(H:List Int)(n h:Int)(Z bh s x:Nat)(w:World)(hS:fH w s x ns p H)(N:w.cell? ⟨Z,0,none⟩=some (.pointer (some ⟨s,0,none⟩)))(O:w.cell? ⟨bh,0,none⟩=some (.int .i64 h)) :
 Cl 148 #[.int .i64 n,.pointer (some ⟨Z,0,none⟩),.pointer (some ⟨bh,0,none⟩)] w fun e w'=>e=.returned (.bool (outB ns h n))/\Below w.heap.size w w':=by
 obtain⟨⟨bt,hT⟩,⟨a4,gw,gs,hv,hM⟩,-⟩:=hS;have cs:=aA hM.blk 0;have ai:∀w',Below w.heap.size w w'->dH w' bt x ns:=fun w' G=>by
  obtain⟨nv,kv,tv,hv,us,hC⟩:=hT;exact⟨nv,kv,tv,hv,us,hC.on G⟩
 have J:=q_ (uD ns n bt x w hT);have qu:=fun(k:Int) (w':World) (G:Below w.heap.size w w')=>aN5 ns bt x h k w' (ai w' G) hG.good.rise
 unfold outB;obtain⟨nd,an⟩:=eX (eU ns n);rw[an]at J ⊢;obtain⟨nm,E,ab,wt,a⟩:=nd;unfold ndA at J;dsimp only at J ⊢;obtain⟨U,hU⟩:=eX (upF ns h E);have V:=q_ (qu E);rw[hU]at V ⊢;have W:=dUa w _ cs;have X:=dUa w _ N;have Y:=dUa w _ O;dsimp only at W X Y;clear hM ai hT an hG qu hU;by_cases L:E=0
 .have t:(E != 0)=false:=by rw[L];rfl
  have e:(decide (E≠0) && decide (U=n))=false:=by rw[bWa (fun h=>h L)];rfl
  rw[e];clear L e;go_enter func148,ntmps148;go_wp2_with fail
  refine J.mono ?_;rintro e A ⟨rfl,j⟩;have ad:=aCs (str nm) E ab wt a.v6 (a.hi:Int) (a.lo:Int) A;clear J;go_upto_region 2 with fail
  clear ad;have av:=fun l:Later A=>((j.trans (l.hb.mono j.size)).cell (p:=⟨s,0,none⟩) W).trans cs
  have aw:=fun l:Later A=>((j.trans (l.hb.mono j.size)).cell (p:=⟨Z,0,none⟩) X).trans N
  have ax:=fun l:Later A=>((j.trans (l.hb.mono j.size)).cell (p:=⟨bh,0,none⟩) Y).trans O
  have ak:Hid (∀l:Later A,Cl 112 #[.pointer (some ⟨x,0,none⟩),.int .i64 h,.int .i64 E] l.w fun e w'=>e=.returned (.int .i64 U)/\Below l.w.heap.size l.w w'):=q_ (fun l=>(V l.w (j.trans (l.hb.mono j.size))).mono fun e w' ⟨h1,h2⟩=>⟨h1,by subst h2;exact bLa _ _⟩);clear cs N O W X Y V;replace j:=q_ j;refine rL ?_;refine eS 0 14 0 ?_;simp only[dA,dC,dD];iterate 2 refine qE ?_
  refine jD (.bool false) 9 rfl (fun l=>rfl) (by as_aux_lemma=>kernel_rfl) ?_;dsimp only[wW,List.take_succ_cons,List.take_zero,List.drop_succ_cons,List.drop_zero,Act.put];iterate 2 refine qE ?_
  refine aT ?_;refine eD fun w3 I=>?_;replace I:Below A.heap.size A w3:=I;go_wp2_with fail
  go_ret;exact⟨rfl,j.trans (I.mono j.size)⟩
 .have t:(E != 0)=true:=bne_iff_ne.2 L;have e:(decide (E≠0) && decide (U=n))=(U == n):=by rw[bYa L,gWa,Bool.beq_eq_decide_eq]
  rw[e];obtain⟨b,G⟩:=eX ((U == n));rw[G];clear L e;go_enter func148,ntmps148;go_wp2_with fail
  refine J.mono ?_;rintro e A ⟨rfl,j⟩;have ad:=aCs (str nm) E ab wt a.v6 (a.hi:Int) (a.lo:Int) A;clear J;go_upto_region 2 with fail
  clear ad;have av:=fun l:Later A=>((j.trans (l.hb.mono j.size)).cell (p:=⟨s,0,none⟩) W).trans cs
  have aw:=fun l:Later A=>((j.trans (l.hb.mono j.size)).cell (p:=⟨Z,0,none⟩) X).trans N
  have ax:=fun l:Later A=>((j.trans (l.hb.mono j.size)).cell (p:=⟨bh,0,none⟩) Y).trans O
  have ak:Hid (∀l:Later A,Cl 112 #[.pointer (some ⟨x,0,none⟩),.int .i64 h,.int .i64 E] l.w fun e w'=>e=.returned (.int .i64 U)/\Below l.w.heap.size l.w w'):=q_ (fun l=>(V l.w (j.trans (l.hb.mono j.size))).mono fun e w' ⟨h1,h2⟩=>⟨h1,by subst h2;exact bLa _ _⟩);clear cs N O W X Y V;replace j:=q_ j;refine rL ?_;refine eS 0 14 0 ?_;simp only[dA,dC,dD];iterate 9 refine qE ?_
  (refine aD (fun K hK=>?_);go_simp;apply bSa;refine⟨fun l=>?_,hK _ ?_⟩;(go_at_call 112;refine(ak l).mono ?_;rintro e w' ⟨rfl,G⟩;exact⟨rfl,G⟩);clear hK K)
  iterate 4 refine qE ?_
  refine aT ?_;refine eD fun w3 I=>?_;replace I:Below A.heap.size A w3:=I;go_wp2_with fail
  go_ret;exact⟨rfl,j.trans (I.mono j.size)⟩
def wR (q:Int->Bool) (l:List Int):Int:=match l.findIdx? q with|some k=>(k:Int)|none=>-1
theorem aNg{q:Int->Bool}{x:Int}(A:l[k]?=some x)(h:q x=true)(E:∀(j:Nat) (y:Int),j<k->l[j]?=some y->q y=false):wR q l=(k:Int):=by
 obtain⟨I,J⟩:=List.getElem?_eq_some_iff.1 A;have e:l.findIdx? q=some k:=by
  rw[fQa];refine⟨I,by rw[J];exact h,fun j G=>?_⟩;rw[E j _ G (aXa (by omega))]
  decide
 unfold wR;rw[e]
theorem aKn{q:Int->Bool}(A:∀(j:Nat) (y:Int),l[j]?=some y->q y=false):wR q l=-1:=by
 have e:l.findIdx? q=none:=by
  rw[fLa];intro y G;obtain⟨j,E⟩:=List.mem_iff_getElem?.1 G;exact A j y E
 unfold wR;rw[e]
theorem pidx_any{q:Int->Bool}:decide (0<=wR q l)=l.any q:=by
 unfold wR;rcases e:l.findIdx? q with _|k
 .rw[fLa]at e;rw[bWa (by decide)]
  symm
  rw[List.any_eq_false];intro y E;rw[e y E]
  decide
 .obtain⟨j,A,-⟩:=List.findIdx?_eq_some_iff_getElem.1 e;rw[bYa (Int.natCast_nonneg k)]
  symm
  rw[jMa];exact⟨_,fNa j,A⟩
theorem aRx(q:Int->Bool)(l:List Int)(pa pb n cap:Nat)(A:Option Addr)(w:World)(N:IsR bL w w.heap.size A n l)(hn:n<=1099511627776)
 (W:∀wr,Below w.heap.size w wr->∀k∈l,Cl 148 #[.int .i64 k,.pointer (some ⟨pa,0,none⟩),.pointer (some ⟨pb,0,none⟩)] wr fun e w'=>e=.returned (.bool (q k))/\Below wr.heap.size wr w') :
 Cl 165 #[.slice A n cap,.func (.func 148) #[] #[.pointer (some ⟨pa,0,none⟩),.pointer (some ⟨pb,0,none⟩)]] w fun e w'=>e=.returned (.int .i64 (wR q l))/\Below w.heap.size w w':=by
 obtain⟨X,U⟩:=eX (wR q l);have ai:=q_ (fun k x a b c=>U.symm.trans (aNg (q:=q) (l:=l) (k:=k) (x:=x) a b c));have aj:=q_ (fun h=>U.symm.trans (aKn (q:=q) (l:=l) h));rw[U];clear U;have au:=N.len;replace ⟨N,W⟩:=q_2 N W;go_enter func165,ntmps165;go_wp2_with fail
 go_loopw [5,8] (fun _ Y wr=>∃i:Nat,i<=n/\Y=.int .i64 (i:Int)/\(∀(j:Nat) (y:Int),j<i->l[j]?=some y->q y=false)/\Below w.heap.size w wr) (fun _ Y _=>n - (intOf Y).toNat)
 case atStart=>exact⟨0,by omega,rfl,fun j nd Z=>by omega,bLa _ _⟩
 case round =>
  obtain⟨i,hi,rfl,L,E⟩:=hrel;by_cases ao:i<n
  .have ak:(i:Int)<(n:Int):=by omega
   obtain⟨b,ay,x,rfl,az,V,ac⟩:=(show IsR bL wr w.heap.size A n l from IsV.below N E).at ao;unfold bL at ac;have ag:=E.size;have J:=q_ (W wr E x (bPa V));have av:=wJ i;have O:Hid (q x=true->X=(i:Int)):=q_ (fun h=>ai i x V h L);have G:q x=false->∀(j:Nat) (y:Int),j<i+1->l[j]?=some y->q y=false:=by
    intro he j y Z I;by_cases ap:j=i
    .subst ap;obtain rfl:=bFa (V.symm.trans I);exact he
    .exact L j y (by omega) I
   obtain⟨bv,ah⟩:=eX (q x);rw[ah]at J O G;clear L ah V;replace ⟨G,E⟩:=q_2 G E
   cases bv
   .have e3:=G rfl;clear O G;replace e3:=q_ e3;go_wp2_with fail
    refine(J).mono ?_;rintro e w2 ⟨rfl,ad⟩;clear ac J;go_wp2_with fail
    exact⟨⟨i+1,by omega,by first|rfl|go_num,e3,E.trans (ad.mono ag)⟩,by simp only[intOf];omega⟩
   .obtain rfl:=O rfl;clear O G;go_wp2_with fail
    refine(J).mono ?_;rintro e w2 ⟨rfl,ad⟩;clear ac J;go_wp2_with fail
    go_ret;exact⟨rfl,E.trans (ad.mono ag)⟩
  .obtain rfl:i=n:=by omega
   have ak:((i:Int)<(i:Int))=False:=by simp
   have ab:=aj (fun j y I=>by
    by_cases Z:j<i
    .exact L j y Z I
    .have h5:=(List.getElem?_eq_some_iff.1 I).1;omega)
   clear L;replace ⟨ab,E⟩:=q_2 ab E;go_wp2_with fail
   go_ret;exact⟨by rw[ab.out];rfl,E⟩
theorem aTb(q:Int->Bool)(l:List Int)(j E n cap:Nat)(A:Option Addr)(w:World)(G:IsR bL w w.heap.size A n l)(N:n<=1099511627776)
 (I:∀wr,Below w.heap.size w wr->∀k∈l,Cl 148 #[.int .i64 k,.pointer (some ⟨j,0,none⟩),.pointer (some ⟨E,0,none⟩)] wr fun e w'=>e=.returned (.bool (q k))/\Below wr.heap.size wr w') :
 Cl 147 #[.slice A n cap,.func (.func 148) #[] #[.pointer (some ⟨j,0,none⟩),.pointer (some ⟨E,0,none⟩)]] w fun e w'=>e=.returned (.bool (l.any q))/\Below w.heap.size w w':=by
 have J:=q_ (aRx q l j E n cap A w G N I);rw[<-pidx_any];obtain⟨X,L⟩:=eX (wR q l);rw[L]at J ⊢;clear I G L;go_enter func147,ntmps147;go_wp2_with fail
 refine J.mono ?_;rintro e U ⟨rfl,O⟩;go_wp2_with fail
 go_ret;exact⟨rfl,O⟩
theorem aS8(ns:List Nd)(hG:nD ns)(p:List Nat×List Bool)(H I:List Int)(h:Int)(J j s x:Nat)(A:Option Addr)(G W:Nat)(w:World)(X:fH w s x ns p H)(Y:IsR bL w w.heap.size A G I)(hn:G<=1099511627776)
 (L:w.cell? ⟨J,0,none⟩=some (.slice A G W)) (N:w.cell? ⟨j,0,none⟩=some (.pointer (some ⟨s,0,none⟩))) :
 Cl 146 #[.int .i64 h,.pointer (some ⟨J,0,none⟩),.pointer (some ⟨j,0,none⟩)] w fun e w'=>e=.returned (.bool (I.any (outB ns h)))/\Below w.heap.size w w':=by
 obtain⟨w1,V⟩:=eX (w.alloc (.cells #[.int .i64 h] 3));have E:Hid (Below w.heap.size w w1):=q_ (V▸bC);have U:=bN V;have d1:=dUa w _ L;have d2:=dUa w _ N;dsimp only at d1 d2;have e1:=(E.cell (p:=⟨J,0,none⟩) d1).trans L;have e2:=(E.cell (p:=⟨j,0,none⟩) d2).trans N;have ag:=aL U;have qc:=q_ (aTb (outB ns h) I j w.heap.size G W A w1 (Y.on E) hn (fun wr O k _=>aS9 ns hG p H k h j w.heap.size s x wr ((X.on E).on O) ((O.cell (p:=⟨j,0,none⟩) (by show j<_;omega)).trans e2) ((O.cell (p:=⟨w.heap.size,0,none⟩) ag).trans (aA U 0))));have ak:∀(Z:Fn) (first cap:Array Value) (w:World),(Instr.makeFunc Z first cap).run prog w=.ok (.func Z first cap) w:=fun _ _ _ _=>rfl
 clear L N U X Y;go_enter func146,ntmps146;go_upto_region 1 with fail
 clear V;go_wp2_with fail
 refine qc.mono ?_;rintro e w2 ⟨rfl,ai⟩;go_wp2_with fail
 go_ret;exact⟨rfl,E.trans (ai.mono E.size)⟩
theorem aRw(q:Int->Bool)(l:List Int)(pa pb n cap:Nat)(A:Option Addr)(w:World)(N:IsR bL w w.heap.size A n l)(hn:n<=1099511627776)
 (W:∀wr,Below w.heap.size w wr->∀k∈l,Cl 146 #[.int .i64 k,.pointer (some ⟨pa,0,none⟩),.pointer (some ⟨pb,0,none⟩)] wr fun e w'=>e=.returned (.bool (q k))/\Below wr.heap.size wr w') :
 Cl 165 #[.slice A n cap,.func (.func 146) #[] #[.pointer (some ⟨pa,0,none⟩),.pointer (some ⟨pb,0,none⟩)]] w fun e w'=>e=.returned (.int .i64 (wR q l))/\Below w.heap.size w w':=by
 obtain⟨X,U⟩:=eX (wR q l);have ai:=q_ (fun k x a b c=>U.symm.trans (aNg (q:=q) (l:=l) (k:=k) (x:=x) a b c));have aj:=q_ (fun h=>U.symm.trans (aKn (q:=q) (l:=l) h));rw[U];clear U;have au:=N.len;replace ⟨N,W⟩:=q_2 N W;go_enter func165,ntmps165;go_wp2_with fail
 go_loopw [5,8] (fun _ Y wr=>∃i:Nat,i<=n/\Y=.int .i64 (i:Int)/\(∀(j:Nat) (y:Int),j<i->l[j]?=some y->q y=false)/\Below w.heap.size w wr) (fun _ Y _=>n - (intOf Y).toNat)
 case atStart=>exact⟨0,by omega,rfl,fun j nd Z=>by omega,bLa _ _⟩
 case round =>
  obtain⟨i,hi,rfl,L,E⟩:=hrel;by_cases ao:i<n
  .have ak:(i:Int)<(n:Int):=by omega
   obtain⟨b,ay,x,rfl,az,V,ac⟩:=(show IsR bL wr w.heap.size A n l from IsV.below N E).at ao;unfold bL at ac;have ag:=E.size;have J:=q_ (W wr E x (bPa V));have av:=wJ i;have O:Hid (q x=true->X=(i:Int)):=q_ (fun h=>ai i x V h L);have G:q x=false->∀(j:Nat) (y:Int),j<i+1->l[j]?=some y->q y=false:=by
    intro he j y Z I;by_cases ap:j=i
    .subst ap;obtain rfl:=bFa (V.symm.trans I);exact he
    .exact L j y (by omega) I
   obtain⟨bv,ah⟩:=eX (q x);rw[ah]at J O G;clear L ah V;replace ⟨G,E⟩:=q_2 G E
   cases bv
   .have e3:=G rfl;clear O G;replace e3:=q_ e3;go_wp2_with fail
    refine(J).mono ?_;rintro e w2 ⟨rfl,ad⟩;clear ac J;go_wp2_with fail
    exact⟨⟨i+1,by omega,by first|rfl|go_num,e3,E.trans (ad.mono ag)⟩,by simp only[intOf];omega⟩
   .obtain rfl:=O rfl;clear O G;go_wp2_with fail
    refine(J).mono ?_;rintro e w2 ⟨rfl,ad⟩;clear ac J;go_wp2_with fail
    go_ret;exact⟨rfl,E.trans (ad.mono ag)⟩
  .obtain rfl:i=n:=by omega
   have ak:((i:Int)<(i:Int))=False:=by simp
   have ab:=aj (fun j y I=>by
    by_cases Z:j<i
    .exact L j y Z I
    .have h5:=(List.getElem?_eq_some_iff.1 I).1;omega)
   clear L;replace ⟨ab,E⟩:=q_2 ab E;go_wp2_with fail
   go_ret;exact⟨by rw[ab.out];rfl,E⟩
section
section
variable {w:World} {base g n c:Nat} {xs:List Int}
structure vP (w:World) (base g n c:Nat) (xs:List Int):Prop where
 len:xs.length=n
 hc:n<=c
 hm:c<=maxLen
 hb:base<=g
 blk:∃cur:Array Value,w.heap[g]?=some (.cells cur 3 (0,0))/\cur.size=c/\∀(i:Nat) (x:Int),xs[i]?=some x->cur[i]?=some (bL x)
theorem row_of(h:dV 3 bL w base v xs):(v=.slice none 0 0/\xs=[])\/∃g c,v=.slice (some ⟨g,0,none⟩) xs.length c/\vP w base g xs.length c xs:=by
 obtain⟨W,E|⟨g,cap,G,I,J,L,N,O,X,U⟩⟩:=h
 .exact .inl ⟨E.1,List.length_eq_zero_iff.1 E.2⟩
 .refine .inr ⟨g,cap,I,rfl,N,O,J,G,L,by omega,fun i x j=>?_⟩;obtain⟨V,Y⟩:=List.getElem?_eq_some_iff.1 j;have A:(G.toList.take (xs.length*1))[i]?=(xs.map bL)[i]?:=by rw[U]
  rw[Nat.mul_one,dKa V,fGa,j]at A;simpa using A
theorem vP.cell(h:vP w base g n c xs){x:Int}(j:xs[i]?=some x):w.cell? ⟨g,i,none⟩=some (bL x):=by
 obtain⟨G,A,I,E⟩:=h.blk;rw[aA A i];exact E i x j
theorem vP.free(h:vP w base g n c xs)(i:Nat):w.frozen? ⟨g,i,none⟩=false:=by
 obtain⟨A,j,E,G⟩:=h.blk;exact bD j i
theorem vP.set(h:vP w base g n c xs)(i:Nat)(x:Int):vP (w.setCell ⟨g,i,none⟩ (bL x)) base g n c (xs.set i x):=by
 obtain⟨O,I,J,L⟩:=h.blk;refine⟨by rw[cFa];exact h.len,h.hc,h.hm,h.hb,_,bP I i (bL x),by rw[bQa];exact J,fun j y A=>?_⟩;by_cases E:j=i
 .subst E;obtain⟨N,G⟩:=List.getElem?_eq_some_iff.1 A;rw[List.getElem_set_self]at G;rw[cFa]at N;subst G;rw[dJa (by have:=h.len;have:=h.hc;omega)]
 .rw[cQa (fVa E)]at A;rw[cPa (fVa E)];exact L j y A
theorem vP.on(h:vP w base g n c xs)(j:Below w.heap.size w w'):vP w' base g n c xs:=by
 obtain⟨A,E,G,I⟩:=h.blk;exact⟨h.len,h.hc,h.hm,h.hb,A,aG j E,G,I⟩
theorem vP.lt(h:vP w base g n c xs):g<w.heap.size:=by
 obtain⟨A,j,E,G⟩:=h.blk;exact aL j
theorem isr_of(m:Nat)(j:List Int)(E:j.length=m)(G:∀(i:Nat) (x:Int),j[i]?=some x->w.cell? ⟨g,i,none⟩=some (bL x))(I:g<B):IsR bL w B (some ⟨g,0,none⟩) m j:=by
 refine⟨by rw[bNa,Nat.mul_one];exact E,fun _=>⟨g,0,rfl,I,fun i A=>?_⟩⟩;rw[bNa]at A;rw[dWa,G i _ (aXa A),eBa]
theorem below_setCells(b:Nat)(j:base<=b):∀(vs:List Value) (o:Nat) (w:World),Below base w0 w->Below base w0 (w.setCells b o vs)
 | [],_,_,h=>h
 | v :: r,o,w,h=>by
  rw[World.setCells];exact below_setCells b j r (o+1) _ (h.setCell (p:=⟨b,o,none⟩) j v)
theorem size_setCells(b:Nat):∀(vs:List Value) (o:Nat) (w:World),(w.setCells b o vs).heap.size=w.heap.size
 | [],_,_=>rfl
 | v :: r,o,w=>by
  rw[World.setCells,size_setCells b r (o+1),World.size_setCell]
end
theorem aUe(q:Int->Bool)(l:List Int):(wR q l=-1/\∀x∈l,q x=false)\/∃k x,wR q l=((k:Nat):Int)/\l[k]?=some x/\q x=true/\∀y∈l.take k,q y=false:=by
 unfold wR;rcases e:l.findIdx? q with _|k
 .rw[fLa]at e;exact .inl ⟨rfl,e⟩
 .obtain⟨G,I,J⟩:=List.findIdx?_eq_some_iff_getElem.1 e;refine .inr ⟨k,_,rfl,aXa G,I,fun y E=>?_⟩;obtain⟨j,L⟩:=List.mem_iff_getElem?.1 E;obtain⟨N,A⟩:=List.getElem?_eq_some_iff.1 L;rw[bGa]at N;rw[gRa]at A;have:=J j (by omega);rw[A]at this;simpa using this
structure xZ (q:Int->Bool) (l dk:List Int) (i j:Nat):Prop where
 len:dk.length=l.length
 lt:i<j
 le:j<=l.length
 low:dk.take i=(l.take j).filter fun x=>!q x
 high:∀m,j<=m->dk[m]?=l[m]?
theorem xZ.start{q:Int->Bool}{x:Int}(j:l[k]?=some x)(A:q x=true)(h:∀y∈l.take k,q y=false):xZ q l l k (k+1):=by
 refine⟨rfl,Nat.lt_succ_self k,(List.getElem?_eq_some_iff.1 j).1,?_,fun m _=>rfl⟩;rw[dMa,j,jDa,show(some x).toList=[x] from rfl,List.filter_cons_of_neg (by rw[A];decide),List.filter_nil,ePa]
 symm
 rw[List.filter_eq_self];intro y E;rw[h y E]
 rfl
theorem xZ.skip{q:Int->Bool}{A:List Int}{x:Int}(h:xZ q l A i j)(E:l[j]?=some x)(G:q x=true):xZ q l A i (j+1):=by
 refine⟨h.len,by have:=h.lt;omega,(List.getElem?_eq_some_iff.1 E).1,?_,fun m I=>h.high m (by omega)⟩;rw[dMa,E,jDa,show(some x).toList=[x] from rfl,List.filter_cons_of_neg (by rw[G];decide),List.filter_nil,ePa];exact h.low
theorem xZ.keep{q:Int->Bool}{A:List Int}{x:Int}(h:xZ q l A i j)(E:l[j]?=some x)(G:q x=false):xZ q l (A.set i x) (i+1) (j+1):=by
 have J:=h.lt;refine⟨by rw[cFa];exact h.len,by omega,(List.getElem?_eq_some_iff.1 E).1,?_,fun m I=>?_⟩
 .rw[dMa (l:=l),E,jDa,show(some x).toList=[x] from rfl,List.filter_cons_of_pos (by rw[G];rfl),List.filter_nil,<-h.low,dMa,dAa (by have:=h.len;have:=h.le;omega),List.take_set_of_le (aZa i)]
  rfl
 .rw[cQa (by omega)];exact h.high m (by omega)
end
theorem del_any(q:Int->Bool)(l:List Int)(pa pb J:Nat)(v:Value)(w:World)(hv:dV 3 bL w J v l)(ap:J<=w.heap.size)(hn:l.length<=1099511627776)
 (hq:∀wr,Below J w wr->∀k∈l,Cl 146 #[.int .i64 k,.pointer (some ⟨pa,0,none⟩),.pointer (some ⟨pb,0,none⟩)] wr fun e w'=>e=.returned (.bool (q k))/\Below wr.heap.size wr w') :
 Cl 144 #[v,.func (.func 146) #[] #[.pointer (some ⟨pa,0,none⟩),.pointer (some ⟨pb,0,none⟩)]] w fun e w'=>(∃A m c,e=.returned (.slice A m c)/\IsR bL w' w'.heap.size A m (l.filter fun x=>!q x))/\Below J w w':=by
 obtain⟨A,c,bn,bo,b2,W⟩:=hv.form;subst bn;have G:=aRw q l pa pb l.length c A w W hn (fun wr V k hk=>hq wr (V.mono ap) k hk);rcases aUe q l with⟨e1,U⟩|⟨k0,x0,e1,U,e3,e4⟩
 .rw[e1]at G;have hf:(l.filter fun x=>!q x)=l:=by
   rw[List.filter_eq_self];intro y hy;rw[U y hy]
   rfl
  rw[hf];obtain⟨n,O⟩:=eX l.length;rw[O]at G W;clear e1 U hf hq hv;replace ⟨G,W⟩:=q_2 G W;go_enter func144,ntmps144;go_wp2_with fail
  refine G.mono ?_;rintro e w1 ⟨rfl,ac⟩;go_wp2_with fail
  go_ret;exact⟨⟨_,_,_,rfl,W.on ac⟩,ac.mono ap⟩
 .rw[e1]at G;rcases row_of hv with⟨-,h0⟩|⟨g,c',e5,hR⟩
  .rw[h0]at U
   cases U
  cases e5
  have bc:=(List.getElem?_eq_some_iff.1 U).1;have hK:=q_ (xZ.start U e3 e4);have t1:((k0:Int) == -1)=false:=by rw[bDa];omega
  have be:=wJ k0;obtain⟨F,hF⟩:∃F,(l.filter fun x=>!q x)=F:=⟨_,rfl⟩
  rw[hF];obtain⟨n,O⟩:=eX l.length;rw[O]at G W hR bo hn bc ⊢;clear e1 U e3 e4 hv W;replace ⟨G,hR,hq,hF,O⟩:=q_5 G hR hq hF O;go_enter func144,ntmps144;go_wp2_with fail
  refine G.mono ?_;rintro e w1 ⟨rfl,ac⟩;have a0:=q_ (hR.on ac);have a1:=q_ (ac.mono ap);clear G hR ac;go_wp2_with fail
  go_loopw [5,6,7] (fun iv jv _ wr=>∃(i j:Nat) (N:List Int),iv=.int .i64 (i:Int)/\jv=.int .i64 (j:Int)/\xZ q l N i j/\vP wr J g n c N/\Below J w wr) (fun _ jv _ _=>n - (intOf jv).toNat)
  case atStart=>exact⟨k0,k0+1,l,rfl,by first|rfl|go_num,hK,a0,a1⟩
  case round =>
   obtain⟨i,j,N,rfl,rfl,L,E,I⟩:=hrel;clear a0 a1 hK t1 be;have h1:=L.lt;have h2:=L.le;rw[O.out]at h2;by_cases bs:j<n
   .have bu:(j:Int)<(n:Int):=by omega
    obtain⟨x,hx⟩:∃x,l[j]?=some x:=⟨_,aXa (by rw[O.out];exact bs)⟩
    have cj:=E.cell ((L.high j (aZa _)).trans hx);unfold bL at cj;have X:=hq wr I x (bPa hx);have bv:=wJ j;have bw:=wJ i;have i1:(i:Int)<(n:Int):=by omega
    obtain⟨b,V⟩:=eX (q x);rw[V]at X
    cases b
    case true =>
     have av:=q_ (L.skip hx V);clear hx V L;replace ⟨X,E,I⟩:=q_3 X E I;go_wp2_with fail
     refine X.mono ?_;rintro e w2 ⟨rfl,af⟩;have Y:=q_ (E.on af);have ak:=q_ (I.trans (af.mono (by have:=I.size;omega)));clear cj;go_wp2_with fail
     exact⟨⟨i,j+1,N,rfl,by first|rfl|go_num,av,Y,ak⟩,by simp only[intOf];omega⟩
    case false =>
     have av:=q_ (L.keep hx V);have bg:∃y,N[i]?=some y:=⟨_,aXa (by rw[E.len];omega)⟩
     obtain⟨y,hy⟩:=bg;clear hx V L;replace ⟨X,E,I⟩:=q_3 X E I;go_wp2_with fail
     refine X.mono ?_;rintro e w2 ⟨rfl,af⟩;have Y:=E.on af;have ak:=I.trans (af.mono (by have:=I.size;omega));have ci:=Y.cell hy;have fi:=Y.free i;unfold bL at ci;obtain⟨w3,a5⟩:=eX (w2.setCell ⟨g,i,none⟩ (.int .i64 x));have bi:Hid (vP w3 J g n c (N.set i x)):=q_ (a5▸Y.set i x);have al:Hid (Below J w w3):=q_ (a5▸ak.setCell (p:=⟨g,i,none⟩) Y.hb _);clear cj hy Y ak;go_wp2_with fail
     exact⟨⟨i+1,j+1,N.set i x,by first|rfl|go_num,by first|rfl|go_num,av,bi,al⟩,by simp only[intOf];omega⟩
   .have bj:j=n:=by omega
    subst bj;have am:=L.low;rw[<-O.out,fDa,hF.out]at am;have b0:∀ty,(Builtin.clear_ #[31] ty #[.slice (some ⟨g,i,none⟩) (j - i) (c - i)]).run prog wr=.ok (.tuple #[]) (wr.setCells g i (List.replicate (j - i) (.int .i64 0))):=fun ty =>
     Lib.run_clear_slice wr _ _ ty _ dRa (fun w=>by kernel_rfl) rfl rfl g i _ _ (by omega) (fun t ht=>by
      obtain⟨y,hy⟩:∃y,N[i+t]?=some y:=⟨_,aXa (by rw[E.len];omega)⟩
      rw[E.cell hy];rfl) (fun t ht=>E.free _)
    have bk:=E.len;have bl:F.length=i:=by rw[<-am,bGa];omega
    have al:Hid (Below J w (wr.setCells g i (List.replicate (j - i) (.int .i64 0)))):=q_ (below_setCells g E.hb _ _ _ I);obtain⟨Z,aw⟩:∃Z,wr.setCells g i (List.replicate (j - i) (.int .i64 0))=Z:=⟨_,rfl⟩
    have a2:Z.heap.size=wr.heap.size:=by rw[<-aw];exact size_setCells g _ i wr
    have a3:∀(m:Nat) (x:Int),F[m]?=some x->Z.cell? ⟨g,m,none⟩=some (bL x):=fun m x hm=>by
     have b1:=(List.getElem?_eq_some_iff.1 hm).1;rw[<-aw,World.cell?_setCells_out g _ i wr ⟨g,m,none⟩ (fun _ _=>.inl (by show m<i;omega))];refine E.cell ?_;rw[<-am,dKa (by omega)]at hm;exact hm
    rw[aw]at al;have bm:Hid (IsR bL Z Z.heap.size (some ⟨g,0,none⟩) i F):=q_ (isr_of i F bl a3 (by rw[a2];exact E.lt));clear L E I am a3 a2 bk;go_wp2_with fail
    go_ret;exact⟨⟨_,_,_,rfl,bm⟩,al⟩
def aA6 (ns:List Nd) (us H:List Int):List Int:=H.filter fun h=>!us.any (outB ns h)
theorem aPq{w:World}{A x G:Nat}{I:Value}(h:jY w A s x E G n p I H)(j:base'<=A):jY w base' s x E G n p I H :=
 ⟨h.blk,h.rw,h.rs,h.hosts.weaken j,h.lw,h.ls,bJa j h.b1,bJa j h.b2,bJa j h.b3,h.n1,h.n2,h.n3⟩
theorem aSw(ns:List Nd)(hG:nD ns)(p:List Nat×List Bool)(H E:List Int)(hH:H.length<=1099511627776)(s x:Nat)(A:Option Addr)(O cu:Nat)(w:World)(hS:fH w s x ns p H)(hu:IsR bL w w.heap.size A O E)(hn:O<=1099511627776) :
 Cl 113 #[.pointer (some ⟨s,0,none⟩),.slice A O cu] w fun e w'=>(∃s' X Y L,e=.returned (.pointer (some ⟨s',0,none⟩))/\jY w' w.heap.size s' x X Y ns.length (pG ns (aA6 ns E H)) L (fT ns (aA6 ns E H)).2/\(∀v∈(pG ns (aA6 ns E H)).1,v<18446744073709551616))/\Below w.heap.size w w':=by
 obtain⟨z,hz⟩:=eX w.heap.size;obtain⟨w1,ap⟩:=eX (w.alloc (.cells #[.pointer (some ⟨s,0,none⟩)] 73));have ac:Below z w w1:=ap▸(bLa _ _).alloc (by omega) _;have ak:=bN ap;obtain⟨j,aq⟩:=eX (w1.alloc (.cells #[.slice A O cu] 31));have Z:Below w1.heap.size w1 j:=aq▸bC;have ad:=bN aq;have b7:=aL ak;have a2:=aL ad;have hg1':=aG Z ak;obtain⟨W,bg⟩:∃k,w1.heap.size=k:=⟨_,rfl⟩
 have al:Hid (Below z w j):=q_ ((tw ac Z));have ae:fH j s x ns p H:=(hS.on (by rw[hz];exact ac)).on Z;have a3:Hid (IsR bL j j.heap.size A O E):=q_ ((hu.on (by rw[hz];exact ac)).on Z);rw[hz]at hg1';rw[bg]at ad a2;have cb:=aA hg1' 0;have cn:=aA ad 0;obtain⟨⟨U,hT⟩,⟨bw,X,Y,L,hM⟩,bi⟩:=ae;have cs:=aA hM.blk 0;have qn:=q_ (sH s x j cs);have ae:Hid (fH j s x ns p H):=q_ (⟨⟨U,hT⟩,⟨bw,X,Y,L,hM⟩,bi⟩);have b8:∀(fn:Fn) (first cap:Array Value) (w:World),(Instr.makeFunc fn first cap).run prog w=.ok (.func fn first cap) w:=fun _ _ _ _=>rfl
 have bo:z<=j.heap.size:=by have:=al.size;omega
 have a6:z<j.heap.size:=by omega
 have b9:z<W:=by omega
 clear ak hg1' ad ac Z hT hM bi hS hu;rw[hz];go_enter func113,ntmps113;go_upto_region 1 with fail
 clear ap aq bg;go_wp2_with fail
 refine qn.mono ?_;rintro e j ⟨rfl,rfl⟩;clear qn;go_upto_region 3 with fail
 have a7:=dUa j _ cs;dsimp only at a7;refine rX (Below j.heap.size) ?_;intro w3 G;have lb:=fun l:bU (Below j.heap.size) w3=>((G.trans l.hk).cell (p:=⟨z,0,none⟩) a6).trans cb
 have ls:=fun l:bU (Below j.heap.size) w3=>((G.trans l.hk).cell (p:=⟨s,0,none⟩) a7).trans cs
 have af:=q_ (ae.on G);have a8:=q_ (a3.on G);have a9:=q_ (al.trans (G.mono bo));have ba:=(G.cell (p:=⟨z,0,none⟩) a6).trans cb;have bb:=(G.cell (p:=⟨W,0,none⟩) a2).trans cn;have bc:=G.size;have ql:=q_ (list_any ns p H hH s x w3 af);clear ae a3 al G;refine xS (Below j.heap.size) 0 5 5 ?_;simp only[dA,dC,dD];iterate 5 refine qX ?_
 refine aN ?_;refine xS (Below j.heap.size) 6 1 4 ?_;simp only[dB,dA,dC,dD];refine qX ?_;refine aN ?_;clear lb ls cb cn cs;refine fS 5 rfl fun K I=>?_;go_simp;go_at_call 145;refine ql.mono ?_;rintro e w4 ⟨v4,rfl,bj,J⟩;refine I _ _ (J.mono bc) ?_;clear I K ql;have hf:aA6 ns E H=H.filter fun h=>!E.any (outB ns h):=rfl
 have qd:=q_ (del_any (fun h=>E.any (outB ns h)) H W z w3.heap.size v4 w4 bj J.size hH (fun wr V k _=>aS8 ns hG p H E k W z s x A O cu wr (af.on (J.trans V)) (a8.on (J.trans V)) hn (((J.trans V).cell (p:=⟨W,0,none⟩) (by show W<_;omega)).trans bb) (((J.trans V).cell (p:=⟨z,0,none⟩) (by show z<_;omega)).trans ba)));rw[<-hf]at qd;clear bj;refine fS 7 rfl fun K I=>?_;go_simp;go_at_call 144;refine qd.mono ?_;rintro e w5 ⟨⟨A5,m5,c5,rfl,aw⟩,N⟩;refine I _ _ (N.mono bc) ?_;clear I K qd;have ag:=J.trans N;obtain⟨⟨U,au⟩,-,-⟩:=af.on ag;have br:m5<=1099511627776:=by
  have h1:=aw.len;have h2:(aA6 ns E H).length<=H.length:=eTa _ _;omega
 have qw:=q_ (aB3 ns hG.good (aA6 ns E H) A5 m5 c5 w5 U x au aw br);have bs:=q_ ((tw a9 ag));have cd:=ag.size;have an:∀w',Below w5.heap.size w5 w'->∃U,dH w' U x ns:=fun w' V=>by
  obtain⟨nv,kv,tv,L,b1,hC⟩:=au;exact⟨U,nv,kv,tv,L,b1,hC.on V⟩
 clear J N ag au aw af a8 a9 ba bb hf;replace an:=q_ an;refine fS 8 rfl fun K I=>?_;go_simp;go_at_call 19;refine qw.mono ?_;rintro e w6 ⟨⟨s',X,Y,L,rfl,bl,ao⟩,N⟩;refine I _ _ (N.mono (by omega)) ?_;clear I K qw;have bu:=q_ (aPq bl (base':=z) (by omega));have bv:=q_ ((tw bs N));clear bl N an;replace ao:=q_ ao;refine xM 9 rfl ?_;refine fD ?_;go_wp2_with fail
 go_ret;exact⟨⟨s',X,Y,L,rfl,bu,ao⟩,bv⟩
def WkR (b:Nat) (f:Int) (sd:Nat) (a c:World):Prop:=(gV a b f sd->gV c b f sd)/\aV a.heap.size (fun k=>k=b) a c
instance wkR_rel (b:Nat) (f:Int) (sd:Nat):cB (WkR b f sd) :=
 ⟨fun w=>⟨id,gQ _ _ w⟩,fun a c d h k=>⟨fun x=>k.1 (h.1 x),k.2.os.trans h.2.os,k.2.tape.trans h.2.tape,k.2.output.trans h.2.output,bJa h.2.size k.2.size,fun j hj hn=>(k.2.block j (bKa hj h.2.size) hn).trans (h.2.block j hj hn)⟩⟩
theorem WkR.of{a c:World}{f:Int}(h:Below a.heap.size a c):WkR b f sd a c:=⟨fun x=>x.on h,bT h (aZa _)⟩
theorem bJ.r{a c:World}{f:Int}(h:bJ b f sd a c):WkR b f sd a c:=⟨fun _=>h.1,h.2⟩
theorem bJ.mk{w:World}{z:Nat}{f:Int}(h:gV w b f sd)(j:Below z w w')(A:w.heap.size=z):bJ b f sd w w':=by
 subst A;exact⟨h.on j,bT j (aZa _)⟩
theorem bJ.grown{w I:World}{f:Int}{cs:Array Value}(h:bJ b f sd w w')(A:w'.grownBy I (some g))(O:w'.heap[g]?=some (.cells cs T (0,0)))(U:T≠25)(V:T≠120)(ag:w.heap.size<=g):bJ b f sd w I:=by
 obtain⟨⟨X,Y,Z,h1,E⟩,j⟩:=h;have N:∀{k:Nat} {J:Array Value} {G:TypeId},w'.heap[k]?=some (.cells J G (0,0))->T≠G->I.heap[k]?=some (.cells J G (0,0)):=by
  intro k J G j ab;refine(A.block k (Array.getElem?_eq_some_iff.1 j).1 fun e=>?_).trans j
  cases e
  rw[O]at j
  cases j
  exact ab rfl
 refine⟨⟨X,Y,Z,N h1 V,?_⟩,?_⟩
 .rcases E with E|⟨E,gx,xs,h3,h4,h5⟩
  .exact .inl E
  .exact .inr ⟨E,gx,xs,h3,h4,N h5 U⟩
 .exact⟨A.os.trans j.os,A.tape.trans j.tape,A.output.trans j.output,bJa j.size A.size,fun k L W=>(A.block k (bKa L j.size) fun e=>by cases e;omega).trans (j.block k L W)⟩
theorem aGt(a b:Int):(#[.int .u64 a,.int .u64 b]:Array Value).all (·.oneCell')=true:=all_oneCell_toArray (by
 intro u j;simp only[bXa,bVa,dTa]at j;rcases j with rfl|rfl<;>rfl)
def upN (key id:Nat):Nat:=xB (aA2 (ofN key [id]) - 1)
theorem upN_lt(j id:Nat):upN j id<18446744073709551616:=tabN_lt _
theorem draw_le(h:Nat)(j:h<18446744073709551616):1<=aA2 h/\aA2 h<=65536:=by
 unfold aA2;omega
theorem long_any(b:Nat)(f:Int)(sd G id I:Nat)(hk:G<18446744073709551616)(ax:id<18446744073709551616)(w:World)(W:gV w b f sd) :
 Cl 179 #[.pointer (some ⟨b,0,none⟩),.int .u64 (G:Int),.agg #[.int .u64 (id:Int),.int .u64 (I:Int)]] w fun e w'=>e=.returned (numV (upN G id) I)/\bJ b f sd w w':=by
 have Z:=aB4 G [id];obtain⟨ac,ad⟩:=draw_le _ Z;have qo:=q_ (fun(A:Option Addr) (w:World) (hr:IsR cK w w.heap.size A 1 [id])=>zK G hk [id] (fun v hv=>by rw[dZa]at hv;rw[hv];exact ax) A 1 1 w.heap.size w hr (by omega));have qd:=q_ (fun w=>draw_any (ofN G [id]) Z w);unfold upN;obtain⟨O,hO⟩:∃x,ofN G [id]=x:=⟨_,rfl⟩
 rw[hO]at qo qd ac ad Z ⊢;obtain⟨D,hD⟩:∃x,aA2 O=x:=⟨_,rfl⟩
 rw[hD]at qd ac ad ⊢;have qa:=q_ (fun w (h:gV w b f sd)=>aPc b f sd D ac ad w h);obtain⟨U,hU⟩:∃x,xB (D - 1)=x:=⟨_,rfl⟩
 rw[hU]at qa ⊢;clear hU hD hO Z ac ad ax hk;have bf:=W.lt;obtain⟨E,ae⟩:=eX (w.alloc (.cells #[.int .u64 (id:Int),.int .u64 (I:Int)] 295));have a0:Below w.heap.size w E:=ae▸bC;have am:=bN ae;have a1:E.heap.size=w.heap.size+1:=by rw[<-ae];simp
 obtain⟨w2,ag⟩:=eX (E.alloc (.cells #[.int .u64 0,.int .u64 0] 300));have an:Below E.heap.size E w2:=ag▸bC;have ao:Hid (w2.heap[E.heap.size]?=some (.cells #[.int .u64 0,.int .u64 0] 300 (0,0))):=q_ (ag▸aJ _ _ _);have bg:w2.heap.size=E.heap.size+1:=by rw[<-ag];simp
 have ab:=q_ (aG an am);obtain⟨z,hz⟩:=eX w.heap.size;rw[hz]at am a1 bf ab;rw[a1]at ao bg;have ap:Hid (Below z w w2):=q_ ((by rw[<-hz];exact a0:Below z w E).trans (an.mono (by omega)));clear a0 an am;replace W:=q_ W;go_enter func179,ntmps179;go_upto_region 1 with fail
 clear ae ag;refine sV [13] (WkR b f sd) (by as_aux_lemma=>kernel_rfl) ?_;intro V L;have bk:=L.size;have la:=fun l:bU (WkR b f sd) V=>aA ((l.hk.2.block z (by omega) (by omega)).trans (kB L ab))
 have a2:=q_ ((W.on (by rw[hz];exact ap)).on L);have a3:=q_ (kB L ao);have a4:=q_ (kB L ab);have a5:=q_ ((tw ap L));clear ab ao ap L;refine wC [13] (WkR b f sd) 0 6 (fuel:=8) (by as_aux_lemma=>kernel_rfl) (fun d _ _ _ _ h=>by cases d<;>exact h) (by as_aux_lemma=>kernel_rfl) (by as_aux_lemma=>kernel_rfl) (by as_aux_lemma=>kernel_rfl) ?_;simp only[dA,dC,dD];iterate 6 refine qX ?_
 refine aN ?_;refine wC [13] (WkR b f sd) 10 2 (fuel:=6) (by as_aux_lemma=>kernel_rfl) (fun d _ _ _ _ h=>by cases d<;>exact h) (by as_aux_lemma=>kernel_rfl) (by as_aux_lemma=>kernel_rfl) (by as_aux_lemma=>kernel_rfl) ?_;simp only[dB,dA,dC,dD];iterate 2 refine qX ?_
 refine aN ?_;clear la;refine wT 6 rfl fun K j=>?_;go_simp;obtain⟨X,ai⟩:=eX (V.alloc (.cells #[.int .u64 (id:Int)] 25));have J:Below V.heap.size V X:=ai▸bC;have aq:dX cK 25 X V.heap.size [id]:=ai▸aJ _ _ _;have a6:=q_ (a2.on J);have a7:=q_ (aG J a3);have a8:=q_ (aG J a4);have hb4':=q_ ((tw a5 J));have bl:=J.size;rw[ai];refine j _ _ (gD (WkR.of J)) ?_;clear j K ai J a5 a3 a4 a2;have a9:=q_ (qo (some ⟨V.heap.size,0,none⟩) X (aq.isr aq.lt));clear qo aq;refine wT 7 rfl fun K j=>?_;go_simp;refine a9.mono ?_;rintro e w5 ⟨rfl,rfl⟩;refine j _ _ (gD (cB.refl _)) ?_;clear j K a9;refine wT 8 rfl fun K j=>?_;go_simp;refine(qd X).mono ?_;rintro e w5 ⟨rfl,rfl⟩;refine j _ _ (gD (cB.refl _)) ?_;clear j K qd;refine wT 9 rfl fun K j=>?_;go_simp;refine(qa X a6).mono ?_;rintro e w5 ⟨rfl,N⟩;refine j _ _ (gD N.r) ?_;clear j K qa;have bm:=N.2.size;have ar:=(N.2.block (z+1) (by omega) (by omega)).trans a7;have bi:=(N.2.block z (by omega) (by omega)).trans a8;have ba:bJ b f sd w w5:=(bJ.mk W hb4' hz).trans N;refine wC [13] (WkR b f sd) 12 1 (fuel:=1) (by as_aux_lemma=>kernel_rfl) (fun d _ _ _ _ h=>by cases d<;>exact h) (by as_aux_lemma=>kernel_rfl) (by as_aux_lemma=>kernel_rfl) (by as_aux_lemma=>kernel_rfl) ?_;simp only[dB,dA,dC,dD];refine qX ?_;refine aN ?_;clear bi a8 a7 a6 hb4' N;refine wT 13 rfl fun K j=>?_;rw[bBa (by unfold Region.wanted;rfl)];refine nL 300 (.tmp 6) (.tmp 19) rfl (z+1) 0 rfl #[.int .u64 (U:Int),.int .u64 (I:Int)] rfl ar (by simp) (by kernel_rfl) (aGt _ _) fun Y aj g9=>?_;refine j _ _ (zT rfl) ?_;clear j K;rw[aQ _ _ (by rfl)]at aj;have au:(loadVar 300 ⟨z+1,0,none⟩).run prog Y=.ok (.agg #[.int .u64 (U:Int),.int .u64 (I:Int)]) Y:=by
  simpa using run_loadVar_mid Y (z+1) 0 300 (#[.int .u64 (U:Int),.int .u64 (I:Int)]:Array Value).toList _ (aM aj) underlying300 rfl (by kernel_rfl)
 have bj:Hid (bJ b f sd w Y):=q_ (ba.grown g9 ar (by decide) (by decide) (by omega));clear ba g9 aj ar;replace au:=q_ au;refine xX (by as_aux_lemma=>kernel_rfl) ?_ _;go_wp2_with fail
 exact aYa (v:=.agg #[.int .u64 (U:Int),.int .u64 (I:Int)]) (by simp[results,results179,asAddr,au.out,Result.andThen,Act.put]) rfl ⟨rfl,bj⟩
def itC (x:Nat×Nat):List Value:=[.int .u64 (x.1:Int),.int .u64 (x.2:Int)]
def aH4 (key:Nat) (x y:Nat×Nat):Bool:=decide (fcmp (upN key x.1) x.2 (upN key y.1) y.2<0\/(fcmp (upN key x.1) x.2 (upN key y.1) y.2=0/\x.1<y.1))
def aE5 (key:Nat) (l:List (Nat×Nat)) (i:Nat) (x:Nat×Nat):Option Nat->Option Nat
 | none=>some i
 | some k=>if aH4 key x (l.getD k (0,0))=true then some i else some k
def aAp (key:Nat) (l:List (Nat×Nat)) (i:Nat) (x:Nat×Nat) (o:Option Nat):Option Nat:=if x.2=0 then o else aE5 key l i x o
def nC (key:Nat) (l:List (Nat×Nat)):Nat->Option Nat
 | 0=>none
 | i+1=>match l[i]? with
  | none=>nC key l i
  | some x=>aAp key l i x (nC key l i)
def nG (key:Nat) (l:List (Nat×Nat)):Option Nat:=nC key l l.length
def optV (o:Option Nat):Int:=match o with|none=>-1|some k=>(k:Int)
theorem aD4(j:Nat)(l:List (Nat×Nat)):∀i k,nC j l i=some k->k<i/\k<l.length
 | 0,k,h=>by cases h
 | i+1,k,h=>by
  have ih:=aD4 j l i;rw[nC]at h;rcases e:l[i]? with _|x
  .rw[e]at h;have:=ih k h;omega
  .rw[e]at h;have A:=(List.getElem?_eq_some_iff.1 e).1;dsimp only at h;unfold aAp at h;split at h
   .have:=ih k h;omega
   .rcases hm:nC j l i with _|m
    .rw[hm]at h
     cases h
     omega
    .rw[hm]at h;have:=ih m hm;unfold aE5 at h;dsimp only at h;split at h<;>(cases h;omega)
theorem alloc_fr(o:Oper)(h:o.op=.alloc 300)(ρ:Operand->Value)(w:World):(execOp ρ o).run prog w=.ok (.value (.pointer (some ⟨w.heap.size,0,none⟩))) (w.alloc (.cells #[.int .u64 0,.int .u64 0] 300)):=by
 obtain⟨d,j,t,A,E,g⟩:=o;dsimp only at h;subst h
 kernel_rfl
theorem pick_any(b:Nat)(f:Int)(sd j:Nat)(L:j<18446744073709551616)(l:List (Nat×Nat))(hl:∀x∈l,x.1<18446744073709551616/\x.2<18446744073709551616)(A:Option Addr)(n cap:Nat)(w:World)(al:IsT itC 2 w w.heap.size A n l)(hn:n<=1099511627776)(c9:∀p,A=some p->p.block≠b)(hW:gV w b f sd) :
 Cl 174 #[.pointer (some ⟨b,0,none⟩),.int .u64 (j:Int),.slice A n cap] w fun e w'=>e=.returned (.int .i64 (optV (nG j l)))/\bJ b f sd w w':=by
 have dc:=al.1;have dd:=hW.lt;obtain⟨w1,b7⟩:=eX (w.alloc (.cells #[.int .u64 0,.int .u64 0] 300));have ab:Below w.heap.size w w1:=b7▸bC;have bb:Hid (w1.heap[w.heap.size]?=some (.cells #[.int .u64 0,.int .u64 0] 300 (0,0))):=q_ (b7▸aJ _ _ _);have cj:Hid (bJ b f sd w w1):=q_ (.mk hW ab rfl);obtain⟨z,hz⟩:=eX w.heap.size;have d2:z<w1.heap.size:=by rw[<-hz];exact(Array.getElem?_eq_some_iff.1 bb).1
 rw[hz]at bb dd;have de:Hid (nC j l n=nG j l):=q_ (by unfold nG;rw[dc]);clear ab hW;replace ⟨al,hl⟩:=q_2 al hl;go_enter func174,ntmps174;go_upto_region 5 with fail
 clear b7;go_wp2_with fail
 go_loopw [7,9,10,11,12,18] (fun bv _ _ _ _ iv wr=>∃i:Nat,i<=n/\iv=.int .i64 (i:Int)/\bv=.int .i64 (optV (nC j l i))/\bJ b f sd w wr/\(∃u d:Nat,wr.heap[z]?=some (.cells #[.int .u64 (u:Int),.int .u64 (d:Int)] 300 (0,0))/\∀k,nC j l i=some k->(u,d)=(upN j (l.getD k (0,0)).1,(l.getD k (0,0)).2))) (fun _ _ _ _ _ iv _=>n - (intOf iv).toNat)
 case atStart=>exact⟨0,by omega,rfl,rfl,cj,0,0,bb,fun k h=>by cases h⟩
 case round =>
  obtain⟨i,hi,rfl,rfl,Y,u,d,ao,X⟩:=hrel;clear cj bb;by_cases dz:i<n
  .have df:(i:Int)<(n:Int):=by omega
   have d3:=wJ i;obtain⟨G,ac,x,rfl,ee,hx,b8⟩:=IsT.at (f:=itC) (size:=2) (fun _=>rfl) (by decide) al dz;have bc:G≠b:=c9 _ rfl;have bw:=hl x (bPa hx);have bd:Hid (nC j l (i+1)=aAp j l i x (nC j l i)):=q_ (by rw[nC,hx]);have am:=q_ (aD4 j l i);have bx:∀k,k<l.length->∃y,l[k]?=some y/\wr.cell? ⟨G,ac+k*2,none⟩=some (.int .u64 (y.1:Int)):=fun k L=>by
    obtain⟨dx,dy,y,hp,-,hy,hc⟩:=IsT.at (f:=itC) (size:=2) (fun _=>rfl) (by decide) al (show k<n by omega)
    cases hp
    refine⟨y,hy,(dFa (Y.2.block G (by omega) bc)).trans (hc 0 _ rfl)⟩
   have y0:wr.cell? ⟨G,ac+i*2,none⟩=some (.int .u64 (x.1:Int)):=(dFa (Y.2.block G (by omega) bc)).trans (b8 0 _ rfl);have y1:wr.cell? ⟨G,ac+i*2+1,none⟩=some (.int .u64 (x.2:Int)):=(dFa (Y.2.block G (by omega) bc)).trans (b8 1 _ rfl);have dg:Hid (l.getD i (0,0)=x):=q_ (by rw[bTa,hx];rfl);have an:∀k,k<l.length->(l.getD k (0,0)).2<18446744073709551616:=fun k L=>by
    rw[bTa,aXa L];exact(hl _ (fNa L)).2
   obtain⟨O,E⟩:=eX (nC j l i);rw[E]at bd X am ⊢;obtain⟨I,J⟩:=x;dsimp only at bw y0 y1;have d4:=Y.2.size;have d5:z<wr.heap.size:=(Array.getElem?_eq_some_iff.1 ao).1;have dh:w.heap.size<=z:=by omega
   clear b8 hx E;obtain⟨w4,ca⟩:=eX (wr.alloc (.cells #[.int .u64 (I:Int),.int .u64 (J:Int)] 295));have bz:Hid (Below wr.heap.size wr w4):=q_ (ca▸bC);have aw:Hid (w4.heap[wr.heap.size]?=some (.cells #[.int .u64 (I:Int),.int .u64 (J:Int)] 295 (0,0))):=q_ (ca▸aJ _ _ _);have di:wr.heap.size<w4.heap.size:=(Array.getElem?_eq_some_iff.1 aw).1;have be:=q_ (Y.quiet bz);have b0:=q_ (aG bz ao);have c4:=fun i=>aA aw i
   obtain⟨V,ae⟩:=eX (optV O);rw[ae];replace ⟨X,bx,Y,ao,ae,an⟩:=q_6 X bx Y ao ae an;go_upto_region 8 with fail
   clear y0 y1 ca;by_cases h0:J=0
   .have t0:((J:Int) == 0)=true:=by rw[h0];rfl
    have N:=q_ bd;unfold aAp at N;dsimp only at N;rw[bBa h0]at N;go_wp2_with fail
    exact⟨⟨i+1,by omega,by first|rfl|go_num,by rw[N.out,ae.out],be,u,d,b0,fun k L=>X k (by rw[<-N.out];exact L)⟩,by simp only[intOf];omega⟩
   have t0:((J:Int) == 0)=false:=by rw[bDa];omega
   have ax:nC j l (i+1)=aE5 j l i (I,J) O:=by
    have:=bd.out;unfold aAp at this;dsimp only at this;rw[bAa h0]at this;exact this
   have ql:=q_ (long_any b f sd j I J L bw.1 w4 be.1);obtain⟨U,hU⟩:=eX (upN j I);have dl:U<18446744073709551616:=by rw[<-hU];exact upN_lt _ _
   rw[hU]at ql;clear bd ao Y bz;replace ⟨ax,hU⟩:=q_2 ax hU;go_upto_region 9 with fail
   clear c4;apply aWa;iterate 2 refine pS ?_
   refine uH rfl 295 (.tmp 10) rfl wr.heap.size rfl #[.int .u64 (I:Int),.int .u64 (J:Int)] _ aw underlying295 rfl (by kernel_rfl) ?_;refine bRa rfl fun K hK=>?_;go_simp;refine(ql).mono ?_;rintro e w5 ⟨rfl,ay⟩;go_simp;refine hK _ _ ?_;clear hK K;have hE5':=be.trans ay;have cm:=(ay.2.block wr.heap.size di (by omega)).trans aw;have cn:=(ay.2.block z (by omega) (by omega)).trans b0;have d6:=ay.2.size;have co:∀k,k<l.length->∃y,l[k]?=some y/\w5.cell? ⟨G,ac+k*2,none⟩=some (.int .u64 (y.1:Int)):=fun k L=>by
    obtain⟨dx,dy,y,hp,-,hy,hc⟩:=IsT.at (f:=itC) (size:=2) (fun _=>rfl) (by decide) al (show k<n by omega)
    cases hp
    exact⟨y,hy,(dFa (hE5'.2.block G (by omega) bc)).trans (hc 0 _ rfl)⟩
   clear bx be aw b0 ql ay;refine gF rfl rfl 300 _ (alloc_fr _ rfl) 11 rfl (.tmp 29) rfl _ (fun _=>rfl) (fun _=>rfl) rfl (by kernel_rfl) (aGt (U:Int) (J:Int)) ?_;intro w6 az a7 eg;refine bCa ?_;go_simp;have cp:=q_ (hE5'.quiet a7);have cq:=q_ (aG a7 cm);have b2:=q_ (aG a7 cn);have aj:∀k,k<l.length->∃y,l[k]?=some y/\G<w6.heap.size/\w6.cell? ⟨G,ac+k*2,none⟩=some (.int .u64 (y.1:Int)):=fun k L=>by
    obtain⟨y,hy,hc⟩:=co k L;exact⟨y,hy,by omega,(a7.cell (p:=⟨G,ac+k*2,none⟩) (by show G<w5.heap.size;omega)).trans hc⟩
   clear co hE5' cm cn a7;replace ⟨az,aj⟩:=q_2 az aj;have dm:∃C:Int,(O=none->C=-1)/\∀k,O=some k->C=fcmp U J u d:=by
    rcases O with _|k
    .exact⟨-1,(fun _=>rfl),(fun k h=>by cases h)⟩
    .exact⟨fcmp U J u d,(fun h=>by cases h),fun k h=>rfl⟩
   obtain⟨C,a0,bf⟩:=dm;replace ⟨a0,bf⟩:=q_2 a0 bf;go_upto_if 31 with fail
   go_cut [12] from 30 to 34 (fun cv wx=>cv=.int .i64 C/\Below w6.heap.size w6 wx)
   case first =>
    rcases E:O with _|k
    .have ab:V=-1:=by rw[<-ae.out,E];rfl
     have t1:decide (0<=V)=false:=by rw[bEa];omega
     have eC:=q_ (a0 E);have dn:¬ (0<=V):=by omega
     clear E;replace ab:=q_ ab;go_wp2_with fail
     go_meet;exact⟨by rw[eC.out],bLa _ _⟩
    .have ab:V=(k:Int):=by rw[<-ae.out,E];rfl
     have t1:decide (0<=V)=true:=by rw[cBa];omega
     have dn:0<=V:=by omega
     have eC:=bf k E;have ap:=X k E;have bh:=(am k E).2;have eu:u=upN j (l.getD k (0,0)).1:=fFa Prod.fst ap;have ed:d=(l.getD k (0,0)).2:=fFa Prod.snd ap;have qf:=q_ (fcmp_any U J u d dl bw.2 (by rw[eu];exact upN_lt _ _) (by rw[ed];exact an k bh) w6);rw[<-eC]at qf;clear eC eu ed ap E ab;go_upto_region 12 with fail
     apply aWa;refine uH rfl 300 (.tmp 11) rfl w5.heap.size rfl #[.int .u64 (U:Int),.int .u64 (J:Int)] _ az underlying300 rfl (by kernel_rfl) ?_;refine uH rfl 300 (.tmp 8) rfl z rfl #[.int .u64 (u:Int),.int .u64 (d:Int)] _ b2 underlying300 rfl (by kernel_rfl) ?_;refine bRa rfl fun K hK=>?_;go_simp;refine(qf).mono ?_;rintro e w7 ⟨rfl,Z⟩;go_simp;refine hK _ _ ?_;clear hK K;refine pS ?_;refine bCa ?_;go_simp;replace Z:=q_ Z;go_wp2_with fail
     go_meet;exact⟨rfl,Z⟩
   case rest =>
   obtain⟨rfl,Z⟩:=hcut;have ct:=q_ (cp.quiet Z);have cu:=q_ (aG Z az);have cw:=q_ (aG Z cq);have cx:=q_ (aG Z b2);have d7:=Z.size;have cy:=q_ Z;have dp:∃NB:Bool,(NB=true↔(C<0\/(C=0/\∀k,O=some k->I<(l.getD k (0,0)).1)))/\(NB=true->nC j l (i+1)=some i)/\(NB=false->nC j l (i+1)=O):=by
    rcases O with _|k
    .have:=a0 rfl;refine⟨true,by simp;omega,fun _=>by rw[ax.out];rfl,(fun h=>by cases h)⟩
    .have hC:=bf k rfl;have ap:=X k rfl;have eu:u=upN j (l.getD k (0,0)).1:=fFa Prod.fst ap;have ed:d=(l.getD k (0,0)).2:=fFa Prod.snd ap;have dr:aH4 j (I,J) (l.getD k (0,0))=decide (C<0\/(C=0/\I<(l.getD k (0,0)).1)):=by
      unfold aH4;dsimp only;rw[hC,hU.out,eu,ed]
     have hs:=ax.out;unfold aE5 at hs;dsimp only at hs;rw[dr]at hs;refine⟨decide (C<0\/(C=0/\I<(l.getD k (0,0)).1)),?_,fun h=>?_,fun h=>?_⟩
     .rw[eRa]
      constructor
      .rintro(h|⟨h1,h2⟩)
       .exact .inl h
       .exact .inr ⟨h1,fun k' a9=>by cases a9;exact h2⟩
      .rintro(h|⟨h1,h2⟩)
       .exact .inl h
       .exact .inr ⟨h1,h2 k rfl⟩
     .rw[hs,bBa h]
     .rw[hs,bAa (by rw[h];decide)]
   obtain⟨NB,ak,hT,hF⟩:=dp;have li:=fun l':Later wc=>aA (kB l'.hb cw)
   have dt:=q_ hU;clear cp az cq b2 Z ax hU;replace ⟨ak,hT,hF⟩:=q_3 ak hT hF;go_upto_region 13 with fail
   go_cut [50] from 35 to 49 (fun bv wx=>bv=.bool NB/\Below wc.heap.size wc wx)
   case first =>
    by_cases c1:C<0
    .have t1:decide (C<0)=true:=bYa c1;obtain rfl:NB=true:=ak.2 (.inl c1);clear X am an aj;refine rL ?_;refine eS 0 16 0 ?_;simp only[dA,dC,dD];iterate 2 refine qE ?_
     refine jD (.bool true) 12 rfl (fun l=>rfl) (by as_aux_lemma=>kernel_rfl) ?_;dsimp only[wW,List.take_succ_cons,List.take_zero,List.drop_succ_cons,List.drop_zero,Act.put];refine qE ?_;refine aT ?_;refine eD fun w8 W=>?_;go_wp2_with fail
     go_meet;exact⟨rfl,W⟩
    have t1:decide (C<0)=false:=bWa c1;by_cases c2:C=0
    .have t2:(C == 0)=true:=by rw[c2];rfl
     obtain⟨k,E⟩:∃k,O=some k:=by
      rcases E:O with _|k
      .have:=a0 E;omega
      .exact⟨k,rfl⟩
     have ab:V=(k:Int):=by rw[<-ae.out,E];rfl
     have bh:=(am k E).2;obtain⟨y,hy,c7,cc⟩:=aj k bh;have b4:l.getD k (0,0)=y:=by rw[bTa,hy];rfl
     have d8:V<(n:Int):=by omega
     have d9:0<=V:=by omega
     have ek:V.toNat=k:=by omega
     obtain⟨yi,bp⟩:∃v,y.1=v:=⟨_,rfl⟩
     rw[bp]at cc;have c0:w6.cell? ⟨G,ac+V.toNat*2,none⟩=some (.int .u64 (yi:Int)):=by rw[ek];exact cc
     have lk:=fun l':Later wc=>(l'.hb.cell (p:=⟨G,ac+V.toNat*2,none⟩) (by show G<wc.heap.size;omega)).trans ((dFa (a:=⟨G,ac+V.toNat*2,none⟩) (cy.block G c7)).trans c0)
     have bk:NB=decide (I<yi):=by
      have h1:=ak.out;rw[gCa,eRa,h1]
      constructor
      .rintro(h|⟨-,h⟩)
       .omega
       .have:=h k E;rw[b4,bp]at this;exact this
      .intro h;exact .inr ⟨c2,fun k' a9=>by rw[E]at a9;cases a9;rw[b4,bp];exact h⟩
     clear X am an aj E ab bh hy c7 cc c0 b4 bp ek;replace c2:=q_ c2;by_cases c3:I<yi
     .have t3:decide (I<yi)=true:=bYa c3;have t3':decide ((I:Int)<(yi:Int))=true:=by rw[cBa];omega
      rw[t3]at bk;subst bk;refine rL ?_;refine eS 0 16 0 ?_;simp only[dA,dC,dD];iterate 16 refine qE ?_
      refine aT ?_;refine eD fun w8 W=>?_;go_wp2_with fail
      go_meet;exact⟨rfl,W⟩
     .have t3:decide (I<yi)=false:=bWa c3;have t3':decide ((I:Int)<(yi:Int))=false:=by rw[bEa];omega
      rw[t3]at bk;subst bk;refine rL ?_;refine eS 0 16 0 ?_;simp only[dA,dC,dD];iterate 16 refine qE ?_
      refine aT ?_;refine eD fun w8 W=>?_;go_wp2_with fail
      go_meet;exact⟨rfl,W⟩
    .have t2:(C == 0)=false:=by rw[bDa];exact c2
     obtain rfl:NB=false:=by
      rcases h:NB with _|_
      .rfl
      .rcases ak.1 h with h|⟨h,-⟩
       .exact absurd h c1
       .exact absurd h c2
     clear X am an aj;replace c2:=q_ c2;refine rL ?_;refine eS 0 16 0 ?_;simp only[dA,dC,dD];iterate 5 refine qE ?_
     refine jD (.bool false) 8 (by as_aux_lemma=>kernel_rfl) (fun l=>rfl) (by as_aux_lemma=>kernel_rfl) ?_;dsimp only[wW,List.take_succ_cons,List.take_zero,List.drop_succ_cons,List.drop_zero,Act.put];go_simp;iterate 2 refine qE ?_
     refine aT ?_;refine eD fun w8 W=>?_;go_wp2_with fail
     go_meet;exact⟨rfl,W⟩
   case rest =>
   obtain⟨rfl,W⟩:=hcut;have aq:=ct.quiet W;have a5:=aG W cu;have ar:=aG W cx;have eb:=W.size;clear ct cu cw cx cy li aj
   cases NB
   .have N:=hF rfl;clear hT hF ak;replace ⟨aq,a5,ar,N⟩:=q_4 aq a5 ar N;go_wp2_with fail
    exact⟨⟨i+1,by omega,by first|rfl|go_num,by rw[N.out,ae.out],aq,u,d,ar,fun k L=>X k (by rw[<-N.out];exact L)⟩,by simp only[intOf];omega⟩
   .have N:=hT rfl;clear hT hF ak;have lf:=fun l':Later wc=>aA (kB l'.hb a5)
    replace ⟨aq,a5,ar,N⟩:=q_4 aq a5 ar N;go_upto_region 14 with fail
    refine rL ?_;refine eS 0 3 1 ?_;simp only[dA,dC,dD];iterate 3 refine qE ?_
    refine aT ?_;refine eE fun l2=>?_;have b6:=aG l2.hb ar;have c5:=aq.quiet l2.hb;clear lf;refine tS 3 rfl fun K hK=>?_;rw[bBa (by unfold Region.wanted;rfl)];refine nL 300 (.tmp 8) (.tmp 52) rfl z 0 rfl #[.int .u64 (U:Int),.int .u64 (J:Int)] rfl b6 (by simp) (by kernel_rfl) (aGt _ _) fun w9 ba g9=>?_;refine hK _ _ ?_;clear hK K;rw[aQ _ _ (by rfl)]at ba;have dw:=q_ (c5.grown g9 b6 (by decide) (by decide) dh);clear c5 b6 g9;replace ba:=q_ ba;refine tD ?_;go_wp2_with fail
    exact⟨⟨i+1,by omega,by first|rfl|go_num,by rw[N.out];rfl,dw,U,J,ba,fun k L=>by rw[N.out]at L;cases L;rw[dg.out,dt.out]⟩,by simp only[intOf];omega⟩
  .obtain rfl:i=n:=by omega
   have df:((i:Int)<(i:Int))=False:=by simp
   replace Y:=q_ Y;clear X ao;go_wp2_with fail
   go_ret;exact⟨by rw[de.out];rfl,Y⟩
def wK (n:Nat) (p:List Nat×List Bool) (K:List Int):List (Nat×Nat):=K.map fun k=>(k.toNat,xV n p k)
def outK (o:Option Nat) (K:List Int):Int:=match o with|none=>-1|some i=>K.getD i (-1)
def pY (ns:List Nd) (p:List Nat×List Bool) (mix:Nat) (at':Int):Int :=
 if vV ns.length p at'=false then -1 else outK (nG mix (wK ns.length p (nV ns at'))) (nV ns at')
section
section
variable {w w':World} {b:Nat} {T:TypeId} {cs:Array Value}
theorem aLg(h:aV w.heap.size (fun k=>k=b) w w'):w.grownBy w' (some b):=⟨h.os,h.tape,h.output,h.size,fun i j A=>h.block i j (fun e=>A (by rw[e]))⟩
theorem rY{xs:List Value}(A:w.ownsRow j e sz v n xs)(E:w.heap[b]?=some (.cells cs T (0,0)))(G:T≠e)(h:aV w.heap.size (fun k=>k=b) w w'):w'.ownsRow j e sz v n xs :=
 cDa A (aLg h) (kU A E G)
theorem dW{j:TypeId}{E:Array Value}(A:w.heap[g]?=some (.cells E j (0,0)))(G:w.heap[b]?=some (.cells cs T (0,0)))(I:T≠j)(h:aV w.heap.size (fun k=>k=b) w w'):w'.heap[g]?=some (.cells E j (0,0)):=by
 refine(h.block g (aL A) ?_).trans A;rintro rfl;rw[A]at G;injection(bFa G)with _ h2 _
 exact I h2.symm
theorem aK3{G x:Nat}{ns:List Nd}(I:dH w G x ns)(E:w.heap[b]?=some (.cells cs T (0,0)))(J:T≠170)(L:T≠93)(N:T≠31)(O:T≠3)(h:aV w.heap.size (fun k=>k=b) w w'):dH w' G x ns:=by
 obtain⟨W,X,Y,Z,us,A⟩:=I;exact⟨W,X,Y,Z,us,dW A.blk E J h,A.hx,rY A.nodes E L h,rY A.kids E N h,⟨A.rows.len,fun j u y U V=>rY (A.rows.own j u y U V) E O h,A.rows.apart⟩,A.small⟩
theorem aC9{x:Nat}{ns:List Nd}(G:fH w s x ns p H)(A:w.heap[b]?=some (.cells cs T (0,0)))(I:T≠170)(J:T≠93)(L:T≠31)(E:T≠3)(N:T≠153)(O:T≠25)(U:T≠4)(h:aV w.heap.size (fun k=>k=b) w w'):fH w' s x ns p H:=by
 obtain⟨⟨V,W⟩,⟨X,Y,Z,hv,j⟩,hb⟩:=G;exact⟨⟨V,aK3 W A I J L E h⟩,⟨X,Y,Z,hv,dW j.blk A N h,dW j.rw A O h,dW j.rs A U h,rY j.hosts A E h,j.lw,j.ls,j.b1,j.b2,j.b3,j.n1,j.n2,j.n3⟩,hb⟩
theorem aNy{x:Nat}{ns:List Nd}{f:Int}(j:fH w s x ns p H)(A:gV w b f sd)(h:bJ b f sd w w'):fH w' s x ns p H:=by
 obtain⟨G,I,J,E,-⟩:=A;exact aC9 j E (by decide) (by decide) (by decide) (by decide) (by decide) (by decide) (by decide) h.2
end
end
theorem step_out(ns:List Nd)(p:List Nat×List Bool)(H:List Int)(s x b:Nat)(f:Int)(sd G:Nat)(i:Int)(w:World)(A:fH w s x ns p H)(I:gV w b f sd)(E:vV ns.length p i=false) :
 Cl 164 #[.pointer (some ⟨b,0,none⟩),.pointer (some ⟨s,0,none⟩),.int .i64 i,.int .u64 (G:Int)] w fun e w'=>e=.returned (.int .i64 (-1))/\w'=w:=by
 have j:=aE0 ns p H s x i w A;rw[E]at j;clear A I E;replace j:=q_ j;go_enter func164,ntmps164;go_wp2_with fail
 refine j.mono ?_;rintro e w ⟨rfl,rfl⟩;go_wp2_with fail
 go_ret;exact⟨rfl,rfl⟩
theorem info_it:(prog.info? 295).map (fun i=>(i.zero,i.size,i.bytes))=some (some (.agg #[.int .u64 0,.int .u64 0]),2,16):=by kernel_rfl
theorem XKeptG{w:World}(h:w.grownBy w' (some g))(A:S<=w.heap.size):aV S (fun k=>k=g) w w' :=
 ⟨h.os,h.tape,h.output,h.size,fun k E j=>h.block k (by omega) (by simpa using j)⟩
theorem it_one(a c:Int):(#[.int .u64 a,.int .u64 c]:Array Value).all (·.oneCell')=true:=aGt a c
theorem aQ7{w:World}{f:Int}(h:gV w b f sd):w.cell? ⟨b,5,none⟩=some (.int .u64 (sd:Int)):=by
 obtain⟨A,E,G,j,-⟩:=h;exact aA j 5
theorem aW0{w:World}{f:Int}{cs:Array Value}(E:gV w b f sd)(A:w.heap[g]?=some (.cells cs T (0,0)))(G:T≠120)(I:T≠25)(h:aV w.heap.size (fun k=>k=g) w w'):gV w' b f sd:=by
 obtain⟨J,L,N,O,j⟩:=E;refine⟨J,L,N,dW O A G h,?_⟩;rcases j with j|⟨j,U,xs,V,W,X⟩
 ·exact .inl j
 ·exact .inr ⟨j,U,xs,V,W,dW X A I h⟩
theorem kid_in{ns:List Nd}{i k:Int}(h:k∈nV ns i):0<=k/\k<(ns.length:Int):=by
 unfold nV at h;split at h
 ·unfold gJ jA jP at h;obtain⟨j,A,rfl⟩:=List.mem_map.1 h;have:=List.mem_range.1 (List.mem_filter.1 A).1;omega
 ·cases h
theorem step_in(ns:List Nd)(p:List Nat×List Bool)(H:List Int)(s x b:Nat)(f:Int)(sd G a:Nat)(w:World)(hS:fH w s x ns p H)(hW:gV w b f sd)(X:vV ns.length p (a:Int)=true)(E:G<18446744073709551616)(cc:sd<18446744073709551616) :
 Cl 164 #[.pointer (some ⟨b,0,none⟩),.pointer (some ⟨s,0,none⟩),.int .i64 (a:Int),.int .u64 (G:Int)] w fun e w'=>e=.returned (.int .i64 (pY ns p (ofN sd [G,a]) (a:Int)))/\bJ b f sd w w':=by
 have qh:=aE0 ns p H s x a w hS;have ch:ns.length<=1024:=by
  obtain⟨⟨bt,nv,kv,tv,V,us,hC⟩,-⟩:=hS;exact hC.small.1
 have dg:a<ns.length:=by
  unfold vV at X;simp only[eEa,cBa]at X;omega
 have ci:a<18446744073709551616:=by omega
 have am:pY ns p (ofN sd [G,a]) (a:Int)=outK (nG (ofN sd [G,a]) (wK ns.length p (nV ns a))) (nV ns a):=by
  unfold pY;rw[bAa (by rw[X];simp)]
 rw[X]at qh;have bd:=fun(k:Int) (w:World) (h:fH w s x ns p H)=>aSv ns p H s x k w h
 have hS':=hS;obtain⟨⟨bt,hT⟩,⟨ee,gw,gs,V,hM⟩,c3⟩:=hS';have c0:=aA hM.blk 0;have dh:=hM.lw;clear hM;have hq:=aM0 ns bt x a w hT;have an:∀k∈nV ns a,0<=k/\k<(ns.length:Int):=fun k E=>kid_in E
 have cj:(nV ns a).length<=1024:=by
  unfold nV;split
  ·exact bJa (aFz ns _) ch
  ·exact dEa _
 have az:∀y∈wK ns.length p (nV ns a),y.1<18446744073709551616/\y.2<18446744073709551616:=by
  intro y hy;unfold wK at hy;obtain⟨k,E,rfl⟩:=List.mem_map.1 hy;have:=an k E;refine⟨by show k.toNat<_;omega,?_⟩
  show xV ns.length p k<_
  unfold xV;split
  ·rw[bTa]
   cases e:p.1[k.toNat]? with
   | none=>simp
   | some v=>exact c3 v (bPa e)
  ·omega
 have a0:=fun(A:Option Addr) (w:World) (hr:IsR cK w w.heap.size A 2 [G,a])=>zK sd cc [G,a] (fun v V=>by
  rcases List.mem_cons.1 V with rfl|V
  ·exact E
  ·rw[dZa]at V;rw[V];exact ci) A 2 2 w.heap.size w hr (by omega)
 have bx:=aB4 sd [G,a];obtain⟨M,hM⟩:=eX (ofN sd [G,a]);rw[hM]at am a0 bx;rw[hM,am];obtain⟨L,hL⟩:=eX (nV ns a);rw[hL]at am hq an cj az ⊢;obtain⟨I,hI⟩:=eX (wK ns.length p L);have a1:I.length=L.length:=by rw[<-hI];unfold wK;rw[bNa]
 have be:∀j k,L[j]?=some k->I[j]?=some (k.toNat,xV ns.length p k):=fun j k h=>by
  rw[<-hI];unfold wK;rw[fGa,h]
  rfl
 have ae:∀i,nG M I=some i->i<L.length:=fun i h=>by
  have:=(aD4 M I _ i h).2;omega
 have qp:=fun(A:Option Addr) (w:World) (X:IsT itC 2 w w.heap.size A I.length I) (h2:∀p,A=some p->p.block≠b) (hW:gV w b f sd)=>pick_any b f sd M bx I (by rw[<-hI];rw[hI];rw[hI]at az;exact az) A I.length I.length w X (by omega) h2 hW
 rw[hI]at az am ⊢;obtain⟨P,W⟩:=eX (nG M I);rw[W]at am qp ae ⊢;obtain⟨R,hR⟩:=eX (outK P L);rw[hR];obtain⟨n,Y⟩:=eX L.length;rw[Y]at a1 cj ae hq;rw[a1]at qp;obtain⟨z,hz⟩:=eX w.heap.size;obtain⟨N,hN⟩:=eX ns.length;rw[hN]at bd an be ch;have wa:IntKind.u64.wrap (a:Int)=(a:Int):=by rw[cTa];omega
 clear hT c3 hM hL hI am bx X az dg ci E cc dh W hN;have d5:=hW.lt;replace ⟨hS,hW,hq,an,a0,a1,be,ae,qp,bd,Y,hR⟩:=q_12 hS hW hq an a0 a1 be ae qp bd Y hR;go_enter func164,ntmps164;go_wp2_with fail
 refine qh.mono ?_;rintro e w ⟨rfl,rfl⟩;clear qh;go_wp2_with fail
 refine hq.mono ?_;rintro e w1 ⟨v,rfl,V,av⟩;obtain⟨Ak,ck,dx,-,-,c6⟩:=bE V;subst dx;have cl:=hS.on av;have cm:=hW.on av;have di:=av.size;obtain⟨w2,c7,ag,aq,dy⟩:=aKe (f:=itC) (sz:=2) (z:=(0,0)) (zv:=.agg #[.int .u64 0,.int .u64 0]) underlying293 info_it (by decide) (by decide) rfl rfl n (by omega) w1;obtain⟨g,hg⟩:=eX w1.heap.size;have bz:=cl.on aq;have bf:=cm.on aq;rw[hg]at ag c7 dy di;have b0:∀j k,L[j]?=some k->∃J aa,Ak=some ⟨J,aa,none⟩/\J<g/\w2.cell? ⟨J,aa+j,none⟩=some (.int .i64 k):=fun j k hj=>by
  have dj:=(List.getElem?_eq_some_iff.1 hj).1;have hn':=Y.out;obtain⟨J,aa,X,h2,h3⟩:=c6.2 (by omega);refine⟨J,aa,X,by omega,?_⟩;rw[aq.cell (p:=⟨J,aa+j,none⟩) (by show J<_;omega)];have h4:=h3 j (by rw[bNa];exact dj);rw[h4,eBa];rw[(List.getElem?_eq_some_iff.1 hj).2]
  rfl
 have Z:=av.trans (aq.mono av.size);rw[hz]at Z;have cn:=q_ (mU V aq);clear V c6 av aq cl cm hS;replace ⟨ag,Z,bz,bf,b0,hg,hz⟩:=q_7 ag Z bz bf b0 hg hz;go_upto_region 5 with fail
 clear c7;go_wp2_with fail
 go_loopw [11,12,33] (fun _ _ iv wr=>∃j:Nat,j<=n/\iv=.int .i64 (j:Int)/\(∃xs,sZ itC 2 295 wr g xs/\xs.length=n/\∀m,m<j->xs[m]?=I[m]?)/\aV w2.heap.size (fun k=>k=g) w2 wr) (fun _ _ iv _=>n - (intOf iv).toNat)
 case atStart=>exact⟨0,by omega,rfl,⟨_,ag,dCa,fun m hm=>absurd hm (by omega)⟩,gQ _ _ _⟩
 case round =>
  obtain⟨j,hj,rfl,⟨xs,hx,bp,a6⟩,E⟩:=hrel;by_cases b3:j<n
  ·have t1:(j:Int)<(n:Int):=by omega
   have a2:L[j]?=some (L[j]'(by rw[Y.out];exact b3)):=aXa _;obtain⟨k,ar⟩:=eX (L[j]'(by rw[Y.out];exact b3));rw[ar]at a2;have d6:=an k (bPa a2);obtain⟨U,rfl⟩:∃U:Nat,k=(U:Int):=⟨k.toNat,by omega⟩
   obtain⟨J,aa,rfl,ei,hc⟩:=b0 j _ a2;have hc':wr.cell? ⟨J,aa+j,none⟩=some (.int .i64 (U:Int)):=(dFa (E.block J (by omega) (by omega))).trans hc;obtain⟨cs,au,b9⟩:=ag.out;have co:=aC9 bz au (by decide) (by decide) (by decide) (by decide) (by decide) (by decide) (by decide) E;have qw:=bd (U:Int) wr co;have a5:=be j _ a2;rw[bMa]at a5;obtain⟨wt,d0⟩:=eX (xV N p (U:Int));rw[d0]at qw a5;have wk:IntKind.u64.wrap (U:Int)=(U:Int):=by rw[cTa];omega
   obtain⟨ds,b1,bh⟩:=hx;have dm:j*2+2<=ds.size:=by rw[bh.1,bp];omega
   clear au b9 hc ar a2 co;replace ⟨b1,bh,a6,E,qw,a5⟩:=q_6 b1 bh a6 E qw a5;go_upto_region 8 with fail
   apply aWa;iterate 6 refine pS ?_
   refine bRa rfl fun K O=>?_;go_simp;refine(qw).mono ?_;rintro e wr ⟨rfl,rfl⟩;go_simp;refine O _ _ ?_;clear O K;iterate 2 refine pS ?_
   refine bQ rfl 295 (.tmp 46) (.tmp 45) rfl g (j*2) rfl #[.int .u64 (U:Int),.int .u64 (wt:Int)] rfl b1 dm (by kernel_rfl) (it_one _ _) fun w4 ce g4=>?_;refine bCa ?_;go_simp;have cp:=bh.put (fun _=>rfl) (i:=j) (by omega) (U,wt);have ab:aV w2.heap.size (fun k=>k=g) w2 w4:=eQ _ _ _ _ _ E (XKeptG g4 E.size);have b2:∃xs,sZ itC 2 295 w4 g xs/\xs.length=n/\∀m,m<j+1->xs[m]?=I[m]?:=⟨xs.set j (U,wt),⟨_,ce,cp⟩,by rw[cFa];exact bp,fun m hm=>by
    by_cases e:m=j
    ·subst e;rw[dAa (by omega),a5.out]
    ·rw[cQa (fVa e)];exact a6 m (by omega)⟩
   clear ce g4 cp qw;replace ⟨ab,b2⟩:=q_2 ab b2;go_wp2_with fail
   exact⟨⟨j+1,by omega,by first|rfl|go_num,b2,ab⟩,by simp only[intOf];omega⟩
  ·have hjn':j=n:=by omega
   have t1:¬ (j:Int)<(n:Int):=by omega
   have dp:xs=I:=List.ext_getElem? fun m=>by
    rcases eMa m n with h|h
    ·exact a6 m (by omega)
    ·rw[fZa (by omega),fZa (by have:=a1.out;omega)]
   subst dp;have dq:=hx.lt;have a7:=hx.isT (fun _=>rfl) (by decide) dq;rw[bp]at a7;obtain⟨cs,au,b9⟩:=ag.out;have a8:=aW0 bf au (by decide) (by decide) E;have bi:=rY cn au (by decide) E;have d7:z<=g:=by have:=hz.out;have:=hg.out;omega
   have bj:bJ b f sd w wr:=by
    refine⟨a8,E.os.trans Z.os,E.tape.trans Z.tape,E.output.trans Z.output,by have:=Z.size;have:=hz.out;have:=E.size;omega,fun m hm d2=>?_⟩;rw[hz.out]at hm;exact(E.block m (by have:=Z.size;have:=hz.out;omega) (by omega)).trans (Z.block m hm)
   obtain⟨bo,ai⟩:=eX (optV P);have dr:Hid (g≠b):=q_ (by omega);have qp':=qp.out;rw[ai]at qp';clear au b9 hx a6 bp ag bf cn E qp b3 hjn';replace ⟨a7,a8,bi,bj,ai,qp'⟩:=q_6 a7 a8 bi bj ai qp';go_upto_region 10 with fail
   refine rX (WkR b f sd) ?_;intro w3 bc;have a9:=a8.on bc;have lb:=fun l:bU (WkR b f sd) w3=>aQ7 (l.hk.1 a9)
   have cq:=q_ (bj.quiet bc);have cr:=q_ (a7.on bc);have ct:=q_ (mU bi bc);clear a8 bj a7 bi;replace a9:=q_ a9;refine xS (WkR b f sd) 0 10 5 ?_;simp only[dA,dC,dD];iterate 10 refine qX ?_
   refine aN ?_;refine xS (WkR b f sd) 12 1 4 ?_;simp only[dB,dA,dC,dD];refine qX ?_;refine aN ?_;clear lb;refine fS 10 rfl fun K O=>?_;go_simp;obtain⟨w4,bq⟩:=eX (w3.alloc (.cells #[.int .u64 (G:Int),.int .u64 (a:Int)] 25));have ap:Below w3.heap.size w3 w4:=bq▸bC;have b4:dX cK 25 w4 w3.heap.size [G,a]:=bq▸aJ _ _ _;have b5:=a9.on ap;have bl:=cq.quiet ap;have cu:=cr.on ap;have bm:=mU ct ap;have cv:∀p:Addr,(some (⟨g,0,none⟩:Addr))=some p->p.block≠b:=fun p hp=>by cases hp;exact dr
   rw[bq];refine O _ _ (WkR.of ap) ?_;clear O K bq ap bc a9 cq cr ct;have qm:=q_ (a0 (some ⟨w3.heap.size,0,none⟩) w4 (b4.isr b4.lt));have cx:=q_ (qp' (some ⟨g,0,none⟩) w4 cu cv b5);have du:=q_ b5;clear qp' a0 b4 cv cu b5;replace ⟨bl,bm⟩:=q_2 bl bm;refine fS 11 rfl fun K O=>?_;go_simp;go_at_call 84;refine qm.mono ?_;rintro e w5 ⟨rfl,rfl⟩;refine O _ _ (cB.refl _) ?_;clear O K qm;refine fS 13 rfl fun K O=>?_;go_simp;go_at_call 174;refine cx.mono ?_;rintro e w5 ⟨rfl,hE⟩;refine O _ _ hE.r ?_;clear O K cx;have ab:bJ b f sd w w5:=bl.trans hE;obtain⟨dn,sm,lv,c9,-⟩:=du.out;have cy:=q_ (rY bm c9 (by decide) hE.2);clear bl hE bm c9;replace ab:=q_ ab;refine xM 14 rfl ?_;refine fD ?_;rcases W:P with _|i
   ·have hb:bo=-1:=by rw[<-ai.out,W];rfl
    subst hb;have ba:Hid (R=-1):=q_ (by rw[<-hR.out,W];rfl);clear W ai ae hR;go_wp2_with fail
    go_ret;exact⟨by rw[ba.out];rfl,ab⟩
   ·have hb:bo=(i:Int):=by rw[<-ai.out,W];rfl
    subst hb;have b7:=ae i W;have t2:(0:Int)<=(i:Int):=by omega
    have b8:L[i]?=some (L[i]'(by rw[Y.out];exact b7)):=aXa _;obtain⟨k,ar⟩:=eX (L[i]'(by rw[Y.out];exact b7));rw[ar]at b8;obtain⟨A5,c5,ca,-,-,da⟩:=bE cy;injection ca with ca _ cz
    subst ca;obtain⟨J,aa,rfl,-,hc⟩:=da.2 (by omega);have cz:=hc i (by rw[bNa,Y.out];exact b7);rw[eBa,ar]at cz;have ba:R=k:=by
     rw[<-hR.out,W]
     show L.getD i (-1)=k
     rw[bTa,b8]
     rfl
    have d9:(i:Int)<(n:Int):=by omega
    clear W ai ae da hc cy hR ar b8;replace ba:=q_ ba;go_wp2_with fail
    go_ret;exact⟨by rw[ba.out];rfl,ab⟩
theorem step_any(ns:List Nd)(p:List Nat×List Bool)(H:List Int)(s x b:Nat)(f:Int)(sd j:Nat)(i:Int)(w:World)(E:fH w s x ns p H)(A:gV w b f sd)(G:j<18446744073709551616)(I:sd<18446744073709551616) :
 Cl 164 #[.pointer (some ⟨b,0,none⟩),.pointer (some ⟨s,0,none⟩),.int .i64 i,.int .u64 (j:Int)] w fun e w'=>e=.returned (.int .i64 (pY ns p (ofN sd [j,i.toNat]) i))/\bJ b f sd w w':=by
 by_cases h:vV ns.length p i=true
 ·have J:0<=i:=by
   unfold vV at h;simp only[eEa,cBa]at h;exact h.1.1
  obtain⟨a,rfl⟩:∃a:Nat,i=(a:Int):=⟨i.toNat,by omega⟩
  rw[bMa];exact step_in ns p H s x b f sd j a w E A h G I
 ·have h':vV ns.length p i=false:=by simpa using h
  have e:pY ns p (ofN sd [j,i.toNat]) i=-1:=by unfold pY;rw[bBa h']
  rw[e];refine(step_out ns p H s x b f sd j i w E A h').mono ?_;rintro e w' ⟨rfl,rfl⟩;exact⟨rfl,.refl A⟩
def aA1 (ns:List Nd) (p:List Nat×List Bool) (sd key:Nat):Nat->Int->List Int->List Int
 | 0,_,_=>[]
 | k+1,a,out=>if(eU ns a).kind=4 then out else if pY ns p (ofN sd [key,a.toNat]) a<0 then[]else aA1 ns p sd key k (pY ns p (ofN sd [key,a.toNat]) a) (out++[pY ns p (ofN sd [key,a.toNat]) a])
def rP (ns:List Nd) (p:List Nat×List Bool) (sd key:Nat) (a:Int):List Int:=if vV ns.length p a=false then[]else aA1 ns p sd key ns.length a [a]
theorem step_lt{ns:List Nd}{M:Nat}{a:Int}(G:Rise ns)(h:0<=pY ns p M a):a<pY ns p M a/\pY ns p M a<(ns.length:Int):=by
 unfold pY at h ⊢;split at h
 .omega
 .rename_i J;rw[bAa J];have A:outK (nG M (wK ns.length p (nV ns a))) (nV ns a)∈nV ns a:=by
   unfold outK at h ⊢;split at h
   .omega
   .rename_i i L;rw[bTa]at h ⊢
    cases e:(nV ns a)[i]? with
    | none=>rw[e]at h;simp at h
    | some v=>exact bPa e
  generalize outK (nG M (wK ns.length p (nV ns a))) (nV ns a)=k at A;refine⟨?_,(kid_in A).2⟩;unfold nV at A;split at A
  .rename_i N;unfold gJ jA jP at A;obtain⟨j,I,rfl⟩:=List.mem_map.1 A;have E:=(List.mem_filter.1 I).2
   cases e:ns[j]? with
   | none=>rw[e]at E;simp at E
   | some n =>
    rw[e]at E;simp only[Option.any_some,cBa]at E;have:=G j n e
    show a<(j:Int)
    omega
  .cases A
theorem bJ.grew{w A E:World}{f:Int}{G:Nat}{xs:List Value}(h:bJ b f sd w A)(I:A.ownsRow G e sz v n xs)(j:A.grownBy E v.ownBlock)(J:e≠25)(L:e≠120)(N:w.heap.size<=G):bJ b f sd w E:=by
 rcases I.2 with⟨rfl,_⟩|⟨g,cap,W,rfl,U,V,_⟩
 .exact h.quiet ⟨j.os,j.tape,j.output,j.size,fun k O=>j.block k O (by simp[Value.ownBlock])⟩
 .exact bJ.grown h j V J L (bJa N U)
theorem down_in(ns:List Nd)(hG:nD ns)(p:List Nat×List Bool)(H:List Int)(s x b:Nat)(f:Int)(sd G a:Nat)(w:World)(hS:fH w s x ns p H)(hW:gV w b f sd)(Y:vV ns.length p (a:Int)=true)(hk:G<18446744073709551616)(az:sd<18446744073709551616) :
 Cl 142 #[.pointer (some ⟨b,0,none⟩),.pointer (some ⟨s,0,none⟩),.int .i64 (a:Int),.int .u64 (G:Int)] w fun e w'=>(∃v,e=.returned v/\w'.ownsRow w.heap.size 3 1 v (rP ns p sd G a).length ((rP ns p sd G a).map bL))/\bJ b f sd w w':=by
 have qh:=aE0 ns p H s x a w hS;have bg:ns.length<=1024:=by
  obtain⟨⟨bt,nv,kv,tv,I,us,hC⟩,-⟩:=hS;exact hC.small.1
 have a1:a<ns.length:=by
  unfold vV at Y;simp only[eEa,cBa]at Y;omega
 have af:Hid (rP ns p sd G a=aA1 ns p sd G ns.length a [(a:Int)]):=q_ (by unfold rP;rw[bAa (by rw[Y];simp)]);obtain⟨R,hR⟩:=eX (rP ns p sd G a);rw[hR]at af ⊢;rw[Y]at qh;have bh:=q_ hG.good.rise;have ao:Hid (∀w',bJ b f sd w w'->fH w' s x ns p H):=q_ (fun w' j=>aNy hS hW j);have qs:Hid (∀(i:Int) (w':World),bJ b f sd w w'->Cl 164 #[.pointer (some ⟨b,0,none⟩),.pointer (some ⟨s,0,none⟩),.int .i64 i,.int .u64 (G:Int)] w' fun e al=>e=.returned (.int .i64 (pY ns p (ofN sd [G,i.toNat]) i))/\bJ b f sd w' al):=q_ (fun i w' j=>step_any ns p H s x b f sd G i w' (ao w' j) j.1 hk az);have qn:∀(i:Int) (w':World),bJ b f sd w w'->Cl 23 #[.pointer (some ⟨x,0,none⟩),.int .i64 i] w' fun e al=>e=.returned (.agg (ndA (eU ns i)))/\Below w'.heap.size w' al:=fun i w' j=>by
  obtain⟨⟨bt,hT⟩,-,-⟩:=ao w' j;exact uD ns i bt x w' hT
 have c0:∀w',bJ b f sd w w'->w'.cell? ⟨s,0,none⟩=some (.pointer (some ⟨x,0,none⟩)):=fun w' j=>by
  obtain⟨-,⟨b1,gw,gs,I,L⟩,-⟩:=ao w' j;exact aA L.blk 0
 have bj:bJ b f sd w w:=.refl hW;obtain⟨w1,au⟩:=eX (w.alloc (.cells #[.int .i64 (a:Int)] 3));have a2:Hid (bJ b f sd w w1):=q_ (bj.quiet (au▸bC));obtain⟨z,hz⟩:=eX w.heap.size;have ag:w1.ownsRow z 3 1 (.slice (some ⟨z,0,none⟩) 1 1) 1 [bL (a:Int)]:=by
  rw[<-au,<-hz];exact World.ownsRow_lit w _ 1 (aZa _) (by decide) rfl
 obtain⟨N,hN⟩:=eX ns.length;rw[hN]at a1 bg af;rw[hz];clear hS hW Y hk az hG hR;replace ⟨qn,c0,ag,hN⟩:=q_4 qn c0 ag hN;go_enter func142,ntmps142;go_wp2_with fail
 refine qh.mono ?_;rintro e w ⟨rfl,rfl⟩;clear qh;go_upto_region 4 with fail
 clear au;go_loopw [2,9] (fun iv ov wr=>∃(k i:Nat) (xs:List Int),iv=.int .i64 (i:Int)/\wr.ownsRow z 3 1 ov xs.length (xs.map bL)/\i<N/\N<=k+i/\xs.length+k<=N+1/\aA1 ns p sd G k i xs=R/\bJ b f sd w wr) (fun iv _ _=>N - (intOf iv).toNat)
 case atStart=>exact⟨N,a,[(a:Int)],rfl,ag,a1,by omega,by simp;omega,af.symm,a2⟩
 case round =>
  obtain⟨k,i,xs,rfl,I,hi,b5,b6,E,j⟩:=hrel;clear ag a2 af;obtain⟨k,rfl⟩:∃k',k=k'+1:=⟨k - 1,by omega⟩
  rw[aA1]at E;have cc:=c0 wr j;have O:=q_ (qn i wr j);obtain⟨nd,a8⟩:=eX (eU ns i);rw[a8]at O E;obtain⟨nm,kd,ab,wt,W⟩:=nd;unfold ndA at O;dsimp only at O E;obtain⟨M,L⟩:=eX (pY ns p (ofN sd [G,(i:Int).toNat]) (i:Int));have Z:=q_ (fun h=>step_lt (ns:=ns) (p:=p) (M:=ofN sd [G,(i:Int).toNat]) (a:=(i:Int)) bh h);rw[L]at E Z;obtain⟨A,c,rfl,-,-,-⟩:=bE I;clear a8;replace L:=q_ L;by_cases X:kd=4
  .rw[bBa X]at E;have t:(kd != 4)=false:=by rw[X];rfl
   subst E;clear X Z L;replace ⟨I,j⟩:=q_2 I j;go_wp2_with fail
   refine O.mono ?_;rintro e w5 ⟨rfl,V⟩;have a3:=aCs (str nm) kd ab wt W.v6 (W.hi:Int) (W.lo:Int) w5;clear O;have J:=q_ (j.quiet V);have ah:=q_ (mU I V);clear V j I;go_wp2_with fail
   go_ret;exact⟨⟨_,rfl,ah⟩,J⟩
  rw[bAa X]at E;have t:(kd != 4)=true:=by simpa using X
  clear X;replace ⟨I,j,E⟩:=q_3 I j E;go_wp2_with fail
  refine O.mono ?_;rintro e w5 ⟨rfl,V⟩;have a3:=aCs (str nm) kd ab wt W.v6 (W.hi:Int) (W.lo:Int) w5;clear O;have ai:=q_ (j.quiet V);have ah:=q_ (mU I V);have ar:=q_ (qs i w5 ai);rw[L.out]at ar;clear V j I;go_wp2_with fail
  clear a3 cc;refine ar.mono ?_;rintro e w6 ⟨rfl,aw⟩;have J:=ai.trans aw;obtain⟨dn,sm,lv,bc,-⟩:=ai.out.1;have U:=rY ah bc (by decide) aw.2;have bl:z<=w6.heap.size:=by have:=J.2.size;omega
  clear ar ai aw ah bc;by_cases bd:M<0
  .have h2:=E.out;rw[bBa bd]at h2;subst h2;clear L Z E;replace ⟨J,U⟩:=q_2 J U;go_wp2_with fail
   go_ret;exact⟨⟨_,rfl,cKa _ _ _ _⟩,J⟩
  .obtain⟨m,rfl⟩:∃m:Nat,M=(m:Int):=⟨M.toNat,by omega⟩
   have h2:=q_ E;rw[bAa bd]at h2;obtain⟨h3,h4⟩:=Z (by omega);rw[hN.out]at h4;clear L Z E;replace ⟨J,U⟩:=q_2 J U;go_upto_region 8 with fail
   apply aWa;iterate 3 refine pS ?_
   refine rM (T:=3) dRa yN rfl (by decide) (by decide) rfl (.tmp 35) (.tmp 37) rfl z (.slice A xs.length c) xs.length (xs.map bL) [.int .i64 (m:Int)] rfl rfl U rfl (by intro u E;rw[dZa]at E;subst E;rfl) bl (by omega) fun v7 w7 q1 q2=>?_;have bm:=q_ (bJ.grew J U q2.grown (by decide) (by decide) (by omega));obtain⟨A7,c7,br,-,-,-⟩:=bE q1;subst br;clear J U q2;replace q1:=q_ q1;refine pS ?_;refine bCa ?_;go_simp;go_wp2_with fail
   exact⟨⟨k,m,xs++[(m:Int)],rfl,by rw[bHa,cWa];exact q1,by omega,by omega,by rw[bHa];simp;omega,h2,bm⟩,by simp only[intOf];omega⟩
theorem down_any(ns:List Nd)(I:nD ns)(p:List Nat×List Bool)(H:List Int)(s x b:Nat)(f:Int)(sd j:Nat)(i:Int)(w:World)(A:fH w s x ns p H)(E:gV w b f sd)(J:j<18446744073709551616)(L:sd<18446744073709551616) :
 Cl 142 #[.pointer (some ⟨b,0,none⟩),.pointer (some ⟨s,0,none⟩),.int .i64 i,.int .u64 (j:Int)] w fun e w'=>(∃v,e=.returned v/\w'.ownsRow w.heap.size 3 1 v (rP ns p sd j i).length ((rP ns p sd j i).map bL))/\bJ b f sd w w':=by
 by_cases h:vV ns.length p i=true
 .have O:0<=i:=by
   unfold vV at h;simp only[eEa,cBa]at h;exact h.1.1
  obtain⟨a,rfl⟩:∃a:Nat,i=(a:Int):=⟨i.toNat,by omega⟩
  exact down_in ns I p H s x b f sd j a w A E h J L
 .have h':vV ns.length p i=false:=by simpa using h
  have e:rP ns p sd j i=[]:=by unfold rP;rw[bBa h']
  rw[e];have G:=aE0 ns p H s x i w A;have N:=q_ (bJ.refl E);rw[h']at G;clear h h' e A E I J L;go_enter func142,ntmps142;go_wp2_with fail
  refine G.mono ?_;rintro e w ⟨rfl,rfl⟩;clear G;go_wp2_with fail
  go_ret;exact⟨⟨_,rfl,cKa _ _ _ _⟩,N⟩
def aAh (ns:List Nd) (p:List Nat×List Bool) (fr:Int) (F:Nat):List Nat:=vL (mM (jN ns p).1 fr) (mM (jN ns p).2 fr) F (dM ns).length
theorem aN4(l:List Nat)(j:Int):(mM l j).length=l.length:=by
 unfold mM;split
 .rfl
 .rw[bHa,cCa,bGa];omega
theorem turn_two{a:List Nat}(J:h.length=a.length){G:Int}{x y:Nat}(E:(mM h G)[i]?=some x)(A:(mM a G)[i]?=some y):∃j:Nat,h[j]?=some x/\a[j]?=some y:=by
 unfold mM at E A;rw[<-J]at A;split at E
 .rename_i I;rw[bBa I]at A;exact⟨i,E,A⟩
 .rename_i I;rw[bAa I]at A;rcases eMa i (h.length - G.toNat)with L|L
  .rw[cEa (by rw[cCa];omega),eJa]at E;rw[cEa (by rw[cCa];omega),eJa]at A;exact⟨_,E,A⟩
  .rw[cJa (by rw[cCa];omega),cCa,gAa]at E;rw[cJa (by rw[cCa];omega),cCa,gAa,<-J]at A;split at E
   .rename_i N;rw[bBa N]at A;exact⟨_,E,A⟩
   .cases E
theorem loads_lw{ns:List Nd}(J:nD ns)(O:ns.length<=1024)(p:List Nat×List Bool)(I:Int){F:Nat}(L:100<=F)(N:F<=1000):LW (dM ns).length F (mM (jN ns p).1 I) (mM (jN ns p).2 I):=by
 have A:=aGp ns p;refine⟨J.tops,by rw[aN4];exact A.l1,by rw[aN4];exact A.l2,L,N,fun i x y E G=>?_⟩;obtain⟨j,E,G⟩:=turn_two (A.l1.trans A.l2.symm) E G;obtain⟨U,V⟩:=A.le j x y E G;have:=aA4 ns;omega
theorem aT2(ns:List Nd)(X:nD ns)(p:List Nat×List Bool)(H:List Int)(s x b:Nat)(F sd:Nat)(h1:100<=F)(h2:F<=1000)(G:Int)(w:World)(hS:fH w s x ns p H)(hW:gV w b (F:Int) sd) :
 Cl 159 #[.pointer (some ⟨b,0,none⟩),.pointer (some ⟨s,0,none⟩),.int .i64 G] w fun e w'=>(∃g,e=.returned (.slice (some ⟨g,0,none⟩) (dM ns).length (dM ns).length)/\dX fQ 3 w' g (aAh ns p G F)/\w.heap.size<=g)/\Below w.heap.size w w':=by
 have ax:ns.length<=1024:=by
  obtain⟨⟨bt,nv,kv,tv,hv,us,hC⟩,-⟩:=hS;exact hC.small.1
 have I:=q_ (aRn ns X p H s x w hS);have Y:=loads_lw X ax p G h1 h2;have hI:=aGp ns p;have bh:=X.tops;have ag:=q_ hI.l1;have ah:=q_ hI.l2;have E:=q_ (fun(A1 A2:Option Addr) (c1 c2:Nat) (w:World) k1 k2=>lof_any Y A1 A2 c1 c2 w k1 k2);have O:=q_ Y.lh;have U:=q_ Y.la;unfold aAh;obtain⟨C1,a6⟩:∃C,(jN ns p).1=C:=⟨_,rfl⟩
 obtain⟨C2,a7⟩:∃C,(jN ns p).2=C:=⟨_,rfl⟩
 rw[a6]at I ag E O ⊢;rw[a7]at I ah E U ⊢;obtain⟨T1,ap⟩:∃T,mM C1 G=T:=⟨_,rfl⟩
 obtain⟨T2,aq⟩:∃T,mM C2 G=T:=⟨_,rfl⟩
 rw[ap]at E O ⊢;rw[aq]at E U ⊢;obtain⟨L,hL⟩:=eX ((dM ns).length);rw[hL]at I ag ah bh E O U ⊢;obtain⟨R,hR⟩:=eX (vL T1 T2 F L);rw[hR]at E ⊢;have q1:=q_ (fun(A:Option Addr) (w:World) (h:IsR fQ w w.heap.size A L C1)=>aDp C1 L L G A w h (by omega) (aZa _) (by unfold maxLen;omega));have q2:=q_ (fun(A:Option Addr) (w:World) (h:IsR fQ w w.heap.size A L C2)=>aDp C2 L L G A w h (by omega) (aZa _) (by unfold maxLen;omega));rw[ap]at q1;rw[aq]at q2;obtain⟨dn,sm,lv,hb,-⟩:=hW;obtain⟨z,hz⟩:=eX w.heap.size;have ay:=aL hb;rw[hz]at I ay ⊢;clear hR hL ap aq a6 a7 hI Y hS X ax;go_enter func159,ntmps159;go_wp2_with fail
 refine I.mono ?_;rintro e w1 ⟨⟨gh,ga,rfl,hh,ha,b8,b9⟩,Z⟩;have az:=kB Z hb;clear I hb;go_upto_region 4 with fail
 refine rX (Below z) ?_;intro w3 N;have bq:=Z.size;have a0:Hid (Below z w w3):=q_ ((tw Z N));have bi:=q_ (aG N az);have lc:=fun l:bU (Below z) w3=>aA ((l.hk.block b ay).trans bi)
 have ak:=q_ (hh.on N);have a1:=q_ (ha.on N);have br:=N.size;clear az hh ha Z N;refine xS (Below z) 0 2 10 ?_;simp only[dA,dC,dD];iterate 2 refine qX ?_
 refine aN ?_;refine xS (Below z) 3 2 8 ?_;simp only[dB,dA,dC,dD];iterate 2 refine qX ?_
 refine aN ?_;refine xS (Below z) 6 4 4 ?_;simp only[dB,dA,dC,dD];iterate 4 refine qX ?_
 refine aN ?_;clear lc;refine fS 2 rfl fun K j=>?_;go_simp;go_at_call 171;refine(q1 _ w3 (ag.out▸ak.isr ak.lt)).mono ?_;rintro e w4 ⟨v1,rfl,bc,V⟩;refine j _ _ (V.mono (by omega)) ?_;clear j K q1;obtain⟨A1,c1,rfl,-,-,J⟩:=bc.form;rw[O.out]at J;rw[O.out];have al:=q_ (a1.on V);have hi1':=J;have bs:=V.size;have a2:=q_ ((tw a0 V));clear bc ak a1 a0 V;replace J:=q_ J;refine fS 5 rfl fun K j=>?_;go_simp;go_at_call 171;refine(q2 _ w4 (ah.out▸al.isr al.lt)).mono ?_;rintro e w5 ⟨v2,rfl,bd,W⟩;refine j _ _ (W.mono (by omega)) ?_;clear j K q2;obtain⟨A2,c2,rfl,-,-,au⟩:=bd.form;rw[U.out]at au;rw[U.out];have a3:=J.on W;have bu:=W.size;have a4:=q_ ((tw a2 W));clear bd al hi1' J a2 W;have a5:=q_ (E A1 A2 c1 c2 w5 a3 au);clear a3 au E;refine fS 10 rfl fun K j=>?_;go_simp;go_at_call 170;refine a5.mono ?_;rintro e w6 ⟨⟨g,rfl,hg,ce⟩,av⟩;refine j _ _ (av.mono (by omega)) ?_;clear j K a5;have bk:=q_ ((tw a4 av));clear a4 av;replace hg:=q_ hg;refine xM 11 rfl ?_;refine fD ?_;go_wp2_with fail
 go_ret;exact⟨⟨g,rfl,hg,by omega⟩,bk⟩
theorem aM6(h a:List Nat)(f n:Nat):(vL h a f n).length=n/\∀x∈vL h a f n,x<=20000:=by
 obtain⟨E,G,A⟩:=aC3 h a f n n;unfold vL;split
 .rename_i i _;refine⟨by rw[cFa];exact E,fun x j=>?_⟩;rcases fUa j with j|rfl
  .have:=A x j;omega
  .have:(gT h a f n n).1.getD i 0<=10000:=by
    rw[bTa]
    cases e:(gT h a f n n).1[i]? with
    | none=>simp
    | some v=>exact A v (bPa e)
   omega
 .exact⟨E,fun x j=>by have:=A x j;omega⟩
theorem aD1:∀(l:List Nat) (d i:Nat),levelF l d i=-1\/((i:Int)<=levelF l d i/\levelF l d i<((i+l.length:Nat):Int))
 | [],_,_=>.inl rfl
 | n :: r,d,i=>by
  rw[levelF,eFa];split
  .exact .inr ⟨by omega,by omega⟩
  .rcases aD1 r (d - n) (i+1)with h|⟨j,A⟩
   .exact .inl h
   .exact .inr ⟨by omega,by omega⟩
def levK (ns:List Nd) (p:List Nat×List Bool) (fr:Int) (F sd key:Nat):Int:=aEv (levelF (aAh ns p fr F) (vS (ofN sd [key]) 10000) 0) fr ((dM ns).length:Int)
theorem levK_in(ns:List Nd)(p:List Nat×List Bool)(j:Int)(F sd A:Nat):levK ns p j F sd A<((dM ns).length:Int):=by
 unfold levK;have E:=(aM6 (mM (jN ns p).1 j) (mM (jN ns p).2 j) F (dM ns).length).1;have:=aD1 (aAh ns p j F) (vS (ofN sd [A]) 10000) 0;unfold aAh at this ⊢;rw[E]at this;generalize levelF (vL (mM (jN ns p).1 j) (mM (jN ns p).2 j) F (dM ns).length) (vS (ofN sd [A]) 10000) 0=k at this;unfold aEv;split
 .omega
 .exact Int.emod_lt_of_pos _ (by omega)
theorem level_is(ns:List Nd)(X:nD ns)(p:List Nat×List Bool)(H:List Int)(s x b:Nat)(F sd j:Nat)(h1:100<=F)(h2:F<=1000)(E:Int)(w:World)(hS:fH w s x ns p H)(U:gV w b (F:Int) sd)(hk:j<18446744073709551616)(am:sd<18446744073709551616) :
 Cl 141 #[.pointer (some ⟨b,0,none⟩),.pointer (some ⟨s,0,none⟩),.int .i64 E,.int .u64 (j:Int)] w fun e w'=>e=.returned (.int .i64 (levK ns p E F sd j))/\Below w.heap.size w w':=by
 have G:=q_ (aT2 ns X p H s x b F sd h1 h2 E w hS U);have a2:=X.tops;have Y:=q_ (fun(A:Option Addr) (w:World) (hr:IsR cK w w.heap.size A 1 [j])=>zK sd am [j] (fun v hv=>by rw[dZa]at hv;rw[hv];exact hk) A 1 1 w.heap.size w hr (by omega));have Z:=aB4 sd [j];obtain⟨N,af⟩:=aM6 (mM (jN ns p).1 E) (mM (jN ns p).2 E) F (dM ns).length;have J:=aD1 (aAh ns p E F) (vS (ofN sd [j]) 10000) 0;unfold levK;unfold aAh at J G ⊢;obtain⟨M,hM⟩:=eX (ofN sd [j]);rw[hM]at Y Z J ⊢;have qb:=q_ (fun w=>aS2 M 10000 Z (by decide) w);have a3:=aP7 M 10000 Z;rw[show(10000:Int).toNat=10000 from rfl]at qb;obtain⟨D,hD⟩:=eX (vS M 10000);rw[hD]at qb a3 J ⊢;obtain⟨L,hL⟩:=eX (vL (mM (jN ns p).1 E) (mM (jN ns p).2 E) F (dM ns).length);rw[hL]at G N af J ⊢;obtain⟨n,hn⟩:=eX ((dM ns).length);rw[hn]at G N a2 ⊢;have qv:=q_ (fun(A:Option Addr) (c:Nat) (w:World) (h:IsR fQ w w.heap.size A n L)=>aJb L D n (by omega) (fun x hx=>bJa (af x hx) (by decide)) (by omega) A c w h);obtain⟨V,hV⟩:=eX (levelF L D 0);rw[hV]at qv J ⊢;have qk:=q_ (fun w=>back_any V E n (by omega) (by omega) (by omega) w);obtain⟨R,hR⟩:=eX (aEv V E (n:Int));rw[hR]at qk ⊢;have ap:=aQ7 U;have aq:=U.lt;obtain⟨z,hz⟩:=eX w.heap.size;rw[hz]at G aq ⊢;clear hS U hR hV hL hD hM hn af hk am X h1 h2;replace N:=q_ N;go_enter func141,ntmps141;go_wp2_with fail
 refine G.mono ?_;rintro e O ⟨⟨g,rfl,hg,ba⟩,W⟩;have a8:=(W.cell (p:=⟨b,5,none⟩) aq).trans ap;have a9:=W.size;obtain⟨I,ag⟩:=eX (O.alloc (.cells #[.int .u64 (j:Int)] 25));have ac:Below O.heap.size O I:=ag▸bC;have ad:dX cK 25 I O.heap.size [j]:=ag▸aJ _ _ _;have ae:=hg.on ac;have a4:=q_ ((tw W ac));have qm:=q_ (Y (some ⟨O.heap.size,0,none⟩) I (ad.isr ad.lt));have a6:=q_ (qv (some ⟨g,0,none⟩) n I (N.out▸ae.isr ae.lt));clear G ap hg W ac ad ae qv Y;go_wp2_with fail
 clear ag;refine qm.mono ?_;rintro e w3 ⟨rfl,rfl⟩;go_wp2_with fail
 refine(qb I).mono ?_;rintro e w3 ⟨rfl,rfl⟩;go_wp2_with fail
 refine a6.mono ?_;rintro e w3 ⟨rfl,rfl⟩;go_wp2_with fail
 refine(qk I).mono ?_;rintro e w3 ⟨rfl,rfl⟩;go_wp2_with fail
 go_ret;exact⟨rfl,a4⟩
theorem aJ5(ns:List Nd)(p:List Nat×List Bool)(sd j:Nat):∀(k:Nat) (a:Int) (A:List Int),(aA1 ns p sd j k a A).length<=A.length+k
 | 0,_,_=>by rw[aA1];simp
 | k+1,a,A=>by
  rw[aA1];split
  .omega
  .split
   .simp
   .have:=aJ5 ns p sd j k (pY ns p (ofN sd [j,a.toNat]) a) (A++[pY ns p (ofN sd [j,a.toNat]) a]);rw[bHa,cZa]at this;omega
theorem aTd(ns:List Nd)(p:List Nat×List Bool)(sd j:Nat)(a:Int):(rP ns p sd j a).length<=ns.length+1:=by
 unfold rP;split
 .simp
 .have:=aJ5 ns p sd j ns.length a [a];rw[cZa]at this;omega
def aV1 (l:List Int):Int:=if l=[]then -1 else l.getD (l.length - 1) (-1)
def aA3 (ns:List Nd) (p:List Nat×List Bool) (fr:Int) (F sd key:Nat):Int:=if levK ns p fr F sd key<0 then -1 else aV1 (rP ns p sd key ((dM ns).getD (levK ns p fr F sd key).toNat (-1)))
theorem host_any(ns:List Nd)(W:nD ns)(p:List Nat×List Bool)(H:List Int)(s x b:Nat)(F sd A:Nat)(h1:100<=F)(h2:F<=1000)(X:Int)(w:World)(Y:fH w s x ns p H)(Z:gV w b (F:Int) sd)(hk:A<18446744073709551616)(af:sd<18446744073709551616) :
 Cl 111 #[.pointer (some ⟨b,0,none⟩),.pointer (some ⟨s,0,none⟩),.int .i64 X,.int .u64 (A:Int)] w fun e w'=>e=.returned (.int .i64 (aA3 ns p X F sd A))/\bJ b (F:Int) sd w w':=by
 have G:=level_is ns W p H s x b F sd A h1 h2 X w Y Z hk af;have az:=W.tops;have ao:=levK_in ns p X F sd A;have ab:∀w',bJ b (F:Int) sd w w'->fH w' s x ns p H:=fun w' j=>aNy Y Z j
 have J:=bJ.refl Z;unfold aA3;obtain⟨V,hV⟩:=eX (levK ns p X F sd A);rw[hV]at G ao ⊢;by_cases h0:V<0
 .rw[bBa h0];clear Y Z hk af W h1 h2 hV ab;replace ⟨G,J⟩:=q_2 G J;go_enter func111,ntmps111;go_wp2_with fail
  refine G.mono ?_;rintro e w1 ⟨rfl,ad⟩;have O:=q_ (J.quiet ad);clear G ad J;go_wp2_with fail
  go_ret;exact⟨rfl,O⟩
 rw[bAa h0];obtain⟨k,rfl⟩:∃k:Nat,V=(k:Int):=⟨V.toNat,by omega⟩
 rw[bMa];have ag:Hid ((dM ns)[k]?=some ((dM ns)[k]'(by omega))):=q_ (aXa _);obtain⟨t,ht⟩:=eX ((dM ns)[k]'(by omega));rw[ht]at ag;have e1:(dM ns).getD k (-1)=t:=by rw[bTa,ag];rfl
 rw[e1];have U:∀w',bJ b (F:Int) sd w w'->Cl 67 #[.pointer (some ⟨x,0,none⟩)] w' fun e aa=>∃v,e=.returned v/\aa.ownsRow w'.heap.size 3 1 v (dM ns).length ((dM ns).map bL)/\Below w'.heap.size w' aa:=fun w' j=>by
  obtain⟨⟨bt,hT⟩,-,-⟩:=ab w' j;exact aC0 ns bt x w' hT
 have c0:∀w',bJ b (F:Int) sd w w'->w'.cell? ⟨s,0,none⟩=some (.pointer (some ⟨x,0,none⟩)):=fun w' j=>by
  obtain⟨-,⟨bo,gw,gs,hv,hM⟩,-⟩:=ab w' j;exact aA hM.blk 0
 have qd:Hid (∀w',bJ b (F:Int) sd w w'->Cl 142 #[.pointer (some ⟨b,0,none⟩),.pointer (some ⟨s,0,none⟩),.int .i64 t,.int .u64 (A:Int)] w' fun e aa=>(∃v,e=.returned v/\aa.ownsRow w'.heap.size 3 1 v (rP ns p sd A t).length ((rP ns p sd A t).map bL))/\bJ b (F:Int) sd w' aa):=q_ (fun w' j=>down_any ns W p H s x b (F:Int) sd A t w' (ab w' j) j.1 hk af);obtain⟨T,hT⟩:=eX (dM ns);rw[hT]at ag U ao az;obtain⟨n,hn⟩:=eX T.length;rw[hn]at U ao az;obtain⟨D,hD⟩:=eX (rP ns p sd A t);rw[hD]at qd ⊢;have bc:D.length<=1099511627776:=by
  have h3:=aTd ns p sd A t;rw[hD]at h3;obtain⟨⟨bt,nv,kv,tv,hv,us,hC⟩,-⟩:=Y;have:=hC.small.1;omega
 obtain⟨m,L⟩:=eX D.length;rw[L]at qd bc;obtain⟨R,N⟩:=eX (aV1 D);rw[N];clear Y Z hk af W h1 h2 hV ab hT hD e1 ht h0;replace ⟨G,J,U,c0,L,N,hn⟩:=q_7 G J U c0 L N hn;go_enter func111,ntmps111;go_wp2_with fail
 refine G.mono ?_;rintro e w1 ⟨rfl,ad⟩;have O:=q_ (J.quiet ad);have cc:=c0 w1 O;have a1:=q_ (U w1 O);clear G ad J U c0;go_wp2_with fail
 refine a1.mono ?_;rintro e w2 ⟨v2,rfl,a8,a9⟩;obtain⟨A2,c2,rfl,-,-,a7⟩:=bE a8;have ap:=q_ (O.quiet a9);have a2:=q_ (qd w2 ap);have bg:k<n:=by omega
 have hkn':(k:Int)<(n:Int):=by omega
 obtain⟨bt,bz,rfl,-,hc⟩:=a7.2 (by omega);have aq:=hc k (by rw[bNa,hn.out];exact bg);rw[eBa,(List.getElem?_eq_some_iff.1 ag.out).2]at aq;unfold bL at aq;clear a1 O a8 a9 a7 hc qd cc;go_wp2_with fail
 clear aq;refine a2.mono ?_;rintro e w3 ⟨⟨v3,rfl,ba⟩,bb⟩;obtain⟨A3,c3,rfl,-,-,aw⟩:=bE ba;have j:=ap.trans bb;clear a2 ap bb ba;by_cases al:m=0
 .have E:=N.out;have I:=L.out;rw[al]at I;rw[List.length_eq_zero_iff.1 I,aV1,bBa rfl]at E;have t0:((m:Int) == 0)=true:=by rw[al];rfl
  clear aw L al I N;replace ⟨j,E⟩:=q_2 j E;go_wp2_with fail
  go_ret;exact⟨by rw[<-E.out];rfl,j⟩
 .have t0:((m:Int) == 0)=false:=by rw[bDa];omega
  have I:=L.out;have a3:¬ D=[]:=fun e=>by rw[e]at I;simp at I;omega
  have E:=N.out;unfold aV1 at E;rw[bAa a3,I]at E;obtain⟨q,rfl⟩:∃q,m=q+1:=⟨m - 1,by omega⟩
  rw[Nat.add_sub_cancel]at E;obtain⟨bd,od,rfl,-,hc⟩:=aw.2 (by omega);have a4:=hc q (by rw[bNa,I];omega);have a5:D[q]?=some (D[q]'(by omega)):=aXa _;rw[bTa,a5,hQa]at E;rw[eBa,E]at a4;unfold bL at a4;have wq:IntKind.i64.wrap (((q+1:Nat):Int) - 1)=(q:Int):=by rw[wO _];omega
  have hq:(q:Int)<((q+1:Nat):Int):=by omega
  clear aw L I N E a5 hc a3 al;replace j:=q_ j;go_wp2_with fail
  go_ret;exact⟨rfl,j⟩
def aVq (ns:List Nd) (fr:Int) (F sd key:Nat) (kind:Int):Nat->List Int->List Int->List Int->List Int
 | 0,_,out,_=>out
 | k+1,hs,out,used=>if aA3 ns (pG ns hs) fr F sd key<0 then out else aVq ns fr F sd key kind k (aA6 ns (used++[upF ns (aA3 ns (pG ns hs) fr F sd key) kind]) (fT ns hs).2) (out++[aA3 ns (pG ns hs) fr F sd key]) (used++[upF ns (aA3 ns (pG ns hs) fr F sd key) kind])
def pJ (ns:List Nd) (hs:List Int) (fr:Int) (F sd key:Nat) (many kind:Int):List Int:=aVq ns fr F sd key kind (min many 8).toNat hs [] []
theorem aUd(ns:List Nd)(j:List Int):(fT ns j).2.length<=ns.length:=by
 have h:∀(l:List Int) (q:(List Nat×List Bool)×List Int),(l.foldl (gW ns j) q).2.length<=q.2.length+l.length:=by
  intro l
  induction l with
  | nil=>intro q;simp
  | cons k l ih =>
   intro q;rw[gPa,eFa];have A:=ih (gW ns j q k);have E:(gW ns j q k).2.length<=q.2.length+1:=by
    unfold gW;split
    .simp
    .omega
   omega
 unfold fT;have:=h (fM ns) ((List.replicate ns.length 0,List.replicate ns.length false),[]);have:=aA4 ns;simp only[hZa]at *;omega
def Apart (a b:Value):Prop:=a.ownBlock=none\/a.ownBlock≠b.ownBlock
theorem aJw{a b:Value}(j:∀k,a.ownBlock=some k->B<=k)(A:∀k,b.ownBlock=some k->k<B):Apart a b:=by
 unfold Apart;rcases e:a.ownBlock with _|k
 .exact .inl rfl
 .refine .inr fun h=>?_;have E:=j k e;have G:=A k h.symm;omega
theorem aGj{a b:Value}(j:∀k,a.ownBlock=some k->k<B)(A:∀k,b.ownBlock=some k->B<=k):Apart a b:=by
 unfold Apart;rcases e:a.ownBlock with _|k
 .exact .inl rfl
 .refine .inr fun h=>?_;have E:=j k e;have G:=A k h.symm;omega
theorem aBj{w:World}{a j:Value}(h:Apart a v)(A:fA w v w' j)(E:∀k,a.ownBlock=some k->k<w.heap.size):Apart a j:=by
 unfold Apart at h ⊢;rcases A.moved with e|⟨k,e,G⟩
 .rw[e];exact h
 .rw[e];rcases e2:a.ownBlock with _|m
  .exact .inl rfl
  .refine .inr fun h=>?_
   cases h
   have:=E _ e2;omega
theorem Apart.symm{a b:Value}(h:Apart a b):Apart b a:=by
 unfold Apart at h ⊢;rcases e:b.ownBlock with _|m
 .exact .inl rfl
 .refine .inr fun j=>?_;rcases h with h|h
  .rw[h]at j;cases j
  .exact h (j.symm.trans e.symm)
theorem aFq{w E:World}{G:Nat}{xs:List Value}{cs:Array Value}(I:w.ownsRow G e sz v n xs)(J:w.grownBy E v.ownBlock)(j:w.heap[g]?=some (.cells cs T (0,0)))(L:T≠e):E.heap[g]?=some (.cells cs T (0,0)):=by
 refine(J.block g (aL j) fun h=>?_).trans j;rcases kU I j L with A|A
 .rw[A]at h;cases h
 .exact A h.symm
theorem aKz{w G:World}{I U x L:Nat}{A N:Value}{xs:List Value}(h:jY w I s x J L n p A H)(E:w.ownsRow U 3 1 v k xs)(j:fA w v G N)(O:Apart A v):jY G I s x J L n p A H/\Apart A N :=
 ⟨⟨aFq E j.grown h.blk (by decide),aFq E j.grown h.rw (by decide),aFq E j.grown h.rs (by decide),h.hosts.kept j.grown O,h.lw,h.ls,h.b1,h.b2,h.b3,h.n1,h.n2,h.n3⟩,aBj O j fun k V=>(h.hosts.lt k V).2⟩
theorem setm_wk{w:World}{f:Int}{x G I:Nat}{J:Value}(j:jY w E s x G I n p J H)(L:gV w b f sd)(h:bJ b f sd w w'):jY w' E s x G I n p J H:=by
 obtain⟨N,O,U,A,-⟩:=L;exact⟨dW j.blk A (by decide) h.2,dW j.rw A (by decide) h.2,dW j.rs A (by decide) h.2,rY j.hosts A (by decide) h.2,j.lw,j.ls,j.b1,j.b2,j.b3,j.n1,j.n2,j.n3⟩
theorem row_wk{w:World}{f:Int}{xs:List Value}(A:w.ownsRow j e sz v n xs)(E:gV w b f sd)(G:120≠e)(h:bJ b f sd w w'):w'.ownsRow j e sz v n xs:=by
 obtain⟨J,L,N,I,-⟩:=E;exact rY A I G h.2
def lenOf (v:Value):Nat:=match v with|.slice _ n _=>n|_=>0
theorem aGn(ns:List Nd)(hG:nD ns)(hs:List Int)(s x b:Nat)(F sd I:Nat)(h1:100<=F)(N:F<=1000)(O ah V:Int)(w:World)(hS:fH w s x ns (pG ns hs) (fT ns hs).2)(J:gV w b (F:Int) sd)(j:I<18446744073709551616)(bv:sd<18446744073709551616) :
 Cl 74 #[.pointer (some ⟨b,0,none⟩),.pointer (some ⟨s,0,none⟩),.int .i64 O,.int .u64 (I:Int),.int .i64 ah,.int .i64 V] w fun e w'=>(∃v,e=.returned v/\w'.ownsRow w.heap.size 3 1 v (pJ ns hs O F sd I ah V).length ((pJ ns hs O F sd I ah V).map bL))/\bJ b (F:Int) sd w w':=by
 have df:ns.length<=1024:=by
  obtain⟨⟨bt,nv,kv,tv,hv,us,hC⟩,-⟩:=hS;exact hC.small.1
 have ch:=q_ (fun l=>aUd ns l);obtain⟨b5,⟨cv,cw,cx,cy,ax⟩,a9⟩:=hS;have aw:∀w',bJ b (F:Int) sd w w'->∃bt,dH w' bt x ns:=fun w' E=>by
  obtain⟨bt,hT⟩:=b5;obtain⟨dn,sm,lv,hx,-⟩:=J;exact⟨bt,aK3 hT hx (by decide) (by decide) (by decide) (by decide) E.2⟩
 have qh:Hid (∀(l:List Int) (s:Nat) (w':World),fH w' s x ns (pG ns l) (fT ns l).2->gV w' b (F:Int) sd->Cl 111 #[.pointer (some ⟨b,0,none⟩),.pointer (some ⟨s,0,none⟩),.int .i64 O,.int .u64 (I:Int)] w' fun e be=>e=.returned (.int .i64 (aA3 ns (pG ns l) O F sd I))/\bJ b (F:Int) sd w' be):=q_ (fun l s w' hS J=>host_any ns hG _ _ s x b F sd I h1 N O w' hS J j bv);have qu:∀(i:Int) (w':World),bJ b (F:Int) sd w w'->Cl 112 #[.pointer (some ⟨x,0,none⟩),.int .i64 i,.int .i64 V] w' fun e be=>e=.returned (.int .i64 (upF ns i V))/\w'=be:=fun i w' E=>by
  obtain⟨bt,hT⟩:=aw w' E;exact aN5 ns bt x i V w' hT hG.good.rise
 have qw:=q_ (fun(p:List Nat×List Bool) (H us:List Int) hH s A nu cu w hS G hn=>aSw ns hG p H us hH s x A nu cu w hS G hn);obtain⟨R,hR⟩:=eX (pJ ns hs O F sd I ah V);rw[hR];unfold pJ at hR;have ck:min ah 8<=8:=Int.min_le_right _ _;obtain⟨mm,c0⟩:=eX (min ah 8);rw[c0]at hR ck;obtain⟨z,hz⟩:=eX w.heap.size;rw[hz];have b0:=q_ (bJ.refl J);have bh:=q_ (fun k j=>(ax.hosts.lt k j).2);clear J j bv hG h1 N b5;replace ⟨qu,aw,hR,ax,a9⟩:=q_5 qu aw hR ax a9;go_enter func74,ntmps74;go_upto_region 2 with fail
 go_loopw [1,13,14,15] (fun sv ov uv _ wr=>∃(k i:Nat) (l aj X:List Int) (s' a5 gw gs:Nat) (hv:Value),sv=.pointer (some ⟨s',0,none⟩)/\jY wr a5 s' x gw gs ns.length (pG ns l) hv (fT ns l).2/\(∀v∈(pG ns l).1,v<18446744073709551616)/\wr.ownsRow z 3 1 ov i (aj.map bL)/\wr.ownsRow z 3 1 uv i (X.map bL)/\aj.length=i/\X.length=i/\Apart hv ov/\Apart hv uv/\Apart ov uv/\i+k=mm.toNat/\aVq ns O F sd I V k l aj X=R/\bJ b (F:Int) sd w wr) (fun _ ov _ _ _=>mm.toNat - lenOf ov)
 case atStart=>exact⟨mm.toNat,0,hs,[],[],s,cv,cw,cx,cy,rfl,ax,a9,cKa _ _ _ _,cKa _ _ _ _,rfl,rfl,aGj bh (fun k h=>by cases h),aGj bh (fun k h=>by cases h),.inl rfl,by omega,hR,b0⟩
 case round =>
  obtain⟨k,i,l,aj,X,s',a5,gw,gs,hv,rfl,hM,ad,Y,G,ba,bj,a1,a2,a3,dr,L,E⟩:=hrel;clear ax a9 hR b0 bh;obtain⟨A,c,rfl,-,-,-⟩:=bE Y;obtain⟨Au,cu,rfl,-,-,-⟩:=bE G;by_cases hi:(i:Int)<mm
  .obtain⟨k,rfl⟩:∃k',k=k'+1:=⟨k - 1,by omega⟩
   rw[aVq]at L;have bi:=q_ (qh l s' wr ⟨aw wr E,⟨a5,gw,gs,hv,hM⟩,ad⟩ E.1);obtain⟨h,hh⟩:=eX (aA3 ns (pG ns l) O F sd I);rw[hh]at bi L;clear hh;replace ⟨hM,ad,Y,G,a1,a2,a3,L,E,ba,bj⟩:=q_11 hM ad Y G a1 a2 a3 L E ba bj;go_wp2_with fail
   refine bi.mono ?_;rintro e w5 ⟨rfl,a0⟩;have J:=E.out.1;have ar:=setm_wk hM J a0;have W:=row_wk Y J (by decide) a0;have af:=row_wk G J (by decide) a0;have Z:=E.trans a0;have dg:=Z.2.size;clear bi a0 hM Y G E J;by_cases h0:h<0
   .have N:=L.out;rw[bBa h0]at N;subst N;clear L;replace ⟨Z,W,ar,af⟩:=q_4 Z W ar af;go_wp2_with fail
    go_ret;exact⟨⟨_,rfl,by rw[ba.out];exact W⟩,Z⟩
   have N:=q_ L;rw[bAa h0]at N;have b3:=q_ (fun w' E=>qu h w' E);obtain⟨U,hU⟩:=eX (upF ns h V);rw[hU]at N b3;clear L hU;replace ⟨Z,W,ar,af⟩:=q_4 Z W ar af;go_upto_region 5 with fail
   apply aWa;iterate 3 refine pS ?_
   refine rM (T:=3) dRa yN rfl (by decide) (by decide) rfl (.tmp 28) (.tmp 30) rfl z (.slice A i c) i (aj.map bL) [.int .i64 h] rfl rfl W rfl (by intro u G;rw[dZa]at G;subst G;rfl) (by omega) (by omega) fun v6 w6 q1 q2=>?_;obtain⟨ay,bm⟩:=aKz ar W q2 a1;have bb:=q_ (cDa af q2.grown a3.symm);have bk:=q_ ((aBj a3.symm q2 fun k j=>(cYa af k j).2).symm);have bl:=q_ (bJ.grew Z W q2.grown (by decide) (by decide) (by omega));obtain⟨A6,c6,c5,-,-,-⟩:=bE q1;subst c5;have cl:=aA ay.blk 0;have dh:=q2.grown.size;clear ar af W Z a1 a3 q2;replace ⟨ay,bm,q1⟩:=q_3 ay bm q1;refine pS ?_;refine bCa ?_;go_simp;go_upto_region 6 with fail
   apply aWa;iterate 7 refine pS ?_
   refine bRa rfl fun K hK=>?_;go_simp;refine(b3 w6 bl).mono ?_;rintro e w6 ⟨rfl,rfl⟩;go_simp;refine hK _ _ ?_;clear hK K;clear cl;refine pS ?_;refine rM (T:=3) dRa yN rfl (by decide) (by decide) rfl (.tmp 32) (.tmp 40) rfl z (.slice Au i cu) i (X.map bL) [.int .i64 U] rfl rfl bb rfl (by intro u G;rw[dZa]at G;subst G;rfl) (by omega) (by omega) fun v7 w7 q3 q4=>?_;obtain⟨b8,c8⟩:=aKz ay bb q4 a2;have bn:=q_ (cDa q1 q4.grown bk);have cm:=q_ (aBj bk q4 fun k j=>(cYa q1 k j).2);have bo:=q_ (bJ.grew bl bb q4.grown (by decide) (by decide) (by omega));obtain⟨A7,c7,c9,-,-,cc⟩:=bE q3;subst c9;have di:=q4.grown.size;have b4:=q_ (qw _ _ (X++[U]) (bJa (ch l) (by omega)) s' A7 (i+1) c7 w7 ⟨aw w7 bo,⟨a5,gw,gs,hv,b8⟩,ad⟩ (by unfold IsR;rw[cWa];exact cc) (by omega));clear ay bb bk bl q1 q4 a2 bm c8 cc b8 ad;replace q3:=q_ q3;refine pS ?_;refine bCa ?_;go_simp;go_wp2_with fail
   refine b4.mono ?_;rintro e w8 ⟨⟨s2,db,dc,bs,rfl,az,bp⟩,hb⟩;have cn:=q_ (bo.quiet hb);have co:=q_ (mU bn hb);have cp:=q_ (mU q3 hb);have b1:Hid (Apart bs (.slice A6 (i+1) c6)):=q_ (aJw (B:=w7.heap.size) (fun k j=>(az.hosts.lt k j).1) (fun k j=>(cYa bn k j).2));have b2:Hid (Apart bs (.slice A7 (i+1) c7)):=q_ (aJw (B:=w7.heap.size) (fun k j=>(az.hosts.lt k j).1) (fun k j=>(cYa q3 k j).2));clear hb bn bo q3 b4;replace ⟨az,bp⟩:=q_2 az bp;go_wp2_with fail
   exact⟨⟨k,i+1,aA6 ns (X++[U]) (fT ns l).2,aj++[h],X++[U],s2,_,db,dc,bs,rfl,az,bp,by rw[cWa];exact co,by rw[cWa];exact cp,by rw[bHa,ba.out];rfl,by rw[bHa,bj.out];rfl,b1,b2,cm,by omega,N,cn⟩,by simp only[lenOf];omega⟩
  .obtain rfl:k=0:=by omega
   rw[aVq]at L;subst L;replace ⟨Y,E,hM,G,ad,a1,a2,a3⟩:=q_8 Y E hM G ad a1 a2 a3;go_wp2_with fail
   go_ret;exact⟨⟨_,rfl,Y⟩,E⟩
end Go.Proofs.YtpcifakangbpaaaGreat
