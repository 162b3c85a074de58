/- Parts of the proof of PathOpens: contracts of functions of the program. No condition but those that each theorem names. -/
import Derived.Test.YtpcifakangbpaaaGreatQPathOpens18
set_option linter.unusedVariables false
set_option linter.unusedSimpArgs false
set_option maxRecDepth 100000
set_option maxHeartbeats 16000000
namespace Go.Proofs.YtpcifakangbpaaaGreat
open Go.RowKit Go.ChangeShapes Go.WideShapes Go.ChangeAt Go.Deep Go.Proofs.Tryz
variable {R xs:List UInt8}{B E J N O S V b base' c f fuel g i j k m n s sd sz:Nat}{Q:Exit->Act->World->Prop}{d w' w0:World}{u v z:Value}{T e t:TypeId}{A:Option Addr}{h os:List Nat}{F:List UInt8->Option Nat}{p:List Nat×List Bool}{a:Act}{α:Type}{H l:List Int}{o:Oper}{G:Array Oper}{K:Act->World->Prop}{y:Array Value}{vs:List Value}{L:List Oper}{I:Bool}{U W Y aa:List (Int×List UInt8)}{P:Program}
structure BdTu (t:Tu):Prop where
 a:t.sh<18446744073709551616
 b:t.sl<18446744073709551616
 c:t.dh<18446744073709551616
 d:t.dl<18446744073709551616
 p:0<=t.pr/\t.pr<=255
 s:0<=t.sp/\t.sp<=65535
 q:0<=t.dp/\t.dp<=65535
theorem uK(j A:Bool):BdTu ⟨0,j,0,0,A,0,0,0,0⟩:=by
 constructor<;>dsimp only<;>omega
theorem aUi(G:Bool)(ty:Int)(j:List UInt8)(hn:j.length<=1099511627776):∃K t,aCi G ty j K t.pr t.sv t.sh t.sl t.dv t.dh t.dl t.sp t.dp/\BdTu t:=by
 rcases hE:aAc G ty with _|_
 .exact⟨24,⟨0,false,0,0,false,0,0,0,0⟩,fun J L A c W N O U=>aKr G ty J L A j.length c W hE,uK _ _⟩
 obtain⟨K,I,V,X,Y,Z,ac,rest,E⟩:=aNn G j.length j;by_cases hK:K=0
 .subst hK;have ag:rest.length<=maxLen:=by
   have h1:rest.length<=j.length:=by
    unfold QIs at E;split at E
    .obtain⟨am,hR,_⟩:=E.2 rfl;have h2:=aDy _ _ _ _ _ hR;simp only[cCa]at h2;omega
    .obtain⟨_,_,_,_,_,_,rfl⟩:=E.2 rfl;rw[cCa];omega
   unfold maxLen;omega
  have ab:V<18446744073709551616/\X<18446744073709551616/\Y<18446744073709551616/\Z<18446744073709551616:=by
   have b1:=bX j 8 8;have b2:=bX j 16 8;have b3:=bX j 24 8;have b4:=bX j 32 8;have b5:=bX j 12 4;have b6:=bX j 16 4;unfold QIs at E;split at E
   .obtain⟨am,_,_,rfl,rfl,rfl,rfl⟩:=E.2 rfl;omega
   .obtain⟨_,rfl,rfl,rfl,rfl,_,_⟩:=E.2 rfl;omega
  obtain⟨F,hF⟩:=eX (aGs ac I rest.length);by_cases aj:F=0
  .have au:I=6\/I=17:=by
    unfold aGs at hF;split at hF
    .omega
    .split at hF
     .omega
     .omega
   have b1:=bX rest 0 2;have b2:=bX rest 2 2;refine⟨0,⟨(I:Int),G,V,X,G,Y,Z,(beN rest 0 2:Nat),(beN rest 2 2:Nat)⟩,fun J L A c W N O U=>?_,⟨ab.1,ab.2.1,ab.2.2.1,ab.2.2.2,by dsimp only;omega,by dsimp only;omega,by dsimp only;omega⟩⟩;refine(aA9 G ty J L A j.length c j W N O U hn hE I V X Y Z ac rest E ag F hF).mono ?_;rintro e w' ⟨_,h2,hb⟩;exact⟨h2 aj,hb⟩
  .refine⟨F,⟨0,false,0,0,false,0,0,0,0⟩,fun J L A c W N O U=>?_,uK _ _⟩;refine(aA9 G ty J L A j.length c j W N O U hn hE I V X Y Z ac rest E ag F hF).mono ?_;rintro e w' ⟨h1,_,hb⟩;exact⟨h1 aj,hb⟩
 .exact⟨K,⟨0,false,0,0,false,0,0,0,0⟩,fun J L A c W N O U=>aFi G ty J L A j.length c j W N O U hn hE K I V X Y Z ac rest E hK,uK _ _⟩
structure Px where
 v6:Bool
 t:Tu
 ttl:Int
 fl:Int
 er:Bool
 ab:Tu
 sz:Int
abbrev gP (x:Px):Array Value:=#[.bool x.v6,.int .i64 x.t.pr,.bool x.t.sv,.int .u64 (x.t.sh:Int),.int .u64 (x.t.sl:Int),.bool x.t.dv,.int .u64 (x.t.dh:Int),.int .u64 (x.t.dl:Int),.int .i64 x.t.sp,.int .i64 x.t.dp,.int .i64 x.ttl,.int .i64 x.fl,.bool x.er,.int .i64 x.ab.pr,.bool x.ab.sv,.int .u64 (x.ab.sh:Int),.int .u64 (x.ab.sl:Int),.bool x.ab.dv,.int .u64 (x.ab.dh:Int),.int .u64 (x.ab.dl:Int),.int .i64 x.ab.sp,.int .i64 x.ab.dp,.int .i64 x.sz]
structure xG (x:Px):Prop where
 t:BdTu x.t
 ab:BdTu x.ab
 ttl:0<=x.ttl/\x.ttl<=255
def pxZ:Px:=⟨false,⟨0,false,0,0,false,0,0,0,0⟩,0,0,false,⟨0,false,0,0,false,0,0,0,0⟩,0⟩
theorem aN6(j:Bool)(E:Int)(xs I:List UInt8)(J:xs.length<=1099511627776)(L:I.length<=maxLen)(h6:E≠6)(ac:E≠17) :
 ∃K g,xY g/\(∀cs:Array Value,cs.size=23->cs.all (·.oneCell')=true->cs[0]?=some (.bool j)->cs[1]?=some (.int .i64 E)->aVk cs (if j=true then 58 else 1) xs I K (g cs))/\(K=0->E=(if j=true then 58 else 1)/\∃t:Tu,BdTu t/\g=fun cs=>vT cs (tuA t.pr t.sv t.sh t.sl t.dv t.dh t.dl t.sp t.dp)):=by
 by_cases he:E=(if j=true then 58 else 1)
 .have ha:(uY j I).length<=maxLen:=by
   unfold uY;split
   .exact L
   .simp[maxLen]
  obtain⟨K1,ty,cd,wd,ds,_,al,hP⟩:=aNe xs (uY j I) J ha;obtain⟨K2,q,hQ,G⟩:=aUi j ty ds (by omega);exact⟨_,fun cs=>vT cs (tuA q.pr q.dv q.dh q.dl q.sv q.sh q.sl q.dp q.sp),.inr (.inr ⟨_,_,_,_,_,_,_,_,_,rfl⟩),
   fun cs N O U V A P c d w W X Y Z=>aK6 cs N O j U E V _ A P c d xs I w W X Y Z J L h6 ac he K1 ty cd wd ds hP K2 q.pr q.sv q.sh q.sl q.dv q.dh q.dl q.sp q.dp hQ,fun _=>⟨he,⟨q.pr,q.dv,q.dh,q.dl,q.sv,q.sh,q.sl,q.dp,q.sp⟩,⟨G.c,G.d,G.a,G.b,G.p,G.q,G.s⟩,rfl⟩⟩
 .exact⟨14,fun cs=>aAu cs 0 0,.inr (.inl ⟨0,0,rfl⟩),fun cs N O U V A P c d w W X Y Z=>aHq cs N O j U E V _ A P c d xs I w W X Y Z J L h6 ac he _,fun h=>by cases h⟩
def ErX (n:Nat) (xs:List UInt8):Prop:=∃x:Px,PIs n xs 0 (gP x)/\xG x/\x.er=true
theorem aH5(b:UInt8):b.toNat<256:=b.toNat_lt
theorem four_px(h:sF n xs)(hn:n<=4000):(∃K,K≠0/\PIs n xs K #[])\/ErX n xs\/∃j e A R ae af Z dp ag fl,wE n xs j e A R ae af Z dp ag fl:=by
 obtain⟨e,O⟩:∃e,(xs.getD 0 0).toNat % 16*4=e:=⟨_,rfl⟩
 obtain⟨j,U⟩:=eX (beN xs 2 2);obtain⟨R,V⟩:=eX ((xs.take j).drop e);have g6:=h.h6;have g7:=h.h7;have gl:=h.len;rw[O]at g6;rw[U]at g6 g7;have ap:R.length=j - e:=by rw[<-V,cCa,bGa];omega
 have ad:∀a b p s,(ps4 a b p s).length=12:=fun a b p s=>by unfold ps4;simp[aR]
 by_cases Y:beN xs 6 2 % 16384=0
 .by_cases G:∃A,(xs.getD 9 0).toNat=prN A
  .obtain⟨A,G⟩:=G;rcases aQ4 false A R (kY false 0 (beN xs 12 4) 0 (beN xs 16 4) (prN A) (j - e)) (by omega) (by unfold kY;rw[bAa (by simp)];simp[aR])with⟨K,g,I,W,X⟩|⟨Z,dp,fl,hUp⟩
   .refine .inl ⟨K,I,?_⟩;have:=zR h (by omega) e j O U K g W (fun cs J L N E=>by
     rw[G]at E ⊢;rw[V];exact X cs J L N E)
    rw[bBa Y]at this;exact rJ this I
   .exact .inr (.inr ⟨j,e,A,R,_,_,Z,dp,_,fl,h,O,U,Y,G,V,rfl,rfl,rfl,hUp⟩)
  .obtain⟨K,g,W,X,hE⟩:=aN6 false ((xs.getD 9 0).toNat:Int) R (ps4 (beN xs 12 4) (beN xs 16 4) (xs.getD 9 0).toNat (j - e)) (by omega) (by rw[ad];unfold maxLen;omega)
    (fun h6=>G ⟨false,by show _=6;omega⟩) (fun an=>G ⟨true,by show _=17;omega⟩)
   have:=zR h (by omega) e j O U K g W (fun cs J L N E=>by
    rw[V];exact X cs J L N E)
   rw[bBa Y]at this;by_cases I:K=0
   .subst I;obtain⟨aw,q,hq,rfl⟩:=hE rfl;have b1:=bX xs 12 4;have b2:=bX xs 16 4;have b3:=aH5 (xs.getD 9 0);have b4:=aH5 (xs.getD 8 0);exact .inr (.inl ⟨⟨false,⟨((xs.getD 9 0).toNat:Int),false,0,beN xs 12 4,false,0,beN xs 16 4,0,0⟩,((xs.getD 8 0).toNat:Int),0,true,q,(j:Int)⟩,this,⟨⟨by dsimp only;omega,by dsimp only;omega,by dsimp only;omega,by dsimp only;omega,by dsimp only;omega,by dsimp only;omega,by dsimp only;omega⟩,hq,by dsimp only;omega⟩,rfl⟩)
   .exact .inl ⟨K,I,rJ this I⟩
 .refine .inl ⟨21,by omega,?_⟩;obtain⟨K,g,W,X⟩:=aDf false ((xs.getD 9 0).toNat:Int) R (ps4 (beN xs 12 4) (beN xs 16 4) (xs.getD 9 0).toNat (j - e)) (by omega) (by rw[ad];unfold maxLen;omega);have:=zR h (by omega) e j O U K g W (fun cs J L N E=>by
   rw[V];exact X cs J L N E)
  rw[bAa Y]at this;exact rJ this (by omega)
theorem six_px(h:tF n xs W j R)(hn:n<=4000):(∃K,K≠0/\PIs n xs K #[])\/ErX n xs\/∃e A ab ac ad ae X Y af Z,wF n xs W e A R ab ac ad ae X Y af Z:=by
 obtain⟨f1,f2,f3,f4,f5,f6,f7,f8⟩:=h.facts;have aa:∀a b c d s p,(kR a b c d s p).length=40:=fun a b c d s p=>by unfold kR;simp[aR,nS]
 by_cases V:nZ W=0/\qQ W=false
 .by_cases G:∃A,j=prN A
  .obtain⟨A,G⟩:=G;rcases aQ4 true A R (kY true (beN xs 8 8) (beN xs 16 8) (beN xs 24 8) (beN xs 32 8) (prN A) R.length) (by omega) (by unfold kY;rw[bBa rfl,aa];omega)with⟨K,g,I,O,U⟩|⟨X,Y,Z,hUp⟩
   .refine .inl ⟨K,I,?_⟩;have:=aCc h (by omega) K g O (fun cs J L N E=>by
     rw[G]at E ⊢;exact U cs J L N E)
    rw[bBa V]at this;exact rJ this I
   .exact .inr (.inr ⟨_,A,_,_,_,_,X,Y,_,Z,G▸h,rfl,V.1,V.2,rfl,rfl,rfl,rfl,rfl,hUp⟩)
  .obtain⟨K,g,O,U,hE⟩:=aN6 true (j:Int) R (kR (beN xs 8 8) (beN xs 16 8) (beN xs 24 8) (beN xs 32 8) R.length j) (by omega) (by rw[aa];unfold maxLen;omega)
    (fun h6=>G ⟨false,by show _=6;omega⟩) (fun al=>G ⟨true,by show _=17;omega⟩)
   have:=aCc h (by omega) K g O (fun cs J L N E=>U cs J L N E);rw[bBa V]at this;by_cases I:K=0
   .subst I;obtain⟨ah,q,hq,rfl⟩:=hE rfl;have b1:=bX xs 8 8;have b2:=bX xs 16 8;have b3:=bX xs 24 8;have b4:=bX xs 32 8;have b5:=aH5 (xs.getD 7 0);rw[bBa rfl]at ah;exact .inr (.inl ⟨⟨true,⟨(j:Int),true,beN xs 8 8,beN xs 16 8,true,beN xs 24 8,beN xs 32 8,0,0⟩,((xs.getD 7 0).toNat:Int),0,true,q,_⟩,this,⟨⟨by dsimp only;omega,by dsimp only;omega,by dsimp only;omega,by dsimp only;omega,by dsimp only;omega,by dsimp only;omega,by dsimp only;omega⟩,hq,by dsimp only;omega⟩,rfl⟩)
   .exact .inl ⟨K,I,rJ this I⟩
 .refine .inl ⟨21,by omega,?_⟩;obtain⟨K,g,O,U⟩:=aDf true (j:Int) R (kR (beN xs 8 8) (beN xs 16 8) (beN xs 24 8) (beN xs 32 8) R.length j) (by omega) (by rw[aa];unfold maxLen;omega);have:=aCc h (by omega) K g O (fun cs J L N E=>U cs J L N E);rw[bAa V]at this;exact rJ this (by omega)
theorem aNk(n:Nat)(xs:List UInt8)(hl:xs.length=n)(hn:n<=4000):(∃K,K≠0/\PIs n xs K #[])\/ErX n xs\/(∃al e J R L N O U V W,wE n xs al e J R L N O U V W)\/∃X e J R Y L Z N O U V W,wF n xs X e J R Y L Z N O U V W:=by
 by_cases h0:n=0
 .exact .inl ⟨2,by omega,fun A c w j E G=>aRh n xs h0 #[] A c w j E G⟩
 by_cases h4:(xs.getD 0 0).toNat / 16=4
 .rcases aJ7 n xs hl (by omega)with⟨K,I,_,hF⟩|h
  .exact .inl ⟨K,I,fun A c w j E G=>aCg n xs (by omega) (by omega) h4 K #[] (fun h=>absurd h I) (fun A c w j E G=>aR6 n xs K I hF #[] A c w j E G) A c w j E G⟩
  .rcases four_px h hn with h|h|h
   .exact .inl h
   .exact .inr (.inl h)
   .exact .inr (.inr (.inl h))
 by_cases h6:(xs.getD 0 0).toNat / 16=6
 .rcases aNz n xs hl (by omega)with⟨K,I,_,hF⟩|⟨X,nx,R,h⟩
  .exact .inl ⟨K,I,fun A c w j E G=>aDr n xs (by omega) (by omega) h6 K #[] (fun h=>absurd h I) (fun A c w j E G=>aR7 n xs K I hF #[] A c w j E G) A c w j E G⟩
  .rcases six_px h hn with h|h|⟨e,J,Y,L,Z,N,O,U,V,W,h⟩
   .exact .inl h
   .exact .inr (.inl h)
   .exact .inr (.inr (.inr ⟨X,e,J,R,Y,L,Z,N,O,U,V,W,h⟩))
 exact .inl ⟨10,by omega,fun A c w j E G=>aRg n xs (by omega) (by omega) ⟨h4,h6⟩ #[] A c w j E G⟩
end Go.Proofs.YtpcifakangbpaaaGreat
