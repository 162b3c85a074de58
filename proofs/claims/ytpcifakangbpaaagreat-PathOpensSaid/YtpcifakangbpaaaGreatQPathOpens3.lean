/- Parts of the proof of PathOpens: contracts of functions of the program. No condition but those that each theorem names. -/
import Derived.Test.YtpcifakangbpaaaGreatQPathOpens2
set_option linter.unusedVariables false
set_option linter.unusedSimpArgs false
set_option maxRecDepth 100000
set_option maxHeartbeats 16000000
namespace Go.Proofs.YtpcifakangbpaaaGreat
open Go.Proofs.Tryz
def dN:List Nat->Int
 | []=>-1
 | a :: _=>(a:Int)
def jE:List Nat->Int
 | []=>-1
 | [a]=>(a:Int)
 | _ :: b :: l=>jE (b :: l)
theorem wM (l:List Nat) (a:Nat):jE (l++[a])=(a:Int):=by
 induction l with
 | nil=>rfl
 | cons x l ih =>
  cases l with
  | nil=>rfl
  | cons y l=>exact ih
theorem nN (l:List Nat) (a:Nat) (r:List Nat):jE (l++a :: r)=jE (a :: r):=by
 induction l with
 | nil=>rfl
 | cons x l ih =>
  cases l with
  | nil=>rfl
  | cons y l=>exact ih
theorem kK (l:List Nat):(l=[]/\jE l=-1)\/∃(j:List Nat) (a:Nat),l=j++[a]/\jE l=(a:Int):=by
 rcases List.eq_nil_or_concat l with h|⟨j,a,h⟩
 .exact .inl ⟨h,by rw[h];rfl⟩
 .have A:l=j++[a]:=by rw[h];simp
  exact .inr ⟨j,a,A,by rw[A];exact wM _ _⟩
def Linked (pv nx:Nat->Int) (os:List Nat):Prop:=∀l i r,os=l++i :: r->pv i=jE l/\nx i=dN r
theorem Linked.congr {j A pv' nx':Nat->Int} {os:List Nat} (h:Linked j A os) (I:∀i∈os,pv' i=j i/\nx' i=A i):Linked pv' nx' os:=by
 intro l i r e;have E:=h l i r e;have G:=I i (by rw[e];simp);exact⟨G.1.trans E.1,G.2.trans E.2⟩
theorem aJx {l r G I:List Nat} {j:Nat} (h:l++r=G++j :: I):(∃J,l=G++j :: J/\I=J++r)\/(∃L,r=L++j :: I/\G=l++L):=by
 rcases List.append_eq_append_iff.1 h with⟨a,E,A⟩|⟨a,E,A⟩
 .right;exact⟨a,A,E⟩
 .cases a with
  | nil=>right;exact⟨[],by simpa using A.symm,by simpa using E.symm⟩
  | cons x a =>
   rw[eNa]at A;injection A with h3 h4
   subst h3;exact .inl ⟨a,E,h4⟩
theorem Linked.unlink {X Y pv' nx':Nat->Int} {l r:List Nat} {i:Nat} (h:Linked X Y (l++i :: r)) (E:(l++i :: r).Nodup)
 (Z:∀j,pv' j=if(j:Int)=dN r then jE l else X j) (aa:∀j,nx' j=if(j:Int)=jE l then dN r else Y j):Linked pv' nx' (l++r):=by
 intro l' j r' e;rcases aJx e with⟨G,V,W⟩|⟨N,V,W⟩
 .subst V W;have J:=h l' j (G++i :: r) (by simp);have O:(j:Int)≠dN r:=by
   intro A
   cases r with
   | nil=>simp only[dN]at A;omega
   | cons x r =>
    simp only[dN]at A;have:j=x:=by omega
    subst this;simp[dYa,eHa]at E
  rw[Z,aa,bAa O];refine⟨J.1,?_⟩
  cases G with
  | nil=>rw[bBa (by rw[wM])];rfl
  | cons x G =>
   have U:(j:Int)≠jE (l'++j :: x :: G):=by
    intro A;rw[nN]at A
    change(j:Int)=jE (x :: G)at A
    rcases kK (x :: G)with⟨I,_⟩|⟨l3,a,I,L⟩
    .cases I
    .rw[L]at A;have:j=a:=by omega
     subst this;rw[I]at E;simp[dYa,eHa]at E
   rw[bAa U,J.2]
   rfl
 .subst V W;have J:=h (l++i :: N) j r' (by simp);have O:(j:Int)≠jE l:=by
   intro A;rcases kK l with⟨I,L⟩|⟨l3,a,I,L⟩
   .rw[L]at A;omega
   .rw[L]at A;have:j=a:=by omega
    subst this;rw[I]at E;simp[dYa,eHa]at E
  rw[Z,aa,bAa O];refine⟨?_,J.2⟩
  cases N with
  | nil=>rw[bBa (by rfl),ePa]
  | cons x N =>
   have U:(j:Int)≠dN (x :: N++j :: r'):=by
    intro A;simp only[eNa,dN]at A;have:j=x:=by omega
    subst this;simp[dYa,eHa]at E
   rw[bAa U,J.1,nN,nN]
   rfl
theorem Linked.move {pv nx pv' nx':Nat->Int} {l r:List Nat} {i k:Nat} (h:Linked pv nx (l++k :: r)) (I:(l++k :: r).Nodup) (O:i∉l++k :: r)
 (X:∀j,pv' j=if(j:Int)=dN r then(i:Int)else if j=i then jE l else pv j) (Y:∀j,nx' j=if(j:Int)=jE l then(i:Int)else if j=i then dN r else nx j):Linked pv' nx' (l++i :: r):=by
 have ag:(i:Int)≠dN r:=by
  intro A
  cases r with
  | nil=>simp only[dN]at A;omega
  | cons x r =>
   simp only[dN]at A;have:i=x:=by omega
   subst this;simp at O
 have ah:(i:Int)≠jE l:=by
  intro A;rcases kK l with⟨E,G⟩|⟨l3,a,E,G⟩
  .rw[G]at A;omega
  .rw[G]at A;have:i=a:=by omega
   subst this;rw[E]at O;simp at O
 intro l' j r' e;rcases aJx e with⟨J,L,W⟩|⟨N,L,W⟩
 .subst L W;have U:=h l' j (J++k :: r) (by simp);have V:j≠i:=by rintro rfl;exact O (by simp)
  have Z:(j:Int)≠dN r:=by
   intro A
   cases r with
   | nil=>simp only[dN]at A;omega
   | cons x r =>
    simp only[dN]at A;have:j=x:=by omega
    subst this;simp[dYa,eHa]at I
  rw[X,Y,bAa Z,bAa V,bAa V];refine⟨U.1,?_⟩
  cases J with
  | nil=>rw[bBa (by rw[wM])];rfl
  | cons x J =>
   have aa:(j:Int)≠jE (l'++j :: x :: J):=by
    intro A;rw[nN]at A
    change(j:Int)=jE (x :: J)at A
    rcases kK (x :: J)with⟨E,_⟩|⟨l3,a,E,G⟩
    .cases E
    .rw[G]at A;have:j=a:=by omega
     subst this;rw[E]at I;simp[dYa,eHa]at I
   rw[bAa aa,U.2]
   rfl
 .cases N with
  | nil =>
   rw[cVa]at L;injection L with E G
   subst E G;rw[ePa]at W;subst W;rw[X,Y,bAa ag,bBa rfl,bAa ah,bBa rfl];exact⟨rfl,rfl⟩
  | cons x N =>
   rw[eNa]at L;injection L with E G
   subst E G W;have U:=h (l++k :: N) j r' (by simp);have V:j≠i:=by rintro rfl;exact O (by simp)
   have Z:(j:Int)≠jE l:=by
    intro A;rcases kK l with⟨E,G⟩|⟨l3,a,E,G⟩
    .rw[G]at A;omega
    .rw[G]at A;have:j=a:=by omega
     subst this;rw[E]at I;simp[dYa,eHa]at I
   rw[X,Y,bAa Z,bAa V,bAa V];refine⟨?_,U.2⟩
   cases N with
   | nil=>rw[bBa (by rfl),wM]
   | cons y N =>
    have aa:(j:Int)≠dN (y :: N++j :: r'):=by
     intro A;simp only[eNa,dN]at A;have:j=y:=by omega
     subst this;simp[dYa,eHa]at I
    rw[bAa aa,U.1,nN,nN]
    rfl
section
section
variable {κ ε:Type} (key:ε->κ) (home:κ->Nat) (S:Nat)
def far (a b:Nat):Nat:=(b+S - a) % S
def Inv (sl:Nat->Option ε):Prop:=∀i e,i<S->sl i=some e->∃d,d<S/\(home (key e)+d) % S=i/\∀c,c<d->(sl ((home (key e)+c) % S)).isSome
variable {key home S}
theorem yC {a c d:Nat} (E:c<S) (G:d<S) (h:(a+c) % S=(a+d) % S):c=d:=by
 rcases Nat.lt_trichotomy c d with A|A|A
 .exfalso;have:(a+d - (a+c)) % S=0:=by
   have e:a+d=(a+c)+(d - c):=by omega
   rw[e]at h;rw[show a+d - (a+c)=d - c by omega];have j:=Nat.sub_mod_eq_zero_of_mod_eq h.symm;rw[show a+c+(d - c) - (a+c)=d - c by omega]at j;exact j
  rw[show a+d - (a+c)=d - c by omega,dPa (by omega)]at this;omega
 .exact A
 .exfalso;have:(a+c - (a+d)) % S=0:=by
   have e:a+c=(a+d)+(c - d):=by omega
   rw[e]at h;rw[show a+c - (a+d)=c - d by omega];have j:=Nat.sub_mod_eq_zero_of_mod_eq h;rw[show a+d+(c - d) - (a+d)=c - d by omega]at j;exact j
  rw[show a+c - (a+d)=c - d by omega,dPa (by omega)]at this;omega
theorem rD (j:0<S) (a i:Nat) (E:a<S) (A:i<S):far S a i<S/\(a+far S a i) % S=i:=by
 unfold far;refine⟨eKa _ j,?_⟩;rw[Nat.add_mod,Nat.mod_mod,<-Nat.add_mod,show a+(i+S - a)=i+S by omega,Nat.add_mod_right,dPa A]
theorem zQ {a c:Nat} (A:a<S) (E:c<S):far S a ((a+c) % S)=c:=by
 have j:0<S:=by omega
 have h:=rD j a ((a+c) % S) A (eKa _ j);exact yC h.1 E h.2
theorem far_self {a:Nat} (j:a<S):far S a a=0:=by
 have:=zQ (S:=S) (a:=a) (c:=0) j (by omega)
 rwa[cNa,dPa j]at this
theorem aEz {a b:Nat} (A:a<S) (E:b<S) (h:a≠b):0<far S a b:=by
 rcases fRa (far S a b)with j|j
 .exfalso;have:=(rD (by omega) a b A E).2;rw[j,cNa,dPa A]at this;exact h this
 .exact j
def InvH (key:ε->κ) (home:κ->Nat) (S:Nat) (sl:Nat->Option ε) (i m:Nat):Prop :=
 i<S/\0<m/\m<S/\sl i=none/\(∀c,0<c->c<m->(sl ((i+c) % S)).isSome)/\(∃f,f<S/\f≠i/\sl f=none) /\
 ∀j e,j<S->sl j=some e->∃d,d<S/\(home (key e)+d) % S=j/\((∀c,c<d->(sl ((home (key e)+c) % S)).isSome)\/(m<=far S i j/\∀c,c<d->(sl ((home (key e)+c) % S)).isSome\/(home (key e)+c) % S=i))
theorem aRy {E:Nat->Option ε} {i:Nat} {e:ε} (U:Inv key home S E) (I:i<S) (h:E i=some e) (V:∃f,f<S/\E f=none):InvH key home S (fun x=>if x=i then none else E x) i 1:=by
 obtain⟨f,X,G⟩:=V;have N:f≠i:=by rintro rfl;rw[h]at G;cases G
 refine⟨I,by omega,by omega,by simp,fun c A J=>by omega,⟨f,X,N,by dsimp only;rw[bAa N];exact G⟩,fun j e' L A=>?_⟩;dsimp only at A ⊢;split at A
 .cases A
 .rename_i aa;obtain⟨d,J,Y,Z⟩:=U j e' L A;refine⟨d,J,Y,.inr ⟨aEz I L (fun e=>aa e.symm),fun c W=>?_⟩⟩;by_cases O:(home (key e')+c) % S=i
  .exact .inr O
  .left;rw[bAa O];exact Z c W
theorem aMh {h j i d c:Nat} (I:d<S) (E:(h+d) % S=j) (J:c<d) (A:(h+c) % S=i):far S i j=d - c:=by
 have G:0<S:=by omega
 have:j=(i+(d - c)) % S:=by
  rw[<-E,<-A,jBa,show h+c+(d - c)=h+d by omega]
 rw[this];exact zQ (by rw[<-A];exact eKa _ G) (by omega)
theorem invH_end {I:Nat->Option ε} {i m:Nat} (Y:InvH key home S I i m) (J:I ((i+m) % S)=none):Inv key home S I:=by
 obtain⟨N,af,Z,hn,hb,hf,ha⟩:=Y;intro j e V h;obtain⟨d,O,U,E⟩:=ha j e V h;refine⟨d,O,U,?_⟩;rcases E with E|⟨E,X⟩
 .exact E
 .intro c W;rcases X c W with G|G
  .exact G
  .exfalso;have ac:=aMh O U W G;have ad:far S i j≠m:=by
    intro e3;have:=(rD (by omega) i j N V).2;rw[e3]at this;rw[<-this,J]at h
    cases h
   have ae:m<d - c:=by omega
   have L:(home (key e)+(c+m)) % S=(i+m) % S:=by rw[<-G,jBa,eVa]
   rcases X (c+m) (by omega)with A|A
   .rw[L,J]at A;cases A
   .rw[L]at A;have:=yC (a:=i) (c:=m) (d:=0) Z (by omega) (by rw[A,cNa,dPa N]);omega
theorem aTq {J:Nat->Option ε} {i m:Nat} {e:ε} (hh:∀k,home k<S) (hH:InvH key home S J i m) (O:J ((i+m) % S)=some e) (ac:far S (home (key e)) ((i+m) % S)<far S i ((i+m) % S)):InvH key home S J i (m+1):=by
 obtain⟨I,am,hm,hn,hb,⟨f,L,W,X⟩,ha⟩:=hH;have ak:(i+m) % S<S:=eKa _ (by omega);have ad:far S i ((i+m) % S)=m:=zQ I hm;have V:∀c,0<c->c<m+1->(J ((i+c) % S)).isSome:=by
  intro c E G;by_cases A:c=m
  .subst A;rw[O];rfl
  .exact hb c E (by omega)
 refine⟨I,by omega,?_,hn,V,⟨f,L,W,X⟩,fun j e' U h=>?_⟩
 .-- another place is free
  have E:=rD (S:=S) (by omega) i f I L;have G:=aEz I L W.symm;rcases eMa (m+1) S with A|A
  .exact A
  .exfalso;have:=V _ G (by omega);rw[E.2,X]at this
   cases this
 .obtain⟨d,E,G,A⟩:=ha j e' U h;refine⟨d,E,G,?_⟩;rcases A with A|⟨A,Z⟩
  .exact .inl A
  .by_cases aj:far S i j=m
   .left;have ae:j=(i+m) % S:=by rw[<-aj];exact(rD (by omega) i j I U).2.symm
    subst ae;rw[O]at h
    cases h
    rw[ad]at ac;have al:far S (home (key e)) ((i+m) % S)=d:=by rw[<-G];exact zQ (hh _) E
    intro c Y;rcases Z c Y with N|N
    .exact N
    .have:=aMh E G Y N;omega
   .exact .inr ⟨by omega,Z⟩
theorem aTp {U:Nat->Option ε} {i m:Nat} {e:ε} (Y:∀k,home k<S) (hH:InvH key home S U i m) (V:U ((i+m) % S)=some e) (aj:far S i ((i+m) % S)<=far S (home (key e)) ((i+m) % S)) :
 InvH key home S (fun x=>if x=(i+m) % S then none else if x=i then some e else U x) ((i+m) % S) 1:=by
 obtain⟨hi,av,hm,hn,hb,⟨f,an,ao,X⟩,ha⟩:=hH;have L:(i+m) % S<S:=eKa _ (by omega);have Z:far S i ((i+m) % S)=m:=zQ hi hm;obtain⟨k,af⟩:∃k,(i+m) % S=k:=⟨_,rfl⟩
 rw[af]at V aj L Z ⊢;have aq:i≠k:=by
  intro e1;rw[<-e1,far_self hi]at Z;omega
 have aa:f≠k:=by rintro rfl;rw[V]at X;cases X
 refine⟨L,by omega,by omega,by simp,fun c I J=>by omega,⟨f,an,aa,by dsimp only;rw[bAa aa,bAa ao];exact X⟩,fun j e' O h=>?_⟩;dsimp only at h ⊢;split at h
 .cases h
 .rename_i ag;split at h
  .rename_i ah;subst ah
   cases h
   obtain⟨d,I,J,A⟩:=ha k e L V;have ar:far S (home (key e)) k=d:=by rw[<-J];exact zQ (Y _) I
   have au:m<=d:=by omega
   have e5:(home (key e)+(d - m)) % S=j:=by
    have r1:=rD (S:=S) (by omega) (home (key e)) j (Y _) O;have e6:(home (key e)+(far S (home (key e)) j+m)) % S=(home (key e)+d) % S:=by
     rw[J,<-af,<-eVa,<-jBa,r1.2]
    rcases eMa (far S (home (key e)) j+m) S with E|E
    .have:=yC E I e6;rw[<-this,Nat.add_sub_cancel];exact r1.2
    .exfalso;have e8:(home (key e)+(far S (home (key e)) j+m - S)) % S=(home (key e)+d) % S:=by
      rw[<-e6];have:home (key e)+(far S (home (key e)) j+m)=home (key e)+(far S (home (key e)) j+m - S)+S:=by omega
      rw[this,Nat.add_mod_right]
     have:=yC (by omega) I e8;omega
   refine⟨d - m,by omega,e5,.inr ⟨aEz L O (fun e=>ag e.symm),fun c W=>?_⟩⟩;by_cases N:(home (key e)+c) % S=k
   .exact .inr N
   .left;rw[bAa N];by_cases E:(home (key e)+c) % S=j
    .rw[bBa E];rfl
    .rw[bAa E];rcases A with A|⟨_,A⟩
     .exact A c (by omega)
     .rcases A c (by omega)with G|G
      .exact G
      .exact absurd G E
  .rename_i ah;obtain⟨d,I,J,A⟩:=ha j e' O h;refine⟨d,I,J,.inr ⟨aEz L O (fun e=>ag e.symm),fun c W=>?_⟩⟩;by_cases N:(home (key e')+c) % S=k
   .exact .inr N
   .left;rw[bAa N];by_cases E:(home (key e')+c) % S=i
    .rw[bBa E];rfl
    .rw[bAa E];rcases A with A|⟨_,A⟩
     .exact A c W
     .rcases A c W with G|G
      .exact G
      .exact absurd G E
end
end
end Go.Proofs.YtpcifakangbpaaaGreat
