/- Parts of the proof of PathOpens: contracts of functions of the program. No condition but those that each theorem names. -/
import Derived.Test.YtpcifakangbpaaaGreatQPathOpens6
import Derived.Deep.DeepCutAuto
import Derived.Handy
set_option linter.unusedVariables false
set_option linter.unusedSimpArgs false
set_option maxRecDepth 100000
set_option maxHeartbeats 16000000
namespace Go.Proofs.YtpcifakangbpaaaGreat
open Go.RowKit Go.ChangeShapes Go.WideShapes Go.ChangeAt Go.Deep Go.Proofs.Tryz
variable {R xs:List UInt8}{B E J N O S V b base' c f fuel g i j k m n s sd sz:Nat}{Q:Exit->Act->World->Prop}{d w' w0:World}{u v z:Value}{T e t:TypeId}{A:Option Addr}{h os:List Nat}{F:List UInt8->Option Nat}{p:List Nat×List Bool}{a:Act}{α:Type}{H l:List Int}{o:Oper}{G:Array Oper}{K:Act->World->Prop}{y:Array Value}{vs:List Value}{L:List Oper}{I:Bool}{U W Y aa:List (Int×List UInt8)}{P:Program}
abbrev vJ (v:Bool) (hi lo:Int):Value:=.agg #[.bool v,.int .u64 hi,.int .u64 lo]
abbrev fE (tos id:Int) (df mf:Bool) (frag ttl proto:Int) (sv:Bool) (shi slo:Int) (dv:Bool) (dhi dlo:Int) (A:Option Addr) (n c:Nat):Value :=
 .agg #[.int .i64 tos,.int .i64 id,.bool df,.bool mf,.int .i64 frag,.int .i64 ttl,.int .i64 proto,.bool sv,.int .u64 shi,.int .u64 slo,.bool dv,.int .u64 dhi,.int .u64 dlo,.slice A n c]
abbrev dS (tos id:Int) (df mf:Bool) (frag ttl proto:Int) (sv:Bool) (shi slo:Int) (dv:Bool) (dhi dlo:Int) (A:Option Addr) (n c:Nat):Obj :=
 .cells #[.int .i64 tos,.int .i64 id,.bool df,.bool mf,.int .i64 frag,.int .i64 ttl,.int .i64 proto,.bool sv,.int .u64 shi,.int .u64 slo,.bool dv,.int .u64 dhi,.int .u64 dlo,.slice A n c] 167
theorem v4_any(x:Int)(w:World)(j:0<=x)(A:x<4294967296) :
 Cl 149 #[.int .u32 x] w fun e w'=>e=.returned (.agg #[.bool false,.int .u64 0,.int .u64 x])/\Below w.heap.size w w':=by
 go_enter func149,ntmps149;go_wp2;exact aYa (v:=.agg #[.bool false,.int .u64 0,.int .u64 x]) (by simp[results,results149,go_sem]) rfl ⟨rfl,bC⟩
def okA (v:Bool) (hi lo:Int):Bool:=v || (decide (hi=0) && decide (lo<4294967296))
theorem jB(v:Bool)(j E:Int)(r:Bool)(w:World)(G:okA v j E=r) :
 Cl 104 #[.agg #[.bool v,.int .u64 j,.int .u64 E]] w fun e w'=>e=.returned (.bool r)/\Below w.heap.size w w':=by
 subst G;rcases v with _|_
 .by_cases A:j=0
  .subst A;go_enter func104,ntmps104;go_wp2;go_ret;exact⟨by simp[okA],bC⟩
  .have I:(j == 0)=false:=by simp[A]
   go_enter func104,ntmps104;go_wp2;go_ret;exact⟨by simp[okA,A],bC⟩
 .go_enter func104,ntmps104;go_wp2;go_ret;exact⟨by simp[okA],bC⟩
theorem uB(j id:Int)(E G:Bool)(I J L:Int)(N:Bool)(O U:Int)(V:Bool)(W X:Int)(A:Option Addr)(n c:Nat)(w:World)(Y:n<=1099511627776) :
 Cl 77 #[fE j id E G I J L N O U V W X A n c] w fun e w'=>e=.returned (.int .i64 (20+(n:Int)))/\Below w.heap.size w w':=by
 unfold fE;go_enter func77,ntmps77;go_wp2;go_ret;exact⟨rfl,bC⟩
def kR (shi slo dhi dlo s1 p1:Nat):List UInt8:=(nS 8 [shi,slo,dhi,dlo]++beB s1 4)++[0,0,0,UInt8.ofNat p1]
theorem aB7(O:Bool)(j A:Nat)(Y:Bool)(G I:Nat)(Z size:Int)(J U:Nat)(aa:Z % 256=(J:Int))(aw:IntKind.u64.wrap size=(U:Int))(w:World)(h1:j<18446744073709551616)(h2:A<18446744073709551616)(h3:G<18446744073709551616)(V:I<18446744073709551616)(ab:U<18446744073709551616) :
 Cl 57 #[.agg #[.bool O,.int .u64 j,.int .u64 A],.agg #[.bool Y,.int .u64 G,.int .u64 I],.int .i64 Z,.int .i64 size] w fun e w'=>∃v,e=.returned v/\aZ w' w.heap.size v (kR j A G I U J)/\Below w.heap.size w w':=by
 obtain⟨E,L⟩:=eX ((w.alloc (.cells #[.bool O,.int .u64 j,.int .u64 A] 27)).alloc (.cells #[.bool Y,.int .u64 G,.int .u64 I] 27));have ap:Hid (Below w.heap.size w E):=q_ (L▸bC.alloc (by simp) _);have ah:Hid (E.heap.size=w.heap.size+1+1):=q_ (by rw[<-L];simp);have aq:∀i,E.cell? ⟨w.heap.size,i,none⟩=_:=fun i=>aA (by rw[<-L];exact kE _ (by simp) (aJ w 27 #[.bool O,.int .u64 j,.int .u64 A])) i
 have ar:∀i,E.cell? ⟨w.heap.size+1,i,none⟩=_:=fun i=>aA (by rw[<-L];simpa using aJ (w.alloc (.cells #[.bool O,.int .u64 j,.int .u64 A] 27)) 27 #[.bool Y,.int .u64 G,.int .u64 I]) i
 have ax:IntKind.u8.wrap Z=(J:Int):=by rw[IntKind.wrap_u8];exact aa
 have au:J<=255:=by omega
 have hN:∀N∈[j,A,G,I],N<18446744073709551616:=by
  intro N hN;simp only[bXa,bVa,dTa]at hN;rcases hN with rfl|rfl|rfl|rfl
  .exact h1
  .exact h2
  .exact h3
  .exact V
 clear h1 h2 h3 V;replace ⟨hN,ab,aa⟩:=q_3 hN ab aa;go_enter func57,ntmps57;go_wp2_with fail
 refine(aBu E.heap.size _ [] 8 _ rfl [j,A,G,I] _ rfl 4 _ rfl _ E _ rfl (aZ.nil _ _) (aZa _) (by omega) (by simp) (by omega) hN).mono ?_;rintro e w2 ⟨v2,rfl,W,am⟩;have ai:=q_ am.qG;have aj:=ai.size;clear L am aq ar;replace W:=q_ W;go_wp2_with fail
 refine(aB9 _ _ U 4 rfl rfl E.heap.size _ _ _ W aj ab (by omega) (by simp[jU])).mono ?_;rintro e w3 ⟨v3,rfl,X,an⟩;have ak:=q_ (ai.trans (an.below W aj));have al:=ak.size;have ac:[Value.int .u8 0,.int .u8 0,.int .u8 0,.int .u8 (J:Int)]=([0,0,0,UInt8.ofNat J]:List UInt8).map u8v:=by
  simp only[eCa,gHa];rw[rG _ au]
  rfl
 clear an;replace ⟨X,ac⟩:=q_2 X ac;go_wp2_with (at_builtin;refine xD rfl (.tmp 24) (.tmp 27) rfl E.heap.size _ _ [0,0,0,UInt8.ofNat J] _ _ rfl rfl ac rfl X al ?_ ?_)
 .simp[aR,jU]
 intro v4 w4 ad ao;have av:=q_ (ap.trans ((ak.trans (ao.below X al)).mono (by have:=ah.out;omega)));clear ao;replace ad:=q_ ad;go_wp2_with fail
 go_ret;refine⟨_,rfl,?_,av⟩;have V:=ad.weaken (base':=w.heap.size) (by have:=ah.out;omega);simpa[kR]using V
theorem aA8(J:Bool)(L j:Nat)(W:Bool)(X E:Nat)(Y size:Int)(G O:Nat)(Z:Y % 256=(G:Int))(au:IntKind.u64.wrap size=(O:Int))(w:World)(h1:j<18446744073709551616)(h2:E<18446744073709551616)(aa:O<18446744073709551616) :
 Cl 79 #[.agg #[.bool J,.int .u64 L,.int .u64 j],.agg #[.bool W,.int .u64 X,.int .u64 E],.int .i64 Y,.int .i64 size] w fun e w'=>∃v,e=.returned v/\aZ w' w.heap.size v (((beB j 4++beB E 4)++[0,UInt8.ofNat G])++beB O 2)/\Below w.heap.size w w':=by
 obtain⟨A,I⟩:=eX ((w.alloc (.cells #[.bool J,.int .u64 L,.int .u64 j] 27)).alloc (.cells #[.bool W,.int .u64 X,.int .u64 E] 27));have am:Hid (Below w.heap.size w A):=q_ (I▸bC.alloc (by simp) _);have ag:Hid (A.heap.size=w.heap.size+1+1):=q_ (by rw[<-I];simp);have an:∀i,A.cell? ⟨w.heap.size,i,none⟩=_:=fun i=>aA (by rw[<-I];exact kE _ (by simp) (aJ w 27 #[.bool J,.int .u64 L,.int .u64 j])) i
 have ao:∀i,A.cell? ⟨w.heap.size+1,i,none⟩=_:=fun i=>aA (by rw[<-I];simpa using aJ (w.alloc (.cells #[.bool J,.int .u64 L,.int .u64 j] 27)) 27 #[.bool W,.int .u64 X,.int .u64 E]) i
 have av:IntKind.u8.wrap Y=(G:Int):=by rw[IntKind.wrap_u8];exact Z
 have ap:G<=255:=by omega
 have hN:∀N∈[j,E],N<18446744073709551616:=by
  intro N hN;simp only[bXa,bVa,dTa]at hN;rcases hN with rfl|rfl
  .exact h1
  .exact h2
 replace ⟨hN,aa⟩:=q_2 hN aa;clear h1 h2;replace Z:=q_ Z;go_enter func79,ntmps79;go_wp2_with fail
 refine(aBu A.heap.size _ [] 4 _ rfl [j,E] _ rfl 2 _ rfl _ A _ rfl (aZ.nil _ _) (aZa _) (by omega) (by simp) (by omega) hN).mono ?_;rintro e w2 ⟨v2,rfl,U,aj⟩;have ah:=q_ aj.qG;have ai:=ah.size;have ab:[Value.int .u8 0,.int .u8 (G:Int)]=([0,UInt8.ofNat G]:List UInt8).map u8v:=by
  simp only[eCa,gHa];rw[rG _ ap]
  rfl
 clear I aj an ao;replace ⟨U,ab⟩:=q_2 U ab;go_wp2_with (at_builtin;refine xD rfl (.tmp 16) (.tmp 19) rfl A.heap.size _ _ [0,UInt8.ofNat G] _ _ rfl rfl ?_ ?_ U ?_ ?_ ?_)
 .exact ab
 .rfl
 .exact ai
 .simp[aR,jU]
 intro v3 w3 V al;have ac:=q_ (ah.trans (al.below U ai));clear al;replace V:=q_ V;go_wp2_with fail
 refine(aB9 _ _ O 2 rfl rfl A.heap.size _ _ _ V ac.size aa (by omega) (by simp[jU])).mono ?_;rintro e w4 ⟨v4,rfl,ad,ak⟩;have aq:=q_ (am.trans ((ac.trans (ak.below V ac.size)).mono (by have:=ag.out;omega)));clear ak;replace ad:=q_ ad;go_wp2_with fail
 go_ret;refine⟨_,rfl,?_,aq⟩;have h4:=ad.weaken (base':=w.heap.size) (by have:=ag.out;omega);simpa[nS]using h4
theorem fF{a b:World}(h:Below n a b){p:Addr}(j:p.block=n)(u:Value):Below n a (b.setCell p u):=h.setCell (Nat.le_of_eq j.symm) u
abbrev rawV (xs:List UInt8) (A:Option Addr) (n c:Nat):Value :=
 fE ((xs.getD 1 0).toNat:Nat) (beN xs 4 2:Nat) (decide (beN xs 6 2 / 16384 % 2=1)) (decide (beN xs 6 2 / 8192 % 2=1)) (beN xs 6 2 % 8192:Nat) ((xs.getD 8 0).toNat:Nat) ((xs.getD 9 0).toNat:Nat)
  false 0 (beN xs 12 4:Nat) false 0 (beN xs 16 4:Nat) A n c
theorem aQv(A:Option Addr)(n c:Nat)(xs:List UInt8)(size:Nat)(si:Int)(az:si=(size:Int))(w:World)(N:IsB w w.heap.size A n xs)(a0:20<=size)(a1:size<=n)(a2:n<=c)(bg:n<=1099511627776) :
 Cl 117 #[.slice A n c,.int .i64 si] w fun e w'=>∃I J,e=.returned (rawV xs I (size - 20) J)/\aZ w' w.heap.size (.slice I (size - 20) J) ((xs.take size).drop 20)/\Below w.heap.size w w':=by
 subst az;obtain⟨b,U,v1,rfl,ai,af,bz,aw⟩:=N.byte (i:=1) (by omega);obtain⟨v8,ag,b0,ax⟩:=N.uZ (i:=8) (by omega);obtain⟨v9,ah,b1,ay⟩:=N.uZ (i:=9) (by omega);obtain⟨E,X⟩:∃k,beN xs 6 2=k:=⟨_,rfl⟩
 obtain⟨ao,Y⟩:∃k,beN xs 4 2=k:=⟨_,rfl⟩
 obtain⟨sn,aa⟩:∃k,beN xs 12 4=k:=⟨_,rfl⟩
 obtain⟨dn,Z⟩:∃k,beN xs 16 4=k:=⟨_,rfl⟩
 have bh:E<65536:=by rw[<-X];exact bX xs 6 2
 have bi:ao<65536:=by rw[<-Y];exact bX xs 4 2
 have bj:sn<4294967296:=by rw[<-aa];exact bX xs 12 4
 have bk:dn<4294967296:=by rw[<-Z];exact bX xs 16 4
 obtain⟨G,L⟩:=eX (w.alloc (dS 0 0 false false 0 0 0 false 0 0 false 0 0 none 0 0));have ar:Hid (Below w.heap.size w G):=q_ (L▸bC);have au:Hid (G.heap[w.heap.size]?=some (dS 0 0 false false 0 0 0 false 0 0 false 0 0 none 0 0 |> fun|.cells a t=>.cells a t (0,0)|o=>o)):=q_ (L▸aJ _ _ _);have O:w.heap.size<G.heap.size:=by rw[<-L];simp
 have W:Hid (IsB G G.heap.size (some ⟨b,U,none⟩) n xs):=q_ (N.on ar);have bl:∀l:Later G,l.w.cell? ⟨b,U+1,none⟩=some (.int .u8 (v1:Nat)):=fun l=>l.cell (by rw[<-L];exact(bC.cell ai).trans aw)
 have hd8:∀l:Later G,l.w.cell? ⟨b,U+8,none⟩=some (.int .u8 (v8:Nat)):=fun l=>l.cell (by rw[<-L];exact(bC.cell ai).trans ax)
 have bm:∀l:Later G,l.w.cell? ⟨b,U+9,none⟩=some (.int .u8 (v9:Nat)):=fun l=>l.cell (by rw[<-L];exact(bC.cell ai).trans ay)
 clear aw ax ay;obtain⟨ad,be⟩:∃ad,(if c=20 then some (⟨b,U,none⟩:Addr)else some ⟨b,U+20,none⟩)=ad:=⟨_,rfl⟩
 have ae:IsB G G.heap.size ad (size - 20) ((xs.take size).drop 20):=by
  have h8:=W.cut (k:=20) (m:=size) (cap:=c) a0 a1 a2;rw[<-be];exact h8
 unfold dS at L au;replace ⟨N,ae,af,ag,ah,X,Y,aa,Z⟩:=q_9 N ae af ag ah X Y aa Z;go_enter func117,ntmps117;go_wp2_with fail
 refine(fB _ _ 6 2 rfl rfl _ _ _ xs _ W (by unfold maxLen;omega) (by omega) (by omega)).mono ?_;rintro e w' ⟨rfl,rfl⟩;rw[X.out];clear L;have i1:1<n:=by omega
 have i8:8<n:=by omega
 have i9:9<n:=by omega
 have k1:(1:Int)<(n:Int):=by omega
 have k8:(8:Int)<(n:Int):=by omega
 have k9:(9:Int)<(n:Int):=by omega
 have bs:(20:Int)<=(size:Int):=by omega
 have bt:(size:Int)<=(n:Int):=by omega
 have bu:size<=c:=by omega
 go_wp2_with fail
 refine aP (by kernel_rfl) ?_;refine aY 0 36 (fuel:=3) (by kernel_rfl) (fun d _ _ _ _ h=>by cases d<;>exact h) (by kernel_rfl) (by kernel_rfl) ?_;simp only[dA,dC,dD];iterate 5(refine aD (fun K j=>?_);go_simp;(try go_bits);refine j _ ?_;clear j K)
 (refine aD (fun K j=>?_);go_simp;apply bSa;refine⟨fun l=>?_,j _ ?_⟩;(go_at_call 115;refine(fB _ _ 4 2 rfl rfl _ _ _ xs _ (IsB.later W l) (by unfold maxLen;omega) (by omega) (by omega)).mono ?_;rw[Y.out];rintro e w' ⟨rfl,rfl⟩;exact⟨rfl,mG _⟩);clear j K)
 iterate 20(refine aD (fun K j=>?_);go_simp;(try go_bits);refine j _ ?_;clear j K)
 (refine aD (fun K j=>?_);go_simp;apply bSa;refine⟨fun l=>?_,j _ ?_⟩;(go_at_call 115;refine(fB _ _ 12 4 rfl rfl _ _ _ xs _ (IsB.later W l) (by unfold maxLen;omega) (by omega) (by omega)).mono ?_;rw[aa.out];rintro e w' ⟨rfl,rfl⟩;exact⟨rfl,mG _⟩);clear j K)
 refine aD (fun K j=>?_);go_simp;(try go_bits);refine j _ ?_;clear j K
 (refine aD (fun K j=>?_);go_simp;apply bSa;refine⟨fun l=>?_,j _ ?_⟩;(go_at_call 149;refine(v4_any _ _ (by omega) (by omega)).mono ?_;rintro e w' ⟨rfl,hb⟩;exact⟨rfl,hb⟩);clear j K)
 refine aD (fun K j=>?_);go_simp;(try go_bits);refine j _ ?_;clear j K
 (refine aD (fun K j=>?_);go_simp;apply bSa;refine⟨fun l=>?_,j _ ?_⟩;(go_at_call 115;refine(fB _ _ 16 4 rfl rfl _ _ _ xs _ (IsB.later W l) (by unfold maxLen;omega) (by omega) (by omega)).mono ?_;rw[Z.out];rintro e w' ⟨rfl,rfl⟩;exact⟨rfl,mG _⟩);clear j K)
 refine aD (fun K j=>?_);go_simp;(try go_bits);refine j _ ?_;clear j K
 (refine aD (fun K j=>?_);go_simp;apply bSa;refine⟨fun l=>?_,j _ ?_⟩;(go_at_call 149;refine(v4_any _ _ (by omega) (by omega)).mono ?_;rintro e w' ⟨rfl,hb⟩;exact⟨rfl,hb⟩);clear j K)
 iterate 3(refine aD (fun K j=>?_);go_simp;(try go_bits);refine j _ ?_;clear j K)
 refine aT ?_;refine eT 36 rfl fun l K j=>?_;go_simp;go_at_call 118;refine(nM _ _ _ ((xs.take size).drop 20) _ ?_ (by omega)).mono ?_
 .exact IsB.later ae l
 rintro e w3 ⟨v,rfl,ac,ab⟩;refine j _ _ ab ?_;clear j K;have a4:Hid (((xs.take size).drop 20).length=size - 20):=q_ (by rw[cCa,bGa,N.out.1];omega);obtain⟨I,J,rfl,bf,b2,b3⟩:=ac.form;rw[a4]at bf ac ⊢;refine aY 37 1 (fuel:=1) (by kernel_rfl) (fun d _ _ _ _ h=>by cases d<;>exact h) (by kernel_rfl) (by kernel_rfl) ?_;simp only[dB,dA,dC,dD];refine qE ?_;refine aT ?_;refine dG (by kernel_rfl) (fun V=>?_);have av:Hid (V.w.heap[w.heap.size]?=_):=q_ (aC V.hb (bKa O (bJa l.hb.size ab.size)) (aC ab (bKa O l.hb.size) (aC l.hb O au)));have a5:=aA av;have bv:=bD av;have a6:Hid (Below w.heap.size w V.w):=q_ (((ar.trans (l.hb.mono (by omega))).trans (ab.mono (bJa (cAa O) l.hb.size))).trans (V.hb.mono (bJa (cAa O) (bJa l.hb.size ab.size))));refine bF 38 rfl (by kernel_rfl) (fun K j=>?_);go_simp;refine j _ _ ?_;clear j K;refine bY (by kernel_rfl) ?_ 0;have e1:=aMw ((E:Int) / 16384) (by omega) (by omega);have e2:=aMw ((E:Int) / 8192) (by omega) (by omega);have e3:=aPf (E:Int) (by omega) (by omega);have d1:(((E:Int) / 16384 % 2) == 1)=decide (E / 16384 % 2=1):=aEx (E / 16384 % 2) 1;have d2:(((E:Int) / 8192 % 2) == 1)=decide (E / 8192 % 2=1):=aEx (E / 8192 % 2) 1;rw[e1,e2,e3,d1,d2];go_wp2;have bc:=ac.below V.hb;have bd:(Value.slice I (size - 20) J).ownBlock=none\/(Value.slice I (size - 20) J).ownBlock≠some w.heap.size:=by
  rcases hob:(Value.slice I (size - 20) J).ownBlock with _|k
  .exact .inl rfl
  .right;intro e;have h1:=(ac.lt k hob).1;have h2:=l.hb.size
   cases e
   omega
 refine aYa (v:=fE (v1:Nat) (ao:Nat) (decide (E / 16384 % 2=1)) (decide (E / 8192 % 2=1)) ((E:Int) % 8192) (v8:Nat) (v9:Nat) false 0 (sn:Nat) false 0 (dn:Nat) I (size - 20) J) (by simp[results,results117,go_sem,a5]) rfl ⟨I,J,?_,?_,?_⟩
 .unfold rawV;rw[af.out,ag.out,ah.out,X.out,Y.out,aa.out,Z.out]
  rfl
 .refine aZ.weaken (bc.kept (row:=some w.heap.size) ?_ bd) (bJa (cAa O) l.hb.size);iterate 14 refine fG ?_ rfl _
  exact dR _ _
 .iterate 14 refine fF ?_ (by rfl) _
  exact a6
abbrev fP:Value:=fE 0 0 false false 0 0 0 false 0 0 false 0 0 none 0 0
abbrev yX:Obj:=dS 0 0 false false 0 0 0 false 0 0 false 0 0 none 0 0
theorem aF2(A:Option Addr)(n c:Nat)(xs:List UInt8)(w:World)(_hx:IsB w w.heap.size A n xs)(_hnc:n<=c)(j:n<=1099511627776)(h:n<20) :
 Cl 76 #[.slice A n c] w fun e w'=>e=.returned (.tuple #[fP,.slice none 0 0,.int .i64 2])/\Below w.heap.size w w':=by
 go_enter func76,ntmps76;go_wp2;exact aYa (v:=.tuple #[fP,.slice none 0 0,.int .i64 2]) (by simp[results,jGa,go_sem]) rfl ⟨rfl,bC⟩
theorem aLt(A:Option Addr)(n c:Nat)(xs:List UInt8)(w:World)(E:IsB w w.heap.size A n xs)(_hnc:n<=c)(N:n<=1099511627776)(h:20<=n)(I:(xs.getD 0 0).toNat / 16≠4) :
 Cl 76 #[.slice A n c] w fun e w'=>e=.returned (.tuple #[fP,.slice none 0 0,.int .i64 10])/\Below w.heap.size w w':=by
 obtain⟨b,V,J,rfl,L,G,W,j⟩:=E.byte (i:=0) (by omega);rw[cNa]at j;rw[G]at I;replace j:=((bLa _ _).alloc (aZa _) yX).cell L |>.trans j
 unfold yX dS at j;have O:0<n:=by omega
 have U:(((J:Int) / 16) != 4)=true:=by rw[dLa];omega
 replace ⟨G,E⟩:=q_2 G E;go_enter func76,ntmps76;go_wp2;exact aYa (v:=.tuple #[fP,.slice none 0 0,.int .i64 10]) (by simp[results,jGa,go_sem]) rfl ⟨rfl,bC⟩
theorem vE(A:Option Addr)(n c:Nat)(xs:List UInt8)(w:World)(V:IsB w w.heap.size A n xs)(_hnc:n<=c)(a2:n<=1099511627776)(h:20<=n)(hv:(xs.getD 0 0).toNat / 16=4)(s:Nat)(hs:(xs.getD 0 0).toNat % 16*4=s)(K:Int)(j:(s<20/\K=11)\/((20<=s/\n<s)/\K=11)\/((20<=s/\s<=n/\beN xs 6 2 / 32768≠0)/\K=11)\/((20<=s/\s<=n/\beN xs 6 2 / 32768=0/\beN xs 2 2<s)/\K=12)\/((20<=s/\s<=n/\beN xs 6 2 / 32768=0/\s<=beN xs 2 2/\n<beN xs 2 2)/\K=12)) :
 Cl 76 #[.slice A n c] w fun e w'=>e=.returned (.tuple #[fP,.slice none 0 0,.int .i64 K])/\Below w.heap.size w w':=by
 obtain⟨b,af,E,rfl,au,ad,bb,Y⟩:=V.byte (i:=0) (by omega);rw[cNa]at Y;rw[ad]at hv hs;obtain⟨J,L⟩:∃k,beN xs 2 2=k:=⟨_,rfl⟩
 obtain⟨W,N⟩:∃k,beN xs 6 2=k:=⟨_,rfl⟩
 have a3:J<65536:=by rw[<-L];exact bX xs 2 2
 have a4:W<65536:=by rw[<-N];exact bX xs 6 2
 obtain⟨G,I⟩:=eX (w.alloc yX);have ah:Hid (Below w.heap.size w G):=q_ (I▸bC);have aw:Hid (G.heap[w.heap.size]?=some (.cells #[.int .i64 0,.int .i64 0,.bool false,.bool false,.int .i64 0,.int .i64 0,.int .i64 0,.bool false,.int .u64 0,.int .u64 0,.bool false,.int .u64 0,.int .u64 0,.slice none 0 0] 167 (0,0))):=q_ (I▸aJ _ _ _);have ai:w.heap.size<G.heap.size:=by rw[<-I];simp
 have aj:Hid (IsB G G.heap.size (some ⟨b,af,none⟩) n xs):=q_ (V.on ah);have ax:∀l:Later G,l.w.cell? ⟨b,af,none⟩=some (.int .u8 (E:Nat)):=fun l=>l.cell (by rw[<-I];exact(bC.cell au).trans Y)
 have ay:G.cell? ⟨b,af,none⟩=some (.int .u8 (E:Nat)):=by rw[<-I];exact(bC.cell au).trans Y
 clear Y;unfold yX dS at I;have i0:0<n:=by omega
 have k0:(0:Int)<(n:Int):=by omega
 have hb:(((E:Int) / 16) != 4)=false:=by rw[dQa];omega
 have e0:bits .and .u8 (E:Int) 15=((E % 16:Nat):Int):=by rw[u8_and15 (E:Int) (by omega) (by omega)];omega
 obtain⟨r,hr⟩:∃r,E % 16=r:=⟨_,rfl⟩
 rw[hr]at e0;have e1:(r:Int)*4=(s:Int):=by omega
 have a8:s<=60:=by omega
 replace ⟨hr,hs,hv,ad,V,L,N⟩:=q_7 hr hs hv ad V L N;rw[N.out,L.out]at j;replace j:=q_ j;go_enter func76,ntmps76;go_wp2_with fail
 clear I;refine xC (by kernel_rfl) (by kernel_rfl) ?_
 repeat(refine wpQuiet_step (fun K j=>?_);go_simp;first|(refine j _ ?_;clear j K)|(apply bSa;refine⟨fun l=>?_,j _ ?_⟩;(go_at_call 115;refine(fB _ _ 2 2 rfl rfl _ _ _ xs _ (IsB.later aj l) (by unfold maxLen;omega) (by omega) (by omega)).mono ?_;rw[L.out];rintro e w' ⟨rfl,rfl⟩;exact⟨rfl,Later.same _ rfl⟩);clear j K))
 refine wpQuiet_nil ?_;intro l;have q1:IntKind.i64.wrap (r:Int)=(r:Int):=wO _;have q2:IntKind.i64.wrap ((r:Int)*4)=(s:Int):=by rw[e1];exact wO _
 have q3:IntKind.i64.wrap (J:Int)=(J:Int):=wO _;rw[q1,q2,q3];clear e0 e1 ax ay q1 q2 q3;have az:=q_ (aj.later l);go_wp2_with fail
 refine(fB _ _ 6 2 rfl rfl _ _ _ xs _ az (by unfold maxLen;omega) (by omega) (by omega)).mono ?_;rintro e w' ⟨rfl,rfl⟩;rw[N.out];have aq:=q_ (aC l.hb ai aw);have O:=aA aq;have a9:=bD aq;have U:=q_ (ah.trans (l.hb.mono (cAa ai)));rcases j with⟨Z,rfl⟩|⟨⟨Z,g2⟩,rfl⟩|⟨⟨Z,g2,g3⟩,rfl⟩|⟨⟨Z,g2,g3,g4⟩,rfl⟩|⟨⟨Z,g2,g3,g4,g5⟩,rfl⟩
 .have X:(s:Int)<20:=by omega
  go_wp2_with fail
  refine aYa (v:=.tuple #[fP,.slice none 0 0,.int .i64 11]) (by simp[results,jGa,go_sem,O]) rfl ⟨rfl,?_⟩;iterate 14 refine fF ?_ (by rfl) _
  exact U
 .have X:¬ (s:Int)<20:=by omega
  have t2:(n:Int)<(s:Int):=by omega
  go_wp2_with fail
  refine aYa (v:=.tuple #[fP,.slice none 0 0,.int .i64 11]) (by simp[results,jGa,go_sem,O]) rfl ⟨rfl,?_⟩;iterate 14 refine fF ?_ (by rfl) _
  exact U
 .have X:¬ (s:Int)<20:=by omega
  have t2:¬ (n:Int)<(s:Int):=by omega
  have t3:(((W:Int) / 32768) != 0)=true:=by rw[dLa];omega
  go_wp2_with fail
  refine aYa (v:=.tuple #[fP,.slice none 0 0,.int .i64 11]) (by simp[results,jGa,go_sem,O]) rfl ⟨rfl,?_⟩;iterate 14 refine fF ?_ (by rfl) _
  exact U
 .have X:¬ (s:Int)<20:=by omega
  have t2:¬ (n:Int)<(s:Int):=by omega
  have t3:(((W:Int) / 32768) != 0)=false:=by rw[dQa];omega
  have t4:(J:Int)<(s:Int):=by omega
  go_wp2_with fail
  refine aYa (v:=.tuple #[fP,.slice none 0 0,.int .i64 12]) (by simp[results,jGa,go_sem,O]) rfl ⟨rfl,?_⟩;iterate 14 refine fF ?_ (by rfl) _
  exact U
 .have X:¬ (s:Int)<20:=by omega
  have t2:¬ (n:Int)<(s:Int):=by omega
  have t3:(((W:Int) / 32768) != 0)=false:=by rw[dQa];omega
  have t4:¬ (J:Int)<(s:Int):=by omega
  have t5:(n:Int)<(J:Int):=by omega
  go_wp2_with fail
  refine aYa (v:=.tuple #[fP,.slice none 0 0,.int .i64 12]) (by simp[results,jGa,go_sem,O]) rfl ⟨rfl,?_⟩;iterate 14 refine fF ?_ (by rfl) _
  exact U
theorem aLk(A:Option Addr)(n c:Nat)(xs:List UInt8)(w:World)(j:IsB w w.heap.size A n xs)(E:n<=c)(G:n<=1099511627776)(h:20<=n)(I:(xs.getD 0 0).toNat / 16=4)(s:Nat)(J:(xs.getD 0 0).toNat % 16*4=s)(L:s<20) :
 Cl 76 #[.slice A n c] w fun e w'=>e=.returned (.tuple #[fP,.slice none 0 0,.int .i64 11])/\Below w.heap.size w w':=vE A n c xs w j E G h I s J _ (.inl ⟨L,rfl⟩)
theorem aLm(A:Option Addr)(n c:Nat)(xs:List UInt8)(w:World)(j:IsB w w.heap.size A n xs)(E:n<=c)(G:n<=1099511627776)(h:20<=n)(I:(xs.getD 0 0).toNat / 16=4)(s:Nat)(J:(xs.getD 0 0).toNat % 16*4=s)(L:20<=s)(N:n<s) :
 Cl 76 #[.slice A n c] w fun e w'=>e=.returned (.tuple #[fP,.slice none 0 0,.int .i64 11])/\Below w.heap.size w w':=vE A n c xs w j E G h I s J _ (.inr (.inl ⟨⟨L,N⟩,rfl⟩))
theorem aLn(A:Option Addr)(n c:Nat)(xs:List UInt8)(w:World)(j:IsB w w.heap.size A n xs)(E:n<=c)(G:n<=1099511627776)(h:20<=n)(I:(xs.getD 0 0).toNat / 16=4)(s:Nat)(J:(xs.getD 0 0).toNat % 16*4=s)(L:20<=s)(N:s<=n)(O:beN xs 6 2 / 32768≠0) :
 Cl 76 #[.slice A n c] w fun e w'=>e=.returned (.tuple #[fP,.slice none 0 0,.int .i64 11])/\Below w.heap.size w w':=vE A n c xs w j E G h I s J _ (.inr (.inr (.inl ⟨⟨L,N,O⟩,rfl⟩)))
theorem aLp(A:Option Addr)(n c:Nat)(xs:List UInt8)(w:World)(j:IsB w w.heap.size A n xs)(E:n<=c)(G:n<=1099511627776)(h:20<=n)(I:(xs.getD 0 0).toNat / 16=4)(s:Nat)(J:(xs.getD 0 0).toNat % 16*4=s)(L:20<=s)(N:s<=n)(O:beN xs 6 2 / 32768=0)(U:beN xs 2 2<s) :
 Cl 76 #[.slice A n c] w fun e w'=>e=.returned (.tuple #[fP,.slice none 0 0,.int .i64 12])/\Below w.heap.size w w':=vE A n c xs w j E G h I s J _ (.inr (.inr (.inr (.inl ⟨⟨L,N,O,U⟩,rfl⟩))))
theorem aLq(A:Option Addr)(n c:Nat)(xs:List UInt8)(w:World)(j:IsB w w.heap.size A n xs)(E:n<=c)(G:n<=1099511627776)(h:20<=n)(I:(xs.getD 0 0).toNat / 16=4)(s:Nat)(J:(xs.getD 0 0).toNat % 16*4=s)(L:20<=s)(N:s<=n)(O:beN xs 6 2 / 32768=0)(U:s<=beN xs 2 2)(V:n<beN xs 2 2) :
 Cl 76 #[.slice A n c] w fun e w'=>e=.returned (.tuple #[fP,.slice none 0 0,.int .i64 12])/\Below w.heap.size w w':=vE A n c xs w j E G h I s J _ (.inr (.inr (.inr (.inr ⟨⟨L,N,O,U,V⟩,rfl⟩))))
theorem aH8{w:World}(b:Nat)(G:w.heap.size=b)(j:IsB w w.heap.size A n xs)(I:n<=maxLen) :
 IsP (w.alloc (.cells #[.slice A n c] t)) (w.alloc (.cells #[.slice A n c] t)).heap.size (some ⟨b,0,none⟩) 1 [⟨A,c,xs⟩]:=by
 have L:=j.1;subst L G;refine⟨rfl,fun _=>⟨w.heap.size,0,rfl,by simp,fun i J=>?_⟩,fun p E=>?_⟩
 .rw[aA (aJ _ _ _) (0+i)];obtain rfl:i=0:=by simp at J;omega
  rfl
 .simp only[bXa,bVa,dTa]at E;subst E;exact⟨j.alloc _,I⟩
theorem aJh(A:Option Addr)(n c:Nat)(xs:List UInt8)(w:World)(O:IsB w w.heap.size A n xs)(a4:n<=c)(a5:n<=1099511627776)(h:20<=n)(X:(xs.getD 0 0).toNat / 16=4)(s:Nat)(Y:(xs.getD 0 0).toNat % 16*4=s)(h5:20<=s)(h6:s<=n)(h7:beN xs 6 2 / 32768=0)(h8:s<=beN xs 2 2)(h9:beN xs 2 2<=n)(Z:ones (tot false (xs.take s))≠65535) :
 Cl 76 #[.slice A n c] w fun e w'=>e=.returned (.tuple #[fP,.slice none 0 0,.int .i64 13])/\Below w.heap.size w w':=by
 obtain⟨b,J,j,rfl,ao,ac,bm,V⟩:=O.byte (i:=0) (by omega);rw[cNa]at V;rw[ac]at X Y;obtain⟨L,I⟩:∃k,beN xs 2 2=k:=⟨_,rfl⟩
 obtain⟨fl,N⟩:∃k,beN xs 6 2=k:=⟨_,rfl⟩
 have a7:L<65536:=by rw[<-I];exact bX xs 2 2
 have a8:fl<65536:=by rw[<-N];exact bX xs 6 2
 obtain⟨E,G⟩:=eX (w.alloc yX);have ae:Hid (Below w.heap.size w E):=q_ (G▸bC);have aw:Hid (E.heap[w.heap.size]?=some (.cells #[.int .i64 0,.int .i64 0,.bool false,.bool false,.int .i64 0,.int .i64 0,.int .i64 0,.bool false,.int .u64 0,.int .u64 0,.bool false,.int .u64 0,.int .u64 0,.slice none 0 0] 167 (0,0))):=q_ (G▸aJ _ _ _);have aa:w.heap.size<E.heap.size:=by rw[<-G];simp
 have af:Hid (IsB E E.heap.size (some ⟨b,J,none⟩) n xs):=q_ (O.on ae);have ax:∀l:Later E,l.w.cell? ⟨b,J,none⟩=some (.int .u8 (j:Nat)):=fun l=>l.cell (by rw[<-G];exact(bC.cell ao).trans V)
 have ay:E.cell? ⟨b,J,none⟩=some (.int .u8 (j:Nat)):=by rw[<-G];exact(bC.cell ao).trans V
 clear V;unfold yX dS at G;have i0:0<n:=by omega
 have k0:(0:Int)<(n:Int):=by omega
 have hb:(((j:Int) / 16) != 4)=false:=by rw[dQa];omega
 have e0:bits .and .u8 (j:Int) 15=((j % 16:Nat):Int):=by rw[u8_and15 (j:Int) (by omega) (by omega)];omega
 obtain⟨r,hr⟩:∃r,j % 16=r:=⟨_,rfl⟩
 rw[hr]at e0;have e1:(r:Int)*4=(s:Int):=by omega
 have bc:s<=60:=by omega
 replace ⟨hr,Y,X,ac,O,I,N⟩:=q_7 hr Y X ac O I N;have t1:¬ (s:Int)<20:=by omega
 have t2:¬ (n:Int)<(s:Int):=by omega
 rw[N.out]at h7;have t3:(((fl:Int) / 32768) != 0)=false:=by rw[dQa];omega
 rw[I.out]at h8;have t4:¬ (L:Int)<(s:Int):=by omega
 rw[I.out]at h9;have t5:¬ (n:Int)<(L:Int):=by omega
 have az:Hid (decide (ones (tot false (flat [⟨some ⟨b,J,none⟩,c,xs.take s⟩]))=65535)=false):=q_ (by simpa[flat]using Z);replace Z:=q_ Z;go_enter func76,ntmps76;go_wp2_with fail
 clear G;refine xC (by kernel_rfl) (by kernel_rfl) ?_
 repeat(refine wpQuiet_step (fun K U=>?_);go_simp;first|(refine U _ ?_;clear U K)|(apply bSa;refine⟨fun l=>?_,U _ ?_⟩;(go_at_call 115;refine(fB _ _ 2 2 rfl rfl _ _ _ xs _ (IsB.later af l) (by unfold maxLen;omega) (by omega) (by omega)).mono ?_;rw[I.out];rintro e w' ⟨rfl,rfl⟩;exact⟨rfl,Later.same _ rfl⟩);clear U K))
 refine wpQuiet_nil ?_;intro l;have q1:IntKind.i64.wrap (r:Int)=(r:Int):=wO _;have q2:IntKind.i64.wrap ((r:Int)*4)=(s:Int):=by rw[e1];exact wO _
 have q3:IntKind.i64.wrap (L:Int)=(L:Int):=wO _;rw[q1,q2,q3];clear e0 e1 ax ay q1 q2 q3;have am:=q_ (af.later l);go_wp2_with fail
 refine(fB _ _ 6 2 rfl rfl _ _ _ xs _ am (by unfold maxLen;omega) (by omega) (by omega)).mono ?_;rintro e w' ⟨rfl,rfl⟩;rw[N.out];have a0:=q_ (am.take (m:=s) h6);have bi:s<=c:=by omega
 have bj:(0:Int)<=(s:Int):=by omega
 have bk:(s:Int)<=(c:Int):=by omega
 go_wp2_with fail
 refine(pK _ _ _ [⟨some ⟨b,J,none⟩,c,xs.take s⟩] _ (aH8 _ rfl a0 (by unfold maxLen;omega)) (by unfold maxLen;omega) false az).mono ?_;rintro e w' ⟨rfl,rfl⟩;obtain⟨w3,W⟩:=eX (l.w.alloc (.cells #[.slice (some ⟨b,J,none⟩) s c] 43));have a1:Hid (Below w.heap.size w w3):=q_ (W▸((ae.trans (l.hb.mono (cAa aa))).alloc (by have:=l.hb.size;omega) _));have a2:Hid (Below l.w.heap.size l.w w3):=q_ (W▸bC);have an:=q_ (aC a2 (bKa aa l.hb.size) (aC l.hb aa aw));rw[W];clear W;have a3:=aA an;have bl:=bD an;go_wp2_with fail
 refine aYa (v:=.tuple #[fP,.slice none 0 0,.int .i64 13]) (by simp[results,jGa,go_sem,a3]) rfl ⟨rfl,?_⟩;iterate 14 refine fF ?_ (by rfl) _
 exact a1
theorem aLr(A:Option Addr)(n c:Nat)(xs:List UInt8)(w:World)(W:IsB w w.heap.size A n xs)(a4:n<=c)(bp:n<=1099511627776)(h:20<=n)(hv:(xs.getD 0 0).toNat / 16=4)(s:Nat)(hs:(xs.getD 0 0).toNat % 16*4=s)(h5:20<=s)(h6:s<=n)(h7:beN xs 6 2 / 32768=0)(h8:s<=beN xs 2 2)(h9:beN xs 2 2<=n)(ar:ones (tot false (xs.take s))=65535) :
 Cl 76 #[.slice A n c] w fun e w'=>∃X U Y Z,e=.returned (.tuple #[rawV xs X (s - 20) U,.slice Y (beN xs 2 2 - s) Z,.int .i64 0])/\IsB w' w'.heap.size X (s - 20) ((xs.take s).drop 20)/\s - 20<=U/\U<=maxLen/\aZ w' w.heap.size (.slice Y (beN xs 2 2 - s) Z) ((xs.take (beN xs 2 2)).drop s)/\Below w.heap.size w w':=by
 obtain⟨b,J,L,rfl,bm,aw,cz,an⟩:=W.byte (i:=0) (by omega);rw[cNa]at an;rw[aw]at hv hs;obtain⟨E,I⟩:∃k,beN xs 2 2=k:=⟨_,rfl⟩
 obtain⟨fl,ad⟩:∃k,beN xs 6 2=k:=⟨_,rfl⟩
 have cd:E<65536:=by rw[<-I];exact bX xs 2 2
 have ce:fl<65536:=by rw[<-ad];exact bX xs 6 2
 obtain⟨N,O⟩:=eX (w.alloc yX);have a9:Hid (Below w.heap.size w N):=q_ (O▸bC);have bs:Hid (N.heap[w.heap.size]?=some (.cells #[.int .i64 0,.int .i64 0,.bool false,.bool false,.int .i64 0,.int .i64 0,.int .i64 0,.bool false,.int .u64 0,.int .u64 0,.bool false,.int .u64 0,.int .u64 0,.slice none 0 0] 167 (0,0))):=q_ (O▸aJ _ _ _);have aj:w.heap.size<N.heap.size:=by rw[<-O];simp
 have ba:Hid (IsB N N.heap.size (some ⟨b,J,none⟩) n xs):=q_ (W.on a9);have bt:∀l:Later N,l.w.cell? ⟨b,J,none⟩=some (.int .u8 (L:Nat)):=fun l=>l.cell (by rw[<-O];exact(bC.cell bm).trans an)
 have bu:N.cell? ⟨b,J,none⟩=some (.int .u8 (L:Nat)):=by rw[<-O];exact(bC.cell bm).trans an
 clear an;unfold yX dS at O;have i0:0<n:=by omega
 have k0:(0:Int)<(n:Int):=by omega
 have hb:(((L:Int) / 16) != 4)=false:=by rw[dQa];omega
 have e0:bits .and .u8 (L:Int) 15=((L % 16:Nat):Int):=by rw[u8_and15 (L:Int) (by omega) (by omega)];omega
 obtain⟨r,hr⟩:∃r,L % 16=r:=⟨_,rfl⟩
 rw[hr]at e0;have e1:(r:Int)*4=(s:Int):=by omega
 have cj:s<=60:=by omega
 replace ⟨hr,hs,hv,aw,W,I,ad⟩:=q_7 hr hs hv aw W I ad;have t1:¬ (s:Int)<20:=by omega
 have t2:¬ (n:Int)<(s:Int):=by omega
 rw[ad.out]at h7;have t3:(((fl:Int) / 32768) != 0)=false:=by rw[dQa];omega
 rw[I.out]at h8;have t4:¬ (E:Int)<(s:Int):=by omega
 rw[I.out]at h9;have t5:¬ (n:Int)<(E:Int):=by omega
 have bv:Hid (decide (ones (tot false (flat [⟨some ⟨b,J,none⟩,c,xs.take s⟩]))=65535)=true):=q_ (by simpa[flat]using ar);replace ar:=q_ ar;go_enter func76,ntmps76;go_wp2_with fail
 clear O;refine xC (by kernel_rfl) (by kernel_rfl) ?_
 repeat(refine wpQuiet_step (fun K j=>?_);go_simp;first|(refine j _ ?_;clear j K)|(apply bSa;refine⟨fun l=>?_,j _ ?_⟩;(go_at_call 115;refine(fB _ _ 2 2 rfl rfl _ _ _ xs _ (IsB.later ba l) (by unfold maxLen;omega) (by omega) (by omega)).mono ?_;rw[I.out];rintro e w' ⟨rfl,rfl⟩;exact⟨rfl,Later.same _ rfl⟩);clear j K))
 refine wpQuiet_nil ?_;intro l;have q1:IntKind.i64.wrap (r:Int)=(r:Int):=wO _;have q2:IntKind.i64.wrap ((r:Int)*4)=(s:Int):=by rw[e1];exact wO _
 have q3:IntKind.i64.wrap (E:Int)=(E:Int):=wO _;rw[q1,q2,q3];clear e0 e1 bt bu q1 q2 q3;have ax:=q_ (ba.later l);go_wp2_with fail
 refine(fB _ _ 6 2 rfl rfl _ _ _ xs _ ax (by unfold maxLen;omega) (by omega) (by omega)).mono ?_;rintro e w' ⟨rfl,rfl⟩;rw[ad.out];have bw:=q_ (ax.take (m:=s) h6);have cp:s<=c:=by omega
 have cq:(0:Int)<=(s:Int):=by omega
 have cr:(s:Int)<=(c:Int):=by omega
 go_wp2_with fail
 refine(pK _ _ _ [⟨some ⟨b,J,none⟩,c,xs.take s⟩] _ (aH8 _ rfl bw (by unfold maxLen;omega)) (by unfold maxLen;omega) true bv).mono ?_;rintro e w' ⟨rfl,rfl⟩;obtain⟨G,ao⟩:=eX (l.w.alloc (.cells #[.slice (some ⟨b,J,none⟩) s c] 43));have bx:Hid (Below w.heap.size w G):=q_ (ao▸((a9.trans (l.hb.mono (cAa aj))).alloc (by have:=l.hb.size;omega) _));have ay:Hid (Below l.w.heap.size l.w G):=q_ (ao▸bC);have bz:=q_ (aC ay (bKa aj l.hb.size) (aC l.hb aj bs));rw[ao];clear ao;have az:w.heap.size<G.heap.size:=bKa aj (bJa l.hb.size ay.size);have bg:=q_ (ax.on ay);obtain⟨A5,b6⟩:∃A5,(if c=s then some (⟨b,J,none⟩:Addr)else some ⟨b,J+s,none⟩)=A5:=⟨_,rfl⟩
 have a0:IsB G G.heap.size A5 (E - s) ((xs.take E).drop s):=by
  have h8:=bg.cut (k:=s) (m:=E) (cap:=c) h8 h9 a4;rw[<-b6];have b0:s≠0:=by omega
  simpa[Addr.add,b0]using h8
 replace a0:=q_ a0;have ct:E<=c:=by omega
 have cu:(s:Int)<=(E:Int):=by omega
 have cv:(E:Int)<=(n:Int):=by omega
 have cw:(E:Int)<=(c:Int):=by omega
 go_wp2_with fail
 have b1:Hid (((xs.take E).drop s).length=E - s):=q_ (by rw[cCa,bGa,W.out.1];omega);refine aP (by kernel_rfl) ?_;refine aY 0 2 (fuel:=9) (by kernel_rfl) (fun d _ _ _ _ h=>by cases d<;>exact h) (by kernel_rfl) (by kernel_rfl) ?_;simp only[dA,dC,dD];iterate 2 refine qE ?_
 refine aT ?_;refine aY 3 4 (fuel:=5) (by kernel_rfl) (fun d _ _ _ _ h=>by cases d<;>exact h) (by kernel_rfl) (by kernel_rfl) ?_;simp only[dB,dA,dC,dD];iterate 4 refine qE ?_
 refine aT ?_;refine eT 2 rfl fun l1 K j=>?_;go_simp;go_at_call 117;refine(aQv _ _ _ xs s _ rfl _ (IsB.later bg l1) h5 h6 a4 bp).mono ?_;rintro e w5 ⟨X,U,rfl,ae,bn⟩;refine j _ _ bn ?_;clear j K;have ak:Below G.heap.size G w5:=l1.hb.trans (bn.mono l1.hb.size);have b2:=q_ (a0.on ak);have ae:=ae.weaken l1.hb.size;refine eT 7 rfl fun l4 K j=>?_;go_simp;go_at_call 118;refine(nM _ _ _ ((xs.take E).drop s) _ (IsB.later b2 l4) (by omega)).mono ?_;rintro e w6 ⟨v,rfl,af,am⟩;refine j _ _ am ?_;clear j K;have bh:Below w5.heap.size w5 w6:=l4.hb.trans (am.mono l4.hb.size);have ae:=q_ (ae.below bh);have af:=q_ (af.weaken (bJa ak.size l4.hb.size));have bi:Below G.heap.size G w6:=ak.trans (bh.mono ak.size);obtain⟨Y,Z,rfl,b7,c0,b8⟩:=af.form;rw[b1.out]at af b7 ⊢;clear b8;unfold rawV fE;refine dG (by kernel_rfl) (fun V=>?_);have bj:Below G.heap.size G V.w:=bi.trans (V.hb.mono bi.size);have bk:=q_ (aC bj az bz);have b3:=aA bk;have cx:=bD bk;have am:Hid (Below w.heap.size w V.w):=q_ (bx.trans (bj.mono (cAa az)));have a1:=q_ (ae.below V.hb);have bl:=q_ (af.below V.hb);have a2:∀A' n' c',∀ys:List UInt8,aZ V.w G.heap.size (Value.slice A' n' c') ys->((Value.slice A' n' c').ownBlock=none\/(Value.slice A' n' c').ownBlock≠some w.heap.size):=by
  intro A' n' c' ys ho;rcases hob:(Value.slice A' n' c').ownBlock with _|k
  .exact .inl rfl
  .right;intro e;have h1:=(ho.lt k hob).1
   cases e
   omega
 have b4:=q_ (a2 _ _ _ _ a1);have b5:=q_ (a2 _ _ _ _ bl);obtain⟨_,b9,ca,_⟩:=a1.reads;clear a2;refine bF 8 rfl (by kernel_rfl) (fun K j=>?_);go_simp;refine j _ _ ?_;clear j K;refine bF 9 rfl (by kernel_rfl) (fun K j=>?_);go_simp;refine j _ _ ?_;clear j K;refine bF 10 rfl (by kernel_rfl) (fun K j=>?_);go_simp;refine j _ _ ?_;clear j K;refine bY (by kernel_rfl) ?_ 0;go_wp2;refine aYa (v:=.tuple #[rawV xs X (s - 20) U,.slice Y (E - s) Z,.int .i64 0]) (by simp[results,jGa,go_sem,b3]) rfl ⟨X,U,Y,Z,?_,?_,b9,ca,?_,?_⟩
 .rw[I.out]
 .refine(a1.kept (row:=some w.heap.size) ?_ b4).reads.2.2.2;iterate 14 refine fG ?_ (by rfl) _
  exact dR _ _
 .rw[I.out];refine aZ.weaken (bl.kept (row:=some w.heap.size) ?_ b5) (cAa az);iterate 14 refine fG ?_ (by rfl) _
  exact dR _ _
 .iterate 14 refine fF ?_ (by rfl) _
  exact am
def yG (n:Nat) (xs:List UInt8):Nat:=if n<20 then 2 else if(xs.getD 0 0).toNat / 16≠4 then 10 else if(xs.getD 0 0).toNat % 16*4<20\/n<(xs.getD 0 0).toNat % 16*4 then 11 else 0
theorem quote_no(A:Option Addr)(n c:Nat)(xs:List UInt8)(w:World)(N:IsB w w.heap.size A n xs)(_hnc:n<=c)(ad:n<=1099511627776)(k:Nat)(j:yG n xs=k)(G:k≠0) :
 Cl 168 #[.slice A n c] w fun e w'=>e=.returned (.tuple #[fP,.slice none 0 0,.int .i64 (k:Int)])/\Below w.heap.size w w':=by
 unfold yG at j;by_cases V:n<20
 .rw[bBa V]at j;subst j;clear N G;go_enter func168,ntmps168;go_wp2;exact aYa (v:=.tuple #[fP,.slice none 0 0,.int .i64 2]) (by simp[results,results168,go_sem]) rfl ⟨rfl,bC⟩
 rw[bAa V]at j;obtain⟨b,ak,E,rfl,aa,O,al,U⟩:=N.byte (i:=0) (by omega);rw[cNa]at U;rw[O]at j;have W:=((((bLa w.heap.size w).alloc (aZa _) yX)).cell aa).trans U;unfold yX dS at W;have i0:0<n:=by omega
 have k0:(0:Int)<(n:Int):=by omega
 have X:bits .and .u8 (E:Int) 15=((E % 16:Nat):Int):=by rw[u8_and15 (E:Int) (by omega) (by omega)];omega
 obtain⟨r,I⟩:∃r,E % 16=r:=⟨_,rfl⟩
 rw[I]at X j;replace ⟨I,O⟩:=q_2 I O;clear N U;by_cases h2:E / 16=4
 .rw[bAa (by omega)]at j;have Y:(((E:Int) / 16) != 4)=false:=by rw[dQa];omega
  have ag:r<=15:=by have:=I.out;omega
  obtain⟨s,J⟩:∃s,r*4=s:=⟨_,rfl⟩
  have e1:(r:Int)*4=(s:Int):=by omega
  rw[J]at j;by_cases L:s<20\/n<s
  .rw[bBa L]at j;subst j;clear G;replace J:=q_ J;have ai:s<=60:=by have:=J.out;omega
   rcases Classical.em (s<20)with h4|h4
   .have Z:(s:Int)<20:=by omega
    clear L;go_enter func168,ntmps168;go_wp2;exact aYa (v:=.tuple #[fP,.slice none 0 0,.int .i64 11]) (by simp[results,results168,go_sem]) rfl ⟨rfl,bC⟩
   .have Z:¬ (s:Int)<20:=by omega
    have t2:(n:Int)<(s:Int):=by omega
    clear L;go_enter func168,ntmps168;go_wp2;exact aYa (v:=.tuple #[fP,.slice none 0 0,.int .i64 11]) (by simp[results,results168,go_sem]) rfl ⟨rfl,bC⟩
  .rw[bAa L]at j;exact absurd j.symm G
 .rw[bBa h2]at j;subst j;clear G;have Y:(((E:Int) / 16) != 4)=true:=by rw[dLa];omega
  go_enter func168,ntmps168;go_wp2;exact aYa (v:=.tuple #[fP,.slice none 0 0,.int .i64 10]) (by simp[results,results168,go_sem]) rfl ⟨rfl,bC⟩
theorem quote_ok(A:Option Addr)(n c:Nat)(xs:List UInt8)(w:World)(N:IsB w w.heap.size A n xs)(aq:n<=c)(_hcm:c<=maxLen)(a4:n<=1099511627776)(h:20<=n)(hv:(xs.getD 0 0).toNat / 16=4)(s:Nat)(hs:(xs.getD 0 0).toNat % 16*4=s)(h5:20<=s)(h6:s<=n) :
 Cl 168 #[.slice A n c] w fun e w'=>∃O I U V,e=.returned (.tuple #[rawV xs O (s - 20) I,.slice U (n - s) V,.int .i64 0])/\IsB w' w'.heap.size O (s - 20) ((xs.take s).drop 20)/\s - 20<=I/\I<=maxLen/\aZ w' w.heap.size (.slice U (n - s) V) (xs.drop s)/\Below w.heap.size w w':=by
 obtain⟨b,af,G,rfl,be,al,b0,ao⟩:=N.byte (i:=0) (by omega);rw[cNa]at ao;rw[al]at hv hs;obtain⟨j,L⟩:=eX (w.alloc yX);have av:Hid (Below w.heap.size w j):=q_ (L▸bC);have a6:Hid (j.heap[w.heap.size]?=some (.cells #[.int .i64 0,.int .i64 0,.bool false,.bool false,.int .i64 0,.int .i64 0,.int .i64 0,.bool false,.int .u64 0,.int .u64 0,.bool false,.int .u64 0,.int .u64 0,.slice none 0 0] 167 (0,0))):=q_ (L▸aJ _ _ _);have aj:w.heap.size<j.heap.size:=by rw[<-L];simp
 have aw:Hid (IsB j j.heap.size (some ⟨b,af,none⟩) n xs):=q_ (N.on av);have bl:j.cell? ⟨b,af,none⟩=some (.int .u8 (G:Nat)):=by rw[<-L];exact(bC.cell be).trans ao
 clear ao;unfold yX dS at L;have i0:0<n:=by omega
 have k0:(0:Int)<(n:Int):=by omega
 have hb:(((G:Int) / 16) != 4)=false:=by rw[dQa];omega
 have e0:bits .and .u8 (G:Int) 15=((G % 16:Nat):Int):=by rw[u8_and15 (G:Int) (by omega) (by omega)];omega
 obtain⟨r,hr⟩:∃r,G % 16=r:=⟨_,rfl⟩
 rw[hr]at e0;have e1:(r:Int)*4=(s:Int):=by omega
 have bq:s<=60:=by omega
 have t1:¬ (s:Int)<20:=by omega
 have t2:¬ (n:Int)<(s:Int):=by omega
 obtain⟨A5,bf⟩:∃A5,(if c=s then some (⟨b,af,none⟩:Addr)else some ⟨b,af+s,none⟩)=A5:=⟨_,rfl⟩
 have a8:Hid (IsB j j.heap.size A5 (n - s) (xs.drop s)):=q_ (aw.aMd bf h6 aq);have a9:Hid ((xs.drop s).length=n - s):=q_ (by rw[cCa,N.1]);replace ⟨hr,hs,hv,al,N⟩:=q_5 hr hs hv al N;have bt:s<=c:=by omega
 have bu:(0:Int)<=(s:Int):=by omega
 have bv:(s:Int)<=(n:Int):=by omega
 have bw:(n:Int)<=(c:Int):=by omega
 go_enter func168,ntmps168;go_wp2_with fail
 clear L;refine aP (by kernel_rfl) ?_;refine aY 0 2 (fuel:=8) (by kernel_rfl) (fun d _ _ _ _ h=>by cases d<;>exact h) (by kernel_rfl) (by kernel_rfl) ?_;simp only[dA,dC,dD];iterate 2 refine qE ?_
 refine aT ?_;refine aY 3 3 (fuel:=5) (by kernel_rfl) (fun d _ _ _ _ h=>by cases d<;>exact h) (by kernel_rfl) (by kernel_rfl) ?_;simp only[dB,dA,dC,dD];iterate 3 refine qE ?_
 refine aT ?_;refine eT 2 rfl fun l1 K E=>?_;go_simp;go_at_call 117;refine(aQv _ _ _ xs s _ rfl _ (IsB.later aw l1) h5 h6 aq a4).mono ?_;rintro e w5 ⟨O,I,rfl,Z,a2⟩;refine E _ _ a2 ?_;clear E K;have ad:Below j.heap.size j w5:=l1.hb.trans (a2.mono l1.hb.size);have ba:=q_ (a8.on ad);have Z:=Z.weaken l1.hb.size;refine eT 6 rfl fun l4 K E=>?_;go_simp;go_at_call 118;refine(nM _ _ _ (xs.drop s) _ (IsB.later ba l4) (by omega)).mono ?_;rintro e w6 ⟨v,rfl,aa,ae⟩;refine E _ _ ae ?_;clear E K;have ax:Below w5.heap.size w5 w6:=l4.hb.trans (ae.mono l4.hb.size);have Z:=q_ (Z.below ax);have aa:=q_ (aa.weaken (bJa ad.size l4.hb.size));have ay:Below j.heap.size j w6:=ad.trans (ax.mono ad.size);obtain⟨U,V,rfl,bg,b1,bh⟩:=aa.form;rw[a9.out]at aa bg ⊢;clear bh;unfold rawV fE;refine dG (by kernel_rfl) (fun J=>?_);have az:Below j.heap.size j J.w:=ay.trans (J.hb.mono ay.size);have a0:=q_ (aC az aj a6);have bb:=aA a0;have bx:=bD a0;have ae:Hid (Below w.heap.size w J.w):=q_ (av.trans (az.mono (cAa aj)));have am:=q_ (Z.below J.hb);have a1:=q_ (aa.below J.hb);have an:∀W X Y,∀ys:List UInt8,aZ J.w j.heap.size (Value.slice W X Y) ys->((Value.slice W X Y).ownBlock=none\/(Value.slice W X Y).ownBlock≠some w.heap.size):=by
  intro W X Y ys ho;rcases hob:(Value.slice W X Y).ownBlock with _|k
  .exact .inl rfl
  .right;intro e;have h1:=(ho.lt k hob).1
   cases e
   omega
 have bc:=q_ (an _ _ _ _ am);have bd:=q_ (an _ _ _ _ a1);obtain⟨_,bi,bj,_⟩:=am.reads;clear an;refine bF 7 rfl (by kernel_rfl) (fun K E=>?_);go_simp;refine E _ _ ?_;clear E K;refine bF 8 rfl (by kernel_rfl) (fun K E=>?_);go_simp;refine E _ _ ?_;clear E K;refine bF 9 rfl (by kernel_rfl) (fun K E=>?_);go_simp;refine E _ _ ?_;clear E K;refine bY (by kernel_rfl) ?_ 0;go_wp2;refine aYa (v:=.tuple #[rawV xs O (s - 20) I,.slice U (n - s) V,.int .i64 0]) (by simp[results,results168,go_sem,bb]) rfl ⟨O,I,U,V,rfl,?_,bi,bj,?_,?_⟩
 .refine(am.kept (row:=some w.heap.size) ?_ bc).reads.2.2.2;iterate 14 refine fG ?_ (by rfl) _
  exact dR _ _
 .refine aZ.weaken (a1.kept (row:=some w.heap.size) ?_ bd) (cAa aj);iterate 14 refine fG ?_ (by rfl) _
  exact dR _ _
 .iterate 14 refine fF ?_ (by rfl) _
  exact ae
def msgV (xs:List UInt8) (A:Option Addr) (m c:Nat):Value:=.agg #[.int .i64 ((xs.getD 0 0).toNat:Nat),.int .i64 ((xs.getD 1 0).toNat:Nat),.int .u32 (beN xs 4 4:Nat),.slice A m c]
def msg0:Value:=.agg #[.int .i64 0,.int .i64 0,.int .u32 0,.slice none 0 0]
theorem aF3(A P:Option Addr)(n c m d:Nat)(w:World)(j:n<8) :
 Cl 150 #[.slice A n c,.slice P m d] w fun e w'=>e=.returned (.tuple #[msg0,.int .i64 2])/\Below w.heap.size w w':=by
 go_enter func150,ntmps150;go_wp2;exact aYa (v:=.tuple #[msg0,.int .i64 2]) (by simp[results,results150,go_sem,msg0]) rfl ⟨rfl,bC⟩
theorem aBz{w:World}(b:Nat)(J:w.heap.size=b){P:Option Addr}{d:Nat}{j:List UInt8}(E:IsB w w.heap.size A n xs)(G:IsB w w.heap.size P m j)(L:n<=maxLen)(N:m<=maxLen) :
 IsP (w.alloc (.cells #[.slice P m d,.slice A n c] t)) (w.alloc (.cells #[.slice P m d,.slice A n c] t)).heap.size (some ⟨b,0,none⟩) 2 [⟨P,d,j⟩,⟨A,c,xs⟩]:=by
 have U:=E.1;have V:=G.1;subst U V J;refine⟨rfl,fun _=>⟨w.heap.size,0,rfl,by simp,fun i O=>?_⟩,fun p I=>?_⟩
 .rw[aA (aJ _ _ _) (0+i)];have hi':i=0\/i=1:=by simp at O;omega
  rcases hi' with rfl|rfl<;>rfl
 .simp only[bXa,bVa,dTa]at I;rcases I with rfl|rfl
  .exact⟨G.alloc _,N⟩
  .exact⟨E.alloc _,L⟩
theorem aJi(A P:Option Addr)(n c m d:Nat)(xs j:List UInt8)(w:World)(E:IsB w w.heap.size A n xs)(G:IsB w w.heap.size P m j)(W:8<=n)(I:n<=maxLen)(J:m<=maxLen)(L:ones (tot false (j++xs))≠65535) :
 Cl 150 #[.slice A n c,.slice P m d] w fun e w'=>e=.returned (.tuple #[msg0,.int .i64 13])/\Below w.heap.size w w':=by
 have N:=q_ (E.alloc (.cells #[.int .i64 0,.int .i64 0,.int .u32 0,.slice none 0 0] 159));have O:=q_ (G.alloc (.cells #[.int .i64 0,.int .i64 0,.int .u32 0,.slice none 0 0] 159));have U:=q_ (aBz (w.heap.size+1) (by simp) (t:=43) (c:=c) (d:=d) N O I J);have V:Hid (decide (ones (tot false (flat [⟨P,d,j⟩,⟨A,c,xs⟩]))=65535)=false):=q_ (by simpa[flat]using L);replace ⟨E,G⟩:=q_2 E G;unfold maxLen at I;go_enter func150,ntmps150;go_wp2_with (go_at_call 116;refine(pK _ _ _ _ _ U (by unfold maxLen;omega) false V).mono ?_;rintro e w' ⟨rfl,rfl⟩)
 exact aYa (v:=.tuple #[msg0,.int .i64 13]) (by simp[results,results150,go_sem,msg0]) rfl ⟨rfl,bC.alloc (by simp) _⟩
theorem aLs(A P:Option Addr)(n c m d:Nat)(xs ps:List UInt8)(w:World)(hx:IsB w w.heap.size A n xs)(hp:IsB w w.heap.size P m ps)(hn:8<=n)(ar:n<=c)(a7:n<=1099511627776)(hm:m<=maxLen)(hs:ones (tot false (ps++xs))=65535) :
 Cl 150 #[.slice A n c,.slice P m d] w fun e w'=>∃G m' E,e=.returned (.tuple #[msgV xs G m' E,.int .i64 0])/\IsB w' w'.heap.size G m' (xs.drop 8)/\m'<=E/\E<=maxLen/\Below w.heap.size w w':=by
 have ag:=q_ (hx.alloc (.cells #[.int .i64 0,.int .i64 0,.int .u32 0,.slice none 0 0] 159));have am:=q_ (hp.alloc (.cells #[.int .i64 0,.int .i64 0,.int .u32 0,.slice none 0 0] 159));have L:=q_ (ag.alloc (.cells #[.slice P m d,.slice A n c] 43));have an:=q_ (aBz (w.heap.size+1) (by simp) (t:=43) (c:=c) (d:=d) ag am (by unfold maxLen;omega) hm);have hr:Hid (decide (ones (tot false (flat [⟨P,d,ps⟩,⟨A,c,xs⟩]))=65535)=true):=q_ (by simpa[flat]using hs);obtain⟨b,O,W,rfl,bk,ah,bl,Z⟩:=L.byte (i:=0) (by omega);obtain⟨X,ai,bm,ak⟩:=L.uZ (i:=1) (by omega);have a8:=q_ (beN_bd8 xs 4 4 (by omega));have a9:beN xs 4 4<4294967296:=bX xs 4 4;rw[cNa]at Z;replace ⟨hs,hx,hp,ah,ai⟩:=q_5 hs hx hp ah ai;go_enter func150,ntmps150;go_wp2_with (go_at_call 116;refine(pK _ _ _ _ _ an (by unfold maxLen;omega) true hr).mono ?_;rintro e w' ⟨rfl,rfl⟩)
 obtain⟨I,U⟩:=eX (((w.alloc (.cells #[.int .i64 0,.int .i64 0,.int .u32 0,.slice none 0 0] 159)).alloc (.cells #[.slice P m d,.slice (some ⟨b,O,none⟩) n c] 43)));have aw:Hid (Below w.heap.size w I):=q_ (U▸bC.alloc (by simp) _);have ax:I.heap[w.heap.size]?=some (.cells #[.int .i64 0,.int .i64 0,.int .u32 0,.slice none 0 0] 159 (0,0)):=U▸kE _ (by simp) (aJ _ _ _);have N:w.heap.size<I.heap.size:=by rw[<-U];simp;omega
 rw[U]at Z ak L ⊢;clear U an ag am;have ba:∀l:Later I,l.w.cell? ⟨b,O,none⟩=some (.int .u8 (W:Nat)):=fun l=>l.cell Z
 have bb:∀l:Later I,l.w.cell? ⟨b,O+1,none⟩=some (.int .u8 (X:Nat)):=fun l=>l.cell ak
 clear Z ak;have bc:0<n:=by omega
 have bd:1<n:=by omega
 have be:(0:Int)<(n:Int):=by omega
 have bf:(1:Int)<(n:Int):=by omega
 have bg:(8:Int)<=(n:Int):=by omega
 obtain⟨A8,a4⟩:∃A8,(if c=8 then some (⟨b,O,none⟩:Addr)else some ⟨b,O+8,none⟩)=A8:=⟨_,rfl⟩
 have aj:IsB I I.heap.size A8 (n - 8) (xs.drop 8):=by
  have h8:=L.cut (k:=8) (m:=n) (cap:=c) (by omega) (aZa _) ar;rw[bZa (by rw[L.out.1];omega)]at h8;rw[<-a4];exact h8
 replace aj:=q_ aj;refine aP (by kernel_rfl) ?_;refine aY 0 13 (fuel:=4) (by kernel_rfl) (fun d _ _ _ _ h=>by cases d<;>exact h) (by kernel_rfl) (by kernel_rfl) ?_;simp only[dA,dC,dD]
 repeat(refine aD (fun K j=>?_);go_simp;(try go_bits);first|(refine j _ ?_;clear j K)|(apply bSa;refine⟨fun l=>?_,j _ ?_⟩;(go_at_call 115;refine(fB _ _ 4 4 rfl rfl _ _ _ xs _ (IsB.later L l) (by unfold maxLen;omega) (by omega) (by omega)).mono ?_;rintro e w' ⟨rfl,rfl⟩;exact⟨rfl,mG _⟩);clear j K))
 refine aT ?_;refine eT 13 rfl fun l K j=>?_;go_simp;go_at_call 118;refine(nM _ _ _ (xs.drop 8) _ ?_ (by omega)).mono ?_
 .exact IsB.later aj l
 rintro e w3 ⟨v,rfl,al,V⟩;refine j _ _ V ?_;clear j K;obtain⟨G,E,rfl,bn,bo,bp⟩:=al.form;refine aY 14 1 (fuel:=2) (by kernel_rfl) (fun d _ _ _ _ h=>by cases d<;>exact h) (by kernel_rfl) (by kernel_rfl) ?_;simp only[dB,dA,dC,dD]
 repeat(refine aD (fun K j=>?_);go_simp;(try go_bits);first|(refine j _ ?_;clear j K))
 refine aT ?_;refine dG (by kernel_rfl) (fun J=>?_);have Y:J.w.heap[w.heap.size]?=some (.cells #[.int .i64 0,.int .i64 0,.int .u32 0,.slice none 0 0] 159 (0,0)) :=
  aC J.hb (bKa N (bJa l.hb.size V.size)) (aC V (bKa N l.hb.size) (aC l.hb N ax))
 have ay:=aA Y;have bh:=bD Y;have az:Hid (Below w.heap.size w J.w):=q_ (((aw.trans (l.hb.mono (by omega))).trans (V.mono (bJa (cAa N) l.hb.size))).trans (J.hb.mono (bJa (cAa N) (bJa l.hb.size V.size))));replace Y:=q_ Y;refine bF 15 rfl (by kernel_rfl) (fun K j=>?_);go_simp;refine j _ _ ?_;clear j K;refine bF 16 rfl (by kernel_rfl) (fun K j=>?_);go_simp;refine j _ _ ?_;clear j K;refine bY (by kernel_rfl) ?_ 0;go_wp2;have a0:=al.below J.hb;have a1:=fG (g:=w.heap.size) (fG (fG (fG (dR J.w _) (p:=⟨w.heap.size,0,none⟩) rfl (.int .i64 (W:Nat))) (p:=⟨w.heap.size,1,none⟩) rfl (.int .i64 (X:Nat))) (p:=⟨w.heap.size,2,none⟩) rfl (.int .u32 (beN xs 4 4:Nat))) (p:=⟨w.heap.size,3,none⟩) rfl (.slice G (xs.drop 8).length E);have a2:=a0.kept a1 (by
  rcases hob:(Value.slice G (xs.drop 8).length E).ownBlock with _|k
  .exact .inl rfl
  .right;intro e;have h1:=(al.lt k hob).1;have h2:=l.hb.size
   cases e
   omega)
 obtain⟨_,h5,h6,h7⟩:=a2.reads;simp only[cCa]at h5 h7;have a3:msgV xs G (xs.length - 8) E=.agg #[.int .i64 (W:Nat),.int .i64 (X:Nat),.int .u32 (beN xs 4 4:Nat),.slice G (xs.length - 8) E]:=by unfold msgV;rw[ah.out,ai.out]
 refine aYa (v:=.tuple #[.agg #[.int .i64 (W:Nat),.int .i64 (X:Nat),.int .u32 (beN xs 4 4:Nat),.slice G (xs.length - 8) E],.int .i64 0]) (by simp[results,results150,go_sem,ay]) rfl ⟨G,_,E,by rw[a3],?_,h5,h6,?_⟩
 .simpa only[cCa]using h7
 .exact(((az.setCell (p:=⟨w.heap.size,0,none⟩) (aZa _) _).setCell (p:=⟨w.heap.size,1,none⟩) (aZa _) _).setCell (p:=⟨w.heap.size,2,none⟩) (aZa _) _).setCell (p:=⟨w.heap.size,3,none⟩) (aZa _) _
theorem aUn(j id:Int)(V W:Bool)(N E G J L:Int)(A:Option Addr)(n c:Nat)(w:World)(g1:0<=j)(h1:j<=255)(g2:0<=id)(h2:id<=65535)(g3:0<=N)(h3:N<=8191)(g4:0<=E)(h4:E<=255)(g5:0<=G)(h5:G<=255)(h6:J<4294967296)(h7:L<4294967296)(h8:n<=40)(h9:n % 4=0) :
 Cl 103 #[fE j id V W N E G false 0 J false 0 L A n c] w fun e w'=>e=.returned (.bool true)/\Below w.heap.size w w':=by
 have X:Hid (okA false 0 J=true):=q_ (by simp[okA];omega);have Y:Hid (okA false 0 L=true):=q_ (by simp[okA];omega);have aq:((n:Int) % 4 == 0)=true:=by simp;omega
 have i0:∀w:World,(Instr.index 266 (.agg #[.int .i64 j,.int .i64 E,.int .i64 G]) (.int .i64 0)).run prog w=.ok (.int .i64 j) w:=fun _=>by kernel_rfl
 have i1:∀w:World,(Instr.index 266 (.agg #[.int .i64 j,.int .i64 E,.int .i64 G]) (.int .i64 1)).run prog w=.ok (.int .i64 E) w:=fun _=>by kernel_rfl
 have i2:∀w:World,(Instr.index 266 (.agg #[.int .i64 j,.int .i64 E,.int .i64 G]) (.int .i64 2)).run prog w=.ok (.int .i64 G) w:=fun _=>by kernel_rfl
 unfold fE;go_enter func103,ntmps103;go_wp2_with fail
 refine wp_loop_rounds 4 ?_;iterate 4(rw[rounds_succ];go_wp2_with fail)
 refine(jB false 0 J true _ X).mono ?_;rintro e w1 ⟨rfl,I⟩;have Z:=I.size;simp only[fTa]at Z;have O:=q_ (aC I (by simp) (aJ _ _ _));have aa:=aA O;replace I:=q_ I;go_wp2_with fail
 refine(jB false 0 L true _ Y).mono ?_;rintro e w2 ⟨rfl,U⟩;have ab:=q_ (kB U O);have aw:=aA ab;clear aa;go_wp2_with fail
 go_ret;exact⟨by simp,bC.trans ((I.mono (by simp)).trans (U.mono (by omega)))⟩
def qJ (tos id frag ttl proto:Int) (sv:Bool) (shi slo:Int) (dv:Bool) (dhi dlo:Int) (n:Nat):Bool :=
 decide (0<=tos/\tos<=255/\0<=ttl/\ttl<=255/\0<=proto/\proto<=255/\0<=id/\id<=65535/\0<=frag/\frag<=8191/\sv=false/\dv=false/\okA sv shi slo=true/\okA dv dhi dlo=true/\n<=40/\n % 4=0)
theorem aBa{j id A E G:Int}{L N:Int}{J:Bool}{O U:Int}
 (h:¬ (0<=j/\j<=255/\0<=E/\E<=255/\0<=G/\G<=255/\0<=id/\id<=65535/\0<=A/\A<=8191/\I=false/\J=false/\okA I L N=true/\okA J O U=true/\n<=40/\n % 4=0)) :
 Ending.returned (.bool false)=.returned (.bool (qJ j id A E G I L N J O U n)):=by
 unfold qJ;rw[bWa h]
theorem aSc{j id A E G:Int}{L N:Int}{J:Bool}{O U:Int}
 (h:0<=j/\j<=255/\0<=E/\E<=255/\0<=G/\G<=255/\0<=id/\id<=65535/\0<=A/\A<=8191/\I=false/\J=false/\okA I L N=true/\okA J O U=true) (V:n<=40) :
 Ending.returned (.bool ((n:Int) % 4 == 0))=.returned (.bool (qJ j id A E G I L N J O U n)):=by
 unfold qJ
 congr 2
 rw[gCa];simp only[fKa,cBa];obtain⟨W,X,Y,Z,a5,a6,a7,a8,a9,af,ag,ah,ai,aj⟩:=h;exact⟨fun h=>⟨W,X,Y,Z,a5,a6,a7,a8,a9,af,ag,ah,ai,aj,V,by omega⟩,fun h=>by omega⟩
theorem aJn(I id:Int)(df mf:Bool)(aa J L:Int)(W:Bool)(N O:Int)(X:Bool)(U V:Int)(A:Option Addr)(n c:Nat)(w:World)(hn:n<=maxLen) :
 Cl 103 #[fE I id df mf aa J L W N O X U V A n c] w fun e w'=>e=.returned (.bool (qJ I id aa J L W N O X U V n))/\Below w.heap.size w w':=by
 unfold maxLen at hn;have i0:∀w:World,(Instr.index 266 (.agg #[.int .i64 I,.int .i64 J,.int .i64 L]) (.int .i64 0)).run prog w=.ok (.int .i64 I) w:=fun _=>by kernel_rfl
 have i1:∀w:World,(Instr.index 266 (.agg #[.int .i64 I,.int .i64 J,.int .i64 L]) (.int .i64 1)).run prog w=.ok (.int .i64 J) w:=fun _=>by kernel_rfl
 have i2:∀w:World,(Instr.index 266 (.agg #[.int .i64 I,.int .i64 J,.int .i64 L]) (.int .i64 2)).run prog w=.ok (.int .i64 L) w:=fun _=>by kernel_rfl
 unfold fE;go_enter func103,ntmps103;go_wp2_with fail
 refine wp_loop_rounds 4 ?_;iterate 4(all_goals(try(rw[rounds_succ];go_wp2_with fail)))
 all_goals(try(go_ret;refine⟨aBa ?_,bC⟩;first|(intro Z;omega)|(intro Z;simp_all)))
 have hs:W=false:=by simpa using ‹¬ W=true›
 have hd:X=false:=by simpa using ‹¬ X=true›
 subst hs hd;rcases j:okA false N O with _|_
 .refine(jB false N O false _ j).mono ?_;rintro e w1 ⟨rfl,E⟩;replace j:=q_ j;go_wp2_with fail
  go_ret;refine⟨aBa ?_,bC.trans (E.mono (by simp))⟩;intro Z;have:=j.out
  simp_all
 refine(jB false N O true _ j).mono ?_;rintro e w1 ⟨rfl,E⟩;have ai:=E.size;simp only[fTa]at ai;have ad:=q_ (aC E (by simp) (aJ _ _ _));have aj:=aA ad;replace ⟨E,j⟩:=q_2 E j;go_wp2_with fail
 rcases G:okA false U V with _|_
 .refine(jB false U V false _ G).mono ?_;rintro e w2 ⟨rfl,Y⟩;replace G:=q_ G;go_wp2_with fail
  go_ret;refine⟨aBa ?_,bC.trans ((E.mono (by simp)).trans (Y.mono (by omega)))⟩;intro Z;have:=G.out
  simp_all
 refine(jB false U V true _ G).mono ?_;rintro e w2 ⟨rfl,Y⟩;have ak:=q_ (kB Y ad);have ar:=aA ak;clear aj;replace G:=q_ G;have ae:=q_ (((bLa w.heap.size w).alloc (aZa _) (dS I id df mf aa J L false N O false U V A n c)).trans ((E.mono (by simp)).trans (Y.mono (by omega))));by_cases al:n<=40
 .have h40':(n:Int)<=40:=by omega
  go_wp2_with fail
  go_ret;refine⟨?_,ae⟩;exact aSc ⟨by omega,by omega,by omega,by omega,by omega,by omega,by omega,by omega,by omega,by omega,rfl,rfl,j,G⟩ al
 .have h40':¬ (n:Int)<=40:=by omega
  go_wp2_with fail
  go_ret;refine⟨aBa ?_,ae⟩;intro Z;omega
def qY (tos id fl ttl proto slo dlo:Nat) (os:List UInt8) (pl:Nat):List UInt8 :=
 (((((([UInt8.ofNat (64+(20+os.length) / 4),UInt8.ofNat tos]++beB (20+os.length+pl) 2)++beB id 2)++beB fl 2)++[UInt8.ofNat ttl,UInt8.ofNat proto,0,0])++beB slo 4)++beB dlo 4)++os
theorem yE(j id A E G I J:Nat)(os:List UInt8)(L:Nat):(qY j id A E G I J os L).length=20+os.length:=by
 simp[qY,aR];omega
def hdB (tos id fl ttl proto slo dlo:Nat) (os:List UInt8) (pl:Nat):List UInt8 :=
 dJ (qY tos id fl ttl proto slo dlo os pl) 10 (beB (65535 - ones (tot false (qY tos id fl ttl proto slo dlo os pl))) 2)
theorem hdB_set(j id A E G I J:Nat)(os:List UInt8)(L C:Nat)(N:65535 - ones (tot false (qY j id A E G I J os L))=C):hdB j id A E G I J os L=((qY j id A E G I J os L).set 10 (UInt8.ofNat (C / 256))).set 11 (UInt8.ofNat C):=by
 unfold hdB;rw[N];simp[dJ,qY,beB]
def flI (df mf:Bool) (frag:Nat):Int:=(frag:Int)+(if df then 16384 else 0)+(if mf then 8192 else 0)
theorem aWf{w:World}(b:Nat)(E:w.heap.size=b){P:Option Addr}{d:Nat}{j:List UInt8}(G:IsB w w.heap.size A n xs)(I:IsB w w.heap.size P m j)(J:n<=maxLen)(L:m<=maxLen) :
 IsP (w.alloc (.cells #[.slice P m d,.slice A n c] t)) (w.alloc (.cells #[.slice P m d,.slice A n c] t)).heap.size (some ⟨b,0,none⟩) 2 [⟨P,d,j⟩,⟨A,c,xs⟩]:=aBz b E G I J L
section
structure Ext where
 k:Int
 A:Option Addr
 c:Nat
 xs:List UInt8
def Ext.cs (e:Ext):List Value:=[.int .i64 e.k,.slice e.A e.xs.length e.c]
def cells (es:List Ext):List Value:=es.flatMap Ext.cs
theorem tV(es:List Ext):(cells es).length=es.length*2:=by
 induction es with
 | nil=>rfl
 | cons e es ih=>simp only[cells,jFa,bHa,Ext.cs,eFa,hZa]at ih ⊢;omega
theorem aS5(es:List Ext):∀(i:Nat) (h:i<es.length),(cells es)[i*2]?=some (.int .i64 es[i].k)/\(cells es)[i*2+1]?=some (.slice es[i].A es[i].xs.length es[i].c):=by
 induction es with
 | nil=>intro i h;simp at h
 | cons e es ih =>
  intro i h;rcases i with _|i
  .simp[cells,Ext.cs]
  .have j:=ih i (by simpa using h);have E:(i+1)*2=i*2+2:=by omega
   have G:(i+1)*2+1=(i*2+1)+2:=by omega
   rw[E];simp only[cells,jFa,Ext.cs,eNa,cVa]at j ⊢;exact⟨by simpa using j.1,by simpa using j.2⟩
def IsX (w:World) (B:Nat) (A:Option Addr) (n:Nat) (es:List Ext):Prop :=
 es.length=n/\IsV w B 2 A n (cells es)/\∀e∈es,IsB w B e.A e.xs.length e.xs/\e.xs.length<=e.c/\e.c<=maxLen
section
variable {w w':World} {B B' n:Nat} {A:Option Addr} {es:List Ext}
theorem IsX.nil(w:World)(B:Nat)(A:Option Addr):IsX w B A 0 []:=⟨rfl,IsV.nil _ _ _ _,fun _ h=>by cases h⟩
theorem IsX.below(h:IsX w B A n es)(j:Below B w w'):IsX w' B A n es:=⟨h.1,h.2.1.below j,fun e E=>⟨(h.2.2 e E).1.below j,(h.2.2 e E).2⟩⟩
theorem IsX.more(h:IsX w B A n es)(j:B<=B'):IsX w B' A n es:=⟨h.1,h.2.1.more j,fun e E=>⟨(h.2.2 e E).1.more j,(h.2.2 e E).2⟩⟩
theorem IsX.on(h:IsX w w.heap.size A n es)(j:Below w.heap.size w w'):IsX w' w'.heap.size A n es:=(h.below j).more j.size
theorem IsX.later(h:IsX w w.heap.size A n es)(l:Later w):IsX l.w l.w.heap.size A n es:=h.on l.hb
theorem IsX.alloc(h:IsX w w.heap.size A n es)(o:Obj):IsX (w.alloc o) (w.alloc o).heap.size A n es:=h.on ((bLa _ _).alloc (aZa _) o)
theorem IsX.at(h:IsX w B A n es)(V:i<n):∃b j k E c xs,A=some ⟨b,j,none⟩/\b<B/\es[i]?=some ⟨k,E,c,xs⟩/\w.cell? ⟨b,j+i*2,none⟩=some (.int .i64 k)/\w.cell? ⟨b,j+i*2+1,none⟩=some (.slice E xs.length c)/\IsB w B E xs.length xs/\xs.length<=c/\c<=maxLen:=by
 obtain⟨X,N,O⟩:=h;obtain⟨b,j,e,U,L⟩:=N.2 (by omega);have G:i<es.length:=by omega
 have I:=aS5 es i G;have W:=tV es;refine⟨b,j,es[i].k,es[i].A,es[i].c,es[i].xs,e,U,by rw[aXa G],?_,?_,O _ (fNa G)⟩
 .rw[L (i*2) (by omega)];rw[aXa (by omega)]at I;exact I.1
 .rw[eVa,L (i*2+1) (by omega)];have J:=I.2;rw[aXa (by omega)]at J;exact J
end
def isB (k:Int):Bool:=decide (k=0\/k=43\/k=44\/k=60)
theorem aB0(k:Int)(w:World):Cl 136 #[.int .i64 k] w fun e w'=>e=.returned (.bool (isB k))/\w=w':=by
 by_cases j:k=0
 .subst j;go_enter func136,ntmps136;go_wp2_with fail
  go_ret;exact⟨rfl,rfl⟩
 by_cases E:k=43
 .subst E;go_enter func136,ntmps136;go_wp2_with fail
  go_ret;exact⟨rfl,rfl⟩
 by_cases G:k=44
 .subst G;go_enter func136,ntmps136;go_wp2_with fail
  go_ret;exact⟨rfl,rfl⟩
 have e:∀b:Bool,(k == 60)=b->isB k=b:=by
  intro b I;subst I;unfold isB;by_cases J:k=60<;>simp[j,E,G,J]
 have L:(k == 0)=false:=by simp[j]
 have N:(k == 43)=false:=by simp[E]
 have O:(k == 44)=false:=by simp[G]
 rw[e _ rfl];clear j E G e;go_enter func136,ntmps136;go_wp2_with fail
 all_goals(go_ret;exact⟨rfl,rfl⟩)
abbrev eZ (cls lab hop:Int) (sv:Bool) (shi slo:Int) (dv:Bool) (dhi dlo:Int) (X:Option Addr) (n c:Nat) (proto:Int):Value :=
 .agg #[.int .i64 cls,.int .i64 lab,.int .i64 hop,.bool sv,.int .u64 shi,.int .u64 slo,.bool dv,.int .u64 dhi,.int .u64 dlo,.slice X n c,.int .i64 proto]
abbrev bS (cls lab hop:Int) (sv:Bool) (shi slo:Int) (dv:Bool) (dhi dlo:Int) (X:Option Addr) (n c:Nat) (proto:Int):Obj :=
 .cells #[.int .i64 cls,.int .i64 lab,.int .i64 hop,.bool sv,.int .u64 shi,.int .u64 slo,.bool dv,.int .u64 dhi,.int .u64 dlo,.slice X n c,.int .i64 proto] 164
def Ext.mR (e:Ext):Bool:=decide (e.k=44/\e.xs.length=7)
def qR (es:List Ext):List UInt8:=match es.find? Ext.mR with|some e=>e.xs|none=>[]
def aG8 (es:List Ext):Value:=match es.find? Ext.mR with|some e=>.slice e.A e.xs.length e.c|none=>.slice none 0 0
theorem aTf{es:List Ext}{e:Ext}(E:(es.take j).find? Ext.mR=none)(G:es[j]?=some e)(I:e.mR=true):es.find? Ext.mR=some e:=by
 obtain⟨J,rfl⟩:=List.getElem?_eq_some_iff.1 G;rw[show es.find? Ext.mR=(es.take j++(es[j] :: es.drop (j+1))).find? Ext.mR from by rw[<-fMa J,dHa],List.find?_append,E];simp only[Option.none_or,List.find?_cons,I]
theorem find_on{es:List Ext}{e:Ext}(E:(es.take j).find? Ext.mR=none)(G:es[j]?=some e)(I:e.mR=false):(es.take (j+1)).find? Ext.mR=none:=by
 obtain⟨J,rfl⟩:=List.getElem?_eq_some_iff.1 G;rw[fBa J,List.find?_append,E];simp[I]
theorem aNf(Y Z aa:Int)(sv:Bool)(ac ad:Int)(dv:Bool)(af ag:Int)(X:Option Addr)(n c:Nat)(ah:Int)(es:List Ext)(w:World)(N:IsX w w.heap.size X n es)(hn:n<=maxLen) :
 Cl 123 #[eZ Y Z aa sv ac ad dv af ag X n c ah] w fun e w'=>e=.returned (aG8 es)/\Below w.heap.size w w':=by
 unfold maxLen at hn;have al:=q_ (aJ w 164 #[.int .i64 Y,.int .i64 Z,.int .i64 aa,.bool sv,.int .u64 ac,.int .u64 ad,.bool dv,.int .u64 af,.int .u64 ag,.slice X n c,.int .i64 ah]);obtain⟨L,V⟩:=eX (w.alloc (bS Y Z aa sv ac ad dv af ag X n c ah));have G:Hid (Below w.heap.size w L):=q_ (V▸bC);unfold bS at V;rw[V]at al;have aw:=aA al;have ax:=q_ (N.on G);replace N:=q_ N;unfold eZ;go_enter func123,ntmps123;go_wp2_with fail
 clear V aw;go_loopw [8] (fun i wr=>∃j:Nat,j<=n/\i=.int .i64 (j:Int)/\(es.take j).find? Ext.mR=none/\Below L.heap.size L wr) (fun i _=>n - (intOf i).toNat)
 case atStart=>exact⟨0,dEa _,rfl,rfl,bLa _ _⟩
 case round =>
  obtain⟨j,hj,rfl,J,E⟩:=hrel;have I:=ax.on E;replace ⟨J,E⟩:=q_2 J E;by_cases az:j<n
  .obtain⟨b,a2,k,Ae,ce,xs,rfl,a3,O,a4,a5,am,a6,a7⟩:=I.at az;have ay:(j:Int)<(n:Int):=by omega
   have a0:(0:Int)<=(j:Int):=by omega
   replace ⟨I,O,am⟩:=q_3 I O am;by_cases W:k=44/\xs.length=7
   .obtain⟨rfl,h7⟩:=W;have h7':((xs.length:Int) == 7)=true:=by simp;omega
    replace h7:=q_ h7;go_wp2_with fail
    go_ret;refine⟨?_,G.trans ((E.trans ((bLa _ _).alloc E.size _)).mono G.size)⟩;unfold aG8;rw[aTf J.out O.out (by simp[Ext.mR,h7.out])]
    rfl
   .have aj:Ext.mR ⟨k,Ae,ce,xs⟩=false:=by simp[Ext.mR];intro h;exact fun h2=>W ⟨h,h2⟩
    have an:=q_ (find_on J O aj);replace aj:=q_ aj;have ao:Hid (Below L.heap.size L (wr.alloc (.cells #[.int .i64 k,.slice Ae xs.length ce] 231))):=q_ (E.alloc E.size _);by_cases U:k=44
    .have hk':(k == 44)=true:=by simp[U]
     have h7':((xs.length:Int) == 7)=false:=by simp;omega
     replace U:=q_ U;clear W;go_wp2_with fail
     exact⟨⟨j+1,by omega,by go_num,an,ao⟩,by simp[intOf];omega⟩
    .have hk':(k == 44)=false:=by simp[U]
     clear W;go_wp2_with fail
     exact⟨⟨j+1,by omega,by go_num,an,ao⟩,by simp[intOf];omega⟩
  .have ak:es.take j=es:=bZa (by have:=N.out.1;omega);have ay:¬ (j:Int)<(n:Int):=by omega
   replace ⟨I,ak⟩:=q_2 I ak;go_wp2_with fail
   go_ret;refine⟨?_,G.trans (E.mono G.size)⟩;have h0:=J.out;rw[ak.out]at h0;unfold aG8;rw[h0]
   rfl
theorem aG9(es:List Ext)(w:World)(B:Nat)(h:∀e∈es,IsB w B e.A e.xs.length e.xs/\e.xs.length<=e.c/\e.c<=maxLen):∃A n c,aG8 es=.slice A n c/\IsB w B A n (qR es)/\n<=maxLen:=by
 unfold aG8 qR;rcases hf:es.find? Ext.mR with _|e
 .exact⟨none,0,0,rfl,IsB.nil _ _ _,by unfold maxLen;omega⟩
 .have j:=h e (List.mem_of_find?_eq_some hf);exact⟨e.A,_,e.c,rfl,j.1,by omega⟩
theorem xL(E G I:Int)(J:Bool)(L N:Int)(O:Bool)(U V:Int)(X:Option Addr)(n c:Nat)(W:Int)(es:List Ext)(w:World)(Y:IsX w w.heap.size X n es)(hn:n<=maxLen) :
 Cl 81 #[eZ E G I J L N O U V X n c W] w fun e w'=>e=.returned (.int .i64 ((beN (qR es) 1 2 / 8:Nat):Int))/\Below w.heap.size w w':=by
 have Z:=q_ (Y.alloc (bS E G I J L N O U V X n c W));unfold bS at Z;obtain⟨v,j⟩:=eX (beN (qR es) 1 2);have ai:v<65536:=by rw[<-j];exact bX _ 1 2
 have af:Hid (Ending.returned (.int .i64 ((v:Int) / 8))=.returned (.int .i64 ((beN (qR es) 1 2 / 8:Nat):Int))):=q_ (by rw[j];exact aE7 (by omega));replace ⟨Y,j⟩:=q_2 Y j;unfold eZ;go_enter func81,ntmps81;go_wp2_with fail
 refine(aNf E G I J L N O U V X n c W es _ Z hn).mono ?_;rintro e w1 ⟨rfl,ab⟩;have ag:=q_ (((bLa w.heap.size w).alloc (aZa _) (bS E G I J L N O U V X n c W)).trans (ab.mono (by simp)));obtain⟨A',n',c',ac,aa,ah⟩:=aG9 es w1 w1.heap.size (Z.on ab).2.2;rw[ac];clear ac ab;replace aa:=q_ aa;go_wp2_with fail
 refine(fB _ _ 1 2 rfl rfl _ _ _ (qR es) _ aa ah (by omega) (by omega)).mono ?_;rintro e w' ⟨rfl,rfl⟩;rw[j.out];go_wp2_with fail
 go_ret;exact⟨af,ag⟩
end
theorem aJr{w:World}{O U V W X Y Z a7:Value}(h:w.heap[g]?=some (.cells #[O,U,V,W,X,Y,Z,a7] t (0,0)))(j A E G I J L N:Value):∃w',((((((((w.setCell ⟨g,0,none⟩ j).setCell ⟨g,1,none⟩ A).setCell ⟨g,2,none⟩ E).setCell ⟨g,3,none⟩ G).setCell ⟨g,4,none⟩ I).setCell ⟨g,5,none⟩ J).setCell ⟨g,6,none⟩ L).setCell ⟨g,7,none⟩ N)=w'/\w'.heap[g]?=some (.cells #[j,A,E,G,I,J,L,N] t (0,0))/\w.grownBy w' (some g):=by
 refine⟨_,rfl,?_,?_⟩
 .simpa using(bP (bP (bP (bP (bP (bP (bP (bP h 0 j) 1 A) 2 E) 3 G) 4 I) 5 J) 6 L) 7 N)
 .iterate 8 refine fG ?_ rfl _
  exact dR _ _
theorem Octet.aEu(j E:Int)(p k:Nat)(G:j=(p:Int))(I:E=(k:Int))(A:Option Addr)(n c:Nat)(xs:List UInt8)(w:World)(J:IsB w w.heap.size A n xs)(L:n<=maxLen)(N:p<=4611686018427387904)(O:k<=8) :
 Cl 115 #[.slice A n c,.int .i64 j,.int .i64 E] w fun e w'=>e=.returned (.int .u64 (beN xs p k:Nat))/\Below w.heap.size w w' :=
 (fB j E p k G I A n c xs w J L N O).mono fun _ _ h=>⟨h.1,h.2▸bLa _ _⟩
def jV (ps xs:List UInt8):Nat :=
 if xs.length<20 then 2 else if(xs.getD 12 0).toNat / 16*4<20\/xs.length<(xs.getD 12 0).toNat / 16*4\/(xs.getD 12 0).toNat % 16≠0 then 11 else if ones (tot false (ps++xs))=65535 then 0 else 13
def kM (K:Nat) (xs:List UInt8) (p:Nat):Nat:=if K=0 then beN xs p 2 else 0
def wQ (K:Nat) (xs:List UInt8):Nat:=if K=0 then(xs.getD 13 0).toNat else 0
abbrev zS (sp dp seq ack fl wn ug:Int) (A:Option Addr) (n c:Nat):Value:=.agg #[.int .i64 sp,.int .i64 dp,.int .u32 seq,.int .u32 ack,.int .i64 fl,.int .i64 wn,.int .i64 ug,.slice A n c]
abbrev aE1 (sp dp seq ack fl wn ug:Int) (A:Option Addr) (n c:Nat):Obj:=.cells #[.int .i64 sp,.int .i64 dp,.int .u32 seq,.int .u32 ack,.int .i64 fl,.int .i64 wn,.int .i64 ug,.slice A n c] 248
def aLw (K:Nat) (xs:List UInt8) (w w':World) (e:Ending):Prop :=
 ∃seq ack wn ug A1 n1 c1 A2 n2 c2,e=.returned (.tuple #[zS (kM K xs 0:Nat) (kM K xs 2:Nat) seq ack (wQ K xs:Nat) wn ug A1 n1 c1,.slice A2 n2 c2,.int .i64 (K:Int)])/\Below w.heap.size w w'
theorem aCq{K:Nat}{w:World}(h:K≠0)(j:Below w.heap.size w w'):aLw K xs w w' (.returned (.tuple #[zS 0 0 0 0 0 0 0 none 0 0,.slice none 0 0,.int .i64 (K:Int)])):=by
 refine⟨0,0,0,0,none,0,0,none,0,0,?_,j⟩;unfold kM wQ;rw[bAa h,bAa h,bAa h]
 rfl
theorem aLi(A P:Option Addr)(n c m d:Nat)(xs ps:List UInt8)(w:World)(hx:IsB w w.heap.size A n xs)(hp:IsB w w.heap.size P m ps)(b5:n<=c)(bn:c<=maxLen)(dx:n<=1099511627776)(hm:m<=maxLen)(K:Nat)(j:jV ps xs=K) :
 Cl 119 #[.slice A n c,.slice P m d] w fun e w'=>aLw K xs w w' e:=by
 have c3:=hx.1;have O:=hx.alloc (aE1 0 0 0 0 0 0 0 none 0 0);have ah:=hp.alloc (aE1 0 0 0 0 0 0 0 none 0 0);have Y:Below w.heap.size w (w.alloc (aE1 0 0 0 0 0 0 0 none 0 0)):=bC;unfold aE1 at O ah Y;by_cases ef:n<20
 .have c4:K=2:=by rw[<-j];unfold jV;rw[bBa (by omega)]
  subst c4;have a7:=q_ (aCq (K:=2) (xs:=xs) (by omega) Y);have t1:(n:Int)<20:=by omega
  clear j bn;replace ⟨hx,hp,O,ah,Y⟩:=q_5 hx hp O ah Y;go_enter func119,ntmps119;go_wp2_with fail
  exact aYa (v:=.tuple #[zS 0 0 0 0 0 0 0 none 0 0,.slice none 0 0,.int .i64 2]) (by simp[results,results119,go_sem]) rfl a7
 have t1:¬ (n:Int)<20:=by omega
 obtain⟨b,I,a1,rfl,dp,br,eb,b1⟩:=O.byte (i:=12) (by omega);obtain⟨V,bs,ec,bk⟩:=O.uZ (i:=13) (by omega);obtain⟨q,hq⟩:∃q,a1 / 16=q:=⟨_,rfl⟩
 obtain⟨s,hs⟩:∃s,q*4=s:=⟨_,rfl⟩
 obtain⟨lo,cp⟩:∃lo,a1 % 16=lo:=⟨_,rfl⟩
 have e0:bits .and .u8 (a1:Int) 15=(lo:Int):=by rw[u8_and15 (a1:Int) (by omega) (by omega)];omega
 have eq:(a1:Int) / 16=(q:Int):=by omega
 have es:(q:Int)*4=(s:Int):=by omega
 have d1:s<=60:=by omega
 have d2:(12:Int)<(n:Int):=by omega
 have d3:(13:Int)<(n:Int):=by omega
 obtain⟨f,hf⟩:∃f,decide (s<20\/n<s\/lo≠0)=f:=⟨_,rfl⟩
 obtain⟨r,hr⟩:∃r,decide (ones (tot false (ps++xs))=65535)=r:=⟨_,rfl⟩
 have a8:K=if f=true then 11 else if r=true then 0 else 13:=by
  rw[<-j,<-hf,<-hr];unfold jV;rw[bAa (by omega),br,hq,hs,cp,c3];by_cases h1:s<20\/n<s\/lo≠0
  .rw[bBa h1,bYa h1,bBa rfl]
  .rw[bAa h1,bWa h1];by_cases h2:ones (tot false (ps++xs))=65535
   .rw[bBa h2,bYa h2];rfl
   .rw[bAa h2,bWa h2];rfl
 have hr':decide (ones (tot false (flat [⟨P,d,ps⟩,⟨some ⟨b,I,none⟩,c,xs⟩]))=65535)=r:=by rw[<-hr];simp[flat]
 have ca:=q_ (pK _ 2 2 _ _ (aBz (w.heap.size+1) (by simp) (t:=43) (c:=c) (d:=d) O ah (by unfold maxLen;omega) hm) (by unfold maxLen;omega) r hr');have hcm':=bn;unfold maxLen at bn;clear hr hr' j hcm' hq hs cp;replace ⟨hx,hp,O,ah,Y,br,bs,hf,a8⟩:=q_9 hx hp O ah Y br bs hf a8;go_enter func119,ntmps119;go_upto_region 4 with fail
 go_cut [19] (fun sv wx=>sv=.bool f/\w.alloc (.cells #[.int .i64 0,.int .i64 0,.int .u32 0,.int .u32 0,.int .i64 0,.int .i64 0,.int .i64 0,.slice none 0 0] 248)=wx)
 case first =>
  have an:=hf.out;by_cases h1:s<20
  .have t2:(s:Int)<20:=by omega
   rw[bYa (.inl h1)]at an;go_wp2_with fail
   go_meet;exact⟨by first|rfl|rw[an],rfl⟩
  .have t2:¬ (s:Int)<20:=by omega
   by_cases h2:n<s
   .have t3:(n:Int)<(s:Int):=by omega
    rw[bYa (.inr (.inl h2))]at an;go_wp2_with fail
    go_meet;exact⟨by first|rfl|rw[an],rfl⟩
   .have t3:¬ (n:Int)<(s:Int):=by omega
    have bj:f=((lo:Int) != 0):=by
     rw[<-an];by_cases h3:lo=0
     .subst h3;exact bWa (by omega)
     .rw[bYa (.inr (.inr h3))];exact(bne_iff_ne.2 (by omega)).symm
    obtain⟨z,hz⟩:=eX (((lo:Int) != 0));rw[hz]at bj;clear an;replace bj:=q_ bj;go_wp2_with fail
    go_meet;exact⟨by first|rw[bj.out]|rfl,rfl⟩
 case rest =>
 obtain⟨rfl,rfl⟩:=hcut;rcases f with _|_
 case true =>
  have da:K=11:=by rw[a8.out];rfl
  subst da;have a7:=q_ (aCq (K:=11) (xs:=xs) (by omega) Y);clear b1 bk;go_wp2_with fail
  exact aYa (v:=.tuple #[zS 0 0 0 0 0 0 0 none 0 0,.slice none 0 0,.int .i64 11]) (by simp[results,results119,go_sem]) rfl a7
 case false =>
 have bt:20<=s/\s<=n:=by
  have h1:=cUa hf;omega
 obtain⟨bt,cq⟩:=bt;go_wp2_with fail
 refine ca.mono ?_;rintro e w1 ⟨rfl,rfl⟩;rcases r with _|_
 case false =>
  have db:K=13:=by rw[a8.out];rfl
  subst db;have a7:=q_ (aCq (K:=13) (xs:=xs) (by omega) (Y.alloc (by simp) (.cells #[.slice P m d,.slice (some ⟨b,I,none⟩) n c] 43)));clear b1 bk;go_wp2_with fail
  exact aYa (v:=.tuple #[zS 0 0 0 0 0 0 0 none 0 0,.slice none 0 0,.int .i64 13]) (by simp[results,results119,go_sem]) rfl a7
 case true =>
 have dc:K=0:=by rw[a8.out];rfl
 subst dc;have hx2':=q_ (O.alloc (.cells #[.slice P m d,.slice (some ⟨b,I,none⟩) n c] 43));obtain⟨E,ax⟩:=eX ((w.alloc (.cells #[.int .i64 0,.int .i64 0,.int .u32 0,.int .u32 0,.int .i64 0,.int .i64 0,.int .i64 0,.slice none 0 0] 248)).alloc (.cells #[.slice P m d,.slice (some ⟨b,I,none⟩) n c] 43));have dd:Hid (Below w.heap.size w E):=q_ (ax▸Y.alloc (by simp) _);have de:Hid (E.heap[w.heap.size]?=some (.cells #[.int .i64 0,.int .i64 0,.int .u32 0,.int .u32 0,.int .i64 0,.int .i64 0,.int .i64 0,.slice none 0 0] 248 (0,0))):=q_ (ax▸kE _ (by simp) (aJ _ _ _));have df:w.heap.size<E.heap.size:=by rw[<-ax];simp;omega
 rw[ax]at hx2' ⊢;have hc13':E.cell? ⟨b,I+13,none⟩=some (.int .u8 (V:Int)):=by
  rw[<-ax];exact(bC |>.cell dp).trans bk
 have cc:∀l:Later E,l.w.cell? ⟨b,I+13,none⟩=some (.int .u8 (V:Int)):=fun l=>l.cell hc13'
 clear ax b1 bk ca O ah e0 hc13';obtain⟨A2,dr⟩:∃A2,(if c=20 then some (⟨b,I,none⟩:Addr)else some ⟨b,I+20,none⟩)=A2:=⟨_,rfl⟩
 obtain⟨A3,ds⟩:∃A3,(if c=s then some (⟨b,I,none⟩:Addr)else some ⟨b,I+s,none⟩)=A3:=⟨_,rfl⟩
 have bu:∀k,0<k->(⟨b,I,none⟩:Addr).add k=⟨b,I+k,none⟩:=fun k hk=>by unfold Addr.add;rw[bAa (by omega)]
 have bl:IsB E E.heap.size A2 (s - 20) ((xs.take s).drop 20):=by
  have h:=hx2'.cut (k:=20) (m:=s) (cap:=c) bt cq b5;rw[eQa,bu 20 (by omega),dr]at h;exact h
 have bv:IsB E E.heap.size A3 (n - s) ((xs.take n).drop s):=by
  have h:=hx2'.cut (k:=s) (m:=n) (cap:=c) cq (aZa _) b5;rw[eQa,bu s (by omega),ds]at h;exact h
 have b0:=bX xs 0 2;have b2:=bX xs 2 2;rw[show 256 ^ 2=65536 from rfl]at b0 b2;have j0:=fun l:Later E=>Octet.aEu 0 2 0 2 rfl rfl _ n c xs l.w (hx2'.later l) (by unfold maxLen;omega) (by omega) (by omega)
 have j2:=fun l:Later E=>Octet.aEu 2 2 2 2 rfl rfl _ n c xs l.w (hx2'.later l) (by unfold maxLen;omega) (by omega) (by omega)
 have j4:=fun l:Later E=>Octet.aEu 4 4 4 4 rfl rfl _ n c xs l.w (hx2'.later l) (by unfold maxLen;omega) (by omega) (by omega)
 have j8:=fun l:Later E=>Octet.aEu 8 4 8 4 rfl rfl _ n c xs l.w (hx2'.later l) (by unfold maxLen;omega) (by omega) (by omega)
 have au:=fun l:Later E=>Octet.aEu 14 2 14 2 rfl rfl _ n c xs l.w (hx2'.later l) (by unfold maxLen;omega) (by omega) (by omega)
 have av:=fun l:Later E=>Octet.aEu 18 2 18 2 rfl rfl _ n c xs l.w (hx2'.later l) (by unfold maxLen;omega) (by omega) (by omega)
 obtain⟨s0,ba⟩:∃N,beN xs 0 2=N:=⟨_,rfl⟩
 obtain⟨s2,bb⟩:∃N,beN xs 2 2=N:=⟨_,rfl⟩
 obtain⟨x4,cr⟩:∃N,beN xs 4 4=N:=⟨_,rfl⟩
 obtain⟨x8,ct⟩:∃N,beN xs 8 4=N:=⟨_,rfl⟩
 obtain⟨b8,cu⟩:∃N,beN xs 14 2=N:=⟨_,rfl⟩
 obtain⟨b9,cv⟩:∃N,beN xs 18 2=N:=⟨_,rfl⟩
 simp only[ba]at j0;simp only[bb]at j2;simp only[cr]at j4;simp only[ct]at j8;simp only[cu]at au;simp only[cv]at av;rw[ba]at b0;rw[bb]at b2;have d4:(20:Int)<=(s:Int):=by omega
 have d5:(s:Int)<=(n:Int):=by omega
 have d6:(n:Int)<=(c:Int):=by omega
 have d7:s<=c:=by omega
 have d8:(s:Int)<=(c:Int):=by omega
 clear bu cr ct cu cv;replace ⟨bl,bv,ba,bb,j0,j2,j4,j8,au,av⟩:=q_10 bl bv ba bb j0 j2 j4 j8 au av;go_upto_region 8 with fail
 go_cut [8] (fun tv wx=>∃g w5 sq ak wn ug W n' X,tv=.pointer (some ⟨g,0,none⟩)/\w5.heap[g]?=some (.cells #[.int .i64 (s0:Int),.int .i64 (s2:Int),.int .u32 sq,.int .u32 ak,.int .i64 (V:Int),.int .i64 wn,.int .i64 ug,.slice W n' X] 248 (0,0))/\E.heap.size<=g/\g<w5.heap.size/\Below E.heap.size E w5/\w5=wx)
 case first =>
  refine rL ?_;refine eS 0 25 4 ?_;simp only[dA,dC,dD];refine qE ?_
  (refine aD (fun K j=>?_);go_simp;apply bSa;refine⟨fun l=>?_,j _ ?_⟩;(go_at_call 115;refine(j0 l).mono ?_;rintro e w' ⟨rfl,L⟩;exact⟨rfl,L⟩);clear j K)
  iterate 2 refine qE ?_
  (refine aD (fun K j=>?_);go_simp;apply bSa;refine⟨fun l=>?_,j _ ?_⟩;(go_at_call 115;refine(j2 l).mono ?_;rintro e w' ⟨rfl,L⟩;exact⟨rfl,L⟩);clear j K)
  iterate 2 refine qE ?_
  (refine aD (fun K j=>?_);go_simp;apply bSa;refine⟨fun l=>?_,j _ ?_⟩;(go_at_call 115;refine(j4 l).mono ?_;rintro e w' ⟨rfl,L⟩;exact⟨rfl,L⟩);clear j K)
  iterate 2 refine qE ?_
  (refine aD (fun K j=>?_);go_simp;apply bSa;refine⟨fun l=>?_,j _ ?_⟩;(go_at_call 115;refine(j8 l).mono ?_;rintro e w' ⟨rfl,L⟩;exact⟨rfl,L⟩);clear j K)
  iterate 6 refine qE ?_
  (refine aD (fun K j=>?_);go_simp;apply bSa;refine⟨fun l=>?_,j _ ?_⟩;(go_at_call 115;refine(au l).mono ?_;rintro e w' ⟨rfl,L⟩;exact⟨rfl,L⟩);clear j K)
  iterate 2 refine qE ?_
  (refine aD (fun K j=>?_);go_simp;apply bSa;refine⟨fun l=>?_,j _ ?_⟩;(go_at_call 115;refine(av l).mono ?_;rintro e w' ⟨rfl,L⟩;exact⟨rfl,L⟩);clear j K)
  iterate 4 refine qE ?_
  refine aT ?_;have q0:IntKind.i64.wrap (s0:Int)=(s0:Int):=wO _;have q2:IntKind.i64.wrap (s2:Int)=(s2:Int):=wO _;have ci:IntKind.i64.wrap (V:Int)=(V:Int):=wO _;rw[q0,q2,ci];clear cc q0 q2 ci j0 j2 j4 j8 au av;have cj:s - 20<=1099511627776:=by omega
  refine aQ9 25 27 (fuel:=3) rfl rfl (by as_aux_lemma=>kernel_rfl) (fun w3 ag K j=>?_) (fun w3 ag K j=>?_)
  .go_simp;go_at_call 118;refine(nM _ _ _ _ _ (bl.on ag) cj).mono ?_;rintro e w4 ⟨v,rfl,ad,b4⟩;obtain⟨W,X,rfl,dt,du,b3⟩:=ad.form;refine j _ _ b4 ?_;clear j K ad b3;refine eS 26 1 2 ?_;simp only[dB,dA,dC,dD];refine qE ?_;refine aT ?_;refine eT 27 rfl fun l K j=>?_;go_simp;have bw:=ag.size;have z4:=b4.size;have zl:=l.hb.size;have ac:Below l.w.heap.size l.w (l.w.alloc (.cells #[.int .i64 0,.int .i64 0,.int .u32 0,.int .u32 0,.int .i64 0,.int .i64 0,.int .i64 0,.slice none 0 0] 248)):=bC;have bc:=aJ l.w 248 #[.int .i64 0,.int .i64 0,.int .u32 0,.int .u32 0,.int .i64 0,.int .i64 0,.int .i64 0,.slice none 0 0];have bd:l.w.heap.size<(l.w.alloc (.cells #[.int .i64 0,.int .i64 0,.int .u32 0,.int .u32 0,.int .i64 0,.int .i64 0,.int .i64 0,.slice none 0 0] 248)).heap.size:=by simp
   refine j _ _ ac ?_;clear j K;generalize l.w.alloc (.cells #[.int .i64 0,.int .i64 0,.int .u32 0,.int .u32 0,.int .i64 0,.int .i64 0,.int .i64 0,.slice none 0 0] 248)=w6 at ac bc bd ⊢;refine eE fun G=>?_;have cl:=G.hb.size;have aj:=q_ (aC G.hb bd bc);have be:Below E.heap.size E G.w:=(((ag.trans (b4.mono bw)).trans (l.hb.mono (by omega))).trans (ac.mono (by omega))).trans (G.hb.mono (by omega));have bf:=aA aj;have bg:=bD aj;obtain⟨w8,e8,J,U⟩:=aJr aj (.int .i64 (s0:Int)) (.int .i64 (s2:Int)) (.int .u32 (IntKind.u32.wrap (x4:Int))) (.int .u32 (IntKind.u32.wrap (x8:Int))) (.int .i64 (V:Int)) (.int .i64 (IntKind.i64.wrap (b8:Int))) (.int .i64 (IntKind.i64.wrap (b9:Int))) (.slice W (s - 20) X);have bh:=q_ (be.trans (gB U));have z8:=U.size;clear U be;replace J:=q_ J;refine tS 28 rfl fun K j=>?_;go_simp;refine j _ _ ?_;clear j K bf bg e8;refine tD ?_;go_wp2_with fail
   go_meet;exact⟨_,w8,_,_,_,_,_,_,_,rfl,J,by omega,by omega,bh,rfl⟩
  .go_simp;have bw:=ag.size;have ac:Below w3.heap.size w3 (w3.alloc (.cells #[.int .i64 0,.int .i64 0,.int .u32 0,.int .u32 0,.int .i64 0,.int .i64 0,.int .i64 0,.slice none 0 0] 248)):=bC;have bc:=aJ w3 248 #[.int .i64 0,.int .i64 0,.int .u32 0,.int .u32 0,.int .i64 0,.int .i64 0,.int .i64 0,.slice none 0 0];have bd:w3.heap.size<(w3.alloc (.cells #[.int .i64 0,.int .i64 0,.int .u32 0,.int .u32 0,.int .i64 0,.int .i64 0,.int .i64 0,.slice none 0 0] 248)).heap.size:=by simp
   refine j _ _ ac ?_;clear j K;generalize w3.alloc (.cells #[.int .i64 0,.int .i64 0,.int .u32 0,.int .u32 0,.int .i64 0,.int .i64 0,.int .i64 0,.slice none 0 0] 248)=w4 at ac bc bd ⊢;refine eT 25 rfl fun l K j=>?_;go_simp;go_at_call 118;refine(nM _ _ _ _ _ (((bl.on ag).on ac).later l) cj).mono ?_;rintro e w6 ⟨v,rfl,ad,Z⟩;obtain⟨W,X,rfl,dt,du,b3⟩:=ad.form;refine j _ _ Z ?_;clear j K ad b3;refine eS 26 1 1 ?_;simp only[dB,dA,dC,dD];refine qE ?_;refine aT ?_;refine eE fun G=>?_;have zl:=l.hb.size;have z6:=Z.size;have cl:=G.hb.size;have aj:=q_ (kB G.hb (kB Z (aC l.hb bd bc)));have be:Below E.heap.size E G.w:=(((ag.trans (ac.mono bw)).trans (l.hb.mono (by omega))).trans (Z.mono (by omega))).trans (G.hb.mono (by omega));have bf:=aA aj;have bg:=bD aj;obtain⟨w8,e8,J,U⟩:=aJr aj (.int .i64 (s0:Int)) (.int .i64 (s2:Int)) (.int .u32 (IntKind.u32.wrap (x4:Int))) (.int .u32 (IntKind.u32.wrap (x8:Int))) (.int .i64 (V:Int)) (.int .i64 (IntKind.i64.wrap (b8:Int))) (.int .i64 (IntKind.i64.wrap (b9:Int))) (.slice W (s - 20) X);have bh:=q_ (be.trans (gB U));have z8:=U.size;clear U be;replace J:=q_ J;refine tS 28 rfl fun K j=>?_;go_simp;refine j _ _ ?_;clear j K bf bg e8;refine tD ?_;go_wp2_with fail
   go_meet;exact⟨_,w8,_,_,_,_,_,_,_,rfl,J,by omega,by omega,bh,rfl⟩
 case rest =>
 obtain⟨g,w5,sq,ak,wn,ug,W,n',X,rfl,bx,ed,dv,aw,rfl⟩:=hcut;have z5:=aw.size;have di:=q_ ((tw dd aw));have dj:=q_ (aC aw df de);have dk:=q_ (bv.on aw);have dl:=fun(l:Later w5) (o:Nat)=>aA (aC l.hb dv bx) o
 have dm:n - s<=1099511627776:=by omega
 clear cc j0 j2 j4 j8 au av;replace ⟨bx,aw⟩:=q_2 bx aw;go_upto_region 9 with fail
 refine rL ?_;refine eS 0 4 4 ?_;simp only[dA,dC,dD];iterate 4 refine qE ?_
 refine aT ?_;clear dl;refine eT 4 rfl fun l K j=>?_;go_simp;go_at_call 118;refine(nM _ _ _ _ _ (dk.later l) dm).mono ?_;rintro e w6 ⟨v,rfl,ad,Z⟩;obtain⟨A7,c7,rfl,_,_,_⟩:=ad.form;refine j _ _ Z ?_;clear j K ad;refine eE fun G=>?_;have zl:=l.hb.size;have z6:=Z.size;have cl:=G.hb.size;have bz:=q_ (kB G.hb (kB Z (kB l.hb dj)));have cm:=((di.trans (l.hb.mono (by omega))).trans (Z.mono (by omega))).trans (G.hb.mono (by omega));have bf:=aA bz;have bg:=bD bz;obtain⟨w8,e8,J,U⟩:=aJr bz (.int .i64 (s0:Int)) (.int .i64 (s2:Int)) (.int .u32 sq) (.int .u32 ak) (.int .i64 (V:Int)) (.int .i64 wn) (.int .i64 ug) (.slice W n' X);have bh:=q_ (cm.trans (below_grown U (by omega) (aZa _)));have dn:=aA J;clear U cm;replace J:=q_ J;refine tS 5 rfl fun K j=>?_;go_simp;refine j _ _ ?_;clear j K bf bg e8;refine tM 6 rfl ?_;refine tM 7 rfl ?_;refine tD ?_;go_wp2_with fail
 refine aYa (v:=.tuple #[zS (s0:Int) (s2:Int) sq ak (V:Int) wn ug W n' X,.slice A7 (n - s) c7,.int .i64 0]) (by simp[results,results119,go_sem,dn]) rfl ⟨sq,ak,wn,ug,W,n',X,A7,n - s,c7,?_,bh⟩;unfold kM wQ;rw[bBa rfl,bBa rfl,bBa rfl,ba.out,bb.out,bs.out]
 rfl
def jK (bare:Bool) (ps xs:List UInt8):Nat :=
 if xs.length<8 then 2 else if beN xs 4 2≠xs.length then 12 else if beN xs 6 2=0 then(if bare=true then 0 else 13)else if ones (tot false (ps++xs))=65535 then 0 else 13
def kN (K:Nat) (xs:List UInt8) (p:Nat):Nat:=if K=0 then beN xs p 2 else 0
def aG7 (K:Nat) (xs:List UInt8):Bool:=decide (K=0/\beN xs 6 2=0)
def aC6 (K:Nat) (xs:List UInt8):List UInt8:=if K=0 then xs.drop 8 else[]
def aLx (K:Nat) (xs:List UInt8) (w w':World) (e:Ending):Prop :=
 ∃A' m' c',e=.returned (.tuple #[.agg #[.int .i64 (kN K xs 0:Nat),.int .i64 (kN K xs 2:Nat),.bool (aG7 K xs)],.slice A' m' c',.int .i64 (K:Int)])/\IsB w' w'.heap.size A' m' (aC6 K xs)/\m'<=c'/\c'<=maxLen/\Below w.heap.size w w'
theorem aCr{K:Nat}{w:World}(h:K≠0)(j:Below w.heap.size w w'):aLx K xs w w' (.returned (.tuple #[.agg #[.int .i64 0,.int .i64 0,.bool false],.slice none 0 0,.int .i64 (K:Int)])):=by
 refine⟨none,0,0,?_,?_,aZa _,by unfold maxLen;omega,j⟩
 .unfold kN aG7;rw[bAa h,bAa h,bWa (fun A=>h A.1)]
  rfl
 .unfold aC6;rw[bAa h];exact IsB.nil _ _ _
theorem aLj(A P:Option Addr)(n c m d:Nat)(xs ps:List UInt8)(X:Bool)(w:World)(I:IsB w w.heap.size A n xs)(O:IsB w w.heap.size P m ps)(bv:n<=c)(a0:c<=maxLen)(cm:n<=1099511627776)(hm:m<=maxLen)(K:Nat)(E:jK X ps xs=K) :
 Cl 120 #[.slice A n c,.slice P m d,.bool X] w fun e w'=>aLx K xs w w' e:=by
 have bh:=I.1;have G:=I.alloc (.cells #[.int .i64 0,.int .i64 0,.bool false] 148);have Y:=O.alloc (.cells #[.int .i64 0,.int .i64 0,.bool false] 148);have J:Below w.heap.size w (w.alloc (.cells #[.int .i64 0,.int .i64 0,.bool false] 148)):=bC;by_cases h8:n<8
 .have bz:K=2:=by rw[<-E];unfold jK;rw[bBa (by omega)]
  subst bz;have ag:=q_ (aCr (K:=2) (xs:=xs) (by omega) J);have t1:(n:Int)<8:=by omega
  clear E a0;replace ⟨I,O,G,Y,J⟩:=q_5 I O G Y J;go_enter func120,ntmps120;go_wp2_with fail
  exact aYa (v:=.tuple #[.agg #[.int .i64 0,.int .i64 0,.bool false],.slice none 0 0,.int .i64 2]) (by simp[results,results120,go_sem]) rfl ag
 have t1:¬ (n:Int)<8:=by omega
 have hcm':=a0;unfold maxLen at a0;have b4:=bX xs 4 2;have b0:=bX xs 0 2;have b2:=bX xs 2 2;have b6:=bX xs 6 2;have e2:256 ^ 2=65536:=rfl;rw[e2]at b4 b0 b2 b6;have V:=fB 4 2 4 2 rfl rfl A n c xs _ G (by unfold maxLen;omega) (by omega) (by omega);have ah:=fB 0 2 0 2 rfl rfl A n c xs _ G (by unfold maxLen;omega) (by omega) (by omega);have ai:=fB 2 2 2 2 rfl rfl A n c xs _ G (by unfold maxLen;omega) (by omega) (by omega);have aj:=fB 6 2 6 2 rfl rfl A n c xs _ G (by unfold maxLen;omega) (by omega) (by omega);obtain⟨N,hN⟩:=eX (beN xs 4 2);obtain⟨s0,ak⟩:∃N,beN xs 0 2=N:=⟨_,rfl⟩
 obtain⟨s2,al⟩:∃N,beN xs 2 2=N:=⟨_,rfl⟩
 obtain⟨s6,am⟩:∃N,beN xs 6 2=N:=⟨_,rfl⟩
 rw[hN]at V b4;rw[ak]at ah b0;rw[al]at ai b2;rw[am]at aj b6;by_cases bu:N=n
 case neg =>
  have b5:K=12:=by rw[<-E];unfold jK;rw[bAa (by omega),bBa (by omega)]
  subst b5;have ag:=q_ (aCr (K:=12) (xs:=xs) (by omega) J);have t2:((N:Int) == (n:Int))=false:=by rw[bDa];omega
  clear E hcm' ah ai aj b0 b2 b6 ak al am bu;replace ⟨I,O,G,Y,J,V⟩:=q_6 I O G Y J V;go_enter func120,ntmps120;go_wp2_with fail
  refine V.mono ?_;rintro e w1 ⟨rfl,rfl⟩;go_wp2_with fail
  exact aYa (v:=.tuple #[.agg #[.int .i64 0,.int .i64 0,.bool false],.slice none 0 0,.int .i64 12]) (by simp[results,results120,go_sem]) rfl ag
 subst bu;obtain⟨b,cj⟩:=eX (((s6:Int) == 0));obtain⟨j,ap⟩:=eX ((w.alloc (.cells #[.int .i64 0,.int .i64 0,.bool false] 148)).alloc (.cells #[.int .i64 (s0:Int),.int .i64 (s2:Int),.bool b] 148));have b7:Hid (j.heap[w.heap.size]?=some (.cells #[.int .i64 0,.int .i64 0,.bool false] 148 (0,0))):=q_ (ap▸kE _ (by simp) (aJ _ _ _));have bj:Hid (j.heap[w.heap.size+1]?=some (.cells #[.int .i64 (s0:Int),.int .i64 (s2:Int),.bool b] 148 (0,0))):=q_ (ap▸(by simpa using aJ (w.alloc (.cells #[.int .i64 0,.int .i64 0,.bool false] 148)) 148 #[.int .i64 (s0:Int),.int .i64 (s2:Int),.bool b]));have a5:Hid (Below w.heap.size w j):=q_ (ap▸J.alloc (by simp) _);have co:w.heap.size+2<=j.heap.size:=by rw[<-ap];simp
 have ar:=q_ (I.on a5);have b8:=q_ (O.on a5);have hxn':xs.length=N:=bh;obtain⟨r,hr⟩:∃r,decide (ones (tot false (ps++xs))=65535)=r:=⟨_,rfl⟩
 have hr':decide (ones (tot false (flat [⟨P,d,ps⟩,⟨A,c,xs⟩]))=65535)=r:=by rw[<-hr];simp[flat]
 have b9:=q_ (pK _ 2 2 _ _ (aBz j.heap.size rfl (t:=43) (c:=c) (d:=d) ar b8 (by unfold maxLen;omega) hm) (by unfold maxLen;omega) r hr');obtain⟨f,hf⟩:∃f,(if b=true then !X else !r)=f:=⟨_,rfl⟩
 have a7:Hid (b=decide (beN xs 6 2=0)):=q_ (by rw[<-cj,am];exact aEx s6 0);have au:K=if f=true then 13 else 0:=by
  rw[<-E,<-hf];unfold jK;rw[bAa (by omega),bAa (by omega)];by_cases h6:beN xs 6 2=0
  .rw[bBa h6,a7,bYa h6]
   cases X<;>rfl
  .rw[bAa h6,a7,bWa h6,<-hr];by_cases h7:ones (tot false (ps++xs))=65535
   .rw[bBa h7,bYa h7];rfl
   .rw[bAa h7,bWa h7];rfl
 obtain⟨A8,bo⟩:∃A8,(if c=8 then A else A.map (·.add 8))=A8:=⟨_,rfl⟩
 have a8:IsB j j.heap.size A8 (N - 8) (xs.drop 8):=by
  have h8':=ar.cut (k:=8) (m:=N) (cap:=c) (by omega) (aZa _) bv;rw[bZa (by rw[ar.1];omega)]at h8';rw[<-bo];exact h8'
 obtain⟨bb,ob,rfl,_,_⟩:=ar.2 (by omega);have bk:(⟨bb,ob,none⟩:Addr).add 8=⟨bb,ob+8,none⟩:=rfl;simp only[eQa,bk]at bo;have av:=aA bj;clear hr hr' E bk hcm';replace ⟨I,O,G,Y,J,V,ah,ai,aj,ak,al,am⟩:=q_12 I O G Y J V ah ai aj ak al am;replace ⟨hN,hf,au,a8⟩:=q_4 hN hf au a8;go_enter func120,ntmps120;go_wp2_with fail
 refine V.mono ?_;rintro e w1 ⟨rfl,rfl⟩;go_wp2_with fail
 refine ah.mono ?_;rintro e w1 ⟨rfl,rfl⟩;go_wp2_with fail
 refine ai.mono ?_;rintro e w1 ⟨rfl,rfl⟩;go_wp2_with fail
 refine aj.mono ?_;rintro e w1 ⟨rfl,rfl⟩;go_upto_region 7 with fail
 clear ap;go_cut [52] (fun sv wx=>∃w3,sv=.bool f/\Below j.heap.size j w3/\w3=wx)
 case first =>
  rcases b with _|_
  .obtain rfl:(!r)=f:=hf.out;go_wp2_with fail
   refine b9.mono ?_;rintro e w3 ⟨rfl,rfl⟩;have ca:Hid (Below j.heap.size j (j.alloc (.cells #[.slice P m d,.slice (some ⟨bb,ob,none⟩) N c] 43))):=q_ (bC);go_wp2_with fail
   go_meet;exact⟨_,rfl,ca,rfl⟩
  .obtain rfl:(!X)=f:=hf.out;rcases X with _|_
   .go_wp2_with fail
    go_meet;exact⟨j,rfl,bLa _ _,rfl⟩
   .go_wp2_with fail
    go_meet;exact⟨j,rfl,bLa _ _,rfl⟩
 case rest =>
 obtain⟨w3,rfl,L,rfl⟩:=hcut;have U:=kB L b7;have ao:=kB L bj;have Z:=tw a5 L;have z3:=L.size;clear av;rcases f with _|_
 .have cc:K=0:=au.out;subst cc;have cd:=q_ (a8.on L);have ce:=fun(l:Later w3) (o:Nat)=>aA (kB l.hb ao) o
  replace ⟨U,ao,Z,L⟩:=q_4 U ao Z L;go_upto_region 9 with fail
  refine rL ?_;refine eS 0 4 4 ?_;simp only[dA,dC,dD];iterate 4 refine qE ?_
  refine aT ?_;clear ce;refine eT 4 rfl fun l K E=>?_;go_simp;go_at_call 118;refine(nM _ _ _ (xs.drop 8) _ (cd.later l) (by omega)).mono ?_;rintro e w4 ⟨v,rfl,bf,aq⟩;refine E _ _ aq ?_;clear E K;obtain⟨A',c',rfl,cv,cw,br⟩:=bf.form;refine eE fun l2=>?_;have zl:=l.hb.size;have z4:=aq.size;have cu:=l2.hb.size;have a9:=q_ (kB l2.hb (kB aq (kB l.hb U)));have cg:=q_ (((Z.trans (l.hb.mono (by omega))).trans (aq.mono (by omega))).trans (l2.hb.mono (by omega)));have ch:=br.on l2.hb;have bl:=bf.below l2.hb;have av:=aA a9;have bm:=bD a9;obtain⟨w5,e5,W,g5⟩:=aXi a9 (.int .i64 (s0:Int)) (.int .i64 (s2:Int)) (.bool b);have ba:=q_ (cg.trans (below_grown g5 (by omega) (aZa _)));have bn:=bl.away g5 (by omega);obtain⟨_,r1,r2,r3⟩:=bn.reads;have bc:=aA W;rw[show(xs.drop 8).length=N - 8 by rw[cCa,bh]]at r1 r3;clear bf bl bn br ch aq g5;replace ⟨W,r3⟩:=q_2 W r3;refine tS 5 rfl fun K E=>?_;go_simp;refine E _ _ ?_;clear E K av bm e5;refine tM 6 rfl ?_;refine tM 7 rfl ?_;refine tD ?_;go_wp2_with fail
  refine aYa (v:=.tuple #[.agg #[.int .i64 (s0:Int),.int .i64 (s2:Int),.bool b],.slice A' (N - 8) c',.int .i64 0]) (by simp[results,results120,go_sem,bc]) rfl ⟨A',_,c',?_,?_,r1,r2,ba⟩
  .unfold kN aG7;rw[bBa rfl,bBa rfl,ak.out,al.out,a7.out];simp
  .unfold aC6;rw[bBa rfl];exact r3
 .have ci:K=13:=au.out;subst ci;have av:=aA U;have bm:=bD U;obtain⟨w5,e5,W,g5⟩:=aXi U (.int .i64 0) (.int .i64 0) (.bool false);have ba:=q_ (Z.trans (below_grown g5 (by omega) (aZa _)));have ag:=q_ (aCr (K:=13) (xs:=xs) (by omega) ba);have bc:=aA W;clear g5;replace ⟨U,ao,Z,W,L⟩:=q_5 U ao Z W L;go_wp2_with fail
  exact aYa (v:=.tuple #[.agg #[.int .i64 0,.int .i64 0,.bool false],.slice none 0 0,.int .i64 13]) (by simp[results,results120,go_sem,bc]) rfl ag
end Go.Proofs.YtpcifakangbpaaaGreat
