/- Parts of the proof of PathOpens: contracts of functions of the program. No condition but those that each theorem names. -/
import Derived.Test.YtpcifakangbpaaaGreatQPathOpens9
set_option linter.unusedVariables false
set_option linter.unusedSimpArgs false
set_option maxRecDepth 100000
set_option maxHeartbeats 16000000
namespace Go.Proofs.YtpcifakangbpaaaGreat
open Go.RowKit Go.ChangeShapes Go.WideShapes Go.ChangeAt Go.Deep Go.Proofs.Tryz
variable {R xs:List UInt8}{B E J N O S V b base' c f fuel g i j k m n s sd sz:Nat}{Q:Exit->Act->World->Prop}{d w' w0:World}{u v z:Value}{T e t:TypeId}{A:Option Addr}{h os:List Nat}{F:List UInt8->Option Nat}{p:List Nat×List Bool}{a:Act}{α:Type}{H l:List Int}{o:Oper}{G:Array Oper}{K:Act->World->Prop}{y:Array Value}{vs:List Value}{L:List Oper}{I:Bool}{U W Y aa:List (Int×List UInt8)}{P:Program}
theorem aPa(E:Nat)(v:Value)(xs:List UInt8)(N k:Nat)(w:World)(U:aZ w E v xs)(Y:E<=w.heap.size)(_hN:N<18446744073709551616)(Z:k<=8)(hl:xs.length<=549755813888) :
 Cl 154 #[v,.int .u64 (N:Int),.int .i64 (k:Int)] w fun e w'=>∃L,e=.returned L/\aZ w' E L (xs++beB N k)/\fA w v w' L:=by
 go_enter func154,ntmps154;go_wp2_with fail
 go_loopw [0,7] (fun u i wr=>∃(j:Nat) (A:List UInt8),j<=k/\i=.int .i64 ((j:Int) - 1)/\A++beB N j=beB N k/\aZ wr E u (xs++A)/\fA w v wr u) (fun _ i _=>(intOf i+1).toNat)
 case atStart=>exact⟨k,[],aZa _,rfl,rfl,by simpa using U,fA.refl _ _⟩
 case round =>
  obtain⟨j,A,hj,rfl,G,O,I⟩:=hrel;have ab:A.length<=8:=by
   have:=fFa List.length G;rw[bHa,aR,aR]at this;omega
  replace ⟨G,O,I⟩:=q_3 G O I;rcases j with _|i
  .go_wp2_with fail
   go_ret;have J:=G.out;simp only[beB,ePa]at J;exact⟨_,rfl,J▸O,I⟩
  .have V:(((i+1:Nat):Int) - 1)=(i:Int):=by omega
   rw[V];have ac:=aKp i (by omega);go_wp2_with (at_builtin;refine xD rfl (.tmp 14) (.tmp 20) rfl E _ (xs++A) [UInt8.ofNat (N / 256 ^ i)] 1 1 rfl rfl ?_ rfl ?_ ?_ ?_ ?_)
   .rw[eCa,gHa,<-aQ3]
    congr 3
    rw[Int.pow_mul];simp
   .exact O
   .have:=I.grown.size;omega
   .rw[bHa];omega
   intro L w' W X;go_wp2_with fail
   refine⟨⟨i,A++[UInt8.ofNat (N / 256 ^ i)],by omega,by go_num,?_,?_,I.trans X⟩,by simp[intOf]<;>omega⟩
   .have J:=G.out;simp only[beB]at J;rw[<-J];simp
   .simpa using W
theorem aBi(E G:Int)(N k:Nat)(I:E=(N:Int))(J:G=(k:Int))(j:Nat)(v:Value)(xs:List UInt8)(w:World)(L:aZ w j v xs)(O:j<=w.heap.size)(hN:N<18446744073709551616)(U:k<=8)(V:xs.length<=549755813888) :
 Cl 154 #[v,.int .u64 E,.int .i64 G] w fun e w'=>∃A,e=.returned A/\aZ w' j A (xs++beB N k)/\fA w v w' A:=by
 subst I J;exact aPa j v xs N k w L O hN U V
def pQ (v6:Bool) (hi lo:Nat):List UInt8:=if v6 then beB hi 8++beB lo 8 else beB lo 4
theorem aLd(L:Bool)(G E:Nat)(w:World)(h1:G<18446744073709551616)(Y:E<18446744073709551616) :
 Cl 129 #[vJ L G E] w fun e w'=>∃v,e=.returned v/\aZ w' w.heap.size v (pQ L G E)/\Below w.heap.size w w':=by
 have W:=q_ (aJ w 27 #[.bool L,.int .u64 G,.int .u64 E]);obtain⟨J,V⟩:=eX (w.alloc (.cells #[.bool L,.int .u64 G,.int .u64 E] 27));have Z:Hid (Below w.heap.size w J):=q_ (V▸bC);have O:w.heap.size<J.heap.size:=by rw[<-V];simp
 rw[V]at W;have ak:=aA W;rcases L with _|_
 .unfold vJ;go_enter func129,ntmps129;go_wp2_with fail
  refine(aBi _ _ E 4 rfl rfl J.heap.size _ [] _ (aZ.nil _ _) (aZa _) Y (by omega) (by simp)).mono ?_;rintro e w2 ⟨v2,rfl,I,U⟩;have A:=q_ U.qG;replace I:=q_ I;clear U;go_wp2_with fail
  go_ret;exact⟨_,rfl,by simpa[pQ]using I.out.weaken (cAa O),Z.trans (A.mono (cAa O))⟩
 .unfold vJ;have af:∀(l:Later J) (o:Nat),l.w.cell? ⟨w.heap.size,o,none⟩=_:=fun l o=>aA (aC l.hb O W) o
  go_enter func129,ntmps129;go_wp2_with fail
  clear V;refine aP (by kernel_rfl) ?_;refine aY 0 2 (fuel:=5) (by kernel_rfl) (fun d _ _ _ _ h=>by cases d<;>exact h) (by kernel_rfl) (by kernel_rfl) ?_;simp only[dA,dC,dD];iterate 2 refine qE ?_
  refine aT ?_;refine aY 3 2 (fuel:=3) (by kernel_rfl) (fun d _ _ _ _ h=>by cases d<;>exact h) (by kernel_rfl) (by kernel_rfl) ?_;simp only[dB,dA,dC,dD];iterate 2 refine qE ?_
  refine aT ?_;clear af;refine eT 2 rfl fun l K j=>?_;go_simp;go_at_call 154;refine(aBi _ _ G 8 rfl rfl l.w.heap.size _ [] _ (aZ.nil _ _) (aZa _) h1 (by omega) (by simp)).mono ?_;rintro e w2 ⟨v2,rfl,I,U⟩;have A:=U.qG;clear U;refine j _ _ A ?_;clear j K;refine dG (by kernel_rfl) (fun N=>?_);have X:=I.below N.hb;have aa:Below J.heap.size J N.w:=(l.hb.trans (A.mono l.hb.size)).trans (N.hb.mono (bJa l.hb.size A.size));refine bF 5 rfl (by kernel_rfl) (fun K j=>?_);go_simp;go_at_call 154;refine(aBi _ _ E 8 rfl rfl l.w.heap.size _ _ _ X (bJa A.size N.hb.size) Y (by omega) (by simp[aR])).mono ?_;rintro e w4 ⟨v4,rfl,ac,ad⟩;have ab:=ad.below X (bJa A.size N.hb.size);refine j _ _ ?_;clear j K;refine bF 6 rfl (by kernel_rfl) (fun K j=>?_);go_simp;refine j _ _ ?_;clear j K;refine bY (by kernel_rfl) ?_ 0;have ag:=q_ (Z.trans ((aa.trans (ab.mono l.hb.size)).mono (cAa O)));have ah:=q_ (ac.weaken (bJa (cAa O) l.hb.size));clear I X ad ab ac A aa;go_wp2_with fail
  go_ret;exact⟨_,rfl,by simpa[pQ]using ah.out,ag⟩
def cK (n:Nat):Value:=.int .u64 (n:Int)
end Go.Proofs.YtpcifakangbpaaaGreat
