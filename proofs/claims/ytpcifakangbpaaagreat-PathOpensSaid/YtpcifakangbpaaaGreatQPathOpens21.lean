/- Parts of the proof of PathOpens: contracts of functions of the program. No condition but those that each theorem names. -/
import Derived.Test.YtpcifakangbpaaaGreatQPathOpens14
import Derived.Test.YtpcifakangbpaaaGreatQPathOpens16
set_option linter.unusedVariables false
set_option linter.unusedSimpArgs false
set_option maxRecDepth 100000
set_option maxHeartbeats 16000000
namespace Go.Proofs.YtpcifakangbpaaaGreat
open Go.RowKit Go.ChangeShapes Go.WideShapes Go.ChangeAt Go.Deep Go.Proofs.Tryz
variable {R xs:List UInt8}{B E J N O S V b base' c f fuel g i j k m n s sd sz:Nat}{Q:Exit->Act->World->Prop}{d w' w0:World}{u v z:Value}{T e t:TypeId}{A:Option Addr}{h os:List Nat}{F:List UInt8->Option Nat}{p:List Nat×List Bool}{a:Act}{α:Type}{H l:List Int}{o:Oper}{G:Array Oper}{K:Act->World->Prop}{y:Array Value}{vs:List Value}{L:List Oper}{I:Bool}{U W Y aa:List (Int×List UInt8)}{P:Program}
theorem info_u64:(Tryz.prog.info? 25).map (fun i=>(i.zero,i.size,i.bytes))=some (some (.int .u64 0),1,8):=by kernel_rfl
def xB (i:Nat):Nat:=(18446744073709551616+268435456 - logN (i+1)) % 18446744073709551616
theorem logN_lt (n:Nat) (j:1≤n) (A:n≤65536):logN n<1000000000:=by
 have:=aM7 n j A 24;unfold logN;omega
theorem tab_wrap (i:Nat) (A:i<65536):IntKind.u64.wrap (268435456 - (logN (i+1):Int))=(xB i:Int):=by
 have h:=logN_lt (i+1) (by omega) (by omega);unfold xB;obtain ⟨L,j⟩:∃L,logN (i+1)=L:=⟨_,rfl⟩
 rw [j] at h ⊢;rw [IntKind.wrap_u64];omega
theorem tabN_lt (i:Nat):xB i<18446744073709551616:=Nat.mod_lt _ (by omega)
def IsTab (xs:List Nat):Prop:=xs.length=65536∧∀i,i<65536→xs[i]?=some (xB i)
def aPz (b:Nat) (cs:Array Value) (T:TypeId) (w w':World):Prop :=
 ∃g xs,IsTab xs∧dX cK 25 w' g xs∧w.heap.size≤g∧w'.heap[b]?=some (.cells (cs.setIfInBounds 3 (.slice (some ⟨g,0,none⟩) 65536 65536)) T (0,0))∧aV w.heap.size (fun k=>k=b) w w'
theorem fill_any (b:Nat) (cs:Array Value) (T:TypeId) (w:World) (N:w.heap[b]?=some (.cells cs T (0,0))) (h4:3<cs.size) :
 Cl 188 #[.pointer (some ⟨b,0,none⟩)] w fun e w'=>e=.returned (.tuple #[])∧aPz b cs T w w':=by
 obtain ⟨w1,a4,an,ao,bk⟩:=mY (f:=cK) (z:=0) Tryz.underlying114 info_u64 (by omega) rfl 65536 (by omega) w;have aw:(Instr.makeSlice 114 (.int .i64 65536) (.int .i64 65536)).run Tryz.prog w=.ok (.slice (some ⟨w.heap.size,0,none⟩) 65536 65536) w1:=a4;obtain ⟨g,hg⟩:=eX w.heap.size;rw [hg] at aw an bk;have bc:b<w.heap.size:=(Array.getElem?_eq_some_iff.1 N).1;have Y:=aG ao N;obtain ⟨v3,a6⟩:∃v,cs[3]?=some v:=⟨_,Array.getElem?_eq_getElem h4⟩
 have aj:w1.cell? ⟨b,3,none⟩=some v3:=(aA Y 3).trans a6;have ak:=bD Y 3;obtain ⟨w2,af⟩:=eX (w1.setCell ⟨b,3,none⟩ (.slice (some ⟨g,0,none⟩) 65536 65536));have Z:Hid (w2.heap[b]?=some (.cells (cs.setIfInBounds 3 (.slice (some ⟨g,0,none⟩) 65536 65536)) T (0,0))):=q_ (af▸bP Y 3 _);have O:dX cK 25 w2 g (List.replicate 65536 0):=by
  rw [←af];exact (Below.heap_setCell _ _ _ g (by show g≠b;omega)).trans an
 have ax:aV g (fun k=>k=b) w w1:=bT ao (by omega);have ay:Hid (aV g (fun k=>k=b) w w2):=q_ (af▸uA (p:=⟨b,3,none⟩) ax rfl _);obtain ⟨ap,U⟩:∃x,cs.setIfInBounds 3 (.slice (some ⟨g,0,none⟩) 65536 65536)=x:=⟨_,rfl⟩
 have az:Hid (ap[3]?=some (.slice (some ⟨g,0,none⟩) 65536 65536)):=q_ (by rw [←U];simp [h4]);obtain ⟨a7,aq⟩:∃xs:List Nat,List.replicate 65536 0=xs:=⟨_,rfl⟩
 have a0:a7.length=65536:=by rw [←aq];exact List.length_replicate
 rw [U] at Z;rw [aq] at O;have bd:(w2.cell? ⟨b,3,none⟩)=some (.slice (some ⟨g,0,none⟩) 65536 65536):=(aA Z 3).trans az;have bn:b<g:=by omega
 unfold aPz;rw [hg];clear a4 aq Y N bc an ao h4 ax a6;replace U:=q_ U;replace O:=q_ O;go_enter Tryz.func188,Tryz.ntmps188;go_upto_region 1 with fail
 clear aw aj ak af;go_wp2_with fail
 clear bd;go_loopw [2,12] (fun _ iv wr=>∃(i:Nat) (xs:List Nat),i≤65536∧iv=.int .i64 (i:Int)∧xs.length=65536∧(∀j,j<i→xs[j]?=some (xB j))∧dX cK 25 wr g xs∧wr.heap[b]?=some (.cells ap T (0,0))∧aV g (fun k=>k=b) w wr) (fun _ iv _=>65536 - (intOf iv).toNat)
 case atStart=>exact ⟨0,a7,by omega,rfl,a0,fun j hj=>absurd hj (by omega),O,Z,ay⟩
 case round =>
  obtain ⟨i,xs,hi,rfl,a8,W,A,E,G⟩:=hrel;clear O Z ay a0;by_cases bm:i<65536
  ·have bo:(i:Int)<65536:=by omega
   have be:=wI i (by omega);have bp:IntKind.u64.wrap (i:Int)=(i:Int):=fU _ (by omega) (by omega);have bf:IntKind.u64.wrap ((i:Int)+1)=((i+1:Nat):Int):=by rw [fU _ (by omega) (by omega)];omega
   have q1:=q_ (fun l:Later wr=>(log_any (i+1) (by omega) (by omega) l.w).mono fun e w' h=>(⟨h.1,h.2▸Below.refl _ _⟩:e=.returned (.int .u64 (logN (i+1):Int))∧Below l.w.heap.size l.w w'));have bg:=tab_wrap i bm;obtain ⟨L,hL⟩:∃L,logN (i+1)=L:=⟨_,rfl⟩
   rw [hL] at q1 bg;have bh:=A.lt;have a1:b<wr.heap.size:=by omega
   have lb:=fun l:Later wr=>(aA (aC l.hb a1 E) 3).trans az
   have ab:∀j,j<i+1→(xs.set i (xB i))[j]?=some (xB j):=by
    intro j hj;rw [List.getElem?_set];by_cases e:i=j
    ·subst e;rw [if_pos rfl,if_pos (by omega)]
    ·rw [if_neg e];exact W j (by omega)
   have a2:xs[i]?=some xs[i]:=List.getElem?_eq_getElem (by omega);clear W hL;obtain ⟨I,V⟩:∃k,i+1=k:=⟨_,rfl⟩
   rw [V] at be bf q1 ab;have ei:(i:Int)+1=(I:Int):=by omega
   have wj:IntKind.i64.wrap (I:Int)=(I:Int):=aU _ (by omega) (by omega);have bs:IntKind.u64.wrap (I:Int)=(I:Int):=fU _ (by omega) (by omega);replace A:=q_ A;replace E:=q_ E;replace G:=q_ G;replace ab:=q_ ab;replace V:=q_ V;go_upto_region 4 with fail
   refine rL ?_;refine eS 0 11 1 ?_;simp only [dA,dC,dD];iterate 8 refine qE ?_
   (refine aD (fun K hK=>?_);go_simp;apply Exists.intro;refine ⟨fun l=>?_,hK _ ?_⟩;(go_at_call 192;refine (q1 l).mono ?_;rintro e w' ⟨rfl,N⟩;exact ⟨rfl,N⟩);clear hK K)
   iterate 2 refine qE ?_
   refine aT ?_;refine eE fun X=>?_;have ac:=A.below X.hb bh;have aj:=ac.cell a2;have ak:=ac.free i;have a3:=aC X.hb a1 E;have J:=eQ _ _ _ _ _ G (bT X.hb (by omega));obtain ⟨w5,ag⟩:=eX (X.w.setCell ⟨g,i,none⟩ (.int .u64 (xB i:Int)));have bj:Hid (dX cK 25 w5 g (xs.set i (xB i))):=q_ (ag▸ac.set i (xB i));have al:w5.heap[b]?=some (.cells ap T (0,0)):=by
    rw [←ag];exact (Below.heap_setCell _ _ _ b (by show b≠g;omega)).trans a3
   have am:aV g (fun k=>k=b) w w5:=by
    rw [←ag];exact ⟨J.os,J.tape,J.output,by have:=J.size;simpa using this,fun k h1 h2=>(Below.heap_setCell _ _ _ k (by show k≠g;omega)).trans (J.block k h1 h2)⟩
   clear lb q1 A E G ac a3 J a2;replace al:=q_ al;replace am:=q_ am;refine tM 11 rfl ?_;refine tD ?_;clear aj ak ag;go_wp2_with fail
   exact ⟨⟨I,xs.set i (xB i),by have:=V.out;omega,by first|rfl|go_num,by rw [List.length_set];exact a8,ab,bj,al,am⟩,by simp only [intOf];have:=V.out;omega⟩
  ·obtain rfl:i=65536:=by omega
   replace W:=q_ W;replace A:=q_ A;replace E:=q_ E;replace G:=q_ G;go_wp2_with fail
   go_end0;exact ⟨rfl,g,xs,⟨a8,W⟩,A,Nat.le_refl _,by rw [U.out];exact E,G⟩
theorem disable (w:World):(callFunc 203 #[]).run Tryz.prog w=.ok (.value (.tuple #[])) w:=run_call_mark0 Tryz.func203 (by kernel_rfl) (by kernel_rfl) (by kernel_rfl) .disable (by kernel_rfl) w
theorem enable (w:World):(callFunc 205 #[]).run Tryz.prog w=.ok (.value (.tuple #[])) w:=run_call_mark0 Tryz.func205 (by kernel_rfl) (by kernel_rfl) (by kernel_rfl) .enable (by kernel_rfl) w
theorem acquire (a:Addr) (w:World):(callFunc 206 #[.pointer (some a)]).run Tryz.prog w=.ok (.value (.tuple #[])) w:=run_call_marked Tryz.func206 (by kernel_rfl) (by kernel_rfl) (by kernel_rfl) .acquire (by kernel_rfl) a w
theorem releaseMerge (a:Addr) (w:World):(callFunc 208 #[.pointer (some a)]).run Tryz.prog w=.ok (.value (.tuple #[])) w:=run_call_marked Tryz.func208 (by kernel_rfl) (by kernel_rfl) (by kernel_rfl) .releaseMerge (by kernel_rfl) a w
theorem aJt (a:Addr) (x:Value) (u:FrameMode) (w:World) (A:w.cell? a=some x) (E:w.frozen? a=false) :
 CallsD Tryz.prog 197 #[.pointer (some a),.bool true] u w fun e j w'=>j=u∧(e=.returned (.tuple #[])∧w'=w.drew.setCell a (.int .u32 1)):=by
 have hc':w.drew.cell? a=some x:=by go_simp
 have hz':w.drew.frozen? a=false:=by go_simp
 have G:=run_call_store (P:=Tryz.prog) Tryz.func201 (by kernel_rfl) (by kernel_rfl) (by kernel_rfl) (by kernel_rfl) (k:=.u32) (y:=1) hc' hz';go_enter_d Tryz.func197,Tryz.ntmps197;go_wp2;go_region_calls
 all_goals (go_end0;exact ⟨rfl,rfl⟩)
theorem unlock_deferred (a:Addr) (u:FrameMode) (w:World) (j:w.cell? a=some (.int .i32 1)) (A:w.frozen? a=false) :
 CallsD Tryz.prog 196 #[.pointer (some a)] u w fun e E w'=>E=u∧(e=.returned (.tuple #[])∧w'=w.setCell a (.int .i32 0)):=by
 have G:=disable;have I:=enable;have J:=releaseMerge;have L:=run_call_add (P:=Tryz.prog) Tryz.func209 (by kernel_rfl) (by kernel_rfl) (by kernel_rfl) .i32 (by kernel_rfl) (y:=-1) (s:=0) j A (by simp [go_sem]<;>rfl);have N:=run_convert_to_unsafe (P:=Tryz.prog) (src:=325) (dst:=329) Tryz.underlying325 Tryz.underlying329 (by kernel_rfl) j;go_enter_d Tryz.func196,Tryz.ntmps196;go_wp2;go_end0;go_wp2;all_goals (go_end0;exact ⟨rfl,rfl⟩)
theorem lock_free (a:Addr) (w:World) (j:w.cell? a=some (.int .i32 0)) (A:w.frozen? a=false) :
 Cl 195 #[.pointer (some a)] w fun e w'=>e=.returned (.tuple #[])∧w'=w.setCell a (.int .i32 1):=by
 have E:=disable;have G:=enable;have I:=acquire;have J:=run_call_cas_hit (P:=Tryz.prog) Tryz.func204 (by kernel_rfl) (by kernel_rfl) (by kernel_rfl) .i32 (by kernel_rfl) (y:=1) j A;have hc':(w.setCell a (.int .i32 1)).cell? a=some (.int .i32 1):=World.cell?_setCell_same w a _ j;have L:=run_convert_to_unsafe (P:=Tryz.prog) (src:=325) (dst:=329) Tryz.underlying325 Tryz.underlying329 (by kernel_rfl) hc';go_enter Tryz.func195,Tryz.ntmps195;go_wp2
 first|go_end0|(simp only [Exit.inBlock,Exit.then];refine bodyPost_ret (results_none rfl _ _ _) rfl ?_)|refine bodyPost_ret (results_none rfl _ _ _) rfl ?_
 go_wp2;all_goals (go_end0;exact ⟨rfl,rfl⟩)
theorem aDu (a:Addr) (x:Int) (w:World) (j:w.cell? a=some (.int .u32 x)):Cl 190 #[.pointer (some a)] w fun e w'=>e=.returned (.bool (x != 0))∧w=w':=by
 have A:=run_call_load (P:=Tryz.prog) Tryz.func194 (by kernel_rfl) (by kernel_rfl) (by kernel_rfl) .u32 (by kernel_rfl) (w:=w) (a:=a) (x:=x) j;go_enter Tryz.func190,Tryz.ntmps190;go_wp2;go_ret;exact ⟨rfl,rfl⟩
def DoEnd (b:Nat) (cs:Array Value) (T:TypeId) (w w':World):Prop :=
 ∃g xs,IsTab xs∧dX cK 25 w' g xs∧w.heap.size≤g∧w'.heap[b]?=some (.cells (((((cs.setIfInBounds 1 (.int .i32 1)).setIfInBounds 3 (.slice (some ⟨g,0,none⟩) 65536 65536)).setIfInBounds 0 (.int .u32 1))).setIfInBounds 1 (.int .i32 0)) T (0,0))∧aV w.heap.size (fun k=>k=b) w w'
theorem slow_any (b:Nat) (cs:Array Value) (T:TypeId) (w:World) (G:w.heap[b]?=some (.cells cs T (0,0))) (Z:3<cs.size) (N:cs[0]?=some (.int .u32 0)) (c1:cs[1]?=some (.int .i32 0)) :
 Cl 191 #[.pointer (some ⟨b,0,none⟩),.func (.func 188) #[.pointer (some ⟨b,0,none⟩)] #[]] w fun e w'=>e=.returned (.tuple #[])∧DoEnd b cs T w w':=by
 obtain ⟨A,I⟩:=eX (w.setCell ⟨b,1,none⟩ (.int .i32 1));have ab:aV w.heap.size (fun k=>k=b) w w:=gQ _ _ w;have ac:aV w.heap.size (fun k=>k=b) w A:=I▸uA (p:=⟨b,1,none⟩) ab rfl _;have O:A.heap[b]?=some (.cells (cs.setIfInBounds 1 (.int .i32 1)) T (0,0)):=I▸bP G 1 _;have U:w.cell? ⟨b,1,none⟩=some (.int .i32 0):=(aA G 1).trans c1;have V:=bD G 1;have W:A.cell? ⟨b,0,none⟩=some (.int .u32 0):=by rw [aA O 0,Array.getElem?_setIfInBounds];exact N
 have hl:=aDu ⟨b,0,none⟩ 0 A W;have aq:∀(x:Bool) (w:World),(Op.unary .not (.bool x)).run Tryz.prog w=.ok (.bool (!x)) w:=fun _ _=>rfl
 have X:=lock_free ⟨b,1,none⟩ w U V;rw [I] at X;have ae:=fill_any b _ T A O (by simpa using Z);go_enter_defers Tryz.func191,Tryz.ntmps191;have ar:=(Array.getElem?_eq_some_iff.1 G).1;have af:A.heap.size=w.heap.size:=by rw [←I];simp
 clear W U V;go_wp2_with fail
 refine X.mono ?_;rintro e w' ⟨rfl,rfl⟩;go_wp2_with fail
 refine hl.mono ?_;rintro e w' ⟨rfl,rfl⟩;go_wp2_with fail
 refine ae.mono ?_;rintro e j ⟨rfl,g,xs,al,hr,hg,L,an⟩;go_wp2_with fail
 have e0:j.cell? ⟨b,0,none⟩=some (.int .u32 0):=by
  rw [aA L 0,Array.getElem?_setIfInBounds,if_neg (by decide),Array.getElem?_setIfInBounds,if_neg (by decide)];exact N
 have f0:=bD L 0;have J:(j.drew.setCell ⟨b,0,none⟩ (.int .u32 1)).heap[b]?=some (.cells (((cs.setIfInBounds 1 (.int .i32 1)).setIfInBounds 3 (.slice (some ⟨g,0,none⟩) 65536 65536)).setIfInBounds 0 (.int .u32 1)) T (0,0)):=bP (w:=j.drew) L 0 _;refine leaves_cons (f:=197) (args:=#[.pointer (some ⟨b,0,none⟩),.bool true]) (by simp) (by simp [go_sem]) ?_;refine (aJt ⟨b,0,none⟩ (.int .u32 0) .returning _ e0 (by simpa using f0)).mono ?_;rintro e u' ap ⟨rfl,rfl,rfl⟩;refine leaves_cons (f:=196) (args:=#[.pointer (some ⟨b,1,none⟩)]) (by simp [settle]) (by simp [go_sem]) ?_;refine (unlock_deferred ⟨b,1,none⟩ _ _ ?_ (bD J 1)).mono ?_
 ·rw [aA J 1,Array.getElem?_setIfInBounds,if_neg (by decide),Array.getElem?_setIfInBounds,if_neg (by decide),Array.getElem?_setIfInBounds,if_pos rfl,if_pos (by omega)]
 rintro e u' ap ⟨rfl,rfl,rfl⟩;have Y:g≠b:=by omega
 have ai:dX cK 25 ((j.drew.setCell ⟨b,0,none⟩ (.int .u32 1)).setCell ⟨b,1,none⟩ (.int .i32 0)) g xs:=((Below.heap_setCell _ _ _ g Y).trans (Below.heap_setCell _ _ _ g Y)).trans hr;have E:aV w.heap.size (fun k=>k=b) w j:=eQ _ _ _ _ _ ac (by rw [←af];exact an);have aj:aV w.heap.size (fun k=>k=b) w j.drew:=⟨E.os,E.tape,E.output,E.size,E.block⟩
 have ak:DoEnd b cs T w ((j.drew.setCell ⟨b,0,none⟩ (.int .u32 1)).setCell ⟨b,1,none⟩ (.int .i32 0)):=⟨g,xs,al,ai,by omega,bP J 1 _,uA (p:=⟨b,1,none⟩) (uA (p:=⟨b,0,none⟩) aj rfl _) rfl _⟩
 simp [Leaves,settle,results,Tryz.results191];exact ak
theorem do_first (b:Nat) (cs:Array Value) (T:TypeId) (w:World) (A:w.heap[b]?=some (.cells cs T (0,0))) (G:3<cs.size) (E:cs[0]?=some (.int .u32 0)) (I:cs[1]?=some (.int .i32 0)) :
 Cl 187 #[.pointer (some ⟨b,0,none⟩),.func (.func 188) #[.pointer (some ⟨b,0,none⟩)] #[]] w fun e w'=>e=.returned (.tuple #[])∧DoEnd b cs T w w':=by
 have J:=q_ (aDu ⟨b,0,none⟩ 0 w ((aA A 0).trans E));have L:=q_ (slow_any b cs T w A G E I);go_enter Tryz.func187,Tryz.ntmps187;go_wp2_with fail
 refine J.mono ?_;rintro e w' ⟨rfl,rfl⟩;go_wp2_with fail
 refine L.mono ?_;rintro e w' ⟨rfl,j⟩;replace j:=q_ j;go_wp2_with fail
 go_end0;exact ⟨rfl,j⟩
theorem do_done (b:Nat) (cs:Array Value) (T:TypeId) (j:Value) (w:World) (A:w.heap[b]?=some (.cells cs T (0,0))) (E:cs[0]?=some (.int .u32 1)) :
 Cl 187 #[.pointer (some ⟨b,0,none⟩),j] w fun e w'=>e=.returned (.tuple #[])∧w'=w:=by
 have G:=q_ (aDu ⟨b,0,none⟩ 1 w ((aA A 0).trans E));go_enter Tryz.func187,Tryz.ntmps187;go_wp2_with fail
 refine G.mono ?_;rintro e w' ⟨rfl,rfl⟩;go_wp2_with fail
 go_end0;exact ⟨rfl,rfl⟩
def gV (w:World) (b:Nat) (f:Int) (sd:Nat):Prop :=
 ∃(dn:Int) (sm lv:Value),w.heap[b]?=some (.cells #[.int .u32 dn,.int .i32 0,sm,lv,.int .i64 f,.int .u64 (sd:Int)] 120 (0,0))∧(dn=0∨(dn=1∧∃g xs,lv=.slice (some ⟨g,0,none⟩) 65536 65536∧IsTab xs∧dX cK 25 w g xs))
theorem gV.lt {w:World} {b:Nat} {f:Int} {sd:Nat} (h:gV w b f sd):b<w.heap.size:=by
 obtain ⟨_,_,_,h,-⟩:=h;exact (Array.getElem?_eq_some_iff.1 h).1
theorem gV.on {w w':World} {b:Nat} {f:Int} {sd:Nat} (h:gV w b f sd) (A:Below w.heap.size w w'):gV w' b f sd:=by
 obtain ⟨E,G,I,h,j⟩:=h;refine ⟨E,G,I,aG A h,?_⟩;rcases j with j|⟨j,g,xs,J,L,N⟩
 ·exact .inl j
 ·exact .inr ⟨j,g,xs,J,L,N.on A⟩
abbrev bJ (b:Nat) (f:Int) (sd:Nat) (w w':World):Prop:=gV w' b f sd∧aV w.heap.size (fun k=>k=b) w w'
theorem bJ.refl {w:World} {b:Nat} {f:Int} {sd:Nat} (h:gV w b f sd):bJ b f sd w w:=⟨h,gQ _ _ _⟩
theorem bJ.trans {w E G:World} {b:Nat} {f:Int} {sd:Nat} (j:bJ b f sd w E) (A:bJ b f sd E G):bJ b f sd w G :=
 ⟨A.1,A.2.os.trans j.2.os,A.2.tape.trans j.2.tape,A.2.output.trans j.2.output,Nat.le_trans j.2.size A.2.size,fun k I J=>(A.2.block k (Nat.lt_of_lt_of_le I j.2.size) J).trans (j.2.block k I J)⟩
theorem bJ.quiet {w j A:World} {b:Nat} {f:Int} {sd:Nat} (E:bJ b f sd w j) (G:Below j.heap.size j A):bJ b f sd w A:=E.trans ⟨E.1.on G,bT G (Nat.le_refl _)⟩
theorem aPc (b:Nat) (f:Int) (sd d:Nat) (h1:1≤d) (h2:d≤65536) (w:World) (h:gV w b f sd) :
 Cl 182 #[.pointer (some ⟨b,0,none⟩),.int .i64 (d:Int)] w fun e w'=>e=.returned (.int .u64 (xB (d - 1):Int))∧bJ b f sd w w':=by
 obtain ⟨dn,O,lv,J,hd⟩:=h;have e1:max (d:Int) 1=(d:Int):=by omega
 have e2:min (d:Int) 65536=(d:Int):=by omega
 obtain ⟨i,V⟩:∃i,d - 1=i:=⟨_,rfl⟩
 have e3:IntKind.i64.wrap ((d:Int) - 1)=(i:Int):=by rw [aU _ (by omega) (by omega)];omega
 have ai:(i:Int)<65536:=by omega
 have U:i<65536:=by omega
 have ei:(d:Int) - 1=(i:Int):=by omega
 have wi:IntKind.i64.wrap (i:Int)=(i:Int):=aU _ (by omega) (by omega);rw [V];clear V;have I:∀j,(∃g xs,j.heap[b]?=some (.cells #[.int .u32 1,.int .i32 0,O,.slice (some ⟨g,0,none⟩) 65536 65536,.int .i64 f,.int .u64 (sd:Int)] 120 (0,0))∧IsTab xs∧dX cK 25 j g xs)→gV j b f sd:=fun j ⟨g,xs,a1,a2,a3⟩=>⟨1,O,_,a1,.inr ⟨rfl,g,xs,rfl,a2,a3⟩⟩
 rcases hd with rfl|⟨rfl,g,xs,rfl,E,G⟩
 ·have A:=do_first b _ _ w J (by simp) rfl rfl;unfold DoEnd at A;replace A:=q_ A;replace I:=q_ I;go_enter Tryz.func182,Tryz.ntmps182;go_wp2_with fail
  refine A.mono ?_;rintro e j ⟨rfl,g,xs,E,G,hg,W,X⟩;have L:j.heap[b]?=some (.cells #[.int .u32 1,.int .i32 0,O,.slice (some ⟨g,0,none⟩) 65536 65536,.int .i64 f,.int .u64 (sd:Int)] 120 (0,0)):=W;have N:Hid (bJ b f sd w j):=q_ (⟨I j ⟨g,xs,L,E,G⟩,X⟩);have Z:=aA L 3;have ct:=G.cell (E.2 i U);clear W L G E J A I X hg;go_wp2_with fail
  go_ret;exact ⟨rfl,N⟩
 ·have A:=fun Y=>do_done b _ _ Y w J rfl
  have N:Hid (bJ b f sd w w):=q_ (⟨I w ⟨g,xs,J,E,G⟩,gQ _ _ _⟩);have Z:=aA J 3;have ct:=G.cell (E.2 i U);clear G E I J;replace A:=q_ A;go_enter Tryz.func182,Tryz.ntmps182;go_wp2_with fail
  refine (A _).mono ?_;rintro e j ⟨rfl,rfl⟩;go_wp2_with fail
  go_ret;exact ⟨rfl,N⟩
end Go.Proofs.YtpcifakangbpaaaGreat
