/- Parts of the proof of PathOpens: contracts of functions of the program. No condition but those that each theorem names. -/
import Derived.Test.YtpcifakangbpaaaGreatProg
import Derived.BigQuiet
import Derived.Deep.LoopGhost
import Derived.Deep.Slices
import Derived.Laws.CopyOwn
import Derived.Maps.AppendAt
import Derived.OpenShut
import Derived.OrdersHeld
import Derived.ProofKit
import Derived.ShutString
import Derived.WalkLawsBesides
set_option linter.unusedVariables false
set_option linter.unusedSimpArgs false
set_option maxRecDepth 100000
set_option maxHeartbeats 16000000
namespace Go.Proofs.YtpcifakangbpaaaGreat
open Go.RowKit Go.ChangeShapes Go.WideShapes Go.ChangeAt Go.Deep Go.Proofs.Tryz
variable {R xs:List UInt8}{B E J N O S V b base' c f fuel g i j k m n s sd sz:Nat}{Q:Exit->Act->World->Prop}{d w' w0:World}{u v z:Value}{T e t:TypeId}{A:Option Addr}{h os:List Nat}{F:List UInt8->Option Nat}{p:List Nat×List Bool}{a:Act}{α:Type}{H l:List Int}{o:Oper}{G:Array Oper}{K:Act->World->Prop}{y:Array Value}{vs:List Value}{L:List Oper}{I:Bool}{U W Y aa:List (Int×List UInt8)}{P:Program}
set_option linter.defProp false
abbrev aWa:=@wp_region_lit
abbrev aXa:=@List.getElem?_eq_getElem
abbrev aYa:=@bodyPost_ret
abbrev aZa:=@Nat.le_refl
abbrev bAa:=@if_neg
abbrev bBa:=@if_pos
abbrev bCa:=@wpList_nil
abbrev bDa:=@beq_eq_false_iff_ne
abbrev bEa:=@decide_eq_false_iff_not
abbrev bFa:=@Option.some.inj
abbrev bGa:=@List.length_take
abbrev bHa:=@List.length_append
abbrev bJa:=@Nat.le_trans
abbrev bKa:=@Nat.lt_of_lt_of_le
abbrev bLa:=@Below.refl
abbrev bMa:=@Int.toNat_natCast
abbrev bNa:=@List.length_map
abbrev bPa:=@List.mem_of_getElem?
abbrev bQa:=@Array.size_setIfInBounds
abbrev bRa:=@wpList_plain
abbrev bSa:=@Exists.intro
abbrev bTa:=@List.getD_eq_getElem?_getD
abbrev bUa:=@Array.length_toList
abbrev bVa:=@List.not_mem_nil
abbrev bWa:=@decide_eq_false
abbrev bXa:=@List.mem_cons
abbrev bYa:=@decide_eq_true
abbrev bZa:=@List.take_of_length_le
abbrev cAa:=@Nat.le_of_lt
abbrev cBa:=@decide_eq_true_eq
abbrev cCa:=@List.length_drop
abbrev cDa:=@World.ownsRow.kept
abbrev cEa:=@List.getElem?_append_left
abbrev cFa:=@List.length_set
abbrev cGa:=@UInt8.toNat_ofNat'
abbrev cHa:=@of_decide_eq_true
abbrev cJa:=@List.getElem?_append_right
abbrev cKa:=@World.ownsRow_nil
abbrev cLa:=@Below.heap_setCell
abbrev cMa:=@underlying48
abbrev cNa:=@Nat.add_zero
abbrev cPa:=@Array.getElem?_setIfInBounds_ne
abbrev cQa:=@List.getElem?_set_ne
abbrev cRa:=@underlying46
abbrev cSa:=@List.take_succ_cons
abbrev cTa:=@IntKind.wrap_u64
abbrev cUa:=@of_decide_eq_false
abbrev cVa:=@List.nil_append
abbrev cWa:=@List.map_append
abbrev cXa:=@underlying54
abbrev cYa:=@World.ownsRow.lt
abbrev cZa:=@List.length_singleton
abbrev dAa:=@List.getElem?_set_self
abbrev dBa:=@List.drop_succ_cons
abbrev dCa:=@List.length_replicate
abbrev dDa:=@List.drop_zero
abbrev dEa:=@Nat.zero_le
abbrev dFa:=@World.cell?_of_block
abbrev dGa:=@Nat.mul_le_mul_right
abbrev dHa:=@List.take_append_drop
abbrev dJa:=@Array.getElem?_setIfInBounds_self_of_lt
abbrev dKa:=@List.getElem?_take_of_lt
abbrev dLa:=@bne_iff_ne
abbrev dMa:=@List.take_add_one
abbrev dNa:=@Result.andThen_ok
abbrev dPa:=@Nat.mod_eq_of_lt
abbrev dQa:=@bne_eq_false_iff_eq
abbrev dRa:=@underlying31
abbrev dSa:=@underlying27
abbrev dTa:=@or_false
abbrev dUa:=@World.block_lt_of_cell?
abbrev dVa:=@List.take_zero
abbrev dWa:=@Nat.zero_add
abbrev dXa:=@Array.getElem?_eq_getElem
abbrev dYa:=@List.nodup_append
abbrev dZa:=@List.mem_singleton
abbrev eAa:=@Bool.false_eq_true
abbrev eBa:=@List.getElem_map
abbrev eCa:=@List.map_cons
abbrev eDa:=@List.append_assoc
abbrev eEa:=@Bool.and_eq_true
abbrev eFa:=@List.length_cons
abbrev eGa:=@List.eq_nil_of_length_eq_zero
abbrev eHa:=@List.nodup_cons
abbrev eJa:=@List.getElem?_drop
abbrev eKa:=@Nat.mod_lt
abbrev eLa:=@List.drop_of_length_le
abbrev eMa:=@Nat.lt_or_ge
abbrev eNa:=@List.cons_append
abbrev ePa:=@List.append_nil
abbrev eQa:=@Option.map_some
abbrev eRa:=@decide_eq_true_iff
abbrev eSa:=@List.append_of_mem
abbrev eTa:=@List.length_filter_le
abbrev eUa:=@Int.tmod_eq_emod_of_nonneg
abbrev eVa:=@Nat.add_assoc
abbrev eWa:=@List.take_append_of_le_length
abbrev eXa:=@underlying64
abbrev eYa:=@List.mem_of_mem_take
abbrev eZa:=@Array.getElem?_eq_none
abbrev fAa:=@Array.getElem?_setIfInBounds
abbrev fBa:=@List.take_succ_eq_append_getElem
abbrev fCa:=@Nat.min_eq_left
abbrev fDa:=@List.take_length
abbrev fEa:=@IntKind.wrap_i64
abbrev fFa:=@congrArg
abbrev fGa:=@List.getElem?_map
abbrev fHa:=@Sem.run_pure
abbrev fJa:=@Sem.run_bind
abbrev fKa:=@beq_iff_eq
abbrev fLa:=@List.findIdx?_eq_none_iff
abbrev fMa:=@List.drop_eq_getElem_cons
abbrev fNa:=@List.getElem_mem
abbrev fPa:=@List.length_range
abbrev fQa:=@List.findIdx?_eq_some_iff_getElem
abbrev fRa:=@Nat.eq_zero_or_pos
abbrev fSa:=@Nat.add_sub_cancel_left
abbrev fTa:=@World.size_alloc
abbrev fUa:=@List.mem_or_eq_of_mem_set
abbrev fVa:=@Ne.symm
abbrev fWa:=@underlying52
abbrev fXa:=@Act.put_comm
abbrev fYa:=@List.cons.injEq
abbrev fZa:=@List.getElem?_eq_none
abbrev gAa:=@List.getElem?_take
abbrev gBa:=@Nat.pow_le_pow_right
abbrev gCa:=@Bool.eq_iff_iff
abbrev gDa:=@Nat.not_lt_zero
abbrev gEa:=@Nat.two_pow_add_eq_or_of_lt
abbrev gFa:=@Int.tdiv_eq_ediv_of_nonneg
abbrev gGa:=@underlying43
abbrev gHa:=@List.map_nil
abbrev gJa:=@results_none
abbrev gKa:=@List.getElem?_toArray
abbrev gLa:=@DataW.trod_int
abbrev gMa:=@Classical.byContradiction
abbrev gNa:=@List.mem_append
abbrev gPa:=@List.foldl_cons
abbrev gQa:=@Option.some.injEq
abbrev gRa:=@List.getElem_take
abbrev gSa:=@List.flatten_cons
abbrev gTa:=@Array.setIfInBounds_comm
abbrev gUa:=@Nat.pow_succ
abbrev gVa:=@Nat.add_mul
abbrev gWa:=@Bool.true_and
abbrev gXa:=@List.getElem?_range
abbrev gYa:=@List.drop_append_of_le_length
abbrev gZa:=@info_parts
abbrev hAa:=@Nat.mul_comm
abbrev hCa:=@underlying66
abbrev hDa:=@underlying30
abbrev hFa:=@underlying25
abbrev hGa:=@Array.getElem?_toList
abbrev hHa:=@Bool.false_or
abbrev hJa:=@Below.setCell
abbrev hLa:=@List.foldl_append
abbrev hMa:=@Bool.or_eq_false_iff
abbrev hNa:=@List.take_take
abbrev hPa:=@Nat.mul_le_mul
abbrev hQa:=@Option.getD_some
abbrev hRa:=@Below.heap_alloc
abbrev hSa:=@wpList_step
abbrev hTa:=@underlying3
abbrev hUa:=@List.flatMap_append
abbrev hVa:=@results151
abbrev hXa:=@ready_mono
abbrev hYa:=@if_false
abbrev hZa:=@List.length_nil
abbrev jAa:=@Prod.mk.injEq
abbrev jBa:=@Nat.mod_add_mod
abbrev jCa:=@Nat.div_le_self
abbrev jDa:=@List.filter_append
abbrev jEa:=@if_true
abbrev jFa:=@List.flatMap_cons
abbrev jGa:=@results76
abbrev jHa:=@Bool.not_true
abbrev jJa:=@World.ownsRow.alloc
abbrev jKa:=@List.all_eq_true
abbrev jLa:=@List.drop_append
abbrev jMa:=@List.any_eq_true
theorem hide{p:Prop}(h:p):Hid p:=h
theorem bC{w:World}{o:Obj}:Below w.heap.size w (w.alloc o):=(bLa _ _).alloc (aZa _) _
theorem q_2{j A:Prop}(E:j)(G:A):Hid j/\Hid A:=⟨E,G⟩
theorem q_3{j A E:Prop}(G:j)(I:A)(J:E):Hid j/\Hid A/\Hid E:=⟨G,I,J⟩
theorem q_4{j A E G:Prop}(I:j)(J:A)(L:E)(N:G):Hid j/\Hid A/\Hid E/\Hid G:=⟨I,J,L,N⟩
theorem q_5{j A E G I:Prop}(J:j)(L:A)(N:E)(O:G)(U:I):Hid j/\Hid A/\Hid E/\Hid G/\Hid I:=⟨J,L,N,O,U⟩
theorem q_6{j A E G I J:Prop}(L:j)(N:A)(O:E)(U:G)(V:I)(W:J):Hid j/\Hid A/\Hid E/\Hid G/\Hid I/\Hid J:=⟨L,N,O,U,V,W⟩
theorem q_7{j A E G I J L:Prop}(N:j)(O:A)(U:E)(V:G)(W:I)(X:J)(Y:L):Hid j/\Hid A/\Hid E/\Hid G/\Hid I/\Hid J/\Hid L:=⟨N,O,U,V,W,X,Y⟩
theorem q_8{j A E G I J L N:Prop}(O:j)(U:A)(V:E)(W:G)(X:I)(Y:J)(Z:L)(h7:N):Hid j/\Hid A/\Hid E/\Hid G/\Hid I/\Hid J/\Hid L/\Hid N:=⟨O,U,V,W,X,Y,Z,h7⟩
theorem q_9{j A E G I J L N O:Prop}(U:j)(V:A)(W:E)(X:G)(Y:I)(Z:J)(h6:L)(h7:N)(h8:O):Hid j/\Hid A/\Hid E/\Hid G/\Hid I/\Hid J/\Hid L/\Hid N/\Hid O:=⟨U,V,W,X,Y,Z,h6,h7,h8⟩
theorem q_10{j A E G I J L N O U:Prop}(V:j)(W:A)(X:E)(Y:G)(Z:I)(h5:J)(h6:L)(h7:N)(h8:O)(h9:U):Hid j/\Hid A/\Hid E/\Hid G/\Hid I/\Hid J/\Hid L/\Hid N/\Hid O/\Hid U:=⟨V,W,X,Y,Z,h5,h6,h7,h8,h9⟩
theorem q_11{j A E G I J L N O U V:Prop}(W:j)(X:A)(Y:E)(Z:G)(h4:I)(h5:J)(h6:L)(h7:N)(h8:O)(h9:U)(ag:V):Hid j/\Hid A/\Hid E/\Hid G/\Hid I/\Hid J/\Hid L/\Hid N/\Hid O/\Hid U/\Hid V:=⟨W,X,Y,Z,h4,h5,h6,h7,h8,h9,ag⟩
theorem q_12{j A E G I J L N O U V W:Prop}(X:j)(Y:A)(Z:E)(h3:G)(h4:I)(h5:J)(h6:L)(h7:N)(h8:O)(h9:U)(ah:V)(ai:W):Hid j/\Hid A/\Hid E/\Hid G/\Hid I/\Hid J/\Hid L/\Hid N/\Hid O/\Hid U/\Hid V/\Hid W:=⟨X,Y,Z,h3,h4,h5,h6,h7,h8,h9,ah,ai⟩
theorem tw{C:Nat}{a b c:World}(h:Below B a b)(k:Below C b c)(e:B<=C:=by omega):Below B a c:=h.trans (k.mono e)
abbrev Cl:=@Calls prog
theorem pS{P:Program}{A:Array Oper}{rest:List Oper}{b:Act}{w v:World}(h:wpList P A Q rest b v)(e:∀K:Act->World->Prop,K b v->o.wp P a w K Q:=by intro K j;go_simp;exact j)(E:o.guard=none:=by rfl):wpList P A Q (o :: rest) a w:=bRa E fun K j=>e K (j _ _ h)
theorem q_{p:Prop}(h:p):Hid p:=h
theorem eX(a:α):∃x,a=x:=⟨_,rfl⟩
theorem bA{w v:World}{o:Obj}(h:w.alloc o=v):Below w.heap.size w v:=h▸bC
theorem bN{w v:World}{cs:Array Value}(h:w.alloc (.cells cs t)=v):v.heap[w.heap.size]?=some (.cells cs t (0,0)):=h▸heap_alloc_new w _
structure Later (w0:World) where
 w:World
 hb:Below w0.heap.size w0 w
instance later_nonempty (w0:World):Nonempty (Later w0):=⟨⟨w0,bLa _ _⟩⟩
theorem aRz(w0:World):∃l:Later w0,{ w0 with drawn:=w0.drawn+1 }=l.w:=⟨⟨w0.drew,(bLa _ _).drew⟩,rfl⟩
theorem Later.same(l:Later w0)(h:l.w=w'):∃j:Later w0,w'=j.w:=⟨l,h.symm⟩
theorem Later.cell(l:Later w0){a:Addr}(h:w0.cell? a=some v):l.w.cell? a=some v:=(l.hb.cell (dUa w0 a h)).trans h
theorem xC{P:Program}{id:Nat}{w:World}{l:List Oper}(j:P.follows .mixedOrders=true)(A:Region.lexB .any l.toArray=true)
 (h:wpQuiet P l.toArray (fun w'=>∃x:Later w,w'=x.w) (fun a'=>∀x:Later w,Q .normal a' x.w) l a):(Code.region id l.toArray true).wp P Q a w:=by
 refine wp_region_quiet (C:=fun w'=>∃x:Later w,w'=x.w) j A (aRz w) ?_;have e:(fun a'=>∀w',(∃x:Later w,w'=x.w)->Q .normal a' w')=(fun a'=>∀x:Later w,Q .normal a' x.w):=by
  funext a'
  exact propext ⟨fun h x=>h _ ⟨x,rfl⟩,fun h w' ⟨x,hx⟩=>hx▸h x⟩
 rw[e];simpa using h
theorem aA{w:World}{cs:Array Value}(h:w.heap[g]?=some (.cells cs t (0,0)))(i:Nat):w.cell? ⟨g,i,none⟩=cs[i]?:=cell_of_row w g i cs t (0,0) h
theorem bD{w:World}{cs:Array Value}(h:w.heap[g]?=some (.cells cs t (0,0)))(i:Nat):w.frozen? ⟨g,i,none⟩=false:=by simp[World.frozen?,h]
theorem bP{w:World}{cs:Array Value}(h:w.heap[g]?=some (.cells cs t (0,0)))(i:Nat)(u:Value):(w.setCell ⟨g,i,none⟩ u).heap[g]?=some (.cells (cs.setIfInBounds i u) t (0,0)):=by
 simp[World.setCell,Array.getElem?_modify,h]
theorem aJ(w:World)(t:TypeId)(cs:Array Value):(w.alloc (.cells cs t)).heap[w.heap.size]?=some (.cells cs t (0,0)):=heap_alloc_new w _
theorem kE{w:World}{x:Option Obj}(o:Obj)(j:g<w.heap.size)(h:w.heap[g]?=x):(w.alloc o).heap[g]?=x:=(hRa w o g j).trans h
theorem aC{w:World}{x:Option Obj}(j:Below B w w')(A:g<B)(h:w.heap[g]?=x):w'.heap[g]?=x:=(j.block g A).trans h
theorem kB{w:World}{x:Option Obj}(j:Below B w w')(h:w.heap[g]?=x)(A:g<B:=by omega):w'.heap[g]?=x:=aC j A h
def sQ (P:Program):Nat->TypeId->Nat->Option (List (TypeId×Nat))
 | 0,_,_=>none
 | n+1,t,off =>
  match P.underlying t with
  | some (.struct fs)=>(fs.toList.mapM fun f=>if f.offset+P.cellsOf f.type<=P.cellsOf t then sQ P n f.type (off+f.offset)else none).map List.flatten
  | some (.array k e)=>((List.range k).mapM fun i=>if i*P.cellsOf e+P.cellsOf e<=P.cellsOf t then sQ P n e (off+i*P.cellsOf e)else none).map List.flatten
  | _=>if P.cellsOf t=1 then some [(t,off)]else none
section
variable {H:Type} {enc:TypeId×Value->H} {P:Program} {w:World} {base:Nat} {spare:Nat->Bool} {held:Bool}
theorem aQb(j:List α)(A size o c:Nat)(h:o+c<=size):(((j.drop A).take size).drop o).take c=(j.drop (A+o)).take c:=by
 rw[List.drop_take,hNa,List.drop_drop,fCa (by omega)]
theorem uT(J:List Value):∀(n:Nat) (t:TypeId) (N:Nat) (O:List (TypeId×Nat)) (fuel:Nat) (x:DataW H×List MemPlace),sQ P n t N=some O ->
 DataW.trod enc P w base spare held fuel t ((J.drop N).take (P.cellsOf t))=some x ->
 ∀u i,(u,i)∈O->∃m y,DataW.trod enc P w base spare held m u ((J.drop i).take 1)=some y
 | 0,_,_,_,_,_,h,_=>by simp[sQ]at h
 | n+1,t,N,O,fuel,x,h,ht=>by
  intro u i L;unfold sQ at h;split at h
  .rename_i E Z;obtain⟨U,I,rfl⟩:=Option.map_eq_some_iff.1 h;obtain⟨xs,n',_,_,_,af,V⟩:=DataW.trod_struct Z ht;obtain⟨l,W,X⟩:=List.mem_flatten.1 L;obtain⟨j,Y,rfl⟩:=List.getElem_of_mem W;have ab:U.length=E.size:=(mapM_some_length I).trans (by simp);have ac:j<E.size:=by omega
   have ad:E[j]?=some E[j]:=dXa ac;have A:=mapM_some_get I j E[j] (by simp);rw[aXa Y]at A;split at A
   .rename_i aa;have G:=V j E[j] ad;rw[aXa (by omega),aQb _ _ _ _ _ aa]at G;exact uT J n _ _ _ _ _ A G u i X
   .cases A
  .rename_i k e Z;obtain⟨U,I,rfl⟩:=Option.map_eq_some_iff.1 h;obtain⟨l,W,X⟩:=List.mem_flatten.1 L;obtain⟨j,Y,rfl⟩:=List.getElem_of_mem W;have ab:U.length=k:=(mapM_some_length I).trans (by simp);have A:=mapM_some_get I j j (by rw[gXa (by omega)]);rw[aXa Y]at A;split at A
   .rename_i aa;obtain⟨xs,n',_,_,_,af,V⟩:=DataW.trod_array Z ht;have G:=V j (by omega);rw[aXa (by omega),aQb _ _ _ _ _ aa]at G;exact uT J n _ _ _ _ _ A G u i X
   .cases A
  .split at h
   .rename_i hc
    cases h
    simp only[dZa,jAa]at L;obtain⟨rfl,rfl⟩:=L;rw[hc]at ht;exact⟨_,_,ht⟩
   .cases h
theorem aR5{r:Reach}{G:Array Field}{d:DataW H}{p:List MemPlace}{j:List (TypeId×Nat)}(I:P.underlying t=some (.struct G))(J:sQ P n t 0=some j)
 (L:Value.okWide P w r E t v) (h:DataW.Trod enc P w base spare held t v d p) :
 ∃cs:List Value,v=.agg cs.toArray/\cs.length=P.cellsOf t/\∀u i,(u,i)∈j->∃m y,DataW.trod enc P w base spare held m u ((cs.drop i).take 1)=some y:=by
 obtain⟨cs,rfl,A⟩:=okWide_struct I L;obtain⟨fuel,O⟩:=h;refine⟨cs.toList,by simp,by simpa using A,fun u i N=>?_⟩;refine uT cs.toList n t 0 j fuel (d,p) J ?_ u i N
 .rw[dDa,<-A,<-bUa,fDa];exact O
end
section
open Go.RowKit
theorem aG {w w':World} {g:Nat} {x:Obj} (j:Below w.heap.size w w') (h:w.heap[g]?=some x):w'.heap[g]?=some x:=(j.block g (Array.getElem?_eq_some_iff.1 h).1).trans h
theorem pU {w:World} {g:Nat} {x:Obj} (h:w.heap[g]?=some x):g<w.heap.size:=(Array.getElem?_eq_some_iff.1 h).1
end
theorem aU(n:Int)(j:0<=n)(A:n<2 ^ 62):IntKind.i64.wrap n=n:=by rw[fEa];omega
theorem wJ(i:Nat)(h:i<4611686018427387903:=by omega):IntKind.i64.wrap ((i:Int)+1)=((i+1:Nat):Int):=(aU ((i:Int)+1) (by omega) (by omega)).trans (by omega)
theorem wO(n:Int)(j:0<=n:=by omega)(A:n<2 ^ 62:=by omega):IntKind.i64.wrap n=n:=aU n j A
theorem wI(i:Nat)(h:i<4611686018427387903):IntKind.i64.wrap ((i:Int)+1)=((i+1:Nat):Int):=(aU ((i:Int)+1) (by omega) (by omega)).trans (by omega)
theorem fU(n:Int)(j:0<=n)(A:n<2 ^ 64):IntKind.u64.wrap n=n:=by
 have h:=cTa n;rw[h];omega
theorem aMw(x:Int)(j:0<=x)(A:x<4611686018427387904):bits .and .i64 x 1=x % 2:=bits_mask .i64 62 (by decide) aU 1 (by decide) x j A
theorem aPf(x:Int)(j:0<=x)(A:x<4611686018427387904):bits .and .i64 x 8191=x % 8192:=bits_mask .i64 62 (by decide) aU 13 (by decide) x j A
theorem i64_or64(x:Int)(j:0<=x)(A:x<64):bits .or .i64 64 x=64+x:=bits_join .i64 62 (by decide) aU 6 64 x (by decide) (by decide) (by decide) j A (by omega)
theorem aK5(x:Int)(i:Nat)(I:i<=63)(j:0<=x)(A:x<2 ^ i):bits .or .u64 (2 ^ i) x=2 ^ i+x:=by
 have E:(2:Int) ^ i<2 ^ 64:=by
  have h:=Nat.pow_lt_pow_right (a:=2) (by omega) (show i<64 by omega)
  exact_mod_cast h
 have G:(0:Int)<=2 ^ i:=by exact_mod_cast dEa (2 ^ i)
 exact bits_join .u64 64 (by decide) fU i (2 ^ i) x G (by simp) E j A (by omega)
theorem aAk(k:IntKind)(x y:Int):bits .or k x y=bits .or k y x:=by simp only[bits,BitVec.or_comm]
theorem aBs(x:Int)(j:0<=x)(A:x<16384):bits .or .u64 x 16384=x+16384:=by
 rw[aAk,show(16384:Int)=2 ^ 14 by rfl,aK5 x 14 (by omega) j A];omega
theorem aSt(x:Int)(j:0<=x)(A:x<8192):bits .or .u64 x 8192=x+8192:=by
 rw[aAk,show(8192:Int)=2 ^ 13 by rfl,aK5 x 13 (by omega) j A];omega
theorem aPt(x:Int)(A:0<=x)(J:x<8192):bits .or .u64 (x+16384) 8192=x+16384+8192:=by
 rw[<-aBs x A (by omega)];have h:bits .or .u64 (bits .or .u64 x 16384) 8192=bits .or .u64 x 24576:=by
  have e:bits .or .u64 16384 8192=24576:=by decide
  obtain⟨a,rfl⟩:=Int.eq_ofNat_of_zero_le A;have E:a<18446744073709551616:=by omega
  rw[show(16384:Int)=((16384:Nat):Int) by rfl,show(8192:Int)=((8192:Nat):Int) by rfl,show(24576:Int)=((24576:Nat):Int) by rfl];have G:=(bits_nat .u64 64 (by decide) fU a 16384 E (by omega)).2;have I:a ||| 16384<2 ^ 64:=Nat.or_lt_two_pow E (by omega)
  rw[G,(bits_nat .u64 64 (by decide) fU (a ||| 16384) 8192 I (by omega)).2,(bits_nat .u64 64 (by decide) fU a 24576 E (by omega)).2,Nat.or_assoc]
  rfl
 rw[h];have j:=bits_join .u64 64 (by decide) fU 13 24576 x (by decide) (by decide) (by decide) A (by omega) (by omega);rw[aAk,j,aBs x A (by omega)];omega
def u8v (x:UInt8):Value:=.int .u8 (x.toNat:Int)
def IsB (w:World) (B:Nat) (A:Option Addr) (n:Nat) (xs:List UInt8):Prop :=
 xs.length=n/\(0<n->∃b off,A=some ⟨b,off,none⟩/\b<B/\∀i (h:i<xs.length),w.cell? ⟨b,off+i,none⟩=some (u8v xs[i]))
section
variable {w w':World} {B B' n:Nat} {A:Option Addr} {xs:List UInt8}
theorem IsB.nil(w:World)(B:Nat)(A:Option Addr):IsB w B A 0 []:=⟨rfl,fun h=>absurd h (by omega)⟩
theorem IsB.keep(h:IsB w B A n xs)(E:∀p:Addr,p.block<B->w'.cell? p=w.cell? p):IsB w' B A n xs :=
 ⟨h.1,fun G=>by
  obtain⟨b,J,e,j,L⟩:=h.2 G;exact⟨b,J,e,j,fun i I=>(E _ j).trans (L i I)⟩⟩
theorem IsB.more(h:IsB w B A n xs)(I:B<=B'):IsB w B' A n xs :=
 ⟨h.1,fun j=>by
  obtain⟨b,E,e,J,G⟩:=h.2 j;exact⟨b,E,e,by omega,G⟩⟩
theorem IsB.below(h:IsB w B A n xs)(j:Below B w w'):IsB w' B A n xs:=h.keep fun _ E=>j.cell E
theorem IsB.later(h:IsB w w.heap.size A n xs)(l:Later w):IsB l.w l.w.heap.size A n xs:=(h.below l.hb).more l.hb.size
theorem IsB.on(h:IsB w w.heap.size A n xs)(j:Below w.heap.size w w'):IsB w' w'.heap.size A n xs:=(h.below j).more j.size
theorem IsB.alloc(h:IsB w w.heap.size A n xs)(o:Obj):IsB (w.alloc o) (w.alloc o).heap.size A n xs:=h.on ((bLa _ _).alloc (aZa _) o)
theorem IsB.byte(h:IsB w B A n xs)(G:i<n):∃b j v,A=some ⟨b,j,none⟩/\b<B/\(xs.getD i 0).toNat=v/\v<=255/\w.cell? ⟨b,j+i,none⟩=some (.int .u8 (v:Nat)):=by
 obtain⟨b,j,e,J,L⟩:=h.2 (by omega);have E:i<xs.length:=by rw[h.1];exact G
 have I:xs.getD i 0=xs[i]:=by simp[List.getD,E]
 exact⟨b,j,_,e,J,rfl,by have:=(xs.getD i 0).toNat_lt;omega,by rw[L i E,I];rfl⟩
theorem IsB.uZ(h:IsB w B (some ⟨b,j,none⟩) n xs)(E:i<n):∃v,(xs.getD i 0).toNat=v/\v<=255/\w.cell? ⟨b,j+i,none⟩=some (.int .u8 (v:Nat)):=by
 obtain⟨L,N,v,e,_,G,I,J⟩:=h.byte E
 cases e
 exact⟨v,G,I,J⟩
theorem IsB.cut(h:IsB w B A n xs){cap:Nat}(L:k<=m)(N:m<=n)(O:n<=cap) :
 IsB w B (if cap=k then A else A.map (·.add k)) (m - k) ((xs.take m).drop k):=by
 refine⟨by rw[cCa,bGa,h.1];omega,fun U=>?_⟩;obtain⟨b,j,rfl,G,I⟩:=h.2 (by omega);rw[bAa (by omega)];refine⟨b,j+k,?_,G,fun i E=>?_⟩
 .simp only[eQa,Addr.add];split
  .rename_i J;subst J;rfl
  .rfl
 .have hi':i<m - k:=by
   have:=E;rw[cCa,bGa,h.1]at this;omega
  rw[show j+k+i=j+(k+i) by omega,I (k+i) (by rw[h.1];omega)];simp[List.getElem_drop,gRa]
theorem IsB.aMd(h:IsB w B (some ⟨b,j,none⟩) n xs){cap:Nat}{G:Option Addr}(J:(if cap=k then some (⟨b,j,none⟩:Addr)else some ⟨b,j+k,none⟩)=G)(L:k<=n)(N:n<=cap):IsB w B G (n - k) (xs.drop k):=by
 subst J;rcases fRa k with I|I
 .subst I;simpa using h
 .have E:=h.cut (k:=k) (m:=n) (cap:=cap) L (aZa _) N;rw[bZa (by rw[h.1];exact aZa _)]at E;have e:(some (⟨b,j,none⟩:Addr)).map (·.add k)=some ⟨b,j+k,none⟩:=by
   simp only[eQa,Addr.add];rw[bAa (by omega)]
  rw[e]at E;exact E
theorem IsB.take(h:IsB w B A n xs)(J:m<=n):IsB w B A m (xs.take m):=by
 refine⟨by rw[bGa,h.1];omega,fun L=>?_⟩;obtain⟨b,E,rfl,G,I⟩:=h.2 (by omega);exact⟨b,E,rfl,G,fun i j=>by
  rw[I i (by rw[bGa]at j;omega)];simp[gRa]⟩
end
def beN (xs:List UInt8) (at_:Nat):Nat->Nat
 | 0=>0
 | k+1=>beN xs at_ k*256+(xs.getD (at_+k) 0).toNat
theorem bX(xs:List UInt8)(at_:Nat):∀k,beN xs at_ k<256 ^ k
 | 0=>by simp[beN]
 | k+1=>by
  have h:=bX xs at_ k;have j:=(xs.getD (at_+k) 0).toNat_lt;simp only[beN,gUa];omega
theorem or_byte(a b:Nat)(j:b<256):a*256 ||| b=a*256+b:=by
 have:=gEa (i:=8) (b:=b) (by omega) a;rw[show(2:Nat) ^ 8=256 by rfl]at this;rw[hAa];omega
theorem aPu(a v:Nat)(h:a<72057594037927936)(j:v<=255):bits .or .u64 ((a:Int)*256) (v:Int)=((a*256+v:Nat):Int):=by
 rw[<-or_byte a v (by omega)];exact u64_or_nat (a*256) v (by omega) (by omega)
theorem aBr(s:Nat)(h:s<4294967296):bits .and .u32 (s:Int) 65535=((s % 65536:Nat):Int):=by
 rw[show(65535:Int)=((65535:Nat):Int) by rfl,u32_and_nat s 65535 h (by omega),show s &&& 65535=s % 65536 from Nat.and_two_pow_sub_one_eq_mod s 16]
theorem aDe(x:Nat)(h:x<=65535):bits .xor .u16 IntKind.u16.max (x:Int)=((65535 - x:Nat):Int):=by
 rw[show IntKind.u16.max=((65535:Nat):Int) by decide,u16_xor_nat 65535 x (by omega) (by omega)];have j:(BitVec.allOnes 16 ^^^ BitVec.ofNat 16 x).toNat=65535 - x:=by
  rw[BitVec.allOnes_xor,BitVec.toNat_not,BitVec.toNat_ofNat,dPa (by omega)]
 rw[BitVec.toNat_xor,BitVec.toNat_ofNat,dPa (by omega:x<2 ^ 16)]at j;exact fFa Int.ofNat j
theorem aEx(a b:Nat):((a:Int) == (b:Int))=decide (a=b):=by
 by_cases h:a=b
 .simp[h]
 .have h':¬ (a:Int)=b:=by omega
  simp[h,h']
theorem kP{a b:Bool}(h:a=b):Ending.returned (.bool a)=.returned (.bool b):=by rw[h]
theorem wf_le{k:IntKind}{n:Int}(h:(Lit.int k n).wf=true):k.min<=n/\n<=k.max:=by simpa[Lit.wf]using h
theorem u8_wf{n:Int}(h:(Lit.int .u8 n).wf=true):0<=n/\n<=255:=by
 have:=wf_le h;simpa[IntKind.min,IntKind.max,IntKind.signed,IntKind.bits]using this
theorem u64_wf{n:Int}(h:(Lit.int .u64 n).wf=true):0<=n/\n<=18446744073709551615:=by
 have:=wf_le h;simpa[IntKind.min,IntKind.max,IntKind.signed,IntKind.bits]using this
theorem aE7{k:IntKind}{a b:Int}(h:a=b):Ending.returned (.int k a)=.returned (.int k b):=by rw[h]
theorem pow_le(k:Nat)(h:k<=7):256 ^ k<=72057594037927936:=by
 have:256 ^ k<=256 ^ 7:=gBa (by omega) h;omega
theorem beN_bd(xs:List UInt8)(p k:Nat)(h:k<=7):beN xs p k<72057594037927936:=by
 have j:=bX xs p k;have A:=pow_le k h;omega
theorem beN_bd8(xs:List UInt8)(p k:Nat)(h:k<=8):beN xs p k<18446744073709551616:=by
 have j:=bX xs p k;have:256 ^ k<=256 ^ 8:=gBa (by omega) h;omega
theorem aL1(A:Option Addr)(n c:Nat)(xs:List UInt8)(p k:Nat)(w:World)(I:IsB w w.heap.size A n xs)(J:n<=maxLen)(U:p<=4611686018427387904)(V:k<=8) :
 Cl 115 #[.slice A n c,.int .i64 (p:Int),.int .i64 (k:Int)] w fun e w'=>e=.returned (.int .u64 (beN xs p k:Nat))/\w=w':=by
 unfold maxLen at J;go_enter func115,ntmps115;go_wp2;go_loop [7,13] (fun m i=>∃j:Nat,j<=k/\i=.int .i64 (j:Int)/\m=.int .u64 (beN xs p j:Nat)) (fun _ i=>k - (intOf i).toNat)
 case atStart=>exact⟨0,dEa _,rfl,rfl⟩
 case round =>
  obtain⟨j,W,rfl,rfl⟩:=hrel;by_cases aa:j<k
  .have L:=beN_bd xs p j (by omega);by_cases O:p+j<n
   .obtain⟨b,X,v,rfl,Y,E,N,Z⟩:=I.byte O;replace E:=q_ E;go_wp2;refine⟨⟨j+1,by omega,by go_num,?_⟩,by simp[intOf];omega⟩;rw[aPu _ _ L N,beN,E.out]
   .have G:xs.getD (p+j) 0=0:=by
     have:=I.1;simp[List.getD,fZa (show xs.length<=p+j by omega)]
    replace G:=q_ G;go_wp2;refine⟨⟨j+1,by omega,by go_num,?_⟩,by simp[intOf];omega⟩;rw[beN,G.out];simp
  .obtain rfl:j=k:=by omega
   go_wp2;go_ret;exact⟨rfl,rfl⟩
theorem fB(j E:Int)(p k:Nat)(G:j=(p:Int))(I:E=(k:Int))(A:Option Addr)(n c:Nat)(xs:List UInt8)(w:World)(J:IsB w w.heap.size A n xs)(L:n<=maxLen)(N:p<=4611686018427387904)(O:k<=8) :
 Cl 115 #[.slice A n c,.int .i64 j,.int .i64 E] w fun e w'=>e=.returned (.int .u64 (beN xs p k:Nat))/\w=w':=by
 subst G I;exact aL1 A n c xs p k w J L N O
def ones (n:Nat):Nat:=if n=0 then 0 else(n - 1) % 65535+1
def tot:Bool->List UInt8->Nat
 | _,[]=>0
 | o,c :: l=>(if o then c.toNat else 256*c.toNat)+tot (!o) l
def xA (s:Nat×Bool) (c:UInt8):Nat×Bool :=
 ((s.1+(if s.2 then c.toNat else 256*c.toNat)) % 65536+(s.1+(if s.2 then c.toNat else 256*c.toNat)) / 65536,!s.2)
def tC (s:Nat×Bool) (l:List UInt8):Nat×Bool:=l.foldl xA s
theorem aC2 {a b:Nat} (h:a % 65535=b % 65535) (j:a=0↔b=0):ones a=ones b:=by unfold ones;split<;>split<;>omega
theorem aR2 {a:Nat} (h:a<=65535):ones a=a:=by unfold ones;split<;>omega
theorem aB5 (a:Nat):ones a<=65535:=by unfold ones;split<;>omega
theorem aT7 (a:Nat):ones (a % 65536+a / 65536)=ones a:=aC2 (by omega) (by omega)
theorem stepS_le (s:Nat×Bool) (c:UInt8) (h:s.1<=65536):(xA s c).1<=65536:=by
 have:=c.toNat_lt;unfold xA;dsimp only;split<;>omega
theorem runS_tot (l:List UInt8):∀s:Nat×Bool,(tC s l).1 % 65535=(s.1+tot s.2 l) % 65535/\((tC s l).1=0↔s.1+tot s.2 l=0):=by
 induction l with
 | nil=>intro s;simp[tC,tot]
 | cons c l ih =>
  intro s;have h:=ih (xA s c)
  show((tC (xA s c) l).1 % 65535=_)/\((tC (xA s c) l).1=0↔_)
  obtain⟨A,j⟩:=s
  cases j<;>simp only[xA,tot,Bool.not_false,jHa,jEa,eAa,hYa]at h ⊢<;>omega
theorem ones_run (l:List UInt8):ones (tC (0,false) l).1=ones (tot false l):=by
 have h:=runS_tot l (0,false);simp only[dWa]at h;exact aC2 h.1 h.2
theorem aFm (s:Nat×Bool) (a b:List UInt8):tC s (a++b)=tC (tC s a) b:=hLa ..
theorem aUp (s:Nat×Bool) (l:List UInt8) (j:Nat) (h:j<l.length):tC s (l.take (j+1))=xA (tC s (l.take j)) l[j]:=by
 rw[fBa h,aFm];rfl
theorem runS_snd (l:List UInt8):∀s:Nat×Bool,(tC s l).2=(s.2 ^^ decide (l.length % 2=1)):=by
 induction l with
 | nil=>intro s;simp[tC]
 | cons c l ih =>
  intro s
  show(tC (xA s c) l).2=_
  rw[ih];have e:decide ((c :: l).length % 2=1)=!decide (l.length % 2=1):=by
   simp only[eFa];by_cases h:l.length % 2=1
   .have:¬ (l.length+1) % 2=1:=by omega
    simp[h,this]
   .have:(l.length+1) % 2=1:=by omega
    simp[h,this]
  rw[e];simp[xA]
theorem qB (a b:List UInt8):∀o:Bool,tot o (a++b)=tot o a+tot (o ^^ decide (a.length % 2=1)) b:=by
 induction a with
 | nil=>intro o;simp[tot]
 | cons c a ih =>
  intro o;simp only[eNa,tot,ih,eVa];have e:(!o ^^ decide (a.length % 2=1))=(o ^^ decide ((c :: a).length % 2=1)):=by
   simp only[eFa];by_cases h:a.length % 2=1
   .have:¬ (a.length+1) % 2=1:=by omega
    simp[h,this]
   .have:(a.length+1) % 2=1:=by omega
    simp[h,this]
  rw[e]
theorem aMq(s:Nat)(w:World)(A:s<4294967296) :
 Cl 157 #[.int .u32 (s:Int)] w fun e w'=>e=.returned (.int .u16 (ones s:Nat))/\w=w':=by
 go_enter func157,ntmps157;go_wp2;go_loop [0] (fun v=>∃t:Nat,t<4294967296/\ones t=ones s/\v=.int .u32 (t:Int)) (fun v=>(intOf v).toNat)
 case atStart=>exact⟨s,A,rfl,rfl⟩
 case round =>
  obtain⟨t,E,j,rfl⟩:=hrel;replace j:=q_ j;have G:=aBr t E;by_cases I:65535<t
  .go_wp2;refine⟨⟨t % 65536+t / 65536,by omega,by rw[aT7];exact j,by go_num⟩,by simp[intOf];omega⟩
  .have ht':t<=65535:=by omega
   go_wp2;go_ret;rw[<-j.out,aR2 ht'];exact⟨rfl,rfl⟩
structure Part where
 A:Option Addr
 c:Nat
 xs:List UInt8
def Part.val (p:Part):Value:=.slice p.A p.xs.length p.c
def IsP (w:World) (B:Nat) (A:Option Addr) (n:Nat) (ps:List Part):Prop :=
 ps.length=n/\(0<n->∃b off,A=some ⟨b,off,none⟩/\b<B/\∀i (h:i<ps.length),w.cell? ⟨b,off+i,none⟩=some ps[i].val)/\∀p∈ps,IsB w B p.A p.xs.length p.xs/\p.xs.length<=maxLen
def flat (ps:List Part):List UInt8:=ps.flatMap (·.xs)
theorem aTg(j:List Part)(i:Nat)(h:i<j.length):flat (j.take (i+1))=flat (j.take i)++j[i].xs:=by
 unfold flat;rw[fBa h,hUa];simp only[List.flatMap_singleton]
theorem IsP.part{w:World}{j:List Part}(h:IsP w B A n j)(L:i<n) :
 ∃b E I c xs,A=some ⟨b,E,none⟩/\w.cell? ⟨b,E+i,none⟩=some (.slice I xs.length c)/\IsB w B I xs.length xs/\xs.length<=maxLen/\flat (j.take (i+1))=flat (j.take i)++xs:=by
 obtain⟨b,E,e,_,N⟩:=h.2.1 (by omega);have G:i<j.length:=by rw[h.1];exact L
 have J:=h.2.2 j[i] (fNa G);exact⟨b,E,_,_,_,e,N i G,J.1,J.2,aTg j i G⟩
theorem aG4(A:Option Addr)(n c:Nat)(I:List Part)(w:World)(Y:IsP w w.heap.size A n I)(hn:n<=maxLen) :
 Cl 135 #[.slice A n c] w fun e w'=>e=.returned (.int .u16 (ones (tot false (flat I)):Nat))/\w=w':=by
 unfold maxLen at hn;go_enter func135,ntmps135;go_wp2;go_loop [3,4,11] (fun s o i=>∃(k m:Nat) (b:Bool),k<=n/\i=.int .i64 (k:Int)/\s=.int .u32 (m:Int)/\o=.bool b/\m<=65536/\(m,b)=tC (0,false) (flat (I.take k))) (fun _ _ i=>n - (intOf i).toNat)
 case atStart=>exact⟨0,0,false,dEa _,rfl,rfl,rfl,by omega,by simp[flat,tC]⟩
 case round =>
  obtain⟨k,m,b,hk,rfl,rfl,rfl,hm,N⟩:=hrel;replace N:=q_ N;by_cases ah:k<n
  .obtain⟨bl,ak,A',c',xs,rfl,an,af,ag,V⟩:=Y.part ah;replace V:=q_ V;unfold maxLen at ag;go_wp2;go_loop [3,4,17] (fun s o i=>∃(j E:Nat) (J:Bool),j<=xs.length/\i=.int .i64 (j:Int)/\s=.int .u32 (E:Int)/\o=.bool J/\E<=65536/\(E,J)=tC (m,b) (xs.take j)) (fun _ _ i=>xs.length - (intOf i).toNat)
   case atStart=>exact⟨0,m,b,dEa _,rfl,rfl,rfl,hm,by simp[tC]⟩
   case round =>
    obtain⟨j,E,J,hj,rfl,rfl,rfl,aa,U⟩:=hrel;replace U:=q_ U;by_cases X:j<xs.length
    .obtain⟨bb,aq,v,rfl,ar,W,au,av⟩:=af.byte X;have L:=q_ (aUp (m,b) xs j X);have hg:Hid (xs[j]=xs.getD j 0):=q_ (by simp[List.getD,X]);rw[<-U.out,hg]at L;have O:=stepS_le (E,J) (xs.getD j 0) aa;unfold xA at L O;rw[W]at L O;replace W:=q_ W
     cases J
     .have ad:bits .and .u32 ((E:Int)+(v:Int)*256) 65535=((E:Int)+(v:Int)*256) % 65536:=by
       have G:=aBr (E+v*256) (by omega);rw[show((E:Int)+(v:Int)*256)=((E+v*256:Nat):Int) by omega,G];omega
      simp only[eAa,hYa]at O;go_wp2;refine⟨⟨j+1,(E+256*v) % 65536+(E+256*v) / 65536,true,by omega,by go_num,by go_num,rfl,by omega,by rw[L.out];rfl⟩,by simp[intOf];omega⟩
     .have ad:bits .and .u32 ((E:Int)+(v:Int)) 65535=((E:Int)+(v:Int)) % 65536:=by
       have G:=aBr (E+v) (by omega);rw[show((E:Int)+(v:Int))=((E+v:Nat):Int) by omega,G];omega
      simp only[jEa]at O;go_wp2;refine⟨⟨j+1,(E+v) % 65536+(E+v) / 65536,false,by omega,by go_num,by go_num,rfl,by omega,by rw[L.out];rfl⟩,by simp[intOf];omega⟩
    .obtain rfl:j=xs.length:=by omega
     go_wp2;refine⟨⟨k+1,E,J,by omega,by go_num,rfl,rfl,aa,?_⟩,by simp[intOf];omega⟩;have G:=U.out;rw[fDa]at G;rw[G,N.out,V.out,aFm]
  .obtain rfl:k=n:=by omega
   go_wp2_with (go_at_call 157;refine(aMq _ _ (by omega)).mono ?_;rintro e w' ⟨rfl,rfl⟩)
   go_ret;refine⟨aE7 ?_,rfl⟩;have G:=N.out;rw[show I.take k=I by rw[<-Y.1,fDa]]at G;have Z:=ones_run (flat I);rw[<-G]at Z;exact fFa _ Z
theorem pK(A:Option Addr)(n c:Nat)(j:List Part)(w:World)(G:IsP w w.heap.size A n j)(I:n<=maxLen)(r:Bool)(E:decide (ones (tot false (flat j))=65535)=r) :
 Cl 116 #[.slice A n c] w fun e w'=>e=.returned (.bool r)/\w=w':=by
 replace E:=q_ E;go_enter func116,ntmps116;go_wp2_with (go_at_call 135;refine(aG4 _ _ _ j _ G I).mono ?_;rintro e w' ⟨rfl,rfl⟩)
 go_ret;exact⟨kP (by rw[<-E.out];exact aEx _ 65535),rfl⟩
theorem aDh(A:Option Addr)(n c:Nat)(j:List Part)(w:World)(E:IsP w w.heap.size A n j)(G:n<=maxLen) :
 Cl 94 #[.slice A n c] w fun e w'=>e=.returned (.int .u16 ((65535 - ones (tot false (flat j)):Nat)))/\w=w':=by
 have I:=aB5 (tot false (flat j));have J:IntKind.u16.signed=false:=rfl;go_enter func94,ntmps94;go_wp2_with (go_at_call 135;refine(aG4 _ _ _ j _ E G).mono ?_;rintro e w' ⟨rfl,rfl⟩)
 go_ret;exact⟨aE7 (aDe _ I),rfl⟩
section
open Go.RowKit
section
variable {P:Program} {ops:Array Oper} {Q:Exit->Act->World->Prop} {md:Region.Mode} {R:World->World->Prop}
def reach (md:Region.Mode) (ops:Array Oper):Nat->Nat->Nat->Bool
 | 0,_,_=>false
 | n+1,j,i=>match ops[j]? with
  | some o=>o.after.any fun e=>Region.binds md e && (e.on == i || reach md ops n e.on i)
  | none=>false
def aHk (md:Region.Mode) (ops:Array Oper) (listed:Array Bool):Bool :=
 (List.range ops.size).all fun j=>listed.getD j true || (List.range ops.size).all fun i=>!(listed.getD i false) || reach md ops ops.size j i
def aEy (md:Region.Mode) (ops:Array Oper) (listed:Array Bool):Bool :=
 (List.range ops.size).all fun k=>!(listed.getD k false) || match ops[k]? with
  | some o=>o.after.all fun e=>!(Region.binds md e) || listed.getD e.on false
  | none=>true
def wpE (P:Program) (md:Region.Mode) (ops:Array Oper) (Q:Exit->Act->World->Prop) (R:World->World->Prop):Nat->Array Bool->Act->World->Prop
 | 0,listed,a,w=>Region.ready md ops listed=[]/\∀w',R w w'->Q .normal a w'
 | fuel+1,listed,a,w =>
  (aHk md ops listed=true/\∀w',R w w'->wpAny P md ops Q (fuel+1) listed a w') \/
  ∀w',R w w'->(Region.ready md ops listed=[]->Q .normal a w') /\
  ∀i∈Region.ready md ops listed,wpOp P ops Q i (fun a' w''=>R w' w''/\wpE P md ops Q R fuel (listed.setIfInBounds i true) a' w'') a w'
theorem aEm (A:∀a b c,R a b->R b c->R a c) {fuel:Nat} {G:Array Bool} {a:Act} {w I:World} (h:wpE P md ops Q R fuel G a w) (E:R w I):wpE P md ops Q R fuel G a I:=by
 cases fuel with
 | zero=>exact⟨h.1,fun w' j=>h.2 w' (A _ _ _ E j)⟩
 | succ n=>exact h.imp (fun h=>⟨h.1,fun w' j=>h.2 w' (A _ _ _ E j)⟩) fun h w' j=>h w' (A _ _ _ E j)
theorem aHs (j:∀w,R w w):∀(fuel:Nat) (A:Array Bool) (a:Act) (w:World),wpE P md ops Q R fuel A a w->wpAny P md ops Q fuel A a w
 | 0,_,_,_,h=>⟨h.1,h.2 _ (j _)⟩
 | _+1,_,_,_,.inl h=>h.2 _ (j _)
 | fuel+1,_,_,_,.inr h=>⟨(h _ (j _)).1,fun i E=>wpOp_mono (fun a' w' G=>aHs j fuel _ a' w' G.2) ((h _ (j _)).2 i E)⟩
def quietIn (P:Program) (R:World->World->Prop) (w:World) (v:Value):Result Next->Prop
 | .ok (.value u) w'=>u=v/\R w w'
 | .ok .skip w'=>v=undef/\R w w'
 | .ok (.enter f args) w'=>w'=w/\Calls P f args w (fun e w''=>e=.returned v/\R w w'')
 | _=>False
def kD (P:Program) (ops:Array Oper) (R:World->World->Prop) (w0:World) (o:Oper) (v:Value) (a:Act):Prop :=
 (Region.wanted o (yielded ops a.tmps)=true/\∀w,R w0 w->quietIn P R w v ((execOp a.eval o).run P w)) \/
 (Region.wanted o (yielded ops a.tmps)=false/\v=undef)
theorem kD.later (A:∀a b c,R a b->R b c->R a c) {w0 j:World} {o:Oper} {v:Value} {a:Act} (E:kD P ops R w0 o v a) (G:R w0 j):kD P ops R j o v a :=
 E.imp (fun⟨I,J⟩=>⟨I,fun w h=>J w (A _ _ _ G h)⟩) id
theorem kD.of_same {w0:World} {o:Oper} {v:Value} {a a':Act} (j:kD P ops R w0 o v a) (A:execOp a'.eval o=execOp a.eval o)
 (E:Region.wanted o (yielded ops a'.tmps)=Region.wanted o (yielded ops a.tmps)):kD P ops R w0 o v a':=by
 unfold kD at *;rw[A,E];exact j
theorem kD.wpOp (G:∀w,R w w) {w0:World} {i:Nat} {o:Oper} {v:Value} {a:Act} (I:ops[i]?=some o) (J:kD P ops R w0 o v a) {K:Act->World->Prop} {w:World} (L:R w0 w)
 (h:∀w',R w w'->K (a.put o.dst v) w'):wpOp P ops Q i K a w:=by
 unfold Go.wpOp;simp only[I];rcases J with⟨E,N⟩|⟨E,rfl⟩
 .simp only[E,jEa];refine .inl ?_;have j:=N w L;unfold Oper.wp;generalize (execOp a.eval o).run P w=r at *
  cases r with
  | ok n w' =>
   cases n<;>simp only[quietIn]at j<;>simp only[Oper.upon]
   case value u=>obtain⟨rfl,A⟩:=j;exact h _ A
   case skip=>obtain⟨rfl,A⟩:=j;exact h _ A
   case enter f args=>obtain⟨rfl,A⟩:=j;exact A.mono fun e w'' ⟨he,hw''⟩=>by subst he;exact h _ hw''
  | halt x w'=>simp only[quietIn]at j
 .simp only[E,eAa,hYa];exact h _ (G _)
theorem aU8 {w0:World} {j:Nat} {A E:Oper} {v:Value} (X:ops[j]?=some E) (Y:A.apart ops E=true)
 (Z:∀cs b,A.op≠.select cs b) (O:∀cs b,E.op≠.select cs b)
 (U:∀c a w,Q (.panic c) (a.put A.dst v) w->Q (.panic c) a w) {K:Act->World->Prop} {a:Act} {w:World}
 (G:kD P ops R w0 A v a) (h:wpOp P ops Q j K (a.put A.dst v) w) :
 wpOp P ops Q j (fun a' w'=>kD P ops R w0 A v a'/\K (a'.put A.dst v) w') a w:=by
 obtain⟨L,I,V⟩:=Oper.apart_spec Y;have keep:∀(a:Act),kD P ops R w0 A v a->∀u,kD P ops R w0 A v (a.put E.dst u):=fun a G u =>
  G.of_same (execOp_put A Z a E.dst u V) (wanted_put A a E.dst u V)
 have ab:∀d,kD P ops R w0 A v { a with defers:=d :: a.defers }:=fun d=>G.of_same rfl rfl
 unfold wpOp at *;simp only[X]at *;rw[wanted_put E a A.dst v L]at h;split
 .rename_i N;simp only[N,jEa]at h;rcases h with h|⟨W,ac⟩
  case inr=>exact .inr ⟨by unfold Oper.asks at *;rw[execOp_put E O a A.dst v L]at W;exact W,ac⟩
  refine .inl ?_;unfold Oper.wp at *;rw[execOp_put E O a A.dst v L]at h;generalize (execOp a.eval E).run P w=r at *
  cases r with
  | ok n w' =>
   cases n<;>simp only[Oper.upon]at h ⊢
   case value u=>exact⟨keep a G u,by rw[<-fXa a v u I];exact h⟩
   case skip=>exact⟨keep a G _,by rw[<-fXa a v undef I];exact h⟩
   case defer d =>
    refine⟨keep _ (ab d) _,?_⟩;rw[<-fXa _ v undef I,<-Act.put_defers];exact h
   case enter f args =>
    refine Calls.mono h fun e aa J=>?_
    cases e with
    | returned u=>exact⟨keep a G u,by rw[<-fXa a v u I];exact J⟩
    | panicked c=>exact U _ _ _ J
    | outgrown=>exact J
   case row row args=>exact Rows.mono h fun u aa J=>⟨keep a G u,by rw[<-fXa a v u I];exact J⟩
  | halt x w' =>
   cases x<;>simp only[Oper.upon]at h ⊢
   case panic u=>exact U _ _ _ h
 .rename_i N;simp only[N]at h;exact⟨keep a G _,by rw[<-fXa a v undef I];exact h⟩
def Closed (md:Region.Mode) (ops:Array Oper) (listed:Array Bool):Prop :=
 ∀k o,ops[k]?=some o->listed.getD k false=true->∀e∈o.after,Region.binds md e=true->listed.getD e.on false=true
theorem aTa {A:Array Bool} (h:aEy md ops A=true):Closed md ops A:=by
 intro k o G L e N O;have I:k<ops.size:=(Array.getElem?_eq_some_iff.1 G).1;unfold aEy at h;have j:=List.all_eq_true.1 h k (List.mem_range.2 I);rw[L,G]at j;simp only[jHa,hHa]at j;obtain⟨m,J,rfl⟩:=Array.getElem_of_mem N;have E:=Array.all_eq_true.1 j m J;rw[O]at E;simpa using E
theorem aRk {A:Array Bool} {j:Nat} (h:Closed md ops A) (N:j∈Region.ready md ops A):Closed md ops (A.setIfInBounds j true):=by
 intro k o E G e I J;obtain⟨_,V,O,U⟩:=mem_ready.1 N;by_cases L:j=k
 .subst L;rw[O]at E
  cases E
  exact getD_set_true (U e I J)
 .rw[getD_set_ne false L]at G;exact getD_set_true (h k o E G e I J)
theorem aD7 {A:Array Bool} (J:Closed md ops A) {i:Nat} (L:A.getD i false=false):∀(n j:Nat),(∀o,ops[j]?=some o->∀e∈o.after,Region.binds md e=true->A.getD e.on false=true)->reach md ops n j i=false
 | 0,_,_=>rfl
 | n+1,j,h=>by
  unfold reach
  cases Z:ops[j]? with
  | none=>rfl
  | some o =>
   simp only;rw[Bool.eq_false_iff];intro Y;obtain⟨m,X,G⟩:=Array.any_eq_true.1 Y;simp only[eEa,Bool.or_eq_true,fKa]at G;have E:=h o Z _ (Array.getElem_mem X) G.1;rcases G.2 with I|I
   .rw[I,L]at E
    cases E
   .have N:reach md ops n (o.after[m]).on i=false:=aD7 J L n _ fun O U e' V W=>J _ O U E e' V W
    rw[I]at N
    cases N
theorem tail_waits {i j:Nat} {A:Array Bool} (V:Closed md ops A) (h:aHk md ops (A.setIfInBounds i true)=true) (J:i∈Region.ready md ops A) (W:j∈Region.ready md ops A):j=i:=by
 refine gMa fun X=>?_;obtain⟨ae,oj,U,af⟩:=mem_ready.1 W;have E:=(mem_ready.1 J).1;have aa:j<ops.size:=(Array.getElem?_eq_some_iff.1 U).1;obtain⟨_,oi,ag,_⟩:=mem_ready.1 J;have ab:i<ops.size:=(Array.getElem?_eq_some_iff.1 ag).1;have N:i<A.size:=by
  rcases eMa i A.size with I|I
  .exact I
  .simp[eZa I]at E
 unfold aHk at h;have O:=List.all_eq_true.1 h j (List.mem_range.2 aa);rw[getD_set_ne true (fVa X),ae,hHa]at O;have G:=List.all_eq_true.1 O i (List.mem_range.2 ab);have ac:(A.setIfInBounds i true).getD i false=true:=by simp[N]
 rw[ac,jHa,hHa]at G;have hs:A.getD i false=false:=by simp[N]at E ⊢;exact E
 rw[aD7 V hs ops.size j (fun o L e Y Z=>by rw[U]at L;cases L;exact af e Y Z)]at G
 cases G
theorem aU6 (hr:∀w,R w w) (O:∀a b c,R a b->R b c->R a c) {i:Nat} {I:Oper} {v:Value} (Y:ops[i]?=some I) (ac:∀(j:Nat) (o:Oper) cs b,ops[j]?=some o->o.op≠.select cs b)
 (hQ:∀c a w,Q (.panic c) (a.put I.dst v) w->Q (.panic c) a w) :
 ∀(fuel:Nat) (A:Array Bool) (a:Act) (w:World),Closed md ops A ->
  (∀j J,ops[j]?=some J->j≠i->A.getD j true=false->(∀e∈J.after,Region.binds md e=true->e.on≠i)->I.apart ops J=true) ->
  i∈Region.ready md ops A->kD P ops R w I v a ->
  wpE P md ops Q R fuel (A.setIfInBounds i true) (a.put I.dst v) w->wpE P md ops Q R (fuel+1) A a w:=by
 intro fuel
 induction fuel with
 | zero =>
  intro A a w _ _ G X H;refine .inr fun w1 L=>⟨fun h=>(by rw[h]at G;cases G),fun j U=>?_⟩
  by_cases E:j=i
  .subst E;exact X.wpOp hr Y L fun w' V=>⟨V,aEm O H (O _ _ _ L V)⟩
  .have:=hXa U E;rw[H.1]at this
   cases this
 | succ fuel ih =>
  intro A a w ai ag G X H;refine .inr fun w1 L=>⟨fun h=>(by rw[h]at G;cases G),fun j U=>?_⟩
  by_cases E:j=i
  .subst E;exact X.wpOp hr Y L fun w' V=>⟨V,aEm O H (O _ _ _ L V)⟩
  .rcases H with H|H
   .exact absurd (tail_waits ai H.1 G U) E
   have N:=(H w1 L).2 j (hXa U E);obtain⟨ah,J,Z,av⟩:=mem_ready.1 U;have ar:∀e∈J.after,Region.binds md e=true->e.on≠i:=fun e he hb an=>by
    have N:=av e he hb;have h0:=(mem_ready.1 G).1;rw[an]at N;rcases eMa i A.size with h'|h'
    .simp[h']at h0 N;rw[h0]at N;cases N
    .simp[eZa h']at N
   have h2:=aU8 Z (ag j J Z E ah ar) (fun cs b=>ac i I cs b Y) (fun cs b=>ac j J cs b Z) hQ (X.later O L) N;have hfree':∀k ok,ops[k]?=some ok->k≠i->(A.setIfInBounds j true).getD k true=false ->
    (∀e∈ok.after,Region.binds md e=true->e.on≠i)->I.apart ops ok=true:=fun k ok hk ap ae aq=>by
    refine ag k ok hk ap ?_ aq;by_cases aj:j=k
    .subst aj;exact ah
    .rw[getD_set_ne true aj]at ae;exact ae
   refine wpOp_mono (fun a' w' W=>⟨W.2.1,ih (A.setIfInBounds j true) a' w' (aRk ai U) hfree' (hXa G (fVa E)) (W.1.later O W.2.1) ?_⟩) h2;rw[gTa _ _ E];exact W.2.2
theorem wpE_take (G:∀w,R w w) (I:∀a b c,R a b->R b c->R a c) (i:Nat) {A:Oper} {v:Value} {fuel:Nat} {j:Array Bool} {a:Act} {w:World} (E:ops[i]?=some A)
 (J:aEy md ops j=true) (L:Region.noSelect ops=true) (N:Region.free md ops j i=true) (O:(Region.ready md ops j).contains i=true)
 (U:∀c a w,Q (.panic c) (a.put A.dst v) w->Q (.panic c) a w) (V:kD P ops R w A v a)
 (h:wpE P md ops Q R fuel (j.setIfInBounds i true) (a.put A.dst v) w):wpE P md ops Q R (fuel+1) j a w :=
 aU6 G I E (Region.noSelect_spec L) U fuel j a w (aTa J) (Region.free_spec E N) (by simpa using O) V h
theorem aJu (i:Nat) {G:Oper} {fuel:Nat} {I:Array Bool} {a:Act} {w:World} (U:ops[i]?=some G) (J:Region.ready md ops I=[i])
 (h:∀w',R w w'->∀K:Act->World->Prop,(∀N A,R w' A->wpE P md ops Q R fuel (I.setIfInBounds i true) N A->K N A) ->
  if Region.wanted G (yielded ops a.tmps)then G.wp P a w' K Q else K (a.put G.dst undef) w'):wpE P md ops Q R (fuel+1) I a w:=by
 refine .inr fun w' V=>?_;refine⟨fun W=>(by rw[W]at J;cases J),fun j O=>?_⟩;rw[J]at O;obtain rfl:j=i:=by simpa using O
 have E:=h w' V (fun a' A=>R w' A/\wpE P md ops Q R fuel (I.setIfInBounds j true) a' A) (fun _ _ E X=>⟨E,X⟩);unfold wpOp;simp only[U];split
 .rename_i L;rw[bBa L]at E;exact .inl E
 .rename_i L;rw[bAa L]at E;exact E
theorem aQ9 (i j:Nat) {O U:Oper} {fuel:Nat} {I:Array Bool} {a:Act} {w:World} (Y:ops[i]?=some O) (Z:ops[j]?=some U) (V:Region.ready md ops I=[i,j])
 (J:∀w',R w w'->∀K:Act->World->Prop,(∀N A,R w' A->wpE P md ops Q R fuel (I.setIfInBounds i true) N A->K N A) ->
  if Region.wanted O (yielded ops a.tmps)then O.wp P a w' K Q else K (a.put O.dst undef) w')
 (L:∀w',R w w'->∀K:Act->World->Prop,(∀N A,R w' A->wpE P md ops Q R fuel (I.setIfInBounds j true) N A->K N A) ->
  if Region.wanted U (yielded ops a.tmps)then U.wp P a w' K Q else K (a.put U.dst undef) w'):wpE P md ops Q R (fuel+1) I a w:=by
 refine .inr fun w' W=>?_;refine⟨fun h0=>(by rw[h0]at V;cases V),fun k X=>?_⟩;rw[V]at X;have hk':k=i\/k=j:=by simpa using X
 rcases hk' with rfl|rfl
 .have E:=J w' W (fun a' A=>R w' A/\wpE P md ops Q R fuel (I.setIfInBounds k true) a' A) (fun _ _ J L=>⟨J,L⟩);unfold wpOp;simp only[Y];split
  .rename_i G;rw[bBa G]at E;exact .inl E
  .rename_i G;rw[bAa G]at E;exact E
 .have E:=L w' W (fun a' A=>R w' A/\wpE P md ops Q R fuel (I.setIfInBounds k true) a' A) (fun _ _ J L=>⟨J,L⟩);unfold wpOp;simp only[Z];split
  .rename_i G;rw[bBa G]at E;exact .inl E
  .rename_i G;rw[bAa G]at E;exact E
theorem wpE_tail {fuel:Nat} {j:Array Bool} {a:Act} {w:World} (A:aHk md ops j=true) (h:∀w',R w w'->wpAny P md ops Q (fuel+1) j a w'):wpE P md ops Q R (fuel+1) j a w:=.inl ⟨A,h⟩
theorem wpT_one (i:Nat) {A:Oper} {fuel:Nat} {G:Array Bool} {a:Act} {w:World} (U:ops[i]?=some A) (I:Region.ready md ops G=[i])
 (h:∀K:Act->World->Prop,(∀L N,wpAny P md ops Q fuel (G.setIfInBounds i true) L N->K L N) ->
  if Region.wanted A (yielded ops a.tmps)then A.wp P a w K Q else K (a.put A.dst undef) w):wpAny P md ops Q (fuel+1) G a w:=by
 refine⟨fun V=>(by rw[V]at I;cases I),fun j O=>?_⟩;rw[I]at O;obtain rfl:j=i:=by simpa using O
 have E:=h _ (fun _ _ W=>W);unfold wpOp;simp only[U];split
 .rename_i J;rw[bBa J]at E;exact .inl E
 .rename_i J;rw[bAa J]at E;exact E
theorem bY {j:Array Bool} {a:Act} {w:World} (A:Region.ready md ops j=[]) (h:Q .normal a w):∀fuel,wpAny P md ops Q fuel j a w
 | 0=>⟨A,h⟩
 | _+1=>⟨fun _=>h,fun i E=>by rw[A]at E;cases E⟩
theorem tD {j:Array Bool} {a:Act} {w:World} (h:Q .normal a w) (A:Region.ready md ops j=[]:=by as_aux_lemma=>kernel_rfl):wpAny P md ops Q 0 j a w:=bY A h 0
theorem dP {j:Array Bool} {a:Act} {w:World} (A:Region.ready md ops j=[]) (h:∀w',R w w'->Q .normal a w'):∀fuel,wpE P md ops Q R fuel j a w
 | 0=>⟨A,h⟩
 | _+1=>.inr fun w' G=>⟨fun _=>h w' G,fun i E=>by rw[A]at E;cases E⟩
theorem eD {j:Array Bool} {a:Act} {w:World} (h:∀w',R w w'->Q .normal a w') (A:Region.ready md ops j=[]:=by as_aux_lemma=>kernel_rfl):wpE P md ops Q R 0 j a w:=dP A h 0
theorem aPw {id:Nat} {a:Act} {w:World} {l:List Oper} (R:World->World->Prop) (j:∀w,R w w) (_hd:R w w.drew) (A:P.follows .mixedOrders=true)
 (h:wpE P .any l.toArray Q R l.length (Array.replicate l.length false) a w.drew):(Code.region id l.toArray true).wp P Q a w:=by
 refine wp_region_any A ?_;have:=aHs j l.length (Array.replicate l.length false) a w.drew h;simpa using this
end
def eP (a b:World):Prop:=Below a.heap.size a b
theorem mG (w:World):eP w w:=bLa _ _
attribute [go_sem] quietIn mG
theorem lt_trans (a b c:World) (h:eP a b) (k:eP b c):eP a c:=Below.trans h (Below.mono k h.size)
theorem aQh (w:World):eP w w.drew:=(bLa _ _).drew
section
variable {P:Program} {ops:Array Oper} {Q:Exit->Act->World->Prop} {md:Region.Mode}
def qM (P:Program) (ops:Array Oper) (w0:World) (Q:Act->Prop):List Oper->Act->Prop
 | [],a=>Q a
 | o :: rest,a=>if Region.wanted o (yielded ops a.tmps)then ∃v,(∀l:Later w0,quietIn P eP l.w v ((execOp a.eval o).run P l.w))/\qM P ops w0 Q rest (a.put o.dst v)else qM P ops w0 Q rest (a.put o.dst undef)
theorem aT {w0:World} {Q:Act->Prop} {a:Act} (h:Q a):qM P ops w0 Q [] a:=h
theorem aD {w0:World} {Q:Act->Prop} {a:Act} {o:Oper} {rest:List Oper}
 (h:∀K:Act->Prop,(∀a,qM P ops w0 Q rest a->K a)->if Region.wanted o (yielded ops a.tmps)then ∃v,(∀l:Later w0,quietIn P eP l.w v ((execOp a.eval o).run P l.w))/\K (a.put o.dst v)else K (a.put o.dst undef)):qM P ops w0 Q (o :: rest) a :=
 h _ (fun _ h=>h)
theorem qE {w0:World} {Q:Act->Prop} {a a':Act} {o:Oper} {rest:List Oper} (h:qM P ops w0 Q rest a') (e:∀K:Act->Prop,K a'->if Region.wanted o (yielded ops a.tmps)then ∃v,(∀l:Later w0,quietIn P eP l.w v ((execOp a.eval o).run P l.w))/\K (a.put o.dst v)else K (a.put o.dst undef):=by intro K j;go_simp;exact j):qM P ops w0 Q (o :: rest) a:=aD fun K j=>e K (j _ h)
def ordB (md:Region.Mode) (ops:Array Oper):List Nat->Array Bool->Bool
 | [],_=>true
 | i :: ord,listed=>aEy md ops listed && (Region.ready md ops listed).contains i && Region.free md ops listed i && ordB md ops ord (listed.setIfInBounds i true)
def rC:List Nat->Array Bool->Array Bool
 | [],listed=>listed
 | i :: ord,listed=>rC ord (listed.setIfInBounds i true)
theorem aQ8 {w:World} (J:Region.noSelect ops=true) (L:∀d v c a w,Q (.panic c) (Act.put a d v) w->Q (.panic c) a w) {fuel:Nat} {E:Act->Prop}:∀(j:List Nat) (l:List Oper) (A:Array Bool) (a:Act),
 j.map (fun i=>ops[i]?)=l.map some->ordB md ops j A=true->qM P ops w E l a->(∀a',E a'->wpE P md ops Q eP fuel (rC j A) a' w) ->
 wpE P md ops Q eP (fuel+j.length) A a w
 | [],[],_,a,_,_,h,hq=>hq a h
 | [],_ :: _,_,_,h,_,_,_=>by simp at h
 | _ :: _,[],_,_,h,_,_,_=>by simp at h
 | i :: j,o :: l,A,a,hl,hB,h,hq=>by
  simp only[eCa,fYa]at hl;simp only[ordB,eEa]at hB;obtain⟨⟨⟨U,V⟩,W⟩,X⟩:=hB;have step:∀v,kD P ops eP w o v a->qM P ops w E l (a.put o.dst v)->wpE P md ops Q eP (fuel+(j.length+1)) A a w:=fun v N G =>
   wpE_take mG lt_trans i hl.1 U J W V (L _ _) N (aQ8 J L j l _ _ hl.2 X G hq)
  unfold qM at h;split at h
  .rename_i I;obtain⟨v,Y,G⟩:=h;exact step v (.inl ⟨I,fun w' O=>Y ⟨w',O⟩⟩) G
  .rename_i I;exact step undef (.inr ⟨by simpa using I,rfl⟩) h
theorem aE8 (L:List Oper):∀(k s:Nat),s+k<=L.length->(List.range' s k).map (fun i=>L.toArray[i]?)=((L.drop s).take k).map some
 | 0,_,_=>by simp
 | k+1,s,h=>by
  have j:s<L.length:=by omega
  rw[List.range'_succ,eCa,aE8 L k (s+1) (by omega),fMa j,cSa,eCa];simp
theorem aY {w:World} {L:List Oper} (s k:Nat) (A:Region.noSelect L.toArray=true) (E:∀d v c a w,Q (.panic c) (Act.put a d v) w->Q (.panic c) a w) {fuel:Nat} {j:Array Bool} {a:Act}
 (G:Nat.ble (s+k) L.length=true) (I:ordB md L.toArray (List.range' s k) j=true) (h:qM P L.toArray w (fun a'=>wpE P md L.toArray Q eP fuel (rC (List.range' s k) j) a' w) ((L.drop s).take k) a) :
 wpE P md L.toArray Q eP (fuel+k) j a w:=by
 have J:=aQ8 A E (fuel:=fuel) (List.range' s k) ((L.drop s).take k) j a (aE8 L k s (Nat.le_of_ble_eq_true G)) I h (fun _ h=>h)
 rwa[List.length_range']at J
theorem eS (s k f:Nat) {w:World} {L:List Oper} {j:Array Bool} {a:Act} (h:qM P L.toArray w (fun a'=>wpE P md L.toArray Q eP f (rC (List.range' s k) j) a' w) ((L.drop s).take k) a) (A:Region.noSelect L.toArray=true:=by as_aux_lemma=>kernel_rfl) (E:Nat.ble (s+k) L.length=true:=by as_aux_lemma=>kernel_rfl) (G:ordB md L.toArray (List.range' s k) j=true:=by as_aux_lemma=>kernel_rfl) (I:∀d v c a w,Q (.panic c) (Act.put a d v) w->Q (.panic c) a w:=by exact fun d _ _ _ _ h=>by cases d<;>exact h):wpE P md L.toArray Q eP (f+k) j a w:=aY s k A I E G h
theorem dA {α:Type} {l:List α}:l.drop 0=l:=dDa
theorem dB {α:Type} {a:α} {l:List α} {i:Nat}:(a :: l).drop (i+1)=l.drop i:=dBa
theorem dC {α:Type} {a:α} {l:List α} {i:Nat}:(a :: l).take (i+1)=a :: l.take i:=cSa
theorem dD {α:Type} {l:List α}:l.take 0=[]:=dVa
theorem sK {L:List Oper} {i:Nat} {o:Oper} {rest:List Oper} (j:L.drop i=o :: rest):L.toArray[i]?=some o:=by
 have h:(L.drop i)[0]?=some o:=by rw[j];rfl
 rw[eJa]at h;simpa using h
theorem dQ (i:Nat) {L:List Oper} {o:Oper} {rest:List Oper} {fuel:Nat} {j:Array Bool} {a:Act} {w:World} (G:L.drop i=o :: rest) (I:Region.ready md L.toArray j=[i])
 (h:∀l:Later w,∀K:Act->World->Prop,(∀E A,eP l.w A->wpE P md L.toArray Q eP fuel (j.setIfInBounds i true) E A->K E A) ->
  if Region.wanted o (yielded L.toArray a.tmps)then o.wp P a l.w K Q else K (a.put o.dst undef) l.w):wpE P md L.toArray Q eP (fuel+1) j a w :=
 aJu i (sK G) I fun w' J K N=>h ⟨w',J⟩ K N
theorem eT (i:Nat) {L:List Oper} {o:Oper} {rest:List Oper} {fuel:Nat} {j:Array Bool} {a:Act} {w:World} (G:L.drop i=o :: rest) (h:∀l:Later w,∀K:Act->World->Prop,(∀E A,eP l.w A->wpE P md L.toArray Q eP fuel (j.setIfInBounds i true) E A->K E A)->if Region.wanted o (yielded L.toArray a.tmps)then o.wp P a l.w K Q else K (a.put o.dst undef) l.w) (I:Region.ready md L.toArray j=[i]:=by as_aux_lemma=>kernel_rfl):wpE P md L.toArray Q eP (fuel+1) j a w:=dQ i G I h
theorem bF (i:Nat) {L:List Oper} {o:Oper} {rest:List Oper} {fuel:Nat} {j:Array Bool} {a:Act} {w:World} (G:L.drop i=o :: rest) (I:Region.ready md L.toArray j=[i])
 (h:∀K:Act->World->Prop,(∀A E,wpAny P md L.toArray Q fuel (j.setIfInBounds i true) A E->K A E) ->
  if Region.wanted o (yielded L.toArray a.tmps)then o.wp P a w K Q else K (a.put o.dst undef) w):wpAny P md L.toArray Q (fuel+1) j a w :=
 wpT_one i (sK G) I h
theorem tS (i:Nat) {L:List Oper} {o:Oper} {rest:List Oper} {fuel:Nat} {j:Array Bool} {a:Act} {w:World} (G:L.drop i=o :: rest) (h:∀K:Act->World->Prop,(∀A E,wpAny P md L.toArray Q fuel (j.setIfInBounds i true) A E->K A E)->if Region.wanted o (yielded L.toArray a.tmps)then o.wp P a w K Q else K (a.put o.dst undef) w) (I:Region.ready md L.toArray j=[i]:=by as_aux_lemma=>kernel_rfl):wpAny P md L.toArray Q (fuel+1) j a w:=bF i G I h
theorem tM (i:Nat) {L:List Oper} {o:Oper} {rest:List Oper} {fuel:Nat} {j:Array Bool} {a a':Act} {w w':World} (E:L.drop i=o :: rest) (h:wpAny P md L.toArray Q fuel (j.setIfInBounds i true) a' w') (e:∀K:Act->World->Prop,K a' w'->if Region.wanted o (yielded L.toArray a.tmps)then o.wp P a w K Q else K (a.put o.dst undef) w:=by intro K A;go_simp;exact A) (G:Region.ready md L.toArray j=[i]:=by as_aux_lemma=>kernel_rfl):wpAny P md L.toArray Q (fuel+1) j a w:=bF i E G fun K A=>e K (A _ _ h)
theorem dG {fuel:Nat} {j:Array Bool} {a:Act} {w:World} (A:aHk md ops j=true) (h:∀l:Later w,wpAny P md ops Q (fuel+1) j a l.w):wpE P md ops Q eP (fuel+1) j a w :=
 wpE_tail A fun w' E=>h ⟨w',E⟩
theorem eE {fuel:Nat} {j:Array Bool} {a:Act} {w:World} (h:∀l:Later w,wpAny P md ops Q (fuel+1) j a l.w) (A:aHk md ops j=true:=by as_aux_lemma=>kernel_rfl):wpE P md ops Q eP (fuel+1) j a w:=dG A h
theorem aP {id:Nat} {a:Act} {w:World} {l:List Oper} (j:P.follows .mixedOrders=true)
 (h:wpE P .any l.toArray Q eP l.length (Array.replicate l.length false) a w):(Code.region id l.toArray true).wp P Q a w :=
 aPw eP mG (aQh w) j (aEm lt_trans h (aQh w))
theorem rL {id:Nat} {a:Act} {w:World} {l:List Oper} (h:wpE P .any l.toArray Q eP l.length (Array.replicate l.length false) a w) (j:P.follows .mixedOrders=true:=by as_aux_lemma=>kernel_rfl):(Code.region id l.toArray true).wp P Q a w:=aP j h
end
end
section
open Go.RowKit
section
variable {P:Program} {ops:Array Oper} {Q:Exit->Act->World->Prop} {md:Region.Mode} {R:World->World->Prop}
def wpF (P:Program) (md:Region.Mode) (ops:Array Oper) (Q:Exit->Act->World->Prop) (R:World->World->Prop):Nat->Array Bool->Act->World->Prop
 | 0,listed,a,w=>Region.ready md ops listed=[]/\Q .normal a w
 | fuel+1,listed,a,w=>(Region.ready md ops listed=[]->Q .normal a w) /\
  ∀i∈Region.ready md ops listed,wpOp P ops Q i (fun a' w''=>R w w''/\wpF P md ops Q R fuel (listed.setIfInBounds i true) a' w'') a w
theorem aHt:∀(fuel:Nat) (j:Array Bool) (a:Act) (w:World),wpF P md ops Q R fuel j a w->wpAny P md ops Q fuel j a w
 | 0,_,_,_,h=>h
 | fuel+1,_,_,_,h=>⟨h.1,fun i A=>wpOp_mono (fun a' w' E=>aHt fuel _ a' w' E.2) (h.2 i A)⟩
def jT (P:Program) (ops:Array Oper) (R:World->World->Prop) (w0:World) (o:Oper) (v:Value) (a:Act):Prop :=
 (Region.wanted o (yielded ops a.tmps)=true/\∀w,R w0 w->quietIn P Eq w v ((execOp a.eval o).run P w)) \/
 (Region.wanted o (yielded ops a.tmps)=false/\v=undef)
theorem jT.later (A:∀a b c,R a b->R b c->R a c) {w0 j:World} {o:Oper} {v:Value} {a:Act} (E:jT P ops R w0 o v a) (G:R w0 j):jT P ops R j o v a :=
 E.imp (fun⟨I,J⟩=>⟨I,fun w h=>J w (A _ _ _ G h)⟩) id
theorem jT.of_same {w0:World} {o:Oper} {v:Value} {a a':Act} (j:jT P ops R w0 o v a) (A:execOp a'.eval o=execOp a.eval o)
 (E:Region.wanted o (yielded ops a'.tmps)=Region.wanted o (yielded ops a.tmps)):jT P ops R w0 o v a':=by
 unfold jT at *;rw[A,E];exact j
theorem jT.wpOp {w0:World} {i:Nat} {o:Oper} {v:Value} {a:Act} (E:ops[i]?=some o) (G:jT P ops R w0 o v a) {K:Act->World->Prop} {w:World} (I:R w0 w)
 (h:K (a.put o.dst v) w):wpOp P ops Q i K a w:=by
 unfold Go.wpOp;simp only[E];rcases G with⟨A,L⟩|⟨A,rfl⟩
 .simp only[A,jEa];refine .inl ?_;have j:=L w I;unfold Oper.wp;generalize (execOp a.eval o).run P w=r at *
  cases r with
  | ok n w' =>
   cases n<;>simp only[quietIn]at j<;>simp only[Oper.upon]
   case value u=>obtain⟨rfl,rfl⟩:=j;exact h
   case skip=>obtain⟨rfl,rfl⟩:=j;exact h
   case enter f args=>obtain⟨rfl,J⟩:=j;exact J.mono fun e w'' ⟨he,hw''⟩=>by subst he;subst hw'';exact h
  | halt x w'=>simp only[quietIn]at j
 .simp only[A,eAa,hYa];exact h
theorem aK8 {w0:World} {j:Nat} {A E:Oper} {v:Value} (X:ops[j]?=some E) (Y:A.apart ops E=true)
 (Z:∀cs b,A.op≠.select cs b) (O:∀cs b,E.op≠.select cs b)
 (U:∀c a w,Q (.panic c) (a.put A.dst v) w->Q (.panic c) a w) {K:Act->World->Prop} {a:Act} {w:World}
 (G:jT P ops R w0 A v a) (h:wpOp P ops Q j K (a.put A.dst v) w) :
 wpOp P ops Q j (fun a' w'=>jT P ops R w0 A v a'/\K (a'.put A.dst v) w') a w:=by
 obtain⟨L,I,V⟩:=Oper.apart_spec Y;have keep:∀(a:Act),jT P ops R w0 A v a->∀u,jT P ops R w0 A v (a.put E.dst u):=fun a G u =>
  G.of_same (execOp_put A Z a E.dst u V) (wanted_put A a E.dst u V)
 have ab:∀d,jT P ops R w0 A v { a with defers:=d :: a.defers }:=fun d=>G.of_same rfl rfl
 unfold wpOp at *;simp only[X]at *;rw[wanted_put E a A.dst v L]at h;split
 .rename_i N;simp only[N,jEa]at h;rcases h with h|⟨W,ac⟩
  case inr=>exact .inr ⟨by unfold Oper.asks at *;rw[execOp_put E O a A.dst v L]at W;exact W,ac⟩
  refine .inl ?_;unfold Oper.wp at *;rw[execOp_put E O a A.dst v L]at h;generalize (execOp a.eval E).run P w=r at *
  cases r with
  | ok n w' =>
   cases n<;>simp only[Oper.upon]at h ⊢
   case value u=>exact⟨keep a G u,by rw[<-fXa a v u I];exact h⟩
   case skip=>exact⟨keep a G _,by rw[<-fXa a v undef I];exact h⟩
   case defer d =>
    refine⟨keep _ (ab d) _,?_⟩;rw[<-fXa _ v undef I,<-Act.put_defers];exact h
   case enter f args =>
    refine Calls.mono h fun e aa J=>?_
    cases e with
    | returned u=>exact⟨keep a G u,by rw[<-fXa a v u I];exact J⟩
    | panicked c=>exact U _ _ _ J
    | outgrown=>exact J
   case row row args=>exact Rows.mono h fun u aa J=>⟨keep a G u,by rw[<-fXa a v u I];exact J⟩
  | halt x w' =>
   cases x<;>simp only[Oper.upon]at h ⊢
   case panic u=>exact U _ _ _ h
 .rename_i N;simp only[N]at h;exact⟨keep a G _,by rw[<-fXa a v undef I];exact h⟩
theorem aU7 (N:∀w,R w w) (ht:∀a b c,R a b->R b c->R a c) {i:Nat} {G:Oper} {v:Value} (W:ops[i]?=some G) (Z:∀(j:Nat) (o:Oper) cs b,ops[j]?=some o->o.op≠.select cs b)
 (hQ:∀c a w,Q (.panic c) (a.put G.dst v) w->Q (.panic c) a w) :
 ∀(fuel:Nat) (A:Array Bool) (a:Act) (w:World),
  (∀j I,ops[j]?=some I->j≠i->A.getD j true=false->(∀e∈I.after,Region.binds md e=true->e.on≠i)->G.apart ops I=true) ->
  i∈Region.ready md ops A->jT P ops R w G v a ->
  wpF P md ops Q R fuel (A.setIfInBounds i true) (a.put G.dst v) w->wpF P md ops Q R (fuel+1) A a w:=by
 intro fuel
 induction fuel with
 | zero =>
  intro A a w _ L V H;refine⟨fun h=>(by rw[h]at L;cases L),fun j O=>?_⟩;by_cases E:j=i
  .subst E;exact V.wpOp W (N _) ⟨N _,H⟩
  .have:=hXa O E;rw[H.1]at this
   cases this
 | succ fuel ih =>
  intro A a w ac L V H;refine⟨fun h=>(by rw[h]at L;cases L),fun j O=>?_⟩;by_cases E:j=i
  .subst E;exact V.wpOp W (N _) ⟨N _,H⟩
  .have J:=H.2 j (hXa O E);obtain⟨ad,I,X,ap⟩:=mem_ready.1 O;have an:∀e∈I.after,Region.binds md e=true->e.on≠i:=fun e he hb aj=>by
    have J:=ap e he hb;have h0:=(mem_ready.1 L).1;rw[aj]at J;rcases eMa i A.size with Y|Y
    .simp[Y]at h0 J;rw[h0]at J;cases J
    .simp[eZa Y]at J
   have h2:=aK8 X (ac j I X E ad an) (fun cs b=>Z i G cs b W) (fun cs b=>Z j I cs b X) hQ V J;have hfree':∀k ok,ops[k]?=some ok->k≠i->(A.setIfInBounds j true).getD k true=false ->
    (∀e∈ok.after,Region.binds md e=true->e.on≠i)->G.apart ops ok=true:=fun k ok hk al aa am=>by
    refine ac k ok hk al ?_ am;by_cases ae:j=k
    .subst ae;exact ad
    .rw[getD_set_ne true ae]at aa;exact aa
   refine wpOp_mono (fun a' w' U=>⟨U.2.1,ih (A.setIfInBounds j true) a' w' hfree' (hXa L (fVa E)) (U.1.later ht U.2.1) ?_⟩) h2;rw[gTa _ _ E];exact U.2.2
def kC (P:Program) (ops:Array Oper) (R:World->World->Prop) (w0:World) (Q:Act->Prop):List Oper->Act->Prop
 | [],a=>Q a
 | o :: rest,a=>if Region.wanted o (yielded ops a.tmps)then ∃v,(∀w,R w0 w->quietIn P Eq w v ((execOp a.eval o).run P w))/\kC P ops R w0 Q rest (a.put o.dst v)else kC P ops R w0 Q rest (a.put o.dst undef)
theorem aN {w0:World} {Q:Act->Prop} {a:Act} (h:Q a):kC P ops R w0 Q [] a:=h
def aAm (md:Region.Mode) (ops:Array Oper):List Nat->Array Bool->Bool
 | [],_=>true
 | i :: ord,listed=>(Region.ready md ops listed).contains i && Region.free md ops listed i && aAm md ops ord (listed.setIfInBounds i true)
theorem aRa (J:∀w,R w w) (L:∀a b c,R a b->R b c->R a c) {w:World} (N:Region.noSelect ops=true) (O:∀d v c a w,Q (.panic c) (Act.put a d v) w->Q (.panic c) a w) {fuel:Nat} {E:Act->Prop}:∀(j:List Nat) (l:List Oper) (A:Array Bool) (a:Act),
 j.map (fun i=>ops[i]?)=l.map some->aAm md ops j A=true->kC P ops R w E l a->(∀a',E a'->wpF P md ops Q R fuel (rC j A) a' w) ->
 wpF P md ops Q R (fuel+j.length) A a w
 | [],[],_,a,_,_,h,hq=>hq a h
 | [],_ :: _,_,_,h,_,_,_=>by simp at h
 | _ :: _,[],_,_,h,_,_,_=>by simp at h
 | i :: j,o :: l,A,a,hl,hB,h,hq=>by
  simp only[eCa,fYa]at hl;simp only[aAm,eEa]at hB;obtain⟨⟨V,W⟩,X⟩:=hB;have step:∀v,jT P ops R w o v a->kC P ops R w E l (a.put o.dst v)->wpF P md ops Q R (fuel+(j.length+1)) A a w:=fun v U G =>
   aU7 J L hl.1 (Region.noSelect_spec N) (O _ _) _ A a w (Region.free_spec hl.1 W) (by simpa using V) U (aRa J L N O j l _ _ hl.2 X G hq)
  unfold kC at h;split at h
  .rename_i I;obtain⟨v,Y,G⟩:=h;exact step v (.inl ⟨I,Y⟩) G
  .rename_i I;exact step undef (.inr ⟨by simpa using I,rfl⟩) h
theorem aFd (A:∀w,R w w) (E:∀a b c,R a b->R b c->R a c) {w:World} {L:List Oper} (s k:Nat) (G:Region.noSelect L.toArray=true) (I:∀d v c a w,Q (.panic c) (Act.put a d v) w->Q (.panic c) a w) {fuel:Nat} {j:Array Bool} {a:Act}
 (J:Nat.ble (s+k) L.length=true) (N:aAm md L.toArray (List.range' s k) j=true) (h:kC P L.toArray R w (fun a'=>wpF P md L.toArray Q R fuel (rC (List.range' s k) j) a' w) ((L.drop s).take k) a) :
 wpF P md L.toArray Q R (fuel+k) j a w:=by
 have O:=aRa A E G I (fuel:=fuel) (List.range' s k) ((L.drop s).take k) j a (aE8 L k s (Nat.le_of_ble_eq_true J)) N h (fun _ h=>h)
 rwa[List.length_range']at O
theorem aK (i:Nat) {L:List Oper} {o:Oper} {rest:List Oper} {fuel:Nat} {E:Array Bool} {a:Act} {w:World} (U:L.drop i=o :: rest) (I:Region.ready md L.toArray E=[i])
 (h:∀K:Act->World->Prop,(∀N A,R w A->wpF P md L.toArray Q R fuel (E.setIfInBounds i true) N A->K N A) ->
  if Region.wanted o (yielded L.toArray a.tmps)then o.wp P a w K Q else K (a.put o.dst undef) w):wpF P md L.toArray Q R (fuel+1) E a w:=by
 refine⟨fun V=>(by rw[V]at I;cases I),fun j O=>?_⟩;rw[I]at O;obtain rfl:j=i:=by simpa using O
 have G:=h (fun a' A=>R w A/\wpF P md L.toArray Q R fuel (E.setIfInBounds j true) a' A) (fun _ _ W X=>⟨W,X⟩);unfold wpOp;simp only[sK U];split
 .rename_i J;rw[bBa J]at G;exact .inl G
 .rename_i J;rw[bAa J]at G;exact G
theorem fS (i:Nat) {L:List Oper} {o:Oper} {rest:List Oper} {fuel:Nat} {j:Array Bool} {a:Act} {w:World} (G:L.drop i=o :: rest) (h:∀K:Act->World->Prop,(∀E A,R w A->wpF P md L.toArray Q R fuel (j.setIfInBounds i true) E A->K E A)->if Region.wanted o (yielded L.toArray a.tmps)then o.wp P a w K Q else K (a.put o.dst undef) w) (I:Region.ready md L.toArray j=[i]:=by as_aux_lemma=>kernel_rfl):wpF P md L.toArray Q R (fuel+1) j a w:=aK i G I h
theorem bR {j:Array Bool} {a:Act} {w:World} (A:Region.ready md ops j=[]) (h:Q .normal a w):∀fuel,wpF P md ops Q R fuel j a w
 | 0=>⟨A,h⟩
 | _+1=>⟨fun _=>h,fun i E=>by rw[A]at E;cases E⟩
theorem fD {j:Array Bool} {a:Act} {w:World} (h:Q .normal a w) (A:Region.ready md ops j=[]:=by as_aux_lemma=>kernel_rfl):wpF P md ops Q R 0 j a w:=bR A h 0
theorem vH {id:Nat} {a:Act} {w:World} {l:List Oper} (R:World->World->Prop) (j:P.follows .mixedOrders=true)
 (h:wpF P .any l.toArray Q R l.length (Array.replicate l.length false) a w.drew):(Code.region id l.toArray true).wp P Q a w:=by
 refine wp_region_any j ?_;have:=aHt l.length (Array.replicate l.length false) a w.drew h;simpa using this
end
section
variable {P:Program} {Q:Exit->Act->World->Prop} {md:Region.Mode}
end
end
section
open Go.RowKit
section
variable {P:Program} {Q:Exit->Act->World->Prop} {md:Region.Mode}
def aEt (P:Program) (Q:Exit->Act->World->Prop) (ops:Array Oper) (w0:World) (o:Oper) (a:Act) (S:Value->World->Prop):Prop :=
 ∀l:Later w0,∀K:Act->World->Prop,(∀v w',eP l.w w'->S v w'->K (a.put o.dst v) w') ->
  if Region.wanted o (yielded ops a.tmps)then o.wp P a l.w K Q else K (a.put o.dst undef) l.w
theorem wpE_pair (i j:Nat) (V W:Value->World->Prop) {L:List Oper} {E G:Oper} {ri rj:List Oper} {fuel:Nat} {X:Array Bool} {a:Act} {w:World}
 (hi:L.drop i=E :: ri) (hj:L.drop j=G :: rj) (ak:Region.ready md L.toArray X=[i,j])
 (al:Region.ready md L.toArray (X.setIfInBounds i true)=[j]) (am:Region.ready md L.toArray (X.setIfInBounds j true)=[i])
 (an:(i == j)=false) (hc:∀u v,(a.put G.dst v).put E.dst u=(a.put E.dst u).put G.dst v)
 (ap:∀v A I,eP A I->V v A->V v I) (aq:∀v A I,eP A I->W v A->W v I)
 (ar:aEt P Q L.toArray w E a V) (au:aEt P Q L.toArray w G a W)
 (av:∀v,aEt P Q L.toArray w E (a.put G.dst v) V) (aw:∀u,aEt P Q L.toArray w G (a.put E.dst u) W)
 (hK:∀u v,∀l:Later w,V u l.w->W v l.w->wpE P md L.toArray Q eP fuel ((X.setIfInBounds i true).setIfInBounds j true) ((a.put E.dst u).put G.dst v) l.w) :
 wpE P md L.toArray Q eP (fuel+2) X a w:=by
 have ax:i≠j:=by simpa using an
 refine aQ9 i j (sK hi) (sK hj) ak (fun A J K Y=>?_) (fun A J K Y=>?_)
 .refine ar ⟨A,J⟩ K fun u I N Z=>Y _ _ N ?_
  refine aJu j (sK hj) al fun w3 O K' ac=>?_;refine aw u ⟨w3,lt_trans _ _ _ J (lt_trans _ _ _ N O)⟩ K' fun v w4 U hv=>ac _ _ U ?_
  exact hK u v ⟨w4,lt_trans _ _ _ J (lt_trans _ _ _ N (lt_trans _ _ _ O U))⟩ (ap _ _ _ (lt_trans _ _ _ O U) Z) hv
 .refine au ⟨A,J⟩ K fun v I N hv=>Y _ _ N ?_
  refine aJu i (sK hi) am fun w3 O K' ac=>?_;refine av v ⟨w3,lt_trans _ _ _ J (lt_trans _ _ _ N O)⟩ K' fun u w4 U Z=>ac _ _ U ?_
  have h:=hK u v ⟨w4,lt_trans _ _ _ J (lt_trans _ _ _ N (lt_trans _ _ _ O U))⟩ Z (aq _ _ _ (lt_trans _ _ _ O U) hv);rw[hc,gTa _ _ (fVa ax)];exact h
end
end
section
open Go.RowKit
section
variable {P:Program} {ops:Array Oper} {Q:Exit->Act->World->Prop} {a:Act} {w:World} {rest:List Oper} {op:Oper}
theorem gG (v:Value) (j:Region.wanted op (yielded ops a.tmps)=true) (A:(execOp a.eval op).run P w=.ok (.value v) w) (h:wpList P ops Q rest (a.put op.dst v) w):wpList P ops Q (op :: rest) a w:=hSa fun K E=>by
 rw[bBa j];unfold Oper.wp;rw[A];exact E _ _ h
theorem aU9 {w0:World} {Q:Act->Prop} (j:Region.wanted op (yielded ops a.tmps)=false) (h:qM P ops w0 Q rest (a.put op.dst undef)):qM P ops w0 Q (op :: rest) a:=aD fun K A=>by
 rw[bAa (by rw[j];exact Bool.false_ne_true)];exact A _ h
def skipB (ops:Array Oper):List Oper->Act->Bool
 | [],_=>true
 | o :: l,a=>!(Region.wanted o (yielded ops a.tmps)) && skipB ops l (a.put o.dst undef)
def wW:List Oper->Act->Act
 | [],a=>a
 | o :: l,a=>wW l (a.put o.dst undef)
theorem aHv {w0:World} {Q:Act->Prop}:∀(l rest:List Oper) (a:Act),skipB ops l a=true->qM P ops w0 Q rest (wW l a)->qM P ops w0 Q (l++rest) a
 | [],_,_,_,h=>h
 | o :: l,rest,a,hs,h=>by
  unfold skipB at hs;rw[eEa,Bool.not_eq_true']at hs;exact aU9 hs.1 (aHv l rest _ hs.2 h)
theorem jD {w0:World} {Q:Act->Prop} (v:Value) (k:Nat) (j:Region.wanted op (yielded ops a.tmps)=true) (A:∀l:Later w0,(execOp a.eval op).run P l.w=.ok (.value v) l.w)
 (E:skipB ops (rest.take k) (a.put op.dst v)=true) (h:qM P ops w0 Q (rest.drop k) (wW (rest.take k) (a.put op.dst v))):qM P ops w0 Q (op :: rest) a:=aD fun K G=>by
 rw[bBa j];refine⟨v,fun l=>?_,G _ ?_⟩
 .rw[A l];exact⟨rfl,mG _⟩
 .have:=aHv (P:=P) (w0:=w0) (Q:=Q) (rest.take k) (rest.drop k) (a.put op.dst v) E h
  rwa[dHa]at this
end
end
def IsV (w:World) (B size:Nat) (A:Option Addr) (n:Nat) (vs:List Value):Prop :=
 vs.length=n*size/\(0<n->∃b off,A=some ⟨b,off,none⟩/\b<B/\∀i (h:i<vs.length),w.cell? ⟨b,off+i,none⟩=some vs[i])
section
variable {w w':World} {B B' size n:Nat} {A:Option Addr} {vs:List Value}
theorem IsV.nil(w:World)(B size:Nat)(A:Option Addr):IsV w B size A 0 []:=⟨by simp,fun h=>absurd h (by omega)⟩
theorem IsV.keep(h:IsV w B size A n vs)(E:∀p:Addr,p.block<B->w'.cell? p=w.cell? p):IsV w' B size A n vs :=
 ⟨h.1,fun G=>by
  obtain⟨b,J,e,j,L⟩:=h.2 G;exact⟨b,J,e,j,fun i I=>(E _ j).trans (L i I)⟩⟩
theorem IsV.more(h:IsV w B size A n vs)(I:B<=B'):IsV w B' size A n vs :=
 ⟨h.1,fun j=>by
  obtain⟨b,E,e,J,G⟩:=h.2 j;exact⟨b,E,e,by omega,G⟩⟩
theorem IsV.below(h:IsV w B size A n vs)(j:Below B w w'):IsV w' B size A n vs:=h.keep fun _ E=>j.cell E
theorem IsV.on(h:IsV w w.heap.size size A n vs)(j:Below w.heap.size w w'):IsV w' w'.heap.size size A n vs:=(h.below j).more j.size
theorem IsB.vals(h:IsB w B A n xs):IsV w B 1 A n (xs.map u8v) :=
 ⟨by simp[h.1],fun E=>by
  obtain⟨b,G,e,I,J⟩:=h.2 E;exact⟨b,G,e,I,fun i j=>by rw[bNa]at j;rw[J i j,eBa]⟩⟩
theorem IsV.lit(w:World)(t:TypeId)(vs:List Value)(_c m:Nat)(j:vs.length=m*size):IsV (w.alloc (.cells vs.toArray t)) (w.heap.size+1) size (some ⟨w.heap.size,0,none⟩) m vs :=
 ⟨j,fun _=>⟨_,0,rfl,by omega,fun i E=>by
  rw[aA (aJ w t vs.toArray) (0+i)];simp[E]⟩⟩
end
section
variable {P:Program} (w:World)
theorem aH3(base:Nat)(t ty e:TypeId)(i:TypeInfo)(size:Nat)(j:P.underlying t=some (.slice e))(E:P.info? e=some i)
 (v:Value) (n:Nat) (xs:List Value) (G:w.ownsRow base e size v n xs) (c:Nat) (_A:Option Addr):(Builtin.append_ #[t,t] ty #[v,.slice none 0 c]).run P w=.ok v w:=by
 rcases G.2 with⟨rfl,rfl⟩|⟨g,cap,J,rfl,_,_,I,_⟩
 .simp[Builtin.append_,run_underlying j,sizeOf,typeInfo,E,Builtin.lenOf,Builtin.firstCells]
 .simp[Builtin.append_,run_underlying j,sizeOf,typeInfo,E,Builtin.lenOf,Builtin.firstCells,I,storeCells]
theorem aJq(base:Nat)(t ty e:TypeId)(i:TypeInfo)(z:Value)(size bytes:Nat)(O:P.underlying t=some (.slice e))(U:P.info? e=some i)(Y:i.zero=some z)
 (Z:i.size=size) (aa:i.bytes=bytes) (ab:z.cells.size=size) (ac:0<size)
 (v:Value) (n:Nat) (xs:List Value) (L:w.ownsRow base e size v n xs)
 (B:Nat) (A:Option Addr) (m c:Nat) (G:List Value) (J:IsV w B size A m G) (h1:∀u∈G,u.oneCell'=true)
 (af:n+m<=maxLen) (ag:(n+m)*bytes<=140737488355328) (ah:base<=w.heap.size) :
 ∃I w',(Builtin.append_ #[t,t] ty #[v,.slice A m c]).run P w=.ok I w'/\w'.ownsRow base e size I (n+m) (xs++G)/\w.grownBy w' v.ownBlock /\
  (I.ownBlock=v.ownBlock\/I.ownBlock=some w.heap.size):=by
 have V:m=0->G=[]:=fun E=>eGa (by rw[J.1,E];simp)
 rcases A with _|X
 .have W:m=0:=by
   rcases fRa m with E|E
   .exact E
   .obtain⟨_,_,h,_⟩:=J.2 E
    cases h
  have hn:=V W;subst W hn;exact⟨v,w,aH3 w base t ty e i size O U v n xs L c none,by simpa using L,World.grownBy.refl w _,.inl rfl⟩
 .have aj:∀j u,G[j]?=some u->w.cell? (X.add j)=some u:=by
   intro j u N;rcases fRa m with E|E
   .rw[V E]at N
    cases N
   .obtain⟨b,aq,h,_,hc⟩:=J.2 E
    cases h
    obtain⟨hj,rfl⟩:=List.getElem?_eq_some_iff.1 N;rw[<-hc j hj]
    congr 1
    unfold Addr.add;split
    .rename_i E;subst E;rfl
    .rfl
  obtain⟨I,w',am,h2,h3,_,h5⟩:=run_append_own_at (P:=P) w base t ty e i z size bytes O U Y Z aa ab ac v n xs L X m c G J.1 aj h1 af ag ah;exact⟨I,w',am,h2,h3,h5⟩
theorem pM(s x:Operand)(t:TypeId)
 (G:o.op=.call { callee:=.builtin .append,args:=#[s,x],argTypes:=#[t,t] })
 (base:Nat) (e:TypeId) (i:TypeInfo) (z:Value) (size bytes:Nat) (I:P.underlying t=some (.slice e)) (J:P.info? e=some i) (L:i.zero=some z)
 (N:i.size=size) (O:i.bytes=bytes) (U:z.cells.size=size) (V:0<size)
 (v:Value) (n:Nat) (xs:List Value) (W:a.eval s=v) (X:w.ownsRow base e size v n xs)
 (B:Nat) (A:Option Addr) (m c:Nat) (E:List Value) (Y:a.eval x=.slice A m c) (Z:IsV w B size A m E) (h1:∀u∈E,u.oneCell'=true)
 (ab:n+m<=maxLen) (ac:(n+m)*bytes<=140737488355328) (ad:base<=w.heap.size)
 (h:∀j w',w'.ownsRow base e size j (n+m) (xs++E)->w.grownBy w' v.ownBlock->(j.ownBlock=v.ownBlock\/j.ownBlock=some w.heap.size)->K (a.put o.dst j) w'):o.wp P a w K Q:=by
 obtain⟨j,w',ae,h2,h3,h4⟩:=aJq (P:=P) w base t o.type e i z size bytes I J L N O U V v n xs X B A m c E Z h1 ab ac ad;unfold Oper.wp execOp;simp only[G,resolve,invoke,builtin,fJa,fHa,dNa,List.map_toArray,eCa,gHa,W,Y,ae];exact h j w' h2 h3 h4
theorem uU{rest:List Oper}(I:o.guard=none)(s x:Operand)(t:TypeId)
 (J:o.op=.call { callee:=.builtin .append,args:=#[s,x],argTypes:=#[t,t] })
 (base:Nat) (e:TypeId) (i:TypeInfo) (z:Value) (size bytes:Nat) (L:P.underlying t=some (.slice e)) (N:P.info? e=some i) (O:i.zero=some z)
 (U:i.size=size) (V:i.bytes=bytes) (W:z.cells.size=size) (X:0<size)
 (v:Value) (n:Nat) (xs:List Value) (Y:a.eval s=v) (Z:w.ownsRow base e size v n xs)
 (B:Nat) (A:Option Addr) (m c:Nat) (E:List Value) (hx:a.eval x=.slice A m c) (hr:IsV w B size A m E) (h1:∀u∈E,u.oneCell'=true)
 (ad:n+m<=maxLen) (ae:(n+m)*bytes<=140737488355328) (af:base<=w.heap.size)
 (h:∀j w',w'.ownsRow base e size j (n+m) (xs++E)->w.grownBy w' v.ownBlock->(j.ownBlock=v.ownBlock\/j.ownBlock=some w.heap.size)->wpList P G Q rest (a.put o.dst j) w'):wpList P G Q (o :: rest) a w :=
 bRa I fun _ hK=>pM w s x t J base e i z size bytes L N O U V W X v n xs Y Z B A m c E hx hr h1 ad ae af fun j w' h2 h3 h4=>hK _ _ (h j w' h2 h3 h4)
end
theorem aH7:(prog.info? 5).map (fun i=>(i.zero,i.size,i.bytes))=some (some (.int .u8 0),1,1):=by kernel_rfl
def aZ (w:World) (base:Nat) (v:Value) (xs:List UInt8):Prop:=w.ownsRow base 5 1 v xs.length (xs.map u8v)
theorem aCe(xs:List UInt8):∀u∈xs.map u8v,u.oneCell'=true:=by
 intro u j;obtain⟨_,_,rfl⟩:=List.mem_map.1 j
 rfl
section
variable {w w':World} {base:Nat} {v:Value}
theorem aZ.nil(w:World)(base:Nat):aZ w base (.slice none 0 0) []:=cKa w base _ 1
theorem aZ.lt(h:aZ w base v xs):∀k,v.ownBlock=some k->base<=k/\k<w.heap.size:=cYa h
theorem bE{size n:Nat}{xs:List Value}(h:w.ownsRow base e size v n xs):∃A c,v=.slice A n c/\n<=c/\c<=maxLen/\IsV w w.heap.size size A n xs:=by
 rcases h.2 with⟨rfl,L⟩|⟨g,cap,N,rfl,W,j,O,U,X,V⟩
 .exact⟨none,0,by rw[L],by omega,by omega,h.1,fun I=>by omega⟩
 .refine⟨some ⟨g,0,none⟩,cap,rfl,O,U,h.1,fun I=>⟨g,0,rfl,?_,fun i G=>?_⟩⟩
  .rcases eMa g w.heap.size with E|E
   .exact E
   .rw[eZa E]at j;cases j
  .have J:xs[i]?=N[i]?:=by
    rw[<-V,dKa (by rw[<-h.1];exact G)];simp
   rw[aA j (0+i),dWa,<-J,aXa G]
theorem IsV.bytes{B n:Nat}{A:Option Addr}(h:IsV w B 1 A n (xs.map u8v)):IsB w B A n xs :=
 ⟨by simpa using h.1,fun j=>by
  obtain⟨b,G,e,I,J⟩:=h.2 j;refine⟨b,G,e,I,fun i E=>?_⟩;have:=J i (by simpa using E);rw[eBa]at this;exact this⟩
theorem aZ.form(h:aZ w base v xs):∃A c,v=.slice A xs.length c/\xs.length<=c/\c<=maxLen/\IsB w w.heap.size A xs.length xs:=by
 obtain⟨A,c,e,j,E,G⟩:=bE h;exact⟨A,c,e,j,E,G.bytes⟩
theorem aZ.lit(w:World)(base:Nat)(j:List UInt8)(E:base<=w.heap.size)(G:j.length<=1099511627776):aZ (w.alloc (.cells (j.map u8v).toArray 5)) base (.slice (some ⟨w.heap.size,0,none⟩) j.length j.length) j :=
 ⟨by simp,.inr ⟨w.heap.size,j.length,(j.map u8v).toArray,rfl,E,heap_alloc_new w _,aZa _,by unfold maxLen;omega,by simp,by simp[bZa]⟩⟩
theorem rG(t:Nat)(h:t<=255):u8v (UInt8.ofNat t)=.int .u8 (t:Int):=by
 unfold u8v;rw[cGa,dPa (by omega)]
theorem aZ.litv(w:World)(base:Nat)(vals:List Value)(j:List UInt8)(m:Nat)(E:vals=j.map u8v)(G:j.length=m)(I:base<=w.heap.size)(J:m<=1099511627776):aZ (w.alloc (.cells vals.toArray 5)) base (.slice (some ⟨w.heap.size,0,none⟩) m m) j:=by
 subst E G;exact aZ.lit w base j I J
theorem aZ.empty(w:World)(base:Nat)(j:base<=w.heap.size):aZ (w.alloc (.cells #[] 5)) base (.slice (some ⟨w.heap.size,0,none⟩) 0 0) []:=aZ.lit w base [] j (by simp)
theorem aZ.reads{A:Option Addr}{n:Nat}(h:aZ w base (.slice A n c) xs):xs.length=n/\n<=c/\c<=maxLen/\IsB w w.heap.size A n xs:=by
 obtain⟨I,J,e,j,E,G⟩:=h.form
 cases e
 exact⟨rfl,j,E,G⟩
theorem dR(w:World)(row:Option Nat):w.grownBy w row:=⟨rfl,rfl,rfl,aZa _,fun _ _ _=>rfl⟩
theorem fG{a:World}(h:a.grownBy w (some g)){p:Addr}(E:p.block=g)(u:Value):a.grownBy (w.setCell p u) (some g) :=
 ⟨h.os,h.tape,h.output,by simpa[World.setCell]using h.size,fun k G j=>(cLa w p u k (fun e=>j (by rw[e,E]))).trans (h.block k G j)⟩
theorem aZ.store{n:Nat}(h:aZ w base (.slice (some ⟨g,0,none⟩) n c) xs)(j:Nat)(y:UInt8):aZ (w.setCell ⟨g,j,none⟩ (u8v y)) base (.slice (some ⟨g,0,none⟩) n c) (xs.set j y):=by
 have E:=h.reads.1;subst E;have G:=(World.ownsRow.stored h j (u8v y)).1;unfold aZ;rw[cFa,List.map_set];exact G
theorem aZ.weaken(h:aZ w base v xs)(j:base'<=base):aZ w base' v xs :=
 ⟨h.1,h.2.imp id fun⟨g,cap,E,G,I,J⟩=>⟨g,cap,E,G,bJa j I,J⟩⟩
theorem aZ.kept{row:Option Nat}(h:aZ w base v xs)(j:w.grownBy w' row)(E:v.ownBlock=none\/v.ownBlock≠row):aZ w' base v xs:=cDa h j E
theorem aZ.alloc(h:aZ w base v xs)(o:Obj):aZ (w.alloc o) base v xs:=jJa h o
theorem aZ.below(h:aZ w base v xs)(j:Below w.heap.size w w'):aZ w' base v xs :=
 h.kept (row:=none) ⟨j.os,j.tape,j.output,j.size,fun k E _=>j.block k E⟩ (by cases v.ownBlock<;>simp)
end
theorem aAx(w:World){rest:List Oper}(J:o.guard=none)(s x:Operand)
 (L:o.op=.call { callee:=.builtin .append,args:=#[s,x],argTypes:=#[43,43] })
 (base:Nat) (v:Value) (xs:List UInt8) (N:a.eval s=v) (O:aZ w base v xs) (U:base<=w.heap.size)
 (B:Nat) (A:Option Addr) (m c:Nat) (E:List UInt8) (V:a.eval x=.slice A m c) (I:IsV w B 1 A m (E.map u8v)) (hb:xs.length+m<=1099511627776)
 (h:∀j w',aZ w' base j (xs++E)->w.grownBy w' v.ownBlock->(j.ownBlock=v.ownBlock\/j.ownBlock=some w.heap.size)->wpList prog G Q rest (a.put o.dst j) w'):wpList prog G Q (o :: rest) a w:=by
 obtain⟨i,hi,hz,ac,ad⟩:=gZa aH7;have Z:E.length=m:=by simpa using I.1
 refine uU w J s x 43 L base 5 i _ 1 1 gGa hi hz ac ad rfl (by omega) v xs.length (xs.map u8v) N O B A m c (E.map u8v) V I (aCe E) (by unfold maxLen;omega) (by omega) U fun j w' W X Y=>h j w' ?_ X Y
 unfold aZ;rw[cWa,bHa,Z];exact W
def aGh (w:World) (v v':Value):Prop:=v'.ownBlock=v.ownBlock\/∃k,v'.ownBlock=some k/\w.heap.size<=k
theorem bV{w w':World}{base:Nat}{row:Option Nat}(j:w.grownBy w' row)(E:base<=w.heap.size)(G:∀k,row=some k->base<=k):Below base w w':=(bLa base w).grown j E G
theorem nU{w w':World}{o:Obj}{row:Option Nat}(j:(w.alloc o).grownBy w' row):w.grownBy w' row :=
 ⟨j.os,j.tape,j.output,by have:=j.size;simp at this;omega,fun k E G=>(j.block k (by simp;omega) G).trans (hRa w o k E)⟩
theorem moved_mk{w:World}{o:Obj}{v j:Value}(h:j.ownBlock=v.ownBlock\/j.ownBlock=some (w.alloc o).heap.size):aGh w v j:=h.imp id fun e=>⟨_,e,by simp⟩
theorem yR{w:World}{v j:Value}(h:j.ownBlock=v.ownBlock\/j.ownBlock=some w.heap.size):aGh w v j:=h.imp id fun e=>⟨_,e,aZa _⟩
structure fA (w:World) (v:Value) (w':World) (v':Value):Prop where
 grown:w.grownBy w' v.ownBlock
 moved:aGh w v v'
theorem fA.refl(w:World)(v:Value):fA w v w v:=⟨dR _ _,.inl rfl⟩
theorem fA.trans{w G I:World}{v J L:Value}(h:fA w v G J)(k:fA G J I L):fA w v I L:=by
 have U:=h.grown.size;refine⟨⟨k.grown.os.trans h.grown.os,k.grown.tape.trans h.grown.tape,k.grown.output.trans h.grown.output,bJa U k.grown.size,fun i O N=>?_⟩,?_⟩
 .refine(k.grown.block i (by omega) ?_).trans (h.grown.block i O N);rcases h.moved with e|⟨j,e,E⟩
  .rw[e];exact N
  .rw[e];intro e';cases e';omega
 .rcases k.moved with e|⟨j,e,E⟩
  .rcases h.moved with e'|⟨j,e',E⟩
   .exact .inl (e.trans e')
   .exact .inr ⟨j,e.trans e',E⟩
  .exact .inr ⟨j,e,by omega⟩
theorem fA.below{w w':World}{v j:Value}{base:Nat}(h:fA w v w' j)(E:aZ w base v xs)(G:base<=w.heap.size):Below base w w':=bV h.grown G fun k I=>(E.lt k I).1
theorem fA.qG{w w':World}{j:Value}{n:Nat}(h:fA w (.slice none n c) w' j):Below w.heap.size w w':=bV h.grown (aZa _) fun k E=>by cases E
theorem aVb{w:World}{rest:List Oper}(L:o.guard=none)(s x:Operand)
 (N:o.op=.call { callee:=.builtin .append,args:=#[s,x],argTypes:=#[43,43] })
 (base:Nat) (v:Value) (xs j:List UInt8) (c:Nat) (O:a.eval s=v) (U:a.eval x=.slice (some ⟨w.heap.size,0,none⟩) j.length c) (I:aZ w base v xs) (V:base<=w.heap.size) (W:xs.length+j.length<=1099511627776)
 (h:∀E w',aZ w' base E (xs++j)->Below base w w'->w.grownBy w' v.ownBlock->aGh w v E->wpList prog G Q rest (a.put o.dst E) w'):wpList prog G Q (o :: rest) a (w.alloc (.cells (j.map u8v).toArray t)) :=
 aAx _ L s x N base v xs O (I.alloc _) (by simp;omega) (w.heap.size+1) _ j.length c j U (IsV.lit w t _ c _ (by simp)) W fun E w' X J Y =>
  h E w' X (bV (nU J) V fun k Z=>(I.lt k Z).1) (nU J) (moved_mk Y)
theorem xD{w:World}{vals:List Value}{rest:List Oper}(I:o.guard=none)(s x:Operand)
 (J:o.op=.call { callee:=.builtin .append,args:=#[s,x],argTypes:=#[43,43] })
 (base:Nat) (v:Value) (xs E:List UInt8) (m c:Nat) (L:a.eval s=v) (N:a.eval x=.slice (some ⟨w.heap.size,0,none⟩) m c) (O:vals=E.map u8v) (U:E.length=m) (V:aZ w base v xs) (W:base<=w.heap.size) (X:xs.length+m<=1099511627776)
 (h:∀j w',aZ w' base j (xs++E)->fA w v w' j->wpList prog G Q rest (a.put o.dst j) w'):wpList prog G Q (o :: rest) a (w.alloc (.cells vals.toArray t)):=by
 subst O U;exact aVb I s x J base v xs E c L N V W X fun j w' Y _ Z h4=>h j w' Y ⟨Z,h4⟩
theorem sD{w:World}{rest:List Oper}(I:o.guard=none)(s x:Operand)
 (J:o.op=.call { callee:=.builtin .append,args:=#[s,x],argTypes:=#[43,43] })
 (base:Nat) (v:Value) (xs E:List UInt8) (A:Option Addr) (m c B:Nat) (L:a.eval s=v) (N:a.eval x=.slice A m c) (O:aZ w base v xs) (U:IsB w B A m E) (V:base<=w.heap.size) (W:xs.length+m<=1099511627776)
 (h:∀j w',aZ w' base j (xs++E)->fA w v w' j->wpList prog G Q rest (a.put o.dst j) w'):wpList prog G Q (o :: rest) a w :=
 aAx _ I s x J base v xs L O V B A m c E N U.vals W fun j w' X Y Z=>h j w' X ⟨Y,yR Z⟩
theorem aVc{w:World}{rest:List Oper}(N:o.guard=none)(s x:Operand)
 (O:o.op=.call { callee:=.builtin .append,args:=#[s,x],argTypes:=#[43,43] })
 (base:Nat) (v:Value) (xs E:List UInt8) (A:Option Addr) (m c B:Nat) (U:a.eval s=v) (V:a.eval x=.slice A m c) (I:aZ w base v xs) (W:IsB w B A m E) (J:base<=w.heap.size) (X:xs.length+m<=1099511627776)
 (h:∀j w',aZ w' base j (xs++E)->Below base w w'->w.grownBy w' v.ownBlock->aGh w v j->wpList prog G Q rest (a.put o.dst j) w'):wpList prog G Q (o :: rest) a w :=
 aAx _ N s x O base v xs U I J B A m c E V W.vals X fun j w' Y L Z =>
  h j w' Y (bV L J fun k hk=>(I.lt k hk).1) L (yR Z)
theorem own:ownKnob prog.godebug=none:=by kernel_rfl
theorem laidOut:laidOutB prog=true:=by kernel_rfl
section
variable {H:Type} {enc:TypeId×Value->H} {w:World} {spare:Nat->Bool} {held:Bool}
theorem aR3{y:DataW H×List MemPlace}(h:DataW.trod enc prog w 0 spare held m 43 [v]=some y) :
 ∃A n c xs,v=.slice A n c/\IsB w w.heap.size A n xs/\n<=c/\c<=maxLen:=by
 rcases open_ints gGa underlying5 (by kernel_rfl) h with⟨G,_⟩|⟨a,l,c,j,G,_,W,X,Y,_,L,Z⟩
 .cases G
  exact⟨none,0,0,[],rfl,IsB.nil _ _ _,aZa _,by omega⟩
 .cases G
  have ab:l<=j.length:=by rw[Y];split<;>omega
  refine⟨some a,l,c,(j.take l).map fun z=>UInt8.ofNat z.toNat,rfl,⟨by rw[bNa,bGa];omega,fun hp=>?_⟩,W,X⟩;obtain⟨b,E,V⟩:=a;have I:=L 0 (by omega);have O:V=none:=by simpa[Addr.add]using World.cell?_spot I
  subst O;refine⟨b,E,rfl,by simpa[Addr.add]using dUa w _ I,fun i N=>?_⟩;have hi':i<l:=by rw[bNa,bGa]at N;omega
  have J:=L i (by omega);rw[show(Addr.add ⟨b,E,none⟩ i:Addr)=⟨b,E+i,none⟩ by unfold Addr.add;split<;>simp_all]at J;have U:j.getD i 0=j[i]'(by omega):=by simp[List.getD,show i<j.length by omega]
  rw[J,U];have hw:=u8_wf (Z _ (fNa (by omega:i<j.length)));simp only[eBa,gRa,u8v]
  congr 2
  simp only[cGa];omega
theorem rT{y:DataW H×List MemPlace}(h:DataW.trod enc prog w 0 spare held m 3 [v]=some y):∃n:Int,v=.int .i64 n/\(Lit.int .i64 n).wf=true:=by
 obtain⟨n,e,_,j⟩:=gLa hTa h
 cases e
 exact⟨n,rfl,j⟩
theorem uQ{y:DataW H×List MemPlace}(h:DataW.trod enc prog w 0 spare held m 4 [v]=some y):∃b:Bool,v=.bool b:=by
 obtain⟨n,e,_⟩:=DataW.trod_bool underlying4 h
 cases e
 exact⟨n,rfl⟩
theorem add_plain(b j k:Nat):Addr.add ⟨b,j,none⟩ k=⟨b,j+k,none⟩:=by unfold Addr.add;split<;>simp_all
theorem flat_get(s:Nat):∀(A:List (List Value)),(∀r∈A,r.length=s)->∀i j,j<s->A.flatten[i*s+j]?=(A[i]?).bind (·[j]?)
 | [],_,i,j,_=>by simp
 | r :: A,h,0,j,hj=>by
  have E:=h r (by simp);simp only[Nat.zero_mul,dWa,gSa];rw[cEa (by omega)];simp
 | r :: A,h,i+1,j,hj=>by
  have E:=h r (by simp);have ih:=flat_get s A (fun x G=>h x (by simp[G])) i j hj;rw[gSa,cJa (by rw[E,Nat.succ_mul];omega),show(i+1)*s+j - r.length=i*s+j by rw[E,Nat.succ_mul];omega,ih];simp
theorem xK(s:Nat):∀(j:List (List Value)),(∀r∈j,r.length=s)->j.flatten.length=j.length*s
 | [],_=>by simp
 | r :: j,h=>by
  rw[gSa,bHa,h r (by simp),xK s j (fun x A=>h x (by simp[A])),eFa,Nat.succ_mul];omega
theorem aT9{t e size:Nat}(F:List Value->Prop)(ht:prog.underlying t=some (.slice e))(hs:prog.cellsOf e=size)(U:0<size)
 (hF:∀(n:Nat) (cs:List Value) (y:DataW H×List MemPlace),DataW.trod enc prog w 0 spare held n e cs=some y->cs.length=size->F cs)
 {m:Nat} {v:Value} {y:DataW H×List MemPlace} (h:DataW.trod enc prog w 0 spare held m t [v]=some y) :
 ∃(A:Option Addr) (n c:Nat) (V:List (List Value)),v=.slice A n c/\V.length=n/\(∀r∈V,r.length=size/\F r)/\IsV w w.heap.size size A n V.flatten/\n<=c/\c<=maxLen:=by
 rcases open_slice ht h with⟨Y,_⟩|⟨a,len,cap,k,n,D,Pl,Y,hb,hl,hm,hk,hx,E⟩
 .cases Y
  exact⟨none,0,0,[],rfl,rfl,fun r G=>(by cases G),IsV.nil _ _ _ _,aZa _,by omega⟩
 .cases Y
  have au:len<=k:=by rw[hk];split<;>omega
  have aa:∀i,∃cs:List Value,i<len->cs.length=size/\F cs/\∀j (W:j<size),w.cell? ((a.add (i*size)).add j)=cs[j]?:=by
   intro i;by_cases ar:i<len
   .obtain⟨ak,J,L⟩:=E i (by omega);rw[hs]at J;obtain⟨_,ae,al⟩:=World.cells?_some J;exact⟨ak,fun _=>⟨ae,hF _ _ _ L ae,fun j W=>al j W⟩⟩
   .exact⟨[],fun h=>absurd h ar⟩
  let R:Nat->List Value:=fun i=>Classical.choose (aa i)
  have I:∀i,i<len->(R i).length=size/\F (R i)/\∀j (W:j<size),w.cell? ((a.add (i*size)).add j)=(R i)[j]?:=fun i=>Classical.choose_spec (aa i)
  have X:∀r∈(List.range len).map R,r.length=size/\F r:=by
   intro r G;obtain⟨i,E,rfl⟩:=List.mem_map.1 G;exact⟨(I i (List.mem_range.1 E)).1,(I i (List.mem_range.1 E)).2.1⟩
  have N:=xK size _ (fun r G=>(X r G).1);rw[bNa,fPa]at N;refine⟨some a,len,cap,(List.range len).map R,rfl,by simp,X,⟨N,fun Z=>?_⟩,hl,hm⟩;obtain⟨b,am,an⟩:=a;have O:=(I 0 Z).2.2 0 U;have ai:(R 0)[0]?=some ((R 0)[0]'(by rw[(I 0 Z).1];exact U)):=aXa _;rw[ai]at O;simp only[Nat.zero_mul,Addr.add,jEa]at O;have aj:an=none:=by simpa using World.cell?_spot O
  subst aj;refine⟨b,am,rfl,by simpa using dUa w _ O,fun i E=>?_⟩;rw[N]at E;have ab:i / size<len:=Nat.div_lt_of_lt_mul (by rw[hAa];exact E);have ac:i % size<size:=eKa _ U;have ad:i / size*size+i % size=i:=by rw[hAa];exact Nat.div_add_mod i size
  have J:=(I _ ab).2.2 _ ac;have L:=flat_get size ((List.range len).map R) (fun r G=>(X r G).1) (i / size) (i % size) ac;rw[ad,fGa,gXa ab]at L;simp only[eQa,Option.bind_some]at L;rw[<-L,aXa (by rw[N];exact E)]at J;rw[<-J,add_plain,add_plain,eVa,ad]
end
theorem aNd{w:World}{size:Nat}{xs:List Value}(h:w.ownsRow j e size v n xs){g:Nat}(A:g<j):v.ownBlock=none\/v.ownBlock≠some g:=by
 rcases hob:v.ownBlock with _|k
 .exact .inl rfl
 .right;intro e;have E:=(cYa h k hob).1
  cases e
  omega
theorem aZ.away{w:World}{g:Nat}(h:aZ w j v xs)(A:w.grownBy w' (some g))(E:g<j):aZ w' j v xs:=h.kept A (aNd h E)
theorem eY{w:World}{g:Nat}{t:TypeId}{cs:Array Value}(h:w.heap[g]?=some (.cells cs t (0,0)))(i:Nat)(v:Value) :
 ∃w',w.setCell ⟨g,i,none⟩ v=w'/\w'.heap[g]?=some (.cells (cs.setIfInBounds i v) t (0,0))/\w.grownBy w' (some g) :=
 ⟨_,rfl,bP h i v,fG (dR _ _) rfl _⟩
theorem nH{w:World}{A:Nat}{e':TypeId}{size G:Nat}{xs I:List Value}(h:w.ownsRow A e size v n xs)(J:w.ownsRow base' e' E u G I)(L:e≠e'):v.ownBlock=none\/v.ownBlock≠u.ownBlock:=by
 rcases h.2 with⟨rfl,_⟩|⟨g,cap,U,rfl,V,N,_⟩
 .exact .inl rfl
 .rcases J.2 with⟨rfl,_⟩|⟨O,W,X,rfl,Y,j,_⟩
  .exact .inr (by intro e;cases e)
  .right;intro e;have:g=O:=by simpa[Value.ownBlock]using e
   subst this;rw[N]at j;simp at j;exact L j.2
theorem jC{w:World}{size:Nat}{xs:List Value}(h:w.ownsRow j e size v n xs)(A:base'<=j):w.ownsRow base' e size v n xs :=
 ⟨h.1,h.2.imp id fun⟨g,cap,E,G,I,J⟩=>⟨g,cap,E,G,bJa A I,J⟩⟩
theorem mU{w:World}{A:Nat}{size:Nat}{xs:List Value}(h:w.ownsRow A e size v n xs)(j:Below w.heap.size w w'):w'.ownsRow A e size v n xs :=
 cDa h ⟨j.os,j.tape,j.output,j.size,fun k E _=>j.block k E⟩ (row:=none) (by cases v.ownBlock<;>simp)
theorem aNu{w:World}{g:Nat}{size:Nat}{xs:List Value}(h:w.ownsRow j e size v n xs)(A:w.grownBy w' (some g))(E:g<j):w'.ownsRow j e size v n xs:=cDa h A (aNd h E)
section
variable {w:World} {g:Nat} {t:TypeId} {a0 a1 a2 a3 a4 a5:Value}
end
def beB (N:Nat):Nat->List UInt8
 | 0=>[]
 | k+1=>UInt8.ofNat (N / 256 ^ k) :: beB N k
theorem aR(N:Nat):∀k,(beB N k).length=k
 | 0=>rfl
 | k+1=>by simp[beB,aR N k]
theorem aQ3(x:Nat):Value.int .u8 ((x:Int) % 256)=u8v (UInt8.ofNat x):=by
 unfold u8v;rw[cGa]
 congr 1
theorem aKp(j:Nat)(A:j<=7):(2:Int) ^ min (8*(j:Int)).toNat 64=((256 ^ j:Nat):Int):=by
 rw[show(8*(j:Int)).toNat=8*j by omega,show min (8*j) 64=8*j by omega,Int.pow_mul];simp
theorem aQu(E:Nat)(v:Value)(xs:List UInt8)(N k:Nat)(w:World)(U:aZ w E v xs)(Y:E<=w.heap.size)(_hN:N<18446744073709551616)(Z:k<=8)(hl:xs.length<=549755813888) :
 Cl 100 #[v,.int .u64 (N:Int),.int .i64 (k:Int)] w fun e w'=>∃L,e=.returned L/\aZ w' E L (xs++beB N k)/\fA w v w' L:=by
 go_enter func100,ntmps100;go_wp2_with fail
 go_loopw [0,7] (fun u i wr=>∃(j:Nat) (A:List UInt8),j<=k/\i=.int .i64 ((j:Int) - 1)/\A++beB N j=beB N k/\aZ wr E u (xs++A)/\fA w v wr u) (fun _ i _=>(intOf i+1).toNat)
 case atStart=>exact⟨k,[],aZa _,rfl,rfl,by simpa using U,fA.refl _ _⟩
 case round =>
  obtain⟨j,A,hj,rfl,G,O,I⟩:=hrel;have ab:A.length<=8:=by
   have:=fFa List.length G;rw[bHa,aR,aR]at this;omega
  replace ⟨G,O,I⟩:=q_3 G O I;rcases j with _|i
  .go_wp2_with fail
   go_ret;have J:=G.out;simp only[beB,ePa]at J;exact⟨_,rfl,J▸O,I⟩
  .have V:(((i+1:Nat):Int) - 1)=(i:Int):=by omega
   rw[V];have ac:=aKp i (by omega);go_wp2_with (at_builtin;refine xD rfl (.tmp 16) (.tmp 22) rfl E _ (xs++A) [UInt8.ofNat (N / 256 ^ i)] 1 1 rfl rfl ?_ rfl ?_ ?_ ?_ ?_)
   .rw[eCa,gHa,<-aQ3]
    congr 3
    rw[Int.pow_mul];simp
   .exact O
   .have:=I.grown.size;omega
   .rw[bHa];omega
   intro L w' W X;go_wp2_with fail
   refine⟨⟨i,A++[UInt8.ofNat (N / 256 ^ i)],by omega,by go_num,?_,?_,I.trans X⟩,by simp[intOf]<;>omega⟩
   .have J:=G.out;simp only[beB]at J;rw[<-J];simp
   .simpa using W
theorem aB9(E G:Int)(N k:Nat)(I:E=(N:Int))(J:G=(k:Int))(j:Nat)(v:Value)(xs:List UInt8)(w:World)(L:aZ w j v xs)(O:j<=w.heap.size)(hN:N<18446744073709551616)(U:k<=8)(V:xs.length<=549755813888) :
 Cl 100 #[v,.int .u64 E,.int .i64 G] w fun e w'=>∃A,e=.returned A/\aZ w' j A (xs++beB N k)/\fA w v w' A:=by
 subst I J;exact aQu j v xs N k w L O hN U V
def nS (k:Nat) (ns:List Nat):List UInt8:=ns.flatMap fun N=>beB N k
theorem jU(k:Nat)(ns:List Nat):(nS k ns).length=ns.length*k:=by
 induction ns with
 | nil=>simp[nS]
 | cons N ns ih=>simp only[nS,jFa,bHa,aR,eFa,Nat.succ_mul]at ih ⊢;omega
theorem aS0(k:Nat)(ns:List Nat)(j:Nat)(h:j<ns.length):nS k (ns.take (j+1))=nS k (ns.take j)++beB ns[j] k:=by
 unfold nS;rw[fBa h,hUa];simp
def u64v (N:Nat):Value:=.int .u64 (N:Int)
theorem aP4(G:Nat)(v:Value)(xs:List UInt8)(k:Nat)(X:Int)(af:X=(k:Int))(A:Option Addr)(n c:Nat)(ns:List Nat)(w:World)(ag:aZ w G v xs)(ai:G<=w.heap.size)(Y:k<=8)(hl:xs.length<=274877906944)
 (B:Nat) (Z:IsV w B 1 A n (ns.map u64v)) (ah:∀b J,A=some ⟨b,J,none⟩->some b≠v.ownBlock) (ak:B<=w.heap.size) (hn:n<=65536) (hN:∀N∈ns,N<18446744073709551616) :
 Cl 93 #[v,.int .i64 X,.slice A n c] w fun e w'=>∃L,e=.returned L/\aZ w' G L (xs++nS k ns)/\fA w v w' L:=by
 subst af;have am:ns.length=n:=by simpa using Z.1
 go_enter func93,ntmps93;go_wp2_with fail
 go_loopw [0,11] (fun u i wr=>∃j:Nat,j<=n/\i=.int .i64 (j:Int)/\aZ wr G u (xs++nS k (ns.take j))/\fA w v wr u) (fun _ i _=>n - (intOf i).toNat)
 case atStart=>exact⟨0,dEa _,rfl,by simpa[nS]using ag,fA.refl _ _⟩
 case round =>
  obtain⟨j,hj,rfl,O,E⟩:=hrel;replace ⟨O,E⟩:=q_2 O E;by_cases ap:j<n
  .obtain⟨b,J,rfl,ao,ae⟩:=Z.2 (by omega);have I:j<ns.length:=by omega
   have aa:wr.cell? ⟨b,J+j,none⟩=some (u64v ns[j]):=by
    have h1:=ae j (by rw[bNa];exact I);rw[eBa]at h1;rw[<-h1];exact dFa (E.grown.block b (by omega) (ah b J rfl))
   have ac:=hN _ (fNa I);have ht:=q_ (aS0 k ns j I);obtain⟨N,U⟩:=eX (ns[j]);rw[U]at aa ac ht;clear ae;replace U:=q_ U;unfold u64v at aa;go_wp2_with fail
   refine(aQu G _ _ N k _ O (by have:=E.grown.size;omega) ac Y ?_).mono ?_
   .rw[bHa,jU,bGa];have:min j ns.length*k<=65536*8:=hPa (by omega) Y;omega
   rintro e w' ⟨L,rfl,V,W⟩;replace ⟨V,W⟩:=q_2 V W;go_wp2_with fail
   exact⟨⟨j+1,by omega,by go_num,by rw[ht.out,<-eDa];exact V,E.trans W⟩,by simp[intOf];omega⟩
  .have I:ns.take j=ns:=bZa (by omega);go_wp2_with fail
   go_ret;exact⟨_,rfl,by rw[<-I];exact O,E⟩
theorem fA.ofAlloc{w:World}{o:Obj}{j:Value}(h:fA (w.alloc o) v w' j):fA w v w' j :=
 ⟨nU h.grown,h.moved.imp id fun⟨k,e,A⟩=>⟨k,e,by simp at A;omega⟩⟩
theorem aBu(A:Nat)(v:Value)(xs:List UInt8)(k:Nat)(E:Int)(I:E=(k:Int))(ns:List Nat)(vals:List Value)(J:vals=ns.map u64v)(m c:Nat)(L:ns.length=m)(t:TypeId)(w:World)(b:Nat)(O:w.heap.size=b)
 (G:aZ w A v xs) (aa:A<=w.heap.size) (U:k<=8) (V:xs.length<=274877906944) (W:m<=65536) (hN:∀N∈ns,N<18446744073709551616) :
 Cl 93 #[v,.int .i64 E,.slice (some ⟨b,0,none⟩) m c] (w.alloc (.cells vals.toArray t)) fun e w'=>∃j,e=.returned j/\aZ w' A j (xs++nS k ns)/\fA w v w' j:=by
 subst J L O;refine(aP4 A v xs k E I (some ⟨w.heap.size,0,none⟩) ns.length c ns (w.alloc (.cells (ns.map u64v).toArray t)) (G.alloc _) (by simp;omega) U V (w.heap.size+1) (IsV.lit w t _ c _ (by simp)) ?_ (by simp) W hN).mono ?_
 .intro b ab e Z;have:=(G.lt b Z.symm).2
  cases e
  omega
 .rintro e w' ⟨j,rfl,X,Y⟩;exact⟨j,rfl,X,Y.ofAlloc⟩
section
variable {α:Type} {f:α->List Value} {size:Nat}
def IsT (f:α->List Value) (size:Nat) (w:World) (B:Nat) (A:Option Addr) (n:Nat) (es:List α):Prop:=es.length=n/\IsV w B size A n (es.map f).flatten
theorem IsT.at{w:World}{E:List α}(I:∀x,(f x).length=size)(_hs:0<size)(h:IsT f size w B A n E)(hi:i<n) :
 ∃b G x,A=some ⟨b,G,none⟩/\b<B/\E[i]?=some x/\∀j u,(f x)[j]?=some u->w.cell? ⟨b,G+i*size+j,none⟩=some u:=by
 have U:=h.1;have V:=xK size (E.map f) (fun r J=>by obtain⟨x,_,rfl⟩:=List.mem_map.1 J;exact I x);rw[bNa,U]at V;obtain⟨b,G,e,X,Y⟩:=h.2.2 (by omega);have N:E[i]?=some (E[i]'(by omega)):=aXa _;refine⟨b,G,_,e,X,N,fun j u L=>?_⟩;have W:j<size:=by
  have:=(List.getElem?_eq_some_iff.1 L).1
  rwa[I]at this
 have O:=flat_get size (E.map f) (fun r J=>by obtain⟨x,_,rfl⟩:=List.mem_map.1 J;exact I x) i j W;rw[fGa,N,eQa,Option.bind_some,L]at O;obtain⟨Z,aa⟩:=List.getElem?_eq_some_iff.1 O;rw[eVa,Y _ Z,aa]
theorem IsT.below{w:World}{j:List α}(h:IsT f size w B A n j)(E:Below B w w'):IsT f size w' B A n j:=⟨h.1,h.2.below E⟩
theorem IsT.on{w:World}{j:List α}(h:IsT f size w w.heap.size A n j)(E:Below w.heap.size w w'):IsT f size w' w'.heap.size A n j:=⟨h.1,h.2.on E⟩
theorem IsT.take{w:World}{j:List α}(I:∀x,(f x).length=size)(h:IsT f size w B A n j)(J:m<=n):IsT f size w B A m (j.take m):=by
 have N:=h.1;have O:=xK size (j.map f) (fun r G=>by obtain⟨x,_,rfl⟩:=List.mem_map.1 G;exact I x);have E:=xK size ((j.take m).map f) (fun r G=>by obtain⟨x,_,rfl⟩:=List.mem_map.1 G;exact I x);rw[bNa]at O E;rw[bGa,N,fCa J]at E;refine⟨by rw[bGa];omega,E,fun Y=>?_⟩;have Z:m*size<=n*size:=dGa _ J;obtain⟨b,V,e,W,X⟩:=h.2.2 (by omega);refine⟨b,V,e,W,fun i L=>?_⟩;have hi':i<m*size:=by rwa[E]at L
 rw[X i (by rw[O,N];omega)];have U:(j.map f).flatten=((j.take m).map f).flatten++((j.drop m).map f).flatten:=by
  rw[<-List.flatten_append,<-cWa,dHa]
 congr 1
 simp only[U];rw[List.getElem_append_left L]
section
variable {H:Type} {enc:TypeId×Value->H} {w:World} {spare:Nat->Bool} {held:Bool}
theorem uE{t e:Nat}(G:α->Prop)(W:prog.underlying t=some (.slice e))(X:prog.cellsOf e=size)(Y:0<size)
 (Z:∀(n:Nat) (cs:List Value) (y:DataW H×List MemPlace),DataW.trod enc prog w 0 spare held n e cs=some y->cs.length=size->∃x,cs=f x/\G x)
 {m:Nat} {v:Value} {y:DataW H×List MemPlace} (h:DataW.trod enc prog w 0 spare held m t [v]=some y) :
 ∃A n c j,v=.slice A n c/\(IsT f size w w.heap.size A n j/\∀x∈j,G x)/\n<=c/\c<=maxLen:=by
 obtain⟨A,n,c,E,e,hl,O,U,h1,h2⟩:=aT9 (size:=size) (fun cs=>∃x,cs=f x/\G x) W X Y Z h;have hb:∃j:List α,j.length=E.length/\E.flatten=(j.map f).flatten/\∀x∈j,G x:=by
  clear hl U
  induction E with
  | nil=>exact⟨[],rfl,rfl,fun x I=>by cases I⟩
  | cons r E ih =>
   obtain⟨j,V,L,N⟩:=ih (fun r aa=>O r (by simp[aa]));obtain⟨_,x,rfl,I⟩:=O r (by simp);refine⟨x :: j,by simp[V],by rw[gSa,L];rfl,fun z J=>?_⟩;rcases List.mem_cons.1 J with rfl|J
   .exact I
   .exact N z J
 obtain⟨j,V,L,N⟩:=hb;exact⟨A,n,c,j,e,⟨⟨by omega,L▸U⟩,N⟩,h1,h2⟩
end
end
theorem of8m {a b:Nat} (h:a % 256=b % 256):UInt8.ofNat a=UInt8.ofNat b:=by
 apply UInt8.toNat.inj;rw[cGa,cGa];omega
theorem aXv (a b:Nat) (j:b<256):∀k,beB (a*256+b) (k+1)=beB a k++[UInt8.ofNat b]
 | 0=>by
  simp only[beB,cVa,Nat.pow_zero,Nat.div_one];rw[of8m (show(a*256+b) % 256=b % 256 by omega)]
 | k+1=>by
  have ih:=aXv a b j k;rw[beB,ih,beB,eNa]
  congr 2
  rw[gUa,hAa (256 ^ k) 256,<-Nat.div_div_eq_div_mul]
  congr 1
  omega
theorem aXy (xs:List UInt8) (p:Nat):∀k,p+k<=xs.length->beB (beN xs p k) k=(xs.drop p).take k
 | 0,_=>by simp[beB]
 | k+1,h=>by
  have ih:=aXy xs p k (by omega);have A:=(xs.getD (p+k) 0).toNat_lt;rw[beN,aXv _ _ (by omega),ih,dMa,eJa]
  congr 1
  have j:xs[p+k]?=some xs[p+k]:=aXa (by omega);simp[List.getD,j]
section
open Go.RowKit
section
variable {P:Program} {Q:Exit->Act->World->Prop} {md:Region.Mode} {R:World->World->Prop}
theorem rH (i j:Nat) {L:List Oper} {O U:Oper} {X Y:List Oper} {fuel:Nat} {I:Array Bool} {a:Act} {w:World} (Z:L.drop i=O :: X) (hj:L.drop j=U :: Y) (V:Region.ready md L.toArray I=[i,j])
 (h1:∀K:Act->World->Prop,(∀N A,R w A->wpF P md L.toArray Q R fuel (I.setIfInBounds i true) N A->K N A) ->
  if Region.wanted O (yielded L.toArray a.tmps)then O.wp P a w K Q else K (a.put O.dst undef) w)
 (J:∀K:Act->World->Prop,(∀N A,R w A->wpF P md L.toArray Q R fuel (I.setIfInBounds j true) N A->K N A) ->
  if Region.wanted U (yielded L.toArray a.tmps)then U.wp P a w K Q else K (a.put U.dst undef) w):wpF P md L.toArray Q R (fuel+1) I a w:=by
 refine⟨fun h0=>(by rw[h0]at V;cases V),fun k W=>?_⟩;rw[V]at W;have hk':k=i\/k=j:=by simpa using W
 rcases hk' with rfl|rfl
 .have E:=h1 (fun a' A=>R w A/\wpF P md L.toArray Q R fuel (I.setIfInBounds k true) a' A) (fun _ _ J E=>⟨J,E⟩);unfold wpOp;simp only[sK Z];split
  .rename_i G;rw[bBa G]at E;exact .inl E
  .rename_i G;rw[bAa G]at E;exact E
 .have E:=J (fun a' A=>R w A/\wpF P md L.toArray Q R fuel (I.setIfInBounds k true) a' A) (fun _ _ J E=>⟨J,E⟩);unfold wpOp;simp only[sK hj];split
  .rename_i G;rw[bBa G]at E;exact .inl E
  .rename_i G;rw[bAa G]at E;exact E
end
section
variable {Q:Exit->Act->World->Prop} {md:Region.Mode}
theorem aLc {w:World} {o:Oper} {a:Act} {K:Act->World->Prop} (s x:Operand)
 (J:o.op=.call { callee:=.builtin .append,args:=#[s,x],argTypes:=#[43,43] })
 (G:Nat) (v:Value) (xs j:List UInt8) (A:Option Addr) (m c B:Nat) (L:a.eval s=v) (N:a.eval x=.slice A m c) (O:aZ w G v xs) (I:IsB w B A m j) (U:G<=w.heap.size) (hb:xs.length+m<=1099511627776)
 (h:∀E w',aZ w' G E (xs++j)->fA w v w' E->K (a.put o.dst E) w'):o.wp prog a w K Q:=by
 obtain⟨i,Z,hz,ab,ac⟩:=gZa aH7;have Y:j.length=m:=I.1;refine pM w s x 43 J G 5 i _ 1 1 gGa Z hz ab ac rfl (by omega) v xs.length (xs.map u8v) L O B A m c (j.map u8v) N I.vals (aCe j) (by unfold maxLen;omega) (by omega) U fun E w' V W X=>h E w' ?_ ⟨W,yR X⟩
 unfold aZ;rw[cWa,bHa,Y];exact V
end
structure Grown (g:Nat) (w0:World) where
 w:World
 hg:w0.grownBy w (some g)
instance grown_nonempty (g:Nat) (w0:World):Nonempty (Grown g w0):=⟨⟨w0,dR _ _⟩⟩
theorem aMt {row:Option Nat} (a b c:World) (h:a.grownBy b row) (k:b.grownBy c row):a.grownBy c row :=
 ⟨k.os.trans h.os,k.tape.trans h.tape,k.output.trans h.output,bJa h.size k.size,fun i j A=>(k.block i (bKa j h.size) A).trans (h.block i j A)⟩
theorem aH6 {w w':World} {g:Nat} (j:Below w.heap.size w w'):w.grownBy w' (some g):=⟨j.os,j.tape,j.output,j.size,fun k A _=>j.block k A⟩
def zY (g:Nat) (a b:World):Prop:=a.grownBy b (some g)
section
variable {P:Program} {Q:Exit->Act->World->Prop} {md:Region.Mode}
theorem aRb (g s k:Nat) {w:World} {L:List Oper} (A:Region.noSelect L.toArray=true) (E:∀d v c a w,Q (.panic c) (Act.put a d v) w->Q (.panic c) a w) {fuel:Nat} {j:Array Bool} {a:Act}
 (G:Nat.ble (s+k) L.length=true) (I:aAm md L.toArray (List.range' s k) j=true) (h:kC P L.toArray (zY g) w (fun a'=>wpF P md L.toArray Q (zY g) fuel (rC (List.range' s k) j) a' w) ((L.drop s).take k) a) :
 wpF P md L.toArray Q (zY g) (fuel+k) j a w:=aFd (fun _=>dR _ _) (fun a b c h k=>aMt a b c h k) s k A E G I h
theorem aK9 {g:Nat} {j:Array Oper} {w0:World} {Q:Act->Prop} {a:Act} {o:Oper} {rest:List Oper}
 (h:∀K:Act->Prop,(∀a,kC P j (zY g) w0 Q rest a->K a)->if Region.wanted o (yielded j a.tmps)then ∃v,(∀l:Grown g w0,quietIn P Eq l.w v ((execOp a.eval o).run P l.w))/\K (a.put o.dst v)else K (a.put o.dst undef)):kC P j (zY g) w0 Q (o :: rest) a:=by
 have A:=h _ (fun _ h=>h);unfold kC;split at A
 .obtain⟨v,G,I⟩:=A;rw[bBa (by assumption)];exact⟨v,fun w E=>G ⟨w,E⟩,I⟩
 .rw[bAa (by assumption)];exact A
end
end
section
open Go.RowKit
structure aV (S:Nat) (P:Nat->Prop) (a b:World):Prop where
 os:b.os=a.os
 tape:b.tape=a.tape
 output:b.output=a.output
 size:a.heap.size<=b.heap.size
 block:∀k,k<S->¬ P k->b.heap[k]?=a.heap[k]?
theorem gQ (S:Nat) (P:Nat->Prop) (a:World):aV S P a a:=⟨rfl,rfl,rfl,aZa _,fun _ _ _=>rfl⟩
theorem eQ (S:Nat) (P:Nat->Prop) (a b c:World) (h:aV S P a b) (k:aV S P b c):aV S P a c :=
 ⟨k.os.trans h.os,k.tape.trans h.tape,k.output.trans h.output,bJa h.size k.size,fun i j A=>(k.block i j A).trans (h.block i j A)⟩
theorem bT {S:Nat} {P:Nat->Prop} {B:Nat} {a b:World} (h:Below B a b) (j:S<=B):aV S P a b :=
 ⟨h.os,h.tape,h.output,h.size,fun k A _=>h.block k (by omega)⟩
theorem uA {S:Nat} {P:Nat->Prop} {a b:World} (h:aV S P a b) {p:Addr} (A:P p.block) (u:Value):aV S P a (b.setCell p u) :=
 ⟨h.os,h.tape,h.output,by simpa[World.setCell]using h.size,fun k E j=>(cLa b p u k (fun e=>j (e▸A))).trans (h.block k E j)⟩
structure yJ (S:Nat) (P:Nat->Prop) (w0:World) where
 w:World
 hk:aV S P w0 w
instance keptSW_nonempty (S:Nat) (P:Nat->Prop) (w0:World):Nonempty (yJ S P w0):=⟨⟨w0,gQ _ _ _⟩⟩
theorem yJ.blk {S:Nat} {P:Nat->Prop} {w0:World} (l:yJ S P w0) {k:Nat} {x:Option Obj} (h:w0.heap[k]?=x) (j:k<S) (A:¬ P k):l.w.heap[k]?=x:=(l.hk.block k j A).trans h
section
variable {P:Program} {Q:Exit->Act->World->Prop} {md:Region.Mode}
theorem xW (S:Nat) (B:Nat->Prop) (s k:Nat) {w:World} {L:List Oper} (A:Region.noSelect L.toArray=true) (E:∀d v c a w,Q (.panic c) (Act.put a d v) w->Q (.panic c) a w) {fuel:Nat} {j:Array Bool} {a:Act}
 (G:Nat.ble (s+k) L.length=true) (I:aAm md L.toArray (List.range' s k) j=true) (h:kC P L.toArray (aV S B) w (fun a'=>wpF P md L.toArray Q (aV S B) fuel (rC (List.range' s k) j) a' w) ((L.drop s).take k) a) :
 wpF P md L.toArray Q (aV S B) (fuel+k) j a w:=aFd (gQ S B) (eQ S B) s k A E G I h
theorem uG {S:Nat} {B:Nat->Prop} {j:Array Oper} {w0:World} {Q:Act->Prop} {a:Act} {o:Oper} {rest:List Oper}
 (h:∀K:Act->Prop,(∀a,kC P j (aV S B) w0 Q rest a->K a)->if Region.wanted o (yielded j a.tmps)then ∃v,(∀l:yJ S B w0,quietIn P Eq l.w v ((execOp a.eval o).run P l.w))/\K (a.put o.dst v)else K (a.put o.dst undef)):kC P j (aV S B) w0 Q (o :: rest) a:=by
 have A:=h _ (fun _ h=>h);unfold kC;split at A
 .obtain⟨v,G,I⟩:=A;rw[bBa (by assumption)];exact⟨v,fun w E=>G ⟨w,E⟩,I⟩
 .rw[bAa (by assumption)];exact A
theorem yH {id:Nat} {a:Act} {w:World} {l:List Oper} (S:Nat) (B:Nat->Prop) (A:P.follows .mixedOrders=true)
 (h:∀j,Below w.heap.size w j->wpF P .any l.toArray Q (aV S B) l.length (Array.replicate l.length false) a j):(Code.region id l.toArray true).wp P Q a w:=vH (aV S B) A (h _ (bLa _ _).drew)
end
theorem aXi {w:World} {g:Nat} {t:TypeId} {G I J:Value} (h:w.heap[g]?=some (.cells #[G,I,J] t (0,0))) (j A E:Value) :
 ∃w',(((w.setCell ⟨g,0,none⟩ j).setCell ⟨g,1,none⟩ A).setCell ⟨g,2,none⟩ E)=w'/\w'.heap[g]?=some (.cells #[j,A,E] t (0,0))/\w.grownBy w' (some g):=by
 refine⟨_,rfl,?_,?_⟩
 .simpa using(bP (bP (bP h 0 j) 1 A) 2 E)
 .iterate 3 refine fG ?_ rfl _
  exact dR _ _
theorem aXj {w w':World} {g B n:Nat} {A:Option Addr} {xs:List UInt8} {t:TypeId} {p:Bool} {q r:Int} (h:IsB w B A n xs) (L:w.grownBy w' (some g)) (N:B<=w.heap.size) (O:w.heap[g]?=some (.cells #[.bool p,.int .u64 q,.int .u64 r] t (0,0))):IsB w' B A n xs:=by
 refine⟨h.1,fun U=>?_⟩;obtain⟨b,E,e,I,J⟩:=h.2 U;refine⟨b,E,e,I,fun i G=>?_⟩;have V:b≠g:=by
  rintro rfl;have j:=J i G;rw[aA O (E+i)]at j;rcases hk:E+i with _|_|_|k<;>rw[hk]at j<;>simp[u8v]at j
 rw[<-J i G];exact dFa (L.block b (bKa I N) (by simpa using V))
theorem fC {w w':World} {g k:Nat} {x:Option Obj} (h:w.grownBy w' (some g)) (j:k<w.heap.size) (A:k≠g) (E:w.heap[k]?=x):w'.heap[k]?=x:=(h.block k j (by simpa using A)).trans E
theorem below_grown {w w':World} {g B:Nat} (h:w.grownBy w' (some g)) (j:B<=w.heap.size) (A:B<=g):Below B w w':=bV h j (by intro k E;cases E;exact A)
theorem gB {w w':World} {g B:Nat} (h:w.grownBy w' (some g)) (j:B<=w.heap.size:=by omega) (A:B<=g:=by omega):Below B w w':=below_grown h j A
theorem gC {w w':World} {g:Nat} (h:w.grownBy w' (some g)) (j:w.heap.size<=g:=by omega):Below w.heap.size w w':=below_grown h (aZa _) j
end
section
open Go.RowKit
class cB (R:World->World->Prop):Prop where
 refl:∀w,R w w
 trans:∀a b c,R a b->R b c->R a c
structure bU (R:World->World->Prop) (w0:World) where
 w:World
 hk:R w0 w
instance relW_nonempty (R:World->World->Prop) [h:cB R] (w0:World):Nonempty (bU R w0):=⟨⟨w0,h.refl w0⟩⟩
section
variable {P:Program} {Q:Exit->Act->World->Prop} {md:Region.Mode}
theorem bB (R:World->World->Prop) [hR:cB R] (s k:Nat) {w:World} {L:List Oper} (A:Region.noSelect L.toArray=true) (E:∀d v c a w,Q (.panic c) (Act.put a d v) w->Q (.panic c) a w) {fuel:Nat} {j:Array Bool} {a:Act}
 (G:Nat.ble (s+k) L.length=true) (I:aAm md L.toArray (List.range' s k) j=true) (h:kC P L.toArray R w (fun a'=>wpF P md L.toArray Q R fuel (rC (List.range' s k) j) a' w) ((L.drop s).take k) a) :
 wpF P md L.toArray Q R (fuel+k) j a w:=aFd hR.refl hR.trans s k A E G I h
theorem xS (R:World->World->Prop) [hR:cB R] (s k f:Nat) {w:World} {L:List Oper} {j:Array Bool} {a:Act} (h:kC P L.toArray R w (fun a'=>wpF P md L.toArray Q R f (rC (List.range' s k) j) a' w) ((L.drop s).take k) a) (A:Region.noSelect L.toArray=true:=by as_aux_lemma=>kernel_rfl) (E:Nat.ble (s+k) L.length=true:=by as_aux_lemma=>kernel_rfl) (G:aAm md L.toArray (List.range' s k) j=true:=by as_aux_lemma=>kernel_rfl) (I:∀d v c a w,Q (.panic c) (Act.put a d v) w->Q (.panic c) a w:=by exact fun d _ _ _ _ h=>by cases d<;>exact h):wpF P md L.toArray Q R (f+k) j a w:=bB R s k A I E G h
theorem aS {R:World->World->Prop} {j:Array Oper} {w0:World} {Q:Act->Prop} {a:Act} {o:Oper} {rest:List Oper}
 (h:∀K:Act->Prop,(∀a,kC P j R w0 Q rest a->K a)->if Region.wanted o (yielded j a.tmps)then ∃v,(∀l:bU R w0,quietIn P Eq l.w v ((execOp a.eval o).run P l.w))/\K (a.put o.dst v)else K (a.put o.dst undef)):kC P j R w0 Q (o :: rest) a:=by
 have A:=h _ (fun _ h=>h);unfold kC;split at A
 .obtain⟨v,G,I⟩:=A;rw[bBa (by assumption)];exact⟨v,fun w E=>G ⟨w,E⟩,I⟩
 .rw[bAa (by assumption)];exact A
theorem qX {R:World->World->Prop} {j:Array Oper} {w0:World} {Q:Act->Prop} {a a':Act} {o:Oper} {rest:List Oper} (h:kC P j R w0 Q rest a') (e:∀K:Act->Prop,K a'->if Region.wanted o (yielded j a.tmps)then ∃v,(∀l:bU R w0,quietIn P Eq l.w v ((execOp a.eval o).run P l.w))/\K (a.put o.dst v)else K (a.put o.dst undef):=by intro K A;go_simp;exact A):kC P j R w0 Q (o :: rest) a:=aS fun K A=>e K (A _ h)
theorem xM (i:Nat) {R:World->World->Prop} [hR:cB R] {L:List Oper} {o:Oper} {rest:List Oper} {fuel:Nat} {j:Array Bool} {a a':Act} {w:World} (E:L.drop i=o :: rest) (h:wpF P md L.toArray Q R fuel (j.setIfInBounds i true) a' w) (e:∀K:Act->World->Prop,K a' w->if Region.wanted o (yielded L.toArray a.tmps)then o.wp P a w K Q else K (a.put o.dst undef) w:=by intro K A;go_simp;exact A) (G:Region.ready md L.toArray j=[i]:=by as_aux_lemma=>kernel_rfl):wpF P md L.toArray Q R (fuel+1) j a w:=aK i E G fun K A=>e K (A _ _ (hR.refl _) h)
theorem bZ {id:Nat} {a:Act} {w:World} {l:List Oper} (R:World->World->Prop) (A:P.follows .mixedOrders=true)
 (h:∀j,Below w.heap.size w j->wpF P .any l.toArray Q R l.length (Array.replicate l.length false) a j):(Code.region id l.toArray true).wp P Q a w:=vH R A (h _ (bLa _ _).drew)
theorem rX {id:Nat} {a:Act} {w:World} {l:List Oper} (R:World->World->Prop) (h:∀j,Below w.heap.size w j->wpF P .any l.toArray Q R l.length (Array.replicate l.length false) a j) (A:P.follows .mixedOrders=true:=by as_aux_lemma=>kernel_rfl):(Code.region id l.toArray true).wp P Q a w:=bZ R A h
end
instance keptS_rel (S:Nat) (P:Nat->Prop):cB (aV S P):=⟨gQ S P,eQ S P⟩
end
section
open Go.RowKit
section
variable {P:Program} {ops:Array Oper} {Q:Exit->Act->World->Prop} {md:Region.Mode}
def wpW (P:Program) (md:Region.Mode) (ops:Array Oper) (Q:Exit->Act->World->Prop) (Rj:Nat->World->World->Prop):Nat->Array Bool->Act->World->Prop
 | 0,listed,a,w=>Region.ready md ops listed=[]/\Q .normal a w
 | fuel+1,listed,a,w=>(Region.ready md ops listed=[]->Q .normal a w) /\
  ∀i∈Region.ready md ops listed,wpOp P ops Q i (fun a' w''=>Rj i w w''/\wpW P md ops Q Rj fuel (listed.setIfInBounds i true) a' w'') a w
variable {Rj:Nat->World->World->Prop} {S:World->World->Prop}
theorem aHu:∀(fuel:Nat) (j:Array Bool) (a:Act) (w:World),wpW P md ops Q Rj fuel j a w->wpAny P md ops Q fuel j a w
 | 0,_,_,_,h=>h
 | fuel+1,_,_,_,h=>⟨h.1,fun i A=>wpOp_mono (fun a' w' E=>aHu fuel _ a' w' E.2) (h.2 i A)⟩
theorem aVa (Y:∀w,S w w) (ht:∀a b c,S a b->S b c->S a c) (Z:∀i w,Rj i w w) {i:Nat} {I:Oper} {v:Value} (W:ops[i]?=some I) (aa:∀(j:Nat) (o:Oper) cs b,ops[j]?=some o->o.op≠.select cs b)
 (hQ:∀c a w,Q (.panic c) (a.put I.dst v) w->Q (.panic c) a w)
 (aj:∀j A,ops[j]?=some A->j≠i->(∀e∈A.after,Region.binds md e=true->e.on≠i)->∀a b,Rj j a b->S a b) :
 ∀(fuel:Nat) (E:Array Bool) (a:Act) (w:World),
  (∀j A,ops[j]?=some A->j≠i->E.getD j true=false->(∀e∈A.after,Region.binds md e=true->e.on≠i)->I.apart ops A=true) ->
  i∈Region.ready md ops E->jT P ops S w I v a ->
  wpW P md ops Q Rj fuel (E.setIfInBounds i true) (a.put I.dst v) w->wpW P md ops Q Rj (fuel+1) E a w:=by
 intro fuel
 induction fuel with
 | zero =>
  intro E a w _ L V H;refine⟨fun h=>(by rw[h]at L;cases L),fun j N=>?_⟩;by_cases G:j=i
  .subst G;exact V.wpOp W (Y _) ⟨Z _ _,H⟩
  .have:=hXa N G;rw[H.1]at this
   cases this
 | succ fuel ih =>
  intro E a w ae L V H;refine⟨fun h=>(by rw[h]at L;cases L),fun j N=>?_⟩;by_cases G:j=i
  .subst G;exact V.wpOp W (Y _) ⟨Z _ _,H⟩
  .have J:=H.2 j (hXa N G);obtain⟨af,A,U,ar⟩:=mem_ready.1 N;have ac:∀e∈A.after,Region.binds md e=true->e.on≠i:=fun e he hb am=>by
    have J:=ar e he hb;have h0:=(mem_ready.1 L).1;rw[am]at J;rcases eMa i E.size with X|X
    .simp[X]at h0 J;rw[h0]at J;cases J
    .simp[eZa X]at J
   have h2:=aK8 U (ae j A U G af ac) (fun cs b=>aa i I cs b W) (fun cs b=>aa j A cs b U) hQ V J;have hfree':∀k ok,ops[k]?=some ok->k≠i->(E.setIfInBounds j true).getD k true=false ->
    (∀e∈ok.after,Region.binds md e=true->e.on≠i)->I.apart ops ok=true:=fun k ok hk ao ab ap=>by
    refine ae k ok hk ao ?_ ap;by_cases ag:j=k
    .subst ag;exact af
    .rw[getD_set_ne true ag]at ab;exact ab
   refine wpOp_mono (fun a' w' O=>⟨O.2.1,ih (E.setIfInBounds j true) a' w' hfree' (hXa L (fVa G)) (O.1.later ht (aj j A U G ac _ _ O.2.1)) ?_⟩) h2;rw[gTa _ _ G];exact O.2.2
def hardB (md:Region.Mode) (ops:Array Oper) (Wr:List Nat) (i:Nat):Bool :=
 Wr.all fun j=>j == i || match ops[j]? with
  | some o=>o.after.any fun e=>Region.binds md e && e.on == i
  | none=>true
def Rel2 (Wr:List Nat) (R0 R:World->World->Prop) (j:Nat) (a b:World):Prop:=if Wr.contains j=true then R a b else R0 a b
theorem aRf {R0 R:World->World->Prop} {Wr:List Nat} (V:∀a b,R0 a b->S a b) (W:∀w,S w w) (X:∀a b c,S a b->S b c->S a c) (Y:∀i w,Rel2 Wr R0 R i w w)
 {w:World} (Z:Region.noSelect ops=true) (hQ:∀d v c a w,Q (.panic c) (Act.put a d v) w->Q (.panic c) a w) {fuel:Nat} {J:Act->Prop}:∀(A:List Nat) (l:List Oper) (G:Array Bool) (a:Act),
 (∀i∈A,(∀a b,R a b->S a b)\/hardB md ops Wr i=true) ->
 A.map (fun i=>ops[i]?)=l.map some->aAm md ops A G=true->kC P ops S w J l a->(∀a',J a'->wpW P md ops Q (Rel2 Wr R0 R) fuel (rC A G) a' w) ->
 wpW P md ops Q (Rel2 Wr R0 R) (fuel+A.length) G a w
 | [],[],_,a,_,_,_,h,hq=>hq a h
 | [],_ :: _,_,_,_,h,_,_,_=>by simp at h
 | _ :: _,[],_,_,_,h,_,_,_=>by simp at h
 | i :: A,o :: l,G,a,hh,hl,hB,h,hq=>by
  simp only[eCa,fYa]at hl;simp only[aAm,eEa]at hB;obtain⟨⟨af,hf⟩,ah⟩:=hB;have ae:∀j L,ops[j]?=some L->j≠i->(∀e∈L.after,Region.binds md e=true->e.on≠i)->∀a b,Rel2 Wr R0 R j a b->S a b:=by
   intro j L ak al am a b I;unfold Rel2 at I;split at I
   .rename_i hc;rcases hh i (by simp)with hR|ab
    .exact hR a b I
    .exfalso;unfold hardB at ab;have E:=List.all_eq_true.1 ab j (by simpa using hc);rw[ak]at E;simp only[Bool.or_eq_true,fKa]at E;rcases E with E|E
     .exact al E
     .obtain⟨m,hm,O⟩:=Array.any_eq_true.1 E;simp only[eEa,fKa]at O;exact am _ (Array.getElem_mem hm) O.1 O.2
   .exact V a b I
  have step:∀v,jT P ops S w o v a->kC P ops S w J l (a.put o.dst v)->wpW P md ops Q (Rel2 Wr R0 R) (fuel+(A.length+1)) G a w:=fun v hy N =>
   aVa W X Y hl.1 (Region.noSelect_spec Z) (hQ _ _) ae _ G a w (Region.free_spec hl.1 hf) (by simpa using af) hy (aRf V W X Y Z hQ A l _ _ (fun k hk=>hh k (by simp[hk])) hl.2 ah N hq)
  unfold kC at h;split at h
  .rename_i U;obtain⟨v,hv,N⟩:=h;exact step v (.inl ⟨U,hv⟩) N
  .rename_i U;exact step undef (.inr ⟨by simpa using U,rfl⟩) h
theorem xX {j:Array Bool} {a:Act} {w:World} (A:Region.ready md ops j=[]) (h:Q .normal a w):∀fuel,wpW P md ops Q Rj fuel j a w
 | 0=>⟨A,h⟩
 | _+1=>⟨fun _=>h,fun i E=>by rw[A]at E;cases E⟩
theorem dY (i:Nat) {L:List Oper} {o:Oper} {rest:List Oper} {fuel:Nat} {E:Array Bool} {a:Act} {w:World} (U:L.drop i=o :: rest) (I:Region.ready md L.toArray E=[i])
 (h:∀K:Act->World->Prop,(∀N A,Rj i w A->wpW P md L.toArray Q Rj fuel (E.setIfInBounds i true) N A->K N A) ->
  if Region.wanted o (yielded L.toArray a.tmps)then o.wp P a w K Q else K (a.put o.dst undef) w):wpW P md L.toArray Q Rj (fuel+1) E a w:=by
 refine⟨fun V=>(by rw[V]at I;cases I),fun j O=>?_⟩;rw[I]at O;obtain rfl:j=i:=by simpa using O
 have G:=h (fun a' A=>Rj j w A/\wpW P md L.toArray Q Rj fuel (E.setIfInBounds j true) a' A) (fun _ _ W X=>⟨W,X⟩);unfold wpOp;simp only[sK U];split
 .rename_i J;rw[bBa J]at G;exact .inl G
 .rename_i J;rw[bAa J]at G;exact G
theorem wT (i:Nat) {L:List Oper} {o:Oper} {rest:List Oper} {fuel:Nat} {j:Array Bool} {a:Act} {w:World} (G:L.drop i=o :: rest) (h:∀K:Act->World->Prop,(∀E A,Rj i w A->wpW P md L.toArray Q Rj fuel (j.setIfInBounds i true) E A->K E A)->if Region.wanted o (yielded L.toArray a.tmps)then o.wp P a w K Q else K (a.put o.dst undef) w) (I:Region.ready md L.toArray j=[i]:=by as_aux_lemma=>kernel_rfl):wpW P md L.toArray Q Rj (fuel+1) j a w:=dY i G I h
end
section
variable {P:Program} {Q:Exit->Act->World->Prop} {md:Region.Mode}
end
end
section
open Go.RowKit
def RelY (Wr:List Nat) (R:World->World->Prop):Nat->World->World->Prop:=Rel2 Wr R (fun _ _=>True)
theorem gD {Wr:List Nat} {R:World->World->Prop} {i:Nat} {a b:World} (h:R a b):RelY Wr R i a b:=by
 unfold RelY Rel2;split
 .trivial
 .exact h
theorem zT {Wr:List Nat} {R:World->World->Prop} {i:Nat} {a b:World} (h:Wr.contains i=true):RelY Wr R i a b:=by
 unfold RelY Rel2;rw[bBa h]
 trivial
section
variable {P:Program} {Q:Exit->Act->World->Prop} {md:Region.Mode}
theorem wC (Wr:List Nat) (R:World->World->Prop) [hR:cB R] (s k:Nat) {w:World} {L:List Oper} (A:Region.noSelect L.toArray=true) (E:∀d v c a w,Q (.panic c) (Act.put a d v) w->Q (.panic c) a w) {fuel:Nat} {j:Array Bool} {a:Act}
 (G:Nat.ble (s+k) L.length=true) (I:aAm md L.toArray (List.range' s k) j=true) (J:(List.range' s k).all (hardB md L.toArray Wr)=true) (h:kC P L.toArray R w (fun a'=>wpW P md L.toArray Q (RelY Wr R) fuel (rC (List.range' s k) j) a' w) ((L.drop s).take k) a) :
 wpW P md L.toArray Q (RelY Wr R) (fuel+k) j a w:=by
 have O:∀i∈List.range' s k,(∀a b,(fun _ _=>True:World->World->Prop) a b->R a b)\/hardB md L.toArray Wr i=true:=fun i N=>.inr (List.all_eq_true.1 J i N)
 have U:=aRf (md:=md) (S:=R) (R0:=R) (R:=fun _ _=>True) (Wr:=Wr) (fun _ _ h=>h) hR.refl hR.trans (fun i w=>gD (hR.refl w)) A E (fuel:=fuel) (List.range' s k) ((L.drop s).take k) j a O (aE8 L k s (Nat.le_of_ble_eq_true G)) I h (fun _ h=>h)
 rwa[List.length_range']at U
theorem sV {id:Nat} {a:Act} {w:World} {l:List Oper} (Wr:List Nat) (R:World->World->Prop) (A:P.follows .mixedOrders=true)
 (h:∀j,Below w.heap.size w j->wpW P .any l.toArray Q (RelY Wr R) l.length (Array.replicate l.length false) a j):(Code.region id l.toArray true).wp P Q a w:=by
 refine wp_region_any A ?_;have:=aHu l.length (Array.replicate l.length false) a w.drew (h _ (bLa _ _).drew);simpa using this
end
end
section
variable {α:Type} {e t:TypeId} {f:α->Value} {w w':World} {base:Nat} {v:Value}
def dV (e:TypeId) (f:α->Value) (w:World) (base:Nat) (v:Value) (xs:List α):Prop:=w.ownsRow base e 1 v xs.length (xs.map f)
def IsR (f:α->Value) (w:World) (B:Nat) (A:Option Addr) (n:Nat) (xs:List α):Prop:=IsV w B 1 A n (xs.map f)
theorem dV.nil(w:World)(base:Nat):dV e f w base (.slice none 0 0) []:=cKa w base _ 1
theorem dV.form{xs:List α}(h:dV e f w base v xs):∃A c,v=.slice A xs.length c/\xs.length<=c/\c<=maxLen/\IsR f w w.heap.size A xs.length xs:=bE h
theorem dV.alloc{xs:List α}(h:dV e f w base v xs)(o:Obj):dV e f (w.alloc o) base v xs:=jJa h o
theorem dV.lt{xs:List α}(h:dV e f w base v xs):∀k,v.ownBlock=some k->base<=k/\k<w.heap.size:=cYa h
theorem dV.kept{xs:List α}{row:Option Nat}(h:dV e f w base v xs)(j:w.grownBy w' row)(A:v.ownBlock=none\/v.ownBlock≠row):dV e f w' base v xs:=cDa h j A
theorem dV.below{xs:List α}(h:dV e f w base v xs)(j:Below w.heap.size w w'):dV e f w' base v xs :=
 h.kept (row:=none) ⟨j.os,j.tape,j.output,j.size,fun k A _=>j.block k A⟩ (by cases v.ownBlock<;>simp)
theorem dV.weaken{xs:List α}(h:dV e f w base v xs)(j:base'<=base):dV e f w base' v xs :=
 ⟨h.1,h.2.imp id fun⟨g,cap,A,h1,E,G⟩=>⟨g,cap,A,h1,bJa j E,G⟩⟩
theorem IsR.on{xs:List α}(h:IsR f w w.heap.size A n xs)(j:Below w.heap.size w w'):IsR f w' w'.heap.size A n xs:=IsV.on h j
theorem IsR.len{xs:List α}(h:IsR f w B A n xs):xs.length=n:=by simpa using h.1
theorem IsR.at{xs:List α}(h:IsR f w B A n xs){i:Nat}(hi:i<n):∃b j x,A=some ⟨b,j,none⟩/\b<B/\xs[i]?=some x/\w.cell? ⟨b,j+i,none⟩=some (f x):=by
 have I:=h.len;obtain⟨b,j,e,E,G⟩:=h.2 (by omega);have h1:=G i (by rw[bNa];omega);rw[eBa]at h1;exact⟨b,j,xs[i]'(by omega),e,E,aXa (by omega),h1⟩
theorem fA.aAa{j:Value}{xs:List α}(h:fA w v w' j)(A:dV e f w base v xs)(E:base<=w.heap.size):Below base w w':=bV h.grown E fun k G=>(A.lt k G).1
variable (hu:prog.underlying t=some (.slice e)) {z:Value} {by_:Nat} (hi:(prog.info? e).map (fun i=>(i.zero,i.size,i.bytes))=some (some z,1,by_)) (hz:z.cells.size=1) (hby:by_<=16) (h1:∀x,(f x).oneCell'=true)
include hu hi hz hby h1
theorem aGf(s x:Operand)
 (I:o.op=.call { callee:=.builtin .append,args:=#[s,x],argTypes:=#[t,t] })
 (base:Nat) (v:Value) (xs E:List α) (A:Option Addr) (m c B:Nat) (J:a.eval s=v) (L:a.eval x=.slice A m c) (N:dV e f w base v xs) (G:IsR f w B A m E) (O:base<=w.heap.size) (U:xs.length+m<=1099511627776)
 (h:∀j w',dV e f w' base j (xs++E)->fA w v w' j->K (a.put o.dst j) w'):o.wp prog a w K Q:=by
 obtain⟨i,Z,aa,ab,ac⟩:=gZa hi;have X:E.length=m:=G.len;have Y:(xs.length+m)*by_<=140737488355328:=by
  have:=hPa U hby;omega
 refine pM w s x t I base e i z 1 by_ hu Z aa ab ac hz (by omega) v xs.length (xs.map f) J N B A m c (E.map f) L G (fun u hu=>by obtain⟨y,_,rfl⟩:=List.mem_map.1 hu;exact h1 y) (by unfold maxLen;omega) Y O fun j w' h1 V W=>h j w' ?_ ⟨V,yR W⟩
 unfold dV;rw[cWa,bHa,X];exact h1
theorem aEp{rest:List Oper}(I:o.guard=none)(s x:Operand)
 (J:o.op=.call { callee:=.builtin .append,args:=#[s,x],argTypes:=#[t,t] })
 (base:Nat) (v:Value) (xs E:List α) (A:Option Addr) (m c B:Nat) (L:a.eval s=v) (N:a.eval x=.slice A m c) (O:dV e f w base v xs) (U:IsR f w B A m E) (V:base<=w.heap.size) (W:xs.length+m<=1099511627776)
 (h:∀j w',dV e f w' base j (xs++E)->fA w v w' j->wpList prog G Q rest (a.put o.dst j) w'):wpList prog G Q (o :: rest) a w :=
 bRa I fun _ X=>aGf hu hi hz hby h1 s x J base v xs E A m c B L N O U V W fun j w' Y Z=>X _ _ (h j w' Y Z)
theorem aLb{md:Region.Mode}{rest:List Oper}(i:Nat){E:Array Bool}(I:L.drop i=o :: rest)(J:Region.ready md L.toArray E=[i])(N:o.guard=none)(s x:Operand)
 (O:o.op=.call { callee:=.builtin .append,args:=#[s,x],argTypes:=#[t,t] })
 (base:Nat) (v:Value) (xs G:List α) (A:Option Addr) (m c B:Nat) (U:a.eval s=v) (V:a.eval x=.slice A m c) (W:dV e f w base v xs) (X:IsR f w B A m G) (Y:base<=w.heap.size) (Z:xs.length+m<=1099511627776)
 (h:∀j w',dV e f w' base j (xs++G)->fA w v w' j->wpAny prog md L.toArray Q fuel (E.setIfInBounds i true) (a.put o.dst j) w'):wpAny prog md L.toArray Q (fuel+1) E a w:=by
 refine bF i I J fun K hK=>?_;rw[bBa (by unfold Region.wanted;rw[N])];exact aGf hu hi hz hby h1 s x O base v xs G A m c B U V W X Y Z fun j w' h2 h3=>hK _ _ (h j w' h2 h3)
theorem aEn{vals:List Value}{rest:List Oper}(J:o.guard=none)(s x:Operand)
 (L:o.op=.call { callee:=.builtin .append,args:=#[s,x],argTypes:=#[t,t] })
 (base:Nat) (v:Value) (xs j:List α) (m c:Nat) (N:a.eval s=v) (O:a.eval x=.slice (some ⟨w.heap.size,0,none⟩) m c) (U:vals=j.map f) (V:j.length=m) (W:dV e f w base v xs) (aa:base<=w.heap.size) (X:xs.length+m<=1099511627776)
 (h:∀A w',dV e f w' base A (xs++j)->fA w v w' A->wpList prog G Q rest (a.put o.dst A) w'):wpList prog G Q (o :: rest) a (w.alloc (.cells vals.toArray T)):=by
 subst U V;refine aEp hu hi hz hby h1 J s x L base v xs j (some ⟨w.heap.size,0,none⟩) j.length c (w.heap.size+1) N O (W.alloc _) (IsV.lit w T _ c _ (by simp)) (by simp;omega) X fun A w' Y I=>h A w' Y ⟨nU I.grown,?_⟩
 rcases I.moved with E|⟨k,E,Z⟩
 .exact .inl E
 .exact .inr ⟨k,E,by simp at Z;omega⟩
end
theorem rM{w:World}{size G:Nat}(N:prog.underlying t=some (.slice e))(J:(prog.info? e).map (fun i=>(i.zero,i.size,i.bytes))=some (some z,size,G))(O:z.cells.size=size)(U:0<size)(V:G<=128)
 {L:Array Oper} {rest:List Oper} {o:Oper} {a:Act} {Q:Exit->Act->World->Prop} (W:o.guard=none) (s x:Operand)
 (X:o.op=.call { callee:=.builtin .append,args:=#[s,x],argTypes:=#[t,t] })
 (I:Nat) (v:Value) (n:Nat) (xs j:List Value) (Y:a.eval s=v) (Z:a.eval x=.slice (some ⟨w.heap.size,0,none⟩) 1 1) (aa:w.ownsRow I e size v n xs) (al:j.length=size) (h1:∀u∈j,u.oneCell'=true) (am:I<=w.heap.size) (hb:n+1<=1099511627776)
 (h:∀A w',w'.ownsRow I e size A (n+1) (xs++j)->fA w v w' A->wpList prog L Q rest (a.put o.dst A) w'):wpList prog L Q (o :: rest) a (w.alloc (.cells j.toArray T)):=by
 obtain⟨i,ah,ai,aj,ak⟩:=gZa J;refine bRa W fun K hK=>?_;have ag:(n+1)*G<=140737488355328:=by
  have:=hPa hb V;omega
 refine pM (w.alloc (.cells j.toArray T)) s x t X I e i z size G N ah ai aj ak O U v n xs Y (jJa aa _) (w.alloc (.cells j.toArray T)).heap.size (some ⟨w.heap.size,0,none⟩) 1 1 j Z ?_ h1 (by unfold maxLen;omega) ag (by simp;omega) fun A w' h2 h3 E=>hK _ _ (h A w' h2 ⟨nU h3,?_⟩)
 .refine⟨by omega,fun _=>⟨w.heap.size,0,rfl,by simp,fun i J=>?_⟩⟩;rw[aA (aJ w T j.toArray) (0+i),dWa,gKa,aXa]
 .rcases E with E|E
  .exact .inl E
  .exact .inr ⟨_,E,by simp⟩
theorem aDg{w:World}{size:Nat}(L:prog.underlying t=some (.slice e))(I:(prog.info? e).map (fun i=>(i.zero,i.size,i.bytes))=some (some z,size,E))(N:z.cells.size=size)(O:0<size)(U:E<=128)
 {o:Oper} {a:Act} {K:Act->World->Prop} {Q:Exit->Act->World->Prop} (s x:Operand)
 (V:o.op=.call { callee:=.builtin .append,args:=#[s,x],argTypes:=#[t,t] })
 (G:Nat) (v:Value) (n:Nat) (xs j:List Value) (b:Nat) (W:a.eval s=v) (X:a.eval x=.slice (some ⟨b,0,none⟩) 1 1) (Y:w.ownsRow G e size v n xs) (J:w.heap[b]?=some (.cells j.toArray T (0,0))) (al:j.length=size) (Z:∀u∈j,u.oneCell'=true) (aa:G<=w.heap.size) (hb:n+1<=1099511627776)
 (h:∀A w',w'.ownsRow G e size A (n+1) (xs++j)->fA w v w' A->K (a.put o.dst A) w'):o.wp prog a w K Q:=by
 obtain⟨i,ah,ai,aj,ak⟩:=gZa I;have af:(n+1)*E<=140737488355328:=by
  have:=hPa hb U;omega
 have ag:b<w.heap.size:=(Array.getElem?_eq_some_iff.1 J).1;refine pM w s x t V G e i z size E L ah ai aj ak N O v n xs W Y w.heap.size (some ⟨b,0,none⟩) 1 1 j X ?_ Z (by unfold maxLen;omega) af aa fun A w' h2 h3 h4=>h A w' h2 ⟨h3,yR h4⟩
 refine⟨by omega,fun _=>⟨b,0,rfl,ag,fun i I=>?_⟩⟩;rw[aA J (0+i),dWa,gKa,aXa]
section
open Go.RowKit
structure qN (S:Nat) (row:Option Nat) (a b:World):Prop where
 os:b.os=a.os
 tape:b.tape=a.tape
 output:b.output=a.output
 size:a.heap.size<=b.heap.size
 block:∀k,k<S->some k≠row->b.heap[k]?=a.heap[k]?
theorem kept_refl (S:Nat) (row:Option Nat) (a:World):qN S row a a:=⟨rfl,rfl,rfl,aZa _,fun _ _ _=>rfl⟩
theorem kept_trans (S:Nat) (row:Option Nat) (a b c:World) (h:qN S row a b) (k:qN S row b c):qN S row a c :=
 ⟨k.os.trans h.os,k.tape.trans h.tape,k.output.trans h.output,bJa h.size k.size,fun i j A=>(k.block i j A).trans (h.block i j A)⟩
theorem aDi {S:Nat} {row:Option Nat} {B:Nat} {a b:World} (h:Below B a b) (j:S<=B):qN S row a b :=
 ⟨h.os,h.tape,h.output,h.size,fun k A _=>h.block k (by omega)⟩
theorem aMz {S:Nat} {row:Option Nat} {a b:World} {v A:Value} (h:fA a v b A) (E:v.ownBlock=row\/∃k,v.ownBlock=some k/\S<=k) (I:S<=a.heap.size):qN S row a b :=
 ⟨h.grown.os,h.grown.tape,h.grown.output,h.grown.size,fun k J G=>h.grown.block k (by omega) (by
  rcases E with e|⟨j,e,L⟩
  .rw[e];exact fun e'=>G e'
  .rw[e];intro e';cases e';omega)⟩
theorem aKg {S:Nat} {row:Option Nat} {a b:World} {v j:Value} (h:fA a v b j) (A:v.ownBlock=row\/∃k,v.ownBlock=some k/\S<=k) (E:S<=a.heap.size):j.ownBlock=row\/∃k,j.ownBlock=some k/\S<=k:=by
 rcases h.moved with e|⟨k,e,G⟩
 .rw[e];exact A
 .exact .inr ⟨k,e,by omega⟩
structure aEr (S:Nat) (row:Option Nat) (w0:World) where
 w:World
 hk:qN S row w0 w
instance keptW_nonempty (S:Nat) (row:Option Nat) (w0:World):Nonempty (aEr S row w0):=⟨⟨w0,kept_refl _ _ _⟩⟩
theorem aEr.blk {S:Nat} {row:Option Nat} {w0:World} (l:aEr S row w0) {k:Nat} {x:Option Obj} (h:w0.heap[k]?=x) (j:k<S) (A:some k≠row):l.w.heap[k]?=x:=(l.hk.block k j A).trans h
section
variable {P:Program} {Q:Exit->Act->World->Prop} {md:Region.Mode}
theorem aRc (S:Nat) (row:Option Nat) (s k:Nat) {w:World} {L:List Oper} (A:Region.noSelect L.toArray=true) (E:∀d v c a w,Q (.panic c) (Act.put a d v) w->Q (.panic c) a w) {fuel:Nat} {j:Array Bool} {a:Act}
 (G:Nat.ble (s+k) L.length=true) (I:aAm md L.toArray (List.range' s k) j=true) (h:kC P L.toArray (qN S row) w (fun a'=>wpF P md L.toArray Q (qN S row) fuel (rC (List.range' s k) j) a' w) ((L.drop s).take k) a) :
 wpF P md L.toArray Q (qN S row) (fuel+k) j a w:=aFd (kept_refl S row) (kept_trans S row) s k A E G I h
theorem aLa {S:Nat} {row:Option Nat} {j:Array Oper} {w0:World} {Q:Act->Prop} {a:Act} {o:Oper} {rest:List Oper}
 (h:∀K:Act->Prop,(∀a,kC P j (qN S row) w0 Q rest a->K a)->if Region.wanted o (yielded j a.tmps)then ∃v,(∀l:aEr S row w0,quietIn P Eq l.w v ((execOp a.eval o).run P l.w))/\K (a.put o.dst v)else K (a.put o.dst undef)):kC P j (qN S row) w0 Q (o :: rest) a:=by
 have A:=h _ (fun _ h=>h);unfold kC;split at A
 .obtain⟨v,G,I⟩:=A;rw[bBa (by assumption)];exact⟨v,fun w E=>G ⟨w,E⟩,I⟩
 .rw[bAa (by assumption)];exact A
theorem aPx {id:Nat} {a:Act} {w:World} {l:List Oper} (S:Nat) (row:Option Nat) (j:P.follows .mixedOrders=true)
 (h:wpF P .any l.toArray Q (qN S row) l.length (Array.replicate l.length false) a w.drew):(Code.region id l.toArray true).wp P Q a w:=vH (qN S row) j h
end
section
variable {Q:Exit->Act->World->Prop} {md:Region.Mode}
theorem aRd {S:Nat} {row:Option Nat} (i:Nat) {L:List Oper} {o:Oper} {rest:List Oper} {fuel:Nat} {G:Array Bool} {a:Act} {w:World} (N:L.drop i=o :: rest) (O:Region.ready md L.toArray G=[i]) (U:o.guard=none) (s x:Operand)
 (V:o.op=.call { callee:=.builtin .append,args:=#[s,x],argTypes:=#[43,43] })
 (E:Nat) (v:Value) (xs I:List UInt8) (A:Option Addr) (m c B:Nat) (W:a.eval s=v) (X:a.eval x=.slice A m c) (Y:aZ w E v xs) (Z:IsB w B A m I) (aa:E<=w.heap.size) (hb:xs.length+m<=1099511627776)
 (hv:v.ownBlock=row\/∃k,v.ownBlock=some k/\S<=k) (hS:S<=w.heap.size)
 (h:∀j w',aZ w' E j (xs++I)->fA w v w' j->wpF prog md L.toArray Q (qN S row) fuel (G.setIfInBounds i true) (a.put o.dst j) w'):wpF prog md L.toArray Q (qN S row) (fuel+1) G a w:=by
 refine aK i N O fun K hK=>?_;have hw:Region.wanted o (yielded L.toArray a.tmps)=true:=by unfold Region.wanted;rw[U]
 rw[bBa hw];exact aLc s x V E v xs I A m c B W X Y Z aa hb fun j w' h1 J=>hK _ _ (aMz J hv hS) (h j w' h1 J)
end
end
def dJ (xs:List UInt8) (p:Nat) (ys:List UInt8):List UInt8:=xs.take p++(ys++xs.drop (p+ys.length))
theorem gM(xs:List UInt8)(p:Nat)(j:List UInt8)(h:p+j.length<=xs.length):(dJ xs p j).length=xs.length:=by simp[dJ];omega
theorem aZ.row{w:World}(h:aZ w E (.slice A n c) xs)(V:0<n) :
 ∃g j,A=some ⟨g,0,none⟩/\E<=g/\w.heap[g]?=some (.cells (List.toArray j) 5 (0,0))/\j.length=c/\j.take n=xs.map u8v/\n<=c/\c<=maxLen/\xs.length=n:=by
 have G:=h.reads.1;rcases h.2 with⟨e,_⟩|⟨g,cap,j,e,I,J,L,N,O,U⟩
 .cases e
  omega
 .cases e
  exact⟨g,j.toList,rfl,I,by simpa using J,by simpa using O,by simpa[G]using U,L,N,G⟩
theorem aC4{w:World}{A:Nat}{j:List Value}(E:A<=g)(G:w.heap[g]?=some (.cells j.toArray 5 (0,0)))(I:j.length=c)(J:j.take n=xs.map u8v)(L:n<=c)(N:c<=maxLen)(O:xs.length=n) :
 aZ w A (.slice (some ⟨g,0,none⟩) n c) xs:=by
 subst O;exact⟨by simp,.inr ⟨g,c,j.toArray,rfl,E,G,L,N,by simpa using I,by simpa using J⟩⟩
theorem aBq(j:List Value)(xs A:List UInt8)(n p:Nat)(G:j.take n=xs.map u8v)(_hn:n<=j.length)(L:xs.length=n)(h:p+A.length<=n):(splice j p (A.map u8v)).take n=(dJ xs p A).map u8v:=by
 have E:j=xs.map u8v++j.drop n:=by rw[<-G,dHa]
 have I:j.take p=(xs.take p).map u8v:=by
  rw[E,eWa (by rw[bNa];omega),List.map_take]
 have J:j.drop (p+A.length)=(xs.drop (p+A.length)).map u8v++j.drop n:=by
  conv=>lhs;rw[E]
  rw[gYa (by rw[bNa];omega),List.map_drop]
 unfold splice dJ;rw[bNa,I,J,cWa,cWa,<-eDa,<-eDa,<-eDa];rw[eWa (by simp;omega),bZa (by simp;omega)]
theorem aCb(A:Option Addr)(n c:Nat)(xs:List UInt8)(p N k:Nat)(pi Ni ki:Int)(an:pi=(p:Int))(ao:Ni=(N:Int))(ap:ki=(k:Int))(w:World)(U:IsB w w.heap.size A n xs)(hn:n<=549755813888)(hp:p+k<=n)(hk:k<=8)(a7:0<k)(hN:N<18446744073709551616) :
 Cl 95 #[.slice A n c,.int .i64 pi,.int .u64 Ni,.int .i64 ki] w fun e w'=>∃v,e=.returned v/\aZ w' w.heap.size v (dJ xs p (beB N k))/\Below w.heap.size w w':=by
 subst an ao ap;go_enter func95,ntmps95;go_wp2_with (at_builtin;refine sD rfl _ _ rfl w.heap.size (.slice none 0 0) [] xs A n c w.heap.size rfl rfl (aZ.nil _ _) U (aZa _) ?_ ?_)
 .simp;omega
 intro v1 w1 J V;have au:=q_ V.qG;obtain⟨A1,c1,rfl,ad,az,X⟩:=J.form;rw[U.1]at J ad X ⊢;obtain⟨g,ae,rfl,aj,W,G,Y,_,_,L⟩:=J.row (by omega);have i1:(p:Int)<=(n:Int):=by omega
 have i2:(p:Int)<=(n:Int) - (k:Int):=by omega
 have i3:(k:Int)<=8:=by omega
 replace ⟨J,V,X,W,G,Y,L,U⟩:=q_8 J V X W G Y L U;have bb:¬ c1=p:=by omega
 go_wp2_with fail
 refine aP (by kernel_rfl) ?_;refine aY 0 5 (fuel:=2) (by kernel_rfl) (fun d _ _ _ _ h=>by cases d<;>exact h) (by kernel_rfl) (by kernel_rfl) ?_;simp only[dA,dC,dD]
 repeat(refine aD (fun K E=>?_);go_simp;(try go_bits);refine E _ ?_;clear E K)
 refine aT ?_;refine eT 5 rfl fun l K E=>?_;go_simp;go_at_call 100;refine(aB9 _ _ N k rfl rfl l.w.heap.size _ [] _ (aZ.nil _ _) (aZa _) hN hk (by simp)).mono ?_;rintro e w3 ⟨v2,rfl,a2,a3⟩;have O:=a3.qG;refine E _ _ O ?_;clear E K;obtain⟨A2,c2,rfl,a0,bf,ak⟩:=a2.form;simp only[cVa,aR]at ak a0 ⊢;refine dG (by kernel_rfl) (fun I=>?_);refine bF 6 rfl (by kernel_rfl) (fun K E=>?_);have av:=ak.later I;obtain⟨b2,am,rfl,bg,ab⟩:=av.vals.2 (by omega);have aw:=V.grown.size;have ax:g<w1.heap.size:=(Array.getElem?_eq_some_iff.1 W).1;have Z:I.w.heap[g]?=some (.cells ae.toArray 5 (0,0)):=aC I.hb (by have:=l.hb.size;have:=O.size;omega) (aC O (by have:=l.hb.size;omega) (aC l.hb ax W));have aa:Below w.heap.size w I.w:=((au.trans (l.hb.mono aw)).trans (O.mono (by have:=l.hb.size;omega))).trans (I.hb.mono (by have:=l.hb.size;have:=O.size;omega));refine step_copy_splice rfl _ _ _ _ rfl 5 gGa (by kernel_rfl) _ _ _ _ _ _ rfl rfl g p ae 5 Z ((beB N k).map u8v) ?_ ?_ ?_ (aCe _) w.heap.size w aa aj ?_
 .rw[bNa,aR];exact(fCa (by omega)).symm
 .intro _;refine⟨rfl,_,rfl,fun j v hj=>?_⟩;obtain⟨a1,rfl⟩:=List.getElem?_eq_some_iff.1 hj;rw[show Addr.add ⟨b2,am,none⟩ j=(⟨b2,am+j,none⟩:Addr) by unfold Addr.add;split<;>simp_all];exact ab j a1
 .rw[bNa,aR,G.out];omega
 intro w5 a5 ac;refine E _ _ ?_;clear E K;refine bY (by kernel_rfl) ?_ 0;replace ⟨ab,Z,aa,ac⟩:=q_4 ab Z aa ac;go_wp2_with fail
 go_ret;refine⟨_,rfl,aC4 aj a5 ?_ (aBq ae xs (beB N k) n p Y (by rw[G.out];exact ad) L (by rw[aR];exact hp)) ad az (by rw[gM _ _ _ (by rw[aR,L.out];exact hp),L.out]),ac⟩;rw[length_splice _ _ _ (by rw[bNa,aR,G.out];omega),G.out]
theorem aL4 (N:Nat):∀(k j:Nat),j<k->(beB N k).getD j 0=UInt8.ofNat (N / 256 ^ (k - 1 - j))
 | 0,j,h=>by omega
 | k+1,0,_=>by simp[beB]
 | k+1,j+1,h=>by
  simp only[beB,List.getD_cons_succ];rw[aL4 N k j (by omega),show k+1 - 1 - (j+1)=k - 1 - j by omega]
theorem getD_mid (A E G:List UInt8) (j:Nat) (h:j<E.length):(A++(E++G)).getD (A.length+j) 0=E.getD j 0:=by
 simp only[List.getD];rw[cJa (by omega),show A.length+j - A.length=j by omega,cEa h]
theorem aP6 (N k:Nat) (A E:List UInt8) (p:Nat) (G:A.length=p):∀j,j<=k->beN (A++(beB N k++E)) p j=N / 256 ^ (k - j) % 256 ^ j
 | 0,_=>by simp[beN,Nat.mod_one]
 | j+1,h=>by
  subst G;have ih:=aP6 N k A E A.length rfl j (by omega);rw[beN,ih,getD_mid _ _ _ _ (by rw[aR];omega),aL4 _ _ _ (by omega),cGa];rw[show k - 1 - j=k - (j+1) by omega];have I:N / 256 ^ (k - j)=N / 256 ^ (k - (j+1)) / 256:=by
   rw[show k - j=(k - (j+1))+1 by omega,gUa,Nat.div_div_eq_div_mul]
  rw[I];generalize N / 256 ^ (k - (j+1))=M;rw[show 256 ^ (j+1)=256*256 ^ j by rw[gUa,hAa],Nat.mod_mul];omega
theorem aEw (N k:Nat) (j A:List UInt8) (p:Nat) (E:j.length=p) (hN:N<256 ^ k):beN (j++(beB N k++A)) p k=N:=by
 rw[aP6 N k j A p E k (aZa _)];simp[dPa hN]
theorem aG5 (T:Nat):ones (T+(65535 - ones T))=65535:=by
 unfold ones;split
 .rename_i A;subst A
  rfl
 .have E:(T - 1) % 65535<65535:=eKa _ (by omega);have j:T+(65535 - ((T - 1) % 65535+1))≠0:=by omega
  rw[bAa j];omega
theorem tot_two (c:Nat) (j:c<=65535):tot false (beB c 2)=c:=by
 simp only[beB,tot,cGa];simp;omega
theorem aQ2 (j xs:List UInt8) (p c:Nat) (A:c<=65535) (U:p+2<=xs.length) (E:(xs.drop p).take 2=[0,0]) (V:(j.length+p) % 2=0):tot false (j++dJ xs p (beB c 2))=tot false (j++xs)+c:=by
 have G:xs=xs.take p++([0,0]++xs.drop (p+2)):=by
  rw[<-E,<-List.drop_drop,dHa,dHa]
 have I:(xs.take p).length=p:=by rw[bGa];omega
 conv=>rhs;rw[G]
 unfold dJ;rw[aR];have J:(false ^^ decide (j.length % 2=1) ^^ decide ((xs.take p).length % 2=1))=false:=by
  rw[I];by_cases N:j.length % 2=1<;>by_cases O:p % 2=1<;>simp[N,O]<;>omega
 rw[qB,qB,qB,qB,qB,qB,J,tot_two c A];have L:tot false ([0,0]:List UInt8)=0:=by simp[tot]
 rw[L,aR];simp only[eFa,hZa,dWa,Nat.reduceAdd];omega
def rZ (c f t:Nat):Nat:=65535 - ones ((65535 - c)+(65535 - f)+t)
theorem aGc(c f t:Nat):rZ c f t<=65535:=by unfold rZ;omega
theorem ones_mod(n:Nat):ones n % 65535=n % 65535:=by unfold ones;split<;>omega
theorem aU2(c f t:Nat)(j:c<=65535)(A:f<=65535):(rZ c f t+t) % 65535=(c+f) % 65535:=by
 have E:=ones_mod ((65535 - c)+(65535 - f)+t);have G:=aB5 ((65535 - c)+(65535 - f)+t);unfold rZ;omega
theorem aKi{a:Nat}:ones a=65535↔a % 65535=0/\a≠0:=by unfold ones;split<;>omega
theorem tot_be2(v:Nat)(h:v<65536)(l:List UInt8):tot false (beB v 2++l)=v+tot false l:=by
 simp only[beB,cVa,eNa,tot,Bool.not_false,jHa];have j:(UInt8.ofNat v).toNat=v % 256:=cGa;have A:(UInt8.ofNat (v / 256)).toNat=v / 256 % 256:=cGa;simp[j,A];omega
theorem drop_two(xs:List UInt8)(p:Nat)(h:p+2<=xs.length):xs.drop p=xs.getD p 0 :: xs.getD (p+1) 0 :: xs.drop (p+2):=by
 rw[fMa (by omega),fMa (by omega)];simp[List.getD,show p<xs.length by omega,show p+1<xs.length by omega]
theorem aK2(xs:List UInt8)(p v:Nat)(L:p % 2=0)(A:p+2<=xs.length)(E:v<65536):tot false (dJ xs p (beB v 2))+beN xs p 2=tot false xs+v:=by
 have G:xs=xs.take p++xs.drop p:=(dHa p xs).symm;have j:(xs.take p).length=p:=by rw[bGa];omega
 have I:tot false xs=tot false (xs.take p)+tot false (xs.drop p):=by
  conv=>lhs;rw[G]
  rw[qB,j,bWa (by omega)]
  rfl
 have J:tot false (dJ xs p (beB v 2))=tot false (xs.take p)+tot false (beB v 2++xs.drop (p+2)):=by
  unfold dJ;rw[qB,j,bWa (by omega),aR]
  rfl
 rw[I,J,tot_be2 v E,drop_two xs p A];simp only[tot,Bool.not_false,jHa,beN,jEa,eAa,hYa];simp only[cNa];omega
theorem aEg(c f t:Nat)(w:World)(L:c<=65535)(N:f<=65535)(V:t<=65535) :
 Cl 153 #[.int .u16 (c:Int),.int .u16 (f:Int),.int .u16 (t:Int)] w fun e w'=>e=.returned (.int .u16 (rZ c f t:Nat))/\w=w':=by
 obtain⟨j,E⟩:∃j,65535 - c=j:=⟨_,rfl⟩
 obtain⟨A,G⟩:∃A,65535 - f=A:=⟨_,rfl⟩
 have W:bits .xor .u16 IntKind.u16.max (c:Int)=(j:Int):=by rw[aDe c L,E]
 have X:bits .xor .u16 IntKind.u16.max (f:Int)=(A:Int):=by rw[aDe f N,G]
 have Y:j<=65535:=by omega
 have Z:A<=65535:=by omega
 have hs:IntKind.u16.signed=false:=rfl;have O:Hid (rZ c f t=65535 - ones (j+A+t)):=q_ (by unfold rZ;rw[E,G]);have U:=aB5 (j+A+t);have I:=q_ (fun w:World=>aMq (j+A+t) w (by omega));have J:((j+A+t:Nat):Int)=(j:Int)+A+t:=by omega
 rw[J]at I;clear J;replace ⟨E,G⟩:=q_2 E G;go_enter func153,ntmps153;go_wp2_with fail
 refine(I _).mono ?_;rintro e w' ⟨rfl,rfl⟩;have q3:=aDe _ U;go_wp2_with fail
 go_ret;exact⟨aE7 (by rw[O.out]),rfl⟩
theorem aSy{w:World}{O:Array Oper}{rest:List Oper}(Z:o.guard=none)(d s:Operand)
 (ho:o.op=.call { callee:=.builtin .copy,args:=#[d,s],argTypes:=#[43,43] }) (U g n c p I dc m sc B k:Nat) (A:Option Addr) (xs E:List UInt8)
 (hd:a.eval d=.slice (some ⟨g,p,none⟩) I dc) (hs:a.eval s=.slice A m sc) (af:aZ w U (.slice (some ⟨g,0,none⟩) n c) xs) (J:IsB w B A m E) (hp:p+I<=n) (h0:0<n) (hk:min m I=k)
 (h:∀w',aZ w' U (.slice (some ⟨g,0,none⟩) n c) (dJ xs p (E.take k))->Below g w w'->wpList prog O Q rest (a.put o.dst (goInt k)) w'):wpList prog O Q (o :: rest) a w:=by
 obtain⟨g',V,aj,hb,hh,G,am,W,hm,N⟩:=af.row h0
 cases aj
 have L:(E.take k).length=k:=by rw[bGa,J.1];omega
 have hkl':((E.take k).map u8v).length=k:=by rw[bNa,L]
 refine wpList_copy_splice Z d s _ _ ho 5 gGa (by kernel_rfl) _ _ _ _ _ _ hd hs g p V 5 hh ((E.take k).map u8v) ?_ ?_ ?_ (aCe _) g w (bLa _ _) (aZa _) ?_
 .rw[hkl',<-hk]
 .intro h1;rw[hkl']at h1;obtain⟨X,Y,rfl,_,ao⟩:=J.vals.2 (by omega);refine⟨rfl,_,rfl,fun j v hj=>?_⟩;obtain⟨ap,rfl⟩:=List.getElem?_eq_some_iff.1 hj;rw[hkl']at ap;rw[show Addr.add ⟨X,Y,none⟩ j=(⟨X,Y+j,none⟩:Addr) by unfold Addr.add;split<;>simp_all];rw[ao j (by rw[bNa,J.1];omega)];simp
 .rw[hkl',G];omega
 intro w' ar au;rw[hkl'];refine h w' (aC4 hb ar ?_ (aBq V xs (E.take k) n p am (by rw[G];exact W) N (by rw[L];omega)) W hm (by rw[gM _ _ _ (by rw[L,N];omega),N])) au;rw[length_splice _ _ _ (by rw[hkl',G];omega),G]
theorem aSf(xs j:List UInt8)(h:xs.length=j.length):dJ xs 0 j=j:=by
 unfold dJ;rw[dVa,cVa,eLa (by omega),ePa]
theorem aR1(n:Nat)(U:n<=1099511627776)(w:World):∃w',(Instr.makeSlice 43 (.int .i64 (n:Int)) (.int .i64 (n:Int))).run prog w=.ok (.slice (some ⟨w.heap.size,0,none⟩) n n) w' /\
 aZ w' w.heap.size (.slice (some ⟨w.heap.size,0,none⟩) n n) (List.replicate n 0)/\Below w.heap.size w w':=by
 have j:=aH7
 cases A:prog.info? 5 with
 | none=>rw[A]at j;simp at j
 | some i =>
  rw[A]at j;simp only[eQa,gQa,jAa]at j;obtain⟨I,J,L⟩:=j;obtain⟨w',N,E,O⟩:=run_make_full (P:=prog) (w:=w) w.heap.size 43 5 i (.int .u8 0) 1 gGa A I J .i64 .i64 n (by rw[L];omega) (by unfold maxLen;omega) (aZa _);refine⟨w',N,?_,bV O (aZa _) (fun k G=>by cases G)⟩;unfold aZ;rw[dCa,List.map_replicate];rw[show(Value.int IntKind.u8 0).cells=#[.int .u8 0] from rfl,Nat.mul_one,toList_madeCells_one]at E;exact E
end Go.Proofs.YtpcifakangbpaaaGreat
