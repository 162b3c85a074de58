/- Parts of the proof of PathOpens: contracts of functions of the program. No condition but those that each theorem names. -/
import Derived.Test.YtpcifakangbpaaaGreatQPathOpens9
import Derived.Great.Walk
set_option linter.unusedVariables false
set_option linter.unusedSimpArgs false
set_option maxRecDepth 100000
set_option maxHeartbeats 16000000
namespace Go.Proofs.YtpcifakangbpaaaGreat
open Go.RowKit Go.ChangeShapes Go.WideShapes Go.ChangeAt Go.Deep Go.Proofs.Tryz
variable {R xs:List UInt8}{B E J N O S V b base' c f fuel g i j k m n s sd sz:Nat}{Q:Exit->Act->World->Prop}{d w' w0:World}{u v z:Value}{T e t:TypeId}{A:Option Addr}{h os:List Nat}{F:List UInt8->Option Nat}{p:List Nat×List Bool}{a:Act}{α:Type}{H l:List Int}{o:Oper}{G:Array Oper}{K:Act->World->Prop}{y:Array Value}{vs:List Value}{L:List Oper}{I:Bool}{U W Y aa:List (Int×List UInt8)}{P:Program}
section
variable {P:Program} {ops:Array Oper} {rest:List Oper} {a:Act} {w:World} {Q:Exit->Act->World->Prop}
theorem gF{j os:Oper}(I:j.guard=none)(J:os.guard=none)(T:TypeId)(A:Array Value)
 (L:∀(ρ:Operand->Value) (w:World),(execOp ρ j).run P w=.ok (.value (.pointer (some ⟨w.heap.size,0,none⟩))) (w.alloc (.cells A T)))
 (d:Nat) (N:j.dst=some d) (y:Operand) (O:os.op=.store T (.tmp d) y) (vs:Array Value) (U:∀w:World,(a.put (some d) (.pointer (some ⟨w.heap.size,0,none⟩))).eval y=.agg vs)
 (V:∀w:World,(a.put (some d) (.pointer (some ⟨w.heap.size,0,none⟩))).eval (.tmp d)=.pointer (some ⟨w.heap.size,0,none⟩))
 (W:vs.size=A.size) (X:(P.info? T).map (·.size)=some vs.size) (Y:vs.all (·.oneCell')=true)
 (h:∀w',w'.heap[w.heap.size]?=some (.cells vs T (0,0))->Below w.heap.size w w'->w.heap.size<w'.heap.size->wpList P ops Q rest ((a.put (some d) (.pointer (some ⟨w.heap.size,0,none⟩))).put os.dst undef) w'):wpList P ops Q (j :: os :: rest) a w:=by
 refine Go.Great.wpList_runTo I (some d) N _ _ (L _ _) ?_;have Z:=aJ w T A;refine bQ J T (.tmp d) y O w.heap.size 0 (V w) vs (U w) Z (by omega) X Y fun w' E G=>?_;rw[aQ _ _ W.symm]at E;have hs:=G.size;simp only[fTa]at hs;exact h w' E (bC.trans (below_grown G (by simp) (by omega))) (by omega)
end
theorem vR(o:Oper)(h:o.op=.alloc 48)(ρ:Operand->Value)(w:World):(execOp ρ o).run prog w=.ok (.value (.pointer (some ⟨w.heap.size,0,none⟩))) (w.alloc (.cells pkZ 48)):=by
 obtain⟨d,j,t,A,E,g⟩:=o;dsimp only at h;subst h
 kernel_rfl
end Go.Proofs.YtpcifakangbpaaaGreat
