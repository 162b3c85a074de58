/- Parts of the proof of PathOpens: contracts of functions of the program. No condition but those that each theorem names. -/
import Derived.Test.YtpcifakangbpaaaGreatQPathOpens5
import Derived.Test.YtpcifakangbpaaaGreatQPathOpens23
set_option linter.unusedVariables false
set_option linter.unusedSimpArgs false
set_option maxRecDepth 100000
set_option maxHeartbeats 16000000
namespace Go.Proofs.YtpcifakangbpaaaGreat
open Go.RowKit Go.ChangeShapes Go.WideShapes Go.ChangeAt Go.Deep Go.Proofs.Tryz
variable {R xs:List UInt8}{B E J N O S V b base' c f fuel g i j k m n s sd sz:Nat}{Q:Exit->Act->World->Prop}{d w' w0:World}{u v z:Value}{T e t:TypeId}{A:Option Addr}{h os:List Nat}{F:List UInt8->Option Nat}{p:List Nat×List Bool}{a:Act}{α:Type}{H l:List Int}{o:Oper}{G:Array Oper}{K:Act->World->Prop}{y:Array Value}{vs:List Value}{L:List Oper}{I:Bool}{U W Y aa:List (Int×List UInt8)}{P:Program}
section
variable {P:Program} {ops:Array Oper} {Q:Exit->Act->World->Prop} {rest:List Oper} {a:Act} {w:World}
theorem aGg{A E os:Oper}(J:A.guard=none)(L:E.guard=none)(N:os.guard=none)(T:TypeId)(j:Array Value)
 (O:∀(ρ:Operand->Value) (w:World),(execOp ρ A).run P w=.ok (.value (.pointer (some ⟨w.heap.size,0,none⟩))) (w.alloc (.cells j T)))
 (d e:Nat) (U:A.dst=some d) (V:E.dst=some e) (u:Value) (W:∀w:World,(execOp (a.put (some d) (.pointer (some ⟨w.heap.size,0,none⟩))).eval E).run P (w.alloc (.cells j T))=.ok (.value u) (w.alloc (.cells j T)))
 (y:Operand) (X:os.op=.store T (.tmp d) y) (vs:Array Value) (Y:∀w:World,((a.put (some d) (.pointer (some ⟨w.heap.size,0,none⟩))).put (some e) u).eval y=.agg vs)
 (Z:∀w:World,((a.put (some d) (.pointer (some ⟨w.heap.size,0,none⟩))).put (some e) u).eval (.tmp d)=.pointer (some ⟨w.heap.size,0,none⟩))
 (hn:vs.size=j.size) (hi:(P.info? T).map (·.size)=some vs.size) (h1:vs.all (·.oneCell')=true)
 (h:∀w',w'.heap[w.heap.size]?=some (.cells vs T (0,0))->Below w.heap.size w w'->w.heap.size<w'.heap.size->wpList P ops Q rest (((a.put (some d) (.pointer (some ⟨w.heap.size,0,none⟩))).put (some e) u).put os.dst undef) w'):wpList P ops Q (A :: E :: os :: rest) a w:=by
 refine Go.Great.wpList_runTo J (some d) U _ _ (O _ _) ?_;refine Go.Great.wpList_runTo L (some e) V _ _ (W _) ?_;have hb:=aJ w T j;refine bQ N T (.tmp d) y X w.heap.size 0 (Z w) vs (Y w) hb (by omega) hi h1 fun w' G I=>?_;rw[aQ _ _ hn.symm]at G;have hs:=I.size;simp only[fTa]at hs;exact h w' G (bC.trans (below_grown I (by simp) (by omega))) (by omega)
end
end Go.Proofs.YtpcifakangbpaaaGreat
