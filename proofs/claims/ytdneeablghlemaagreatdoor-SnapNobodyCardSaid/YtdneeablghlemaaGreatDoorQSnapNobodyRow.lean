/- The statement SnapNobody for every input: the walk, met in the row. No condition. -/
import Derived.Test.YtdneeablghlemaaGreatDoorRows
import Derived.Test.YtdneeablghlemaaGreatDoorQSnapNobody2
import Derived.Test.YtdneeablghlemaaGreatDoorQSnapNobody9
import Derived.Test.YtdneeablghlemaaGreatDoorQSnapNobody4
import Derived.Test.YtdneeablghlemaaGreatDoorCards
import Derived.Test.YtdneeablghlemaaGreatDoorTie
import Derived.SevenTiedAt
namespace Go.Proofs.YtdneeablghlemaaGreatDoor
open Go.RowKit Go.ChangeShapes Go.WideShapes Go.ChangeAt Go.Deep
namespace RowSnapNobody
theorem card : Rows.SnapNobodyCardSaid :=
  Claim7.holds_tied_plain_at .later [] [.data, .pinned] true _ false over (fun _ h => by cases h) (by as_aux_lemma => kernel_rfl) (fun _ h => by cases h) snapNobody_row_tie rfl ⟨rfl, rfl⟩ (by as_aux_lemma => kernel_rfl) rfl
    (fun f fn hf hfn => by
      obtain rfl : f = 3 := Option.some.inj ((show Tryz.prog.funcNamed "distributary/distributarylaw44.SnapNobody" = some 3 by kernel_rfl).symm.trans hf) |>.symm
      obtain rfl : fn = Tryz.f3 := (Option.some.inj (Tryz.func3.symm.trans hfn)).symm
      exact ⟨by kernel_rfl, fun j t ht => by
        rw [Tryz.params3] at ht
        have hm : t ∈ [28, 3] := by simpa using Array.mem_of_getElem? ht
        have hall : ([28, 3].all fun u => !Tryz.prog.wantsStandIn u) = true := by kernel_rfl
        exact (show Tryz.prog.wantsStandIn t = false by simpa using List.all_eq_true.1 hall t hm)⟩)
    (by as_aux_lemma => kernel_rfl)
end RowSnapNobody
theorem snapNobody_holds : Rows.SnapNobodyCardSaid := RowSnapNobody.card
end Go.Proofs.YtdneeablghlemaaGreatDoor
