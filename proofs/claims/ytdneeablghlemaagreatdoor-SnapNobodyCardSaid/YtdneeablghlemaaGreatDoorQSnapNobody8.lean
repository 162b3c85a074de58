/- SnapNobody: what the kernel finds of the program as a whole. No condition. -/
import Derived.Test.YtdneeablghlemaaGreatDoorRows
import Derived.Test.YtdneeablghlemaaGreatDoorQSnapNobody2
import Derived.Test.YtdneeablghlemaaGreatDoorQSnapNobody4
import Derived.Test.YtdneeablghlemaaGreatDoorCards
import Derived.Test.YtdneeablghlemaaGreatDoorTie
import Derived.SevenTiedAt
namespace Go.Proofs.YtdneeablghlemaaGreatDoor
open Go.RowKit Go.ChangeShapes Go.WideShapes Go.ChangeAt Go.Deep
namespace RowSnapNobody
theorem bt {a b : Bool} (h : a = true) (k : b = true) : (a && b) = true := by rw [h, k]; rfl
set_option maxHeartbeats 20000000 in
theorem closed : joinedFacts Tryz.pinned.checked.prog 3 Tryz.f3 Rows.snapNobodySpec Rows.snapNobodyRow = true := by
  unfold joinedFacts
  repeat' (with_reducible refine bt ?_ ?_)
  all_goals as_aux_lemma => kernel_rfl
end RowSnapNobody
end Go.Proofs.YtdneeablghlemaaGreatDoor
