/- What a row asks of the program's form. -/
import Derived.Test.YtddopjjmpadnoaaGreatRows
import Derived.Handed
import Derived.JoinedOf
import Derived.ProofKit
namespace Go.Proofs.YtddopjjmpadnoaaGreat.repoSnaps
open Go.ChangeShapes Go.WideShapes Go.ChangeAt Go.RowKit
set_option maxRecDepth 100000 in
theorem closed : joinedFacts Tryz.checked.prog 3 Tryz.f3 Rows.repoSnapsSpec Rows.repoSnapsRow = true := by
  unfold joinedFacts
  simp only [Bool.and_eq_true]
  repeat' apply And.intro
  all_goals (as_aux_lemma => kernel_rfl)
end Go.Proofs.YtddopjjmpadnoaaGreat.repoSnaps
