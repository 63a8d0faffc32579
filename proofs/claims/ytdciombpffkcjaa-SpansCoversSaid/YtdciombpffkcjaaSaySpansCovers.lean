-- Printed by the session's driver printx.py over the kit's print; Lean checks it.
import Derived.Test.YtdciombpffkcjaaPx3
import Derived.Test.YtdciombpffkcjaaPKinds
namespace Go.Proofs.Ytdciombpffkcjaa.P
open Go.RowKit Go.Proofs.YtdciombpffkcjaaW.PrintWords
/-- THE ONE PURE STATEMENT of taffraillaw12_SpansCovers. -/
def taffraillaw12_SpansCovers.Pure : Prop := ∀ (x0 : List (S39)) (x1 : Int), (x0.length * 96 ≤ 140737488351232 ∧ ∀ y ∈ x0, ok39 y) → (Lit.int .i64 x1).wf = true → ∃ k, taffraillaw12_SpansCovers.f k x0 x1 = some true
end Go.Proofs.Ytdciombpffkcjaa.P
