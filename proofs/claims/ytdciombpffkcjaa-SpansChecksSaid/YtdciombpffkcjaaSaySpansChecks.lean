-- Printed by the session's driver printx.py over the kit's print; Lean checks it.
import Derived.Test.YtdciombpffkcjaaPx3
import Derived.Test.YtdciombpffkcjaaPKinds
namespace Go.Proofs.Ytdciombpffkcjaa.P
open Go.RowKit Go.Proofs.YtdciombpffkcjaaW.PrintWords
/-- THE ONE PURE STATEMENT of taffraillaw12_SpansChecks. -/
def taffraillaw12_SpansChecks.Pure : Prop := ∀ (x0 : List (S42)) (x1 : Int) (x2 : Int), (x0.length * 24 ≤ 140737488351232 ∧ ∀ y ∈ x0, ok42 y) → (Lit.int .i64 x1).wf = true → (Lit.int .i64 x2).wf = true → ∃ k, taffraillaw12_SpansChecks.f k x0 x1 x2 = some true
end Go.Proofs.Ytdciombpffkcjaa.P
