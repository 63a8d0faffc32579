-- Printed by the session's driver printx.py over the kit's print; Lean checks it.
import Derived.Test.YtdciombpffkcjaaPx4
import Derived.Test.YtdciombpffkcjaaPKinds
namespace Go.Proofs.Ytdciombpffkcjaa.P
open Go.RowKit Go.Proofs.YtdciombpffkcjaaW.PrintWords
/-- THE ONE PURE STATEMENT of taffraillaw12_SpansSame. -/
def taffraillaw12_SpansSame.Pure : Prop := ∀ (x0 : List (S42)) (x1 : List (S42)), (x0.length * 24 ≤ 140737488351232 ∧ ∀ y ∈ x0, ok42 y) → (x1.length * 24 ≤ 140737488351232 ∧ ∀ y ∈ x1, ok42 y) → ∃ k, taffraillaw12_SpansSame.f k x0 x1 = some true
end Go.Proofs.Ytdciombpffkcjaa.P
