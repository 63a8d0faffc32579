-- Printed by the session's driver printx.py over the kit's print; Lean checks it.
import Derived.Test.YtncjlbbbojebhaaPx6
import Derived.Test.YtncjlbbbojebhaaPKinds
namespace Go.Proofs.Ytncjlbbbojebhaa.P
open Go.RowKit Go.Proofs.YtncjlbbbojebhaaW.PrintWords
/-- THE ONE PURE STATEMENT of taffraillaw03_Utf8inSpans. -/
def taffraillaw03_Utf8inSpans.Pure : Prop := ∀ (x0 : ByteArray), x0.size ≤ 140737488351232 → ∃ k, taffraillaw03_Utf8inSpans.f k x0 = some true
end Go.Proofs.Ytncjlbbbojebhaa.P
