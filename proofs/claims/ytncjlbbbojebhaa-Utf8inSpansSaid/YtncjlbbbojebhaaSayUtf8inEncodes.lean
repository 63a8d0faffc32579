-- Printed by the session's driver printx.py over the kit's print; Lean checks it.
import Derived.Test.YtncjlbbbojebhaaPx6
import Derived.Test.YtncjlbbbojebhaaPKinds
namespace Go.Proofs.Ytncjlbbbojebhaa.P
open Go.RowKit Go.Proofs.YtncjlbbbojebhaaW.PrintWords
/-- THE ONE PURE STATEMENT of taffraillaw03_Utf8inEncodes. -/
def taffraillaw03_Utf8inEncodes.Pure : Prop := ∀ (x0 : Int), (Lit.int .i64 x0).wf = true → ∃ k, taffraillaw03_Utf8inEncodes.f k x0 = some true
end Go.Proofs.Ytncjlbbbojebhaa.P
