-- Printed by the session's driver printx.py over the kit's print; Lean checks it.
import Derived.Test.YtkmioljfjjmcpaaPx5
import Derived.Test.YtkmioljfjjmcpaaPKinds
namespace Go.Proofs.Ytkmioljfjjmcpaa.P
open Go.RowKit Go.Proofs.YtkmioljfjjmcpaaW.PrintWords
/-- THE ONE PURE STATEMENT of taffraillaw08_AttrsOrder. -/
def taffraillaw08_AttrsOrder.Pure : Prop := ∀ (x0 : List (S24)) (x1 : Int), (x0.length * 32 ≤ 140737488351232 ∧ ∀ y ∈ x0, ok24 y) → (Lit.int .i64 x1).wf = true → ∃ k, taffraillaw08_AttrsOrder.f k x0 x1 = some true
end Go.Proofs.Ytkmioljfjjmcpaa.P
