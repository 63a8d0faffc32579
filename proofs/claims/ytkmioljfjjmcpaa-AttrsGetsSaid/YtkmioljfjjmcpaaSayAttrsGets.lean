-- Printed by the session's driver printx.py over the kit's print; Lean checks it.
import Derived.Test.YtkmioljfjjmcpaaPx3
import Derived.Test.YtkmioljfjjmcpaaPKinds
namespace Go.Proofs.Ytkmioljfjjmcpaa.P
open Go.RowKit Go.Proofs.YtkmioljfjjmcpaaW.PrintWords
/-- THE ONE PURE STATEMENT of taffraillaw08_AttrsGets. -/
def taffraillaw08_AttrsGets.Pure : Prop := ∀ (x0 : List (S24)) (x1 : S24), (x0.length * 32 ≤ 140737488351232 ∧ ∀ y ∈ x0, ok24 y) → ok24 x1 → ∃ k, taffraillaw08_AttrsGets.f k x0 x1.f0 x1.f1 = some true
end Go.Proofs.Ytkmioljfjjmcpaa.P
