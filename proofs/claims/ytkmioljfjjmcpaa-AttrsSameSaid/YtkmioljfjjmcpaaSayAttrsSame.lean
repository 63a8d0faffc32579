-- Printed by the session's driver printx.py over the kit's print; Lean checks it.
import Derived.Test.YtkmioljfjjmcpaaPx5
import Derived.Test.YtkmioljfjjmcpaaPKinds
namespace Go.Proofs.Ytkmioljfjjmcpaa.P
open Go.RowKit Go.Proofs.YtkmioljfjjmcpaaW.PrintWords
/-- THE ONE PURE STATEMENT of taffraillaw08_AttrsSame. -/
def taffraillaw08_AttrsSame.Pure : Prop := ∀ (x0 : List (S24)) (x1 : List (S24)), (x0.length * 32 ≤ 140737488351232 ∧ ∀ y ∈ x0, ok24 y) → (x1.length * 32 ≤ 140737488351232 ∧ ∀ y ∈ x1, ok24 y) → ∃ k, taffraillaw08_AttrsSame.f k x0 x1 = some true
end Go.Proofs.Ytkmioljfjjmcpaa.P
