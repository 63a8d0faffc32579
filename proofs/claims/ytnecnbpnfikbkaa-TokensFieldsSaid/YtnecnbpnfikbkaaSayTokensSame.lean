-- Printed by the session's driver printx.py over the kit's print; Lean checks it.
import Derived.Test.YtnecnbpnfikbkaaPx6
import Derived.Test.YtnecnbpnfikbkaaPKinds
namespace Go.Proofs.Ytnecnbpnfikbkaa.P
open Go.RowKit Go.Proofs.YtnecnbpnfikbkaaW.PrintWords
/-- THE ONE PURE STATEMENT of taffraillaw09_TokensSame. -/
def taffraillaw09_TokensSame.Pure : Prop := ∀ (x0 : List (S26)) (x1 : List (S26)), (x0.length * 96 ≤ 140737488351232 ∧ ∀ y ∈ x0, ok26 y) → (x1.length * 96 ≤ 140737488351232 ∧ ∀ y ∈ x1, ok26 y) → ∃ k, taffraillaw09_TokensSame.f k x0 x1 = some true
end Go.Proofs.Ytnecnbpnfikbkaa.P
