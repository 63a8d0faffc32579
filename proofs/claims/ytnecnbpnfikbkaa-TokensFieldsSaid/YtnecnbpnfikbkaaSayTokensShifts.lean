-- Printed by the session's driver printx.py over the kit's print; Lean checks it.
import Derived.Test.YtnecnbpnfikbkaaPx7
import Derived.Test.YtnecnbpnfikbkaaPKinds
namespace Go.Proofs.Ytnecnbpnfikbkaa.P
open Go.RowKit Go.Proofs.YtnecnbpnfikbkaaW.PrintWords
/-- THE ONE PURE STATEMENT of taffraillaw09_TokensShifts. -/
def taffraillaw09_TokensShifts.Pure : Prop := ∀ (x0 : S26) (x1 : Int), ok26 x0 → (Lit.int .i64 x1).wf = true → ∃ k, taffraillaw09_TokensShifts.f k x0.f0 x0.f1 x0.f2 x0.f3 x0.f4 x0.f5 x0.f6.f0 x0.f6.f1 x1 = some true
end Go.Proofs.Ytnecnbpnfikbkaa.P
