-- Printed by the session's driver printx.py over the kit's print; Lean checks it.
import Derived.Test.YtnecnbpnfikbkaaHandFields6
import Derived.Test.YtnecnbpnfikbkaaPKinds
namespace Go.Proofs.Ytnecnbpnfikbkaa.P
open Go.RowKit Go.Proofs.YtnecnbpnfikbkaaW.PrintWords
/-- THE ONE PURE STATEMENT of taffraillaw09_TokensFields. -/
def taffraillaw09_TokensFields.Pure : Prop := ∀ (x0 : S26) (x1 : Int) (x2 : Int), ok26 x0 → (Lit.int .i64 x1).wf = true → (Lit.int .i64 x2).wf = true → taffraillaw09_TokensFields.f x0.f0 x0.f1 x0.f2 x0.f3 x0.f4 x0.f5 x0.f6.f0 x0.f6.f1 x1 x2 = some true
end Go.Proofs.Ytnecnbpnfikbkaa.P
