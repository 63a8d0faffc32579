-- Printed by the session's driver printx.py over the kit's print; Lean checks it.
import Derived.Test.YtcediffliacgkaaPx4
import Derived.Test.YtcediffliacgkaaPKinds
namespace Go.Proofs.Ytcediffliacgkaa.P
open Go.RowKit Go.Proofs.YtcediffliacgkaaW.PrintWords
/-- THE ONE PURE STATEMENT of taffraillaw02_MappingOrder. -/
def taffraillaw02_MappingOrder.Pure : Prop := ∀ (x0 : S23) (x1 : Int) (x2 : Int), ok23 x0 → (Lit.int .i64 x1).wf = true → (Lit.int .i64 x2).wf = true → ∃ k, taffraillaw02_MappingOrder.f k x0.f0 x0.f1 x0.f2 x1 x2 = some true
end Go.Proofs.Ytcediffliacgkaa.P
