-- Printed by the session's driver printx.py over the kit's print; Lean checks it.
import Derived.Test.YtcediffliacgkaaPx2
import Derived.Test.YtcediffliacgkaaPKinds
namespace Go.Proofs.Ytcediffliacgkaa.P
open Go.RowKit Go.Proofs.YtcediffliacgkaaW.PrintWords
/-- THE ONE PURE STATEMENT of taffraillaw02_MappingPoints. -/
def taffraillaw02_MappingPoints.Pure : Prop := ∀ (x0 : S23) (x1 : Int) (x2 : Bool), ok23 x0 → (Lit.int .i64 x1).wf = true → ∃ k, taffraillaw02_MappingPoints.f k x0.f0 x0.f1 x0.f2 x1 x2 = some true
end Go.Proofs.Ytcediffliacgkaa.P
