-- Printed by the session's driver printx.py over the kit's print; Lean checks it.
import Derived.Test.YtcediffliacgkaaPx3
import Derived.Test.YtcediffliacgkaaPKindsU
namespace Go.Proofs.Ytcediffliacgkaa.P
open Go.RowKit Go.Proofs.YtcediffliacgkaaW.PrintWords
/-- THE ONE PURE STATEMENT of taffraillaw02_MappingKeeps. -/
def taffraillaw02_MappingKeeps.Pure : Prop := ∀ (x0 : ByteArray) (x1 : S23) (x2 : Int), x0.size ≤ 1048576 → oku23 x1 → (Lit.int .i64 x2).wf = true → ∃ k, taffraillaw02_MappingKeeps.f k x0 x1.f0 x1.f1 x1.f2 x2 = some true
end Go.Proofs.Ytcediffliacgkaa.P
