-- Printed by the session's driver printx.py over the kit's print; Lean checks it.
import Derived.Test.YtncjlbbbojebhaaHandCopies
import Derived.Test.YtncjlbbbojebhaaPKinds
namespace Go.Proofs.Ytncjlbbbojebhaa.P
open Go.RowKit Go.Proofs.YtncjlbbbojebhaaW.PrintWords
/-- THE ONE PURE STATEMENT of taffraillaw03_Utf8inCopies. -/
def taffraillaw03_Utf8inCopies.Pure : Prop := ∀ (x0 : ByteArray) (x1 : ByteArray) (x2 : ByteArray), x0.size ≤ 140737488351232 → x1.size ≤ 140737488351232 → x2.size ≤ 140737488351232 → taffraillaw03_Utf8inCopies.f x0 x1 x2 = some true
end Go.Proofs.Ytncjlbbbojebhaa.P
