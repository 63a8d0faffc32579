-- Printed by the session's driver printx.py over the kit's print; Lean checks it.
import Derived.Test.YtdmkhcmkfhojgaaHandCopies
import Derived.Test.YtdmkhcmkfhojgaaPKinds
namespace Go.Proofs.Ytdmkhcmkfhojgaa.P
open Go.RowKit Go.Proofs.YtdmkhcmkfhojgaaW.PrintWords
/-- THE ONE PURE STATEMENT of taffraillaw04_InstreamCopies. -/
def taffraillaw04_InstreamCopies.Pure : Prop := ∀ (x0 : ByteArray) (x1 : ByteArray) (x2 : ByteArray), x0.size ≤ 140737488351232 → x1.size ≤ 140737488351232 → x2.size ≤ 140737488351232 → taffraillaw04_InstreamCopies.f x0 x1 x2 = some true
end Go.Proofs.Ytdmkhcmkfhojgaa.P
