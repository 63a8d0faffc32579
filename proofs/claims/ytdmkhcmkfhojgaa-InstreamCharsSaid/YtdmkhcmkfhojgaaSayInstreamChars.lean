-- Printed by the session's driver printx.py over the kit's print; Lean checks it.
import Derived.Test.YtdmkhcmkfhojgaaPx7
import Derived.Test.YtdmkhcmkfhojgaaPKinds
namespace Go.Proofs.Ytdmkhcmkfhojgaa.P
open Go.RowKit Go.Proofs.YtdmkhcmkfhojgaaW.PrintWords
/-- THE ONE PURE STATEMENT of taffraillaw04_InstreamChars. -/
def taffraillaw04_InstreamChars.Pure : Prop := ∀ (x0 : ByteArray), x0.size ≤ 140737488351232 → ∃ k, taffraillaw04_InstreamChars.f k x0 = some true
end Go.Proofs.Ytdmkhcmkfhojgaa.P
