-- Printed by the session's driver printx.py over the kit's print; Lean checks it.
import Derived.Test.YtdmkhcmkfhojgaaPx7
import Derived.Test.YtdmkhcmkfhojgaaPKinds
namespace Go.Proofs.Ytdmkhcmkfhojgaa.P
open Go.RowKit Go.Proofs.YtdmkhcmkfhojgaaW.PrintWords
/-- THE ONE PURE STATEMENT of taffraillaw04_InstreamLines. -/
def taffraillaw04_InstreamLines.Pure : Prop := ∀ (x0 : List ByteArray), (x0.length * 16 ≤ 140737488351232 ∧ ∀ y ∈ x0, y.size ≤ 140737488351232) → ∃ k, taffraillaw04_InstreamLines.f k x0 = some true
end Go.Proofs.Ytdmkhcmkfhojgaa.P
