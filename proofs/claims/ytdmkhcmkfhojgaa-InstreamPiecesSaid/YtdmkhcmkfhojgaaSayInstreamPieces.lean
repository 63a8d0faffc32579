-- Printed by the session's driver printx.py over the kit's print; Lean checks it.
import Derived.Test.YtdmkhcmkfhojgaaHandPieces
import Derived.Test.YtdmkhcmkfhojgaaPKinds
namespace Go.Proofs.Ytdmkhcmkfhojgaa.P
open Go.RowKit Go.Proofs.YtdmkhcmkfhojgaaW.PrintWords
/-- THE ONE PURE STATEMENT of taffraillaw04_InstreamPieces. -/
def taffraillaw04_InstreamPieces.Pure : Prop := ∀ (x0 : List ByteArray), (x0.length * 16 ≤ 140737488351232 ∧ ∀ y ∈ x0, y.size ≤ 140737488351232) → taffraillaw04_InstreamPieces.f x0 = some true
end Go.Proofs.Ytdmkhcmkfhojgaa.P
