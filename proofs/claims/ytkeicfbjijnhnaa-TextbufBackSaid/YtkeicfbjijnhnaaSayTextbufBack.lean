-- Printed by the session's driver printx.py over the kit's print; Lean checks it.
import Derived.Test.YtkeicfbjijnhnaaHandBack2
import Derived.Test.YtkeicfbjijnhnaaPKinds
namespace Go.Proofs.Ytkeicfbjijnhnaa.P
open Go.RowKit Go.Proofs.YtkeicfbjijnhnaaW.PrintWords
/-- THE ONE PURE STATEMENT of taffraillaw01_TextbufBack. -/
def taffraillaw01_TextbufBack.Pure : Prop := ∀ (x0 : ByteArray) (x1 : List (S32)), x0.size ≤ 140737488351232 → (x1.length * 32 ≤ 140737488351232 ∧ ∀ y ∈ x1, ok32 y) → taffraillaw01_TextbufBack.f x0 x1 = some true
end Go.Proofs.Ytkeicfbjijnhnaa.P
