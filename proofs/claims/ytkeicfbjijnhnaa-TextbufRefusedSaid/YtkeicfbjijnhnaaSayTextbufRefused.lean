-- Printed by the session's driver printx.py over the kit's print; Lean checks it.
import Derived.Test.YtkeicfbjijnhnaaHandRefused
import Derived.Test.YtkeicfbjijnhnaaPKinds
namespace Go.Proofs.Ytkeicfbjijnhnaa.P
open Go.RowKit Go.Proofs.YtkeicfbjijnhnaaW.PrintWords
/-- THE ONE PURE STATEMENT of taffraillaw01_TextbufRefused. -/
def taffraillaw01_TextbufRefused.Pure : Prop := ∀ (x0 : ByteArray) (x1 : S32), x0.size ≤ 140737488351232 → ok32 x1 → taffraillaw01_TextbufRefused.f x0 x1.f0 x1.f1 x1.f2 = some true
end Go.Proofs.Ytkeicfbjijnhnaa.P
