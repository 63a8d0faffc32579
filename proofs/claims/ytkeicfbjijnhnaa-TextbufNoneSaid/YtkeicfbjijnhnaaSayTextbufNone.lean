-- Printed by the session's driver printx.py over the kit's print; Lean checks it.
import Derived.Test.YtkeicfbjijnhnaaHandNone
import Derived.Test.YtkeicfbjijnhnaaPKinds
namespace Go.Proofs.Ytkeicfbjijnhnaa.P
open Go.RowKit Go.Proofs.YtkeicfbjijnhnaaW.PrintWords
/-- THE ONE PURE STATEMENT of taffraillaw01_TextbufNone. -/
def taffraillaw01_TextbufNone.Pure : Prop := ∀ (x0 : S32), ok32 x0 → taffraillaw01_TextbufNone.f x0.f0 x0.f1 x0.f2 = some true
end Go.Proofs.Ytkeicfbjijnhnaa.P
