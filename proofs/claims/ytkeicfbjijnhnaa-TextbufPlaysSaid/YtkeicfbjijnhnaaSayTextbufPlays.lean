-- Printed by the session's driver printx.py over the kit's print; Lean checks it.
import Derived.Test.YtkeicfbjijnhnaaHandPlays
import Derived.Test.YtkeicfbjijnhnaaPKinds
namespace Go.Proofs.Ytkeicfbjijnhnaa.P
open Go.RowKit Go.Proofs.YtkeicfbjijnhnaaW.PrintWords
/-- THE ONE PURE STATEMENT of taffraillaw01_TextbufPlays. -/
def taffraillaw01_TextbufPlays.Pure : Prop := ∀ (x0 : ByteArray) (x1 : Int) (x2 : List (S46)), x0.size ≤ 140737488351232 → (Lit.int .i64 x1).wf = true → (x2.length * 40 ≤ 140737488351232 ∧ ∀ y ∈ x2, ok46 y) → taffraillaw01_TextbufPlays.f x0 x1 x2 = some true
end Go.Proofs.Ytkeicfbjijnhnaa.P
