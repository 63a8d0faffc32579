-- Printed by the session's driver printx.py over the kit's print; Lean checks it.
import Derived.Test.YtkidfbapnkegmaaHandPrefix
import Derived.Test.YtkidfbapnkegmaaPKinds
namespace Go.Proofs.Ytkidfbapnkegmaa.P
open Go.RowKit Go.Proofs.YtkidfbapnkegmaaW.PrintWords
/-- THE ONE PURE STATEMENT of taffraillaw05_NamesPrefix. -/
def taffraillaw05_NamesPrefix.Pure : Prop := ∀ (x0 : ByteArray), x0.size ≤ 140737488351232 → taffraillaw05_NamesPrefix.f x0 = some true
end Go.Proofs.Ytkidfbapnkegmaa.P
