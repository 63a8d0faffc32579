-- Printed by the session's driver printx.py over the kit's print; Lean checks it.
import Derived.Test.YtkidfbapnkegmaaHandOwn
import Derived.Test.YtkidfbapnkegmaaPKinds
namespace Go.Proofs.Ytkidfbapnkegmaa.P
open Go.RowKit Go.Proofs.YtkidfbapnkegmaaW.PrintWords
/-- THE ONE PURE STATEMENT of taffraillaw05_NamesOwn. -/
def taffraillaw05_NamesOwn.Pure : Prop := ∀ (x0 : Int) (x1 : Int), (Lit.int .i64 x0).wf = true → (Lit.int .u8 x1).wf = true → taffraillaw05_NamesOwn.f x0 x1 = some true
end Go.Proofs.Ytkidfbapnkegmaa.P
