import Derived.Test.YtkidfbapnkegmaaSayNamesOwn
import Derived.OpenShut
namespace Go.Proofs.Ytkidfbapnkegmaa.Pure
open Go.RowKit Go.Proofs.Ytkidfbapnkegmaa.P Go.Proofs.YtkidfbapnkegmaaW.PrintWords Go.Proofs.YtkidfbapnkegmaaW.PrintLast Go.Proofs.YtkidfbapnkegmaaW.PrintMore

/- ∀ (x0 : Int) (x1 : Int), (Lit.int .i64 x0).wf = true → (Lit.int .u8 x1).wf = true → taffraillaw05_NamesOwn.f x0 x1 = some true -/
theorem NamesOwn : taffraillaw05_NamesOwn.Pure := by
  intro x0 x1 h0 h1
  unfold taffraillaw05_NamesOwn.f
  have h2 : 0 ≤ x1 ∧ x1 ≤ 255 := bounds_u8 h1
  rw [if_pos h2]

end Go.Proofs.Ytkidfbapnkegmaa.Pure
