import Derived.Test.YtkidfbapnkegmaaSayNamesPrefix
namespace Go.Proofs.Ytkidfbapnkegmaa.Pure
open Go.RowKit Go.Proofs.Ytkidfbapnkegmaa.P Go.Proofs.YtkidfbapnkegmaaW.PrintWords Go.Proofs.YtkidfbapnkegmaaW.PrintLast Go.Proofs.YtkidfbapnkegmaaW.PrintMore

/- ∀ (x0 : ByteArray), x0.size ≤ 140737488351232 → taffraillaw05_NamesPrefix.f x0 = some true -/
theorem NamesPrefix : taffraillaw05_NamesPrefix.Pure := by
  intro x0 h0
  unfold taffraillaw05_NamesPrefix.f
  rw [if_pos (by omega)]

end Go.Proofs.Ytkidfbapnkegmaa.Pure
