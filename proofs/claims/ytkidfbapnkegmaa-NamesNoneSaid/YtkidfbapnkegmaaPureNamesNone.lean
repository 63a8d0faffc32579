import Derived.Test.YtkidfbapnkegmaaSayNamesNone
namespace Go.Proofs.Ytkidfbapnkegmaa.Pure
open Go.RowKit Go.Proofs.Ytkidfbapnkegmaa.P Go.Proofs.YtkidfbapnkegmaaW.PrintWords Go.Proofs.YtkidfbapnkegmaaW.PrintLast Go.Proofs.YtkidfbapnkegmaaW.PrintMore

/- ∀ (x0 : ByteArray), x0.size ≤ 140737488351232 → taffraillaw05_NamesNone.f x0 = some true -/
theorem NamesNone : taffraillaw05_NamesNone.Pure := by
  intro x0 h0
  unfold taffraillaw05_NamesNone.f
  rw [if_pos (by omega)]

end Go.Proofs.Ytkidfbapnkegmaa.Pure
