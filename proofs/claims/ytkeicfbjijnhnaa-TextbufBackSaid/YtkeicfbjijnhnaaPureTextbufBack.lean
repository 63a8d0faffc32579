import Derived.Test.YtkeicfbjijnhnaaSayTextbufBack
namespace Go.Proofs.Ytkeicfbjijnhnaa.Pure
open Go.RowKit Go.Proofs.Ytkeicfbjijnhnaa.P Go.Proofs.YtkeicfbjijnhnaaW.PrintWords Go.Proofs.YtkeicfbjijnhnaaW.PrintLast Go.Proofs.YtkeicfbjijnhnaaW.PrintMore
/- the law's plain statement: what was walked, within the bounds of what comes in -/
theorem TextbufBack : taffraillaw01_TextbufBack.Pure := by
  intro x0 x1 h0 h1
  have h2 := h1.1
  unfold taffraillaw01_TextbufBack.f
  rw [if_pos (by omega)]

end Go.Proofs.Ytkeicfbjijnhnaa.Pure
