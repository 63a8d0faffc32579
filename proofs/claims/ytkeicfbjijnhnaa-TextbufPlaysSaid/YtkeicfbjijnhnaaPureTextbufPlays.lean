import Derived.Test.YtkeicfbjijnhnaaSayTextbufPlays
namespace Go.Proofs.Ytkeicfbjijnhnaa.Pure
open Go.RowKit Go.Proofs.Ytkeicfbjijnhnaa.P Go.Proofs.YtkeicfbjijnhnaaW.PrintWords Go.Proofs.YtkeicfbjijnhnaaW.PrintLast Go.Proofs.YtkeicfbjijnhnaaW.PrintMore
/- the law's plain statement: what was walked, within the bounds of what comes in -/
theorem TextbufPlays : taffraillaw01_TextbufPlays.Pure := by
  intro x0 x1 x2 h0 h1 h2
  have h3 := h2.1
  unfold taffraillaw01_TextbufPlays.f
  rw [if_pos ⟨by omega, fun y hy => (h2.2 y hy).1.2.2⟩]

end Go.Proofs.Ytkeicfbjijnhnaa.Pure
