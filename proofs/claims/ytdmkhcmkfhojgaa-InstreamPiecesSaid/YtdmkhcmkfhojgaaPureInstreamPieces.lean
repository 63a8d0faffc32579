/- However bytes are cut, the characters and faults are the same. No condition. -/
import Derived.Test.YtdmkhcmkfhojgaaSayInstreamPieces
namespace Go.Proofs.Ytdmkhcmkfhojgaa.Pure
open Go.RowKit Go.Proofs.Ytdmkhcmkfhojgaa.P Go.Proofs.YtdmkhcmkfhojgaaW.PrintWords Go.Proofs.YtdmkhcmkfhojgaaW.PrintLast Go.Proofs.YtdmkhcmkfhojgaaW.PrintMore

theorem InstreamPieces : taffraillaw04_InstreamPieces.Pure := by
  intro ls hl
  exact if_pos ⟨by omega, hl.2⟩
end Go.Proofs.Ytdmkhcmkfhojgaa.Pure
