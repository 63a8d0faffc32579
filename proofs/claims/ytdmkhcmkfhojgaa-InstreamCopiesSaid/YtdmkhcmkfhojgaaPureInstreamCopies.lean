/- A copy goes on as the stream that it was copied of, and neither changes the other. No condition. -/
import Derived.Test.YtdmkhcmkfhojgaaSayInstreamCopies
namespace Go.Proofs.Ytdmkhcmkfhojgaa.Pure
open Go.RowKit Go.Proofs.Ytdmkhcmkfhojgaa.P Go.Proofs.YtdmkhcmkfhojgaaW.PrintWords Go.Proofs.YtdmkhcmkfhojgaaW.PrintLast Go.Proofs.YtdmkhcmkfhojgaaW.PrintMore

theorem InstreamCopies : taffraillaw04_InstreamCopies.Pure := by
  intro s t u hs ht hu
  exact if_pos ⟨by omega, by omega, by omega⟩
end Go.Proofs.Ytdmkhcmkfhojgaa.Pure
