/- A copy goes on as the decoder that it was copied of. No condition. -/
import Derived.Test.YtncjlbbbojebhaaSayUtf8inCopies
namespace Go.Proofs.Ytncjlbbbojebhaa.Pure
open Go.RowKit Go.Proofs.Ytncjlbbbojebhaa.P Go.Proofs.YtncjlbbbojebhaaW.PrintWords Go.Proofs.YtncjlbbbojebhaaW.PrintLast Go.Proofs.YtncjlbbbojebhaaW.PrintMore

theorem Utf8inCopies : taffraillaw03_Utf8inCopies.Pure := by
  intro s t u hs ht hu
  exact if_pos ⟨by omega, by omega, by omega⟩
end Go.Proofs.Ytncjlbbbojebhaa.Pure
