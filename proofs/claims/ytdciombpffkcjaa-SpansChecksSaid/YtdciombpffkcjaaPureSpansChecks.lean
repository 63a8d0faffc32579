/- SpansChecks: Check and At tell what the reference tells. -/
import Derived.Test.YtdciombpffkcjaaSaySpansChecks
import Derived.Test.YtdciombpffkcjaaSpnA
namespace Go.Proofs.Ytdciombpffkcjaa.Pure
open Go.RowKit Go.Proofs.Ytdciombpffkcjaa.P Go.Proofs.YtdciombpffkcjaaW.PrintWords Go.Proofs.YtdciombpffkcjaaW.PrintLast Go.Proofs.YtdciombpffkcjaaW.PrintMore
theorem SpansChecks : taffraillaw12_SpansChecks.Pure := by
  intro x0 x1 x2 h0 h1 h2
  have hl : x0.length ≤ 140737488351232 := by omega
  have ea : spans_At.f x0 x2 = some (atX x0 x2) := if_pos (by omega)
  apply Ev.rounds
  unfold taffraillaw12_SpansChecks.f
  refine Ev.bind (check_all x0 x1 hl) ?_
  refine Ev.bind (refCheck_all x0 x1 hl) ?_
  simp only [beq_self_eq_true, if_true, ea, Option.bind_some]
  refine Ev.bind (refAt_all x0 x2 hl) ?_
  simp only [if_true]
  exact Ev.bind awake_ev (Ev.now true)
end Go.Proofs.Ytdciombpffkcjaa.Pure
