/- SpansSame: Same tells what the reference tells; a row is the same as itself. -/
import Derived.Test.YtdciombpffkcjaaSaySpansSame
import Derived.Test.YtdciombpffkcjaaSpnA
namespace Go.Proofs.Ytdciombpffkcjaa.Pure
open Go.RowKit Go.Proofs.Ytdciombpffkcjaa.P Go.Proofs.YtdciombpffkcjaaW.PrintWords Go.Proofs.YtdciombpffkcjaaW.PrintLast Go.Proofs.YtdciombpffkcjaaW.PrintMore
theorem SpansSame : taffraillaw12_SpansSame.Pure := by
  intro x0 x1 h0 h1
  have hl : x0.length ≤ 140737488351232 := by omega
  apply Ev.rounds
  unfold taffraillaw12_SpansSame.f
  refine Ev.bind (same_ev x0 x1 hl) ?_
  refine Ev.bind (refSame_ev x0 x1 hl) ?_
  simp only [beq_self_eq_true, if_true]
  refine Ev.bind (same_ev x0 x0 hl) ?_
  simp only [same_refl, if_true]
  exact Ev.bind awake_ev (Ev.now true)
end Go.Proofs.Ytdciombpffkcjaa.Pure
