/- SpansCovers: Cover makes what the reference makes, and Check takes it. -/
import Derived.Test.YtdciombpffkcjaaSaySpansCovers
import Derived.Test.YtdciombpffkcjaaSpnB
namespace Go.Proofs.Ytdciombpffkcjaa.Pure
open Go.RowKit Go.Proofs.Ytdciombpffkcjaa.P Go.Proofs.YtdciombpffkcjaaW.PrintWords Go.Proofs.YtdciombpffkcjaaW.PrintLast Go.Proofs.YtdciombpffkcjaaW.PrintMore
theorem SpansCovers : taffraillaw12_SpansCovers.Pure := by
  intro x0 x1 h0 h1
  apply Ev.rounds
  unfold taffraillaw12_SpansCovers.f
  by_cases hb : (x0.length : Int) > 2000
  · simp only [hb, if_true]
    exact Ev.bind awake_ev (Ev.now true)
  · have hl : x0.length ≤ 2000 := by omega
    have e1 : spans_Cover.f x0 x1 = some (covR x0 x1) := by rw [← cov_eq]; exact if_pos (by omega)
    have e2 : taffrailref12_Cover.f x0 x1 = some (covR x0 x1) := if_pos (by omega)
    have hc := covR_len x0 x1
    simp only [hb, if_false, e1, e2, Option.bind_some]
    refine Ev.bind (refSame_ev _ _ (by omega)) ?_
    simp only [same_refl, if_true]
    refine Ev.bind (check_all _ _ (by omega)) ?_
    simp only [cov_good, if_true]
    exact Ev.bind awake_ev (Ev.now true)
end Go.Proofs.Ytdciombpffkcjaa.Pure
