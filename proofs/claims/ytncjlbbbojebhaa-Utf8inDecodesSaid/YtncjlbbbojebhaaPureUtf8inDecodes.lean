/- Any bytes' characters and faults are those of the definition. No condition. -/
import Derived.Test.YtncjlbbbojebhaaSayUtf8inDecodes
import Derived.Test.YtncjlbbbojebhaaPlain3
namespace Go.Proofs.Ytncjlbbbojebhaa.Pure
open Go.RowKit Go.Proofs.Ytncjlbbbojebhaa.P Go.Proofs.YtncjlbbbojebhaaW.PrintWords Go.Proofs.YtncjlbbbojebhaaW.PrintLast Go.Proofs.YtncjlbbbojebhaaW.PrintMore

theorem Utf8inDecodes : taffraillaw03_Utf8inDecodes.Pure := by
  intro t _
  refine ⟨50000, ?_⟩
  unfold taffraillaw03_Utf8inDecodes.f
  rw [awake_some]
  by_cases h : (t.size : Int) > 20000
  · rw [if_pos h]; rfl
  · have hl := told_len t
    rw [if_neg h, utf8in_some t (by omega)]
    simp only [Option.bind_some]
    rw [ref_some t (by omega) 50000 (by omega)]
    simp only [Option.bind_some]
    rw [chars_same _ _ (by omega) (by omega)]
    simp only [Option.bind_some]
    rw [if_pos trivial, faults_same _ _ (by omega) (by omega)]
    rfl
end Go.Proofs.Ytncjlbbbojebhaa.Pure
