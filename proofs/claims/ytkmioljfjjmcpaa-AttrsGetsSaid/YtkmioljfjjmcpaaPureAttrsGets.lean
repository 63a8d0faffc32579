/- What was added is found, unless its name was there: for every list of attributes and every attribute. No condition. -/
import Derived.Test.YtkmioljfjjmcpaaSayAttrsGets
import Derived.Test.YtkmioljfjjmcpaaAttrs
namespace Go.Proofs.Ytkmioljfjjmcpaa.Pure
open Go.RowKit Go.Proofs.Ytkmioljfjjmcpaa.P Go.Proofs.YtkmioljfjjmcpaaW.PrintWords Go.Proofs.YtkmioljfjjmcpaaW.PrintLast Go.Proofs.YtkmioljfjjmcpaaW.PrintMore

theorem AttrsGets : taffraillaw08_AttrsGets.Pure := by
  intro l x hl hx
  have hlen : l.length ≤ 140737488351232 := by omega
  obtain ⟨K, hK⟩ := few_ev [l] (by intro z hz; simp at hz; subst hz; exact hlen) (by simp)
  obtain ⟨K2, hA⟩ := awake_ev
  refine ⟨max K K2, ?_⟩
  have h1 := hK (max K K2) (by omega)
  have h2 := hA (max K K2) (by omega)
  simp only at h1 h2
  generalize max K K2 = k at *
  unfold taffraillaw08_AttrsGets.f
  rw [h1]
  simp only [Option.bind_some, h2]
  by_cases hf : l.length ≤ 400
  · rw [if_pos (by simpa using hf), get_some, add_some _ _ _ (by omega)]
    simp only [Option.bind_some]
    by_cases hp : placeFrom x.f0 l 0 = -1
    · simp only [if_pos hp]
      rw [get_some]
      have hq : placeFrom x.f0 (l ++ [⟨x.f0, x.f1⟩]) 0 = l.length := by
        rw [placeFrom_append, if_pos hp]
        simp [placeFrom]
      rw [hq, if_neg (by omega)]
      have hr : rd_T24 (l ++ [⟨x.f0, x.f1⟩]) (l.length : Int) = ⟨x.f0, x.f1⟩ := by
        rw [rd_nat _ _ (by simp)]; simp
      simp only [Option.bind_some, hr]
      rw [wrap_id _ (by omega) (by omega)]
      simp
    · simp only [if_neg hp]
      rw [get_some, if_neg hp]
      simp
  · rw [if_neg (by simpa using hf)]
end Go.Proofs.Ytkmioljfjjmcpaa.Pure
