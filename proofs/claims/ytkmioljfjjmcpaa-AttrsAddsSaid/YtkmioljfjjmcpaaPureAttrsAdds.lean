/- One more to any list; any value; those that are missing: attrs answers as the reference does. No condition. -/
import Derived.Test.YtkmioljfjjmcpaaSayAttrsAdds
import Derived.Test.YtkmioljfjjmcpaaAttrs2
namespace Go.Proofs.Ytkmioljfjjmcpaa.Pure
open Go.RowKit Go.Proofs.Ytkmioljfjjmcpaa.P Go.Proofs.YtkmioljfjjmcpaaW.PrintWords Go.Proofs.YtkmioljfjjmcpaaW.PrintLast Go.Proofs.YtkmioljfjjmcpaaW.PrintMore

theorem AttrsAdds : taffraillaw08_AttrsAdds.Pure := by
  intro l more x hl hm hx
  have hlen : l.length ≤ 140737488351232 := by omega
  have hmen : more.length ≤ 140737488351232 := by omega
  obtain ⟨K, hK⟩ := few_ev [l, more] (by intro z hz; simp at hz; rcases hz with rfl | rfl <;> assumption) (by simp)
  obtain ⟨K2, hA⟩ := awake_ev
  refine ⟨max (max K K2) 2000, ?_⟩
  have h1 := hK (max (max K K2) 2000) (by omega)
  have h2 := hA (max (max K K2) 2000) (by omega)
  have hk : 2000 ≤ max (max K K2) 2000 := by omega
  simp only at h1 h2
  generalize max (max K K2) 2000 = k at *
  unfold taffraillaw08_AttrsAdds.f
  rw [h1]
  simp only [Option.bind_some, h2]
  by_cases hf : ([l, more].map List.length).sum ≤ 400
  · have hf' : l.length + more.length ≤ 400 := by simpa using hf
    rw [if_pos (by simpa using hf), add_some _ _ _ (by omega), refAdd_some _ _ _ (by omega) k (by omega), get_some, refGet_some _ _ (by omega) k (by omega), missing_some _ _ k (by omega) (by omega), refMissing_some _ _ k (by omega) (by omega)]
    have hq := missAll_len more l
    by_cases h : placeFrom x.f0 l 0 = -1
    · simp only [if_pos h, Option.bind_some]
      rw [refEqual_refl _ (by simp; omega) k (by simp; omega), refEqual_refl _ (by omega) k (by omega)]
      simp
    · simp only [if_neg h, Option.bind_some]
      rw [refEqual_refl _ (by omega) k (by omega), refEqual_refl _ (by omega) k (by omega)]
      simp
  · rw [if_neg (by simpa using hf)]
end Go.Proofs.Ytkmioljfjjmcpaa.Pure
