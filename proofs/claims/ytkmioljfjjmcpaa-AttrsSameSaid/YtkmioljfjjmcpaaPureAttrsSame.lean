/- Same answers as the reference, of a list and itself it is true, and both put in order alike. No condition. -/
import Derived.Test.YtkmioljfjjmcpaaSayAttrsSame
import Derived.Test.YtkmioljfjjmcpaaAttrsSort
namespace Go.Proofs.Ytkmioljfjjmcpaa.Pure
open Go.RowKit Go.Proofs.Ytkmioljfjjmcpaa.P Go.Proofs.YtkmioljfjjmcpaaW.PrintWords Go.Proofs.YtkmioljfjjmcpaaW.PrintLast Go.Proofs.YtkmioljfjjmcpaaW.PrintMore
theorem AttrsSame : taffraillaw08_AttrsSame.Pure := by
  intro l more hl hm
  have hlen : l.length ≤ 140737488351232 := by omega
  have hmen : more.length ≤ 140737488351232 := by omega
  obtain ⟨K, hK⟩ := few_ev [l, more] (by intro z hz; simp at hz; rcases hz with rfl | rfl <;> assumption) (by simp)
  obtain ⟨K2, hA⟩ := awake_ev
  refine ⟨max (max K K2) 3000000, ?_⟩
  have h1 := hK (max (max K K2) 3000000) (by omega)
  have h2 := hA (max (max K K2) 3000000) (by omega)
  have hk : 3000000 ≤ max (max K K2) 3000000 := by omega
  simp only at h1 h2
  generalize max (max K K2) 3000000 = k at *
  unfold taffraillaw08_AttrsSame.f
  rw [h1]
  simp only [Option.bind_some, h2]
  by_cases hf : ([l, more].map List.length).sum ≤ 400
  · have hf' : l.length + more.length ≤ 400 := by simpa using hf
    have hs : sameB l l 0 = true := sameB_of (fun _ h => h) (fun _ h => h)
    rw [if_pos (by simpa using hf), same_some l more (by omega) (by omega) k (by omega), refSame_some l more (by omega) (by omega) k (by omega), same_some l l (by omega) (by omega) k (by omega), sorted_some l (by omega), refSorted_some l (by omega), hs]
    simp only [Option.bind_some]
    rw [if_pos (by simp), if_pos (by simp), refEqual_refl _ (by rw [sortE_len]; omega) k (by rw [sortE_len]; omega), Option.bind_some, if_pos rfl]
  · rw [if_neg (by simpa using hf)]
end Go.Proofs.Ytkmioljfjjmcpaa.Pure
