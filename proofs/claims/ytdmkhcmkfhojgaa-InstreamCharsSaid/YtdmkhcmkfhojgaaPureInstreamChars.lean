/- Any bytes' characters and faults: instream tells what the definition tells. No condition. -/
import Derived.Test.YtdmkhcmkfhojgaaSayInstreamChars
import Derived.Test.YtdmkhcmkfhojgaaEvD
namespace Go.Proofs.Ytdmkhcmkfhojgaa.Pure
open Go.RowKit Go.Proofs.Ytdmkhcmkfhojgaa.P Go.Proofs.YtdmkhcmkfhojgaaW.PrintWords Go.Proofs.YtdmkhcmkfhojgaaW.PrintLast Go.Proofs.YtdmkhcmkfhojgaaW.PrintMore

theorem InstreamChars : taffraillaw04_InstreamChars.Pure := by
  intro s hs
  by_cases hbig : (s.size : Int) > 20000
  · refine ⟨0, ?_⟩
    unfold taffraillaw04_InstreamChars.f
    rw [if_pos hbig, awake_ev]
    rfl
  · have ht : s.size ≤ 20000 := by omega
    obtain ⟨h1, h2, h3⟩ := chars_ref s ht
    have hc : instream_Chars.f s = some (charsC s, charsF s) := if_pos (by omega)
    obtain ⟨K1, g1⟩ := h1
    obtain ⟨K2, g2⟩ := chars_ev _ h2
    obtain ⟨K3, g3⟩ := faults_ev _ h3
    refine ⟨max K1 (max K2 K3), ?_⟩
    have q1 := g1 (max K1 (max K2 K3)) (by omega)
    have q2 := g2 (max K1 (max K2 K3)) (by omega)
    have q3 := g3 (max K1 (max K2 K3)) (by omega)
    simp only at q1 q2 q3
    generalize max K1 (max K2 K3) = k at *
    unfold taffraillaw04_InstreamChars.f
    rw [if_neg hbig, hc]
    simp only [Option.bind_some, q1, q2, q3, awake_ev]
    rw [if_pos trivial, if_pos trivial]
end Go.Proofs.Ytdmkhcmkfhojgaa.Pure
