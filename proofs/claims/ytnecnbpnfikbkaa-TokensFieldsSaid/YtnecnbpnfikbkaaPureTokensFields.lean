import Derived.Test.YtnecnbpnfikbkaaSayTokensFields
namespace Go.Proofs.Ytnecnbpnfikbkaa.Pure
open Go.RowKit Go.Proofs.Ytnecnbpnfikbkaa.P Go.Proofs.YtnecnbpnfikbkaaW.PrintWords Go.Proofs.YtnecnbpnfikbkaaW.PrintLast Go.Proofs.YtnecnbpnfikbkaaW.PrintMore

theorem i64_of {x : Int} (h : (Lit.int .i64 x).wf = true) : i64ok x := by
  simp [Lit.wf, IntKind.min, IntKind.max, IntKind.bits, IntKind.signed] at h
  unfold i64ok
  omega
/- the law's plain statement: what was walked, within the bounds of what comes in -/
theorem TokensFields : taffraillaw09_TokensFields.Pure := by
  intro x0 x1 x2 h0 h1 h2
  obtain ⟨a0, a1, a2, a3, ⟨a4, _⟩, _, a6⟩ := h0
  unfold taffraillaw09_TokensFields.f
  rw [if_pos ⟨i64_of a0, i64_of a1, a2, a3, by omega, i64_of a6.1, i64_of a6.2, i64_of h2⟩]

end Go.Proofs.Ytnecnbpnfikbkaa.Pure
