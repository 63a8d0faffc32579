/- Any token moved, and back: as the reference moves it, and back it is what it was. No condition. -/
import Derived.Test.YtnecnbpnfikbkaaTok
namespace Go.Proofs.Ytnecnbpnfikbkaa.Pure
open Go.RowKit Go.Proofs.Ytnecnbpnfikbkaa.P Go.Proofs.YtnecnbpnfikbkaaW.PrintWords Go.Proofs.YtnecnbpnfikbkaaW.PrintLast Go.Proofs.YtnecnbpnfikbkaaW.PrintMore
set_option linter.unusedVariables false

theorem refSame_refl (a0 a1 : Int) (a2 a3 : ByteArray) (a4 : List S31) (a5 : Bool) (a6 a7 : Int) (h : a4.length ≤ 4611686018427387904) : Ev (fun k => taffrailref09_Same.f k a0 a1 a2 a3 a4 a5 a6 a7 a0 a1 a2 a3 a4 a5 a6 a7) true := by
  have := refSame_ev ⟨a0, a1, a2, a3, a4, a5, ⟨a6, a7⟩⟩ ⟨a0, a1, a2, a3, a4, a5, ⟨a6, a7⟩⟩ h
  rw [sameB_refl] at this
  exact this

theorem shift_j (a0 a1 : Int) (a2 a3 : ByteArray) (a4 : List S31) (a5 : Bool) (a6 a7 by_ : Int) (h4 : a4.length * 32 ≤ 140737488351232) (hb : -1099511627776 < by_ ∧ by_ < 1099511627776) (h6 : -9223372036854775808 ≤ a6 ∧ a6 ≤ 1099511627776) (h7 : -1099511627776 ≤ a7 ∧ a7 ≤ 1099511627776) :
    Ev (fun k => taffraillaw09_TokensShifts.j0 k by_ false a0 a1 a2 a3 a4 a5 a6 a7) true := by
  have hc : ∀ x : List S31, x.length * 32 ≤ 140737488351232 → api_Attr_25.f x = some x := fun x hx => if_pos (by omega)
  obtain ⟨K3, h3⟩ := awake_ev
  by_cases c : a6 ≥ 0
  · have w6 : wrap64 (a6 + by_) = a6 + by_ := wrap_id _ (by omega) (by omega)
    have w7 : wrap64 (a7 + by_) = a7 + by_ := wrap_id _ (by omega) (by omega)
    have s1 : tokens_Shift.f a0 a1 a2 a3 a4 a5 a6 a7 by_ = some (a0, a1, a2, a3, a4, a5, a6 + by_, a7 + by_) := by
      unfold tokens_Shift.f
      rw [hc a4 h4]
      simp only [Option.bind_some]
      rw [if_pos c, w6, w7]
    have s2 : taffrailref09_Shift.f a0 a1 a2 a3 a4 a5 a6 a7 by_ = some (a0, a1, a2, a3, a4, a5, a6 + by_, a7 + by_) := by
      unfold taffrailref09_Shift.f
      rw [if_pos c, if_pos (by simp; omega), w6, w7, List.nil_append]
    obtain ⟨K1, g1⟩ := refSame_refl a0 a1 a2 a3 a4 a5 (a6 + by_) (a7 + by_) (by omega)
    obtain ⟨K2, g2⟩ := refSame_refl a0 a1 a2 a3 a4 a5 a6 a7 (by omega)
    refine ⟨max K1 (max K2 K3) + 1, fun k hk => ?_⟩
    obtain ⟨k, rfl⟩ : ∃ m, k = m + 1 := ⟨k - 1, by omega⟩
    have q1 := g1 k (by omega)
    have q2 := g2 k (by omega)
    have q3 := h3 k (by omega)
    simp only at q1 q2 q3
    simp only [taffraillaw09_TokensShifts.j0]
    rw [if_neg (by decide), s1, s2]
    simp only [Option.bind_some, q1, q3]
    rw [if_pos trivial]
    by_cases c2 : a6 + by_ < 0
    · rw [if_pos c2]
    · rw [if_neg c2]
      have s3 : tokens_Shift.f a0 a1 a2 a3 a4 a5 (a6 + by_) (a7 + by_) (wrap64 (-by_)) = some (a0, a1, a2, a3, a4, a5, a6, a7) := by
        unfold tokens_Shift.f
        rw [hc a4 h4]
        simp only [Option.bind_some]
        rw [if_pos (by omega), wrap_id (-by_) (by omega) (by omega), wrap_id _ (by omega) (by omega), wrap_id _ (by omega) (by omega), show a6 + by_ + -by_ = a6 by omega, show a7 + by_ + -by_ = a7 by omega]
      rw [s3]
      simp only [Option.bind_some, q2]
      rw [if_pos trivial]
  · have s1 : tokens_Shift.f a0 a1 a2 a3 a4 a5 a6 a7 by_ = some (a0, a1, a2, a3, a4, a5, a6, a7) := by
      unfold tokens_Shift.f
      rw [hc a4 h4]
      simp only [Option.bind_some]
      rw [if_neg c]
    have s2 : taffrailref09_Shift.f a0 a1 a2 a3 a4 a5 a6 a7 by_ = some (a0, a1, a2, a3, a4, a5, a6, a7) := by
      unfold taffrailref09_Shift.f
      rw [if_neg c, if_pos (by simp; omega), List.nil_append]
    obtain ⟨K2, g2⟩ := refSame_refl a0 a1 a2 a3 a4 a5 a6 a7 (by omega)
    refine ⟨max K2 K3 + 1, fun k hk => ?_⟩
    obtain ⟨k, rfl⟩ : ∃ m, k = m + 1 := ⟨k - 1, by omega⟩
    have q2 := g2 k (by omega)
    have q3 := h3 k (by omega)
    simp only at q2 q3
    simp only [taffraillaw09_TokensShifts.j0]
    rw [if_neg (by decide), s1, s2]
    simp only [Option.bind_some, q2, q3]
    rw [if_pos trivial, if_pos (by omega)]

theorem wf64 (x : Int) (h : (Lit.int .i64 x).wf = true) : -9223372036854775808 ≤ x ∧ x ≤ 9223372036854775807 := by
  simp [Lit.wf, IntKind.min, IntKind.max, IntKind.signed, IntKind.bits] at h
  omega

theorem TokensShifts : taffraillaw09_TokensShifts.Pure := by
  intro x by_ hx hb
  obtain ⟨a0, a1, a2, a3, a4, a5, a6, a7⟩ := x
  obtain ⟨_, _, _, _, ⟨h4, h4b⟩, _, h6, h7⟩ := hx
  simp only at h4 h6 h7
  have w6 := wf64 _ h6
  have w7 := wf64 _ h7
  have wb := wf64 _ hb
  have aw : ∀ b, Ev (fun k => taffraillaw09_TokensShifts.j0 k b true a0 a1 a2 a3 a4 a5 a6 a7) true := by
    intro b
    refine Ev.step (fun k => ?_) awake_ev
    simp only [taffraillaw09_TokensShifts.j0]
    rw [if_pos trivial]
    cases taffraillaw09_awake.f k <;> rfl
  have hm : -1099511627776 < Int.tmod by_ 1099511627776 ∧ Int.tmod by_ 1099511627776 < 1099511627776 := by
    have e1 := Int.tmod_lt_of_pos by_ (show (0 : Int) < 1099511627776 by decide)
    have e2 := Int.lt_tmod_of_pos by_ (show (0 : Int) < 1099511627776 by decide)
    omega
  have hs : ∀ t : S26, t ∈ [(⟨a0, a1, a2, a3, a4, a5, ⟨a6, a7⟩⟩ : S26)] → t.f4.length ≤ 4398046511104 := by
    intro t ht
    simp at ht
    subst ht
    simp only
    omega
  obtain ⟨b1, h1⟩ := size_ev [(⟨a0, a1, a2, a3, a4, a5, ⟨a6, a7⟩⟩ : S26)] (by simp) hs
  refine Ev.rounds (g := fun k => taffraillaw09_TokensShifts.f k a0 a1 a2 a3 a4 a5 a6 a7 by_) (Ev.bind h1 (f := fun k t202 => if t202 = true then (if a6 > 1099511627776 then (taffraillaw09_TokensShifts.j0 k (Int.tmod by_ 1099511627776) true a0 a1 a2 a3 a4 a5 a6 a7) else (if a7 > 1099511627776 then (taffraillaw09_TokensShifts.j0 k (Int.tmod by_ 1099511627776) true a0 a1 a2 a3 a4 a5 a6 a7) else (taffraillaw09_TokensShifts.j0 k (Int.tmod by_ 1099511627776) (decide (a7 < (-1099511627776))) a0 a1 a2 a3 a4 a5 a6 a7))) else ((taffraillaw09_awake.f k).bind fun t203 => (some t203))) ?_)
  cases b1
  · refine Ev.congr (fun k => ?_) awake_ev
    rw [if_neg (by decide)]
    cases taffraillaw09_awake.f k <;> rfl
  · by_cases c1 : a6 > 1099511627776
    · exact Ev.congr (fun k => by rw [if_pos rfl, if_pos c1]) (aw _)
    by_cases c2 : a7 > 1099511627776
    · exact Ev.congr (fun k => by rw [if_pos rfl, if_neg c1, if_pos c2]) (aw _)
    by_cases c3 : a7 < -1099511627776
    · exact Ev.congr (fun k => by rw [if_pos rfl, if_neg c1, if_neg c2, decide_eq_true c3]) (aw _)
    · exact Ev.congr (fun k => by rw [if_pos rfl, if_neg c1, if_neg c2, decide_eq_false c3]) (shift_j a0 a1 a2 a3 a4 a5 a6 a7 _ h4 hm (by omega) (by omega))
end Go.Proofs.Ytnecnbpnfikbkaa.Pure
