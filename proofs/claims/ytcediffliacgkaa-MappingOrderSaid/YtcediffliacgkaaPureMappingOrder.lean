/- Of two places the later one is not ahead behind an edit. No condition. -/
import Derived.Test.YtcediffliacgkaaSayMappingOrder
import Derived.Test.YtcediffliacgkaaRefMapping
namespace Go.Proofs.Ytcediffliacgkaa.Pure
open Go.RowKit Go.Proofs.Ytcediffliacgkaa.P Go.Proofs.YtcediffliacgkaaW.PrintWords Go.Proofs.YtcediffliacgkaaW.PrintLast Go.Proofs.YtcediffliacgkaaW.PrintMore

theorem point_mono (f n m a b : Int) (after : Bool) (h1 : 0 ≤ f) (h2 : 0 ≤ n) (h3 : 0 ≤ m) (hab : a ≤ b) (ha : -1099511627776 ≤ a) (hb : b ≤ 1099511627776) : pointOf f n m a after ≤ pointOf f n m b after := by
  unfold pointOf
  cases after
  all_goals
    repeat' split
  all_goals first | omega | (exfalso; simp at *; done)
theorem point_after (f n m a : Int) (h3 : 0 ≤ m) : pointOf f n m a false ≤ pointOf f n m a true := by
  unfold pointOf
  repeat' split
  all_goals first | omega | (exfalso; simp at *; done)

theorem MappingOrder : taffraillaw02_MappingOrder.Pure := by
  intro x a b h ha hb
  obtain ⟨h0, h1, h2⟩ := h
  refine ⟨1, ?_⟩
  have hs : x.f2.size ≤ 9223372036854775807 - 4398046511104 := by omega
  have eP : ∀ t after, mapping_Point.f x.f0 x.f1 x.f2 t after = some (pointOf (tk x.f0 x.f1 x.f2).1 (tk x.f0 x.f1 x.f2).2.1 (tk x.f0 x.f1 x.f2).2.2 t after) := fun t after => if_pos hs
  have hk := tk_bounds x.f0 x.f1 x.f2
  simp only [taffraillaw02_MappingOrder.f, taffraillaw02_MappingOrder.j0, eP, awake_true, Option.bind_some, if_true, decide_eq_true_eq]
  generalize tk x.f0 x.f1 x.f2 = q at *
  obtain ⟨f, n, m⟩ := q
  simp only at *
  by_cases c1 : a > b
  · rw [if_pos c1]
  rw [if_neg c1]
  by_cases c2 : a < -1099511627776
  · rw [if_pos c2]
  rw [if_neg c2]
  by_cases c3 : b > 1099511627776
  · rw [if_pos c3]
  rw [if_neg c3]
  rw [if_pos (point_mono _ _ _ _ _ _ hk.1 hk.2.2.1 (by omega) (by omega) (by omega) (by omega)), if_pos (point_mono _ _ _ _ _ _ hk.1 hk.2.2.1 (by omega) (by omega) (by omega) (by omega)), if_pos (point_after _ _ _ _ (by omega)), if_pos (point_after _ _ _ _ (by omega))]
end Go.Proofs.Ytcediffliacgkaa.Pure
