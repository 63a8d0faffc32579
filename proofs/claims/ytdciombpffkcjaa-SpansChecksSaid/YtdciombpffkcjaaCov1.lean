/- Parts as they lie; classes; spans' put. -/
import Derived.Test.YtdciombpffkcjaaTok4
import Derived.Test.YtdciombpffkcjaaTok2
import Derived.Test.YtdciombpffkcjaaPx9
namespace Go.Proofs.Ytdciombpffkcjaa.P
open Go.RowKit Go.Proofs.YtdciombpffkcjaaW.PrintWords Go.Proofs.YtdciombpffkcjaaW.PrintLast Go.Proofs.YtdciombpffkcjaaW.PrintMore Go.Proofs.Ytdciombpffkcjaa.Blk
set_option linter.unusedVariables false
set_option linter.unusedSimpArgs false
/-- a token's class -/
def cls (t : S39) : Int := if t.f0 = 2 ∨ t.f0 = 3 then 2 else if t.f0 = 4 then 3 else if t.f0 = 5 then 4 else if t.f0 = 1 then (if t.f5 = true then 5 else 1) else 0
theorem class_f (t : S39) : tokens_Class.f 1 t.f0 t.f1 t.f2 t.f3 t.f4 t.f5 t.f6.f0 t.f6.f1 = some (cls t) := by
  unfold tokens_Class.f cls
  by_cases h2 : t.f0 = 2
  · rw [if_pos h2, if_pos (.inl h2)]
    simp [tokens_Class.j0, h2]
  · rw [if_neg h2]
    by_cases h3 : t.f0 = 3
    · rw [if_pos (.inr h3)]
      simp [tokens_Class.j0, h3]
    · rw [if_neg (by rintro (h | h) <;> contradiction)]
      have : (t.f0 == 3) = false := beq_eq_false_iff_ne.mpr h3
      simp only [tokens_Class.j0, this]
      rw [if_neg (by decide)]
      split
      · rfl
      · split
        · rfl
        · split
          · split <;> rfl
          · rfl
set_option maxRecDepth 100000 in
set_option maxHeartbeats 1000000 in
theorem class_ref (t : S39) (A4 : Option Addr) (c4 n4 : Nat) (w : World) :
    Calls Try.prog 19 #[.agg #[.int .i64 t.f0, .int .i64 t.f1, .string t.f2, .string t.f3, .slice A4 n4 c4, .bool t.f5, .int .i64 t.f6.f0, .int .i64 t.f6.f1]] w fun e w' => e = .returned (.int .i64 (cls t)) ∧ Below w.heap.size w w' := by
  obtain ⟨c, hc⟩ : ∃ c, cls t = c := ⟨_, rfl⟩
  rw [hc]
  have HC := Aside0.mk hc
  have HB := Aside0.mk (below_alloc (Below.refl w.heap.size w) (.cells #[.int .i64 t.f0, .int .i64 t.f1, .string t.f2, .string t.f3, .slice A4 n4 c4, .bool t.f5, .int .i64 t.f6.f0, .int .i64 t.f6.f1] 39))
  clear hc
  go_enter Try.func19, Try.ntmps19
  go_wp2
  all_goals (
    go_ret
    refine ⟨?_, HB.out⟩
    rw [← HC.out]
    unfold cls
    congr 2
    simp_all <;> omega)
end Go.Proofs.Ytdciombpffkcjaa.P
