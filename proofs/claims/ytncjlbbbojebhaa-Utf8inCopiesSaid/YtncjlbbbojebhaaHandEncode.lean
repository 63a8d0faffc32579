/- utf8in.Encode: a number's bytes. -/
import Derived.Test.YtncjlbbbojebhaaPx0
import Derived.Lib.Hide
import Derived.WalkSpells
import Derived.Laws.Runes
namespace Go.Proofs.Ytncjlbbbojebhaa.P
open Go.RowKit Go.Proofs.YtncjlbbbojebhaaW.PrintWords Go.Proofs.YtncjlbbbojebhaaW.PrintLast Go.Proofs.YtncjlbbbojebhaaW.PrintMore
set_option linter.unusedVariables false

def okRune (r : Int) : Prop := 0 ≤ r ∧ r ≤ 1114111 ∧ (r < 55296 ∨ 57344 ≤ r)
instance (r : Int) : Decidable (okRune r) := by unfold okRune; infer_instance
def utf8in_Encode.f (a0 : Int) : Option ByteArray := some (Utf8.encode (if okRune a0 then a0 else 65533))

theorem enc_walk (r : Int) (w : World) (q : Int) (hq : q = if okRune r then r else 65533) :
    Calls Try.prog 12 #[.int .i64 r] w fun e w' => e = .returned (.string (Utf8.encode q)) ∧ w = w' := by
  by_cases h1 : r < 0
  · have hr : q = 65533 := by rw [hq, if_neg (fun h => by unfold okRune at h; omega)]
    clear hq; subst hr
    go_enter Try.func12, Try.ntmps12
    go_wp2
    go_ret
    exact ⟨rfl, rfl⟩
  by_cases h2 : 1114111 < r
  · have hr : q = 65533 := by rw [hq, if_neg (fun h => by unfold okRune at h; omega)]
    clear hq; subst hr
    go_enter Try.func12, Try.ntmps12
    go_wp2
    go_ret
    exact ⟨rfl, rfl⟩
  by_cases h3 : 55296 ≤ r
  · by_cases h4 : r < 57344
    · have hr : q = 65533 := by rw [hq, if_neg (fun h => by unfold okRune at h; omega)]
      clear hq; subst hr
      go_enter Try.func12, Try.ntmps12
      go_wp2
      go_ret
      exact ⟨rfl, rfl⟩
    · have hr : q = r := by rw [hq, if_pos (by unfold okRune; omega)]
      clear hq; subst hr
      go_enter Try.func12, Try.ntmps12
      go_wp2
      go_ret
      exact ⟨rfl, rfl⟩
  · have hr : q = r := by rw [hq, if_pos (by unfold okRune; omega)]
    clear hq; subst hr
    go_enter Try.func12, Try.ntmps12
    go_wp2
    go_ret
    exact ⟨rfl, rfl⟩

theorem utf8in_Encode.calls (a0 : Int) (r : ByteArray) (w : World) (h : utf8in_Encode.f a0 = some r) :
    Calls Try.prog 12 #[.int .i64 a0] w fun e w' => e = .returned (.string r) ∧ Below w.heap.size w w' := by
  obtain rfl := Option.some.inj h
  refine (enc_walk a0 w _ rfl).mono ?_
  rintro e w' ⟨rfl, rfl⟩
  exact ⟨rfl, Below.refl _ _⟩
end Go.Proofs.Ytncjlbbbojebhaa.P
