/- TextbufNone -/
import Derived.Test.YtkeicfbjijnhnaaHandAwake
namespace Go.Proofs.Ytkeicfbjijnhnaa.P
open Go.RowKit Go.Proofs.YtkeicfbjijnhnaaW.PrintWords Go.Proofs.YtkeicfbjijnhnaaW.PrintLast Go.Proofs.YtkeicfbjijnhnaaW.PrintMore Go.Proofs.Ytkeicfbjijnhnaa.Shelf Go.Proofs.Ytkeicfbjijnhnaa.Blk
set_option linter.unusedVariables false
set_option maxRecDepth 100000 in
set_option maxHeartbeats 600000 in
theorem none_walk (a d : Int) (s : ByteArray) (w : World) : Calls Try.prog 7 #[.agg #[.int .i64 a, .int .i64 d, .string s]] w fun e w' => e = .returned (.bool true) ∧ Below w.heap.size w w' := by
  have L0 := Aside0.mk (below_alloc (Below.refl w.heap.size w) (.cells #[.int .i64 a, .int .i64 d, .string s] 32))
  go_enter Try.func7, Try.ntmps7
  go_wp2_with (first
    | (go_at_call 15; refine (slice_nil _ _ _).mono ?_; rintro e w1 ⟨rfl, hw1⟩; subst hw1)
    | (go_at_call 19; refine (len_nil _).mono ?_; rintro e w2 ⟨rfl, hw2⟩; subst hw2)
    | (go_at_call 10; refine (text_nil _).mono ?_; rintro e w3 ⟨rfl, hw3⟩; subst hw3)
    | (go_at_call 11; refine (splice_nil _ _ _ _).mono ?_; rintro e w4 ⟨rfl, hl4⟩; have L4 := Aside0.mk (below_then L0.out L0.out.size hl4); clear hl4)
    | (go_at_call 12; refine (undo_nil _).mono ?_; rintro e w5 ⟨rfl, hw5⟩; subst hw5)
    | (go_at_call 13; refine (version_nil _).mono ?_; rintro e w6 ⟨rfl, hw6⟩; subst hw6)
    | (go_at_call 9; refine (awake_calls _).mono ?_; rintro e w7 ⟨rfl, hl7⟩; have L7 := Aside0.mk (below_then L4.out L4.out.size hl7); clear hl7))
  go_ret
  exact ⟨rfl, L7.out⟩
/-- the law TextbufNone -/
def taffraillaw01_TextbufNone.f (a0_0 : Int) (a0_1 : Int) (a0_2 : ByteArray) : Option (Bool) := some true
theorem taffraillaw01_TextbufNone.calls (a0_0 : Int) (a0_1 : Int) (a0_2 : ByteArray) (r : Bool) (w : World) (h : taffraillaw01_TextbufNone.f a0_0 a0_1 a0_2 = some r) :
    Calls Try.prog 7 #[.agg #[.int .i64 a0_0, .int .i64 a0_1, .string a0_2]] w fun e w' => e = .returned (.bool r) ∧ Below w.heap.size w w' := by
  obtain rfl := Option.some.inj h
  exact none_walk a0_0 a0_1 a0_2 w
end Go.Proofs.Ytkeicfbjijnhnaa.P
