/- NamesNone -/
import Derived.Test.YtkidfbapnkegmaaTr5
namespace Go.Proofs.Ytkidfbapnkegmaa.P
open Go.RowKit Go.Proofs.YtkidfbapnkegmaaW.PrintWords Go.Proofs.YtkidfbapnkegmaaW.PrintLast Go.Proofs.YtkidfbapnkegmaaW.PrintMore Go.Proofs.Ytkidfbapnkegmaa.Blk
set_option linter.unusedVariables false
theorem all_nil (w : World) : Calls Try.prog 19 #[.pointer none] w fun e w' => e = .returned (.slice none 0 0) ∧ w' = w := by
  go_enter Try.func19, Try.ntmps19
  go_wp2
  go_ret
  exact ⟨rfl, rfl⟩
theorem nlng_nil (s : List UInt8) : ∀ k, nlng [] s k = (0, 0)
  | 0 => rfl
  | k + 1 => nlng_nil s k
theorem new0 (w : World) : Calls Try.prog 9 #[.slice none 0 0] w fun e w' => ∃ g, e = .returned (.pointer (some ⟨g, 0, none⟩)) ∧ Tr w' g [] ∧ Below w.heap.size w w' :=
  tr_new none 0 [] w (Kd.C_nil k28 w) (Nat.le_refl _) (by decide)
theorem count0 {w : World} {g : Nat} (h : Tr w g []) : Calls Try.prog 17 #[.pointer (some ⟨g, 0, none⟩)] w fun e w' => e = .returned (.int .i64 0) ∧ w' = w := tr_count h
theorem longest0 {w : World} {g : Nat} (h : Tr w g []) (s : ByteArray) (hs : s.size ≤ 1000000000000000) :
    Calls Try.prog 11 #[.pointer (some ⟨g, 0, none⟩), .string s] w fun e w' => e = .returned (.tuple #[.int .i64 0, .int .i64 0]) ∧ Below w.heap.size w w' := by
  have := tr_longest h s hs
  rwa [nlng_nil] at this
set_option maxRecDepth 100000 in
set_option maxHeartbeats 1000000 in
theorem none_walk (s : ByteArray) (hs : s.size ≤ 1000000000000000) (w : World) : Calls Try.prog 6 #[.string s] w fun e w' => e = .returned (.bool true) ∧ Below w.heap.size w w' := by
  have N1 := Aside0.mk trivial
  have N2 := Aside0.mk trivial
  go_enter Try.func6, Try.ntmps6
  go_wp2_with (first
    | (go_at_call 9; refine (new0 _).mono ?_; rintro e w1 ⟨g, rfl, h1, hl1⟩; have D1 := Aside0.mk h1; have L1 := Aside0.mk hl1; clear h1 hl1)
    | (go_at_call 11; (have gA := N1.out; clear gA N1); refine (longest_nil _ _).mono ?_; rintro e w2 ⟨rfl, hw2⟩; subst hw2)
    | (go_at_call 11; refine (longest0 D1.out s hs).mono ?_; rintro e w3 ⟨rfl, hl3⟩; have D3 := Aside0.mk (D1.out.below hl3); have L3 := Aside0.mk (below_then' L1.out L1.out.size hl3); clear hl3)
    | (go_at_call 12; refine (goes_nil _ _).mono ?_; rintro e w4 ⟨rfl, hw4⟩; subst hw4)
    | (go_at_call 17; (have gA := N2.out; clear gA N2); refine (count_nil _).mono ?_; rintro e w5 ⟨rfl, hw5⟩; subst hw5)
    | (go_at_call 19; refine (all_nil _).mono ?_; rintro e w6 ⟨rfl, hw6⟩; subst hw6)
    | (go_at_call 17; refine (count0 D3.out).mono ?_; rintro e w7 ⟨rfl, hw7⟩; subst hw7)
    | (go_at_call 10; refine (awake_calls _).mono ?_; rintro e w8 ⟨rfl, hl8⟩; have L8 := Aside0.mk (below_then' L3.out L3.out.size hl8); clear hl8))
  go_ret
  exact ⟨rfl, L8.out⟩
/-- the law NamesNone -/
def taffraillaw05_NamesNone.f (a0 : ByteArray) : Option (Bool) := if a0.size ≤ 1000000000000000 then some true else none
theorem taffraillaw05_NamesNone.calls (a0 : ByteArray) (r : Bool) (w : World) (h : taffraillaw05_NamesNone.f a0 = some r) :
    Calls Try.prog 6 #[.string a0] w fun e w' => e = .returned (.bool r) ∧ Below w.heap.size w w' := by
  unfold taffraillaw05_NamesNone.f at h
  split at h
  · obtain rfl := Option.some.inj h
    exact none_walk a0 (by assumption) w
  · cases h
end Go.Proofs.Ytkidfbapnkegmaa.P
