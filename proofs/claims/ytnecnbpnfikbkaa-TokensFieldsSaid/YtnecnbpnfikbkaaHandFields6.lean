/- The law TokensFields: all its ways. -/
import Derived.Test.YtnecnbpnfikbkaaHandFields2
import Derived.Test.YtnecnbpnfikbkaaHandFields3
import Derived.Test.YtnecnbpnfikbkaaHandFields4
import Derived.Test.YtnecnbpnfikbkaaHandFields5
namespace Go.Proofs.Ytnecnbpnfikbkaa.P
open Go.RowKit Go.Proofs.YtnecnbpnfikbkaaW.PrintWords Go.Proofs.YtnecnbpnfikbkaaW.PrintLast Go.Proofs.YtnecnbpnfikbkaaW.PrintMore Go.Proofs.Ytnecnbpnfikbkaa.Blk
set_option linter.unusedVariables false
set_option maxRecDepth 100000 in
set_option maxHeartbeats 1600000 in
theorem fields_no (b : Bool) (x0 x1 : Int) (x2 x3 : ByteArray) (A : Option Addr) (c : Nat) (l : List S31) (x5 : Bool) (x6 x7 : Int) (a1 a2 : Int) (w : World) (hl : Kd.C k31 w A l.length l) (hc : l.length ≤ c)
    (h2 : b = false ∨ (b = true ∧ a2 = 0)) (k : Nat) (hk : taffraillaw09_size.f k [⟨x0, x1, x2, x3, l, x5, ⟨x6, x7⟩⟩] = some b) :
    Calls Try.prog 3 #[.agg #[.int .i64 x0, .int .i64 x1, .string x2, .string x3, .slice A l.length c, .bool x5, .int .i64 x6, .int .i64 x7], .int .i64 a1, .int .i64 a2] w fun e w' => e = .returned (.bool true) ∧ Below w.heap.size w w' := by
  have hb0 := Blk.new w 26 #[.int .i64 x0, .int .i64 x1, .string x2, .string x3, .slice A l.length c, .bool x5, .int .i64 x6, .int .i64 x7]
  have hL0 := below_alloc (Below.refl w.heap.size w) (.cells #[.int .i64 x0, .int .i64 x1, .string x2, .string x3, .slice A l.length c, .bool x5, .int .i64 x6, .int .i64 x7] 26)
  have L1 := Aside0.mk (below_alloc hL0 (.cells #[.int .i64 x0, .int .i64 x1, .string x2, .string x3, .slice A l.length c, .bool x5, .int .i64 x6, .int .i64 x7] 26))
  have hb1 := Blk.new (w.alloc (.cells #[.int .i64 x0, .int .i64 x1, .string x2, .string x3, .slice A l.length c, .bool x5, .int .i64 x6, .int .i64 x7] 26)) 26 #[.int .i64 x0, .int .i64 x1, .string x2, .string x3, .slice A l.length c, .bool x5, .int .i64 x6, .int .i64 x7]
  rw [show (w.alloc (.cells #[.int .i64 x0, .int .i64 x1, .string x2, .string x3, .slice A l.length c, .bool x5, .int .i64 x6, .int .i64 x7] 26)).heap.size = w.heap.size + 1 by simp] at hb1
  have HB1 := Aside0.mk hb1
  have HK := Aside0.mk hk
  have HL := Aside0.mk hl
  have HC := Aside0.mk hc
  clear hb0 hb1 hL0 hl hc hk
  rcases h2 with rfl | ⟨rfl, rfl⟩
  · go_enter Try.func3, Try.ntmps3
    go_wp2_with (first
      | (go_at_call 6; refine (size_any ⟨x0, x1, x2, x3, l, x5, ⟨x6, x7⟩⟩ false k HK.out HB1.out HC.out (Kd.C_below (HL.out) (L1.out))).mono ?_; rintro e w1 ⟨rfl, n, rfl⟩; have L2 := Aside0.mk (pw_below_drewN L1.out n))
      | (go_at_call 7; (have gA := L2.out; clear gA); refine (awake_any _).mono ?_; rintro e w5 ⟨rfl, hb⟩; have L6 := Aside0.mk (below_then' L2.out hb); clear hb))
    go_ret
    exact ⟨rfl, L6.out⟩
  · go_enter Try.func3, Try.ntmps3
    go_wp2_with (first
      | (go_at_call 6; refine (size_any ⟨x0, x1, x2, x3, l, x5, ⟨x6, x7⟩⟩ true k HK.out HB1.out HC.out (Kd.C_below (HL.out) (L1.out))).mono ?_; rintro e w1 ⟨rfl, n, rfl⟩; have L2 := Aside0.mk (pw_below_drewN L1.out n))
      | (go_at_call 7; (have gA := L2.out; clear gA); refine (awake_any _).mono ?_; rintro e w5 ⟨rfl, hb⟩; have L6 := Aside0.mk (below_then' L2.out hb); clear hb))
    go_ret
    exact ⟨rfl, L6.out⟩
def i64ok (x : Int) : Prop := -9223372036854775808 ≤ x ∧ x ≤ 9223372036854775807
instance (x : Int) : Decidable (i64ok x) := by unfold i64ok; infer_instance
theorem rem8 (a : Int) : 0 ≤ (IntKind.u64.wrap a).tmod 8 ∧ (IntKind.u64.wrap a).tmod 8 < 8 := by
  have : IntKind.u64.wrap a = a % 18446744073709551616 := by
    unfold IntKind.wrap
    simp [IntKind.bits, IntKind.signed]
  have h0 : 0 ≤ IntKind.u64.wrap a := by rw [this]; exact Int.emod_nonneg _ (by decide)
  exact ⟨Int.tmod_nonneg _ h0, Int.tmod_lt_of_pos _ (by decide)⟩
/-- the law TokensFields, within the bounds of what comes in -/
def taffraillaw09_TokensFields.f (a0_0 : Int) (a0_1 : Int) (a0_2 : ByteArray) (a0_3 : ByteArray) (l0_4 : List S31) (a0_5 : Bool) (a0_6 : Int) (a0_7 : Int) (a1 : Int) (a2 : Int) : Option Bool :=
  if i64ok a0_0 ∧ i64ok a0_1 ∧ a0_2.size ≤ 140737488351232 ∧ a0_3.size ≤ 140737488351232 ∧ l0_4.length ≤ 4398046510976 ∧ i64ok a0_6 ∧ i64ok a0_7 ∧ i64ok a2 then some true else none
theorem taffraillaw09_TokensFields.calls (a0_0 : Int) (a0_1 : Int) (a0_2 : ByteArray) (a0_3 : ByteArray) (A0_4 : Option Addr) (c0_4 : Nat) (l0_4 : List S31) (a0_5 : Bool) (a0_6 : Int) (a0_7 : Int) (a1 : Int) (a2 : Int) (r : Bool) (w : World) (hr0_4 : Kd.C k31 w A0_4 l0_4.length l0_4) (hc0_4 : l0_4.length ≤ c0_4) (h : taffraillaw09_TokensFields.f a0_0 a0_1 a0_2 a0_3 l0_4 a0_5 a0_6 a0_7 a1 a2 = some r) :
    Calls Try.prog 3 #[.agg #[.int .i64 a0_0, .int .i64 a0_1, .string a0_2, .string a0_3, .slice A0_4 l0_4.length c0_4, .bool a0_5, .int .i64 a0_6, .int .i64 a0_7], .int .i64 a1, .int .i64 a2] w fun e w' => e = .returned (.bool r) ∧ Below w.heap.size w w' := by
  unfold taffraillaw09_TokensFields.f at h
  split at h
  · rename_i hb
    obtain ⟨b0, b1, b2, b3, b4, b6, b7, b8⟩ := hb
    obtain rfl := Option.some.inj h
    obtain ⟨b, K, hK⟩ := Pure.size_ev [(⟨a0_0, a0_1, a0_2, a0_3, l0_4, a0_5, ⟨a0_6, a0_7⟩⟩ : S26)] (by simp) (by intro t ht; rw [List.mem_singleton.1 ht]; show l0_4.length ≤ _; omega)
    have hk := hK K (Nat.le_refl _)
    cases b with
    | false => exact fields_no false _ _ _ _ _ _ _ _ _ _ a1 a2 w hr0_4 hc0_4 (.inl rfl) K hk
    | true =>
      by_cases h2 : a2 = 0
      · exact fields_no true _ _ _ _ _ _ _ _ _ _ a1 a2 w hr0_4 hc0_4 (.inr ⟨rfl, h2⟩) K hk
      have hll : l0_4.length ≤ 4611686018427387904 := by omega
      have hr := rem8 a1
      have n0 := wrap_ne b0 b8 h2
      have n1 := wrap_ne b1 b8 h2
      have n6 := wrap_ne b6 b8 h2
      have n7 := wrap_ne b7 b8 h2
      have n2 := snoc_ne a0_2
      have n3 := snoc_ne a0_3
      have hm : (IntKind.u64.wrap a1).tmod 8 = 0 ∨ (IntKind.u64.wrap a1).tmod 8 = 1 ∨ (IntKind.u64.wrap a1).tmod 8 = 2 ∨ (IntKind.u64.wrap a1).tmod 8 = 3 ∨ (IntKind.u64.wrap a1).tmod 8 = 4 ∨ (IntKind.u64.wrap a1).tmod 8 = 5 ∨ (IntKind.u64.wrap a1).tmod 8 = 6 ∨ (IntKind.u64.wrap a1).tmod 8 = 7 := by omega
      rcases hm with hm | hm | hm | hm | hm | hm | hm | hm
      · exact fields_0 _ _ _ _ _ _ _ _ _ _ a1 a2 w hr0_4 hc0_4 hll h2 hm K hk (sameB_ne fun e => n0 e.1) (sameB_ne fun e => n0 e.1.symm)
      · exact fields_1 _ _ _ _ _ _ _ _ _ _ a1 a2 w hr0_4 hc0_4 hll h2 hm K hk (sameB_ne fun e => n1 e.2.1) (sameB_ne fun e => n1 e.2.1.symm)
      · exact fields_2 _ _ _ _ _ _ _ _ _ _ a1 a2 w hr0_4 hc0_4 hll h2 hm K hk b2 _ rfl (sameB_ne fun e => n2 e.2.2.1) (sameB_ne fun e => n2 e.2.2.1.symm)
      · exact fields_3 _ _ _ _ _ _ _ _ _ _ a1 a2 w hr0_4 hc0_4 hll h2 hm K hk b3 _ rfl (sameB_ne fun e => n3 e.2.2.2.1) (sameB_ne fun e => n3 e.2.2.2.1.symm)
      · exact fields_4 _ _ _ _ _ _ _ _ _ _ a1 a2 w hr0_4 hc0_4 hll h2 hm K hk (sameB_ne fun e => by have := e.2.2.2.2.1; revert this; cases a0_5 <;> simp) (sameB_ne fun e => by have := e.2.2.2.2.1; revert this; cases a0_5 <;> simp)
      · exact fields_5 _ _ _ _ _ _ _ _ _ _ a1 a2 w hr0_4 hc0_4 hll h2 hm K hk (sameB_ne fun e => n6 e.2.2.2.2.2.1) (sameB_ne fun e => n6 e.2.2.2.2.2.1.symm)
      · exact fields_6 _ _ _ _ _ _ _ _ _ _ a1 a2 w hr0_4 hc0_4 hll h2 hm K hk (sameB_ne fun e => n7 e.2.2.2.2.2.2) (sameB_ne fun e => n7 e.2.2.2.2.2.2.symm)
      · exact fields_7 _ _ _ _ _ _ _ _ _ _ a1 a2 w hr0_4 hc0_4 hll h2 hm K hk _ rfl (by omega) (sameB_rows (by simp)) (sameB_rows (by simp))
  · cases h
end Go.Proofs.Ytnecnbpnfikbkaa.P
