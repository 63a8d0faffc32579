/- The law TokensFields: its ways, each walked by itself. -/
import Derived.Test.YtnecnbpnfikbkaaHandFields
namespace Go.Proofs.Ytnecnbpnfikbkaa.P
open Go.RowKit Go.Proofs.YtnecnbpnfikbkaaW.PrintWords Go.Proofs.YtnecnbpnfikbkaaW.PrintLast Go.Proofs.YtnecnbpnfikbkaaW.PrintMore Go.Proofs.Ytnecnbpnfikbkaa.Blk
set_option linter.unusedVariables false
set_option maxRecDepth 100000 in
set_option maxHeartbeats 1600000 in
theorem fields_6 (x0 x1 : Int) (x2 x3 : ByteArray) (A : Option Addr) (c : Nat) (l : List S31) (x5 : Bool) (x6 x7 : Int) (a1 a2 : Int) (w : World) (hl : Kd.C k31 w A l.length l) (hc : l.length ≤ c) (hll : l.length ≤ 4611686018427387904)
    (h2 : a2 ≠ 0) (hm : (IntKind.u64.wrap a1).tmod 8 = 6) (k : Nat) (hk : taffraillaw09_size.f k [⟨x0, x1, x2, x3, l, x5, ⟨x6, x7⟩⟩] = some true)
    (hs1 : sameB ⟨x0, x1, x2, x3, l, x5, ⟨x6, x7⟩⟩ ⟨x0, x1, x2, x3, l, x5, ⟨x6, (wrap64 (x7 + a2))⟩⟩ = false) (hs2 : sameB ⟨x0, x1, x2, x3, l, x5, ⟨x6, (wrap64 (x7 + a2))⟩⟩ ⟨x0, x1, x2, x3, l, x5, ⟨x6, x7⟩⟩ = false) :
    Calls Try.prog 3 #[.agg #[.int .i64 x0, .int .i64 x1, .string x2, .string x3, .slice A l.length c, .bool x5, .int .i64 x6, .int .i64 x7], .int .i64 a1, .int .i64 a2] w fun e w' => e = .returned (.bool true) ∧ Below w.heap.size w w' := by
  have e2 : (a2 == 0) = false := beq_eq_false_iff_ne.mpr h2
  have hb0 := Blk.new w 26 #[.int .i64 x0, .int .i64 x1, .string x2, .string x3, .slice A l.length c, .bool x5, .int .i64 x6, .int .i64 x7]
  have hL0 := below_alloc (Below.refl w.heap.size w) (.cells #[.int .i64 x0, .int .i64 x1, .string x2, .string x3, .slice A l.length c, .bool x5, .int .i64 x6, .int .i64 x7] 26)
  have L1 := Aside0.mk (below_alloc hL0 (.cells #[.int .i64 x0, .int .i64 x1, .string x2, .string x3, .slice A l.length c, .bool x5, .int .i64 x6, .int .i64 x7] 26))
  have hb1 := Blk.new (w.alloc (.cells #[.int .i64 x0, .int .i64 x1, .string x2, .string x3, .slice A l.length c, .bool x5, .int .i64 x6, .int .i64 x7] 26)) 26 #[.int .i64 x0, .int .i64 x1, .string x2, .string x3, .slice A l.length c, .bool x5, .int .i64 x6, .int .i64 x7]
  rw [show (w.alloc (.cells #[.int .i64 x0, .int .i64 x1, .string x2, .string x3, .slice A l.length c, .bool x5, .int .i64 x6, .int .i64 x7] 26)).heap.size = w.heap.size + 1 by simp] at hb1
  have HU := Aside0.mk (show ∀ n : Nat, Blk ((((w.alloc (.cells #[.int .i64 x0, .int .i64 x1, .string x2, .string x3, .slice A l.length c, .bool x5, .int .i64 x6, .int .i64 x7] 26)).alloc (.cells #[.int .i64 x0, .int .i64 x1, .string x2, .string x3, .slice A l.length c, .bool x5, .int .i64 x6, .int .i64 x7] 26)).drewN n).alloc (.cells #[.int .i64 x0, .int .i64 x1, .string x2, .string x3, .slice A l.length c, .bool x5, .int .i64 x6, .int .i64 (wrap64 (x7 + a2))] 26)) (w.heap.size + 1 + 1) 26 #[.int .i64 x0, .int .i64 x1, .string x2, .string x3, .slice A l.length c, .bool x5, .int .i64 x6, .int .i64 (wrap64 (x7 + a2))] from fun n => by
    have := Blk.new (((w.alloc (.cells #[.int .i64 x0, .int .i64 x1, .string x2, .string x3, .slice A l.length c, .bool x5, .int .i64 x6, .int .i64 x7] 26)).alloc (.cells #[.int .i64 x0, .int .i64 x1, .string x2, .string x3, .slice A l.length c, .bool x5, .int .i64 x6, .int .i64 x7] 26)).drewN n) 26 #[.int .i64 x0, .int .i64 x1, .string x2, .string x3, .slice A l.length c, .bool x5, .int .i64 x6, .int .i64 (wrap64 (x7 + a2))]
    rwa [show (((w.alloc (.cells #[.int .i64 x0, .int .i64 x1, .string x2, .string x3, .slice A l.length c, .bool x5, .int .i64 x6, .int .i64 x7] 26)).alloc (.cells #[.int .i64 x0, .int .i64 x1, .string x2, .string x3, .slice A l.length c, .bool x5, .int .i64 x6, .int .i64 x7] 26)).drewN n).heap.size = w.heap.size + 1 + 1 by simp] at this)
  have HB0 := Aside0.mk hb0
  have HB1 := Aside0.mk hb1
  have HK := Aside0.mk hk
  have HL := Aside0.mk hl
  have HC := Aside0.mk hc
  have HLL := Aside0.mk hll
  have HS1 := Aside0.mk hs1
  have HS2 := Aside0.mk hs2
  clear hb0 hb1 hL0 hl hc h2 hk hs1 hs2 hll
  have N1 := Aside0.mk trivial
  go_enter Try.func3, Try.ntmps3
  go_wp2_with (first
    | (go_at_call 6; refine (size_any ⟨x0, x1, x2, x3, l, x5, ⟨x6, x7⟩⟩ true k HK.out HB1.out HC.out (Kd.C_below (HL.out) (L1.out))).mono ?_; rintro e w1 ⟨rfl, n, rfl⟩; have L2 := Aside0.mk (below_alloc (pw_below_drewN L1.out n) (.cells #[.int .i64 x0, .int .i64 x1, .string x2, .string x3, .slice A l.length c, .bool x5, .int .i64 x6, .int .i64 (wrap64 (x7 + a2))] 26)))
    | (go_at_call 8; (have gA := N1.out; clear gA); refine (same_any ⟨x0, x1, x2, x3, l, x5, ⟨x6, x7⟩⟩ ⟨x0, x1, x2, x3, l, x5, ⟨x6, (wrap64 (x7 + a2))⟩⟩ false HLL.out HC.out (Kd.C_below HL.out L2.out) HC.out (Kd.C_below HL.out L2.out) HS1.out).mono ?_; rintro e w2 ⟨rfl, hb⟩; have hT := (((HB0.out.alloc _).drewN n).alloc _).below hb (by simp; omega); have hU := (HU.out n).below hb (by simp); have L3 := Aside0.mk (below_then' L2.out hb); have t0 := hT.cell 0; have t1 := hT.cell 1; have t2 := hT.cell 2; have t3 := hT.cell 3; have t4 := hT.cell 4; have t5 := hT.cell 5; have t6 := hT.cell 6; have t7 := hT.cell 7; have u0 := hU.cell 0; have u1 := hU.cell 1; have u2 := hU.cell 2; have u3 := hU.cell 3; have u4 := hU.cell 4; have u5 := hU.cell 5; have u6 := hU.cell 6; have u7 := hU.cell 7; have BT := Aside0.mk hT; have BU := Aside0.mk hU; have N2 := Aside0.mk trivial; clear hb N1 hT hU)
    | (go_at_call 8; (have gA := N2.out; clear gA); refine (same_any ⟨x0, x1, x2, x3, l, x5, ⟨x6, (wrap64 (x7 + a2))⟩⟩ ⟨x0, x1, x2, x3, l, x5, ⟨x6, x7⟩⟩ false HLL.out HC.out (Kd.C_below HL.out L3.out) HC.out (Kd.C_below HL.out L3.out) HS2.out).mono ?_; rintro e w3 ⟨rfl, hb⟩; have hU := BU.out.below hb BU.out.lt; have L4 := Aside0.mk (below_then' L3.out hb); have u0 := hU.cell 0; have u1 := hU.cell 1; have u2 := hU.cell 2; have u3 := hU.cell 3; have u4 := hU.cell 4; have u5 := hU.cell 5; have u6 := hU.cell 6; have u7 := hU.cell 7; have N3 := Aside0.mk trivial; clear hb N2 hU)
    | (go_at_call 8; (have gA := N3.out; clear gA); refine (same_any ⟨x0, x1, x2, x3, l, x5, ⟨x6, (wrap64 (x7 + a2))⟩⟩ ⟨x0, x1, x2, x3, l, x5, ⟨x6, (wrap64 (x7 + a2))⟩⟩ true HLL.out HC.out (Kd.C_below HL.out L4.out) HC.out (Kd.C_below HL.out L4.out) (Pure.sameB_refl _)).mono ?_; rintro e w4 ⟨rfl, hb⟩; have L5 := Aside0.mk (below_then' L4.out hb); clear hb N3)
    | (go_at_call 7; (have gA := L5.out; clear gA); refine (awake_any _).mono ?_; rintro e w5 ⟨rfl, hb⟩; have L6 := Aside0.mk (below_then' L5.out hb); clear hb))
  go_ret
  exact ⟨rfl, L6.out⟩
end Go.Proofs.Ytnecnbpnfikbkaa.P
