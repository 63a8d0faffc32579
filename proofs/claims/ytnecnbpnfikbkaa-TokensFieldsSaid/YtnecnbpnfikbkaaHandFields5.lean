/- The law TokensFields: its ways, each walked by itself. -/
import Derived.Test.YtnecnbpnfikbkaaHandFields
namespace Go.Proofs.Ytnecnbpnfikbkaa.P
open Go.RowKit Go.Proofs.YtnecnbpnfikbkaaW.PrintWords Go.Proofs.YtnecnbpnfikbkaaW.PrintLast Go.Proofs.YtnecnbpnfikbkaaW.PrintMore Go.Proofs.Ytnecnbpnfikbkaa.Blk
set_option linter.unusedVariables false
set_option maxRecDepth 100000 in
set_option maxHeartbeats 1600000 in
theorem fields_7 (x0 x1 : Int) (x2 x3 : ByteArray) (A : Option Addr) (c : Nat) (l : List S31) (x5 : Bool) (x6 x7 : Int) (a1 a2 : Int) (w : World) (hl : Kd.C k31 w A l.length l) (hc : l.length ≤ c) (hll : l.length ≤ 4611686018427387904)
    (h2 : a2 ≠ 0) (hm : (IntKind.u64.wrap a1).tmod 8 = 7) (k : Nat) (hk : taffraillaw09_size.f k [⟨x0, x1, x2, x3, l, x5, ⟨x6, x7⟩⟩] = some true) (m : List S31) (hmm : l ++ [⟨⟨#[]⟩, ⟨#[]⟩⟩] = m) (hlb : l.length ≤ 4398046510976)
    (hs1 : sameB ⟨x0, x1, x2, x3, l, x5, ⟨x6, x7⟩⟩ ⟨x0, x1, x2, x3, m, x5, ⟨x6, x7⟩⟩ = false) (hs2 : sameB ⟨x0, x1, x2, x3, m, x5, ⟨x6, x7⟩⟩ ⟨x0, x1, x2, x3, l, x5, ⟨x6, x7⟩⟩ = false) :
    Calls Try.prog 3 #[.agg #[.int .i64 x0, .int .i64 x1, .string x2, .string x3, .slice A l.length c, .bool x5, .int .i64 x6, .int .i64 x7], .int .i64 a1, .int .i64 a2] w fun e w' => e = .returned (.bool true) ∧ Below w.heap.size w w' := by
  have e2 : (a2 == 0) = false := beq_eq_false_iff_ne.mpr h2
  have hb0 := Blk.new w 26 #[.int .i64 x0, .int .i64 x1, .string x2, .string x3, .slice A l.length c, .bool x5, .int .i64 x6, .int .i64 x7]
  have hL0 := below_alloc (Below.refl w.heap.size w) (.cells #[.int .i64 x0, .int .i64 x1, .string x2, .string x3, .slice A l.length c, .bool x5, .int .i64 x6, .int .i64 x7] 26)
  have L1 := Aside0.mk (below_alloc hL0 (.cells #[.int .i64 x0, .int .i64 x1, .string x2, .string x3, .slice A l.length c, .bool x5, .int .i64 x6, .int .i64 x7] 26))
  have hb1 := Blk.new (w.alloc (.cells #[.int .i64 x0, .int .i64 x1, .string x2, .string x3, .slice A l.length c, .bool x5, .int .i64 x6, .int .i64 x7] 26)) 26 #[.int .i64 x0, .int .i64 x1, .string x2, .string x3, .slice A l.length c, .bool x5, .int .i64 x6, .int .i64 x7]
  rw [show (w.alloc (.cells #[.int .i64 x0, .int .i64 x1, .string x2, .string x3, .slice A l.length c, .bool x5, .int .i64 x6, .int .i64 x7] 26)).heap.size = w.heap.size + 1 by simp] at hb1
  have HU := Aside0.mk (show ∀ n : Nat, Blk ((((w.alloc (.cells #[.int .i64 x0, .int .i64 x1, .string x2, .string x3, .slice A l.length c, .bool x5, .int .i64 x6, .int .i64 x7] 26)).alloc (.cells #[.int .i64 x0, .int .i64 x1, .string x2, .string x3, .slice A l.length c, .bool x5, .int .i64 x6, .int .i64 x7] 26)).drewN n).alloc (.cells #[.int .i64 x0, .int .i64 x1, .string x2, .string x3, .slice A l.length c, .bool x5, .int .i64 x6, .int .i64 x7] 26)) (w.heap.size + 1 + 1) 26 #[.int .i64 x0, .int .i64 x1, .string x2, .string x3, .slice A l.length c, .bool x5, .int .i64 x6, .int .i64 x7] from fun n => by
    have := Blk.new (((w.alloc (.cells #[.int .i64 x0, .int .i64 x1, .string x2, .string x3, .slice A l.length c, .bool x5, .int .i64 x6, .int .i64 x7] 26)).alloc (.cells #[.int .i64 x0, .int .i64 x1, .string x2, .string x3, .slice A l.length c, .bool x5, .int .i64 x6, .int .i64 x7] 26)).drewN n) 26 #[.int .i64 x0, .int .i64 x1, .string x2, .string x3, .slice A l.length c, .bool x5, .int .i64 x6, .int .i64 x7]
    rwa [show (((w.alloc (.cells #[.int .i64 x0, .int .i64 x1, .string x2, .string x3, .slice A l.length c, .bool x5, .int .i64 x6, .int .i64 x7] 26)).alloc (.cells #[.int .i64 x0, .int .i64 x1, .string x2, .string x3, .slice A l.length c, .bool x5, .int .i64 x6, .int .i64 x7] 26)).drewN n).heap.size = w.heap.size + 1 + 1 by simp] at this)
  have HB0 := Aside0.mk hb0
  have HB1 := Aside0.mk hb1
  have HK := Aside0.mk hk
  have HL := Aside0.mk hl
  have HC := Aside0.mk hc
  have HLL := Aside0.mk hll
  have HS1 := Aside0.mk hs1
  have HS2 := Aside0.mk hs2
  have HM := Aside0.mk hmm
  have HLB := Aside0.mk hlb
  have HMM := Aside0.mk (show m.length ≤ 4611686018427387904 by rw [← hmm, List.length_append, List.length_singleton]; omega)
  have N0 := Aside0.mk trivial
  clear hmm hlb
  clear hb0 hb1 hL0 hl hc h2 hk hs1 hs2 hll
  have N1 := Aside0.mk trivial
  go_enter Try.func3, Try.ntmps3
  go_wp2_with (first
    | (go_at_call 6; refine (size_any ⟨x0, x1, x2, x3, l, x5, ⟨x6, x7⟩⟩ true k HK.out HB1.out HC.out (Kd.C_below (HL.out) (L1.out))).mono ?_; rintro e w1 ⟨rfl, n, rfl⟩; have L2 := Aside0.mk (below_alloc (pw_below_drewN L1.out n) (.cells #[.int .i64 x0, .int .i64 x1, .string x2, .string x3, .slice A l.length c, .bool x5, .int .i64 x6, .int .i64 x7] 26)))
    | (at_builtin; (have gA := N0.out; clear gA); go_loud (refine Kd.R_append_rows k31 (Rr := k31.K _) (w.heap.size + 1 + 1 + 1) rfl (.const (.slice none 0 0)) (.tmp 75) 22 31 (.agg #[(.string ⟨#[]⟩), (.string ⟨#[]⟩)]) 32 rfl Try.underlying22 info31 rfl (by decide) (by omega) (.slice none 0 0) ([] : List S31) l A l.length c (fun k => w.heap.size + 1 + 1 + 1 ≤ k) (fun _ => False) rfl rfl (Kd.R_nil _ _ _ _ _) (Kd.C_below HL.out L2.out) (fun x cs h => by rw [k31_open h]; exact k31_mkM _ _ _ x) (fun _ h => h.elim) (fun _ h => by simpa using h) (Below.refl _ _) (by simp) (by have := HLB.out; simp; omega) ?_; intro v1 w1 ho1 hb1 hg1 hat1; rw [List.nil_append] at ho1; have hz1 : w.heap.size + 1 + 1 + 1 ≤ w1.heap.size := (by have h9 := hb1.size; simp at h9; omega); have O1 := Aside0.mk ho1; have B1 := Aside0.mk hb1; clear ho1 hb1 hg1 hat1 N0; have N3 := Aside0.mk trivial))
    | (at_builtin; (have gA := N3.out; clear gA N3); go_loud (refine Kd.R_append k31 (w.heap.size + 1 + 1 + 1) rfl (.tmp 76) (.tmp 78) 22 31 (.agg #[(.string ⟨#[]⟩), (.string ⟨#[]⟩)]) 32 rfl Try.underlying22 info31 rfl (by decide) (by omega) v1 l ⟨⟨#[]⟩, ⟨#[]⟩⟩ [.string ⟨#[]⟩, .string ⟨#[]⟩] (fun k => w.heap.size + 1 + 1 + 1 ≤ k) (fun _ => False) rfl rfl (k31_mkM _ _ _ _) (fun _ h => h.elim) (fun _ h => by omega) O1.out B1.out hz1 (by have := HLB.out; omega) ?_; intro v2 w2 ho2 hb2 hg2 hat2; rw [HM.out] at ho2; obtain ⟨A2, c2, rfl⟩ := Kd.R_slice ho2; have hT := (((HB0.out.alloc _).drewN n).alloc _).below hb2 (by omega); have hU := (HU.out n).below hb2 (by omega); have t0 := hT.cell 0; have t1 := hT.cell 1; have t2 := hT.cell 2; have t3 := hT.cell 3; have t4 := hT.cell 4; have t5 := hT.cell 5; have t6 := hT.cell 6; have t7 := hT.cell 7; have u0 := hU.cell 0; have u1 := hU.cell 1; have u2 := hU.cell 2; have u3 := hU.cell 3; have u4 := hU.cell 4; have u5 := hU.cell 5; have u6 := hU.cell 6; have u7 := hU.cell 7; have uf := hU.frozen 4; have BT := Aside0.mk (hT.far (p := ⟨w.heap.size + 1 + 1, 4, none⟩) (by simp; omega) (.slice A2 m.length c2)); have BU := Aside0.mk (show Blk (w2.setCell ⟨w.heap.size + 1 + 1, 4, none⟩ (.slice A2 m.length c2)) (w.heap.size + 1 + 1) 26 #[.int .i64 x0, .int .i64 x1, .string x2, .string x3, .slice A2 m.length c2, .bool x5, .int .i64 x6, .int .i64 x7] from hU.set_ 4 (.slice A2 m.length c2)); have R2 := Aside0.mk (Kd.R_reads' (Kd.R_far (p := ⟨w.heap.size + 1 + 1, 4, none⟩) ho2 (fun k hk => by simp; omega) (.slice A2 m.length c2))); have L2b := Aside0.mk (below_set (g := w.heap.size + 1 + 1) (j := 4) (v := .slice A2 m.length c2) (L2.out.trans (hb2.mono (by omega))) (by omega)); clear hT hU ho2 hb2 hg2 hat2 O1 B1 hz1))
    | (go_at_call 8; (have gA := N1.out; clear gA); refine (same_any ⟨x0, x1, x2, x3, l, x5, ⟨x6, x7⟩⟩ ⟨x0, x1, x2, x3, m, x5, ⟨x6, x7⟩⟩ false HLL.out HC.out (Kd.C_below HL.out L2b.out) R2.out.2.1 R2.out.2.2 HS1.out).mono ?_; rintro e w2 ⟨rfl, hb⟩; have hT := BT.out.below hb BT.out.lt; have hU := BU.out.below hb BU.out.lt; have L3 := Aside0.mk (below_then' L2b.out hb); have C3 := Aside0.mk (Kd.C_below R2.out.2.2 hb); have t0 := hT.cell 0; have t1 := hT.cell 1; have t2 := hT.cell 2; have t3 := hT.cell 3; have t4 := hT.cell 4; have t5 := hT.cell 5; have t6 := hT.cell 6; have t7 := hT.cell 7; have u0 := hU.cell 0; have u1 := hU.cell 1; have u2 := hU.cell 2; have u3 := hU.cell 3; have u4 := hU.cell 4; have u5 := hU.cell 5; have u6 := hU.cell 6; have u7 := hU.cell 7; clear BT BU; have BT := Aside0.mk hT; have BU := Aside0.mk hU; have N2 := Aside0.mk trivial; clear hb N1 hT hU)
    | (go_at_call 8; (have gA := N2.out; clear gA); refine (same_any ⟨x0, x1, x2, x3, m, x5, ⟨x6, x7⟩⟩ ⟨x0, x1, x2, x3, l, x5, ⟨x6, x7⟩⟩ false HMM.out R2.out.2.1 C3.out HC.out (Kd.C_below HL.out L3.out) HS2.out).mono ?_; rintro e w3 ⟨rfl, hb⟩; have hU := BU.out.below hb BU.out.lt; have L4 := Aside0.mk (below_then' L3.out hb); have C4 := Aside0.mk (Kd.C_below C3.out hb); have u0 := hU.cell 0; have u1 := hU.cell 1; have u2 := hU.cell 2; have u3 := hU.cell 3; have u4 := hU.cell 4; have u5 := hU.cell 5; have u6 := hU.cell 6; have u7 := hU.cell 7; have N3 := Aside0.mk trivial; clear hb N2 hU)
    | (go_at_call 8; (have gA := N3.out; clear gA); refine (same_any ⟨x0, x1, x2, x3, m, x5, ⟨x6, x7⟩⟩ ⟨x0, x1, x2, x3, m, x5, ⟨x6, x7⟩⟩ true HMM.out R2.out.2.1 C4.out R2.out.2.1 C4.out (Pure.sameB_refl _)).mono ?_; rintro e w4 ⟨rfl, hb⟩; have L5 := Aside0.mk (below_then' L4.out hb); clear hb N3)
    | (go_at_call 7; (have gA := L5.out; clear gA); refine (awake_any _).mono ?_; rintro e w5 ⟨rfl, hb⟩; have L6 := Aside0.mk (below_then' L5.out hb); clear hb))
  go_ret
  exact ⟨rfl, L6.out⟩
end Go.Proofs.Ytnecnbpnfikbkaa.P
