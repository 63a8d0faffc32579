/- The law TokensFields: its ways, each walked by itself. -/
import Derived.Test.YtnecnbpnfikbkaaTok
import Derived.Test.YtnecnbpnfikbkaaBlk
namespace Go.Proofs.Ytnecnbpnfikbkaa.P
open Go.RowKit Go.Proofs.YtnecnbpnfikbkaaW.PrintWords Go.Proofs.YtnecnbpnfikbkaaW.PrintLast Go.Proofs.YtnecnbpnfikbkaaW.PrintMore Go.Proofs.Ytnecnbpnfikbkaa.Blk
set_option linter.unusedVariables false
theorem C_one {W : World} {g : Nat} {t : S26} {A : Option Addr} {c : Nat} (hb : Blk W g 26 #[.int .i64 t.f0, .int .i64 t.f1, .string t.f2, .string t.f3, .slice A t.f4.length c, .bool t.f5, .int .i64 t.f6.f0, .int .i64 t.f6.f1]) (hc : t.f4.length ≤ c) (hl : Kd.C k31 W A t.f4.length t.f4) : Kd.C k26 W (some ⟨g, 0, none⟩) 1 [t] := by
  refine ⟨rfl, by omega, fun _ => ⟨_, rfl, fun j p hj => ?_⟩⟩
  match j, hj with
  | 0, hj =>
    simp at hj
    subst hj
    refine ⟨_, rfl, k26_mk W t hc hl, fun i u hi => ?_⟩
    have h1 := hb.cell i
    simp only [List.getElem?_toArray] at h1
    have h2 : (⟨g, 0, none⟩ : Addr).add (0 * k26.sz + i) = ⟨g, i, none⟩ := by
      simp only [Addr.add, Nat.zero_mul, Nat.zero_add]
      split
      · rename_i h; rw [h]
      · rfl
    rw [h2, h1]
    exact hi
theorem size_any {W : World} {g : Nat} (t : S26) {A : Option Addr} {c : Nat} (b : Bool) (k : Nat) (hk : taffraillaw09_size.f k [t] = some b) (hb : Blk W g 26 #[.int .i64 t.f0, .int .i64 t.f1, .string t.f2, .string t.f3, .slice A t.f4.length c, .bool t.f5, .int .i64 t.f6.f0, .int .i64 t.f6.f1]) (hc : t.f4.length ≤ c) (hl : Kd.C k31 W A t.f4.length t.f4) :
    Calls Try.prog 6 #[.slice (some ⟨g, 0, none⟩) 1 1] W fun e w' => e = .returned (.bool b) ∧ Drawn0 W w' :=
  taffraillaw09_size.calls k (some ⟨g, 0, none⟩) 1 [t] b W (C_one hb hc hl) (by simp) hk
theorem same_any {W : World} (a b : S26) {A A' : Option Addr} {c c' : Nat} (r : Bool) (ha : a.f4.length ≤ 4611686018427387904) (hca : a.f4.length ≤ c) (hA : Kd.C k31 W A a.f4.length a.f4) (hcb : b.f4.length ≤ c') (hB : Kd.C k31 W A' b.f4.length b.f4) (hs : sameB a b = r) :
    Calls Try.prog 8 #[.agg #[.int .i64 a.f0, .int .i64 a.f1, .string a.f2, .string a.f3, .slice A a.f4.length c, .bool a.f5, .int .i64 a.f6.f0, .int .i64 a.f6.f1], .agg #[.int .i64 b.f0, .int .i64 b.f1, .string b.f2, .string b.f3, .slice A' b.f4.length c', .bool b.f5, .int .i64 b.f6.f0, .int .i64 b.f6.f1]] W fun e w' => e = .returned (.bool r) ∧ Below W.heap.size W w' :=
  tokens_Same.calls (a.f4.length + 1) _ _ _ _ A c a.f4 _ _ _ _ _ _ _ A' c' b.f4 _ _ _ r W hA hca hB hcb (by rw [same_some a b ha _ (by omega), hs])
theorem awake_any (W : World) : Calls Try.prog 7 #[] W fun e w' => e = .returned (.bool true) ∧ Below W.heap.size W w' := by
  obtain ⟨K, hK⟩ := Pure.awake_ev
  exact taffraillaw09_awake.calls K true W (hK K (Nat.le_refl _))
theorem below_then' {w w1 w2 : World} (h : Below w.heap.size w w1) (h2 : Below w1.heap.size w1 w2) : Below w.heap.size w w2 := below_step h h2
theorem sameB_ne {a b : S26} (h : ¬ (a.f0 = b.f0 ∧ a.f1 = b.f1 ∧ a.f2.toList = b.f2.toList ∧ a.f3.toList = b.f3.toList ∧ a.f5 = b.f5 ∧ a.f6.f0 = b.f6.f0 ∧ a.f6.f1 = b.f6.f1)) : sameB a b = false := by
  cases hq : sameB a b with
  | false => rfl
  | true =>
    unfold sameB at hq
    simp only [Bool.and_eq_true, beq_iff_eq] at hq
    exact absurd ⟨hq.1, hq.2.1, hq.2.2.1, hq.2.2.2.1, hq.2.2.2.2.1, hq.2.2.2.2.2.1.1, hq.2.2.2.2.2.1.2⟩ h
theorem sameB_rows {a b : S26} (h : a.f4.length ≠ b.f4.length) : sameB a b = false := by
  unfold sameB
  rw [attrsB_len _ _ h]
  simp
theorem wrap_ne {x a : Int} (hx : -9223372036854775808 ≤ x ∧ x ≤ 9223372036854775807) (ha : -9223372036854775808 ≤ a ∧ a ≤ 9223372036854775807) (h : a ≠ 0) : x ≠ wrap64 (x + a) := by
  unfold wrap64
  omega
theorem snoc_ne (x : ByteArray) : x.toList ≠ (x ++ ⟨#[120]⟩).toList := by
  intro h
  rw [ByteArray.toList_eq, ByteArray.toList_eq] at h
  have := congrArg List.length h
  simp at this
set_option maxRecDepth 100000 in
set_option maxHeartbeats 1600000 in
theorem fields_0 (x0 x1 : Int) (x2 x3 : ByteArray) (A : Option Addr) (c : Nat) (l : List S31) (x5 : Bool) (x6 x7 : Int) (a1 a2 : Int) (w : World) (hl : Kd.C k31 w A l.length l) (hc : l.length ≤ c) (hll : l.length ≤ 4611686018427387904)
    (h2 : a2 ≠ 0) (hm : (IntKind.u64.wrap a1).tmod 8 = 0) (k : Nat) (hk : taffraillaw09_size.f k [⟨x0, x1, x2, x3, l, x5, ⟨x6, x7⟩⟩] = some true)
    (hs1 : sameB ⟨x0, x1, x2, x3, l, x5, ⟨x6, x7⟩⟩ ⟨(wrap64 (x0 + a2)), x1, x2, x3, l, x5, ⟨x6, x7⟩⟩ = false) (hs2 : sameB ⟨(wrap64 (x0 + a2)), x1, x2, x3, l, x5, ⟨x6, x7⟩⟩ ⟨x0, x1, x2, x3, l, x5, ⟨x6, x7⟩⟩ = false) :
    Calls Try.prog 3 #[.agg #[.int .i64 x0, .int .i64 x1, .string x2, .string x3, .slice A l.length c, .bool x5, .int .i64 x6, .int .i64 x7], .int .i64 a1, .int .i64 a2] w fun e w' => e = .returned (.bool true) ∧ Below w.heap.size w w' := by
  have e2 : (a2 == 0) = false := beq_eq_false_iff_ne.mpr h2
  have hb0 := Blk.new w 26 #[.int .i64 x0, .int .i64 x1, .string x2, .string x3, .slice A l.length c, .bool x5, .int .i64 x6, .int .i64 x7]
  have hL0 := below_alloc (Below.refl w.heap.size w) (.cells #[.int .i64 x0, .int .i64 x1, .string x2, .string x3, .slice A l.length c, .bool x5, .int .i64 x6, .int .i64 x7] 26)
  have L1 := Aside0.mk (below_alloc hL0 (.cells #[.int .i64 x0, .int .i64 x1, .string x2, .string x3, .slice A l.length c, .bool x5, .int .i64 x6, .int .i64 x7] 26))
  have hb1 := Blk.new (w.alloc (.cells #[.int .i64 x0, .int .i64 x1, .string x2, .string x3, .slice A l.length c, .bool x5, .int .i64 x6, .int .i64 x7] 26)) 26 #[.int .i64 x0, .int .i64 x1, .string x2, .string x3, .slice A l.length c, .bool x5, .int .i64 x6, .int .i64 x7]
  rw [show (w.alloc (.cells #[.int .i64 x0, .int .i64 x1, .string x2, .string x3, .slice A l.length c, .bool x5, .int .i64 x6, .int .i64 x7] 26)).heap.size = w.heap.size + 1 by simp] at hb1
  have HU := Aside0.mk (show ∀ n : Nat, Blk ((((w.alloc (.cells #[.int .i64 x0, .int .i64 x1, .string x2, .string x3, .slice A l.length c, .bool x5, .int .i64 x6, .int .i64 x7] 26)).alloc (.cells #[.int .i64 x0, .int .i64 x1, .string x2, .string x3, .slice A l.length c, .bool x5, .int .i64 x6, .int .i64 x7] 26)).drewN n).alloc (.cells #[.int .i64 (wrap64 (x0 + a2)), .int .i64 x1, .string x2, .string x3, .slice A l.length c, .bool x5, .int .i64 x6, .int .i64 x7] 26)) (w.heap.size + 1 + 1) 26 #[.int .i64 (wrap64 (x0 + a2)), .int .i64 x1, .string x2, .string x3, .slice A l.length c, .bool x5, .int .i64 x6, .int .i64 x7] from fun n => by
    have := Blk.new (((w.alloc (.cells #[.int .i64 x0, .int .i64 x1, .string x2, .string x3, .slice A l.length c, .bool x5, .int .i64 x6, .int .i64 x7] 26)).alloc (.cells #[.int .i64 x0, .int .i64 x1, .string x2, .string x3, .slice A l.length c, .bool x5, .int .i64 x6, .int .i64 x7] 26)).drewN n) 26 #[.int .i64 (wrap64 (x0 + a2)), .int .i64 x1, .string x2, .string x3, .slice A l.length c, .bool x5, .int .i64 x6, .int .i64 x7]
    rwa [show (((w.alloc (.cells #[.int .i64 x0, .int .i64 x1, .string x2, .string x3, .slice A l.length c, .bool x5, .int .i64 x6, .int .i64 x7] 26)).alloc (.cells #[.int .i64 x0, .int .i64 x1, .string x2, .string x3, .slice A l.length c, .bool x5, .int .i64 x6, .int .i64 x7] 26)).drewN n).heap.size = w.heap.size + 1 + 1 by simp] at this)
  have HB0 := Aside0.mk hb0
  have HB1 := Aside0.mk hb1
  have HK := Aside0.mk hk
  have HL := Aside0.mk hl
  have HC := Aside0.mk hc
  have HLL := Aside0.mk hll
  have HS1 := Aside0.mk hs1
  have HS2 := Aside0.mk hs2
  clear hb0 hb1 hL0 hl hc h2 hk hs1 hs2 hll
  have N1 := Aside0.mk trivial
  go_enter Try.func3, Try.ntmps3
  go_wp2_with (first
    | (go_at_call 6; refine (size_any ⟨x0, x1, x2, x3, l, x5, ⟨x6, x7⟩⟩ true k HK.out HB1.out HC.out (Kd.C_below (HL.out) (L1.out))).mono ?_; rintro e w1 ⟨rfl, n, rfl⟩; have L2 := Aside0.mk (below_alloc (pw_below_drewN L1.out n) (.cells #[.int .i64 (wrap64 (x0 + a2)), .int .i64 x1, .string x2, .string x3, .slice A l.length c, .bool x5, .int .i64 x6, .int .i64 x7] 26)))
    | (go_at_call 8; (have gA := N1.out; clear gA); refine (same_any ⟨x0, x1, x2, x3, l, x5, ⟨x6, x7⟩⟩ ⟨(wrap64 (x0 + a2)), x1, x2, x3, l, x5, ⟨x6, x7⟩⟩ false HLL.out HC.out (Kd.C_below HL.out L2.out) HC.out (Kd.C_below HL.out L2.out) HS1.out).mono ?_; rintro e w2 ⟨rfl, hb⟩; have hT := (((HB0.out.alloc _).drewN n).alloc _).below hb (by simp; omega); have hU := (HU.out n).below hb (by simp); have L3 := Aside0.mk (below_then' L2.out hb); have t0 := hT.cell 0; have t1 := hT.cell 1; have t2 := hT.cell 2; have t3 := hT.cell 3; have t4 := hT.cell 4; have t5 := hT.cell 5; have t6 := hT.cell 6; have t7 := hT.cell 7; have u0 := hU.cell 0; have u1 := hU.cell 1; have u2 := hU.cell 2; have u3 := hU.cell 3; have u4 := hU.cell 4; have u5 := hU.cell 5; have u6 := hU.cell 6; have u7 := hU.cell 7; have BT := Aside0.mk hT; have BU := Aside0.mk hU; have N2 := Aside0.mk trivial; clear hb N1 hT hU)
    | (go_at_call 8; (have gA := N2.out; clear gA); refine (same_any ⟨(wrap64 (x0 + a2)), x1, x2, x3, l, x5, ⟨x6, x7⟩⟩ ⟨x0, x1, x2, x3, l, x5, ⟨x6, x7⟩⟩ false HLL.out HC.out (Kd.C_below HL.out L3.out) HC.out (Kd.C_below HL.out L3.out) HS2.out).mono ?_; rintro e w3 ⟨rfl, hb⟩; have hU := BU.out.below hb BU.out.lt; have L4 := Aside0.mk (below_then' L3.out hb); have u0 := hU.cell 0; have u1 := hU.cell 1; have u2 := hU.cell 2; have u3 := hU.cell 3; have u4 := hU.cell 4; have u5 := hU.cell 5; have u6 := hU.cell 6; have u7 := hU.cell 7; have N3 := Aside0.mk trivial; clear hb N2 hU)
    | (go_at_call 8; (have gA := N3.out; clear gA); refine (same_any ⟨(wrap64 (x0 + a2)), x1, x2, x3, l, x5, ⟨x6, x7⟩⟩ ⟨(wrap64 (x0 + a2)), x1, x2, x3, l, x5, ⟨x6, x7⟩⟩ true HLL.out HC.out (Kd.C_below HL.out L4.out) HC.out (Kd.C_below HL.out L4.out) (Pure.sameB_refl _)).mono ?_; rintro e w4 ⟨rfl, hb⟩; have L5 := Aside0.mk (below_then' L4.out hb); clear hb N3)
    | (go_at_call 7; (have gA := L5.out; clear gA); refine (awake_any _).mono ?_; rintro e w5 ⟨rfl, hb⟩; have L6 := Aside0.mk (below_then' L5.out hb); clear hb))
  go_ret
  exact ⟨rfl, L6.out⟩
set_option maxRecDepth 100000 in
set_option maxHeartbeats 1600000 in
theorem fields_1 (x0 x1 : Int) (x2 x3 : ByteArray) (A : Option Addr) (c : Nat) (l : List S31) (x5 : Bool) (x6 x7 : Int) (a1 a2 : Int) (w : World) (hl : Kd.C k31 w A l.length l) (hc : l.length ≤ c) (hll : l.length ≤ 4611686018427387904)
    (h2 : a2 ≠ 0) (hm : (IntKind.u64.wrap a1).tmod 8 = 1) (k : Nat) (hk : taffraillaw09_size.f k [⟨x0, x1, x2, x3, l, x5, ⟨x6, x7⟩⟩] = some true)
    (hs1 : sameB ⟨x0, x1, x2, x3, l, x5, ⟨x6, x7⟩⟩ ⟨x0, (wrap64 (x1 + a2)), x2, x3, l, x5, ⟨x6, x7⟩⟩ = false) (hs2 : sameB ⟨x0, (wrap64 (x1 + a2)), x2, x3, l, x5, ⟨x6, x7⟩⟩ ⟨x0, x1, x2, x3, l, x5, ⟨x6, x7⟩⟩ = false) :
    Calls Try.prog 3 #[.agg #[.int .i64 x0, .int .i64 x1, .string x2, .string x3, .slice A l.length c, .bool x5, .int .i64 x6, .int .i64 x7], .int .i64 a1, .int .i64 a2] w fun e w' => e = .returned (.bool true) ∧ Below w.heap.size w w' := by
  have e2 : (a2 == 0) = false := beq_eq_false_iff_ne.mpr h2
  have hb0 := Blk.new w 26 #[.int .i64 x0, .int .i64 x1, .string x2, .string x3, .slice A l.length c, .bool x5, .int .i64 x6, .int .i64 x7]
  have hL0 := below_alloc (Below.refl w.heap.size w) (.cells #[.int .i64 x0, .int .i64 x1, .string x2, .string x3, .slice A l.length c, .bool x5, .int .i64 x6, .int .i64 x7] 26)
  have L1 := Aside0.mk (below_alloc hL0 (.cells #[.int .i64 x0, .int .i64 x1, .string x2, .string x3, .slice A l.length c, .bool x5, .int .i64 x6, .int .i64 x7] 26))
  have hb1 := Blk.new (w.alloc (.cells #[.int .i64 x0, .int .i64 x1, .string x2, .string x3, .slice A l.length c, .bool x5, .int .i64 x6, .int .i64 x7] 26)) 26 #[.int .i64 x0, .int .i64 x1, .string x2, .string x3, .slice A l.length c, .bool x5, .int .i64 x6, .int .i64 x7]
  rw [show (w.alloc (.cells #[.int .i64 x0, .int .i64 x1, .string x2, .string x3, .slice A l.length c, .bool x5, .int .i64 x6, .int .i64 x7] 26)).heap.size = w.heap.size + 1 by simp] at hb1
  have HU := Aside0.mk (show ∀ n : Nat, Blk ((((w.alloc (.cells #[.int .i64 x0, .int .i64 x1, .string x2, .string x3, .slice A l.length c, .bool x5, .int .i64 x6, .int .i64 x7] 26)).alloc (.cells #[.int .i64 x0, .int .i64 x1, .string x2, .string x3, .slice A l.length c, .bool x5, .int .i64 x6, .int .i64 x7] 26)).drewN n).alloc (.cells #[.int .i64 x0, .int .i64 (wrap64 (x1 + a2)), .string x2, .string x3, .slice A l.length c, .bool x5, .int .i64 x6, .int .i64 x7] 26)) (w.heap.size + 1 + 1) 26 #[.int .i64 x0, .int .i64 (wrap64 (x1 + a2)), .string x2, .string x3, .slice A l.length c, .bool x5, .int .i64 x6, .int .i64 x7] from fun n => by
    have := Blk.new (((w.alloc (.cells #[.int .i64 x0, .int .i64 x1, .string x2, .string x3, .slice A l.length c, .bool x5, .int .i64 x6, .int .i64 x7] 26)).alloc (.cells #[.int .i64 x0, .int .i64 x1, .string x2, .string x3, .slice A l.length c, .bool x5, .int .i64 x6, .int .i64 x7] 26)).drewN n) 26 #[.int .i64 x0, .int .i64 (wrap64 (x1 + a2)), .string x2, .string x3, .slice A l.length c, .bool x5, .int .i64 x6, .int .i64 x7]
    rwa [show (((w.alloc (.cells #[.int .i64 x0, .int .i64 x1, .string x2, .string x3, .slice A l.length c, .bool x5, .int .i64 x6, .int .i64 x7] 26)).alloc (.cells #[.int .i64 x0, .int .i64 x1, .string x2, .string x3, .slice A l.length c, .bool x5, .int .i64 x6, .int .i64 x7] 26)).drewN n).heap.size = w.heap.size + 1 + 1 by simp] at this)
  have HB0 := Aside0.mk hb0
  have HB1 := Aside0.mk hb1
  have HK := Aside0.mk hk
  have HL := Aside0.mk hl
  have HC := Aside0.mk hc
  have HLL := Aside0.mk hll
  have HS1 := Aside0.mk hs1
  have HS2 := Aside0.mk hs2
  clear hb0 hb1 hL0 hl hc h2 hk hs1 hs2 hll
  have N1 := Aside0.mk trivial
  go_enter Try.func3, Try.ntmps3
  go_wp2_with (first
    | (go_at_call 6; refine (size_any ⟨x0, x1, x2, x3, l, x5, ⟨x6, x7⟩⟩ true k HK.out HB1.out HC.out (Kd.C_below (HL.out) (L1.out))).mono ?_; rintro e w1 ⟨rfl, n, rfl⟩; have L2 := Aside0.mk (below_alloc (pw_below_drewN L1.out n) (.cells #[.int .i64 x0, .int .i64 (wrap64 (x1 + a2)), .string x2, .string x3, .slice A l.length c, .bool x5, .int .i64 x6, .int .i64 x7] 26)))
    | (go_at_call 8; (have gA := N1.out; clear gA); refine (same_any ⟨x0, x1, x2, x3, l, x5, ⟨x6, x7⟩⟩ ⟨x0, (wrap64 (x1 + a2)), x2, x3, l, x5, ⟨x6, x7⟩⟩ false HLL.out HC.out (Kd.C_below HL.out L2.out) HC.out (Kd.C_below HL.out L2.out) HS1.out).mono ?_; rintro e w2 ⟨rfl, hb⟩; have hT := (((HB0.out.alloc _).drewN n).alloc _).below hb (by simp; omega); have hU := (HU.out n).below hb (by simp); have L3 := Aside0.mk (below_then' L2.out hb); have t0 := hT.cell 0; have t1 := hT.cell 1; have t2 := hT.cell 2; have t3 := hT.cell 3; have t4 := hT.cell 4; have t5 := hT.cell 5; have t6 := hT.cell 6; have t7 := hT.cell 7; have u0 := hU.cell 0; have u1 := hU.cell 1; have u2 := hU.cell 2; have u3 := hU.cell 3; have u4 := hU.cell 4; have u5 := hU.cell 5; have u6 := hU.cell 6; have u7 := hU.cell 7; have BT := Aside0.mk hT; have BU := Aside0.mk hU; have N2 := Aside0.mk trivial; clear hb N1 hT hU)
    | (go_at_call 8; (have gA := N2.out; clear gA); refine (same_any ⟨x0, (wrap64 (x1 + a2)), x2, x3, l, x5, ⟨x6, x7⟩⟩ ⟨x0, x1, x2, x3, l, x5, ⟨x6, x7⟩⟩ false HLL.out HC.out (Kd.C_below HL.out L3.out) HC.out (Kd.C_below HL.out L3.out) HS2.out).mono ?_; rintro e w3 ⟨rfl, hb⟩; have hU := BU.out.below hb BU.out.lt; have L4 := Aside0.mk (below_then' L3.out hb); have u0 := hU.cell 0; have u1 := hU.cell 1; have u2 := hU.cell 2; have u3 := hU.cell 3; have u4 := hU.cell 4; have u5 := hU.cell 5; have u6 := hU.cell 6; have u7 := hU.cell 7; have N3 := Aside0.mk trivial; clear hb N2 hU)
    | (go_at_call 8; (have gA := N3.out; clear gA); refine (same_any ⟨x0, (wrap64 (x1 + a2)), x2, x3, l, x5, ⟨x6, x7⟩⟩ ⟨x0, (wrap64 (x1 + a2)), x2, x3, l, x5, ⟨x6, x7⟩⟩ true HLL.out HC.out (Kd.C_below HL.out L4.out) HC.out (Kd.C_below HL.out L4.out) (Pure.sameB_refl _)).mono ?_; rintro e w4 ⟨rfl, hb⟩; have L5 := Aside0.mk (below_then' L4.out hb); clear hb N3)
    | (go_at_call 7; (have gA := L5.out; clear gA); refine (awake_any _).mono ?_; rintro e w5 ⟨rfl, hb⟩; have L6 := Aside0.mk (below_then' L5.out hb); clear hb))
  go_ret
  exact ⟨rfl, L6.out⟩
end Go.Proofs.Ytnecnbpnfikbkaa.P
