/- NamesOwn -/
import Derived.Test.YtkidfbapnkegmaaHandPrefix
namespace Go.Proofs.Ytkidfbapnkegmaa.P
open Go.RowKit Go.Proofs.YtkidfbapnkegmaaW.PrintWords Go.Proofs.YtkidfbapnkegmaaW.PrintLast Go.Proofs.YtkidfbapnkegmaaW.PrintMore Go.Proofs.Ytkidfbapnkegmaa.Blk
set_option linter.unusedVariables false
set_option linter.unusedSimpArgs false
attribute [local go_sem] max2_int min2_int max_two min_two max_three min_three max_four min_four
/-- a digit, a letter or ; -/
def cnd (c : Int) : Bool := decide (48 ≤ c) && decide (c ≤ 57) || decide (97 ≤ bits BinOp.or IntKind.u8 c 32) && decide (bits BinOp.or IntKind.u8 c 32 ≤ 122) || c == 59
theorem names_ok : (refsL.all fun x => S0.get x.f0.data.toList == some x.f1 && decide (0 < x.f0.size) && decide (x.f0.size ≤ 8)) = true := by decide +kernel
theorem bytes_ok : (S0.all fun y => y.1.all fun b => cnd (b.toNat : Int)) = true := by decide +kernel
theorem own_fact (x : S28) (hx : x ∈ refsL) (c : Int) (h0 : 0 ≤ c) (h1 : c ≤ 255) (hc : cnd c = false) :
    nlng S0 (x.f0 ++ strOfNums [c]).data.toList (x.f0 ++ strOfNums [c]).size = (x.f1, x.f0.size) ∧ (x.f0 ++ strOfNums [c]).size ≤ 1000000000000000 := by
  have e := List.all_eq_true.1 names_ok x hx
  simp only [Bool.and_eq_true, beq_iff_eq, decide_eq_true_eq] at e
  obtain ⟨⟨e1, e2⟩, e3⟩ := e
  obtain ⟨d, hd⟩ : ∃ d : UInt8, (strOfNums [c]).data.toList = [d] ∧ (d.toNat : Int) = c := by
    refine ⟨UInt8.ofNat c.toNat, rfl, ?_⟩
    simp
    omega
  have hL : (x.f0 ++ strOfNums [c]).data.toList = x.f0.data.toList ++ [d] := by
    rw [ByteArray.data_append, Array.toList_append, hd.1]
  have hS : (x.f0 ++ strOfNums [c]).size = x.f0.size + 1 := by
    rw [← data_length, hL, List.length_append, data_length]
    rfl
  rw [hL, hS]
  refine ⟨?_, by omega⟩
  have hl : x.f0.data.toList.length = x.f0.size := data_length _
  have hn : S0.get (x.f0.data.toList ++ [d]) = none := by
    cases h : S0.get (x.f0.data.toList ++ [d]) with
    | none => rfl
    | some r =>
      have hm := get_mem S0 _ r h
      have h2 := List.all_eq_true.1 bytes_ok _ hm
      have h3 := List.all_eq_true.1 h2 d (by simp)
      rw [hd.2, hc] at h3
      cases h3
  have t1 : (x.f0.data.toList ++ [d]).take (x.f0.size + 1) = x.f0.data.toList ++ [d] := List.take_of_length_le (by rw [List.length_append, hl]; simp)
  rw [nlng, t1, hn]
  obtain ⟨m, hm⟩ : ∃ m, x.f0.size = m + 1 := ⟨x.f0.size - 1, by omega⟩
  have t2 : (x.f0.data.toList ++ [d]).take (m + 1) = x.f0.data.toList := by
    rw [← hm, ← hl, List.take_left']
    rfl
  simp only
  rw [hm, nlng, t2, e1]
theorem idx78 (n : Int) : ∃ J : Nat, wrap64 ((IntKind.u64.wrap n).tmod 78) = (J : Int) ∧ J < 78 := by
  have h0 : 0 ≤ IntKind.u64.wrap n := by
    have hp : (0 : Int) < 2 ^ IntKind.u64.bits := by decide
    simp only [IntKind.wrap]
    exact Int.emod_nonneg _ (by omega)
  have h1 := Int.tmod_nonneg 78 h0
  have h2 := Int.tmod_lt_of_pos (IntKind.u64.wrap n) (show (0 : Int) < 78 by decide)
  refine ⟨((IntKind.u64.wrap n).tmod 78).toNat, ?_, by omega⟩
  rw [wrap_id _ (by omega) (by omega)]
  omega
theorem one_byte (W : World) (c : Int) : (convert 32 9 (.slice (some ⟨W.heap.size, 0, none⟩) 1 1)).run Try.prog (W.alloc (.cells #[.int .u8 c] 5)) = .ok (.string (strOfNums [c])) (W.alloc (.cells #[.int .u8 c] 5)) := by
  refine Kd.C_string (e := 5) Try.underlying32 Try.underlying5 Try.underlying9 ?_
  refine ⟨rfl, by omega, fun _ => ⟨_, rfl, fun j p hj => ⟨[.int .u8 p], rfl, rfl, fun i u hu => ?_⟩⟩⟩
  match j, hj with
  | 0, hj =>
    simp at hj
    subst hj
    match i, hu with
    | 0, hu =>
      simp at hu
      subst hu
      have := (Blk.new W 5 #[.int .u8 c]).cell 0
      rw [add_plain]
      exact this
set_option maxRecDepth 100000 in
set_option maxHeartbeats 2000000 in
theorem own_walk (n c : Int) (h0 : 0 ≤ c) (h1 : c ≤ 255) (w : World) : Calls Try.prog 3 #[.int .i64 n, .int .u8 c] w fun e w' => e = .returned (.bool true) ∧ Below w.heap.size w w' := by
  obtain ⟨B, HB⟩ : ∃ B : Bool, Aside0 (B = cnd c) := ⟨_, ⟨rfl⟩⟩
  go_enter Try.func3, Try.ntmps3
  go_upto_region 3 with (first
    | (go_at_call 8; refine (refs78 _).mono ?_; rintro e w1 ⟨ad, rfl, hc1, hl1⟩; have D1 := Aside0.mk hc1; have L1 := Aside0.mk hl1; clear hc1 hl1)
    | (go_at_call 9; refine (new78 D1.out).mono ?_; rintro e w2 ⟨g, rfl, ht2, hl2⟩; have D2 := Aside0.mk ht2; have C2 := Aside0.mk (Kd.C_below D1.out hl2); have L2 := Aside0.mk (below_then' L1.out L1.out.size hl2); clear ht2 hl2 D1))
  go_cut [36] (fun v wz => v = .bool B ∧ w2 = wz)
  case first =>
    go_wp2
    all_goals (
      go_meet
      case rel =>
        refine ⟨?_, rfl⟩
        rw [HB.out]
        refine congrArg Value.bool (Bool.eq_iff_iff.2 ?_)
        simp only [cnd, Bool.or_eq_true, Bool.and_eq_true, decide_eq_true_eq, beq_iff_eq, Bool.false_eq_true, true_iff, false_iff, iff_true, iff_false] at *
        omega)
  case rest =>
    obtain ⟨rfl, rfl⟩ := hcut
    cases B with
    | true =>
      go_wp2_with (go_at_call 10; refine (awake_calls _).mono ?_; rintro e w8 ⟨rfl, hl8⟩; have L8 := Aside0.mk (below_then' L2.out L2.out.size hl8); clear hl8)
      go_ret
      exact ⟨rfl, L8.out⟩
    | false =>
      obtain ⟨J, hJ, hJ78⟩ := idx78 n
      obtain ⟨ad', e0, e1, e2⟩ := at_T28 C2.out (J : Int) (by omega) (by rw [refsL_len]; omega)
      cases e0
      simp only [Int.toNat_natCast] at e1 e2
      obtain ⟨x, hx⟩ : ∃ x, rd_T28 refsL (J : Int) = x := ⟨_, rfl⟩
      have hmem : x ∈ refsL := by
        rw [← hx]
        unfold rd_T28
        rw [Int.toNat_natCast, List.getD_eq_getElem?_getD, List.getElem?_eq_getElem (by rw [refsL_len]; exact hJ78)]
        exact List.getElem_mem _
      rw [hx] at e1 e2
      have hfact := own_fact x hmem c h0 h1 HB.out.symm
      have HF := Aside0.mk hfact
      clear hx hmem hfact
      obtain ⟨x0, x1⟩ := x
      simp only at e1 e2
      have hcat : ¬ 9223372036854775807 < x0.size + (strOfNums [c]).size := by
        have : (x0 ++ strOfNums [c]).size ≤ 1000000000000000 := HF.out.2
        rw [ByteArray.size_append] at this
        omega
      have hJ78' : (J : Int) < 78 := by omega
      have kc1 := one_byte (w2.alloc (.cells #[.string x0, .int .i64 x1] 28)) c
      rw [World.size_alloc] at kc1
      go_wp2_with (first
        | (go_at_call 11; refine (longest78 ((D2.out.alloc _).alloc _) _ HF.out.2 HF.out.1).mono ?_; rintro e w3 ⟨rfl, hl3⟩; have X1 := Aside0.mk (((Blk.new w2 28 #[.string x0, .int .i64 x1]).alloc (.cells #[.int .u8 c] 5)).below hl3 (by simp; omega)); have L3 := Aside0.mk (below_then' ((L2.out.alloc L2.out.size _).alloc (by simp; have := L2.out.size; omega) _) (by simp; have := L2.out.size; omega) hl3); clear hl3; have y0 := X1.out.cell 0; have y1 := X1.out.cell 1)
        | (go_at_call 10; refine (awake_calls _).mono ?_; rintro e w8 ⟨rfl, hl8⟩; have L8 := Aside0.mk (below_then' L3.out L3.out.size hl8); clear hl8))
      go_ret
      exact ⟨rfl, L8.out⟩
/-- the law NamesOwn -/
def taffraillaw05_NamesOwn.f (a0 a1 : Int) : Option (Bool) := if 0 ≤ a1 ∧ a1 ≤ 255 then some true else none
theorem taffraillaw05_NamesOwn.calls (a0 a1 : Int) (r : Bool) (w : World) (h : taffraillaw05_NamesOwn.f a0 a1 = some r) :
    Calls Try.prog 3 #[.int .i64 a0, .int .u8 a1] w fun e w' => e = .returned (.bool r) ∧ Below w.heap.size w w' := by
  unfold taffraillaw05_NamesOwn.f at h
  split at h
  · rename_i hb
    obtain rfl := Option.some.inj h
    exact own_walk a0 a1 hb.1 hb.2 w
  · cases h
end Go.Proofs.Ytkidfbapnkegmaa.P
