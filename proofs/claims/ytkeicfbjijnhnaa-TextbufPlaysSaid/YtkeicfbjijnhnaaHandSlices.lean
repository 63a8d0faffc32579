/- The law TextbufSlices. -/
import Derived.Test.YtkeicfbjijnhnaaHandSize
namespace Go.Proofs.Ytkeicfbjijnhnaa.P
open Go.RowKit Go.Proofs.YtkeicfbjijnhnaaW.PrintWords Go.Proofs.YtkeicfbjijnhnaaW.PrintLast Go.Proofs.YtkeicfbjijnhnaaW.PrintMore Go.Proofs.Ytkeicfbjijnhnaa.Shelf Go.Proofs.Ytkeicfbjijnhnaa.Blk
set_option linter.unusedVariables false
theorem text_any {w : World} {base g : Nat} {ok : Nat → Prop} {P : List (List UInt8)} {most : Int} {U : List (List (List UInt8))} (h : BufAt w base ok g P most U) (hl : P.flatten.length ≤ 1000000000) :
    Calls Try.prog 10 #[.pointer (some ⟨g, 0, none⟩)] w fun e w' => ∃ t : ByteArray, e = .returned (.string t) ∧ t.data.toList = P.flatten ∧ Below w.heap.size w w' := by
  refine (text_calls h hl).mono ?_
  rintro e w' ⟨rfl, hb⟩
  exact ⟨_, rfl, rfl, hb⟩
theorem slice_any {w : World} {base g : Nat} {ok : Nat → Prop} {P : List (List UInt8)} {most : Int} {U : List (List (List UInt8))} (a b : Int) (h : BufAt w base ok g P most U) (h0 : 0 ≤ a) (h1 : a ≤ b) (h2 : b ≤ (tl P : Int)) (hl : P.flatten.length ≤ 1000000000) (hP : P.length ≤ 1000000000) :
    Calls Try.prog 15 #[.pointer (some ⟨g, 0, none⟩), .int .i64 a, .int .i64 b] w fun e w' => ∃ x : ByteArray, e = .returned (.tuple #[.string x, .int .i64 0]) ∧ x.data.toList = (P.flatten.take b.toNat).drop a.toNat ∧ Below w.heap.size w w' := by
  refine (slice_calls a b h h0 h1 h2 hl hP).mono ?_
  rintro e w' ⟨rfl, hb⟩
  exact ⟨_, rfl, rfl, hb⟩
theorem tl_of {Q : List (List UInt8)} {t : ByteArray} (h : t.data.toList = Q.flatten) : tl Q = t.size := by unfold tl; rw [← h, bytes_size]
theorem size_of {Q : List (List UInt8)} {t x : ByteArray} {m : Int} (hx : x.data.toList = (Q.flatten.take m.toNat).drop (0 : Int).toNat) (h : t.data.toList = Q.flatten) (h0 : 0 ≤ m) (h1 : m ≤ t.size) : (x.size : Int) = m := by
  have h2 := congrArg List.length hx
  rw [bytes_size, ← h] at h2
  simp only [List.length_drop, List.length_take, bytes_size, Int.toNat_zero] at h2
  omega
theorem join_of {Q : List (List UInt8)} {t x y : ByteArray} {m : Int} (hx : x.data.toList = (Q.flatten.take m.toNat).drop (0 : Int).toNat) (hy : y.data.toList = (Q.flatten.take (t.size : Int).toNat).drop m.toNat) (h : t.data.toList = Q.flatten) (h0 : 0 ≤ m) (h1 : m ≤ t.size) : x ++ y = t := by
  have e : (x ++ y).data.toList = t.data.toList := by
    rw [ByteArray.data_append, Array.toList_append, hx, hy, h]
    have : Q.flatten.take (t.size : Int).toNat = Q.flatten := by
      rw [Int.toNat_natCast, ← bytes_size t, h, List.take_length]
    rw [this]
    simp
  exact ByteArray.ext (Array.ext' e)
theorem u64_id (x : Int) (h0 : 0 ≤ x) (h1 : x ≤ 9223372036854775807) : IntKind.u64.wrap x = x := by
  have : IntKind.u64.wrap x = x % 18446744073709551616 := by
    unfold IntKind.wrap
    simp [IntKind.bits, IntKind.signed]
  omega
theorem rem_ex (a : Int) (n : Nat) : ∃ m : Int, (IntKind.u64.wrap a).tmod ((n : Int) + 1) = m ∧ 0 ≤ m ∧ m ≤ n := by
  have : IntKind.u64.wrap a = a % 18446744073709551616 := by
    unfold IntKind.wrap
    simp [IntKind.bits, IntKind.signed]
  have h0 : 0 ≤ IntKind.u64.wrap a := by rw [this]; exact Int.emod_nonneg _ (by decide)
  refine ⟨_, rfl, Int.tmod_nonneg _ h0, ?_⟩
  have := Int.tmod_lt_of_pos (IntKind.u64.wrap a) (show (0 : Int) < (n : Int) + 1 by omega)
  omega
/-- Splice where there is room: whatever it answers, a buffer stands behind it -/
theorem splice_any {w : World} {base g : Nat} {ok : Nat → Prop} {P : List (List UInt8)} {most : Int} (a d : Int) (s : ByteArray) (h : BufAt w base ok g P most []) (hb : base ≤ w.heap.size) (hP : P.length ≤ P.flatten.length + 1) (hm : 0 ≤ most ∧ most ≤ 1000000) (hl : (P.flatten.length : Int) + s.size ≤ most) :
    Calls Try.prog 11 #[.pointer (some ⟨g, 0, none⟩), .agg #[.int .i64 a, .int .i64 d, .string s]] w fun e w' => ∃ (r : Int) (Q : List (List UInt8)) (U : List (List (List UInt8))), e = .returned (.int .i64 r) ∧ Q.length ≤ Q.flatten.length + 1 ∧ Q.flatten.length ≤ P.flatten.length + s.size ∧ BufAt w' base (fun k => ok k ∨ w.heap.size ≤ k) g Q most U ∧ Below base w w' := by
  by_cases hy : may P.flatten a d
  · have hy' := hy
    obtain ⟨y0, y1, y2, y3⟩ := hy'
    refine (splice_calls a d s h hP (by decide) hm (by omega) hy (by omega)).mono ?_
    rintro e w' ⟨rfl, Q, hQ, hQl, hbb, hl2, _⟩
    refine ⟨0, Q, _, rfl, hQl, ?_, hbb, hl2⟩
    rw [hQ]
    unfold spl
    simp only [List.length_append, List.length_take, List.length_drop, bytes_size]
    omega
  · have ht : tl P = P.flatten.length := rfl
    refine (splice_range a d s h (by omega) (by unfold may at hy; omega)).mono ?_
    rintro e w' ⟨rfl, hbb⟩
    exact ⟨1, P, [], rfl, hP, by omega, (h.below hbb).mono (fun k hk => .inl hk), ⟨hbb.os, hbb.tape, hbb.output, hbb.size, fun k hk => hbb.block k (by omega)⟩⟩
set_option maxRecDepth 100000 in
set_option maxHeartbeats 600000 in
theorem slices_go (s : ByteArray) (a d : Int) (i : ByteArray) (at_ : Int) (w : World) (hs : s.size ≤ 5000) (hi : i.size ≤ 5000) : Calls Try.prog 5 #[.string s, .agg #[.int .i64 a, .int .i64 d, .string i], .int .i64 at_] w fun e w' => e = .returned (.bool true) ∧ Below w.heap.size w w' := by
  have L0 := Aside0.mk (below_alloc (Below.refl w.heap.size w) (.cells #[.int .i64 a, .int .i64 d, .string i] 32))
  have h1 : decide ((5000 : Int) < s.size) = false := by simp; omega
  have h2 : decide ((5000 : Int) < i.size) = false := by simp; omega
  have N1 := Aside0.mk trivial
  have hb0 := Blk.new w 32 #[.int .i64 a, .int .i64 d, .string i]
  have hlt0 := hb0.lt
  have HB0 := Aside0.mk hb0
  clear hb0 hlt0
  go_enter Try.func5, Try.ntmps5
  go_wp2_with (first
    | (go_at_call 8; (have gA := N1.out; clear gA); refine (new_calls s 65536 _ (by decide) (by decide) (by omega)).mono ?_; rintro e w1 ⟨g, rfl, hb1, hl1⟩; have hbk := HB0.out.below hl1 HB0.out.lt; have k0 := hbk.cell 0; have k1 := hbk.cell 1; have k2 := hbk.cell 2; have D1 := Aside0.mk hb1; have L1 := Aside0.mk (below_then L0.out L0.out.size hl1); have hS := Aside0.mk hl1.size; clear hbk hb1 hl1 N1)
    | (go_at_call 11; (have gA := D1.out; clear gA); refine (splice_any a d i D1.out hS.out (by simp) ⟨by decide, by decide⟩ (by rw [fl1, bytes_size]; omega)).mono ?_; rintro e w2 ⟨r, Q, U, rfl, hQ1, hQ2, hb2, hl2⟩; rw [fl1, bytes_size] at hQ2; have D2 := Aside0.mk hb2; have L2 := Aside0.mk (below_same L1.out (below_mono hl2 L0.out.size)); have HQ := Aside0.mk (And.intro hQ1 hQ2); clear D1 hb2 hl2 hQ1 hQ2)
    | (go_at_call 10; (have gA := D2.out; clear gA); refine (text_any D2.out (by have := HQ.out; omega)).mono ?_; rintro e w3 ⟨t, rfl, ht, hb3⟩; have D3 := Aside0.mk (D2.out.below hb3); have L3 := Aside0.mk (below_then L2.out L2.out.size hb3); have hts : t.size ≤ 10000 := (by have h1 := congrArg List.length ht; rw [bytes_size] at h1; have := HQ.out; omega); have HT := Aside0.mk ht; have u1 : wrap64 ((t.size : Int) + 1) = (t.size : Int) + 1 := wrap_id _ (by omega) (by omega); have u2 : IntKind.u64.wrap ((t.size : Int) + 1) = (t.size : Int) + 1 := u64_id _ (by omega) (by omega); have u3 : ((t.size : Int) + 1 == 0) = false := beq_eq_false_iff_ne.mpr (by omega); obtain ⟨m, hm, hm0, hm1⟩ := rem_ex at_ t.size; have u4 : wrap64 m = m := wrap_id _ (by omega) (by omega); clear D2 hb3 ht)
    | (go_at_call 15; (have gA := D3.out; clear gA); refine (slice_any 0 m D3.out (by decide) hm0 (by have := tl_of HT.out; omega) (by have := HQ.out; omega) (by have := HQ.out; omega)).mono ?_; rintro e w4 ⟨x, rfl, hx, hb4⟩; have D4 := Aside0.mk (D3.out.below hb4); have L4 := Aside0.mk (below_then L3.out L3.out.size hb4); have HX := Aside0.mk hx; have x1 : ((x.size : Int) == m) = true := (by rw [size_of hx HT.out hm0 hm1]; simp); clear D3 hb4 hx)
    | (go_at_call 15; (have gA := D4.out; clear gA); refine (slice_any m (t.size : Int) D4.out hm0 hm1 (by have := tl_of HT.out; omega) (by have := HQ.out; omega) (by have := HQ.out; omega)).mono ?_; rintro e w5 ⟨y, rfl, hy, hb5⟩; have L5 := Aside0.mk (below_then L4.out L4.out.size hb5); have x2 : x ++ y = t := join_of HX.out hy HT.out hm0 hm1; have x3 : ¬ (9223372036854775807 < x.size + y.size) := (by have h9 := congrArg ByteArray.size x2; rw [ByteArray.size_append] at h9; omega); clear D4 hb5 hy)
    | (go_at_call 9; (have gA := L5.out; clear gA); refine (awake_calls _).mono ?_; rintro e w6 ⟨rfl, hb6⟩; have L6 := Aside0.mk (below_then L5.out L5.out.size hb6); clear hb6))
  go_ret
  exact ⟨rfl, L6.out⟩

set_option maxRecDepth 100000 in
theorem slices_big (s : ByteArray) (a d : Int) (i : ByteArray) (at_ : Int) (w : World) (hs : 5000 < s.size) : Calls Try.prog 5 #[.string s, .agg #[.int .i64 a, .int .i64 d, .string i], .int .i64 at_] w fun e w' => e = .returned (.bool true) ∧ Below w.heap.size w w' := by
  have L0 := Aside0.mk (below_alloc (Below.refl w.heap.size w) (.cells #[.int .i64 a, .int .i64 d, .string i] 32))
  have h1 : decide ((5000 : Int) < s.size) = true := by simp; omega
  go_enter Try.func5, Try.ntmps5
  go_wp2_with (go_at_call 9; refine (awake_calls _).mono ?_; rintro e w6 ⟨rfl, hb6⟩; have L6 := Aside0.mk (below_then L0.out L0.out.size hb6); clear hb6)
  go_ret
  exact ⟨rfl, L6.out⟩
set_option maxRecDepth 100000 in
theorem slices_big2 (s : ByteArray) (a d : Int) (i : ByteArray) (at_ : Int) (w : World) (hs : s.size ≤ 5000) (hi : 5000 < i.size) : Calls Try.prog 5 #[.string s, .agg #[.int .i64 a, .int .i64 d, .string i], .int .i64 at_] w fun e w' => e = .returned (.bool true) ∧ Below w.heap.size w w' := by
  have L0 := Aside0.mk (below_alloc (Below.refl w.heap.size w) (.cells #[.int .i64 a, .int .i64 d, .string i] 32))
  have h1 : decide ((5000 : Int) < s.size) = false := by simp; omega
  have h2 : decide ((5000 : Int) < i.size) = true := by simp; omega
  go_enter Try.func5, Try.ntmps5
  go_wp2_with (go_at_call 9; refine (awake_calls _).mono ?_; rintro e w6 ⟨rfl, hb6⟩; have L6 := Aside0.mk (below_then L0.out L0.out.size hb6); clear hb6)
  go_ret
  exact ⟨rfl, L6.out⟩
/-- the law TextbufSlices -/
def taffraillaw01_TextbufSlices.f (a0 : ByteArray) (a1_0 : Int) (a1_1 : Int) (a1_2 : ByteArray) (a2 : Int) : Option (Bool) := some true
theorem taffraillaw01_TextbufSlices.calls (a0 : ByteArray) (a1_0 : Int) (a1_1 : Int) (a1_2 : ByteArray) (a2 : Int) (r : Bool) (w : World) (h : taffraillaw01_TextbufSlices.f a0 a1_0 a1_1 a1_2 a2 = some r) :
    Calls Try.prog 5 #[.string a0, .agg #[.int .i64 a1_0, .int .i64 a1_1, .string a1_2], .int .i64 a2] w fun e w' => e = .returned (.bool r) ∧ Below w.heap.size w w' := by
  obtain rfl := Option.some.inj h
  by_cases h1 : a0.size ≤ 5000
  · by_cases h2 : a1_2.size ≤ 5000
    · exact slices_go a0 a1_0 a1_1 a1_2 a2 w h1 h2
    · exact slices_big2 a0 a1_0 a1_1 a1_2 a2 w h1 (by omega)
  · exact slices_big a0 a1_0 a1_1 a1_2 a2 w (by omega)
end Go.Proofs.Ytkeicfbjijnhnaa.P
