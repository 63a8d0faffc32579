/- The law TextbufRefused. -/
import Derived.Test.YtkeicfbjijnhnaaHandSlices
import Derived.Test.YtkeicfbjijnhnaaPx1
namespace Go.Proofs.Ytkeicfbjijnhnaa.P
open Go.RowKit Go.Proofs.YtkeicfbjijnhnaaW.PrintWords Go.Proofs.YtkeicfbjijnhnaaW.PrintLast Go.Proofs.YtkeicfbjijnhnaaW.PrintMore Go.Proofs.Ytkeicfbjijnhnaa.Shelf Go.Proofs.Ytkeicfbjijnhnaa.Blk
set_option linter.unusedVariables false
theorem ref_may_yes {a d : Int} {i : ByteArray} {n : Nat} (hn : n ≤ 1000000) (h : 0 ≤ a ∧ a ≤ n ∧ 0 ≤ d ∧ d ≤ n - a) : taffrailref01_May.f a d i n = some true := by
  unfold taffrailref01_May.f
  have : wrap64 ((n : Int) - a) = n - a := wrap_id _ (by omega) (by omega)
  rw [if_pos h.1, if_pos h.2.1, if_pos h.2.2.1, this, decide_eq_true h.2.2.2]
theorem ref_may_no {a d : Int} {i : ByteArray} {n : Nat} (hn : n ≤ 1000000) (h : ¬ (0 ≤ a ∧ a ≤ n ∧ 0 ≤ d ∧ d ≤ n - a)) : taffrailref01_May.f a d i n = some false := by
  unfold taffrailref01_May.f
  by_cases h1 : a ≥ 0
  · rw [if_pos h1]
    by_cases h2 : a ≤ n
    · rw [if_pos h2]
      by_cases h3 : d ≥ 0
      · have : wrap64 ((n : Int) - a) = n - a := wrap_id _ (by omega) (by omega)
        rw [if_pos h3, this, decide_eq_false (by omega)]
      · rw [if_neg h3]
    · rw [if_neg h2]
  · rw [if_neg h1]
theorem may_bytes (s : ByteArray) (a d : Int) : may s.data.toList a d ↔ (0 ≤ a ∧ a ≤ s.size ∧ 0 ≤ d ∧ d ≤ s.size - a) := by unfold may; rw [bytes_size]
theorem tl1 (s : ByteArray) : tl [s.data.toList] = s.size := by unfold tl; rw [fl1, bytes_size]
theorem text_eq {w : World} {base g : Nat} {ok : Nat → Prop} {most : Int} {U : List (List (List UInt8))} {P : List (List UInt8)} {s : ByteArray} (h : BufAt w base ok g P most U) (hP : P.flatten = s.data.toList) (hl : s.size ≤ 1000000000) :
    Calls Try.prog 10 #[.pointer (some ⟨g, 0, none⟩)] w fun e w' => e = .returned (.string s) ∧ Below w.heap.size w w' := by
  refine (text_calls h (by unfold tl; rw [hP, bytes_size]; exact hl)).mono ?_
  rintro e w' ⟨rfl, hb⟩
  rw [hP]
  exact ⟨rfl, hb⟩
set_option maxRecDepth 100000 in
set_option maxHeartbeats 600000 in
theorem refused_ok (s : ByteArray) (a d : Int) (i : ByteArray) (w : World) (hs : s.size ≤ 1000) (hi : i.size ≤ 2000) (hy : may s.data.toList a d) (hr : (i.size : Int) ≤ ((s.size : Int) + 3) - ((s.size : Int) - d)) : Calls Try.prog 4 #[.string s, .agg #[.int .i64 a, .int .i64 d, .string i]] w fun e w' => e = .returned (.bool true) ∧ Below w.heap.size w w' := by
  have L0 := Aside0.mk (below_alloc (Below.refl w.heap.size w) (.cells #[.int .i64 a, .int .i64 d, .string i] 32))
  have h1 : decide ((1000 : Int) < s.size) = false := by simp; omega
  have h2 : decide ((2000 : Int) < i.size) = false := by simp; omega
  have N1 := Aside0.mk trivial
  have hb0 := Blk.new w 32 #[.int .i64 a, .int .i64 d, .string i]
  have hlt0 := hb0.lt
  have HB0 := Aside0.mk hb0
  have HY := Aside0.mk hy
  have HR := Aside0.mk hr
  clear hb0 hlt0 hy hr
  go_enter Try.func4, Try.ntmps4
  go_wp2_with (first
    | (go_at_call 8; (have gA := N1.out; clear gA); refine (new_calls s ((s.size : Int) + 3) _ (by omega) (by omega) (by omega)).mono ?_; rintro e w1 ⟨g, rfl, hb1, hl1⟩; have hbk := HB0.out.below hl1 HB0.out.lt; have k0 := hbk.cell 0; have k1 := hbk.cell 1; have k2 := hbk.cell 2; have D1 := Aside0.mk hb1; have L1 := Aside0.mk (below_then L0.out L0.out.size hl1); have hS := Aside0.mk hl1.size; clear hbk hb1 hl1 N1)
    | (go_at_call 11; (have gA := D1.out; clear gA); refine (splice_calls (U := []) a d i D1.out (by simp) (by simp) ⟨by omega, by omega⟩ (by rw [fl1, bytes_size]; omega) (by rw [fl1]; exact HY.out) (by rw [fl1, bytes_size]; exact HR.out)).mono ?_; rintro e w2 ⟨rfl, Q, hQ, hQ1, hb2, hl2, hk2⟩; rw [fl1] at hQ; have D2 := Aside0.mk (show BufAt w2 _ _ _ Q _ [[s.data.toList]] from hb2); have L2 := Aside0.mk (below_same L1.out (below_mono hl2 L0.out.size)); have hlen : ((Q.flatten.length : Nat) : Int) = s.size + i.size - d := (by have h9 := (may_bytes s a d).1 HY.out; rw [hQ]; unfold spl; simp only [List.length_append, List.length_take, List.length_drop, bytes_size]; omega); have HQ := Aside0.mk hlen; clear D1 hb2 hl2 hk2 hQ hQ1 hlen)
    | (go_at_call 10; (have gA := D2.out; clear gA); refine (text_any D2.out (by have := HQ.out; have := HR.out; omega)).mono ?_; rintro e w3 ⟨t, rfl, ht, hb3⟩; have D3 := Aside0.mk (D2.out.below hb3); have L3 := Aside0.mk (below_then L2.out L2.out.size hb3); have hts : (t.size : Int) ≤ (s.size : Int) + 3 := (by have h1 := congrArg List.length ht; rw [bytes_size] at h1; have := HQ.out; have := HR.out; omega); have x1 : decide ((s.size : Int) + 3 < (t.size : Int)) = false := decide_eq_false (by omega); have x2 : decide ((t.size : Int) ≤ (s.size : Int) + 3) = true := decide_eq_true hts; clear D2 hb3 ht)
    | (go_at_call 13; (have gA := D3.out; clear gA); refine (version_calls D3.out).mono ?_; rintro e w4 ⟨rfl, hw4⟩; subst hw4)
    | (go_at_call 9; (have gA := D3.out; clear gA); refine (awake_calls _).mono ?_; rintro e w6 ⟨rfl, hb6⟩; have L6 := Aside0.mk (below_then L3.out L3.out.size hb6); clear hb6))
  go_ret
  exact ⟨rfl, L6.out⟩
set_option maxRecDepth 100000 in
set_option maxHeartbeats 600000 in
theorem refused_range (s : ByteArray) (a d : Int) (i : ByteArray) (w : World) (hs : s.size ≤ 1000) (hi : i.size ≤ 2000) (hy : ¬ may s.data.toList a d) : Calls Try.prog 4 #[.string s, .agg #[.int .i64 a, .int .i64 d, .string i]] w fun e w' => e = .returned (.bool true) ∧ Below w.heap.size w w' := by
  have L0 := Aside0.mk (below_alloc (Below.refl w.heap.size w) (.cells #[.int .i64 a, .int .i64 d, .string i] 32))
  have h1 : decide ((1000 : Int) < s.size) = false := by simp; omega
  have h2 : decide ((2000 : Int) < i.size) = false := by simp; omega
  have N1 := Aside0.mk trivial
  have hb0 := Blk.new w 32 #[.int .i64 a, .int .i64 d, .string i]
  have hlt0 := hb0.lt
  have HB0 := Aside0.mk hb0
  have HY := Aside0.mk hy
  clear hb0 hlt0 hy
  go_enter Try.func4, Try.ntmps4
  go_wp2_with (first
    | (go_at_call 8; (have gA := N1.out; clear gA); refine (new_calls s ((s.size : Int) + 3) _ (by omega) (by omega) (by omega)).mono ?_; rintro e w1 ⟨g, rfl, hb1, hl1⟩; have hbk := HB0.out.below hl1 HB0.out.lt; have k0 := hbk.cell 0; have k1 := hbk.cell 1; have k2 := hbk.cell 2; have HB1 := Aside0.mk hbk; have D1 := Aside0.mk hb1; have L1 := Aside0.mk (below_then L0.out L0.out.size hl1); have hS := Aside0.mk hl1.size; clear hbk hb1 hl1 N1)
    | (go_at_call 11; (have gA := D1.out; clear gA); refine (splice_range a d i D1.out (by rw [tl1]; omega) (by rw [tl1]; have := HY.out; rw [may_bytes] at this; omega)).mono ?_; rintro e w2 ⟨rfl, hb2⟩; have D2 := Aside0.mk (D1.out.below hb2); have hbk := HB1.out.below hb2 HB1.out.lt; have k0 := hbk.cell 0; have k1 := hbk.cell 1; have k2 := hbk.cell 2; have L2 := Aside0.mk (below_then L1.out L1.out.size hb2); clear D1 hb2 hbk)
    | (go_at_call 14; (have gA := D2.out; clear gA); refine (taffrailref01_May.calls a d i (s.size : Int) false _ (ref_may_no (by omega) (by have := HY.out; rw [may_bytes] at this; exact this))).mono ?_; rintro e w5 ⟨rfl, hb5⟩; have D5 := Aside0.mk (D2.out.below hb5); have L5 := Aside0.mk (below_then L2.out L2.out.size hb5); clear D2 hb5)
    | (go_at_call 10; (have gA := D5.out; clear gA); refine (text_eq D5.out (fl1 _) (by omega)).mono ?_; rintro e w3 ⟨rfl, hb3⟩; have D3 := Aside0.mk (D5.out.below hb3); have L3 := Aside0.mk (below_then L5.out L5.out.size hb3); clear D5 hb3)
    | (go_at_call 13; (have gA := D3.out; clear gA); refine (version_calls D3.out).mono ?_; rintro e w4 ⟨rfl, hw4⟩; subst hw4)
    | (go_at_call 9; (have gA := D3.out; clear gA); refine (awake_calls _).mono ?_; rintro e w6 ⟨rfl, hb6⟩; have L6 := Aside0.mk (below_then L3.out L3.out.size hb6); clear hb6))
  go_ret
  exact ⟨rfl, L6.out⟩
set_option maxRecDepth 100000 in
set_option maxHeartbeats 600000 in
theorem refused_size (s : ByteArray) (a d : Int) (i : ByteArray) (w : World) (hs : s.size ≤ 1000) (hi : i.size ≤ 2000) (hy : may s.data.toList a d) (hr : ((s.size : Int) + 3) - ((s.size : Int) - d) < (i.size : Int)) : Calls Try.prog 4 #[.string s, .agg #[.int .i64 a, .int .i64 d, .string i]] w fun e w' => e = .returned (.bool true) ∧ Below w.heap.size w w' := by
  have L0 := Aside0.mk (below_alloc (Below.refl w.heap.size w) (.cells #[.int .i64 a, .int .i64 d, .string i] 32))
  have h1 : decide ((1000 : Int) < s.size) = false := by simp; omega
  have h2 : decide ((2000 : Int) < i.size) = false := by simp; omega
  have N1 := Aside0.mk trivial
  have hb0 := Blk.new w 32 #[.int .i64 a, .int .i64 d, .string i]
  have hlt0 := hb0.lt
  have HB0 := Aside0.mk hb0
  have HY := Aside0.mk ((may_bytes s a d).1 hy)
  have HR := Aside0.mk hr
  clear hb0 hlt0 hy hr
  go_enter Try.func4, Try.ntmps4
  go_wp2_with (first
    | (go_at_call 8; (have gA := N1.out; clear gA); refine (new_calls s ((s.size : Int) + 3) _ (by omega) (by omega) (by omega)).mono ?_; rintro e w1 ⟨g, rfl, hb1, hl1⟩; have hbk := HB0.out.below hl1 HB0.out.lt; have k0 := hbk.cell 0; have k1 := hbk.cell 1; have k2 := hbk.cell 2; have HB1 := Aside0.mk hbk; have D1 := Aside0.mk hb1; have L1 := Aside0.mk (below_then L0.out L0.out.size hl1); have hS := Aside0.mk hl1.size; clear hbk hb1 hl1 N1)
    | (go_at_call 11; (have gA := D1.out; clear gA); refine (splice_size a d i D1.out (by rw [tl1]; omega) HY.out.1 (by rw [tl1]; exact HY.out.2.1) HY.out.2.2.1 (by rw [tl1]; exact HY.out.2.2.2) (by rw [tl1]; exact HR.out) ⟨by omega, by omega⟩).mono ?_; rintro e w2 ⟨rfl, hb2⟩; have D2 := Aside0.mk (D1.out.below hb2); have hbk := HB1.out.below hb2 HB1.out.lt; have k0 := hbk.cell 0; have k1 := hbk.cell 1; have k2 := hbk.cell 2; have L2 := Aside0.mk (below_then L1.out L1.out.size hb2); clear D1 hb2 hbk)
    | (go_at_call 14; (have gA := D2.out; clear gA); refine (taffrailref01_May.calls a d i (s.size : Int) true _ (ref_may_yes (by omega) HY.out)).mono ?_; rintro e w5 ⟨rfl, hb5⟩; have D5 := Aside0.mk (D2.out.below hb5); have L5 := Aside0.mk (below_then L2.out L2.out.size hb5); clear D2 hb5)
    | (go_at_call 10; (have gA := D5.out; clear gA); refine (text_eq D5.out (fl1 _) (by omega)).mono ?_; rintro e w3 ⟨rfl, hb3⟩; have D3 := Aside0.mk (D5.out.below hb3); have L3 := Aside0.mk (below_then L5.out L5.out.size hb3); clear D5 hb3)
    | (go_at_call 13; (have gA := D3.out; clear gA); refine (version_calls D3.out).mono ?_; rintro e w4 ⟨rfl, hw4⟩; subst hw4)
    | (go_at_call 9; (have gA := D3.out; clear gA); refine (awake_calls _).mono ?_; rintro e w6 ⟨rfl, hb6⟩; have L6 := Aside0.mk (below_then L3.out L3.out.size hb6); clear hb6))
  go_ret
  exact ⟨rfl, L6.out⟩
set_option maxRecDepth 100000 in
theorem refused_big (s : ByteArray) (a d : Int) (i : ByteArray) (w : World) (hs : 1000 < s.size) : Calls Try.prog 4 #[.string s, .agg #[.int .i64 a, .int .i64 d, .string i]] w fun e w' => e = .returned (.bool true) ∧ Below w.heap.size w w' := by
  have L0 := Aside0.mk (below_alloc (Below.refl w.heap.size w) (.cells #[.int .i64 a, .int .i64 d, .string i] 32))
  have h1 : decide ((1000 : Int) < s.size) = true := by simp; omega
  go_enter Try.func4, Try.ntmps4
  go_wp2_with (go_at_call 9; refine (awake_calls _).mono ?_; rintro e w6 ⟨rfl, hb6⟩; have L6 := Aside0.mk (below_then L0.out L0.out.size hb6); clear hb6)
  go_ret
  exact ⟨rfl, L6.out⟩
set_option maxRecDepth 100000 in
theorem refused_big2 (s : ByteArray) (a d : Int) (i : ByteArray) (w : World) (hs : s.size ≤ 1000) (hi : 2000 < i.size) : Calls Try.prog 4 #[.string s, .agg #[.int .i64 a, .int .i64 d, .string i]] w fun e w' => e = .returned (.bool true) ∧ Below w.heap.size w w' := by
  have L0 := Aside0.mk (below_alloc (Below.refl w.heap.size w) (.cells #[.int .i64 a, .int .i64 d, .string i] 32))
  have h1 : decide ((1000 : Int) < s.size) = false := by simp; omega
  have h2 : decide ((2000 : Int) < i.size) = true := by simp; omega
  go_enter Try.func4, Try.ntmps4
  go_wp2_with (go_at_call 9; refine (awake_calls _).mono ?_; rintro e w6 ⟨rfl, hb6⟩; have L6 := Aside0.mk (below_then L0.out L0.out.size hb6); clear hb6)
  go_ret
  exact ⟨rfl, L6.out⟩
/-- the law TextbufRefused -/
def taffraillaw01_TextbufRefused.f (a0 : ByteArray) (a1_0 : Int) (a1_1 : Int) (a1_2 : ByteArray) : Option (Bool) := some true
theorem taffraillaw01_TextbufRefused.calls (a0 : ByteArray) (a1_0 : Int) (a1_1 : Int) (a1_2 : ByteArray) (r : Bool) (w : World) (h : taffraillaw01_TextbufRefused.f a0 a1_0 a1_1 a1_2 = some r) :
    Calls Try.prog 4 #[.string a0, .agg #[.int .i64 a1_0, .int .i64 a1_1, .string a1_2]] w fun e w' => e = .returned (.bool r) ∧ Below w.heap.size w w' := by
  obtain rfl := Option.some.inj h
  by_cases h1 : a0.size ≤ 1000
  · by_cases h2 : a1_2.size ≤ 2000
    · by_cases hy : may a0.data.toList a1_0 a1_1
      · by_cases hr : (a1_2.size : Int) ≤ ((a0.size : Int) + 3) - ((a0.size : Int) - a1_1)
        · exact refused_ok a0 a1_0 a1_1 a1_2 w h1 h2 hy hr
        · exact refused_size a0 a1_0 a1_1 a1_2 w h1 h2 hy (by omega)
      · exact refused_range a0 a1_0 a1_1 a1_2 w h1 h2 hy
    · exact refused_big2 a0 a1_0 a1_1 a1_2 w h1 (by omega)
  · exact refused_big a0 a1_0 a1_1 a1_2 w (by omega)
end Go.Proofs.Ytkeicfbjijnhnaa.P
