/- The program's buffer and the reference's, side by side. -/
import Derived.Test.YtkeicfbjijnhnaaHandRef2
import Derived.Test.YtkeicfbjijnhnaaHandRef3
import Derived.Lib.Strings
namespace Go.Proofs.Ytkeicfbjijnhnaa.P
open Go.RowKit Go.Proofs.YtkeicfbjijnhnaaW.PrintWords Go.Proofs.YtkeicfbjijnhnaaW.PrintLast Go.Proofs.YtkeicfbjijnhnaaW.PrintMore Go.Proofs.Ytkeicfbjijnhnaa.Shelf Go.Proofs.Ytkeicfbjijnhnaa.Blk
set_option linter.unusedVariables false
/-- both lie apart; from w on nothing old was touched -/
def Duo (w wr : World) (g g2 : Nat) (most : Int) (P : List (List UInt8)) (U : List (List (List UInt8))) (S : ByteArray) (Old : List ByteArray) : Prop :=
  ∃ okB okR : Nat → Prop, (∀ k, okB k → ¬ okR k) ∧ BufAt wr w.heap.size okB g P most U ∧ RefAt wr w.heap.size okR g2 S most Old ∧ Below w.heap.size w wr
/-- they say the same -/
def Same (most : Int) (P : List (List UInt8)) (U : List (List (List UInt8))) (S : ByteArray) (Old : List ByteArray) : Prop :=
  P.flatten = S.data.toList ∧ U.map List.flatten = Old.map (fun t => t.data.toList) ∧ P.length ≤ P.flatten.length + 1 ∧ (P.flatten.length : Int) ≤ most ∧ (∀ Q ∈ U, Q.length ≤ Q.flatten.length + 1 ∧ (Q.flatten.length : Int) ≤ most) ∧ 0 ≤ most ∧ most ≤ 65536
section
variable {w w1 w2 : World} {g g2 : Nat} {most : Int} {P : List (List UInt8)} {U : List (List (List UInt8))} {S : ByteArray} {Old : List ByteArray}
theorem Same.size (h : Same most P U S Old) : P.flatten.length = S.size := by rw [h.1, bytes_size]
theorem Same.len (h : Same most P U S Old) : U.length = Old.length := by have := congrArg List.length h.2.1; simpa using this
theorem Same.bound (h : Same most P U S Old) : (S.size : Int) ≤ 65536 := by have := h.size; have h1 := h.2.2.2.1; have h2 := h.2.2.2.2.2.2; omega
theorem Duo.below (h : Duo w w1 g g2 most P U S Old) (hb : Below w1.heap.size w1 w2) : Duo w w2 g g2 most P U S Old := by
  obtain ⟨okB, okR, hd, h1, h2, h3⟩ := h
  exact ⟨okB, okR, hd, h1.below hb, h2.below hb, below_then h3 h3.size hb⟩
theorem Duo.old (h : Duo w w1 g g2 most P U S Old) : Below w.heap.size w w1 := by
  obtain ⟨okB, okR, hd, h1, h2, h3⟩ := h
  exact h3
theorem Duo.s (h : Duo w w1 g g2 most P U S Old) : w1.cell? ⟨g2, 0, none⟩ = some (.string S) := by
  obtain ⟨okB, okR, hd, h1, ⟨v, hb, _⟩, h3⟩ := h
  exact hb.cell 0
theorem Duo.o (h : Duo w w1 g g2 most P U S Old) : ∃ A c, w1.cell? ⟨g2, 2, none⟩ = some (.slice A Old.length c) := by
  obtain ⟨okB, okR, hd, h1, ⟨v, hb, hr, _⟩, h3⟩ := h
  obtain ⟨A, c, rfl⟩ := Kd.R_slice hr
  exact ⟨A, c, hb.cell 2⟩
theorem duo_text (h : Duo w w1 g g2 most P U S Old) (hs : Same most P U S Old) :
    Calls Try.prog 10 #[.pointer (some ⟨g, 0, none⟩)] w1 fun e w' => e = .returned (.string S) ∧ Below w1.heap.size w1 w' := by
  obtain ⟨okB, okR, hd, h1, h2, h3⟩ := h
  exact text_eq h1 hs.1 (by have := hs.bound; omega)
theorem duo_len (h : Duo w w1 g g2 most P U S Old) (hs : Same most P U S Old) :
    Calls Try.prog 19 #[.pointer (some ⟨g, 0, none⟩)] w1 fun e w' => e = .returned (.int .i64 (S.size : Int)) ∧ w' = w1 := by
  obtain ⟨okB, okR, hd, h1, h2, h3⟩ := h
  have := len_calls h1
  unfold tl at this
  rwa [hs.size] at this
theorem duo_version (h : Duo w w1 g g2 most P U S Old) (hs : Same most P U S Old) :
    Calls Try.prog 13 #[.pointer (some ⟨g, 0, none⟩)] w1 fun e w' => e = .returned (.int .i64 (Old.length : Int)) ∧ w' = w1 := by
  obtain ⟨okB, okR, hd, h1, h2, h3⟩ := h
  rw [← hs.len]
  exact version_calls h1
theorem duo_slice (a b : Int) (h : Duo w w1 g g2 most P U S Old) (hs : Same most P U S Old) (h0 : 0 ≤ a) (h1 : a ≤ b) (h2 : b ≤ (S.size : Int)) :
    Calls Try.prog 15 #[.pointer (some ⟨g, 0, none⟩), .int .i64 a, .int .i64 b] w1 fun e w' => e = .returned (.tuple #[.string (S.extract a.toNat b.toNat), .int .i64 0]) ∧ Below w1.heap.size w1 w' := by
  obtain ⟨okB, okR, hd, hb, _, _⟩ := h
  have hz := hs.size
  have hz2 := hs.bound
  have hP := hs.2.2.1
  refine (slice_calls a b hb h0 h1 (by unfold tl; omega) (by unfold tl; omega) (by omega)).mono ?_
  rintro e w' ⟨rfl, hb2⟩
  refine ⟨?_, hb2⟩
  have e1 : (⟨((P.flatten.take b.toNat).drop a.toNat).toArray⟩ : ByteArray) = S.extract a.toNat b.toNat := by
    rw [hs.1]
    apply ByteArray.ext
    apply Array.ext'
    rw [Lib.extract_data, List.drop_take, show b.toNat - a.toNat = b.toNat - a.toNat from rfl]
  rw [e1]
theorem duo_slice_no (a b : Int) (h : Duo w w1 g g2 most P U S Old) (hs : Same most P U S Old) (hn : a < 0 ∨ b < a ∨ (S.size : Int) < b) :
    Calls Try.prog 15 #[.pointer (some ⟨g, 0, none⟩), .int .i64 a, .int .i64 b] w1 fun e w' => e = .returned (.tuple #[.string ⟨#[]⟩, .int .i64 1]) ∧ w' = w1 := by
  obtain ⟨okB, okR, hd, hb, _, _⟩ := h
  exact slice_range a b hb (by have := hs.size; unfold tl; omega)
/-- what an edit makes of the text, in the reference's words -/
def spB (S : ByteArray) (a d : Int) (i : ByteArray) : ByteArray := (S.extract 0 a.toNat ++ i) ++ S.extract (a + d).toNat S.size
theorem spB_list (S : ByteArray) (a d : Int) (i : ByteArray) (h0 : 0 ≤ a) (h1 : 0 ≤ d) : (spB S a d i).data.toList = spl S.data.toList a.toNat d.toNat i.data.toList := by
  have e : (a + d).toNat = a.toNat + d.toNat := by omega
  unfold spB spl
  rw [e, ByteArray.data_append, ByteArray.data_append, Array.toList_append, Array.toList_append, Lib.extract_data, Lib.extract_data, List.drop_zero, Nat.sub_zero, List.take_of_length_le (l := S.data.toList.drop (a.toNat + d.toNat))]
  rw [List.length_drop, bytes_size]
  omega
theorem duo_splice (a d : Int) (i : ByteArray) (h : Duo w w1 g g2 most P U S Old) (hs : Same most P U S Old ∨ True) (hP : P.length ≤ P.flatten.length + 1) (hl : (P.flatten.length : Int) ≤ most) (hm : 0 ≤ most ∧ most ≤ 65536) (hU : U.length ≤ 1000) (hy : may P.flatten a d) (hr : (i.size : Int) ≤ most - ((P.flatten.length : Int) - d)) :
    Calls Try.prog 11 #[.pointer (some ⟨g, 0, none⟩), .agg #[.int .i64 a, .int .i64 d, .string i]] w1 fun e w' => e = .returned (.int .i64 0) ∧ ∃ Q : List (List UInt8), Q.flatten = spl P.flatten a.toNat d.toNat i.data.toList ∧ Q.length ≤ Q.flatten.length + 1 ∧ Duo w w' g g2 most Q (U ++ [P]) S Old := by
  obtain ⟨okB, okR, hd, h1, h2, h3⟩ := h
  refine (splice_calls a d i h1 hP (by omega) ⟨hm.1, by omega⟩ hl hy hr).mono ?_
  rintro e w' ⟨rfl, Q, hQ, hQl, hb, hbl, hk⟩
  refine ⟨rfl, Q, hQ, hQl, fun k => okB k ∨ w1.heap.size ≤ k, fun k => okR k ∧ k < w1.heap.size, ?_, hb, ?_, below_same h3 hbl⟩
  · rintro k (hk1 | hk1) ⟨hk2, hk3⟩
    · exact hd k hk1 hk2
    · omega
  · exact h2.bound.step (fun k hk1 hlt => hk.2 k hlt (fun h9 => hd k h9 hk1.1))
theorem duo_splice_no (a d : Int) (i : ByteArray) (r : Int) (h : Duo w w1 g g2 most P U S Old) (hl : P.flatten.length ≤ 65536) (hm : 0 ≤ most ∧ most ≤ 65536)
    (hn : (r = 1 ∧ ¬ may P.flatten a d) ∨ (r = 2 ∧ may P.flatten a d ∧ most - ((P.flatten.length : Int) - d) < (i.size : Int))) :
    Calls Try.prog 11 #[.pointer (some ⟨g, 0, none⟩), .agg #[.int .i64 a, .int .i64 d, .string i]] w1 fun e w' => e = .returned (.int .i64 r) ∧ Duo w w' g g2 most P U S Old := by
  have h' := h
  obtain ⟨okB, okR, hd, h1, h2, h3⟩ := h
  have ht : tl P = P.flatten.length := rfl
  rcases hn with ⟨rfl, hy⟩ | ⟨rfl, ⟨y0, y1, y2, y3⟩, hr⟩
  · refine (splice_range a d i h1 (by omega) (by unfold may at hy; omega)).mono ?_
    rintro e w' ⟨rfl, hb⟩
    exact ⟨rfl, h'.below hb⟩
  · refine (splice_size a d i h1 (by omega) y0 (by omega) y2 (by omega) (by rw [ht]; exact hr) ⟨hm.1, by omega⟩).mono ?_
    rintro e w' ⟨rfl, hb⟩
    exact ⟨rfl, h'.below hb⟩
theorem duo_undo {Q : List (List UInt8)} (h : Duo w w1 g g2 most P (U ++ [Q]) S Old) (hU : U.length ≤ 1000) (hQ : Q.length ≤ 1000000) (hQ2 : Q.flatten.length ≤ 1000000) :
    Calls Try.prog 12 #[.pointer (some ⟨g, 0, none⟩)] w1 fun e w' => e = .returned (.bool true) ∧ Duo w w' g g2 most Q U S Old := by
  obtain ⟨okB, okR, hd, h1, h2, h3⟩ := h
  refine (undo_calls h1 (by omega) (by omega) (by unfold tl; omega)).mono ?_
  rintro e w' ⟨rfl, hb, hbl, hk⟩
  exact ⟨rfl, okB, okR, hd, hb, h2.step (fun k hk1 hlt => hk.2 k hlt (fun h9 => hd k h9 hk1)), below_same h3 hbl⟩
theorem duo_undo_none (h : Duo w w1 g g2 most P [] S Old) :
    Calls Try.prog 12 #[.pointer (some ⟨g, 0, none⟩)] w1 fun e w' => e = .returned (.bool false) ∧ w' = w1 := by
  obtain ⟨okB, okR, hd, h1, h2, h3⟩ := h
  exact undo_none h1
theorem duo_refundo {t : ByteArray} (h : Duo w w1 g g2 most P U S (Old ++ [t])) (hO : Old.length ≤ 1000) :
    Calls Try.prog 17 #[.pointer (some ⟨g2, 0, none⟩)] w1 fun e w' => e = .returned (.bool true) ∧ Duo w w' g g2 most P U t Old := by
  obtain ⟨okB, okR, hd, h1, h2, h3⟩ := h
  refine (refundo_calls h2 (by omega)).mono ?_
  rintro e w' ⟨rfl, hb, hbl, hk⟩
  exact ⟨rfl, okB, okR, hd, h1.step (fun k hk1 hlt => hk.2 k hlt (fun h9 => hd k hk1 h9)), hb, below_same h3 hbl⟩
theorem duo_refundo_none (h : Duo w w1 g g2 most P U S []) :
    Calls Try.prog 17 #[.pointer (some ⟨g2, 0, none⟩)] w1 fun e w' => e = .returned (.bool false) ∧ w' = w1 := by
  obtain ⟨okB, okR, hd, h1, h2, h3⟩ := h
  exact refundo_none h2
theorem duo_refsplice (a d : Int) (i : ByteArray) (h : Duo w w1 g g2 most P U S Old) (hO : Old.length ≤ 1000) (hS : S.size ≤ 65536) (hm : 0 ≤ most ∧ most ≤ 65536) (hn : 0 ≤ a ∧ a ≤ S.size ∧ 0 ≤ d ∧ d ≤ S.size - a) (hi : (i.size : Int) ≤ most - ((S.size : Int) - d)) :
    Calls Try.prog 18 #[.pointer (some ⟨g2, 0, none⟩), .agg #[.int .i64 a, .int .i64 d, .string i]] w1 fun e w' => e = .returned (.int .i64 0) ∧ Duo w w' g g2 most P U (spB S a d i) (Old ++ [S]) := by
  obtain ⟨okB, okR, hd, h1, h2, h3⟩ := h
  refine (refsplice_ok Old a d i h2 (by omega) (by omega) ⟨hm.1, by omega⟩ hn hi).mono ?_
  rintro e w' ⟨rfl, hb, hbl, hk⟩
  refine ⟨rfl, fun k => okB k ∧ k < w1.heap.size, fun k => okR k ∨ w1.heap.size ≤ k, ?_, ?_, hb, below_same h3 hbl⟩
  · rintro k ⟨hk1, hk2⟩ (hk3 | hk3)
    · exact hd k hk1 hk3
    · omega
  · exact h1.bound.step (fun k hk1 hlt => hk.2 k hlt (fun h9 => hd k hk1.1 h9))
theorem duo_refsplice_no (a d : Int) (i : ByteArray) (r : Int) (h : Duo w w1 g g2 most P U S Old) (hS : S.size ≤ 65536) (hm : 0 ≤ most ∧ most ≤ 65536) (hil : i.size ≤ 140737488351232)
    (hn : (r = 1 ∧ ¬ (0 ≤ a ∧ a ≤ S.size ∧ 0 ≤ d ∧ d ≤ S.size - a)) ∨ (r = 2 ∧ (0 ≤ a ∧ a ≤ S.size ∧ 0 ≤ d ∧ d ≤ S.size - a) ∧ most - ((S.size : Int) - d) < (i.size : Int))) :
    Calls Try.prog 18 #[.pointer (some ⟨g2, 0, none⟩), .agg #[.int .i64 a, .int .i64 d, .string i]] w1 fun e w' => e = .returned (.int .i64 r) ∧ Duo w w' g g2 most P U S Old := by
  have h' := h
  obtain ⟨okB, okR, hd, h1, h2, h3⟩ := h
  rcases hn with ⟨rfl, hy⟩ | ⟨rfl, hy, hr⟩
  · refine (refsplice_range Old a d i h2 (by omega) hy).mono ?_
    rintro e w' ⟨rfl, hb⟩
    exact ⟨rfl, h'.below hb⟩
  · refine (refsplice_size Old a d i h2 (by omega) ⟨hm.1, by omega⟩ hy hr (by omega)).mono ?_
    rintro e w' ⟨rfl, hb⟩
    exact ⟨rfl, h'.below hb⟩
end
theorem duo_new {w w1 w2 : World} {g g2 : Nat} {m : Int} {s : ByteArray} (h1 : BufAt w1 w.heap.size (fun k => w.heap.size ≤ k) g [s.data.toList] m []) (hb1 : Below w.heap.size w w1) (h2 : RefAt w2 w1.heap.size (fun k => w1.heap.size ≤ k) g2 s m []) (hb2 : Below w1.heap.size w1 w2) : Duo w w2 g g2 m [s.data.toList] [] s [] := by
  refine ⟨fun k => w.heap.size ≤ k ∧ k < w1.heap.size, fun k => w1.heap.size ≤ k, fun k hk hk2 => by omega, ?_, ?_, below_then hb1 hb1.size hb2⟩
  · exact h1.bound.below hb2
  · obtain ⟨v, hb, hr, hg, hgo⟩ := h2
    exact ⟨v, hb, Kd.R_lower hr hb1.size, Nat.le_trans hb1.size hg, hgo⟩
theorem same_new {m : Int} {s : ByteArray} (h0 : 0 ≤ m) (h1 : m ≤ 65536) (hs : (s.size : Int) ≤ m) : Same m [s.data.toList] [] s [] :=
  ⟨fl1 _, rfl, by simp, by rw [fl1, bytes_size]; exact hs, by simp, h0, h1⟩
theorem Same.push {most : Int} {P Q : List (List UInt8)} {U : List (List (List UInt8))} {S : ByteArray} {Old : List ByteArray} {a d : Int} {i : ByteArray} (h : Same most P U S Old) (hy : may P.flatten a d) (hr : (i.size : Int) ≤ most - ((P.flatten.length : Int) - d)) (hQ : Q.flatten = spl P.flatten a.toNat d.toNat i.data.toList) (hQl : Q.length ≤ Q.flatten.length + 1) : Same most Q (U ++ [P]) (spB S a d i) (Old ++ [S]) := by
  obtain ⟨h1, h2, h3, h4, h5, h6, h7⟩ := h
  obtain ⟨y0, y1, y2, y3⟩ := hy
  refine ⟨?_, ?_, hQl, ?_, ?_, h6, h7⟩
  · rw [hQ, spB_list S a d i y0 y2, h1]
  · rw [List.map_append, List.map_append, h2]; simp [h1]
  · rw [hQ]; unfold spl; simp only [List.length_append, List.length_take, List.length_drop, bytes_size]; omega
  · intro R hR
    rcases List.mem_append.1 hR with hR | hR
    · exact h5 R hR
    · rw [List.mem_singleton.1 hR]; exact ⟨h3, h4⟩
theorem Same.pop {most : Int} {P Q : List (List UInt8)} {U : List (List (List UInt8))} {S t : ByteArray} {Old : List ByteArray} (h : Same most P (U ++ [Q]) S (Old ++ [t])) : Same most Q U t Old := by
  have hl : U.length = Old.length := by have := h.len; simpa using this
  obtain ⟨h1, h2, h3, h4, h5, h6, h7⟩ := h
  rw [List.map_append, List.map_append] at h2
  obtain ⟨e1, e2⟩ := List.append_inj h2 (by simpa using hl)
  have hq := h5 Q (by simp)
  exact ⟨by simpa using e2, e1, hq.1, hq.2, fun R hR => h5 R (List.mem_append_left _ hR), h6, h7⟩
end Go.Proofs.Ytkeicfbjijnhnaa.P
