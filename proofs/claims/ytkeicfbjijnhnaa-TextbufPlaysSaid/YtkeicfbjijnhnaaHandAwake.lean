/- textbuf: Splice's contract; awake. -/
import Derived.Test.YtkeicfbjijnhnaaHandGo
import Derived.Test.YtkeicfbjijnhnaaHandSplice
import Derived.Test.YtkeicfbjijnhnaaHandUndo
namespace Go.Proofs.Ytkeicfbjijnhnaa.P
open Go.RowKit Go.Proofs.YtkeicfbjijnhnaaW.PrintWords Go.Proofs.YtkeicfbjijnhnaaW.PrintLast Go.Proofs.YtkeicfbjijnhnaaW.PrintMore Go.Proofs.Ytkeicfbjijnhnaa.Shelf Go.Proofs.Ytkeicfbjijnhnaa.Blk
set_option linter.unusedVariables false

/-- an edit of a text -/
def spl (t : List UInt8) (a d : Nat) (s : List UInt8) : List UInt8 := t.take a ++ s ++ t.drop (a + d)
/-- the edit is in the text, and there is room -/
def may (t : List UInt8) (a d : Int) : Prop := 0 ≤ a ∧ a ≤ t.length ∧ 0 ≤ d ∧ d ≤ t.length - a
instance (t : List UInt8) (a d : Int) : Decidable (may t a d) := by unfold may; infer_instance

section
variable {w : World} {base g : Nat} {ok : Nat → Prop} {P : List (List UInt8)} {most : Int} {U : List (List (List UInt8))}
theorem splice_calls (a d : Int) (s : ByteArray) (h : BufAt w base ok g P most U) (hP : P.length ≤ P.flatten.length + 1) (hU : U.length ≤ 1000000) (hm : 0 ≤ most ∧ most ≤ 1000000) (hl : (P.flatten.length : Int) ≤ most) (hy : may P.flatten a d) (hr : (s.size : Int) ≤ most - ((P.flatten.length : Int) - d)) :
    Calls Try.prog 11 #[.pointer (some ⟨g, 0, none⟩), .agg #[.int .i64 a, .int .i64 d, .string s]] w fun e w' => e = .returned (.int .i64 0) ∧ ∃ Q : List (List UInt8), Q.flatten = spl P.flatten a.toNat d.toNat s.data.toList ∧ Q.length ≤ Q.flatten.length + 1 ∧ BufAt w' base (fun k => ok k ∨ w.heap.size ≤ k) g Q most (U ++ [P]) ∧ Below base w w' ∧ Kept w w' ok := by
  obtain ⟨y0, y1, y2, y3⟩ := hy
  have ht : tl P = P.flatten.length := rfl
  refine (splice_go a d s h (by omega) (by omega) hU y0 (by omega) y2 (by omega) (by omega) ⟨hm.1, by omega⟩).mono ?_
  rintro e w' ⟨rfl, hb, hbb, hk⟩
  have h1 := cutTo_all P 0 a (by omega) y0
  have h2 := cutTo_all P (a + d) (tl P : Int) (by omega) (by omega)
  have hf : (cutTo P 0 a P.length ++ [s.data.toList] ++ cutTo P (a + d) (tl P : Int) P.length).flatten = spl P.flatten a.toNat d.toNat s.data.toList := by
    rw [List.flatten_append, List.flatten_append, h1, h2]
    unfold spl
    have e1 : (a + d).toNat = a.toNat + d.toNat := by omega
    have e2 : P.flatten.take ((tl P : Int)).toNat = P.flatten := by rw [Int.toNat_natCast, ht]; exact List.take_length
    rw [e1, e2]
    simp
  refine ⟨rfl, _, hf, ?_, hb, hbb, hk⟩
  have s1 := cutTo_short P 0 a P.length
  have s2 := cutTo_short P (a + d) (tl P : Int) P.length
  rw [List.flatten_append, List.flatten_append]
  simp only [List.length_append, List.flatten_cons, List.flatten_nil, List.append_nil, List.length_cons, List.length_nil]
  omega
end

theorem fl1 (l : List UInt8) : ([l] : List (List UInt8)).flatten = l := by simp

set_option maxRecDepth 100000 in
set_option maxHeartbeats 600000 in
theorem awake_calls (w : World) : Calls Try.prog 9 #[] w fun e w' => e = .returned (.bool true) ∧ Below w.heap.size w w' := by
  have N1 := Aside0.mk trivial
  have N2 := Aside0.mk trivial
  have N3 := Aside0.mk trivial
  go_enter Try.func9, Try.ntmps9
  go_wp2_with (first
    | (go_at_call 8; (have gA := N1.out; clear gA); refine (new_calls ⟨#[97, 98, 99, 100]⟩ 10 _ (by decide) (by decide) (by decide)).mono ?_; rintro e w1 ⟨g, rfl, hb1, hl1⟩; have D1 := Aside0.mk hb1; have L1 := Aside0.mk hl1; clear hb1 hl1 N1)
    | (go_at_call 11; (have gA := D1.out; clear gA); refine (splice_calls 1 2 ⟨#[120, 121, 122]⟩ D1.out (by decide) (by decide) ⟨by decide, by decide⟩ (by decide) (by decide) (by decide)).mono ?_; rintro e w2 ⟨rfl, Q, hQ, hQl, hb2, hl2, hk2⟩; have D2 := Aside0.mk hb2; have L2 := Aside0.mk (below_same L1.out hl2); have HQ := Aside0.mk (hQ.trans (by decide : spl ([([97, 98, 99, 100] : List UInt8)] : List (List UInt8)).flatten (1 : Int).toNat (2 : Int).toNat [120, 121, 122] = [97, 120, 121, 122, 100])); clear D1 hb2 hl2 hk2 hQ hQl)
    | (go_at_call 10; (have gA := D2.out; clear gA); refine (text_calls D2.out (by show Q.flatten.length ≤ _; rw [HQ.out]; decide)).mono ?_; rw [HQ.out]; rintro e w3 ⟨rfl, hb3⟩; have D3 := Aside0.mk (D2.out.below hb3); have L3 := Aside0.mk (below_then L2.out L2.out.size hb3); clear D2 hb3)
    | (go_at_call 13; (have gA := D3.out; clear gA); refine (version_calls D3.out).mono ?_; rintro e w4 ⟨rfl, hw4⟩; subst hw4)
    | (go_at_call 12; (have gA := D3.out; clear gA); refine (undo_calls (U := []) D3.out (by decide) (by decide) (by decide)).mono ?_; rintro e w5 ⟨rfl, hb5, hl5, hk5⟩; have D5 := Aside0.mk hb5; have L5 := Aside0.mk (below_same L3.out hl5); clear D3 hb5 hl5 hk5)
    | (go_at_call 8; (have gA := N2.out; clear gA); refine (new_size ⟨#[97, 98, 99]⟩ 2 _ (by decide) (by decide) (by decide)).mono ?_; rintro e w6 ⟨rfl, hw6⟩; subst hw6; clear N2)
    | (go_at_call 8; (have gA := N3.out; clear gA); refine (new_arg ⟨#[]⟩ (-1) _ (by decide)).mono ?_; rintro e w7 ⟨rfl, hw7⟩; subst hw7; clear N3)
    | (go_at_call 10; (have gA := D5.out; clear gA); refine (text_calls D5.out (by decide)).mono ?_; rw [fl1]; rintro e w8 ⟨rfl, hb8⟩; have D8 := Aside0.mk (D5.out.below hb8); have L8 := Aside0.mk (below_then L5.out L5.out.size hb8); clear D5 hb8)
    | (go_at_call 13; (have gA := D8.out; clear gA); refine (version_calls D8.out).mono ?_; rintro e w9 ⟨rfl, hw9⟩; subst hw9)
    | (go_at_call 12; (have gA := D8.out; clear gA); refine (undo_none D8.out).mono ?_; rintro e w10 ⟨rfl, hw10⟩; subst hw10))
  go_ret
  exact ⟨rfl, L8.out⟩
end Go.Proofs.Ytkeicfbjijnhnaa.P
