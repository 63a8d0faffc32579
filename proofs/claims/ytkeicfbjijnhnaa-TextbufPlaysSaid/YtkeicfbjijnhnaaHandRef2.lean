/- The reference's buffer: Splice, no room; Splice, done. -/
import Derived.Test.YtkeicfbjijnhnaaHandRef
namespace Go.Proofs.Ytkeicfbjijnhnaa.P
open Go.RowKit Go.Proofs.YtkeicfbjijnhnaaW.PrintWords Go.Proofs.YtkeicfbjijnhnaaW.PrintLast Go.Proofs.YtkeicfbjijnhnaaW.PrintMore Go.Proofs.Ytkeicfbjijnhnaa.Shelf Go.Proofs.Ytkeicfbjijnhnaa.Blk
set_option linter.unusedVariables false
section
variable {w : World} {base g : Nat} {ok : Nat → Prop} {S : ByteArray} {most : Int}
set_option maxRecDepth 100000 in
set_option maxHeartbeats 1000000 in
theorem refsplice_size (Old : List ByteArray) (a d : Int) (i : ByteArray) (h : RefAt w base ok g S most Old) (hS : S.size ≤ 1000000) (hm : 0 ≤ most ∧ most ≤ 1000000) (hn : 0 ≤ a ∧ a ≤ S.size ∧ 0 ≤ d ∧ d ≤ S.size - a) (hi : most - ((S.size : Int) - d) < i.size) (hil : i.size ≤ 9000000000000000000) :
    Calls Try.prog 18 #[.pointer (some ⟨g, 0, none⟩), .agg #[.int .i64 a, .int .i64 d, .string i]] w fun e w' => e = .returned (.int .i64 2) ∧ Below w.heap.size w w' := by
  obtain ⟨v, hb, hr, hg, hgo⟩ := h
  have hb0 := Blk.new w 32 #[.int .i64 a, .int .i64 d, .string i]
  have hb1 := hb.alloc (.cells #[.int .i64 a, .int .i64 d, .string i] 32)
  have HB0 := Aside0.mk (below_alloc (Below.refl w.heap.size w) (.cells #[.int .i64 a, .int .i64 d, .string i] 32))
  have HN := Aside0.mk (ref_may_yes (a := a) (d := d) (i := i) hS hn)
  have e1 : IntKind.i64.wrap ((S.size : Int) - d) = (S.size : Int) - d := IntWalk.i64_in _ (by omega)
  have e2 : IntKind.i64.wrap (most - (i.size : Int)) = most - (i.size : Int) := IntWalk.i64_in _ (by omega)
  have hcase : decide (most < (i.size : Int)) = true ∨ (decide (most < (i.size : Int)) = false ∧ decide (most - (i.size : Int) < (S.size : Int) - d) = true) := by
    by_cases h1 : most < (i.size : Int)
    · exact .inl (decide_eq_true h1)
    · exact .inr ⟨decide_eq_false h1, decide_eq_true (by omega)⟩
  clear hn hi
  rcases hcase with hc1 | ⟨hc1, hc2⟩
  all_goals
    go_enter Try.func18, Try.ntmps18
    go_wp2
    generalize w.alloc (.cells #[.int .i64 a, .int .i64 d, .string i] 32) = w0 at *
    generalize hz : w.heap.size = z at *
    have k0 : w0.cell? ⟨z, 0, none⟩ = some (.int .i64 a) := hb0.cell 0
    have k1 : w0.cell? ⟨z, 1, none⟩ = some (.int .i64 d) := hb0.cell 1
    have k2 : w0.cell? ⟨z, 2, none⟩ = some (.string i) := hb0.cell 2
    have c0 : w0.cell? ⟨g, 0, none⟩ = some (.string S) := hb1.cell 0
    have c1 : w0.cell? ⟨g, 1, none⟩ = some (.int .i64 most) := hb1.cell 1
    clear hb hr hb0 hb1
    go_region_held3 (fun w' => w'.cell? ⟨z, 0, none⟩ = some (.int .i64 a) ∧ w'.cell? ⟨z, 1, none⟩ = some (.int .i64 d) ∧ w'.cell? ⟨z, 2, none⟩ = some (.string i) ∧ w'.cell? ⟨g, 0, none⟩ = some (.string S)) (go_keep) (first | (go_at_call 14; refine (taffrailref01_May.calls a d i (S.size : Int) true _ HN.out).mono ?_; rintro e w1 ⟨rfl, hb1⟩; have L1 := Aside0.mk hb1; have k0 := pw_cell_below (w := w0.drew) hb1 k0; have k1 := pw_cell_below (w := w0.drew) hb1 k1; have k2 := pw_cell_below (w := w0.drew) hb1 k2; have c0 := pw_cell_below (w := w0.drew) hb1 c0; have c1 := pw_cell_below (w := w0.drew) hb1 c1; clear hb1))
    all_goals go_wp2
    all_goals go_quiet (fail)
    all_goals go_wp2
    all_goals go_ret
    all_goals (subst hz; exact ⟨rfl, pw_below_drewN (below_then (below_drew1 HB0.out) (by have := HB0.out.size; exact this) L1.out) _⟩)
end
end Go.Proofs.Ytkeicfbjijnhnaa.P
