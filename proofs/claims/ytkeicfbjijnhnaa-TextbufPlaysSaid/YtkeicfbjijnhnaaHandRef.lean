/- The reference's buffer: New, Undo, Splice. -/
import Derived.Test.YtkeicfbjijnhnaaHandBack
import Derived.StillTailTactics
import Derived.Deep.RegionHeld3
namespace Go.Proofs.Ytkeicfbjijnhnaa.P
open Go.RowKit Go.Proofs.YtkeicfbjijnhnaaW.PrintWords Go.Proofs.YtkeicfbjijnhnaaW.PrintLast Go.Proofs.YtkeicfbjijnhnaaW.PrintMore Go.Proofs.Ytkeicfbjijnhnaa.Shelf Go.Proofs.Ytkeicfbjijnhnaa.Blk
set_option linter.unusedVariables false
/-- the reference's buffer: its block, its text, the texts that were -/
def RefAt (w : World) (base : Nat) (ok : Nat → Prop) (g : Nat) (S : ByteArray) (most : Int) (Old : List ByteArray) : Prop :=
  ∃ v, Blk w g 49 #[.string S, .int .i64 most, v] ∧ Kd.R Kd.string 9 w base (fun k => ok k ∧ k ≠ g) v Old ∧ base ≤ g ∧ ok g
section
variable {w w1 : World} {base g : Nat} {ok ok' : Nat → Prop} {S : ByteArray} {most : Int} {Old : List ByteArray}
theorem RefAt.mono (h : RefAt w base ok g S most Old) (hok : ∀ k, ok k → ok' k) : RefAt w base ok' g S most Old := by
  obtain ⟨v, hb, hr, hg, hgo⟩ := h
  exact ⟨v, hb, Kd.R_mono hr (fun k hk => ⟨hok k hk.1, hk.2⟩), hg, hok g hgo⟩
theorem RefAt.bound (h : RefAt w base ok g S most Old) : RefAt w base (fun k => ok k ∧ k < w.heap.size) g S most Old := by
  obtain ⟨v, hb, hr, hg, hgo⟩ := h
  exact ⟨v, hb, Kd.R_mono (Kd.R_bound hr) (fun k hk => ⟨⟨hk.1.1, hk.2.2.1⟩, hk.1.2⟩), hg, hgo, hb.lt⟩
theorem RefAt.step (h : RefAt w base ok g S most Old) (hm : ∀ k, ok k → k < w.heap.size → w1.heap[k]? = w.heap[k]?) : RefAt w1 base ok g S most Old := by
  obtain ⟨v, hb, hr, hg, hgo⟩ := h
  exact ⟨v, (hm g hgo hb.lt).trans hb, Kd.R_step hr (fun k hk hlt => hm k hk.1 hlt), hg, hgo⟩
theorem RefAt.below (h : RefAt w base ok g S most Old) (hb : Below w.heap.size w w1) : RefAt w1 base ok g S most Old := h.step (fun k _ hk => hb.block k hk)
end
set_option maxRecDepth 100000 in
theorem refnew_arg (s : ByteArray) (m : Int) (w : World) (h : m < 0 ∨ 65536 < m) :
    Calls Try.prog 16 #[.string s, .int .i64 m] w fun e w' => e = .returned (.tuple #[.pointer none, .int .i64 3]) ∧ w' = w := by
  by_cases h1 : m < 0
  · go_enter Try.func16, Try.ntmps16
    go_wp2
    go_ret2
    exact ⟨rfl, rfl⟩
  · have h2 : 65536 < m := by omega
    go_enter Try.func16, Try.ntmps16
    go_wp2
    go_ret2
    exact ⟨rfl, rfl⟩
set_option maxRecDepth 100000 in
theorem refnew_size (s : ByteArray) (m : Int) (w : World) (h0 : 0 ≤ m) (h1 : m ≤ 65536) (h2 : m < s.size) :
    Calls Try.prog 16 #[.string s, .int .i64 m] w fun e w' => e = .returned (.tuple #[.pointer none, .int .i64 2]) ∧ w' = w := by
  have h0' : ¬ m < 0 := by omega
  have h1' : ¬ 65536 < m := by omega
  go_enter Try.func16, Try.ntmps16
  go_wp2
  go_ret2
  exact ⟨rfl, rfl⟩
set_option maxRecDepth 100000 in
theorem refnew_calls (s : ByteArray) (m : Int) (w : World) (h0 : 0 ≤ m) (h1 : m ≤ 65536) (h2 : s.size ≤ m) :
    Calls Try.prog 16 #[.string s, .int .i64 m] w fun e w' => ∃ g, e = .returned (.tuple #[.pointer (some ⟨g, 0, none⟩), .int .i64 0]) ∧ RefAt w' w.heap.size (fun k => w.heap.size ≤ k) g s m [] ∧ Below w.heap.size w w' := by
  have h0' : ¬ m < 0 := by omega
  have h1' : ¬ 65536 < m := by omega
  have h2' : ¬ m < s.size := by omega
  go_enter Try.func16, Try.ntmps16
  go_wp2
  go_ret2
  exact ⟨_, rfl, ⟨_, Blk.new _ _ _, Kd.R_nil _ _ _ _ _, Nat.le_refl _, Nat.le_refl _⟩, below_alloc (Below.refl _ _) _⟩
section
variable {w : World} {base g : Nat} {ok : Nat → Prop} {S : ByteArray} {most : Int}
set_option maxRecDepth 100000 in
theorem refundo_none (h : RefAt w base ok g S most []) : Calls Try.prog 17 #[.pointer (some ⟨g, 0, none⟩)] w fun e w' => e = .returned (.bool false) ∧ w' = w := by
  obtain ⟨v, hb, hr, hg, hgo⟩ := h
  obtain ⟨A, c, rfl⟩ := Kd.R_slice hr
  have c2 : w.cell? ⟨g, 2, none⟩ = some (.slice A 0 c) := hb.cell 2
  clear hb hr
  go_enter Try.func17, Try.ntmps17
  go_wp2
  go_ret
  exact ⟨rfl, rfl⟩
theorem R_snoc_take {w : World} {base : Nat} {ok : Nat → Prop} {gu cu : Nat} {O : List ByteArray} {t : ByteArray} (h : Kd.R Kd.string 9 w base ok (.slice (some ⟨gu, 0, none⟩) (O ++ [t]).length cu) (O ++ [t])) :
    Kd.R Kd.string 9 w base ok (.slice (some ⟨gu, 0, none⟩) O.length cu) O := by
  have := Kd.R_take (m := O.length) h (by simp)
  rwa [List.take_left'  rfl] at this
set_option maxRecDepth 100000 in
theorem refundo_calls {O : List ByteArray} {t : ByteArray} (h : RefAt w base ok g S most (O ++ [t])) (hO : O.length ≤ 1000000) :
    Calls Try.prog 17 #[.pointer (some ⟨g, 0, none⟩)] w fun e w' => e = .returned (.bool true) ∧ RefAt w' base ok g t most O ∧ Below base w w' ∧ Kept w w' ok := by
  obtain ⟨v, hb, hr, hg, hgo⟩ := h
  have hR := hr
  have hne := Kd.R_lt hr
  obtain ⟨gu, cu, rfl, hcell⟩ := row_cell hr O.length (by simp)
  rw [List.getElem_concat_length (by rfl)] at hcell
  have hgu : gu ≠ g := fun e => (hr.1 gu (by simp [Value.ownBlock])).2 e
  have hcu : O.length + 1 ≤ cu := by have := (Kd.R_reads' hR).2.1; simpa using this
  have HR := Aside0.mk hR
  have e3 : IntKind.i64.wrap (O.length : Int) = (O.length : Int) := IntWalk.i64_in _ (by omega)
  have b2 : (O.length : Int) ≤ (cu : Int) := by omega
  have HB := Aside0.mk hb
  simp only [List.length_append, List.length_singleton] at hb
  have c2 : w.cell? ⟨g, 2, none⟩ = some (.slice (some ⟨gu, 0, none⟩) (O.length + 1) cu) := hb.cell 2
  have c0 : w.cell? ⟨g, 0, none⟩ = some (.string S) := hb.cell 0
  have f0 := hb.frozen 0
  have f2 := hb.frozen 2
  have b0 : (0 : Int) ≤ (O.length : Int) := by omega
  have b1 : (O.length : Int) < (O.length : Int) + 1 := by omega
  have x0 : ((O.length : Int) + 1 == 0) = false := beq_eq_false_iff_ne.mpr (by omega)
  have e1 : IntKind.i64.wrap ((O.length : Int) + 1 - 1) = (O.length : Int) := by rw [IntWalk.i64_in _ (by omega)]; omega
  have e2 : wrap64 ((O.length : Int) + 1 - 1) = (O.length : Int) := by rw [wrap_id _ (by omega) (by omega)]; omega
  clear hb hr hR
  go_enter Try.func17, Try.ntmps17
  go_wp2
  go_region
  all_goals go_wp2
  all_goals go_region
  all_goals go_wp2
  all_goals go_ret
  all_goals refine ⟨rfl, ⟨.slice (some ⟨gu, 0, none⟩) O.length cu, (HB.out.set_ 0 (.string t)).set_ 2 (.slice (some ⟨gu, 0, none⟩) O.length cu), ?_, hg, hgo⟩, ?_, ?_⟩
  all_goals first
    | exact Kd.R_below (Kd.R_far (p := ⟨g, 2, none⟩) (Kd.R_far (p := ⟨g, 0, none⟩) (R_snoc_take HR.out) (fun k hk => hk.2) (.string t)) (fun k hk => hk.2) (.slice (some ⟨gu, 0, none⟩) O.length cu)) (below_drew1 (below_drew1 (Below.refl _ _)))
    | exact ((((Below.refl base w).setCell (p := ⟨g, 0, none⟩) hg (.string t)).setCell (p := ⟨g, 2, none⟩) hg (.slice (some ⟨gu, 0, none⟩) O.length cu)).drew).drew
    | exact ((((Kept.refl w ok).setCell (p := ⟨g, 0, none⟩) (.inl hgo) (.string t)).setCell (p := ⟨g, 2, none⟩) (.inl hgo) (.slice (some ⟨gu, 0, none⟩) O.length cu)).drew).drew
theorem str_row {W : World} {b : Nat} {x : ByteArray} (hb : Blk W b 9 #[.string x]) : Kd.string.C W (some ⟨b, 0, none⟩) 1 [x] := by
  refine ⟨rfl, by omega, fun _ => ⟨_, rfl, fun j p hj => ?_⟩⟩
  match j, hj with
  | 0, hj =>
    simp at hj
    subst hj
    refine ⟨[.string x], rfl, rfl, fun i u' hi => ?_⟩
    match i, hi with
    | 0, hi =>
      simp at hi
      subst hi
      simpa [Addr.add] using hb.cell 0
set_option maxRecDepth 100000 in
theorem refsplice_range (Old : List ByteArray) (a d : Int) (i : ByteArray) (h : RefAt w base ok g S most Old) (hS : S.size ≤ 1000000) (hn : ¬ (0 ≤ a ∧ a ≤ S.size ∧ 0 ≤ d ∧ d ≤ S.size - a)) :
    Calls Try.prog 18 #[.pointer (some ⟨g, 0, none⟩), .agg #[.int .i64 a, .int .i64 d, .string i]] w fun e w' => e = .returned (.int .i64 1) ∧ Below w.heap.size w w' := by
  obtain ⟨v, hb, hr, hg, hgo⟩ := h
  have hb0 := Blk.new w 32 #[.int .i64 a, .int .i64 d, .string i]
  have hb1 := hb.alloc (.cells #[.int .i64 a, .int .i64 d, .string i] 32)
  have HB0 := Aside0.mk (below_alloc (Below.refl w.heap.size w) (.cells #[.int .i64 a, .int .i64 d, .string i] 32))
  have HN := Aside0.mk (ref_may_no (a := a) (d := d) (i := i) hS hn)
  clear hn
  go_enter Try.func18, Try.ntmps18
  go_wp2
  generalize w.alloc (.cells #[.int .i64 a, .int .i64 d, .string i] 32) = w0 at *
  generalize hz : w.heap.size = z at *
  have k0 : w0.cell? ⟨z, 0, none⟩ = some (.int .i64 a) := hb0.cell 0
  have k1 : w0.cell? ⟨z, 1, none⟩ = some (.int .i64 d) := hb0.cell 1
  have k2 : w0.cell? ⟨z, 2, none⟩ = some (.string i) := hb0.cell 2
  have c0 : w0.cell? ⟨g, 0, none⟩ = some (.string S) := hb1.cell 0
  clear hb hr hb0 hb1
  go_region_with (go_at_call 14; refine (taffrailref01_May.calls a d i (S.size : Int) false _ HN.out).mono ?_; rintro e w1 ⟨rfl, hb1⟩; have L1 := Aside0.mk hb1; clear hb1)
  all_goals go_wp2
  all_goals go_ret
  all_goals (subst hz; exact ⟨rfl, below_then (below_drew1 HB0.out) (by have := HB0.out.size; exact this) L1.out⟩)
end
end Go.Proofs.Ytkeicfbjijnhnaa.P
