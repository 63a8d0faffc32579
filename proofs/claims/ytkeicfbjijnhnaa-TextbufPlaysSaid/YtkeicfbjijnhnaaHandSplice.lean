/- textbuf: Splice. -/
import Derived.Test.YtkeicfbjijnhnaaHandBuf
import Derived.IntWalk
namespace Go.Proofs.Ytkeicfbjijnhnaa.P
open Go.RowKit Go.Proofs.YtkeicfbjijnhnaaW.PrintWords Go.Proofs.YtkeicfbjijnhnaaW.PrintLast Go.Proofs.YtkeicfbjijnhnaaW.PrintMore Go.Proofs.Ytkeicfbjijnhnaa.Shelf Go.Proofs.Ytkeicfbjijnhnaa.Blk
set_option linter.unusedVariables false

theorem splice_nil (a d : Int) (s : ByteArray) (w : World) :
    Calls Try.prog 11 #[.pointer none, .agg #[.int .i64 a, .int .i64 d, .string s]] w fun e w' => e = .returned (.int .i64 3) ∧ Below w.heap.size w w' := by
  go_enter Try.func11, Try.ntmps11
  go_wp2
  go_ret
  exact ⟨rfl, below_alloc (Below.refl _ _) _⟩

theorem dec_t {p : Prop} [Decidable p] (h : p) : decide p = true := decide_eq_true h
section
variable {w : World} {base g : Nat} {ok : Nat → Prop} {P : List (List UInt8)} {most : Int} {U : List (List (List UInt8))}
set_option maxRecDepth 100000 in
set_option maxHeartbeats 1000000 in
theorem splice_r1 (a d : Int) (s : ByteArray) (h : BufAt w base ok g P most U) (hl : tl P ≤ 1000000000) (r1 : a < 0) :
    Calls Try.prog 11 #[.pointer (some ⟨g, 0, none⟩), .agg #[.int .i64 a, .int .i64 d, .string s]] w fun e w' => e = .returned (.int .i64 1) ∧ Below w.heap.size w w' := by
  obtain ⟨A, c, vu, hb, hc, hF, hN, hg, hgo⟩ := h
  have hb0 := Blk.new w 32 #[.int .i64 a, .int .i64 d, .string s]
  have hb1 := hb.alloc (.cells #[.int .i64 a, .int .i64 d, .string s] 32)
  have HB0 := Aside0.mk (below_alloc (Below.refl w.heap.size w) (.cells #[.int .i64 a, .int .i64 d, .string s] 32))
  go_enter Try.func11, Try.ntmps11
  go_wp2
  generalize w.alloc (.cells #[.int .i64 a, .int .i64 d, .string s] 32) = w0 at *
  generalize hz : w.heap.size = z at *
  have k0 : w0.cell? ⟨z, 0, none⟩ = some (.int .i64 a) := hb0.cell 0
  have k1 : w0.cell? ⟨z, 1, none⟩ = some (.int .i64 d) := hb0.cell 1
  have k2 : w0.cell? ⟨z, 2, none⟩ = some (.string s) := hb0.cell 2
  have c1 : w0.cell? ⟨g, 1, none⟩ = some (.int .i64 most) := hb1.cell 1
  have c2 : w0.cell? ⟨g, 2, none⟩ = some (.int .i64 (tl P : Int)) := hb1.cell 2
  clear hb hF hN hb0 hb1
  have d1 : decide (a < 0) = true := by simp; omega
  clear r1
  go_quiet (fail)
  go_wp2
  go_ret
  subst hz
  exact ⟨rfl, pw_below_drewN HB0.out _⟩
set_option maxRecDepth 100000 in
set_option maxHeartbeats 1000000 in
theorem splice_r2 (a d : Int) (s : ByteArray) (h : BufAt w base ok g P most U) (hl : tl P ≤ 1000000000) (r1 : 0 ≤ a) (r2 : (tl P : Int) < a) :
    Calls Try.prog 11 #[.pointer (some ⟨g, 0, none⟩), .agg #[.int .i64 a, .int .i64 d, .string s]] w fun e w' => e = .returned (.int .i64 1) ∧ Below w.heap.size w w' := by
  obtain ⟨A, c, vu, hb, hc, hF, hN, hg, hgo⟩ := h
  have hb0 := Blk.new w 32 #[.int .i64 a, .int .i64 d, .string s]
  have hb1 := hb.alloc (.cells #[.int .i64 a, .int .i64 d, .string s] 32)
  have HB0 := Aside0.mk (below_alloc (Below.refl w.heap.size w) (.cells #[.int .i64 a, .int .i64 d, .string s] 32))
  go_enter Try.func11, Try.ntmps11
  go_wp2
  generalize w.alloc (.cells #[.int .i64 a, .int .i64 d, .string s] 32) = w0 at *
  generalize hz : w.heap.size = z at *
  have k0 : w0.cell? ⟨z, 0, none⟩ = some (.int .i64 a) := hb0.cell 0
  have k1 : w0.cell? ⟨z, 1, none⟩ = some (.int .i64 d) := hb0.cell 1
  have k2 : w0.cell? ⟨z, 2, none⟩ = some (.string s) := hb0.cell 2
  have c1 : w0.cell? ⟨g, 1, none⟩ = some (.int .i64 most) := hb1.cell 1
  have c2 : w0.cell? ⟨g, 2, none⟩ = some (.int .i64 (tl P : Int)) := hb1.cell 2
  clear hb hF hN hb0 hb1
  have d1 : decide (a < 0) = false := by simp; omega
  have d2 : decide ((tl P : Int) < a) = true := by simp; omega
  clear r1 r2
  go_quiet (fail)
  go_wp2
  go_ret
  subst hz
  exact ⟨rfl, pw_below_drewN HB0.out _⟩
set_option maxRecDepth 100000 in
set_option maxHeartbeats 1000000 in
theorem splice_r3 (a d : Int) (s : ByteArray) (h : BufAt w base ok g P most U) (hl : tl P ≤ 1000000000) (r1 : 0 ≤ a) (r2 : a ≤ (tl P : Int)) (r3 : d < 0) :
    Calls Try.prog 11 #[.pointer (some ⟨g, 0, none⟩), .agg #[.int .i64 a, .int .i64 d, .string s]] w fun e w' => e = .returned (.int .i64 1) ∧ Below w.heap.size w w' := by
  obtain ⟨A, c, vu, hb, hc, hF, hN, hg, hgo⟩ := h
  have hb0 := Blk.new w 32 #[.int .i64 a, .int .i64 d, .string s]
  have hb1 := hb.alloc (.cells #[.int .i64 a, .int .i64 d, .string s] 32)
  have HB0 := Aside0.mk (below_alloc (Below.refl w.heap.size w) (.cells #[.int .i64 a, .int .i64 d, .string s] 32))
  go_enter Try.func11, Try.ntmps11
  go_wp2
  generalize w.alloc (.cells #[.int .i64 a, .int .i64 d, .string s] 32) = w0 at *
  generalize hz : w.heap.size = z at *
  have k0 : w0.cell? ⟨z, 0, none⟩ = some (.int .i64 a) := hb0.cell 0
  have k1 : w0.cell? ⟨z, 1, none⟩ = some (.int .i64 d) := hb0.cell 1
  have k2 : w0.cell? ⟨z, 2, none⟩ = some (.string s) := hb0.cell 2
  have c1 : w0.cell? ⟨g, 1, none⟩ = some (.int .i64 most) := hb1.cell 1
  have c2 : w0.cell? ⟨g, 2, none⟩ = some (.int .i64 (tl P : Int)) := hb1.cell 2
  clear hb hF hN hb0 hb1
  have d1 : decide (a < 0) = false := by simp; omega
  have d2 : decide ((tl P : Int) < a) = false := by simp; omega
  have d3 : decide (d < 0) = true := by simp; omega
  clear r1 r2 r3
  go_quiet (fail)
  go_wp2
  go_ret
  subst hz
  exact ⟨rfl, pw_below_drewN HB0.out _⟩
set_option maxRecDepth 100000 in
set_option maxHeartbeats 1000000 in
theorem splice_r4 (a d : Int) (s : ByteArray) (h : BufAt w base ok g P most U) (hl : tl P ≤ 1000000000) (r1 : 0 ≤ a) (r2 : a ≤ (tl P : Int)) (r3 : 0 ≤ d) (r4 : (tl P : Int) - a < d) :
    Calls Try.prog 11 #[.pointer (some ⟨g, 0, none⟩), .agg #[.int .i64 a, .int .i64 d, .string s]] w fun e w' => e = .returned (.int .i64 1) ∧ Below w.heap.size w w' := by
  obtain ⟨A, c, vu, hb, hc, hF, hN, hg, hgo⟩ := h
  have hb0 := Blk.new w 32 #[.int .i64 a, .int .i64 d, .string s]
  have hb1 := hb.alloc (.cells #[.int .i64 a, .int .i64 d, .string s] 32)
  have HB0 := Aside0.mk (below_alloc (Below.refl w.heap.size w) (.cells #[.int .i64 a, .int .i64 d, .string s] 32))
  go_enter Try.func11, Try.ntmps11
  go_wp2
  generalize w.alloc (.cells #[.int .i64 a, .int .i64 d, .string s] 32) = w0 at *
  generalize hz : w.heap.size = z at *
  have k0 : w0.cell? ⟨z, 0, none⟩ = some (.int .i64 a) := hb0.cell 0
  have k1 : w0.cell? ⟨z, 1, none⟩ = some (.int .i64 d) := hb0.cell 1
  have k2 : w0.cell? ⟨z, 2, none⟩ = some (.string s) := hb0.cell 2
  have c1 : w0.cell? ⟨g, 1, none⟩ = some (.int .i64 most) := hb1.cell 1
  have c2 : w0.cell? ⟨g, 2, none⟩ = some (.int .i64 (tl P : Int)) := hb1.cell 2
  clear hb hF hN hb0 hb1
  have d1 : decide (a < 0) = false := by simp; omega
  have d2 : decide ((tl P : Int) < a) = false := by simp; omega
  have d3 : decide (d < 0) = false := by simp; omega
  have e1 : IntKind.i64.wrap ((tl P : Int) - a) = (tl P : Int) - a := IntWalk.i64_in _ (by omega)
  have d4 : decide ((tl P : Int) - a < d) = true := by simp; omega
  clear r1 r2 r3 r4
  go_quiet (fail)
  go_wp2
  go_ret
  subst hz
  exact ⟨rfl, pw_below_drewN HB0.out _⟩
theorem splice_range (a d : Int) (s : ByteArray) (h : BufAt w base ok g P most U) (hl : tl P ≤ 1000000000) (hr : a < 0 ∨ (tl P : Int) < a ∨ d < 0 ∨ (tl P : Int) - a < d) :
    Calls Try.prog 11 #[.pointer (some ⟨g, 0, none⟩), .agg #[.int .i64 a, .int .i64 d, .string s]] w fun e w' => e = .returned (.int .i64 1) ∧ Below w.heap.size w w' := by
  by_cases r1 : a < 0
  · exact splice_r1 a d s h hl r1
  by_cases r2 : (tl P : Int) < a
  · exact splice_r2 a d s h hl (by omega) r2
  by_cases r3 : d < 0
  · exact splice_r3 a d s h hl (by omega) (by omega) r3
  · exact splice_r4 a d s h hl (by omega) (by omega) (by omega) (by omega)
end
end Go.Proofs.Ytkeicfbjijnhnaa.P
