/- textbuf: Splice, no room; the law TextbufSlices. -/
import Derived.Test.YtkeicfbjijnhnaaHandAwake
namespace Go.Proofs.Ytkeicfbjijnhnaa.P
open Go.RowKit Go.Proofs.YtkeicfbjijnhnaaW.PrintWords Go.Proofs.YtkeicfbjijnhnaaW.PrintLast Go.Proofs.YtkeicfbjijnhnaaW.PrintMore Go.Proofs.Ytkeicfbjijnhnaa.Shelf Go.Proofs.Ytkeicfbjijnhnaa.Blk
set_option linter.unusedVariables false
section
variable {w : World} {base g : Nat} {ok : Nat → Prop} {P : List (List UInt8)} {most : Int} {U : List (List (List UInt8))}
set_option maxRecDepth 100000 in
set_option maxHeartbeats 1000000 in
theorem splice_size (a d : Int) (s : ByteArray) (h : BufAt w base ok g P most U) (hl : tl P ≤ 1000000000) (r1 : 0 ≤ a) (r2 : a ≤ (tl P : Int)) (r3 : 0 ≤ d) (r4 : d ≤ (tl P : Int) - a) (r5 : most - ((tl P : Int) - d) < s.size) (hm : 0 ≤ most ∧ most ≤ 1000000000) :
    Calls Try.prog 11 #[.pointer (some ⟨g, 0, none⟩), .agg #[.int .i64 a, .int .i64 d, .string s]] w fun e w' => e = .returned (.int .i64 2) ∧ Below w.heap.size w w' := by
  obtain ⟨A, c, vu, hb, hc, hF, hN, hg, hgo⟩ := h
  have hb0 := Blk.new w 32 #[.int .i64 a, .int .i64 d, .string s]
  have hb1 := hb.alloc (.cells #[.int .i64 a, .int .i64 d, .string s] 32)
  have HB0 := Aside0.mk (below_alloc (Below.refl w.heap.size w) (.cells #[.int .i64 a, .int .i64 d, .string s] 32))
  go_enter Try.func11, Try.ntmps11
  go_wp2
  generalize w.alloc (.cells #[.int .i64 a, .int .i64 d, .string s] 32) = w0 at *
  generalize hz : w.heap.size = z at *
  have k0 : w0.cell? ⟨z, 0, none⟩ = some (.int .i64 a) := hb0.cell 0
  have k1 : w0.cell? ⟨z, 1, none⟩ = some (.int .i64 d) := hb0.cell 1
  have k2 : w0.cell? ⟨z, 2, none⟩ = some (.string s) := hb0.cell 2
  have c1 : w0.cell? ⟨g, 1, none⟩ = some (.int .i64 most) := hb1.cell 1
  have c2 : w0.cell? ⟨g, 2, none⟩ = some (.int .i64 (tl P : Int)) := hb1.cell 2
  clear hb hF hN hb0 hb1
  have d1 : decide (a < 0) = false := by simp; omega
  have d2 : decide ((tl P : Int) < a) = false := by simp; omega
  have d3 : decide (d < 0) = false := by simp; omega
  have e1 : IntKind.i64.wrap ((tl P : Int) - a) = (tl P : Int) - a := IntWalk.i64_in _ (by omega)
  have d4 : decide ((tl P : Int) - a < d) = false := by simp; omega
  have e2 : IntKind.i64.wrap ((tl P : Int) - d) = (tl P : Int) - d := IntWalk.i64_in _ (by omega)
  have e3 : IntKind.i64.wrap (most - ((tl P : Int) - d)) = most - ((tl P : Int) - d) := IntWalk.i64_in _ (by omega)
  have d5 : decide (most - ((tl P : Int) - d) < s.size) = true := by simp; omega
  clear r1 r2 r3 r4 r5
  go_quiet (fail)
  go_wp2
  go_quiet (fail)
  go_wp2
  go_ret
  subst hz
  exact ⟨rfl, pw_below_drewN (pw_below_drewN HB0.out _) _⟩
end
end Go.Proofs.Ytkeicfbjijnhnaa.P
