/- The reference's tokenizer at a given state: its block known whole; c, byteAt, end. -/
import Derived.Test.YtdciombpffkcjaaPx0
import Derived.Test.YtdciombpffkcjaaBlk
import Derived.BigQuiet
import Derived.BigRegion
import Derived.Deep.RegionHeld3
import Derived.Deep.RegionLaw
namespace Go.Proofs.Ytdciombpffkcjaa.P
open Go.RowKit Go.Proofs.YtdciombpffkcjaaW.PrintWords Go.Proofs.YtdciombpffkcjaaW.PrintLast Go.Proofs.YtdciombpffkcjaaW.PrintMore Go.Proofs.Ytdciombpffkcjaa.Blk
set_option linter.unusedVariables false
set_option linter.unusedSimpArgs false
/-- the state at block g: characters L, place At, N bytes, the text's kind, the last start tag, the faults -/
def TAt (w0 W : World) (g : Nat) (L : List S64) (At N Tx : Int) (La : ByteArray) (F : List S66) (Dn : Bool) : Prop :=
  ∃ vL vF, Blk W g 58 #[vL, .int .i64 At, .int .i64 N, .int .i64 Tx, .string La, .bool false, vF, .bool false, .bool Dn] ∧ Kd.R k64 64 W w0.heap.size (fun _ => True) vL L ∧ Kd.R k66 66 W w0.heap.size (fun _ => True) vF F ∧ w0.heap.size ≤ g ∧ Below w0.heap.size w0 W
section
variable {w0 W W' : World} {g : Nat} {L : List S64} {At N Tx : Int} {La : ByteArray} {F : List S66} {Dn : Bool}
theorem belowTr {B : Nat} {w w1 w2 : World} (h : Below B w w1) (k : Below w1.heap.size w1 w2) (hB : B ≤ w1.heap.size) : Below B w w2 := below_then h hB k
theorem TAt.below (h : TAt w0 W g L At N Tx La F Dn) (hb : Below W.heap.size W W') : TAt w0 W' g L At N Tx La F Dn := by
  obtain ⟨vL, vF, h1, h2, h3, h4, h5⟩ := h
  exact ⟨vL, vF, h1.below hb h1.lt, Kd.R_below h2 hb, Kd.R_below h3 hb, h4, below_then h5 h5.size hb⟩
/-- the character at hand -/
def chr (L : List S64) (At : Int) : Int := if At < (L.length : Int) then (rd_T64 L At).f0 else -1
def byt (L : List S64) (At N : Int) : Int := if At < (L.length : Int) then (rd_T64 L At).f1 else N
def endB (L : List S64) (At N : Int) : Int := if At ≤ (L.length : Int) ∧ At ≠ 0 then (rd_T64 L (At - 1)).f2 else N
set_option maxRecDepth 100000 in
set_option maxHeartbeats 1000000 in
theorem tc_calls (h : TAt w0 W g L At N Tx La F Dn) (h0 : 0 ≤ At) : Calls Try.prog 32 #[.pointer (some ⟨g, 0, none⟩)] W fun e w' => e = .returned (.int .i64 (chr L At)) ∧ Below W.heap.size W w' := by
  obtain ⟨vL, vF, h1, h2, h3, h4, h5⟩ := h
  obtain ⟨A, c, rfl, hlc, hC⟩ := Kd.R_reads h2
  have c0 : W.cell? ⟨g, 0, none⟩ = some (.slice A L.length c) := h1.cell 0
  have c1 : W.cell? ⟨g, 1, none⟩ = some (.int .i64 At) := h1.cell 1
  by_cases hlt : At < (L.length : Int)
  · obtain ⟨ad, rfl, e0, e1, e2⟩ := at_T64 hC At h0 hlt
    have e : chr L At = (rd_T64 L At).f0 := if_pos hlt
    have hd : decide ((L.length : Int) ≤ At) = false := decide_eq_false (by omega)
    rw [e]
    clear h1 h2 h3 hC hlc e
    go_enter Try.func32, Try.ntmps32
    go_wp2
    go_quiet (fail)
    go_wp2
    go_quiet (fail)
    go_wp2
    go_ret
    exact ⟨rfl, by (with_reducible repeat (first | apply pw_below_drewN | apply below_drew1)); exact Below.refl _ _⟩
  · have e : chr L At = -1 := if_neg hlt
    have hd : decide ((L.length : Int) ≤ At) = true := decide_eq_true (by omega)
    have hd2 : (L.length : Int) ≤ At := by omega
    rw [e]
    clear h1 h2 h3 hC hlc e
    go_enter Try.func32, Try.ntmps32
    go_wp2
    go_quiet (fail)
    go_wp2
    go_ret
    exact ⟨rfl, by (with_reducible repeat (first | apply pw_below_drewN | apply below_drew1)); exact Below.refl _ _⟩
set_option maxRecDepth 100000 in
set_option maxHeartbeats 1000000 in
theorem tbyte_calls (h : TAt w0 W g L At N Tx La F Dn) (h0 : 0 ≤ At) : Calls Try.prog 34 #[.pointer (some ⟨g, 0, none⟩)] W fun e w' => e = .returned (.int .i64 (byt L At N)) ∧ Below W.heap.size W w' := by
  obtain ⟨vL, vF, h1, h2, h3, h4, h5⟩ := h
  obtain ⟨A, c, rfl, hlc, hC⟩ := Kd.R_reads h2
  have c0 : W.cell? ⟨g, 0, none⟩ = some (.slice A L.length c) := h1.cell 0
  have c1 : W.cell? ⟨g, 1, none⟩ = some (.int .i64 At) := h1.cell 1
  have c2 : W.cell? ⟨g, 2, none⟩ = some (.int .i64 N) := h1.cell 2
  by_cases hlt : At < (L.length : Int)
  · obtain ⟨ad, rfl, e0, e1, e2⟩ := at_T64 hC At h0 hlt
    have e : byt L At N = (rd_T64 L At).f1 := if_pos hlt
    have hd : decide ((L.length : Int) ≤ At) = false := decide_eq_false (by omega)
    rw [e]
    clear h1 h2 h3 hC hlc e
    go_enter Try.func34, Try.ntmps34
    go_wp2
    go_quiet (fail)
    go_wp2
    go_quiet (fail)
    go_wp2
    go_ret
    exact ⟨rfl, by (with_reducible repeat (first | apply pw_below_drewN | apply below_drew1)); exact Below.refl _ _⟩
  · have e : byt L At N = N := if_neg hlt
    have hd : decide ((L.length : Int) ≤ At) = true := decide_eq_true (by omega)
    have hd2 : (L.length : Int) ≤ At := by omega
    rw [e]
    clear h1 h2 h3 hC hlc e
    go_enter Try.func34, Try.ntmps34
    go_wp2
    go_quiet (fail)
    go_wp2
    go_ret
    exact ⟨rfl, by (with_reducible repeat (first | apply pw_below_drewN | apply below_drew1)); exact Below.refl _ _⟩
end
end Go.Proofs.Ytdciombpffkcjaa.P
