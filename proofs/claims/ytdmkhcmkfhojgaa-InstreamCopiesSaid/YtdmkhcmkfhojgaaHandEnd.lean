/- utf8in: End, New, Copy. -/
import Derived.Test.YtdmkhcmkfhojgaaHandFeed
namespace Go.Proofs.Ytdmkhcmkfhojgaa.P
open Go.RowKit Go.Proofs.YtdmkhcmkfhojgaaW.PrintWords Go.Proofs.YtdmkhcmkfhojgaaW.PrintLast Go.Proofs.YtdmkhcmkfhojgaaW.PrintMore Go.Proofs.Ytdmkhcmkfhojgaa.Blk
set_option linter.unusedVariables false

theorem reps_one {α : Type} {R : α → List Value → Prop} {size : Nat} {x : α} {cs : List Value} (hl : cs.length = size) (h : R x cs) : Reps R size [x] cs := by
  refine ⟨by simp [hl], fun j p hj => ?_⟩
  cases j with
  | zero => simp at hj; subst hj; simpa [← hl] using h
  | succ j => simp at hj

theorem R_one36 (W : World) (base : Nat) (x : S36) (hb : base ≤ W.heap.size) :
    Kd.R k36 36 (W.alloc (.cells #[.int .i64 x.f0, .int .i64 x.f1, .int .i64 x.f2] 36)) base (fun _ => True) (.slice (some ⟨W.heap.size, 0, none⟩) 1 1) [x] :=
  ⟨fun _ _ => trivial, OwnRow.lit (size := 3) (ps := [x]) (inner := [.int .i64 x.f0, .int .i64 x.f1, .int .i64 x.f2]) W base (reps_one rfl (k36_mkM _ _ _ x)) hb (by simp)⟩
theorem R_one39 (W : World) (base : Nat) (x : S39) (hb : base ≤ W.heap.size) :
    Kd.R k39 39 (W.alloc (.cells #[.int .i64 x.f0, .int .i64 x.f1] 39)) base (fun _ => True) (.slice (some ⟨W.heap.size, 0, none⟩) 1 1) [x] :=
  ⟨fun _ _ => trivial, OwnRow.lit (size := 2) (ps := [x]) (inner := [.int .i64 x.f0, .int .i64 x.f1]) W base (reps_one rfl (k39_mkM _ _ _ x)) hb (by simp)⟩

/-- what is told at the end -/
def Dec.endC (d : Dec) : List S36 := if d.have_ = 0 then [] else [⟨65533, d.at_, wrap64 (d.at_ + d.have_)⟩]
def Dec.endF (d : Dec) : List S39 := if d.have_ = 0 then [] else [⟨1, d.at_⟩]
def Dec.ended (d : Dec) : Dec := if d.have_ = 0 then d else d.told d.have_

set_option maxRecDepth 10000 in
theorem end_calls (g : Nat) (d : Dec) (w : World) (hd : DecAt w g d) :
    Calls Try.prog 21 #[.pointer (some ⟨g, 0, none⟩)] w fun e w' => ∃ v0 v1 : Value, e = .returned (.tuple #[v0, v1]) ∧ Kd.R k36 36 w' w.heap.size (fun _ => True) v0 d.endC ∧ Kd.R k39 39 w' w.heap.size (fun _ => True) v1 d.endF ∧ DecAt w' g d.ended ∧ w.grownBy w' (some g) := by
  have hlt := Blk.lt hd
  obtain ⟨a, h, n, l, u, r⟩ := d
  obtain ⟨⟨c0, c1, c2, c3, c4, c5⟩, hf⟩ := hd.facts
  have HD := Aside0.mk hd
  clear hd
  by_cases h0 : h = 0
  · subst h0
    go_enter Try.func21, Try.ntmps21
    go_wp2
    go_ret2
    exact ⟨_, _, rfl, Kd.R_nil _ _ _ _ _, Kd.R_nil _ _ _ _ _, HD.out, World.grownBy.refl w _⟩
  · have h0b : (h == 0) = false := beq_eq_false_iff_ne.mpr h0
    have e1 : Dec.endC ⟨a, h, n, l, u, r⟩ = [⟨65533, a, wrap64 (a + h)⟩] := if_neg h0
    have e2 : Dec.endF ⟨a, h, n, l, u, r⟩ = [⟨1, a⟩] := if_neg h0
    have e3 : Dec.ended ⟨a, h, n, l, u, r⟩ = ⟨wrap64 (a + h), 0, n, l, u, r⟩ := if_neg h0
    rw [e1, e2, e3]
    clear e1 e2 e3
    go_enter Try.func21, Try.ntmps21
    go_wp2_with (go_at_call 27; refine (told_calls g _ _ _ _ _ _ _ _ _ (by (with_reducible repeat (first | apply DecAt.alloc | apply DecAt.drewN | apply DecAt.drew)); exact HD.out)).mono ?_; rintro e w1 ⟨rfl, hd1, hg1⟩; have HD1 := Aside0.mk hd1; have HG1 := Aside0.mk hg1; clear hd1 hg1)
    go_ret2
    have q1 : w.grownBy (w.alloc (Obj.cells #[Value.int IntKind.i64 1, Value.int IntKind.i64 a] 39)) (some g) := only_alloc (World.grownBy.refl w _) _
    have q2 := only_then q1 HG1.out (fun b e => .inl (by cases e; rfl))
    have hs : w.heap.size ≤ w1.heap.size := q2.size
    have r1 := R_one36 w1 w.heap.size ⟨65533, a, wrap64 (a + h)⟩ hs
    have r2 := R_one39 w w.heap.size ⟨1, a⟩ (Nat.le_refl _)
    have r3 := R_dec r2 HG1.out hlt
    have r4 := Kd.R_alloc r3 (.cells #[.int .i64 65533, .int .i64 a, .int .i64 (wrap64 (a + h))] 36)
    exact ⟨_, _, rfl, r1, r4, DecAt.alloc HD1.out _, only_alloc q2 _⟩

theorem new_calls (w : World) :
    Calls Try.prog 18 #[.int .i64 0] w fun e w' => e = .returned (.pointer (some ⟨w.heap.size, 0, none⟩)) ∧ DecAt w' w.heap.size ⟨0, 0, 0, 0, 0, 0⟩ ∧ Below w.heap.size w w' := by
  go_enter Try.func18, Try.ntmps18
  go_wp2
  go_ret
  exact ⟨rfl, Blk.new w 51 _, below_alloc (Below.refl _ _) _⟩

set_option maxRecDepth 10000 in
theorem copy_calls (g : Nat) (d : Dec) (w : World) (hd : DecAt w g d) :
    Calls Try.prog 22 #[.pointer (some ⟨g, 0, none⟩)] w fun e w' => e = .returned (.pointer (some ⟨w.heap.size, 0, none⟩)) ∧ DecAt w' w.heap.size d ∧ Below w.heap.size w w' := by
  obtain ⟨a, h, n, l, u, r⟩ := d
  obtain ⟨⟨c0, c1, c2, c3, c4, c5⟩, hf⟩ := hd.facts
  have HD := Aside0.mk hd
  clear hd
  go_enter Try.func22, Try.ntmps22
  go_wp2
  go_ret
  exact ⟨rfl, Blk.new w 51 _, below_alloc (Below.refl _ _) _⟩

theorem grown_other {w w1 : World} {g g2 : Nat} {d : Dec} (h : DecAt w g2 d) (hg : w.grownBy w1 (some g)) (hne : g2 ≠ g) : DecAt w1 g2 d := Blk.grown h hg (fun e => hne (by cases e; rfl))

end Go.Proofs.Ytdmkhcmkfhojgaa.P
