/- instream: New, Feed, End, Copy. -/
import Derived.Test.YtdmkhcmkfhojgaaHandTake
namespace Go.Proofs.Ytdmkhcmkfhojgaa.P
open Go.RowKit Go.Proofs.YtdmkhcmkfhojgaaW.PrintWords Go.Proofs.YtdmkhcmkfhojgaaW.PrintLast Go.Proofs.YtdmkhcmkfhojgaaW.PrintMore Go.Proofs.Ytdmkhcmkfhojgaa.Blk
set_option linter.unusedVariables false

/-- nothing but the two blocks, and what is new, is not as it was -/
structure Two (w w' : World) (g gd : Nat) : Prop where
  os : w'.os = w.os
  tape : w'.tape = w.tape
  output : w'.output = w.output
  size : w.heap.size ≤ w'.heap.size
  block : ∀ i, i < w.heap.size → i ≠ g → i ≠ gd → w'.heap[i]? = w.heap[i]?

theorem below_same {B : Nat} {a w w1 : World} (h : Below B a w) (k : Below B w w1) : Below B a w1 :=
  ⟨k.os.trans h.os, k.tape.trans h.tape, k.output.trans h.output, Nat.le_trans h.size k.size, fun i hi => (k.block i hi).trans (h.block i hi)⟩
section
variable {w w1 w2 : World} {g gd g1 gd1 : Nat}
theorem Two.refl (w : World) (g gd : Nat) : Two w w g gd := ⟨rfl, rfl, rfl, Nat.le_refl _, fun _ _ _ _ => rfl⟩
theorem Two.trans (h : Two w w1 g gd) (k : Two w1 w2 g gd) : Two w w2 g gd :=
  ⟨k.os.trans h.os, k.tape.trans h.tape, k.output.trans h.output, Nat.le_trans h.size k.size, fun i hi h1 h2 => (k.block i (Nat.lt_of_lt_of_le hi h.size) h1 h2).trans (h.block i hi h1 h2)⟩
theorem Two.one (h : w.grownBy w1 (some g)) (gd : Nat) : Two w w1 g gd := ⟨h.os, h.tape, h.output, h.size, fun i hi h1 _ => h.block i hi (fun e => h1 (by cases e; rfl))⟩
theorem Two.other (h : w.grownBy w1 (some gd)) (g : Nat) : Two w w1 g gd := ⟨h.os, h.tape, h.output, h.size, fun i hi _ h2 => h.block i hi (fun e => h2 (by cases e; rfl))⟩
theorem Two.of_below (h : Below w.heap.size w w1) (g gd : Nat) : Two w w1 g gd := ⟨h.os, h.tape, h.output, h.size, fun i hi _ _ => h.block i hi⟩
theorem Two.below {B : Nat} (h : Two w w1 g gd) (hg : B ≤ g) (hd : B ≤ gd) (hB : B ≤ w.heap.size) : Below B w w1 := ⟨h.os, h.tape, h.output, h.size, fun i hi => h.block i (Nat.lt_of_lt_of_le hi hB) (by omega) (by omega)⟩
theorem Two.after {a : World} (hb : Below a.heap.size a w) (h : Two w w1 g gd) (hg : a.heap.size ≤ g) (hd : a.heap.size ≤ gd) : Below a.heap.size a w1 := below_same hb (h.below hg hd hb.size)
theorem Two.R {α : Type} {d : Kd α} {e : Nat} {base : Nat} {ok : Nat → Prop} {v : Value} {xs : List α} (h : d.R e w base ok v xs) (t : Two w w1 g gd) (hg : g < base) (hd : gd < base) : d.R e w1 base ok v xs :=
  Kd.R_mono (Kd.R_move (Kd.R_bound h) (fun k hk => t.block k hk.2.2.1 (by have := hk.2.1; omega) (by have := hk.2.1; omega))) (fun _ hk => hk.1)
theorem Two.blk {t : TypeId} {cs : Array Value} {i : Nat} (h : Blk w i t cs) (k : Two w w1 g gd) (h1 : i ≠ g) (h2 : i ≠ gd) : Blk w1 i t cs := (k.block i (Blk.lt h) h1 h2).trans h
end

/-- a stream and its decoder -/
def StrAt (w : World) (g gd : Nat) (d : Dec) (x : Tk) : Prop := TkAt w g (.pointer (some ⟨gd, 0, none⟩)) x ∧ DecAt w gd d
theorem StrAt.ne {w : World} {g gd : Nat} {d : Dec} {x : Tk} (h : StrAt w g gd d x) : g ≠ gd := blk_ne h.1 h.2 (by decide)
theorem StrAt.lt {w : World} {g gd : Nat} {d : Dec} {x : Tk} (h : StrAt w g gd d x) : g < w.heap.size ∧ gd < w.heap.size := ⟨Blk.lt h.1, Blk.lt h.2⟩
theorem StrAt.two {w w1 : World} {g gd g1 gd1 : Nat} {d : Dec} {x : Tk} (h : StrAt w g gd d x) (k : Two w w1 g1 gd1) (h1 : g ≠ g1) (h2 : g ≠ gd1) (h3 : gd ≠ g1) (h4 : gd ≠ gd1) : StrAt w1 g gd d x := ⟨Two.blk h.1 k h1 h2, Two.blk h.2 k h3 h4⟩
theorem StrAt.below {w w1 : World} {g gd : Nat} {d : Dec} {x : Tk} (h : StrAt w g gd d x) (k : Below w.heap.size w w1) : StrAt w1 g gd d x := ⟨Blk.below h.1 k (Blk.lt h.1), Blk.below h.2 k (Blk.lt h.2)⟩

/-- what Feed tells, and what the stream is then -/
def fedS (d : Dec) (x : Tk) (t : ByteArray) : TS := TS.upto (St.upto t ⟨d, [], []⟩ t.size).cs ⟨x.waits, x.cr, [], [], (St.upto t ⟨d, [], []⟩ t.size).fs⟩ (St.upto t ⟨d, [], []⟩ t.size).cs.length
def fedD (d : Dec) (t : ByteArray) : Dec := (St.upto t ⟨d, [], []⟩ t.size).d
def TS.tk (s : TS) : Tk := ⟨s.waits, s.cr⟩
def endS (d : Dec) (x : Tk) : TS := TS.upto d.endC ⟨x.waits, x.cr, [], [], d.endF⟩ d.endC.length
def endOut (d : Dec) (x : Tk) : List S36 := (endS d x).out ++ (if (endS d x).waits = true then [(endS d x).cr] else [])
def endTk (d : Dec) (x : Tk) : Tk := ⟨false, (endS d x).cr⟩

set_option maxRecDepth 10000 in
theorem feedS_calls (g gd : Nat) (d : Dec) (x : Tk) (t : ByteArray) (w : World) (hs : StrAt w g gd d x) (ht : t.size ≤ 1000000000) :
    Calls Try.prog 13 #[.pointer (some ⟨g, 0, none⟩), .string t] w fun e w' => ∃ v0 v1 : Value, e = .returned (.tuple #[v0, v1]) ∧ Kd.R k36 36 w' w.heap.size (fun _ => True) v0 (fedS d x t).out ∧ Kd.R k39 39 w' w.heap.size (fun _ => True) v1 (fedS d x t).f ∧ StrAt w' g gd (fedD d t) (fedS d x t).tk ∧ Two w w' g gd := by
  have hne := hs.ne
  have hlt := hs.lt
  have c0 : w.cell? ⟨g, 0, none⟩ = some (.pointer (some ⟨gd, 0, none⟩)) := (Blk.cell hs.1 0).trans rfl
  have HX := Aside0.mk hs.1
  have HD := Aside0.mk hs.2
  have hlen := upto_len t ⟨d, [], []⟩ t.size
  simp only [List.length_nil, Nat.zero_add] at hlen
  clear hs
  unfold fedS fedD
  generalize hu : St.upto t ⟨d, [], []⟩ t.size = u at *
  have HU := Aside0.mk hu
  clear hu
  go_enter Try.func13, Try.ntmps13
  go_wp2_with (first
    | (go_at_call 20; refine (feed_calls gd d t _ HD.out ht).mono ?_; rintro e w2 ⟨v2, u2, rfl, hc2, hf2, hd2, hg2⟩; rw [HU.out] at hc2 hf2 hd2; have HC2 := Aside0.mk hc2; have HF2 := Aside0.mk hf2; have HD2 := Aside0.mk hd2; have HG2 := Aside0.mk hg2; have HX2 := Aside0.mk (Blk.grown HX.out hg2 (fun e => hne (by cases e; rfl))); clear hc2 hf2 hd2 hg2)
    | (go_at_call 19; refine (take_calls g _ x v2 u2 u.cs u.fs w.heap.size _ HX2.out HC2.out HF2.out hlt.1 (by omega) (by omega)).mono ?_; rintro e w3 ⟨v3, u3, rfl, hc3, hf3, hx3, hg3⟩; have HC3 := Aside0.mk hc3; have HF3 := Aside0.mk hf3; have HX3 := Aside0.mk hx3; have HG3 := Aside0.mk hg3; clear hc3 hf3 hx3 hg3))
  go_ret2
  exact ⟨_, _, rfl, Kd.R_lower HC3.out HG2.out.size, Kd.R_lower HF3.out HG2.out.size, ⟨HX3.out, Blk.grown HD2.out HG3.out (fun e => hne (by cases e; rfl))⟩, (Two.other HG2.out g).trans (Two.one HG3.out gd)⟩

theorem endS_len (d : Dec) (x : Tk) : (endS d x).out.length ≤ 2 ∧ (endS d x).f.length ≤ 1 := by
  have hC : d.endC.length ≤ 1 := by unfold Dec.endC; split <;> simp
  have hF : d.endF.length ≤ 1 := by unfold Dec.endF; split <;> simp
  have := ts_len d.endC ⟨x.waits, x.cr, [], [], d.endF⟩ d.endC.length
  simp only [List.length_nil, Nat.zero_add] at this
  unfold endS
  omega

set_option maxRecDepth 10000 in
theorem endS_calls (g gd : Nat) (d : Dec) (x : Tk) (w : World) (hs : StrAt w g gd d x) :
    Calls Try.prog 14 #[.pointer (some ⟨g, 0, none⟩)] w fun e w' => ∃ v0 v1 : Value, e = .returned (.tuple #[v0, v1]) ∧ Kd.R k36 36 w' w.heap.size (fun _ => True) v0 (endOut d x) ∧ Kd.R k39 39 w' w.heap.size (fun _ => True) v1 (endS d x).f ∧ StrAt w' g gd d.ended (endTk d x) ∧ Two w w' g gd := by
  have hne := hs.ne
  have hlt := hs.lt
  have c0 : w.cell? ⟨g, 0, none⟩ = some (.pointer (some ⟨gd, 0, none⟩)) := (Blk.cell hs.1 0).trans rfl
  have HX := Aside0.mk hs.1
  have HD := Aside0.mk hs.2
  have hC : d.endC.length ≤ 1 := by unfold Dec.endC; split <;> simp
  have hF : d.endF.length ≤ 1 := by unfold Dec.endF; split <;> simp
  have hlen := endS_len d x
  clear hs
  unfold endOut endTk
  generalize hu : endS d x = u at *
  have HU := Aside0.mk hu
  clear hu
  obtain ⟨uw, ⟨r0, r1, r2⟩, uo, uf, ud⟩ := u
  simp only at hlen
  cases uw with
  | true =>
    rw [if_pos rfl]
    go_enter Try.func14, Try.ntmps14
    go_wp2_with (first
      | (go_at_call 21; refine (end_calls gd d _ HD.out).mono ?_; rintro e w2 ⟨v2, u2, rfl, hc2, hf2, hd2, hg2⟩; have HC2 := Aside0.mk hc2; have HF2 := Aside0.mk hf2; have HD2 := Aside0.mk hd2; have HG2 := Aside0.mk hg2; have HX2 := Aside0.mk (Blk.grown HX.out hg2 (fun e => hne (by cases e; rfl))); clear hc2 hf2 hd2 hg2)
      | (go_at_call 19; refine (take_calls g _ x v2 u2 d.endC d.endF w.heap.size _ HX2.out HC2.out HF2.out hlt.1 (by omega) (by omega)).mono ?_; rintro e w3 ⟨v3, u3, rfl, hc3, hf3, hx3, hg3⟩; rw [show TS.upto d.endC ⟨x.waits, x.cr, [], [], d.endF⟩ d.endC.length = _ from HU.out] at hc3 hf3 hx3; have HC3 := Aside0.mk (Kd.R_lower hc3 HG2.out.size); have HF3 := Aside0.mk (Kd.R_lower hf3 HG2.out.size); have HX3 := Aside0.mk hx3; have q1 := (show w3.cell? ⟨g, 1, none⟩ = some (.bool true) from (Blk.cell hx3 1).trans rfl); have q2 := (show w3.cell? ⟨g, 2, none⟩ = some (.int .i64 r0) from (Blk.cell hx3 2).trans rfl); have q3 := (show w3.cell? ⟨g, 3, none⟩ = some (.int .i64 r1) from (Blk.cell hx3 3).trans rfl); have q4 := (show w3.cell? ⟨g, 4, none⟩ = some (.int .i64 r2) from (Blk.cell hx3 4).trans rfl); have HG3 := Aside0.mk hg3; have HT3 := Aside0.mk ((Two.other HG2.out g).trans (Two.one hg3 gd)); have HD3 := Aside0.mk (Blk.grown HD2.out hg3 (fun e => hne (by cases e; rfl))); clear hc3 hf3 hx3 hg3)
      | ((with_reducible refine gate_builtin (b := .append) (xs := #[.tmp 24, .tmp 29]) rfl ?_); at_builtin; refine Kd.R_append k36 (w0 := w3) w.heap.size rfl (.tmp 24) (.tmp 29) 23 36 (.agg #[(.int .i64 0), (.int .i64 0), (.int .i64 0)]) 24 rfl Try.underlying23 info36 rfl (by decide) (by omega) v3 uo (⟨r0, r1, r2⟩ : S36) [.int .i64 r0, .int .i64 r1, .int .i64 r2] (fun _ => True) (fun _ => False) rfl rfl ?aP (fun _ hk => hk.elim) ?aF ?aO ?aB ?aS ?aL ?_; (case aP => exact k36_mkM _ _ _ (⟨r0, r1, r2⟩ : S36)); (case aF => exact (fun _ _ => trivial)); (case aO => exact HC3.out); (case aB => exact (Below.refl _ _)); (case aS => exact HT3.out.size); (case aL => omega); intro v4 w4 ho1 hb1 hg1 hat; have HX4 := Aside0.mk (Blk.grown HX3.out hg1 (Kd.R_ne HC3.out HX3.out (by decide))); have HD4 := Aside0.mk (Blk.grown HD3.out hg1 (Kd.R_ne HC3.out HD3.out (by decide))); have HF4 := Aside0.mk (Kd.R_over' HF3.out (Kd.R_typed HC3.out) (by decide) hg1); have HC4 := Aside0.mk ho1; have z0 := Blk.frozen HX4.out 1; have z1 := (show w4.cell? ⟨g, 1, none⟩ = some (.bool true) from (Blk.cell HX4.out 1).trans rfl); have HB4 := Aside0.mk hb1; clear ho1 hb1 hg1 hat))
    go_ret2
    have p1 : TkAt (w4.setCell ⟨g, 1, none⟩ (.bool false)) g (.pointer (some ⟨gd, 0, none⟩)) ⟨false, ⟨r0, r1, r2⟩⟩ := by
      have := Blk.set_ HX4.out 1 (.bool false)
      simpa [TkAt, Tk.cells] using this
    have t4 : Two w w4 g gd := ⟨HB4.out.os.trans HT3.out.os, HB4.out.tape.trans HT3.out.tape, HB4.out.output.trans HT3.out.output, Nat.le_trans HT3.out.size HB4.out.size, fun i hi h1 h2 => (HB4.out.block i hi).trans (HT3.out.block i hi h1 h2)⟩
    have t5 : Two w4 (w4.setCell ⟨g, 1, none⟩ (.bool false)) g gd := Two.one (only_setCell (World.grownBy.refl w4 _) (.inl rfl) _) gd
    exact ⟨_, _, rfl, Kd.R_set HC4.out HX4.out (by decide) 1 _, Kd.R_set HF4.out HX4.out (by decide) 1 _, ⟨p1, Blk.far HD4.out (p := ⟨g, 1, none⟩) hne.symm _⟩, t4.trans t5⟩
  | false =>
    rw [if_neg (by simp), List.append_nil]
    go_enter Try.func14, Try.ntmps14
    go_wp2_with (first
      | (go_at_call 21; refine (end_calls gd d _ HD.out).mono ?_; rintro e w2 ⟨v2, u2, rfl, hc2, hf2, hd2, hg2⟩; have HC2 := Aside0.mk hc2; have HF2 := Aside0.mk hf2; have HD2 := Aside0.mk hd2; have HG2 := Aside0.mk hg2; have HX2 := Aside0.mk (Blk.grown HX.out hg2 (fun e => hne (by cases e; rfl))); clear hc2 hf2 hd2 hg2)
      | (go_at_call 19; refine (take_calls g _ x v2 u2 d.endC d.endF w.heap.size _ HX2.out HC2.out HF2.out hlt.1 (by omega) (by omega)).mono ?_; rintro e w3 ⟨v3, u3, rfl, hc3, hf3, hx3, hg3⟩; rw [show TS.upto d.endC ⟨x.waits, x.cr, [], [], d.endF⟩ d.endC.length = _ from HU.out] at hc3 hf3 hx3; have HC3 := Aside0.mk (Kd.R_lower hc3 HG2.out.size); have HF3 := Aside0.mk (Kd.R_lower hf3 HG2.out.size); have HX3 := Aside0.mk hx3; have q1 := (show w3.cell? ⟨g, 1, none⟩ = some (.bool false) from (Blk.cell hx3 1).trans rfl); have HG3 := Aside0.mk hg3; have HT3 := Aside0.mk ((Two.other HG2.out g).trans (Two.one hg3 gd)); have HD3 := Aside0.mk (Blk.grown HD2.out hg3 (fun e => hne (by cases e; rfl))); clear hc3 hf3 hx3 hg3))
    go_ret2
    exact ⟨_, _, rfl, HC3.out, HF3.out, ⟨HX3.out, HD3.out⟩, HT3.out⟩

theorem newS_calls (w : World) :
    Calls Try.prog 12 #[] w fun e w' => ∃ g gd : Nat, e = .returned (.pointer (some ⟨g, 0, none⟩)) ∧ StrAt w' g gd ⟨0, 0, 0, 0, 0, 0⟩ ⟨false, ⟨0, 0, 0⟩⟩ ∧ w.heap.size ≤ g ∧ w.heap.size ≤ gd ∧ Below w.heap.size w w' := by
  go_enter Try.func12, Try.ntmps12
  go_wp2_with (first | (go_at_call 18; refine (new_calls _).mono ?_; rintro e w1 ⟨rfl, hd1, hb1⟩; have HD1 := Aside0.mk hd1; have HB1 := Aside0.mk hb1; clear hd1 hb1))
  go_ret
  exact ⟨w1.heap.size, w.heap.size, rfl, ⟨Blk.new w1 45 _, Blk.alloc HD1.out _⟩, HB1.out.size, Nat.le_refl _, below_alloc HB1.out _⟩

set_option maxRecDepth 10000 in
theorem copyS_calls (g gd : Nat) (d : Dec) (x : Tk) (w : World) (hs : StrAt w g gd d x) :
    Calls Try.prog 15 #[.pointer (some ⟨g, 0, none⟩)] w fun e w' => ∃ g' gd' : Nat, e = .returned (.pointer (some ⟨g', 0, none⟩)) ∧ StrAt w' g' gd' d x ∧ w.heap.size ≤ g' ∧ w.heap.size ≤ gd' ∧ Below w.heap.size w w' := by
  have hne := hs.ne
  have hlt := hs.lt
  obtain ⟨xw, ⟨r0, r1, r2⟩⟩ := x
  have c0 : w.cell? ⟨g, 0, none⟩ = some (.pointer (some ⟨gd, 0, none⟩)) := (Blk.cell hs.1 0).trans rfl
  have c1 : w.cell? ⟨g, 1, none⟩ = some (.bool xw) := (Blk.cell hs.1 1).trans rfl
  have c2 : w.cell? ⟨g, 2, none⟩ = some (.int .i64 r0) := (Blk.cell hs.1 2).trans rfl
  have c3 : w.cell? ⟨g, 3, none⟩ = some (.int .i64 r1) := (Blk.cell hs.1 3).trans rfl
  have c4 : w.cell? ⟨g, 4, none⟩ = some (.int .i64 r2) := (Blk.cell hs.1 4).trans rfl
  have HD := Aside0.mk hs.2
  clear hs
  go_enter Try.func15, Try.ntmps15
  go_wp2_with (first | (go_at_call 22; refine (copy_calls gd d _ (DecAt.alloc HD.out _)).mono ?_; rintro e w1 ⟨rfl, hd1, hb1⟩; have HD1 := Aside0.mk hd1; have HB1 := Aside0.mk hb1; have HG1 := Aside0.mk (Blk.below (Blk.new w 45 _) hb1 (by simp)); have z0 := Blk.frozen HG1.out 0; have z1 := (show w1.cell? ⟨w.heap.size, 0, none⟩ = some (.pointer (some ⟨gd, 0, none⟩)) from (Blk.cell HG1.out 0).trans rfl); clear hd1 hb1))
  go_ret
  have hd := HD1.out
  have e1 : (w.alloc (.cells #[.pointer (some ⟨gd, 0, none⟩), .bool xw, .int .i64 r0, .int .i64 r1, .int .i64 r2] 45)).heap.size = w.heap.size + 1 := by simp
  rw [e1] at hd
  have p1 : TkAt (w1.setCell ⟨w.heap.size, 0, none⟩ (.pointer (some ⟨w.heap.size + 1, 0, none⟩))) w.heap.size (.pointer (some ⟨w.heap.size + 1, 0, none⟩)) ⟨xw, ⟨r0, r1, r2⟩⟩ := by
    have := Blk.set_ HG1.out 0 (.pointer (some ⟨w.heap.size + 1, 0, none⟩))
    simpa [TkAt, Tk.cells] using this
  exact ⟨w.heap.size, w.heap.size + 1, rfl, ⟨p1, Blk.far hd (p := ⟨w.heap.size, 0, none⟩) (by show w.heap.size + 1 ≠ w.heap.size; omega) _⟩, Nat.le_refl _, Nat.le_succ _, (below_same (below_alloc (Below.refl _ _) _) (HB1.out.mono (by simp))).setCell (Nat.le_refl _) _⟩
end Go.Proofs.Ytdmkhcmkfhojgaa.P
