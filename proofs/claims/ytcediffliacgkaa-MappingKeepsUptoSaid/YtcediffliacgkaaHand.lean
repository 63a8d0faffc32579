/- The functions of package mapping that go over complex numbers: what each call answers. -/
import Derived.Test.YtcediffliacgkaaProg
import Derived.Test.YtcediffliacgkaaFl
import Derived.WalkKit
import Derived.WalkSpells
import Derived.WalkLawsBesides
import Derived.Below
import Derived.Lib.Hide
import Derived.Deep.QuietTactic
import Derived.BigQuiet
import Derived.Deep.Draws
import Derived.Laws.FloatArith
namespace Go.Proofs.Ytcediffliacgkaa.P
open Go.RowKit

theorem below_drewN {B : Nat} {a w : World} (h : Below B a w) (n : Nat) : Below B a (w.drewN n) := ⟨h.os, h.tape, h.output, h.size, h.block⟩
theorem u3 : Try.prog.underlying 3 = some (.int .i64) := by kernel_rfl
theorem u41 : Try.prog.underlying 41 = some (.float .f64) := by kernel_rfl

theorem to_int (n : Int) (h0 : 0 ≤ n) (h1 : n < 9007199254740992) (w : World) : (convert 41 3 (.float .f64 (floatOfInt .f64 n))).run Try.prog w = .ok (.int .i64 n) w :=
  run_convert_float_int w 41 3 .f64 .i64 _ n (by rw [u41]; rfl) u3 (Fl.float_back n h0 h1)

theorem from_calls (a b : Int) (h0 : 0 ≤ a) (h1 : a < 9007199254740992) (w : World) :
    Calls Try.prog 14 #[.complex .f64 (floatOfInt .f64 a) (floatOfInt .f64 b)] w fun e w' => e = .returned (.int .i64 a) ∧ w' = w := by
  have hi := to_int a h0 h1
  go_enter Try.func14, Try.ntmps14
  go_wp2
  go_ret
  exact ⟨rfl, rfl⟩

theorem end_calls (a b : Int) (h0 : 0 ≤ a) (h1 : a ≤ 1099511627776) (h2 : 0 ≤ b) (h3 : b ≤ 1099511627776) (w : World) :
    Calls Try.prog 15 #[.complex .f64 (floatOfInt .f64 a) (floatOfInt .f64 b)] w fun e w' => e = .returned (.int .i64 (a + b)) ∧ w' = w := by
  have hi := to_int a h0 (by omega)
  have hj := to_int b h2 (by omega)
  go_enter Try.func15, Try.ntmps15
  go_wp2
  go_ret
  exact ⟨rfl, rfl⟩

theorem of_calls (a b : Int) (w : World) :
    Calls Try.prog 17 #[.int .i64 a, .int .i64 b] w fun e w' => e = .returned (.complex .f64 (floatOfInt .f64 a) (floatOfInt .f64 b)) ∧ w' = w := by
  go_enter Try.func17, Try.ntmps17
  go_wp2
  go_ret
  exact ⟨rfl, rfl⟩

def may (a d : Int) : Prop := ¬ a < 0 ∧ ¬ 1099511627776 < a ∧ ¬ d < 0 ∧ ¬ 1099511627776 < d
instance (a d : Int) : Decidable (may a d) := by unfold may; infer_instance

theorem taken_no (a d : Int) (s : ByteArray) (h : ¬ may a d) (w : World) :
    Calls Try.prog 13 #[.agg #[.int .i64 a, .int .i64 d, .string s]] w fun e w' => e = .returned (.tuple #[.complex .f64 (floatOfInt .f64 0) (floatOfInt .f64 0), .int .i64 0]) ∧ Below w.heap.size w w' := by
  unfold may at h
  by_cases h1 : a < 0
  · clear h
    go_enter Try.func13, Try.ntmps13
    go_wp2_with (go_at_call 17; refine (of_calls _ _ _).mono ?_; rintro e w' ⟨rfl, rfl⟩)
    go_ret2
    exact ⟨rfl, (Below.refl _ _).alloc (Nat.le_refl _) _⟩
  by_cases h2 : 1099511627776 < a
  · clear h
    go_enter Try.func13, Try.ntmps13
    go_wp2_with (go_at_call 17; refine (of_calls _ _ _).mono ?_; rintro e w' ⟨rfl, rfl⟩)
    go_ret2
    exact ⟨rfl, (Below.refl _ _).alloc (Nat.le_refl _) _⟩
  by_cases h3 : d < 0
  · clear h
    go_enter Try.func13, Try.ntmps13
    go_wp2_with (go_at_call 17; refine (of_calls _ _ _).mono ?_; rintro e w' ⟨rfl, rfl⟩)
    go_ret2
    exact ⟨rfl, (Below.refl _ _).alloc (Nat.le_refl _) _⟩
  · have h4 : 1099511627776 < d := by omega
    clear h
    go_enter Try.func13, Try.ntmps13
    go_wp2_with (go_at_call 17; refine (of_calls _ _ _).mono ?_; rintro e w' ⟨rfl, rfl⟩)
    go_ret2
    exact ⟨rfl, (Below.refl _ _).alloc (Nat.le_refl _) _⟩

theorem taken_yes (a d : Int) (s : ByteArray) (h : may a d) (w : World) :
    Calls Try.prog 13 #[.agg #[.int .i64 a, .int .i64 d, .string s]] w fun e w' => e = .returned (.tuple #[.complex .f64 (floatOfInt .f64 a) (floatOfInt .f64 d), .int .i64 s.size]) ∧ Below w.heap.size w w' := by
  obtain ⟨h1, h2, h3, h4⟩ := h
  go_enter Try.func13, Try.ntmps13
  go_wp2
  go_quiet ((go_at_call 17; exact Calls.quiet_of_same (of_calls _ _ _)))
  go_wp2
  go_ret2
  exact ⟨rfl, below_drewN ((Below.refl _ _).alloc (Nat.le_refl _) _) _⟩

/-- what 'taken' gives: where, how many, how many come -/
def tk (a d : Int) (s : ByteArray) : Int × Int × Int := if may a d then (a, d, s.size) else (0, 0, 0)

theorem taken_calls (a d : Int) (s : ByteArray) (w : World) :
    Calls Try.prog 13 #[.agg #[.int .i64 a, .int .i64 d, .string s]] w fun e w' => e = .returned (.tuple #[.complex .f64 (floatOfInt .f64 (tk a d s).1) (floatOfInt .f64 (tk a d s).2.1), .int .i64 (tk a d s).2.2]) ∧ Below w.heap.size w w' := by
  unfold tk
  by_cases h : may a d
  · simp only [if_pos h]; exact taken_yes a d s h w
  · simp only [if_neg h]; exact taken_no a d s h w

theorem tk_bounds (a d : Int) (s : ByteArray) : 0 ≤ (tk a d s).1 ∧ (tk a d s).1 ≤ 1099511627776 ∧ 0 ≤ (tk a d s).2.1 ∧ (tk a d s).2.1 ≤ 1099511627776 ∧ 0 ≤ (tk a d s).2.2 ∧ (tk a d s).2.2 ≤ s.size := by
  unfold tk
  by_cases h : may a d
  · rw [if_pos h]; unfold may at h; simp only; omega
  · rw [if_neg h]; simp only; omega

/-- mapping.Point over what 'taken' gives -/
def pointOf (f n m at_ : Int) (after : Bool) : Int :=
  if at_ > 1099511627776 ∨ at_ < -1099511627776 then 0
  else if at_ < f then at_
  else if at_ ≥ f + n ∧ at_ > f then at_ - (f + n - f) + m
  else if after then f + m else f

theorem point_far (a d : Int) (s : ByteArray) (at_ : Int) (after : Bool) (h : at_ > 1099511627776 ∨ at_ < -1099511627776) (w : World) :
    Calls Try.prog 8 #[.agg #[.int .i64 a, .int .i64 d, .string s], .int .i64 at_, .bool after] w fun e w' => e = .returned (.int .i64 0) ∧ Below w.heap.size w w' := by
  by_cases h1 : 1099511627776 < at_
  · clear h
    go_enter Try.func8, Try.ntmps8
    go_wp2
    go_ret
    exact ⟨rfl, (Below.refl _ _).alloc (Nat.le_refl _) _⟩
  · have h2 : at_ < -1099511627776 := by omega
    clear h
    go_enter Try.func8, Try.ntmps8
    go_wp2
    go_ret
    exact ⟨rfl, (Below.refl _ _).alloc (Nat.le_refl _) _⟩

theorem point_near (a d : Int) (s : ByteArray) (at_ : Int) (after : Bool) (hs : s.size ≤ 9223372036854775807 - 4398046511104) (h1 : at_ ≤ 1099511627776) (h2 : -1099511627776 ≤ at_) (w : World) :
    Calls Try.prog 8 #[.agg #[.int .i64 a, .int .i64 d, .string s], .int .i64 at_, .bool after] w fun e w' => e = .returned (.int .i64 (pointOf (tk a d s).1 (tk a d s).2.1 (tk a d s).2.2 at_ after)) ∧ Below w.heap.size w w' := by
  have HT : Hid (∀ W, _) := Lib.hid (fun W => taken_calls a d s W)
  obtain ⟨b1, b2, b3, b4, b5, b6⟩ := tk_bounds a d s
  have hs' : ((s.size : Nat) : Int) ≤ 9223372036854775807 - 4398046511104 := by omega
  have hd : ¬ (at_ > 1099511627776 ∨ at_ < -1099511627776) := by omega
  unfold pointOf
  rw [if_neg hd]
  clear hd hs
  generalize tk a d s = t at *
  obtain ⟨f, n, m⟩ := t
  simp only at *
  generalize s.size = z at *
  have HF := Lib.hid (fun W => from_calls f n b1 (by omega) W)
  have HE := Lib.hid (fun W => end_calls f n b1 b2 b3 b4 W)
  by_cases c1 : at_ < f
  · rw [if_pos c1]
    go_enter Try.func8, Try.ntmps8
    go_wp2_with (first
      | (go_at_call 13; refine (HT.out _).mono ?_; rintro e w' ⟨rfl, hb⟩)
      | (go_at_call 14; refine (HF.out _).mono ?_; rintro e w' ⟨rfl, rfl⟩)
      | (go_at_call 15; refine (HE.out _).mono ?_; rintro e w' ⟨rfl, rfl⟩))
    go_ret
    exact ⟨rfl, ((Below.refl _ _).alloc (Nat.le_refl _) _).trans (hb.mono (by simp))⟩
  rw [if_neg c1]
  by_cases c2 : at_ ≥ f + n
  · by_cases c3 : at_ > f
    · rw [if_pos ⟨c2, c3⟩]
      go_enter Try.func8, Try.ntmps8
      go_wp2_with (first
        | (go_at_call 13; refine (HT.out _).mono ?_; rintro e w' ⟨rfl, hb⟩)
        | (go_at_call 14; refine (HF.out _).mono ?_; rintro e w' ⟨rfl, rfl⟩)
        | (go_at_call 15; refine (HE.out _).mono ?_; rintro e w' ⟨rfl, rfl⟩))
      go_ret
      exact ⟨rfl, ((Below.refl _ _).alloc (Nat.le_refl _) _).trans (hb.mono (by simp))⟩
    · rw [if_neg (fun h => c3 h.2)]
      cases after
      · rw [if_neg (by decide)]
        go_enter Try.func8, Try.ntmps8
        go_wp2_with (first
          | (go_at_call 13; refine (HT.out _).mono ?_; rintro e w' ⟨rfl, hb⟩)
          | (go_at_call 14; refine (HF.out _).mono ?_; rintro e w' ⟨rfl, rfl⟩)
          | (go_at_call 15; refine (HE.out _).mono ?_; rintro e w' ⟨rfl, rfl⟩))
        go_ret
        exact ⟨rfl, ((Below.refl _ _).alloc (Nat.le_refl _) _).trans (hb.mono (by simp))⟩
      · rw [if_pos rfl]
        go_enter Try.func8, Try.ntmps8
        go_wp2_with (first
          | (go_at_call 13; refine (HT.out _).mono ?_; rintro e w' ⟨rfl, hb⟩)
          | (go_at_call 14; refine (HF.out _).mono ?_; rintro e w' ⟨rfl, rfl⟩)
          | (go_at_call 15; refine (HE.out _).mono ?_; rintro e w' ⟨rfl, rfl⟩))
        go_ret
        exact ⟨rfl, ((Below.refl _ _).alloc (Nat.le_refl _) _).trans (hb.mono (by simp))⟩
  · rw [if_neg (fun h => c2 h.1)]
    cases after
    · rw [if_neg (by decide)]
      go_enter Try.func8, Try.ntmps8
      go_wp2_with (first
        | (go_at_call 13; refine (HT.out _).mono ?_; rintro e w' ⟨rfl, hb⟩)
        | (go_at_call 14; refine (HF.out _).mono ?_; rintro e w' ⟨rfl, rfl⟩)
        | (go_at_call 15; refine (HE.out _).mono ?_; rintro e w' ⟨rfl, rfl⟩))
      go_ret
      exact ⟨rfl, ((Below.refl _ _).alloc (Nat.le_refl _) _).trans (hb.mono (by simp))⟩
    · rw [if_pos rfl]
      go_enter Try.func8, Try.ntmps8
      go_wp2_with (first
        | (go_at_call 13; refine (HT.out _).mono ?_; rintro e w' ⟨rfl, hb⟩)
        | (go_at_call 14; refine (HF.out _).mono ?_; rintro e w' ⟨rfl, rfl⟩)
        | (go_at_call 15; refine (HE.out _).mono ?_; rintro e w' ⟨rfl, rfl⟩))
      go_ret
      exact ⟨rfl, ((Below.refl _ _).alloc (Nat.le_refl _) _).trans (hb.mono (by simp))⟩

/-- mapping.Point: what it answers. -/
def mapping_Point.f (a0_0 a0_1 : Int) (a0_2 : ByteArray) (a1 : Int) (a2 : Bool) : Option Int :=
  if a0_2.size ≤ 9223372036854775807 - 4398046511104 then some (pointOf (tk a0_0 a0_1 a0_2).1 (tk a0_0 a0_1 a0_2).2.1 (tk a0_0 a0_1 a0_2).2.2 a1 a2) else none
theorem mapping_Point.calls (a0_0 a0_1 : Int) (a0_2 : ByteArray) (a1 : Int) (a2 : Bool) (r : Int) (w : World) (h : mapping_Point.f a0_0 a0_1 a0_2 a1 a2 = some r) :
    Calls Try.prog 8 #[.agg #[.int .i64 a0_0, .int .i64 a0_1, .string a0_2], .int .i64 a1, .bool a2] w fun e w' => e = .returned (.int .i64 r) ∧ Below w.heap.size w w' := by
  unfold mapping_Point.f at h
  by_cases hs : a0_2.size ≤ 9223372036854775807 - 4398046511104
  · rw [if_pos hs] at h
    obtain rfl := Option.some.inj h
    by_cases hf : a1 > 1099511627776 ∨ a1 < -1099511627776
    · have e : pointOf (tk a0_0 a0_1 a0_2).1 (tk a0_0 a0_1 a0_2).2.1 (tk a0_0 a0_1 a0_2).2.2 a1 a2 = 0 := by unfold pointOf; rw [if_pos hf]
      rw [e]
      exact point_far _ _ _ _ _ hf w
    · exact point_near _ _ _ _ _ hs (by omega) (by omega) w
  · rw [if_neg hs] at h; cases h

/-- mapping.Back over what 'taken' gives -/
def backOf (f n m at_ : Int) : Int × Bool :=
  if at_ > 1099511627776 ∨ at_ < -1099511627776 then (0, false)
  else if at_ < f then (at_, true)
  else if at_ - m ≥ f then (at_ - m + (f + n) - f, true)
  else (f, false)

theorem back_far (a d : Int) (s : ByteArray) (at_ : Int) (h : at_ > 1099511627776 ∨ at_ < -1099511627776) (w : World) :
    Calls Try.prog 6 #[.agg #[.int .i64 a, .int .i64 d, .string s], .int .i64 at_] w fun e w' => e = .returned (.tuple #[.int .i64 0, .bool false]) ∧ Below w.heap.size w w' := by
  have HT : Hid (∀ W, _) := Lib.hid (fun W => taken_calls a d s W)
  by_cases h1 : 1099511627776 < at_
  · clear h
    go_enter Try.func6, Try.ntmps6
    go_wp2_with (first
      | (go_at_call 13; refine (HT.out _).mono ?_; rintro e w' ⟨rfl, hb⟩))
    go_ret2
    exact ⟨rfl, ((Below.refl _ _).alloc (Nat.le_refl _) _).trans (hb.mono (by simp))⟩
  · have h2 : at_ < -1099511627776 := by omega
    clear h
    go_enter Try.func6, Try.ntmps6
    go_wp2_with (first
      | (go_at_call 13; refine (HT.out _).mono ?_; rintro e w' ⟨rfl, hb⟩))
    go_ret2
    exact ⟨rfl, ((Below.refl _ _).alloc (Nat.le_refl _) _).trans (hb.mono (by simp))⟩

theorem back_near (a d : Int) (s : ByteArray) (at_ : Int) (hs : s.size ≤ 9223372036854775807 - 4398046511104) (h1 : at_ ≤ 1099511627776) (h2 : -1099511627776 ≤ at_) (w : World) :
    Calls Try.prog 6 #[.agg #[.int .i64 a, .int .i64 d, .string s], .int .i64 at_] w fun e w' => e = .returned (.tuple #[.int .i64 (backOf (tk a d s).1 (tk a d s).2.1 (tk a d s).2.2 at_).1, .bool (backOf (tk a d s).1 (tk a d s).2.1 (tk a d s).2.2 at_).2]) ∧ Below w.heap.size w w' := by
  have HT : Hid (∀ W, _) := Lib.hid (fun W => taken_calls a d s W)
  obtain ⟨b1, b2, b3, b4, b5, b6⟩ := tk_bounds a d s
  have hs' : ((s.size : Nat) : Int) ≤ 9223372036854775807 - 4398046511104 := by omega
  have hd : ¬ (at_ > 1099511627776 ∨ at_ < -1099511627776) := by omega
  unfold backOf
  rw [if_neg hd]
  clear hd hs
  generalize tk a d s = t at *
  obtain ⟨f, n, m⟩ := t
  simp only at *
  generalize s.size = z at *
  have HF := Lib.hid (fun W => from_calls f n b1 (by omega) W)
  have HE := Lib.hid (fun W => end_calls f n b1 b2 b3 b4 W)
  by_cases c1 : at_ < f
  · rw [if_pos c1]
    go_enter Try.func6, Try.ntmps6
    go_wp2_with (first
      | (go_at_call 13; refine (HT.out _).mono ?_; rintro e w' ⟨rfl, hb⟩)
      | (go_at_call 14; refine (HF.out _).mono ?_; rintro e w' ⟨rfl, rfl⟩)
      | (go_at_call 15; refine (HE.out _).mono ?_; rintro e w' ⟨rfl, rfl⟩))
    go_ret2
    exact ⟨rfl, ((Below.refl _ _).alloc (Nat.le_refl _) _).trans (hb.mono (by simp))⟩
  rw [if_neg c1]
  by_cases c2 : at_ - m ≥ f
  · rw [if_pos c2]
    go_enter Try.func6, Try.ntmps6
    go_wp2_with (first
      | (go_at_call 13; refine (HT.out _).mono ?_; rintro e w' ⟨rfl, hb⟩)
      | (go_at_call 14; refine (HF.out _).mono ?_; rintro e w' ⟨rfl, rfl⟩)
      | (go_at_call 15; refine (HE.out _).mono ?_; rintro e w' ⟨rfl, rfl⟩))
    go_ret2
    exact ⟨rfl, ((Below.refl _ _).alloc (Nat.le_refl _) _).trans (hb.mono (by simp))⟩
  · rw [if_neg c2]
    go_enter Try.func6, Try.ntmps6
    go_wp2_with (first
      | (go_at_call 13; refine (HT.out _).mono ?_; rintro e w' ⟨rfl, hb⟩)
      | (go_at_call 14; refine (HF.out _).mono ?_; rintro e w' ⟨rfl, rfl⟩)
      | (go_at_call 15; refine (HE.out _).mono ?_; rintro e w' ⟨rfl, rfl⟩))
    go_ret2
    exact ⟨rfl, ((Below.refl _ _).alloc (Nat.le_refl _) _).trans (hb.mono (by simp))⟩

/-- mapping.Back: what it answers. -/
def mapping_Back.f (a0_0 a0_1 : Int) (a0_2 : ByteArray) (a1 : Int) : Option (Int × Bool) :=
  if a0_2.size ≤ 9223372036854775807 - 4398046511104 then some (backOf (tk a0_0 a0_1 a0_2).1 (tk a0_0 a0_1 a0_2).2.1 (tk a0_0 a0_1 a0_2).2.2 a1) else none
theorem mapping_Back.calls (a0_0 a0_1 : Int) (a0_2 : ByteArray) (a1 : Int) (r1 : Int) (r2 : Bool) (w : World) (h : mapping_Back.f a0_0 a0_1 a0_2 a1 = some (r1, r2)) :
    Calls Try.prog 6 #[.agg #[.int .i64 a0_0, .int .i64 a0_1, .string a0_2], .int .i64 a1] w fun e w' => e = .returned (.tuple #[.int .i64 r1, .bool r2]) ∧ Below w.heap.size w w' := by
  unfold mapping_Back.f at h
  by_cases hs : a0_2.size ≤ 9223372036854775807 - 4398046511104
  · rw [if_pos hs] at h
    have h' := Option.some.inj h
    by_cases hf : a1 > 1099511627776 ∨ a1 < -1099511627776
    · have e : backOf (tk a0_0 a0_1 a0_2).1 (tk a0_0 a0_1 a0_2).2.1 (tk a0_0 a0_1 a0_2).2.2 a1 = (0, false) := by unfold backOf; rw [if_pos hf]
      rw [e] at h'
      cases h'
      exact back_far _ _ _ _ hf w
    · have := back_near a0_0 a0_1 a0_2 a1 hs (by omega) (by omega) w
      rw [h'] at this
      exact this
  · rw [if_neg hs] at h; cases h
end Go.Proofs.Ytcediffliacgkaa.P
