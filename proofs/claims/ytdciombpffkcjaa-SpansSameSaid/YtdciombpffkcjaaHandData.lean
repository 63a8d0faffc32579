/- The reference's Data at awake's two texts. -/
import Derived.Test.YtdciombpffkcjaaTok12
namespace Go.Proofs.Ytdciombpffkcjaa.P
open Go.RowKit Go.Proofs.YtdciombpffkcjaaW.PrintWords Go.Proofs.YtdciombpffkcjaaW.PrintLast Go.Proofs.YtdciombpffkcjaaW.PrintMore Go.Proofs.Ytdciombpffkcjaa.Blk
set_option linter.unusedVariables false
set_option linter.unusedSimpArgs false
abbrev tx1 : ByteArray := ⟨#[60, 98, 62, 104, 105, 60, 47, 98, 62]⟩
abbrev tx2 : ByteArray := ⟨#[97, 60, 47, 62, 98]⟩
def L1 : List S64 := [⟨60, 0, 1⟩, ⟨98, 1, 2⟩, ⟨62, 2, 3⟩, ⟨104, 3, 4⟩, ⟨105, 4, 5⟩, ⟨60, 5, 6⟩, ⟨47, 6, 7⟩, ⟨98, 7, 8⟩, ⟨62, 8, 9⟩]
def L2 : List S64 := [⟨97, 0, 1⟩, ⟨60, 1, 2⟩, ⟨47, 2, 3⟩, ⟨62, 3, 4⟩, ⟨98, 4, 5⟩]
def bb : ByteArray := ⟨#[98]⟩
def xs1 : Nat → List S39
  | 0 => [gtok 2 ⟨#[98]⟩ 0 3]
  | 1 => [ctok ⟨104, 3, 4⟩]
  | 2 => [ctok ⟨105, 4, 5⟩]
  | 3 => [gtok 3 ⟨#[98]⟩ 5 9]
  | _ => [etok 9]
def A1 : Nat → Int
  | 0 => 0
  | 1 => 3
  | 2 => 4
  | 3 => 5
  | _ => 9
def La1 : Nat → ByteArray
  | 0 => ⟨#[]⟩
  | _ => ⟨#[98]⟩
def os1 : Nat → List S39
  | 0 => []
  | k + 1 => os1 k ++ xs1 k
def xs2 : Nat → List S39
  | 0 => [ctok ⟨97, 0, 1⟩]
  | 1 => []
  | 2 => [ctok ⟨98, 4, 5⟩]
  | _ => [etok 5]
def A2 : Nat → Int
  | 0 => 0
  | 1 => 1
  | 2 => 4
  | _ => 5
def F2 : Nat → List S66
  | 0 => []
  | 1 => []
  | _ => [⟨6, 3⟩]
def os2 : Nat → List S39
  | 0 => []
  | k + 1 => os2 k ++ xs2 k
theorem chars1 : taffrailref04_Chars.f 100 tx1 = some (L1, []) := by kernel_rfl
theorem chars2 : taffrailref04_Chars.f 100 tx2 = some (L2, []) := by kernel_rfl
set_option maxRecDepth 100000 in
theorem run1 (w0 : World) : Calls Try.prog 24 #[.string tx1, .int .i64 0, .string ⟨#[]⟩, .bool true] w0 fun e w' => ∃ v0 v1, e = .returned (.tuple #[v0, v1]) ∧ Kd.R kT 39 w' w0.heap.size (fun _ => True) v0 (os1 5) ∧ Kd.R k66 66 w' w0.heap.size (fun _ => True) v1 [] ∧ Below w0.heap.size w0 w' := by
  refine trun tx1 L1 chars1 5 A1 La1 (fun _ => []) xs1 os1 w0 ⟨rfl, rfl, rfl, rfl, by decide⟩ (by decide) ?_ ?_ ?_ (.inl rfl)
  · intro i hi
    match i, hi with
    | 0, _ => exact ⟨rfl, by decide, .inl (by decide), by decide⟩
    | 1, _ => exact ⟨rfl, by decide, .inl (by decide), by decide⟩
    | 2, _ => exact ⟨rfl, by decide, .inl (by decide), by decide⟩
    | 3, _ => exact ⟨rfl, by decide, .inl (by decide), by decide⟩
    | 4, _ => exact ⟨rfl, by decide, .inr rfl, by decide⟩
  · intro i hi
    match i, hi with
    | 0, _ => exact .inr ⟨_, rfl, .inr ⟨rfl, rfl⟩⟩
    | 1, _ => exact .inr ⟨_, rfl, .inl (by decide)⟩
    | 2, _ => exact .inr ⟨_, rfl, .inl (by decide)⟩
    | 3, _ => exact .inr ⟨_, rfl, .inl (by decide)⟩
    | 4, _ => exact .inr ⟨_, rfl, .inl (by decide)⟩
  · intro i hi W g hT
    match i, hi with
    | 0, _ => exact tnext_open hT (by decide) rfl (fun W1 h1 => topen_b h1 (by decide) (by decide) (by decide) rfl rfl)
    | 1, _ => exact tnext_char 104 hT (by decide) (by decide) (by decide) rfl (by decide) (by decide) (by decide)
    | 2, _ => exact tnext_char 105 hT (by decide) (by decide) (by decide) rfl (by decide) (by decide) (by decide)
    | 3, _ => exact tnext_open hT (by decide) rfl (fun W1 h1 => topen_e h1 (by decide) (by decide) (by decide) rfl rfl rfl)
    | 4, _ => exact tnext_eof hT (by decide) rfl
set_option maxRecDepth 100000 in
theorem run2 (w0 : World) : Calls Try.prog 24 #[.string tx2, .int .i64 0, .string ⟨#[]⟩, .bool true] w0 fun e w' => ∃ v0 v1, e = .returned (.tuple #[v0, v1]) ∧ Kd.R kT 39 w' w0.heap.size (fun _ => True) v0 (os2 4) ∧ Kd.R k66 66 w' w0.heap.size (fun _ => True) v1 [⟨6, 3⟩] ∧ Below w0.heap.size w0 w' := by
  refine trun tx2 L2 chars2 4 A2 (fun _ => ⟨#[]⟩) F2 xs2 os2 w0 ⟨rfl, rfl, rfl, rfl, by decide⟩ (by decide) ?_ ?_ ?_ (.inr ⟨_, rfl⟩)
  · intro i hi
    match i, hi with
    | 0, _ => exact ⟨rfl, by decide, .inl (by decide), by decide⟩
    | 1, _ => exact ⟨rfl, by decide, .inl (by decide), by decide⟩
    | 2, _ => exact ⟨rfl, by decide, .inl (by decide), by decide⟩
    | 3, _ => exact ⟨rfl, by decide, .inr rfl, by decide⟩
  · intro i hi
    match i, hi with
    | 0, _ => exact .inr ⟨_, rfl, .inl (by decide)⟩
    | 1, _ => exact .inl rfl
    | 2, _ => exact .inr ⟨_, rfl, .inl (by decide)⟩
    | 3, _ => exact .inr ⟨_, rfl, .inl (by decide)⟩
  · intro i hi W g hT
    match i, hi with
    | 0, _ => exact tnext_char 97 hT (by decide) (by decide) (by decide) rfl (by decide) (by decide) (by decide)
    | 1, _ => exact tnext_open hT (by decide) rfl (fun W1 h1 => topen_g h1 (by decide) (by decide) (by decide) rfl rfl)
    | 2, _ => exact tnext_char 98 hT (by decide) (by decide) (by decide) rfl (by decide) (by decide) (by decide)
    | 3, _ => exact tnext_eof hT (by decide) rfl
/-- Data, at awake's two texts alone -/
def taffrailref11_Data.f (a0 : ByteArray) : Option (List S39 × List S66) :=
  if a0 = tx1 then some ([gtok 2 ⟨#[98]⟩ 0 3, ctok ⟨104, 3, 4⟩, ctok ⟨105, 4, 5⟩, gtok 3 ⟨#[98]⟩ 5 9, etok 9], [])
  else if a0 = tx2 then some ([ctok ⟨97, 0, 1⟩, ctok ⟨98, 4, 5⟩, etok 5], [⟨6, 3⟩]) else none
set_option maxRecDepth 100000 in
set_option maxHeartbeats 1000000 in
theorem taffrailref11_Data.calls (a0 : ByteArray) (r1 : List (S39)) (r2 : List (S66)) (w : World) (h : taffrailref11_Data.f a0 = some (r1, r2)) :
    Calls Try.prog 16 #[.string a0] w fun e w' => ∃ v0_ v1_ : Value, e = .returned (.tuple #[v0_, v1_]) ∧ Kd.S k39 39 w' w.heap.size (fun _ => True) v0_ r1 ∧ Kd.R k66 66 w' w.heap.size (fun _ => True) v1_ r2 ∧ Below w.heap.size w w' := by
  unfold taffrailref11_Data.f at h
  split at h
  · rename_i he
    subst he
    cases h
    go_enter Try.func16, Try.ntmps16
    go_wp2_with (go_at_call 24; refine (run1 _).mono ?_; rintro e w1 ⟨v0, v1, rfl, h0, h1, hb⟩; obtain ⟨X0, y0, ex⟩ := Kd.R_slice h0; obtain ⟨n0, hn0⟩ : ∃ n, (os1 5).length = n := ⟨_, rfl⟩; rw [hn0] at ex; subst ex; obtain ⟨X1, y1, ey⟩ := Kd.R_slice h1; subst ey; have H0 := Aside0.mk h0; have H1 := Aside0.mk h1; have HB := Aside0.mk hb; clear h0 h1 hb hn0)
    go_ret2
    exact ⟨_, _, rfl, kT_S H0.out, H1.out, HB.out⟩
  · split at h
    · rename_i he
      subst he
      cases h
      go_enter Try.func16, Try.ntmps16
      go_wp2_with (go_at_call 24; refine (run2 _).mono ?_; rintro e w1 ⟨v0, v1, rfl, h0, h1, hb⟩; obtain ⟨X0, y0, ex⟩ := Kd.R_slice h0; obtain ⟨n0, hn0⟩ : ∃ n, (os2 4).length = n := ⟨_, rfl⟩; rw [hn0] at ex; subst ex; obtain ⟨X1, y1, ey⟩ := Kd.R_slice h1; subst ey; have H0 := Aside0.mk h0; have H1 := Aside0.mk h1; have HB := Aside0.mk hb; clear h0 h1 hb hn0)
      go_ret2
      exact ⟨_, _, rfl, kT_S H0.out, H1.out, HB.out⟩
    · cases h
end Go.Proofs.Ytdciombpffkcjaa.P
