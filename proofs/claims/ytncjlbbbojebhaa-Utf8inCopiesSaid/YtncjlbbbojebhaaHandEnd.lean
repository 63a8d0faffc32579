/- utf8in: End, New, Decode. -/
import Derived.Test.YtncjlbbbojebhaaHandFeed
namespace Go.Proofs.Ytncjlbbbojebhaa.P
open Go.RowKit Go.Proofs.YtncjlbbbojebhaaW.PrintWords Go.Proofs.YtncjlbbbojebhaaW.PrintLast Go.Proofs.YtncjlbbbojebhaaW.PrintMore Go.Proofs.Ytncjlbbbojebhaa.Blk
set_option linter.unusedVariables false

theorem reps_one {α : Type} {R : α → List Value → Prop} {size : Nat} {x : α} {cs : List Value} (hl : cs.length = size) (h : R x cs) : Reps R size [x] cs := by
  refine ⟨by simp [hl], fun j p hj => ?_⟩
  cases j with
  | zero => simp at hj; subst hj; simpa [← hl] using h
  | succ j => simp at hj

theorem R_one34 (W : World) (base : Nat) (x : S34) (hb : base ≤ W.heap.size) :
    Kd.R k34 34 (W.alloc (.cells #[.int .i64 x.f0, .int .i64 x.f1, .int .i64 x.f2] 34)) base (fun _ => True) (.slice (some ⟨W.heap.size, 0, none⟩) 1 1) [x] :=
  ⟨fun _ _ => trivial, OwnRow.lit (size := 3) (ps := [x]) (inner := [.int .i64 x.f0, .int .i64 x.f1, .int .i64 x.f2]) W base (reps_one rfl (k34_mkM _ _ _ x)) hb (by simp)⟩
theorem R_one43 (W : World) (base : Nat) (x : S43) (hb : base ≤ W.heap.size) :
    Kd.R k43 43 (W.alloc (.cells #[.int .i64 x.f0, .int .i64 x.f1] 43)) base (fun _ => True) (.slice (some ⟨W.heap.size, 0, none⟩) 1 1) [x] :=
  ⟨fun _ _ => trivial, OwnRow.lit (size := 2) (ps := [x]) (inner := [.int .i64 x.f0, .int .i64 x.f1]) W base (reps_one rfl (k43_mkM _ _ _ x)) hb (by simp)⟩

/-- what is told at the end -/
def Dec.endC (d : Dec) : List S34 := if d.have_ = 0 then [] else [⟨65533, d.at_, wrap64 (d.at_ + d.have_)⟩]
def Dec.endF (d : Dec) : List S43 := if d.have_ = 0 then [] else [⟨1, d.at_⟩]
def Dec.ended (d : Dec) : Dec := if d.have_ = 0 then d else d.told d.have_

set_option maxRecDepth 10000 in
theorem end_calls (g : Nat) (d : Dec) (w : World) (hd : DecAt w g d) :
    Calls Try.prog 18 #[.pointer (some ⟨g, 0, none⟩)] w fun e w' => ∃ v0 v1 : Value, e = .returned (.tuple #[v0, v1]) ∧ Kd.R k34 34 w' w.heap.size (fun _ => True) v0 d.endC ∧ Kd.R k43 43 w' w.heap.size (fun _ => True) v1 d.endF ∧ DecAt w' g d.ended ∧ w.grownBy w' (some g) := by
  have hlt := Blk.lt hd
  obtain ⟨a, h, n, l, u, r⟩ := d
  obtain ⟨⟨c0, c1, c2, c3, c4, c5⟩, hf⟩ := hd.facts
  have HD := Aside0.mk hd
  clear hd
  by_cases h0 : h = 0
  · subst h0
    go_enter Try.func18, Try.ntmps18
    go_wp2
    go_ret2
    exact ⟨_, _, rfl, Kd.R_nil _ _ _ _ _, Kd.R_nil _ _ _ _ _, HD.out, World.grownBy.refl w _⟩
  · have h0b : (h == 0) = false := beq_eq_false_iff_ne.mpr h0
    have e1 : Dec.endC ⟨a, h, n, l, u, r⟩ = [⟨65533, a, wrap64 (a + h)⟩] := if_neg h0
    have e2 : Dec.endF ⟨a, h, n, l, u, r⟩ = [⟨1, a⟩] := if_neg h0
    have e3 : Dec.ended ⟨a, h, n, l, u, r⟩ = ⟨wrap64 (a + h), 0, n, l, u, r⟩ := if_neg h0
    rw [e1, e2, e3]
    clear e1 e2 e3
    go_enter Try.func18, Try.ntmps18
    go_wp2_with (go_at_call 21; refine (told_calls g _ _ _ _ _ _ _ _ _ (by (with_reducible repeat (first | apply DecAt.alloc | apply DecAt.drewN | apply DecAt.drew)); exact HD.out)).mono ?_; rintro e w1 ⟨rfl, hd1, hg1⟩; have HD1 := Aside0.mk hd1; have HG1 := Aside0.mk hg1; clear hd1 hg1)
    go_ret2
    have q1 : w.grownBy (w.alloc (Obj.cells #[Value.int IntKind.i64 1, Value.int IntKind.i64 a] 43)) (some g) := only_alloc (World.grownBy.refl w _) _
    have q2 := only_then q1 HG1.out (fun b e => .inl (by cases e; rfl))
    have hs : w.heap.size ≤ w1.heap.size := q2.size
    have r1 := R_one34 w1 w.heap.size ⟨65533, a, wrap64 (a + h)⟩ hs
    have r2 := R_one43 w w.heap.size ⟨1, a⟩ (Nat.le_refl _)
    have r3 := R_dec r2 HG1.out hlt
    have r4 := Kd.R_alloc r3 (.cells #[.int .i64 65533, .int .i64 a, .int .i64 (wrap64 (a + h))] 34)
    exact ⟨_, _, rfl, r1, r4, DecAt.alloc HD1.out _, only_alloc q2 _⟩

theorem new_calls (w : World) :
    Calls Try.prog 15 #[.int .i64 0] w fun e w' => e = .returned (.pointer (some ⟨w.heap.size, 0, none⟩)) ∧ DecAt w' w.heap.size ⟨0, 0, 0, 0, 0, 0⟩ ∧ Below w.heap.size w w' := by
  go_enter Try.func15, Try.ntmps15
  go_wp2
  go_ret
  exact ⟨rfl, Blk.new w 47 _, below_alloc (Below.refl _ _) _⟩

set_option maxRecDepth 10000 in
theorem decode_walk (t : ByteArray) (w : World) (ht : t.size ≤ 1000000000) :
    Calls Try.prog 8 #[.string t] w fun e w' => ∃ v0 v1 : Value, e = .returned (.tuple #[v0, v1]) ∧ Kd.R k34 34 w' w.heap.size (fun _ => True) v0 ((St.upto t ⟨⟨0, 0, 0, 0, 0, 0⟩, [], []⟩ t.size).cs ++ (St.upto t ⟨⟨0, 0, 0, 0, 0, 0⟩, [], []⟩ t.size).d.endC) ∧ Kd.R k43 43 w' w.heap.size (fun _ => True) v1 ((St.upto t ⟨⟨0, 0, 0, 0, 0, 0⟩, [], []⟩ t.size).fs ++ (St.upto t ⟨⟨0, 0, 0, 0, 0, 0⟩, [], []⟩ t.size).d.endF) ∧ Below w.heap.size w w' := by
  have hlen := upto_len t ⟨⟨0, 0, 0, 0, 0, 0⟩, [], []⟩ t.size
  simp only [List.length_nil, Nat.zero_add] at hlen
  generalize hs : St.upto t ⟨⟨0, 0, 0, 0, 0, 0⟩, [], []⟩ t.size = s at *
  have hC : s.d.endC.length ≤ 1 := by unfold Dec.endC; split <;> simp
  have hF : s.d.endF.length ≤ 1 := by unfold Dec.endF; split <;> simp
  go_enter Try.func8, Try.ntmps8
  go_wp2_with (first
    | (go_at_call 15; refine (new_calls _).mono ?_; rintro e w1 ⟨rfl, hd1, hb1⟩; have HD1 := Aside0.mk hd1; have HB1 := Aside0.mk hb1; have hlt1 := Aside0.mk (Blk.lt hd1); clear hd1 hb1)
    | (go_at_call 16; refine (feed_calls w.heap.size _ _ _ HD1.out ht).mono ?_; rintro e w2 ⟨v2, u2, rfl, hc2, hf2, hd2, hg2⟩; rw [hs] at hc2 hf2 hd2; have HC2 := Aside0.mk (Kd.R_lower hc2 HB1.out.size); have HF2 := Aside0.mk (Kd.R_lower hf2 HB1.out.size); have HCb := Aside0.mk hc2; have HFb := Aside0.mk hf2; have HD2 := Aside0.mk hd2; have HB2 := Aside0.mk (below_of_only HB1.out hg2 (Nat.le_refl _)); clear hc2 hf2 hd2 hg2)
    | (go_at_call 18; refine (end_calls w.heap.size _ _ HD2.out).mono ?_; rintro e w3 ⟨v3, u3, rfl, hc3, hf3, hd3, hg3⟩; obtain ⟨A3, c3, rfl, hm3, hC3⟩ := Kd.R_reads hc3; obtain ⟨A4, c4, rfl, hm4, hC4⟩ := Kd.R_reads hf3; have HC3 := Aside0.mk (Kd.R_lower hc3 HB2.out.size); have HF3 := Aside0.mk (Kd.R_lower hf3 HB2.out.size); have HC3a := Aside0.mk (Kd.R_lower (R_dec HCb.out hg3 hlt1.out) HB1.out.size); have HF3a := Aside0.mk (Kd.R_lower (R_dec HFb.out hg3 hlt1.out) HB1.out.size); have HB3 := Aside0.mk (below_of_only HB2.out hg3 (Nat.le_refl _)); clear hc3 hf3 hd3 hg3 hm3 hm4 hC3 hC4)
    | ((with_reducible refine gate_builtin (b := .append) (xs := #[.tmp 21, .tmp 22]) rfl ?_); go_must (at_builtin; refine Kd.R_append_rows k34 (w0 := w) w.heap.size rfl (.tmp 21) (.tmp 22) 23 34 (.agg #[(.int .i64 0), (.int .i64 0), (.int .i64 0)]) 24 rfl Try.underlying23 info34 rfl (by decide) (by omega) v2 s.cs s.d.endC _ _ _ (fun _ => True) (fun _ => False) rfl rfl ?aO ?aR (fun _ _ h => h) (fun _ h => h.elim) ?aF ?aB ?aS ?aL ?_; (case aO => exact (by (with_reducible repeat (first | apply Kd.R_alloc | apply Kd.R_drewN | apply Kd.R_drew)); exact HC3a.out)); (case aR => exact (Kd.R_reads' (by (with_reducible repeat (first | apply Kd.R_alloc | apply Kd.R_drewN | apply Kd.R_drew)); exact HC3.out)).2.2); (case aF => exact (fun _ _ => trivial)); (case aB => exact (by (with_reducible repeat (first | apply below_alloc | apply pw_below_drewN | apply below_drew1)); exact HB3.out)); (case aS => exact below_size (by (with_reducible repeat (first | apply below_alloc | apply pw_below_drewN | apply below_drew1)); exact HB3.out)); (case aL => omega); intro v4 w4 ho hb hg hat; have HC4 := Aside0.mk ho; have HB4 := Aside0.mk hb; have HF4a := Aside0.mk (Kd.R_over' (by (with_reducible repeat (first | apply Kd.R_alloc | apply Kd.R_drewN | apply Kd.R_drew)); exact HF3a.out) (Kd.R_typed (by (with_reducible repeat (first | apply Kd.R_alloc | apply Kd.R_drewN | apply Kd.R_drew)); exact HC3a.out)) (by decide) hg); have HF4 := Aside0.mk (Kd.R_over' (by (with_reducible repeat (first | apply Kd.R_alloc | apply Kd.R_drewN | apply Kd.R_drew)); exact HF3.out) (Kd.R_typed (by (with_reducible repeat (first | apply Kd.R_alloc | apply Kd.R_drewN | apply Kd.R_drew)); exact HC3a.out)) (by decide) hg); clear ho hb hg hat))
    | ((with_reducible refine gate_builtin (b := .append) (xs := #[.tmp 24, .tmp 25]) rfl ?_); go_must (at_builtin; refine Kd.R_append_rows k43 (w0 := w) w.heap.size rfl (.tmp 24) (.tmp 25) 24 43 (.agg #[(.int .i64 0), (.int .i64 0)]) 16 rfl Try.underlying24 info43 rfl (by decide) (by omega) u2 s.fs s.d.endF _ _ _ (fun _ => True) (fun _ => False) rfl rfl ?aO ?aR (fun _ _ h => h) (fun _ h => h.elim) ?aF ?aB ?aS ?aL ?_; (case aO => exact (by (with_reducible repeat (first | apply Kd.R_alloc | apply Kd.R_drewN | apply Kd.R_drew)); exact HF4a.out)); (case aR => exact (Kd.R_reads' (by (with_reducible repeat (first | apply Kd.R_alloc | apply Kd.R_drewN | apply Kd.R_drew)); exact HF4.out)).2.2); (case aF => exact (fun _ _ => trivial)); (case aB => exact (by (with_reducible repeat (first | apply below_alloc | apply pw_below_drewN | apply below_drew1)); exact HB4.out)); (case aS => exact below_size (by (with_reducible repeat (first | apply below_alloc | apply pw_below_drewN | apply below_drew1)); exact HB4.out)); (case aL => omega); intro v5 w5 ho hb hg hat; have HF5 := Aside0.mk ho; have HB5 := Aside0.mk hb; have HC5 := Aside0.mk (Kd.R_over' (by (with_reducible repeat (first | apply Kd.R_alloc | apply Kd.R_drewN | apply Kd.R_drew)); exact HC4.out) (Kd.R_typed (by (with_reducible repeat (first | apply Kd.R_alloc | apply Kd.R_drewN | apply Kd.R_drew)); exact HF4a.out)) (by decide) hg); clear ho hb hg hat)))
  go_ret2
  exact ⟨_, _, rfl, HC5.out, HF5.out, HB5.out⟩

/-- utf8in.Decode -/
def utf8in_Decode.f (a0 : ByteArray) : Option (List S34 × List S43) :=
  if a0.size ≤ 1000000000 then some ((St.upto a0 ⟨⟨0, 0, 0, 0, 0, 0⟩, [], []⟩ a0.size).cs ++ (St.upto a0 ⟨⟨0, 0, 0, 0, 0, 0⟩, [], []⟩ a0.size).d.endC, (St.upto a0 ⟨⟨0, 0, 0, 0, 0, 0⟩, [], []⟩ a0.size).fs ++ (St.upto a0 ⟨⟨0, 0, 0, 0, 0, 0⟩, [], []⟩ a0.size).d.endF) else none
theorem utf8in_Decode.calls (a0 : ByteArray) (r1 : List S34) (r2 : List S43) (w : World) (h : utf8in_Decode.f a0 = some (r1, r2)) :
    Calls Try.prog 8 #[.string a0] w fun e w' => ∃ v0 v1 : Value, e = .returned (.tuple #[v0, v1]) ∧ Kd.R k34 34 w' w.heap.size (fun _ => True) v0 r1 ∧ Kd.R k43 43 w' w.heap.size (fun _ => True) v1 r2 ∧ Below w.heap.size w w' := by
  unfold utf8in_Decode.f at h
  split at h
  case isTrue hs =>
    obtain ⟨rfl, rfl⟩ := Prod.mk.inj (Option.some.inj h)
    exact decode_walk a0 w hs
  case isFalse => cases h
end Go.Proofs.Ytncjlbbbojebhaa.P
