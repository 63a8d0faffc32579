/- The reference's tokenizer: tag, of the name b alone. -/
import Derived.Test.YtdciombpffkcjaaTok6
import Derived.Test.YtdciombpffkcjaaPx9
namespace Go.Proofs.Ytdciombpffkcjaa.P
open Go.RowKit Go.Proofs.YtdciombpffkcjaaW.PrintWords Go.Proofs.YtdciombpffkcjaaW.PrintLast Go.Proofs.YtdciombpffkcjaaW.PrintMore Go.Proofs.Ytdciombpffkcjaa.Blk
set_option linter.unusedVariables false
set_option linter.unusedSimpArgs false
theorem lower98 : taffrailref10_lower.f 20 98 = some ⟨#[98]⟩ := by decide +kernel
theorem blank98 : taffrailref07_Blank.f 98 = some false := rfl
theorem blank62 : taffrailref07_Blank.f 62 = some false := rfl
theorem drawn_below {w w' : World} (h : Drawn0 w w') : Below w.heap.size w w' := by
  obtain ⟨n, rfl⟩ := h
  exact pw_below_drewN (Below.refl _ _) n
section
variable {w0 W W' : World} {g : Nat} {L : List S64} {At N Tx : Int} {La : ByteArray} {F : List S66} {Dn : Bool}
theorem tdone_calls (kind : Int) (hk : kind = 2 ∨ kind = 3) (nm : ByteArray) (fr : Int) (h : TAt w0 W g L At N Tx La F Dn) (h0 : 0 ≤ fr) (h1 : fr < (L.length : Int)) (h2 : 1 ≤ At) (h3 : At ≤ (L.length : Int)) (hb : At ≤ 1000000000000) :
    Calls Try.prog 63 #[.pointer (some ⟨g, 0, none⟩), .int .i64 fr, .agg #[.int .i64 kind, .int .i64 0, .string nm, .string ⟨#[]⟩, .slice none 0 0, .bool false, .int .i64 0, .int .i64 0]] W fun e w' =>
      ∃ v, e = .returned v ∧ Kd.R kT 39 w' W.heap.size (fun k => W.heap.size ≤ k) v [gtok kind nm (rd_T64 L fr).f1 (rd_T64 L (At - 1)).f2] ∧ TAt w0 w' g L At N 0 (if kind = 2 then nm else La) F Dn ∧ KT g W w' := by
  rcases hk with rfl | rfl
  · exact tdone2_calls nm fr h h0 h1 h2 h3 hb
  · exact tdone3_calls nm fr h h0 h1 h2 h3 hb
/-- a tag on its way: its box, the state -/
structure Tg (w0 W wr : World) (g bx : Nat) (L : List S64) (At N Tx : Int) (La : ByteArray) (F : List S66) (Dn : Bool) (kind : Int) (nm : ByteArray) : Prop where
  t : TAt w0 wr g L At N Tx La F Dn
  b : Blk wr bx 39 #[.int .i64 kind, .int .i64 0, .string nm, .string ⟨#[]⟩, .slice none 0 0, .bool false, .int .i64 0, .int .i64 0]
  k : KT g W wr
theorem Tg.below {wr w' : World} {bx : Nat} {kind : Int} {nm : ByteArray} (h : Tg w0 W wr g bx L At N Tx La F Dn kind nm) (hb : Below wr.heap.size wr w') : Tg w0 W w' g bx L At N Tx La F Dn kind nm :=
  ⟨h.t.below hb, h.b.below hb h.b.lt, h.k.trans (KT.of_below hb)⟩
theorem TAt.setx (h : TAt w0 W g L At N Tx La F Dn) {bx : Nat} {cs : Array Value} (hb : Blk W bx 39 cs) (hne : bx ≠ g) (hw : w0.heap.size ≤ bx) (i : Nat) (u : Value) : TAt w0 (W.setCell ⟨bx, i, none⟩ u) g L At N Tx La F Dn := by
  obtain ⟨vL, vF, h1, h2, h3, h4, h5⟩ := h
  exact ⟨vL, vF, h1.far (p := ⟨bx, i, none⟩) (Ne.symm hne) u, Kd.R_set h2 hb (ty64 (.inr rfl)) i u, Kd.R_set h3 hb (ty66 (.inr rfl)) i u, h4, h5.setCell (p := ⟨bx, i, none⟩) hw u⟩
theorem Tg.setn {wr : World} {kind : Int} {nm : ByteArray} (h : Tg w0 W wr g W.heap.size L At N Tx La F Dn kind nm) (hne : W.heap.size ≠ g) (hw : w0.heap.size ≤ W.heap.size) (n2 : ByteArray) : Tg w0 W (wr.setCell ⟨W.heap.size, 2, none⟩ (.string n2)) g W.heap.size L At N Tx La F Dn kind n2 :=
  ⟨h.t.setx h.b hne hw 2 _, h.b.set_ 2 (.string n2), ⟨by simpa [World.setCell] using h.k.1, fun k hk hg ht => (Below.heap_setCell wr ⟨W.heap.size, 2, none⟩ _ k (Nat.ne_of_lt hk)).trans (h.k.2 k hk hg ht)⟩⟩
theorem Tg.setAt {wr : World} {kind : Int} {nm : ByteArray} (h : Tg w0 W wr g W.heap.size L At N Tx La F Dn kind nm) (hne : W.heap.size ≠ g) (x : Int) : Tg w0 W (wr.setCell ⟨g, 1, none⟩ (.int .i64 x)) g W.heap.size L x N Tx La F Dn kind nm :=
  ⟨h.t.setAt x, h.b.far (p := ⟨g, 1, none⟩) hne _, h.k.trans (KT.setg g 1 _ wr)⟩
theorem Tg.drew1 {wr : World} {bx : Nat} {kind : Int} {nm : ByteArray} (h : Tg w0 W wr g bx L At N Tx La F Dn kind nm) : Tg w0 W wr.drew g bx L At N Tx La F Dn kind nm := h.below (below_drew1 (Below.refl _ _))
set_option maxRecDepth 100000 in
set_option maxHeartbeats 2000000 in
theorem ttag_calls (kind : Int) (hk : kind = 2 ∨ kind = 3) (fr : Int) (h : TAt w0 W g L At N Tx La F Dn) (h0 : 0 ≤ fr) (h1 : fr < At) (h3 : At + 2 ≤ (L.length : Int)) (hb : At + 2 ≤ 1000000000000) (e98 : chr L At = 98) (e62 : chr L (At + 1) = 62) :
    Calls Try.prog 48 #[.pointer (some ⟨g, 0, none⟩), .int .i64 fr, .int .i64 kind] W fun e w' =>
      ∃ v, e = .returned v ∧ Kd.R kT 39 w' W.heap.size (fun k => W.heap.size ≤ k) v [gtok kind ⟨#[98]⟩ (rd_T64 L fr).f1 (rd_T64 L (At + 1)).f2] ∧ TAt w0 w' g L (At + 2) N 0 (if kind = 2 then ⟨#[98]⟩ else La) F Dn ∧ KT g W w' := by
  obtain ⟨La2, hla⟩ : ∃ La2 : ByteArray, (if kind = 2 then ⟨#[98]⟩ else La) = La2 := ⟨_, rfl⟩
  rw [hla]
  have HLA := Aside0.mk hla
  clear hla
  have hT0 : Tg w0 W (W.alloc (.cells #[.int .i64 kind, .int .i64 0, .string ⟨#[]⟩, .string ⟨#[]⟩, .slice none 0 0, .bool false, .int .i64 0, .int .i64 0] 39)) g W.heap.size L At N Tx La F Dn kind ⟨#[]⟩ :=
    ⟨h.alloc _, Blk.new _ _ _, KT.of_below (below_alloc (Below.refl _ _) _)⟩
  have HT0 := Aside0.mk hT0
  have HB := Aside0.mk (And.intro h0 (And.intro h1 (And.intro h3 hb)))
  have hgb : W.heap.size ≠ g := Nat.ne_of_gt h.lt
  have HW0 := Aside0.mk h.bel.size
  have E98 := Aside0.mk e98
  have E62 := Aside0.mk e62
  have HK := Aside0.mk hk
  clear h h0 h1 h3 hb e98 e62 hT0 hk
  go_enter Try.func48, Try.ntmps48
  go_wp2
  go_loopw [] (fun wr => Aside0 (Tg w0 W wr g W.heap.size L At N Tx La F Dn kind ⟨#[]⟩) ∨ Aside0 (Tg w0 W wr g W.heap.size L (At + 1) N Tx La F Dn kind ⟨#[98]⟩)) (fun wr => (At + 1 - intOf ((wr.cell? ⟨g, 1, none⟩).getD undef)).toNat)
  case atStart => exact .inl HT0
  case round =>
    rcases hrel with T | T
    · have M0 := Aside0.mk T.out.t.c1
      go_upto_region 3 with (first
        | (go_at_call 32; refine (tc_calls T.out.t (by have := HB.out; omega)).mono ?_; rw [E98.out]; rintro e w9 ⟨rfl, hb9⟩; replace T := Aside0.mk (T.out.below hb9); clear hb9)
        | (go_at_call 51; refine (taffrailref07_Blank.calls 98 false _ blank98).mono ?_; rintro e w8 ⟨rfl, hb8⟩; replace T := Aside0.mk (T.out.below (drawn_below hb8)); clear hb8))
      go_cut [] (fun wz => Aside0 (Tg w0 W wz g W.heap.size L At N Tx La F Dn kind ⟨#[98]⟩))
      case first =>
        have d2 := T.out.b.cell 2
        have d2' := T.out.drew1.b.cell 2
        have f2 := T.out.b.frozen 2
        go_region_with (first
          | (go_at_call 32; first
             | (refine (tc_calls T.out.t (by have := HB.out; omega)).mono ?_; rw [E98.out]; rintro e w9 ⟨rfl, hb9⟩; have T9 := Aside0.mk (T.out.below hb9); clear hb9; have k2 := T9.out.b.cell 2; have q2 := T9.out.b.frozen 2)
             | (refine (tc_calls T.out.drew1.t (by have := HB.out; omega)).mono ?_; rw [E98.out]; rintro e w9 ⟨rfl, hb9⟩; have T9 := Aside0.mk (T.out.drew1.below hb9); clear hb9; have k2 := T9.out.b.cell 2; have q2 := T9.out.b.frozen 2))
          | (go_at_call 50; refine (taffrailref10_lower.calls 20 98 _ _ lower98).mono ?_; rintro e w8 ⟨rfl, hb8⟩; have T8 := Aside0.mk (by first | exact T9.out.below hb8 | exact T9.out.drew1.below hb8 : Tg w0 W w8 g W.heap.size L At N Tx La F Dn kind ⟨#[]⟩); clear hb8; have l2 := T8.out.b.cell 2; have p2 := T8.out.b.frozen 2))
        all_goals (
          go_wp2
          go_meet
          case rel => exact ⟨T8.out.setn hgb HW0.out _⟩)
      case rest =>
        clear T
        obtain ⟨T⟩ := hcut
        have c1 := T.t.c1
        have f1 := T.t.fr 1
        have T1 := Aside0.mk (T.setAt hgb (At + 1))
        have HM := Aside0.mk (T.setAt hgb (At + 1)).t.c1
        have b0 : 0 ≤ At := by have := HB.out; omega
        have b1 : At ≤ 1000000000000 := by have := HB.out; omega
        clear T
        go_wp2
        go_roundw
        case rel => first | exact .inr T1 | ((repeat apply Exists.intro); exact ⟨.inr T1, rfl⟩)
        case measure => (rw [HM.out, M0.out]; simp [intOf]; omega)
    · go_upto_region 5 with (first
        | (go_at_call 32; refine (tc_calls T.out.t (by have := HB.out; omega)).mono ?_; rw [E62.out]; rintro e w9 ⟨rfl, hb9⟩; replace T := Aside0.mk (T.out.below hb9); clear hb9)
        | (go_at_call 51; refine (taffrailref07_Blank.calls 62 false _ blank62).mono ?_; rintro e w8 ⟨rfl, hb8⟩; replace T := Aside0.mk (T.out.below (drawn_below hb8)); clear hb8))
      go_loopw [] (fun wr => Aside0 (Tg w0 W wr g W.heap.size L (At + 1) N Tx La F Dn kind ⟨#[98]⟩)) (fun _ => 0)
      case atStart => exact T
      case round =>
        clear T
        have T := hrel
        clear hrel
        go_upto_region 5 with (fail)
        go_loopw [] (fun wr => Aside0 (Tg w0 W wr g W.heap.size L (At + 1) N Tx La F Dn kind ⟨#[98]⟩)) (fun _ => 0)
        case atStart => exact T
        case round =>
          clear T
          have T := hrel
          clear hrel
          go_upto_region 15 with (first
            | (go_at_call 32; refine (tc_calls T.out.t (by have := HB.out; omega)).mono ?_; rw [E62.out]; rintro e w9 ⟨rfl, hb9⟩; replace T := Aside0.mk (T.out.below hb9); clear hb9)
            | (go_at_call 51; refine (taffrailref07_Blank.calls 62 false _ blank62).mono ?_; rintro e w8 ⟨rfl, hb8⟩; replace T := Aside0.mk (T.out.below (drawn_below hb8)); clear hb8))
          have c1 := T.out.t.c1
          have f1 := T.out.t.fr 1
          have b0 : 0 ≤ At := by have := HB.out; omega
          have b1 : At ≤ 1000000000000 := by have := HB.out; omega
          have T2 := Aside0.mk (T.out.setAt hgb (At + 1 + 1))
          have y0 := T2.out.b.cell 0
          have y1 := T2.out.b.cell 1
          have y2 := T2.out.b.cell 2
          have y3 := T2.out.b.cell 3
          have y4 := T2.out.b.cell 4
          have y5 := T2.out.b.cell 5
          have y6 := T2.out.b.cell 6
          have y7 := T2.out.b.cell 7
          clear T
          go_wp2_with (go_at_call 63; refine (tdone_calls kind HK.out ⟨#[98]⟩ fr T2.out.t (by have := HB.out; omega) (by have := HB.out; omega) (by have := HB.out; omega) (by have := HB.out; omega) (by have := HB.out; omega)).mono ?_; rintro e w9 ⟨v, rfl, hr, ht, hk⟩; rw [HLA.out] at ht; have R9 := Aside0.mk (Kd.R_mono (Kd.R_lower hr T2.out.k.1) (fun k hk => Nat.le_trans T2.out.k.1 hk)); have T9 := Aside0.mk ht; have K9 := Aside0.mk (T2.out.k.trans hk); clear hr ht hk)
          go_ret
          have e1 : At + 1 + 1 - 1 = At + 1 := by omega
          have e2 : At + 1 + 1 = At + 2 := by omega
          have r9 := R9.out
          have t9 := T9.out
          rw [e1] at r9
          rw [e2] at t9
          exact ⟨_, rfl, r9, t9, K9.out⟩
end
end Go.Proofs.Ytdciombpffkcjaa.P
