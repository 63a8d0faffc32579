/- The reference's buffer: Splice, done. -/
import Derived.Test.YtkeicfbjijnhnaaHandRef
namespace Go.Proofs.Ytkeicfbjijnhnaa.P
open Go.RowKit Go.Proofs.YtkeicfbjijnhnaaW.PrintWords Go.Proofs.YtkeicfbjijnhnaaW.PrintLast Go.Proofs.YtkeicfbjijnhnaaW.PrintMore Go.Proofs.Ytkeicfbjijnhnaa.Shelf Go.Proofs.Ytkeicfbjijnhnaa.Blk
set_option linter.unusedVariables false
section
variable {w : World} {base g : Nat} {ok : Nat → Prop} {S : ByteArray} {most : Int}
theorem refsplice_end {W1 w3 : World} {A A3 : Option Addr} {n c c3 : Nat} {N : ByteArray} {Old : List ByteArray} (hgz : g < w.heap.size) (hbg : base ≤ g) (hgo : ok g) (hz1 : w.heap.size ≤ W1.heap.size) (hL : Below w.heap.size w W1)
    (hb : Blk w3 g 49 #[.string S, .int .i64 most, .slice A n c]) (hr : Kd.R Kd.string 9 w3 W1.heap.size (fun k => W1.heap.size ≤ k) (.slice A3 (Old.length + 1) c3) (Old ++ [S])) (hB : Below W1.heap.size W1 w3) :
    RefAt ((w3.setCell ⟨g, 2, none⟩ (.slice A3 (Old.length + 1) c3)).setCell ⟨g, 0, none⟩ (.string N)).drew base (fun k => ok k ∨ w.heap.size ≤ k) g N most (Old ++ [S]) ∧ Below base w ((w3.setCell ⟨g, 2, none⟩ (.slice A3 (Old.length + 1) c3)).setCell ⟨g, 0, none⟩ (.string N)).drew ∧ Kept w ((w3.setCell ⟨g, 2, none⟩ (.slice A3 (Old.length + 1) c3)).setCell ⟨g, 0, none⟩ (.string N)).drew ok := by
  have h3 := below_then hL hz1 hB
  refine ⟨⟨.slice A3 (Old.length + 1) c3, (hb.set_ 2 (.slice A3 (Old.length + 1) c3)).set_ 0 (.string N), ?_, hbg, .inl hgo⟩, ?_, ?_⟩
  · refine Kd.R_mono (Kd.R_lower (Kd.R_below (Kd.R_far (p := ⟨g, 0, none⟩) (Kd.R_far (p := ⟨g, 2, none⟩) hr (fun k hk => by show k ≠ g; omega) (.slice A3 (Old.length + 1) c3)) (fun k hk => by show k ≠ g; omega) (.string N)) (below_drew1 (Below.refl _ _))) (by omega)) (fun k hk => ⟨.inr (by omega), by omega⟩)
  · exact (((below_mono h3 (by omega)).setCell (p := ⟨g, 2, none⟩) hbg (.slice A3 (Old.length + 1) c3)).setCell (p := ⟨g, 0, none⟩) hbg (.string N)).drew
  · exact (((Kept.of_below h3 ok).setCell (p := ⟨g, 2, none⟩) (.inl hgo) (.slice A3 (Old.length + 1) c3)).setCell (p := ⟨g, 0, none⟩) (.inl hgo) (.string N)).drew
set_option maxRecDepth 100000 in
set_option maxHeartbeats 1000000 in
theorem refsplice_ok (Old : List ByteArray) (a d : Int) (i : ByteArray) (h : RefAt w base ok g S most Old) (hO : Old.length ≤ 1000000) (hS : S.size ≤ 1000000) (hm : 0 ≤ most ∧ most ≤ 1000000) (hn : 0 ≤ a ∧ a ≤ S.size ∧ 0 ≤ d ∧ d ≤ S.size - a) (hi : (i.size : Int) ≤ most - ((S.size : Int) - d)) :
    Calls Try.prog 18 #[.pointer (some ⟨g, 0, none⟩), .agg #[.int .i64 a, .int .i64 d, .string i]] w fun e w' => e = .returned (.int .i64 0) ∧ RefAt w' base (fun k => ok k ∨ w.heap.size ≤ k) g ((S.extract 0 a.toNat ++ i) ++ S.extract (a + d).toNat S.size) most (Old ++ [S]) ∧ Below base w w' ∧ Kept w w' ok := by
  obtain ⟨v, hb, hr, hg, hgo⟩ := h
  obtain ⟨A, c, rfl⟩ := Kd.R_slice hr
  have hb0 := Blk.new w 32 #[.int .i64 a, .int .i64 d, .string i]
  have hb1 := hb.alloc (.cells #[.int .i64 a, .int .i64 d, .string i] 32)
  have HB0 := Aside0.mk (below_alloc (Below.refl w.heap.size w) (.cells #[.int .i64 a, .int .i64 d, .string i] 32))
  have HN := Aside0.mk (ref_may_yes (a := a) (d := d) (i := i) hS hn)
  have e1 : IntKind.i64.wrap ((S.size : Int) - d) = (S.size : Int) - d := IntWalk.i64_in _ (by omega)
  have e2 : IntKind.i64.wrap (most - (i.size : Int)) = most - (i.size : Int) := IntWalk.i64_in _ (by omega)
  have e3 : IntKind.i64.wrap (a + d) = a + d := IntWalk.i64_in _ (by omega)
  have hc1 : decide (most < (i.size : Int)) = false := decide_eq_false (by omega)
  have hc2 : decide (most - (i.size : Int) < (S.size : Int) - d) = false := decide_eq_false (by omega)
  have hz1 : (w.alloc (.cells #[.int .i64 a, .int .i64 d, .string i] 32)).heap.size = w.heap.size + 1 := by simp
  have HRC := Aside0.mk (Kd.C_below (Kd.R_reads' hr).2.2 HB0.out)
  have HR := Aside0.mk hr
  have HG := Aside0.mk (hb.lt)
  have HI := Aside0.mk (And.intro hn hi)
  clear hn hi
  go_enter Try.func18, Try.ntmps18
  go_wp2
  generalize w.alloc (.cells #[.int .i64 a, .int .i64 d, .string i] 32) = w0 at *
  generalize hz : w.heap.size = z at *
  have k0 : w0.cell? ⟨z, 0, none⟩ = some (.int .i64 a) := hb0.cell 0
  have k1 : w0.cell? ⟨z, 1, none⟩ = some (.int .i64 d) := hb0.cell 1
  have k2 : w0.cell? ⟨z, 2, none⟩ = some (.string i) := hb0.cell 2
  have c0 : w0.cell? ⟨g, 0, none⟩ = some (.string S) := hb1.cell 0
  have c1 : w0.cell? ⟨g, 1, none⟩ = some (.int .i64 most) := hb1.cell 1
  have BG := Aside0.mk hb1
  clear hb hr hb0 hb1
  go_region_held3 (fun w' => w'.cell? ⟨z, 0, none⟩ = some (.int .i64 a) ∧ w'.cell? ⟨z, 1, none⟩ = some (.int .i64 d) ∧ w'.cell? ⟨z, 2, none⟩ = some (.string i) ∧ w'.cell? ⟨g, 0, none⟩ = some (.string S)) (go_keep)
    (first | (go_at_call 14; refine (taffrailref01_May.calls a d i (S.size : Int) true _ HN.out).mono ?_; rintro e w1 ⟨rfl, hb1⟩; have L1 := Aside0.mk hb1; have k0 := pw_cell_below (w := w0.drew) hb1 k0; have k1 := pw_cell_below (w := w0.drew) hb1 k1; have k2 := pw_cell_below (w := w0.drew) hb1 k2; have c0 := pw_cell_below (w := w0.drew) hb1 c0; have c1 := pw_cell_below (w := w0.drew) hb1 c1; have BG1 := Aside0.mk (Blk.below (w := w0.drew) BG.out hb1 BG.out.lt); clear hb1))
  go_wp2
  go_quiet (fail)
  go_wp2
  have HZ1 : Aside0 (w.heap.size + 1 ≤ w1.heap.size) := ⟨by have := L1.out.size; have h2 : w0.drew.heap.size = w0.heap.size := rfl; omega⟩
  have HL1 : Aside0 (Below z w (w1.drewN nq)) := ⟨pw_below_drewN (below_then (below_drew1 HB0.out) (show z ≤ w0.drew.heap.size from by have h2 : w0.drew.heap.size = w0.heap.size := rfl; omega) L1.out) _⟩
  have HRC1 : Aside0 (Kd.string.C (w1.drewN nq) A Old.length Old) := ⟨Kd.C_below (w := w0.drew) (Kd.C_below HRC.out (below_drew1 (Below.refl _ _))) (pw_below_drewN L1.out _)⟩
  have c2 : w1.cell? ⟨g, 2, none⟩ = some (.slice A Old.length c) := BG1.out.cell 2
  have BG2 : Aside0 (Blk (w1.drewN nq) g 49 #[.string S, .int .i64 most, .slice A Old.length c]) := ⟨BG1.out⟩
  have q0 : (w1.drewN nq).cell? ⟨z, 0, none⟩ = some (.int .i64 a) := k0
  have q1 : (w1.drewN nq).cell? ⟨z, 1, none⟩ = some (.int .i64 d) := k1
  have q2 : (w1.drewN nq).cell? ⟨z, 2, none⟩ = some (.string i) := k2
  have d0 : (w1.drewN nq).cell? ⟨g, 0, none⟩ = some (.string S) := c0
  have d2 : (w1.drewN nq).cell? ⟨g, 2, none⟩ = some (.slice A Old.length c) := c2
  have hz2 : (w1.drewN nq).heap.size = w1.heap.size := rfl
  have HZ2 : Aside0 (z + 1 ≤ (w1.drewN nq).heap.size) := ⟨by have := HZ1.out; omega⟩
  clear k0 k1 k2 c0 c1 c2 BG1 L1 HB0 HRC HZ1 BG hz1 hz2 hc1 hc2 e1 e2
  generalize w1.drewN nq = W1 at *
  have N1 := Aside0.mk trivial
  have hgW : g < W1.heap.size := BG2.out.lt
  have hzg : z ≠ g := by have := HG.out; omega
  have y0 : (0 : Int) ≤ a := HI.out.1.1
  have y1 : a ≤ (S.size : Int) := HI.out.1.2.1
  have y2 : (0 : Int) ≤ a + d := by have := HI.out; omega
  have y3 : a + d ≤ (S.size : Int) := by have := HI.out; omega
  have y4 : ¬ (9223372036854775807 < a.toNat + i.size) := by have := HI.out; omega
  have y5 : ¬ (9223372036854775807 < a.toNat + i.size + (S.size - (a + d).toNat)) := by have := HI.out; omega
  go_cut [] (fun wc => ∃ w3 A3 c3, wc = w3.setCell ⟨g, 2, none⟩ (.slice A3 (Old.length + 1) c3) ∧ Aside0 (Kd.R Kd.string 9 w3 W1.heap.size (fun k => W1.heap.size ≤ k) (.slice A3 (Old.length + 1) c3) (Old ++ [S])) ∧ Aside0 (Below W1.heap.size W1 w3))
  case first =>
    go_region_law (first
      | ((have gA := N1.out; clear gA N1); refine Kd.R_append_rows_step Kd.string (Rr := fun x cs => cs = [Value.string x]) (w0 := W1) W1.heap.size rfl (.const (.slice none 0 0)) (.tmp 44) 28 9 (.string ⟨#[]⟩) 16 rfl Try.underlying28 info9 rfl (by decide) (by decide) (.slice none 0 0) [] Old A Old.length c (fun k => W1.heap.size ≤ k) (fun _ => False) rfl rfl (Kd.R_nil _ _ _ _ _) (Kd.C_below HRC1.out ?aC) (fun x cs h => h) (fun _ h => h.elim) (fun k hk => Nat.le_trans ?aS hk) ?aB ?aS2 (by rw [List.length_nil]; omega) ?_; (case aC => (with_reducible repeat (first | apply below_alloc | apply below_drew1)); exact Below.refl _ _); (case aS => first | exact Nat.le_refl _ | (simp)); (case aS2 => first | exact Nat.le_refl _ | (simp)); (case aB => (with_reducible repeat (first | apply below_alloc | apply below_drew1)); exact Below.refl _ _); intro v2 w2 hr2 hb2 hg2 hat2; rw [List.nil_append] at hr2; have HR2 := Aside0.mk hr2; have HB2 := Aside0.mk hb2; have HG2 := Aside0.mk hg2; have d0 := pw_cell_below hb2 d0; clear hr2 hb2 hg2 hat2)
      | ((have gA := HG2.out; clear gA); refine Kd.R_append_rows_step Kd.string (Rr := fun x cs => cs = [Value.string x]) (w0 := W1) W1.heap.size rfl (.tmp 45) (.tmp 50) 28 9 (.string ⟨#[]⟩) 16 rfl Try.underlying28 info9 rfl (by decide) (by decide) v2 Old [S] (some ⟨w2.heap.size, 0, none⟩) 1 1 (fun k => W1.heap.size ≤ k) (fun _ => False) rfl rfl ?bO ?bR (fun x cs h => h) (fun _ h => h.elim) (fun k hk => Nat.le_trans ?bS hk) ?bB ?bS2 ?bL ?_; (case bL => omega); (case bO => (with_reducible repeat (first | apply Kd.R_alloc | apply Kd.R_drew)); exact HR2.out); (case bR => exact str_row (Blk.new _ _ _)); (case bS => first | exact HB2.out.size | (have := HB2.out.size; simp; omega)); (case bS2 => first | exact HB2.out.size | (have := HB2.out.size; simp; omega)); (case bB => (with_reducible repeat (first | apply below_alloc | apply below_drew1)); exact HB2.out); intro v3 w3 hr3 hb3 hg3 hat3; have HR3 := Aside0.mk hr3; have HB3 := Aside0.mk hb3; have q0 := pw_cell_below hb3 q0; have q1 := pw_cell_below hb3 q1; have q2 := pw_cell_below hb3 q2; have BG3 := Aside0.mk (BG2.out.below hb3 BG2.out.lt); have d0 : w3.cell? ⟨g, 0, none⟩ = some (.string S) := BG3.out.cell 0; have d2 : w3.cell? ⟨g, 2, none⟩ = some (.slice A Old.length c) := BG3.out.cell 2; have f2 := BG3.out.frozen 2; have f0 := BG3.out.frozen 0; clear hr3 hb3 hg3 hat3; obtain ⟨A3, c3, rfl⟩ := Kd.R_slice HR3.out)
      | ((have gA := HG2.out; clear gA); refine Kd.R_append_rows_step Kd.string (Rr := fun x cs => cs = [Value.string x]) (w0 := W1) W1.heap.size rfl (.tmp 45) (.tmp 50) 28 9 (.string ⟨#[]⟩) 16 rfl Try.underlying28 info9 rfl (by decide) (by decide) v2 Old [S] (some ⟨W1.heap.size, 0, none⟩) 1 1 (fun k => W1.heap.size ≤ k) (fun _ => False) rfl rfl ?cO ?cR (fun x cs h => h) (fun _ h => h.elim) (fun k hk => Nat.le_trans ?cS hk) ?cB ?cS2 ?cL ?_; (case cL => omega); (case cO => (with_reducible repeat (first | apply Kd.R_alloc | apply Kd.R_drew)); exact HR2.out); (case cR => exact str_row (Blk.grown (w := (W1.alloc (.cells #[.string S] 9)).drew) (Blk.new W1 9 #[.string S]) HG2.out (by simp [Value.ownBlock]))); (case cS => first | exact HB2.out.size | (have := HB2.out.size; simp; omega)); (case cS2 => first | exact HB2.out.size | (have := HB2.out.size; simp; omega)); (case cB => (with_reducible repeat (first | apply below_alloc | apply below_drew1)); exact HB2.out); intro v3 w3 hr3 hb3 hg3 hat3; have HR3 := Aside0.mk hr3; have HB3 := Aside0.mk hb3; have q0 := pw_cell_below hb3 q0; have q1 := pw_cell_below hb3 q1; have q2 := pw_cell_below hb3 q2; have BG3 := Aside0.mk (BG2.out.below hb3 BG2.out.lt); have d0 : w3.cell? ⟨g, 0, none⟩ = some (.string S) := BG3.out.cell 0; have d2 : w3.cell? ⟨g, 2, none⟩ = some (.slice A Old.length c) := BG3.out.cell 2; have f2 := BG3.out.frozen 2; have f0 := BG3.out.frozen 0; clear hr3 hb3 hg3 hat3; obtain ⟨A3, c3, rfl⟩ := Kd.R_slice HR3.out))
    all_goals (go_wp2; go_meet; case rel => (have hr4 := HR3.out; simp only [List.length_append, List.length_singleton] at hr4; exact ⟨w3, A3, c3, by simp, ⟨hr4⟩, HB3⟩))
  case rest =>
    obtain ⟨w3, A3, c3, rfl, HR3, HB3⟩ := hcut
    have q0 := pw_cell_below HB3.out q0
    have q1 := pw_cell_below HB3.out q1
    have q2 := pw_cell_below HB3.out q2
    have BG3 := Aside0.mk (BG2.out.below HB3.out BG2.out.lt)
    have d0 : w3.cell? ⟨g, 0, none⟩ = some (.string S) := BG3.out.cell 0
    have f0 := BG3.out.frozen 0
    go_wp2
    go_region
    all_goals go_wp2
    all_goals go_ret
    subst hz
    exact ⟨rfl, refsplice_end HG.out hg hgo (by have := HZ2.out; omega) HL1.out BG3.out HR3.out HB3.out⟩
end
end Go.Proofs.Ytkeicfbjijnhnaa.P
