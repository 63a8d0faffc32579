/- The reference's tokenizer: told, of one character: the walk. -/
import Derived.Test.YtdciombpffkcjaaTok4
namespace Go.Proofs.Ytdciombpffkcjaa.P
open Go.RowKit Go.Proofs.YtdciombpffkcjaaW.PrintWords Go.Proofs.YtdciombpffkcjaaW.PrintLast Go.Proofs.YtdciombpffkcjaaW.PrintMore Go.Proofs.Ytdciombpffkcjaa.Blk
set_option linter.unusedVariables false
set_option linter.unusedSimpArgs false
/-- an operation's frame written another way -/
theorem law_frame {P : Program} {ops : Array Oper} {o : Oper} {a a' : Act} {W : World} {Q : Exit → Act → World → Prop} {Kc : Act → World → Prop} (h : a = a') (hg : if Region.wanted o (yielded ops a'.tmps) = true then Oper.wp P o a' W Kc Q else Kc (a'.put o.dst undef) W) : if Region.wanted o (yielded ops a.tmps) = true then Oper.wp P o a W Kc Q else Kc (a.put o.dst undef) W := by
  subst h
  exact hg
/-- a character's token -/
def ctok (x : S64) : S39 := ⟨1, x.f0, ⟨#[]⟩, ⟨#[]⟩, [], false, ⟨x.f1, x.f2⟩⟩
section
variable {w0 W W' : World} {g : Nat} {L : List S64} {At N Tx : Int} {La : ByteArray} {F : List S66} {Dn : Bool}
set_option maxRecDepth 100000 in
set_option maxHeartbeats 1000000 in
theorem ttold_calls (fr : Int) (h : TAt w0 W g L At N Tx La F Dn) (h0 : 0 ≤ fr) (h1 : At = fr + 1) (hA : At ≤ (L.length : Int)) (hb : At ≤ 1000000000000) : Calls Try.prog 37 #[.pointer (some ⟨g, 0, none⟩), .int .i64 fr] W fun e w' => ∃ v, e = .returned v ∧ Kd.R kT 39 w' W.heap.size (fun k => W.heap.size ≤ k) v [ctok (rd_T64 L fr)] ∧ Below W.heap.size W w' := by
  obtain ⟨vL, vF, g1, g2, g3, g4, g5⟩ := h
  obtain ⟨A, c, rfl, hlc, hC⟩ := Kd.R_reads g2
  obtain ⟨ad, rfl, e0, e1, e2⟩ := at_T64 hC fr h0 (by omega)
  generalize rd_T64 L fr = X at *
  have c0 : W.cell? ⟨g, 0, none⟩ = some (.slice (some ad) L.length c) := g1.cell 0
  have c1 : W.cell? ⟨g, 1, none⟩ = some (.int .i64 At) := g1.cell 1
  have hw : IntKind.i64.wrap (fr + 1) = At := by rw [IntWalk.i64_in _ (by omega), h1]
  have b1 : fr < (L.length : Int) := by omega
  have H1 := Aside0.mk h1
  clear g1 g2 g3 g4 g5 hC hlc h1
  go_enter Try.func37, Try.ntmps37
  go_wp2
  go_loopw [5, 6] (fun v5 v6 wr => (v6 = .int .i64 fr ∧ v5 = .slice none 0 0 ∧ wr = W) ∨ (v6 = .int .i64 At ∧ Aside0 (Kd.R kT 39 wr W.heap.size (fun k => W.heap.size ≤ k) v5 [ctok X]) ∧ Aside0 (Below W.heap.size W wr))) (fun _ v6 _ => (At - intOf v6).toNat)
  case atStart => exact .inl ⟨rfl, rfl, rfl⟩
  case round =>
    rcases hrel with ⟨rfl, rfl, hw1⟩ | ⟨rfl, HR, HB⟩
    · obtain rfl := hw1.symm
      have hlt : fr < At := by have := H1.out; omega
      have N1 := Aside0.mk trivial
      clear hw1 hA hb H1
      go_upto_region 5 with (fail)
      have HLT := Aside0.mk hlt
      have C1 := Aside0.mk c1
      clear c1 hlt
      go_region_held3 (fun w' => w'.cell? ⟨g, 0, none⟩ = some (.slice (some ad) L.length c) ∧ w'.cell? (ad.add (fr.toNat * 3)) = some (.int .i64 X.f0) ∧ w'.cell? ⟨(ad.add (fr.toNat * 3)).block, (ad.add (fr.toNat * 3)).off + 1, none⟩ = some (.int .i64 X.f1) ∧ w'.cell? ⟨(ad.add (fr.toNat * 3)).block, (ad.add (fr.toNat * 3)).off + 2, none⟩ = some (.int .i64 X.f2)) (first | go_keep | exact ⟨pw_cell_below HB2.out c0, pw_cell_below HB2.out e0, pw_cell_below HB2.out e1, pw_cell_below HB2.out e2⟩) (first
        | ((have gA := N1.out; clear gA N1); refine law_frame (a' := ?_) ?_ ?_; rotate_left; (focus ((try simp only [Act.put, List.getElem_toArray, List.getElem_cons_zero, List.getElem_cons_succ, List.setIfInBounds_toArray, List.set_cons_zero, List.set_cons_succ]); rfl)); refine Kd.R_append_rows_step kT (Rr := Tcs) (w0 := W) W.heap.size rfl (.tmp 16) (.tmp 43) 22 39 (.agg #[.int .i64 0, .int .i64 0, .string ⟨#[]⟩, .string ⟨#[]⟩, .slice none 0 0, .bool false, .int .i64 0, .int .i64 0]) 96 rfl Try.underlying22 inf39 rfl (by decide) (by decide) (.slice none 0 0) [] [ctok X] (some ⟨W.heap.size, 0, none⟩) 1 1 (fun k => W.heap.size ≤ k) (fun _ => False) rfl rfl (Kd.R_nil _ _ _ _ _) (tok_row (cs := [.int .i64 1, .int .i64 X.f0, .string ⟨#[]⟩, .string ⟨#[]⟩, .slice none 0 0, .bool false, .int .i64 X.f1, .int .i64 X.f2]) ⟨rfl, rfl⟩ (Blk.new _ _ _)) (fun x cs h => h) (fun _ h => h.elim) (fun k hk => Nat.le_trans ?aS hk) ?aB ?aS2 (by decide) ?_; (case aS => simp); (case aS2 => simp); (case aB => ((with_reducible repeat (first | apply below_alloc | apply below_drew1)); exact Below.refl _ _)); intro v2 w2 hr2 hb2 hg2 hat2; have HR2 := Aside0.mk hr2; have HB2 := Aside0.mk hb2; clear hr2 hb2 hg2 hat2))
      all_goals (
        go_wp2
        go_roundw
        case rel => first | exact .inr ⟨rfl, HR2, HB2⟩ | ((repeat apply Exists.intro); exact ⟨.inr ⟨rfl, HR2, HB2⟩, rfl⟩)
        case measure => (have := HLT.out; simp [intOf]; omega))
    · have hlt : ¬ At < At := by omega
      have c0 := pw_cell_below HB.out c0
      have c1 := pw_cell_below HB.out c1
      go_wp2
      go_ret
      exact ⟨_, rfl, HR.out, HB.out⟩
end
end Go.Proofs.Ytdciombpffkcjaa.P
