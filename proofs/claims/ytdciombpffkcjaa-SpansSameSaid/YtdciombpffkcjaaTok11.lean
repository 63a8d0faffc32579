/- The reference's Merge, with no fault in the first row and none or one in the second. -/
import Derived.Test.YtdciombpffkcjaaTok10
import Derived.Deep.Upon
namespace Go.Proofs.Ytdciombpffkcjaa.P
open Go.RowKit Go.Proofs.YtdciombpffkcjaaW.PrintWords Go.Proofs.YtdciombpffkcjaaW.PrintLast Go.Proofs.YtdciombpffkcjaaW.PrintMore Go.Proofs.Ytdciombpffkcjaa.Blk
set_option linter.unusedVariables false
set_option linter.unusedSimpArgs false
theorem step_append_nothing {P : Program} {ops : Array Oper} {o : Oper} {a : Act} {K : Act → World → Prop} {Q : Exit → Act → World → Prop} {E : Prop} (w : World) (hgd : o.guard = none) (s x : Operand) (t e : TypeId)
    (ho : o.op = .call { callee := .builtin .append, args := #[s, x], argTypes := #[t, t] }) (ht : P.underlying t = some (.slice e)) {f : TypeInfo → Option Value × Nat × Nat} {z : Option Value × Nat × Nat} (hi : (P.info? e).map f = some z)
    (base : Option Addr) (sLen sCap c : Nat) (hle : sLen ≤ sCap) (hs : a.eval s = .slice base sLen sCap) (hx : a.eval x = .slice none 0 c) (h : K (a.put o.dst (.slice base sLen sCap)) w) :
    if Region.wanted o (yielded ops a.tmps) = true then Oper.wp P o a w K Q else E := by
  have hw : Region.wanted o (yielded ops a.tmps) = true := by simp [Region.wanted, hgd]
  rw [if_pos hw]
  cases hi' : P.info? e with
  | none => rw [hi'] at hi; cases hi
  | some i =>
    have hr := fun ty => run_append_nothing (P := P) w t t ty e i ht hi' base sLen sCap hle (.slice none 0 c) (Src.ofNil w ht c)
    unfold Oper.wp execOp
    simp only [ho, resolve, invoke, builtin, Sem.run_bind, Sem.run_pure, Result.andThen_ok, List.map_toArray, List.map_cons, List.map_nil, hs, hx, hr]
    exact h
section
variable {W : World}
set_option maxRecDepth 100000 in
set_option maxHeartbeats 2000000 in
theorem tmerge0 (A0 : Option Addr) (c0 : Nat) (A1 : Option Addr) (c1 : Nat) : Calls Try.prog 29 #[.slice A0 0 c0, .slice A1 0 c1] W fun e w' => e = .returned (.slice none 0 0) ∧ Below W.heap.size W w' := by
  go_enter Try.func29, Try.ntmps29
  go_wp2
  go_loopw [6, 7] (fun v6 v7 wr => v6 = .slice none 0 0 ∧ v7 = .int .i64 0 ∧ Aside0 (wr = W)) (fun _ _ _ => 0)
  case atStart => exact ⟨rfl, rfl, ⟨rfl⟩⟩
  case round =>
    obtain ⟨rfl, rfl, hw1⟩ := hrel
    obtain rfl := hw1.out.symm
    clear hw1
    go_wp2
    go_loopw [0, 5, 6] (fun v0 v5 v6 wr => v0 = .slice A0 0 c0 ∧ v5 = .slice none 0 0 ∧ v6 = .slice none 0 0 ∧ Aside0 (Below W.heap.size W wr)) (fun _ _ _ _ => 0)
    case atStart => exact ⟨rfl, rfl, rfl, ⟨Below.refl _ _⟩⟩
    case round =>
      obtain ⟨rfl, rfl, rfl, HB⟩ := hrel
      go_wp2
      go_ret
      exact ⟨rfl, HB.out⟩
set_option maxRecDepth 100000 in
set_option maxHeartbeats 2000000 in
theorem tmerge1 (A0 : Option Addr) (c0 : Nat) (A1 : Option Addr) (c1 : Nat) (x : S66) (base : Nat) (ok : Nat → Prop) (h : Kd.R k66 66 W base ok (.slice A1 1 c1) [x]) : Calls Try.prog 29 #[.slice A0 0 c0, .slice A1 1 c1] W fun e w' => ∃ v, e = .returned v ∧ Kd.R k66 66 w' W.heap.size (fun _ => True) v [x] ∧ Below W.heap.size W w' := by
  obtain ⟨A, c, e, hlc, hC⟩ := Kd.R_reads h
  cases e
  obtain ⟨ad, rfl, e0, e1⟩ := at_T66 hC 0 (Int.le_refl 0) (by simp)
  have hx : rd_T66 [x] 0 = x := rfl
  rw [hx] at e0 e1
  have s0 : (0 : Int).toNat * 2 = 0 := rfl
  rw [s0] at e0 e1
  have z0 : ad.add 0 = ad := by simp [Addr.add]
  rw [z0] at e0 e1
  clear z0
  clear h hC hx s0
  go_enter Try.func29, Try.ntmps29
  go_wp2
  go_loopw [6, 7, 8] (fun v6 v7 v8 wr => (v7 = .int .i64 0 ∧ v6 = .slice none 0 0 ∧ Aside0 (wr = W)) ∨ (v7 = .int .i64 1 ∧ Aside0 (Kd.R k66 66 wr W.heap.size (fun _ => True) v6 [x]) ∧ Aside0 (Below W.heap.size W wr))) (fun _ v7 _ _ => (1 - intOf v7).toNat)
  case atStart => exact .inl ⟨rfl, rfl, ⟨rfl⟩⟩
  case round =>
    rcases hrel with ⟨rfl, rfl, hw1⟩ | ⟨rfl, HR, HB⟩
    · obtain rfl := hw1.out.symm
      clear hw1
      go_upto_region 7 with (fail)
      rename World => W
      go_loopw [8] (fun v8 wr => v8 = .int .i64 0 ∧ Aside0 (wr = W)) (fun _ _ => 0)
      case atStart => exact ⟨rfl, ⟨rfl⟩⟩
      case round =>
        obtain ⟨rfl, hw1⟩ := hrel
        obtain rfl := hw1.out.symm
        clear hw1
        go_upto_region 7 with (fail)
        go_quiet (fail)
        go_upto_region 9 with (fail)
        have N1 := Aside0.mk trivial
        go_region_held3 (fun w' => w'.cell? ad = some (.int .i64 x.f0) ∧ w'.cell? ⟨ad.block, ad.off + 1, none⟩ = some (.int .i64 x.f1)) (first | go_keep | exact ⟨pw_cell_below HB2.out e0, pw_cell_below HB2.out e1⟩) (first
          | ((have gA := N1.out; clear gA N1); refine law_frame (a' := ?_) ?_ ?_; rotate_left; (focus ((try simp only [Act.put, List.getElem_toArray, List.getElem_cons_zero, List.getElem_cons_succ, List.setIfInBounds_toArray, List.set_cons_zero, List.set_cons_succ]); rfl)); refine Kd.R_append_rows_step k66 (Rr := fun x cs => cs = [Value.int .i64 x.f0, Value.int .i64 x.f1]) (w0 := W) W.heap.size rfl (.tmp 38) (.tmp 43) 31 66 (.agg #[.int .i64 0, .int .i64 0]) 16 rfl Try.underlying31 inf66 rfl (by decide) (by decide) (.slice none 0 0) [] [x] (some ⟨W.heap.size, 0, none⟩) 1 1 (fun _ => True) (fun _ => False) rfl rfl (Kd.R_nil _ _ _ _ _) ?aR (fun x cs h => by rw [h]; exact k66_mkM _ _ _ _) (fun _ h => h.elim) (fun _ _ => trivial) ?aB ?aS2 (by decide) ?_; (case aR => (refine ReadsRow.imp_ (flt_row ?_) (Below.refl _ _) (fun _ _ h => k66_open h); exact Blk.new _ _ _)); (case aS2 => simp); (case aB => ((with_reducible repeat (first | apply below_alloc | apply below_drew1 | apply pw_below_drewN)); exact Below.refl _ _)); intro v2 w2 hr2 hb2 hg2 hat2; obtain ⟨A2, c2, e2⟩ := Kd.R_slice hr2; obtain ⟨n2, hn2⟩ : ∃ n, ([] ++ [x] : List S66).length = n := ⟨_, rfl⟩; rw [hn2] at e2; subst e2; have hle2 := (Kd.N_reads' (Kd.R_N hr2)).2.1; have HR2 := Aside0.mk hr2; have HB2 := Aside0.mk hb2; clear hr2 hb2 hg2 hat2 hn2)
          | (refine step_append_nothing _ rfl (.tmp 44) (.tmp 47) 31 66 rfl Try.underlying31 inf66 A2 n2 c2 0 hle2 rfl rfl ?_))
        all_goals (
          go_wp2
          go_roundw
          case rel => first | exact .inr ⟨rfl, HR2, HB2⟩ | ((repeat apply Exists.intro); exact ⟨.inr ⟨rfl, HR2, HB2⟩, rfl⟩)
          case measure => decide)
    · obtain ⟨A2, c2, rfl⟩ := Kd.R_slice HR.out
      have hn2 : ([x] : List S66).length = 1 := rfl
      rw [hn2] at HR
      clear hn2
      clear e0 e1
      go_upto_region 10 with (fail)
      go_loopw [0, 5, 6] (fun v0 v5 v6 wr => v0 = .slice A0 0 c0 ∧ ((v5 = .slice none 0 0 ∧ v6 = .slice A2 1 c2 ∧ Aside0 (Kd.R k66 66 wr W.heap.size (fun _ => True) (.slice A2 1 c2) [x]) ∧ Aside0 (Below W.heap.size W wr)) ∨ ((∃ A3 c3, v6 = .slice A3 0 c3) ∧ Aside0 (Kd.R k66 66 wr W.heap.size (fun _ => True) v5 [x]) ∧ Aside0 (Below W.heap.size W wr)))) (fun _ _ v6 _ => match v6 with | .slice _ n _ => n | _ => 0)
      case atStart => exact ⟨rfl, .inl ⟨rfl, rfl, HR, HB⟩⟩
      case round =>
        obtain ⟨rfl, h⟩ := hrel
        clear HR HB
        rcases h with ⟨rfl, rfl, HR, HB⟩ | ⟨⟨A3, c3, rfl⟩, HR, HB⟩
        · obtain ⟨A, c, e, hlc, hC⟩ := Kd.R_reads HR.out
          cases e
          obtain ⟨ad2, rfl, e0, e1⟩ := at_T66 hC 0 (Int.le_refl 0) (by simp)
          have hx : rd_T66 [x] 0 = x := rfl
          rw [hx] at e0 e1
          have s0 : (0 : Int).toNat * 2 = 0 := rfl
          rw [s0] at e0 e1
          have z0 : ad2.add 0 = ad2 := by simp [Addr.add]
          rw [z0] at e0 e1
          have hc2 : 1 ≤ c2 := hlc
          clear z0 s0 hx hC hlc
          go_upto_region 11 with (fail)
          go_quiet (fail)
          go_wp2_with (at_builtin; refine Kd.R_append_rows k66 (Rr := fun x cs => cs = [Value.int .i64 x.f0, Value.int .i64 x.f1]) (w0 := W) W.heap.size rfl (.tmp 84) (.tmp 88) 31 66 (.agg #[.int .i64 0, .int .i64 0]) 16 rfl Try.underlying31 inf66 rfl (by decide) (by decide) (.slice none 0 0) [] [x] _ 1 1 (fun _ => True) (fun _ => False) rfl rfl (Kd.R_nil _ _ _ _ _) ?aR (fun x cs h => by rw [h]; exact k66_mkM _ _ _ _) (fun _ h => h.elim) (fun _ _ => trivial) ?aB ?aS (by decide) ?_; (case aR => (refine ReadsRow.imp_ (flt_row ?_) (Below.refl _ _) (fun _ _ h => k66_open h); exact Blk.new _ _ _)); (case aB => ((with_reducible repeat (first | apply below_alloc | apply below_drew1 | apply pw_below_drewN)); exact HB.out)); (case aS => (have := HB.out.size; simp; omega)); intro v3 w3 hr3 hb3 hg3 hat3; have HR3 := Aside0.mk hr3; have HB3 := Aside0.mk hb3; clear hr3 hb3 hg3 hat3)
          go_roundw
          case rel => first | exact ⟨rfl, .inr ⟨⟨_, _, rfl⟩, HR3, HB3⟩⟩ | ((repeat apply Exists.intro); exact ⟨⟨rfl, .inr ⟨⟨_, _, rfl⟩, HR3, HB3⟩⟩, rfl⟩)
          case measure => (show 0 < 1; decide)
        · go_wp2
          go_ret
          exact ⟨_, rfl, HR.out, HB.out⟩
end
end Go.Proofs.Ytdciombpffkcjaa.P
