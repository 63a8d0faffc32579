/- The reference's tokenizer: fault. -/
import Derived.Test.YtdciombpffkcjaaTok2
namespace Go.Proofs.Ytdciombpffkcjaa.P
open Go.RowKit Go.Proofs.YtdciombpffkcjaaW.PrintWords Go.Proofs.YtdciombpffkcjaaW.PrintLast Go.Proofs.YtdciombpffkcjaaW.PrintMore Go.Proofs.Ytdciombpffkcjaa.Blk
set_option linter.unusedVariables false
set_option linter.unusedSimpArgs false
section
variable {w0 W W' : World} {g : Nat} {L : List S64} {At N Tx : Int} {La : ByteArray} {F : List S66} {Dn : Bool}
theorem fault_end {W1 w1 : World} {vL vF v1 : Value} {x : S66} (h1 : Blk W g 58 #[vL, .int .i64 At, .int .i64 N, .int .i64 Tx, .string La, .bool false, vF, .bool false, .bool Dn]) (h2 : Kd.R k64 64 W w0.heap.size (fun _ => True) vL L) (h3 : Kd.R k66 66 W w0.heap.size (fun _ => True) vF F) (h4 : w0.heap.size ≤ g) (h5 : Below w0.heap.size w0 W)
    (hW1 : Below W.heap.size W W1) (hr : Kd.R k66 66 w1 w0.heap.size (fun _ => True) v1 (F ++ [x])) (hb : Below w0.heap.size w0 w1) (hg : W1.grownBy w1 vF.ownBlock) :
    TAt w0 (w1.setCell ⟨g, 6, none⟩ v1) g L At N Tx La (F ++ [x]) Dn ∧ KT g W (w1.setCell ⟨g, 6, none⟩ v1) := by
  have hF1 := Kd.R_below h3 hW1
  have hne : some g ≠ vF.ownBlock := Kd.R_ne h3 h1 (by decide)
  have hb1 : Blk w1 g 58 _ := (h1.below hW1 h1.lt).grown hg hne
  refine ⟨⟨vL, v1, hb1.set_ 6 v1, ?_, ?_, h4, hb.setCell (p := ⟨g, 6, none⟩) h4 v1⟩, ?_⟩
  · exact Kd.R_set (row_apart (Kd.R_below h2 hW1) hF1 hg) hb1 (fun q hq => by have hq2 : q ∈ [64] := hq; rw [List.mem_singleton] at hq2; rw [hq2]; decide) 6 v1
  · exact Kd.R_set hr hb1 (fun q hq => by have hq2 : q ∈ [66] := hq; rw [List.mem_singleton] at hq2; rw [hq2]; decide) 6 v1
  · refine ⟨by simpa [World.setCell] using Nat.le_trans hW1.size hg.size, fun k hk hkg ht => ?_⟩
    refine (Below.heap_setCell w1 ⟨g, 6, none⟩ v1 k hkg).trans ((hg.block k (Nat.lt_of_lt_of_le hk hW1.size) (fun e => ?_)).trans (hW1.block k hk))
    obtain ⟨inner, ho⟩ := Kd.R_own h3
    exact ht (own_typed ho k e.symm)
set_option maxRecDepth 100000 in
set_option maxHeartbeats 1000000 in
theorem tfault_calls (code at_ : Int) (h : TAt w0 W g L At N Tx La F Dn) (hF : F.length ≤ 1000) : Calls Try.prog 44 #[.pointer (some ⟨g, 0, none⟩), .int .i64 code, .int .i64 at_] W fun e w' => e = .returned (.tuple #[]) ∧ TAt w0 w' g L At N Tx La (F ++ [⟨code, at_⟩]) Dn ∧ KT g W w' := by
  obtain ⟨vL, vF, h1, h2, h3, h4, h5⟩ := h
  have c6 : W.cell? ⟨g, 6, none⟩ = some vF := h1.cell 6
  have HH := Aside0.mk (And.intro h1 (And.intro h2 (And.intro h3 (And.intro h4 h5))))
  have f6 : ∀ i, W.frozen? ⟨g, i, none⟩ = false := fun i => h1.frozen i
  clear h1 h2 h3 h4 h5
  go_enter Try.func44, Try.ntmps44
  go_wp2_with (at_builtin; refine Kd.R_append_rows k66 (Rr := fun x cs => cs = [Value.int .i64 x.f0, Value.int .i64 x.f1]) (w0 := w0) w0.heap.size rfl (.tmp 10) (.tmp 14) 31 66 (.agg #[.int .i64 0, .int .i64 0]) 16 rfl Try.underlying31 inf66 rfl (by decide) (by decide) vF F [⟨code, at_⟩] (some ⟨W.heap.size, 0, none⟩) 1 1 (fun _ => True) (fun _ => False) rfl rfl ?aO ?aR (fun x cs h => by rw [h]; exact k66_mkM _ _ _ _) (fun _ h => h.elim) (fun _ _ => trivial) ?aB ?aS (by omega) ?_; (case aO => exact Kd.R_alloc HH.out.2.2.1 _); (case aR => exact ReadsRow.imp_ (flt_row (Blk.new _ _ _)) (Below.refl _ _) (fun _ _ h => k66_open h)); (case aB => exact HH.out.2.2.2.2.alloc HH.out.2.2.2.2.size _); (case aS => exact (HH.out.2.2.2.2.alloc HH.out.2.2.2.2.size _).size); intro v1 w1 hr hb hg hat; obtain ⟨A1, c1, e1⟩ := Kd.R_slice hr; obtain ⟨n1, hn1⟩ : ∃ n, (F ++ [(⟨code, at_⟩ : S66)]).length = n := ⟨_, rfl⟩; rw [hn1] at e1; subst e1; have D := Aside0.mk (fault_end HH.out.1 HH.out.2.1 HH.out.2.2.1 HH.out.2.2.2.1 HH.out.2.2.2.2 (below_alloc (Below.refl _ _) _) hr hb hg); have hb1 := Aside0.mk ((HH.out.1.alloc (.cells #[.int .i64 code, .int .i64 at_] 66)).grown hg (Kd.R_ne HH.out.2.2.1 HH.out.1 (by decide))); have ff : w1.frozen? ⟨g, 6, none⟩ = false := hb1.out.frozen 6; have c6 : w1.cell? ⟨g, 6, none⟩ = some vF := hb1.out.cell 6; clear hr hb hg hat hn1)
  go_end0
  exact ⟨rfl, D.out⟩
end
end Go.Proofs.Ytdciombpffkcjaa.P
