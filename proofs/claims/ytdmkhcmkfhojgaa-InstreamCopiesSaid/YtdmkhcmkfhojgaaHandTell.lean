/- instream: tell. -/
import Derived.Test.YtdmkhcmkfhojgaaPx8
import Derived.Test.YtdmkhcmkfhojgaaHandEnd
namespace Go.Proofs.Ytdmkhcmkfhojgaa.P
open Go.RowKit Go.Proofs.YtdmkhcmkfhojgaaW.PrintWords Go.Proofs.YtdmkhcmkfhojgaaW.PrintLast Go.Proofs.YtdmkhcmkfhojgaaW.PrintMore Go.Proofs.Ytdmkhcmkfhojgaa.Blk
set_option linter.unusedVariables false

/-- a stream: does a 13 wait, and which -/
structure Tk where
  waits : Bool
  cr : S36
def Tk.cells (pd : Value) (x : Tk) : Array Value := #[pd, .bool x.waits, .int .i64 x.cr.f0, .int .i64 x.cr.f1, .int .i64 x.cr.f2]
def TkAt (w : World) (g : Nat) (pd : Value) (x : Tk) : Prop := Blk w g 45 (x.cells pd)

theorem grown_below {w w2 w1 : World} {row : Option Nat} (h : Below w.heap.size w w2) (k : w2.grownBy w1 row) : w.grownBy w1 row :=
  ⟨k.os.trans h.os, k.tape.trans h.tape, k.output.trans h.output, Nat.le_trans h.size k.size, fun i hi hne => (k.block i (Nat.lt_of_lt_of_le hi h.size) hne).trans (h.block i hi)⟩

set_option maxRecDepth 10000 in
theorem tell_calls (b base : Nat) (v : Value) (xs : List S36) (c0 c1 c2 : Int) (ok : Nat → Prop) (w : World) (hb : Blk w b 23 #[v]) (ho : Kd.R k36 36 w base ok v xs) (hbase : base ≤ w.heap.size) (hbb : base ≤ b) (hf : ∀ k, w.heap.size ≤ k → ok k) (hl : xs.length < 1000000000000) :
    Calls Try.prog 24 #[.agg #[.int .i64 c0, .int .i64 c1, .int .i64 c2], .pointer (some ⟨b, 0, none⟩)] w fun e w' => e = .returned (.tuple #[]) ∧
      ∃ v' w1, w' = w1.setCell ⟨b, 0, none⟩ v' ∧ w.grownBy w1 v.ownBlock ∧ Kd.R k36 36 w' base ok v' (xs ++ [⟨c0, c1, c2⟩]) ∧ Blk w' b 23 #[v'] ∧ Below base w w' := by
  obtain ⟨A, cc, rfl⟩ := Kd.R_slice ho
  have hb0 : w.cell? ⟨b, 0, none⟩ = some (.slice A xs.length cc) := (Blk.cell hb 0).trans rfl
  have hfz := Blk.frozen hb 0
  have hblt := Blk.lt hb
  have HBL := Aside0.mk hb
  have HO := Aside0.mk ho
  have HF := Aside0.mk hf
  have hne : some b ≠ (Value.slice A xs.length cc).ownBlock := Kd.R_ne ho hb (by decide)
  have HN := Aside0.mk hne
  clear hb ho hf hne
  go_enter Try.func24, Try.ntmps24
  go_wp2_with (first | ((with_reducible refine gate_dst (N := 2) rfl ?_); refine box_event ?hg (N := 2) ?hd (cs := #[.int .i64 c0, .int .i64 c1, .int .i64 c2]) (t := 36) ?hr ?_; (case hd => rfl); (case hg => rfl); (case hr => first | (go_simp; done) | (go_simp; rfl)); intro gb hg w2 hbox hbb2; have HO2 := Aside0.mk (Kd.R_below HO.out hbb2); have HB2 := Aside0.mk hbb2; have HBL2 := Aside0.mk (Blk.below HBL.out hbb2 hblt); have q0 := (Blk.cell HBL2.out 0).trans rfl; have q1 := Blk.frozen HBL2.out 0; have HN2 := Aside0.mk (Kd.R_ne HO2.out HBL2.out (by decide)); have hs2 := Aside0.mk hbb2.size; have x0 := (Blk.cell (show Blk w2 gb 36 _ from hbox) 0).trans rfl; have x1 := (Blk.cell (show Blk w2 gb 36 _ from hbox) 1).trans rfl; have x2 := (Blk.cell (show Blk w2 gb 36 _ from hbox) 2).trans rfl; clear hbb2 hbox hg) | ((with_reducible refine gate_builtin (b := .append) (xs := #[.tmp 3, .tmp 5]) rfl ?_); at_builtin; refine Kd.R_append k36 (w0 := w) base rfl (.tmp 3) (.tmp 5) 23 36 (.agg #[(.int .i64 0), (.int .i64 0), (.int .i64 0)]) 24 rfl Try.underlying23 info36 rfl (by decide) (by omega) (.slice A xs.length cc) xs (⟨c0, c1, c2⟩ : S36) [.int .i64 c0, .int .i64 c1, .int .i64 c2] ok (fun _ => False) rfl rfl ?aP (fun _ hk => hk.elim) ?aF ?aO ?aB ?aS ?aL ?_; (case aP => exact k36_mkM _ _ _ (⟨c0, c1, c2⟩ : S36)); (case aF => exact (fun k hk => HF.out k (Nat.le_trans hs2.out hk))); (case aO => exact (by (with_reducible repeat (first | apply Kd.R_alloc | apply Kd.R_drewN | apply Kd.R_drew)); exact HO2.out)); (case aB => exact HB2.out.mono hbase); (case aS => exact Nat.le_trans hbase hs2.out); (case aL => omega); intro v1 w1 ho1 hb1 hg1 hat; have HO1 := Aside0.mk ho1; have HB1 := Aside0.mk hb1; have HG1 := Aside0.mk hg1; have HBL1 := Aside0.mk (Blk.grown HBL2.out hg1 HN2.out); have k0 := (Blk.cell HBL1.out 0).trans rfl; have k1 := Blk.frozen HBL1.out 0; obtain ⟨A1, cc1, e1⟩ := Kd.R_slice ho1; subst e1; clear ho1 hb1 hg1 hat))
  go_end0
  have e9 : (xs ++ [(⟨c0, c1, c2⟩ : S36)]).length = xs.length + 1 := by simp
  have h9 := HO1.out
  rw [e9] at h9
  have h8 := HBL1.out
  have p1 : Blk (w1.setCell ⟨b, 0, none⟩ (.slice A1 (xs.length + 1) cc1)) b 23 #[.slice A1 (xs.length + 1) cc1] := by
    have := Blk.set_ h8 0 (.slice A1 (xs.length + 1) cc1)
    simpa using this
  exact ⟨rfl, _, w1, rfl, grown_below HB2.out HG1.out, Kd.R_set h9 h8 (by decide) 0 _, p1, HB1.out.setCell hbb _⟩
end Go.Proofs.Ytdmkhcmkfhojgaa.P
