/- utf8in: told. -/
import Derived.Test.YtdmkhcmkfhojgaaHandDec
import Derived.RegionTactic
import Derived.ChangeAlike
import Derived.BigRegion
namespace Go.Proofs.Ytdmkhcmkfhojgaa.P
open Go.RowKit Go.Proofs.YtdmkhcmkfhojgaaW.PrintWords Go.Proofs.YtdmkhcmkfhojgaaW.PrintLast Go.Proofs.YtdmkhcmkfhojgaaW.PrintMore Go.Proofs.Ytdmkhcmkfhojgaa.Blk
set_option linter.unusedVariables false

theorem told_calls (g : Nat) (a h n l u r : Int) (x size : Int) (w : World) (hd : DecAt w g ⟨a, h, n, l, u, r⟩) :
    Calls Try.prog 27 #[.pointer (some ⟨g, 0, none⟩), .int .i64 x, .int .i64 size] w fun e w' => e = .returned (.agg #[.int .i64 x, .int .i64 a, .int .i64 (wrap64 (a + size))]) ∧ DecAt w' g ⟨wrap64 (a + size), 0, n, l, u, r⟩ ∧ w.grownBy w' (some g) := by
  obtain ⟨⟨c0, c1, c2, c3, c4, c5⟩, hf⟩ := hd.facts
  have hlt := Blk.lt hd
  have HD := Aside0.mk hd
  clear hd
  go_enter Try.func27, Try.ntmps27
  go_wp2
  go_region
  all_goals go_wp2
  have q1 := HD.out.set0 (wrap64 (a + size))
  have q2 := q1.set1 0
  have q3 := Blk.alloc q2 (.cells #[.int .i64 x, .int .i64 a, .int .i64 (wrap64 (a + size))] 36)
  have q4 := Blk.alloc q3 (.cells #[.int .i64 x, .int .i64 a, .int .i64 (wrap64 (a + size))] 36)
  have p1 := Blk.new ((w.setCell ⟨g, 0, none⟩ (.int .i64 (wrap64 (a + size)))).setCell ⟨g, 1, none⟩ (.int .i64 0)) 36 #[.int .i64 x, .int .i64 a, .int .i64 (wrap64 (a + size))]
  have p2 := Blk.alloc p1 (.cells #[.int .i64 x, .int .i64 a, .int .i64 (wrap64 (a + size))] 36)
  have p3 := Blk.drew p2
  have e : ((w.setCell ⟨g, 0, none⟩ (.int .i64 (wrap64 (a + size)))).setCell ⟨g, 1, none⟩ (.int .i64 0)).heap.size = w.heap.size := by simp [World.setCell]
  rw [e] at p3
  refine bodyPost_ret (results_cell_row rfl _ _ w.heap.size 36 #[.int .i64 x, .int .i64 a, .int .i64 (wrap64 (a + size))] (0, 0) _ rfl p3 Try.underlying36 rfl (by kernel_rfl)) rfl ?_
  refine ⟨rfl, Blk.drew q4, ?_⟩
  refine only_drew (only_alloc (only_alloc ?_ _) _)
  refine only_setCell ?_ (.inl rfl) _
  refine only_setCell ?_ (.inl rfl) _
  exact World.grownBy.refl w _
end Go.Proofs.Ytdmkhcmkfhojgaa.P
