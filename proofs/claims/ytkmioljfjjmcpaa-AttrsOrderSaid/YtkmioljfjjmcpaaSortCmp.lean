/- attrs.Sorted's function: cmp.Compare, cmp.Or. -/
import Derived.Test.YtkmioljfjjmcpaaSortMerge
import Derived.Test.YtkmioljfjjmcpaaBlk
import Derived.Lib.Hide
import Derived.Deep.RegionHeld3
import Derived.WalkSpells
import Derived.WalkLawsBesides
namespace Go.Proofs.Ytkmioljfjjmcpaa.P
open Go.RowKit Go.Proofs.YtkmioljfjjmcpaaW.PrintWords Go.Proofs.YtkmioljfjjmcpaaW.PrintLast Go.Proofs.YtkmioljfjjmcpaaW.PrintMore Go.Proofs.Ytkmioljfjjmcpaa.Blk
set_option linter.unusedVariables false
theorem cmp_calls (a b : ByteArray) (w : World) : Calls Try.prog 28 #[.string a, .string b] w fun e w' => e = .returned (.int .i64 (cmpB a b)) ∧ w' = w := by
  by_cases h1 : bl a.toList b.toList = true
  · have e1 : Op.bytesLess a.toList b.toList = true := h1
    have e : cmpB a b = -1 := by unfold cmpB; rw [if_pos h1]
    clear h1
    go_enter Try.func28, Try.ntmps28
    go_wp2
    go_ret
    exact ⟨by rw [e]; rfl, rfl⟩
  · have e1 : Op.bytesLess a.toList b.toList = false := by
      cases hq : Op.bytesLess a.toList b.toList with
      | false => rfl
      | true => exact absurd hq h1
    by_cases h2 : bl b.toList a.toList = true
    · have e2 : (a.toList == b.toList) = false := by
        rw [beq_eq_false_iff_ne]
        intro e
        rw [e, bl_irrefl] at h2
        cases h2
      have e : cmpB a b = 1 := by unfold cmpB; rw [if_neg h1, if_pos h2]
      have e3 : ¬ a.toList = b.toList := by simpa using e2
      clear h1 h2
      go_enter Try.func28, Try.ntmps28
      go_wp2
      go_ret
      exact ⟨by rw [e]; rfl, rfl⟩
    · have e0 : a = b := toList_inj (bl_total _ _ (by simpa using h1) (by simpa using h2))
      subst e0
      have e : cmpB a a = 0 := cmpB_zero.2 rfl
      clear h1 h2
      go_enter Try.func28, Try.ntmps28
      go_wp2
      go_ret
      exact ⟨by rw [e]; rfl, rfl⟩
theorem or_calls (x y : Int) (b : Nat) (c : Nat) (w : World) (h0 : w.cell? ⟨b, 0, none⟩ = some (.int .i64 x)) (h1 : w.cell? ⟨b, 1, none⟩ = some (.int .i64 y)) : Calls Try.prog 27 #[.slice (some ⟨b, 0, none⟩) 2 c] w fun e w' => e = .returned (.int .i64 (orI x y)) ∧ w' = w := by
  go_enter Try.func27, Try.ntmps27
  go_wp2
  go_loop [8] (fun i => ∃ k : Nat, i = .int .i64 k ∧ k ≤ 2 ∧ Aside0 (1 ≤ k → x = 0) ∧ Aside0 (2 ≤ k → y = 0)) (fun i => 2 - (intOf i).toNat)
  case atStart => exact ⟨0, rfl, by omega, ⟨fun h => by omega⟩, ⟨fun h => by omega⟩⟩
  case round =>
    obtain ⟨k, rfl, hk, HX, HY⟩ := hrel
    have hk3 : k = 0 ∨ k = 1 ∨ k = 2 := by omega
    rcases hk3 with rfl | rfl | rfl
    · by_cases hx : x = 0
      · have hx' : (x == 0) = true := by simpa using hx
        go_wp2
        go_round
        case rel => exact ⟨1, by rfl, by omega, ⟨fun _ => hx⟩, ⟨fun h => by omega⟩⟩
        case measure => simp [intOf]
      · have hx' : (x == 0) = false := by simpa using hx
        go_wp2
        go_ret
        exact ⟨by unfold orI; first | (rw [if_neg hx]; rfl) | (simp; done) | (simp [*]; done) | (simp [*]; rfl) | (simp; rfl), rfl⟩
    · have hx := HX.out (by omega)
      by_cases hy : y = 0
      · have hy' : (y == 0) = true := by simpa using hy
        go_wp2
        go_round
        case rel => exact ⟨2, by rfl, by omega, ⟨fun _ => hx⟩, ⟨fun _ => hy⟩⟩
        case measure => simp [intOf]
      · have hy' : (y == 0) = false := by simpa using hy
        go_wp2
        go_ret
        exact ⟨by unfold orI; first | (rw [if_neg hx]; rfl) | (simp; done) | (simp [*]; done) | (simp [*]; rfl) | (simp; rfl), rfl⟩
    · have hx := HX.out (by omega)
      have hy := HY.out (by omega)
      go_wp2
      go_ret
      exact ⟨by unfold orI; first | (rw [if_neg hx]; rfl) | (simp; done) | (simp [*]; done) | (simp [*]; rfl) | (simp; rfl), rfl⟩
theorem below_alloc2 {w W : World} (h : Below w.heap.size w W) (o : Obj) : Below w.heap.size w (W.alloc o) := h.alloc h.size o
set_option maxHeartbeats 1000000 in
theorem less_calls (x y : E) (w : World) : Calls Try.prog 26 #[.agg #[.string x.f0, .string x.f1], .agg #[.string y.f0, .string y.f1]] w fun e w' => e = .returned (.int .i64 (cf x y)) ∧ Below w.heap.size w w' := by
  obtain ⟨x0, x1⟩ := x
  obtain ⟨y0, y1⟩ := y
  have hb0 := (Blk.new w 24 #[.string x0, .string x1]).alloc (.cells #[.string y0, .string y1] 24)
  have hb1 := Blk.new (w.alloc (.cells #[.string x0, .string x1] 24)) 24 #[.string y0, .string y1]
  rw [show (w.alloc (.cells #[.string x0, .string x1] 24)).heap.size = w.heap.size + 1 by simp] at hb1
  have L1 := Aside0.mk (below_alloc2 (below_alloc2 (Below.refl w.heap.size w) (.cells #[.string x0, .string x1] 24)) (.cells #[.string y0, .string y1] 24))
  go_enter Try.func26, Try.ntmps26
  go_wp2
  generalize hW : (w.alloc (.cells #[.string x0, .string x1] 24)).alloc (.cells #[.string y0, .string y1] 24) = W at *
  generalize hz : w.heap.size = z at *
  have c0 : W.cell? ⟨z, 0, none⟩ = some (.string x0) := hb0.cell 0
  have c1 : W.cell? ⟨z, 1, none⟩ = some (.string x1) := hb0.cell 1
  have d0 : W.cell? ⟨z + 1, 0, none⟩ = some (.string y0) := hb1.cell 0
  have d1 : W.cell? ⟨z + 1, 1, none⟩ = some (.string y1) := hb1.cell 1
  clear hb0 hb1 hW
  go_region_held3 (fun w' => w'.cell? ⟨z, 0, none⟩ = some (.string x0) ∧ w'.cell? ⟨z, 1, none⟩ = some (.string x1) ∧ w'.cell? ⟨z + 1, 0, none⟩ = some (.string y0) ∧ w'.cell? ⟨z + 1, 1, none⟩ = some (.string y1)) (go_keep)
    (first
      | (go_at_call 28; refine (cmp_calls _ _ _).mono ?_; rintro e w1 ⟨rfl, hw1⟩; subst hw1)
      | (go_at_call 27; refine (or_calls (cmpB x0 y0) (cmpB x1 y1) _ _ _ ?c0 ?c1).mono ?_; (case c0 => simp); (case c1 => simp); rintro e w2 ⟨rfl, hw2⟩; subst hw2))
  all_goals go_wp2
  all_goals go_ret
  all_goals (subst hz; exact ⟨rfl, below_alloc2 (below_drew1 L1.out) _⟩)
end Go.Proofs.Ytkmioljfjjmcpaa.P
