/- The reference's put. -/
import Derived.Test.YtdciombpffkcjaaCov3
namespace Go.Proofs.Ytdciombpffkcjaa.P
open Go.RowKit Go.Proofs.YtdciombpffkcjaaW.PrintWords Go.Proofs.YtdciombpffkcjaaW.PrintLast Go.Proofs.YtdciombpffkcjaaW.PrintMore Go.Proofs.Ytdciombpffkcjaa.Blk
set_option linter.unusedVariables false
set_option linter.unusedSimpArgs false
attribute [local go_sem] max2_int min2_int max_two min_two max_three min_three max_four min_four
def putR (xs : List S42) (fr up cl : Int) : List S42 :=
  if up ≤ fr then xs else if xs ≠ [] ∧ cl = 1 ∧ (lastP xs).f1 = 1 then longer xs up else xs ++ [⟨⟨fr, up⟩, cl⟩]
theorem putX_R (xs : List S42) (a u c : Int) : (putX xs a u c).1 = putR xs a u c := by
  unfold putX putR
  split
  · rfl
  · split <;> rfl
abbrev Pcs (x : S42) (cs : List Value) : Prop := cs = [Value.int .i64 x.f0.f0, Value.int .i64 x.f0.f1, Value.int .i64 x.f1]
theorem part_rows {W : World} {A : Option Addr} {n : Nat} {xs : List S42} (h : Kd.C k42 W A n xs) : ReadsRow Pcs k42.sz W A n xs := ReadsRow.imp_ h (Below.refl _ _) (fun _ _ h => k42_open h)
section
variable {w0 W : World} {xs : List S42}
set_option maxRecDepth 100000 in
set_option maxHeartbeats 2000000 in
theorem putr_calls (A : Option Addr) (n c : Nat) (fr up cl : Int) (h : Kd.R k42 42 W w0.heap.size (fun _ => True) (.slice A n c) xs) (hw : Below w0.heap.size w0 W) (hl : xs.length ≤ 100000) : Calls Try.prog 20 #[.slice A n c, .int .i64 fr, .int .i64 up, .int .i64 cl] W fun e w' =>
    ∃ v, e = .returned v ∧ Kd.R k42 42 w' w0.heap.size (fun _ => True) v (putR xs fr up cl) ∧ Below W.heap.size W w' := by
  have HR := Aside0.mk h
  have HW := Aside0.mk hw
  obtain ⟨hn, hnc, hC⟩ := Kd.R_reads' h
  have HROW := Aside0.mk (show ReadsRow Pcs k42.sz W A n xs by rw [hn]; exact part_rows (by first | exact hC | (rw [← hn]; exact hC)))
  have HN := Aside0.mk hn
  by_cases hup : up ≤ fr
  · have e : putR xs fr up cl = xs := if_pos hup
    rw [e]
    clear h hw hC hn e
    go_enter Try.func20, Try.ntmps20
    go_wp2
    go_ret
    exact ⟨_, rfl, HR.out, Below.refl _ _⟩
  · have hup' : ¬ up ≤ fr := hup
    by_cases hm : xs ≠ [] ∧ cl = 1 ∧ (lastP xs).f1 = 1
    · obtain ⟨m1, m2, m3⟩ := hm
      subst m2
      obtain ⟨k, hk⟩ : ∃ k, n = k + 1 := ⟨n - 1, by
        cases xs with
        | nil => exact absurd rfl m1
        | cons y ys =>
          simp at hn
          omega⟩
      subst hk
      have HE := Aside0.mk (show putR xs fr up 1 = longer xs up by unfold putR; rw [if_neg hup, if_pos ⟨m1, rfl, m3⟩])
      obtain ⟨r, cap, hv, hrb, hrl, _, hcap, e0, e1, e2, frz, hset⟩ := part_last h HN.out.symm
      cases hv
      rw [m3] at e2
      have HLL := Aside0.mk hl
      have hkb : k ≤ 100000 := by omega
      clear h hw hC hset e0 e1 frz hrb hrl hl hn
      go_enter Try.func20, Try.ntmps20
      go_upto_region 6 with (at_builtin; refine Kd.R_append_rows k42 (w0 := W) W.heap.size rfl (.const (.slice none 0 0)) (.tmp 33) 24 42 (.agg #[.int .i64 0, .int .i64 0, .int .i64 0]) 24 rfl Try.underlying24 inf42 rfl (by decide) (by decide) (.slice none 0 0) [] xs (some ⟨r, 0, none⟩) (k + 1) c (fun _ => True) (fun _ => False) rfl rfl (Kd.R_nil _ _ _ _ _) HROW.out (fun x cs h => by rw [show cs = _ from h]; exact k42_mkM _ _ _ _) (fun _ h => h.elim) (fun _ _ => trivial) (Below.refl _ _) (Nat.le_refl _) (by have := HLL.out; have := HN.out; simp; omega) ?_; intro v1 w1 hr1 hb1 hg1 hat1; rw [List.nil_append] at hr1; obtain ⟨r1, cap1, hv1, hrb1, hrl1, _, hcap1, f0, f1, f2, frz1, hset1⟩ := part_last hr1 HN.out.symm; subst hv1; have HF := Aside0.mk (show Kd.R k42 42 (w1.setCell ⟨r1, k * 3 + 1, none⟩ (.int .i64 up)) w0.heap.size (fun _ => True) (.slice (some ⟨r1, 0, none⟩) (k + 1) cap1) (longer xs up) ∧ Below W.heap.size W (w1.setCell ⟨r1, k * 3 + 1, none⟩ (.int .i64 up)) from ⟨Kd.R_lower (hset1 up).1 HW.out.size, hb1.setCell (p := ⟨r1, k * 3 + 1, none⟩) hrb1 _⟩); clear hr1 hb1 hg1 hat1 hset1 f0 f2)
      go_wp2
      go_ret
      rw [HE.out]
      exact ⟨_, rfl, HF.out.1, HF.out.2⟩
    · have HE := Aside0.mk (show putR xs fr up cl = xs ++ [⟨⟨fr, up⟩, cl⟩] by unfold putR; rw [if_neg hup, if_neg hm])
      have HM := Aside0.mk hm
      have HLL := Aside0.mk hl
      have N1 := Aside0.mk trivial
      clear h hw hC hm hl hn
      go_enter Try.func20, Try.ntmps20
      go_upto_region 4 with (fail)
      go_cut [32] (fun v wz => v = .bool false ∧ W = wz)
      case first =>
        by_cases hn0 : n = 0
        · subst hn0
          go_wp2
          go_meet
          case rel => exact ⟨rfl, rfl⟩
        · obtain ⟨k, hk⟩ : ∃ k, n = k + 1 := ⟨n - 1, by omega⟩
          subst hk
          obtain ⟨r, cap, hv, hrb, hrl, _, hcap, e0, e1, e2, fr', hset⟩ := part_last HR.out HN.out.symm
          cases hv
          have hkb : k ≤ 100000 := by have h1 := HLL.out; have h2 := HN.out; omega
          clear hset e0 e1 fr'
          by_cases hc1 : cl = 1
          · subst hc1
            have hl1 : ((lastP xs).f1 == 1) = false := beq_eq_false_iff_ne.mpr (fun h => HM.out ⟨by rintro rfl; have := HN.out; simp at this, rfl, h⟩)
            go_wp2
            go_meet
            case rel => exact ⟨rfl, rfl⟩
          · have hq : (cl == 1) = false := beq_eq_false_iff_ne.mpr hc1
            go_wp2
            all_goals (
              go_meet
              case rel => exact ⟨rfl, rfl⟩)
      case rest =>
        obtain ⟨rfl, rfl⟩ := hcut
        go_wp2_with (first
          | (at_builtin; (have gA := N1.out; clear gA N1); refine Kd.R_append_rows k42 (w0 := W) W.heap.size rfl (.const (.slice none 0 0)) (.tmp 43) 24 42 (.agg #[.int .i64 0, .int .i64 0, .int .i64 0]) 24 rfl Try.underlying24 inf42 rfl (by decide) (by decide) (.slice none 0 0) [] xs A n c (fun _ => True) (fun _ => False) rfl rfl (Kd.R_nil _ _ _ _ _) HROW.out (fun x cs h => by rw [show cs = _ from h]; exact k42_mkM _ _ _ _) (fun _ h => h.elim) (fun _ _ => trivial) (Below.refl _ _) (Nat.le_refl _) (by have := HLL.out; have := HN.out; simp; omega) ?_; intro v1 w1 hr1 hb1 hg1 hat1; rw [List.nil_append] at hr1; have HR1 := Aside0.mk hr1; have HB1 := Aside0.mk hb1; clear hr1 hb1 hg1 hat1)
          | (at_builtin; refine Kd.R_append_rows k42 (Rr := Pcs) (w0 := W) W.heap.size rfl (.tmp 44) (.tmp 50) 24 42 (.agg #[.int .i64 0, .int .i64 0, .int .i64 0]) 24 rfl Try.underlying24 inf42 rfl (by decide) (by decide) v1 xs [⟨⟨fr, up⟩, cl⟩] (some ⟨w1.heap.size, 0, none⟩) 1 1 (fun _ => True) (fun _ => False) rfl rfl (Kd.R_alloc HR1.out _) (part_row (Blk.new _ _ _)) (fun x cs h => by rw [show cs = _ from h]; exact k42_mkM _ _ _ _) (fun _ h => h.elim) (fun _ _ => trivial) (HB1.out.alloc HB1.out.size _) (by have := HB1.out.size; simp; omega) (by have := HLL.out; omega) ?_; intro v2 w2 hr2 hb2 hg2 hat2; have HR2 := Aside0.mk hr2; have HB2 := Aside0.mk hb2; clear hr2 hb2 hg2 hat2))
        go_ret
        rw [HE.out]
        exact ⟨_, rfl, Kd.R_lower HR2.out HW.out.size, HB2.out⟩
end
end Go.Proofs.Ytdciombpffkcjaa.P
