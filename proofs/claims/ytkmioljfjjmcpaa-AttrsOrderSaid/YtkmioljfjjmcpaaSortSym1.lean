/- The merge in place: a row of one element ahead. -/
import Derived.Test.YtkmioljfjjmcpaaSortRot
import Derived.IntWalk
namespace Go.Proofs.Ytkmioljfjjmcpaa.P
open Go.RowKit Go.Proofs.YtkmioljfjjmcpaaW.PrintWords Go.Proofs.YtkmioljfjjmcpaaW.PrintLast Go.Proofs.YtkmioljfjjmcpaaW.PrintMore Go.Proofs.Ytkmioljfjjmcpaa.Blk
set_option linter.unusedVariables false
set_option linter.unusedSimpArgs false
/-- x on its way through R -/
def mv {α : Type} (R : List α) (x : α) (t : Nat) : List α := R.take t ++ x :: R.drop t
theorem mv_len {α : Type} (R : List α) (x : α) (t : Nat) : (mv R x t).length = R.length + 1 := by unfold mv; simp; omega
theorem mv_zero {α : Type} (R : List α) (x : α) : mv R x 0 = x :: R := by simp [mv]
theorem mv_all {α : Type} (R : List α) (x : α) : mv R x R.length = R ++ [x] := by simp [mv]
theorem mv_x {α : Type} (R : List α) (x : α) (t : Nat) (h : t ≤ R.length) : (mv R x t)[t]? = some x := by
  unfold mv
  rw [List.getElem?_append_right (by rw [List.length_take]; omega), List.length_take, Nat.min_eq_left h, Nat.sub_self]
  rfl
theorem mv_y {α : Type} (R : List α) (x : α) (t : Nat) (h : t < R.length) : (mv R x t)[t + 1]? = some R[t] := by
  unfold mv
  rw [List.getElem?_append_right (by simp; omega), List.length_take, Nat.min_eq_left (by omega), show t + 1 - t = 1 by omega, List.drop_eq_getElem_cons h]
  rfl
theorem mv_step {α : Type} (R : List α) (x : α) (t : Nat) (h : t < R.length) : ((mv R x t).set t R[t]).set (t + 1) x = mv R x (t + 1) := by
  unfold mv
  have e : (R.take t).length = t := by rw [List.length_take]; omega
  rw [List.set_append_right _ _ (by omega), e, Nat.sub_self, List.set_cons_zero, List.set_append_right _ _ (by omega), e, show t + 1 - t = 1 by omega, List.drop_eq_getElem_cons h, List.set_cons_succ, List.set_cons_zero, List.take_succ_eq_append_getElem h, List.append_assoc]
  rfl
theorem mv_back {α : Type} (R : List α) (x : α) (t : Nat) (h : t < R.length) : ((mv R x (t + 1)).set (t + 1) R[t]).set t x = mv R x t := by
  unfold mv
  have e : (R.take t).length = t := by rw [List.length_take]; omega
  rw [List.take_succ_eq_append_getElem h, List.append_assoc, List.set_append_right _ _ (by omega), e, show t + 1 - t = 1 by omega, List.singleton_append, List.set_cons_succ, List.set_cons_zero, List.set_append_right _ _ (by omega), e, Nat.sub_self, List.set_cons_zero]
  rw [show R.drop t = R[t] :: R.drop (t + 1) from List.drop_eq_getElem_cons h]
theorem mv_gy {α : Type} (R : List α) (x : α) (t : Nat) (h : t < R.length) : (mv R x (t + 1))[t]? = some R[t] := by
  unfold mv
  have e : (R.take t).length = t := by rw [List.length_take]; omega
  rw [List.take_succ_eq_append_getElem h, List.append_assoc, List.getElem?_append_right (by omega), e, Nat.sub_self]
  rfl
/-- within a row: x goes one on -/
theorem mv_at {α : Type} (p R r : List α) (x : α) (t : Nat) (h : t < R.length) (I J : Nat) (hI : p.length + t = I) (hJ : p.length + t + 1 = J) :
    ∃ y, (p ++ mv R x t ++ r)[I]? = some x ∧ (p ++ mv R x t ++ r)[J]? = some y ∧ ((p ++ mv R x t ++ r).set I y).set J x = p ++ mv R x (t + 1) ++ r := by
  subst hI
  subst hJ
  refine ⟨R[t], ?_, ?_, ?_⟩
  · rw [get_mid _ _ _ _ (by rw [mv_len]; omega), mv_x R x t (by omega)]
  · rw [Nat.add_assoc, get_mid _ _ _ _ (by rw [mv_len]; omega), mv_y R x t h]
  · rw [set_mid _ _ _ _ (by rw [mv_len]; omega), Nat.add_assoc, set_mid _ _ _ _ (by rw [List.length_set, mv_len]; omega), mv_step R x t h]
/-- within a row: x goes one back -/
theorem mv_at' {α : Type} (p R r : List α) (x : α) (t : Nat) (h : t < R.length) (I J : Nat) (hI : p.length + t + 1 = I) (hJ : p.length + t = J) :
    ∃ y, (p ++ mv R x (t + 1) ++ r)[I]? = some x ∧ (p ++ mv R x (t + 1) ++ r)[J]? = some y ∧ ((p ++ mv R x (t + 1) ++ r).set I y).set J x = p ++ mv R x t ++ r := by
  subst hI
  subst hJ
  refine ⟨R[t], ?_, ?_, ?_⟩
  · rw [Nat.add_assoc, get_mid _ _ _ _ (by rw [mv_len]; omega), mv_x R x (t + 1) (by omega)]
  · rw [get_mid _ _ _ _ (by rw [mv_len]; omega), mv_gy R x t h]
  · rw [Nat.add_assoc, set_mid _ _ _ _ (by rw [mv_len]; omega), set_mid _ _ _ _ (by rw [List.length_set, mv_len]; omega), mv_back R x t h]
theorem get_x (p : List E) (x : E) (R s : List E) : (p ++ [x] ++ R ++ s)[p.length]? = some x := by
  rw [List.append_assoc, show p.length = p.length + 0 from rfl, get_mid p [x] (R ++ s) 0 (by simp)]
  rfl
theorem get_R (p : List E) (x : E) (R s : List E) (k : Nat) (h : k < R.length) : (p ++ [x] ++ R ++ s)[p.length + 1 + k]? = some R[k] := by
  have := get_mid (p ++ [x]) R s k h
  rw [List.length_append, List.length_singleton] at this
  rw [this, List.getElem?_eq_getElem h]
/-- what a merge leaves -/
def Mrg (w0 : World) (b N : Nat) (p L R s : List E) (w' : World) : Prop := ∃ M : List E, M.Perm (L ++ R) ∧ Srt M ∧ SortAt w0 b N (p ++ M ++ s) w'
theorem u64_sum (x : Int) (h0 : 0 ≤ x) (h1 : x ≤ 9223372036854775807) : IntKind.u64.wrap x = x := by
  have : IntKind.u64.wrap x = x % 18446744073709551616 := by
    unfold IntKind.wrap
    simp [IntKind.bits, IntKind.signed]
  omega
set_option maxRecDepth 100000 in
set_option maxHeartbeats 2000000 in
theorem sym_one {w0 : World} {b N m c : Nat} (p R s : List E) (x : E) (ia im ib : Int) (hm : p.length + 1 + R.length + s.length = m) (hbd : m ≤ 1000000000000) (hR : Srt R) (ha : ia = (p.length : Int)) (hmm : im = ((p.length + 1 : Nat) : Int)) (hbb : ib = ((p.length + 1 + R.length : Nat) : Int)) (W : World) (hW : SortAt w0 b N (p ++ [x] ++ R ++ s) W) :
    Calls Try.prog 35 #[.slice (some ⟨b, 0, none⟩) m c, .int .i64 ia, .int .i64 im, .int .i64 ib, clo] W fun e w' => e = .returned (.tuple #[]) ∧ Mrg w0 b N p [x] R s w' := by
  obtain ⟨pa, hpa⟩ : ∃ n, p.length = n := ⟨_, rfl⟩
  obtain ⟨pm, hpm⟩ : ∃ n, p.length + 1 = n := ⟨_, rfl⟩
  obtain ⟨pb, hpb⟩ : ∃ n, p.length + 1 + R.length = n := ⟨_, rfl⟩
  obtain ⟨r, hr⟩ : ∃ n, R.length = n := ⟨_, rfl⟩
  obtain rfl : ia = (pa : Int) := by omega
  obtain rfl : im = (pm : Int) := by omega
  obtain rfl : ib = (pb : Int) := by omega
  have HX := Aside0.mk (And.intro hpa (And.intro hpm (And.intro hpb (And.intro hr hm))))
  have hb1 : pa + 1 ≤ pm ∧ pm ≤ pa + 1 ∧ pb ≤ pm + r ∧ pm + r ≤ pb ∧ pb ≤ m := by omega
  have hz : (pm : Int) - (pa : Int) = 1 := by omega
  have H0 : Aside0 (SortAt w0 b N (p ++ [x] ++ R ++ s) W) := ⟨hW⟩
  have HS := Aside0.mk hR
  have HO : Aside0 (One R x (pm - pm) (pb - pm)) := ⟨by rw [Nat.sub_self, show pb - pm = R.length by omega]; exact One.start R x⟩
  clear hW hR hm ha hmm hbb hpa hpm hpb hr
  go_enter Try.func35, Try.ntmps35
  go_wp2
  go_loopw [10, 11] (fun v10 v11 wr => ∃ I J : Nat, v10 = .int .i64 I ∧ v11 = .int .i64 J ∧ pm ≤ I ∧ I ≤ J ∧ J ≤ pb ∧ Aside0 (One R x (I - pm) (J - pm)) ∧ Aside0 (SortAt w0 b N (p ++ [x] ++ R ++ s) wr)) (fun v10 v11 _ => (intOf v11).toNat - (intOf v10).toNat)
  case atStart => exact ⟨pm, pb, rfl, rfl, by omega, by omega, by omega, HO, H0⟩
  case round =>
    clear H0 HO
    obtain ⟨I, J, rfl, rfl, g1, g2, g3, HO, HW⟩ := hrel
    by_cases hlt : I < J
    · have hltz : (I : Int) < (J : Int) := by omega
      obtain ⟨H, hH⟩ : ∃ H : Nat, ((I : Int) + (J : Int)) / 2 = (H : Int) := ⟨(I + J) / 2, by omega⟩
      have hb : I ≤ H ∧ H < J := by omega
      have i0 : (0 : Int) ≤ (H : Int) := by omega
      have i1 : (H : Int) < (m : Int) := by omega
      have j0 : (0 : Int) ≤ (pa : Int) := by omega
      have j1 : (pa : Int) < (m : Int) := by omega
      have hk : H - pm < R.length := by have := HX.out.2.2.2.1; omega
      obtain ⟨u, hu⟩ : ∃ u, R[H - pm]? = some u := ⟨_, List.getElem?_eq_getElem hk⟩
      have gu : (p ++ [x] ++ R ++ s)[H]? = some u := by
        have := get_R p x R s (H - pm) hk
        rw [HX.out.2.1, show pm + (H - pm) = H by omega] at this
        rw [this, ← hu, List.getElem?_eq_getElem hk]
      have gx : (p ++ [x] ++ R ++ s)[pa]? = some x := by rw [← HX.out.1]; exact get_x p x R s
      obtain ⟨c0, c1⟩ := HW.out.cells gu
      obtain ⟨d0, d1⟩ := HW.out.cells gx
      have HU := Aside0.mk hu
      clear gu gx hu hk
      have hcase : cf u x < 0 ∨ ¬ cf u x < 0 := by omega
      rcases hcase with hc | hc
      · have HO2 : Aside0 (One R x (H + 1 - pm) (J - pm)) := ⟨by rw [show H + 1 - pm = H - pm + 1 by omega]; exact HO.out.less HS.out (by omega) (by omega) HU.out (decide_eq_true hc)⟩
        go_wp2
        go_region_held3 (fun w' => w'.cell? ⟨b, H * 2, none⟩ = some (.string u.f0) ∧ w'.cell? ⟨b, H * 2 + 1, none⟩ = some (.string u.f1) ∧ w'.cell? ⟨b, pa * 2, none⟩ = some (.string x.f0) ∧ w'.cell? ⟨b, pa * 2 + 1, none⟩ = some (.string x.f1)) (go_keep)
          (first | (go_at_call 26; refine (less_calls u x _).mono ?_; rintro e w1 ⟨rfl, hb1⟩; have c0 := pw_cell_below (w := wr.drew) hb1 c0; have c1 := pw_cell_below (w := wr.drew) hb1 c1; have d0 := pw_cell_below (w := wr.drew) hb1 d0; have d1 := pw_cell_below (w := wr.drew) hb1 d1; have S1 := Aside0.mk (HW.out.drew.below hb1); clear hb1))
        go_wp2
        go_roundw
        case rel => first | exact ⟨H + 1, J, by go_num, rfl, by omega, by omega, by omega, HO2, S1⟩ | ((repeat apply Exists.intro); exact ⟨⟨H + 1, J, by go_num, rfl, by omega, by omega, by omega, HO2, S1⟩, rfl⟩)
        case measure => simp [intOf]; omega
      · have HO2 : Aside0 (One R x (I - pm) (H - pm)) := ⟨HO.out.not HS.out (by omega) (by omega) HU.out (decide_eq_false hc)⟩
        go_wp2
        go_region_held3 (fun w' => w'.cell? ⟨b, H * 2, none⟩ = some (.string u.f0) ∧ w'.cell? ⟨b, H * 2 + 1, none⟩ = some (.string u.f1) ∧ w'.cell? ⟨b, pa * 2, none⟩ = some (.string x.f0) ∧ w'.cell? ⟨b, pa * 2 + 1, none⟩ = some (.string x.f1)) (go_keep)
          (first | (go_at_call 26; refine (less_calls u x _).mono ?_; rintro e w1 ⟨rfl, hb1⟩; have c0 := pw_cell_below (w := wr.drew) hb1 c0; have c1 := pw_cell_below (w := wr.drew) hb1 c1; have d0 := pw_cell_below (w := wr.drew) hb1 d0; have d1 := pw_cell_below (w := wr.drew) hb1 d1; have S1 := Aside0.mk (HW.out.drew.below hb1); clear hb1))
        go_wp2
        go_roundw
        case rel => first | exact ⟨I, H, rfl, rfl, by omega, by omega, by omega, HO2, S1⟩ | ((repeat apply Exists.intro); exact ⟨⟨I, H, rfl, rfl, by omega, by omega, by omega, HO2, S1⟩, rfl⟩)
        case measure => simp [intOf]; omega
    · have hltz : ¬ (I : Int) < (J : Int) := by omega
      obtain rfl : J = I := by omega
      obtain ⟨t0, ht0⟩ : ∃ t, J - pm = t := ⟨_, rfl⟩
      rw [ht0] at HO
      have hJ : J ≤ pm + t0 ∧ pm + t0 ≤ J := by omega
      have htr : t0 ≤ r := by omega
      have HD : Aside0 (Srt ((R.take t0) ++ x :: R.drop t0)) := ⟨HO.out.done HS.out⟩
      have hlT : (R.take t0).length = t0 := by rw [List.length_take]; have := HX.out.2.2.2.1; omega
      have M0 : Aside0 (SortAt w0 b N (p ++ mv (R.take t0) x 0 ++ (R.drop t0 ++ s)) wr) := ⟨by
        rw [mv_zero]
        have h9 := HW.out
        have e9 : p ++ [x] ++ R ++ s = p ++ (x :: R.take t0) ++ (R.drop t0 ++ s) := by
          conv => lhs; rw [← List.take_append_drop t0 R]
          simp only [List.append_assoc, List.singleton_append, List.cons_append, List.nil_append]
        rwa [e9] at h9⟩
      have HLT := Aside0.mk hlT
      clear HW ht0 hlT HO
      go_wp2
      go_loopw [13] (fun v wr => ∃ K : Nat, v = .int .i64 K ∧ pa ≤ K ∧ K ≤ pa + t0 ∧ Aside0 (SortAt w0 b N (p ++ mv (R.take t0) x (K - pa) ++ (R.drop t0 ++ s)) wr)) (fun v _ => (pa + t0) - (intOf v).toNat)
      case atStart => exact ⟨pa, rfl, by omega, by omega, by rw [Nat.sub_self]; exact M0⟩
      case round =>
        clear M0
        obtain ⟨K, rfl, k0, k1, HW⟩ := hrel
        by_cases hlt2 : K < pa + t0
        · obtain ⟨K1, hK1⟩ : ∃ K1 : Nat, IntKind.i64.wrap ((K : Int) + 1) = (K1 : Int) := ⟨K + 1, by rw [IntWalk.i64_in _ (by omega)]; rfl⟩
          have hK2 : K1 = K + 1 := by rw [IntWalk.i64_in _ (by omega)] at hK1; omega
          have hltz2 : (K : Int) < (J : Int) - 1 := by omega
          obtain ⟨y, gx, gy, gs⟩ := mv_at p (R.take t0) (R.drop t0 ++ s) x (K - pa) (by have := HLT.out; omega) K K1 (by have := HX.out.1; omega) (by have := HX.out.1; omega)
          have S1 := Aside0.mk (HW.out.swap gx gy).drew
          rw [gs, show K - pa + 1 = K1 - pa by omega] at S1
          have hK3 : K1 ≤ K + 1 ∧ K + 1 ≤ K1 := by omega
          obtain ⟨ci0, ci1⟩ := HW.out.cells gx
          obtain ⟨cj0, cj1⟩ := HW.out.cells gy
          have fi0 := HW.out.fr (K * 2)
          have fi1 := HW.out.fr (K * 2 + 1)
          have fj0 := HW.out.fr (K1 * 2)
          have fj1 := HW.out.fr (K1 * 2 + 1)
          have i0 : (0 : Int) ≤ (K : Int) := by omega
          have i1 : (K : Int) < (m : Int) := by omega
          have j0 : (0 : Int) ≤ (K1 : Int) := by omega
          have j1 : (K1 : Int) < (m : Int) := by omega
          have n1 : ¬ K1 = K := by omega
          have n2 : ¬ K1 * 2 = K * 2 + 1 := by omega
          have n3 : ¬ K1 * 2 + 1 = K * 2 := by omega
          have n4 : ¬ K = K1 := by omega
          have n5 : ¬ K * 2 = K1 * 2 + 1 := by omega
          have n6 : ¬ K * 2 + 1 = K1 * 2 := by omega
          clear gx gy gs HW hK2
          go_wp2
          go_region
          all_goals go_wp2
          go_roundw
          case rel => first | exact ⟨K1, rfl, by omega, by omega, S1⟩ | ((repeat apply Exists.intro); exact ⟨⟨K1, rfl, by omega, by omega, S1⟩, rfl⟩)
          case measure => simp [intOf]; omega
        · have hltz2 : ¬ (K : Int) < (J : Int) - 1 := by omega
          go_wp2
          refine bodyPost_ret (results_none rfl _ _ _) rfl ?_
          refine ⟨rfl, R.take t0 ++ x :: R.drop t0, ?_, HD.out, ?_⟩
          · conv => rhs; rw [← List.take_append_drop t0 R]
            exact List.perm_middle
          · have h9 := HW.out
            rw [show K - pa = (R.take t0).length by have := HLT.out; omega, mv_all] at h9
            simpa only [List.append_assoc, List.singleton_append, List.cons_append, List.nil_append] using h9
end Go.Proofs.Ytkmioljfjjmcpaa.P
