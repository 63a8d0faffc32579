/- The merge in place: a row of one element behind. -/
import Derived.Test.YtkmioljfjjmcpaaSortSym1
namespace Go.Proofs.Ytkmioljfjjmcpaa.P
open Go.RowKit Go.Proofs.YtkmioljfjjmcpaaW.PrintWords Go.Proofs.YtkmioljfjjmcpaaW.PrintLast Go.Proofs.YtkmioljfjjmcpaaW.PrintMore Go.Proofs.Ytkmioljfjjmcpaa.Blk
set_option linter.unusedVariables false
set_option linter.unusedSimpArgs false
theorem get_L (p L : List E) (x : E) (s : List E) (k : Nat) (h : k < L.length) : (p ++ L ++ [x] ++ s)[p.length + k]? = some L[k] := by
  rw [List.append_assoc (p ++ L), get_mid p L ([x] ++ s) k h, List.getElem?_eq_getElem h]
theorem get_xL (p L : List E) (x : E) (s : List E) : (p ++ L ++ [x] ++ s)[p.length + L.length]? = some x := by
  have := get_mid (p ++ L) [x] s 0 (by simp)
  rw [List.length_append, Nat.add_zero] at this
  exact this
set_option maxRecDepth 100000 in
set_option maxHeartbeats 2000000 in
theorem sym_two {w0 : World} {b N m c : Nat} (p L s : List E) (x : E) (ia im ib : Int) (hm : p.length + L.length + 1 + s.length = m) (hbd : m ≤ 1000000000000) (hL2 : 2 ≤ L.length) (hL : Srt L) (ha : ia = (p.length : Int)) (hmm : im = ((p.length + L.length : Nat) : Int)) (hbb : ib = ((p.length + L.length + 1 : Nat) : Int)) (W : World) (hW : SortAt w0 b N (p ++ L ++ [x] ++ s) W) :
    Calls Try.prog 35 #[.slice (some ⟨b, 0, none⟩) m c, .int .i64 ia, .int .i64 im, .int .i64 ib, clo] W fun e w' => e = .returned (.tuple #[]) ∧ Mrg w0 b N p L [x] s w' := by
  obtain ⟨pa, hpa⟩ : ∃ n, p.length = n := ⟨_, rfl⟩
  obtain ⟨pm, hpm⟩ : ∃ n, p.length + L.length = n := ⟨_, rfl⟩
  obtain ⟨pb, hpb⟩ : ∃ n, p.length + L.length + 1 = n := ⟨_, rfl⟩
  obtain ⟨r, hr⟩ : ∃ n, L.length = n := ⟨_, rfl⟩
  obtain rfl : ia = (pa : Int) := by omega
  obtain rfl : im = (pm : Int) := by omega
  obtain rfl : ib = (pb : Int) := by omega
  have HX := Aside0.mk (And.intro hpa (And.intro hpm (And.intro hpb (And.intro hr hm))))
  have hb1 : pa + r ≤ pm ∧ pm ≤ pa + r ∧ pb ≤ pm + 1 ∧ pm + 1 ≤ pb ∧ pb ≤ m ∧ 2 ≤ r := by omega
  have hz : (pb : Int) - (pm : Int) = 1 := by omega
  have hz2 : ((pm : Int) - (pa : Int) == 1) = false := beq_eq_false_iff_ne.mpr (by omega)
  have H0 : Aside0 (SortAt w0 b N (p ++ L ++ [x] ++ s) W) := ⟨hW⟩
  have HS := Aside0.mk hL
  have HO : Aside0 (Two L x (pa - pa) (pm - pa)) := ⟨by rw [Nat.sub_self, show pm - pa = L.length by omega]; exact Two.start L x⟩
  clear hW hL hm ha hmm hbb hpa hpm hpb hr hL2
  go_enter Try.func35, Try.ntmps35
  go_wp2
  go_loopw [14, 15] (fun v10 v11 wr => ∃ I J : Nat, v10 = .int .i64 I ∧ v11 = .int .i64 J ∧ pa ≤ I ∧ I ≤ J ∧ J ≤ pm ∧ Aside0 (Two L x (I - pa) (J - pa)) ∧ Aside0 (SortAt w0 b N (p ++ L ++ [x] ++ s) wr)) (fun v10 v11 _ => (intOf v11).toNat - (intOf v10).toNat)
  case atStart => exact ⟨pa, pm, rfl, rfl, by omega, by omega, by omega, HO, H0⟩
  case round =>
    clear H0 HO
    obtain ⟨I, J, rfl, rfl, g1, g2, g3, HO, HW⟩ := hrel
    by_cases hlt : I < J
    · have hltz : (I : Int) < (J : Int) := by omega
      obtain ⟨H, hH⟩ : ∃ H : Nat, ((I : Int) + (J : Int)) / 2 = (H : Int) := ⟨(I + J) / 2, by omega⟩
      have hb : I ≤ H ∧ H < J := by omega
      have i0 : (0 : Int) ≤ (H : Int) := by omega
      have i1 : (H : Int) < (m : Int) := by omega
      have j0 : (0 : Int) ≤ (pm : Int) := by omega
      have j1 : (pm : Int) < (m : Int) := by omega
      have hk : H - pa < L.length := by have := HX.out.2.2.2.1; omega
      obtain ⟨u, hu⟩ : ∃ u, L[H - pa]? = some u := ⟨_, List.getElem?_eq_getElem hk⟩
      have gu : (p ++ L ++ [x] ++ s)[H]? = some u := by
        have := get_L p L x s (H - pa) hk
        rw [HX.out.1, show pa + (H - pa) = H by omega] at this
        rw [this, ← hu, List.getElem?_eq_getElem hk]
      have gx : (p ++ L ++ [x] ++ s)[pm]? = some x := by rw [← HX.out.2.1]; exact get_xL p L x s
      obtain ⟨c0, c1⟩ := HW.out.cells gu
      obtain ⟨d0, d1⟩ := HW.out.cells gx
      have HU := Aside0.mk hu
      clear gu gx hu hk
      have hcase : cf x u < 0 ∨ ¬ cf x u < 0 := by omega
      rcases hcase with hc | hc
      · have hcd : decide (cf x u < 0) = true := decide_eq_true hc
        have HO2 : Aside0 (Two L x (I - pa) (H - pa)) := ⟨HO.out.less HS.out (by omega) (by omega) HU.out (decide_eq_true hc)⟩
        go_wp2
        go_region_held3 (fun w' => w'.cell? ⟨b, H * 2, none⟩ = some (.string u.f0) ∧ w'.cell? ⟨b, H * 2 + 1, none⟩ = some (.string u.f1) ∧ w'.cell? ⟨b, pm * 2, none⟩ = some (.string x.f0) ∧ w'.cell? ⟨b, pm * 2 + 1, none⟩ = some (.string x.f1)) (go_keep)
          (first | (go_at_call 26; refine (less_calls x u _).mono ?_; rintro e w1 ⟨rfl, hb1⟩; have c0 := pw_cell_below (w := wr.drew) hb1 c0; have c1 := pw_cell_below (w := wr.drew) hb1 c1; have d0 := pw_cell_below (w := wr.drew) hb1 d0; have d1 := pw_cell_below (w := wr.drew) hb1 d1; have S1 := Aside0.mk (HW.out.drew.below hb1); clear hb1))
        go_wp2
        first
          | (go_roundw; (case rel => exact ⟨I, H, rfl, rfl, by omega, by omega, by omega, HO2, S1⟩); (case measure => simp [intOf]; omega); done)
          | (go_roundw; exact ⟨⟨I, H, rfl, rfl, by omega, by omega, by omega, HO2, S1⟩, by simp [intOf]; omega⟩)
          | exact ⟨⟨I, H, rfl, rfl, by omega, by omega, by omega, HO2, S1⟩, by simp [intOf]; omega⟩
      · have hcd : decide (cf x u < 0) = false := decide_eq_false hc
        have HO2 : Aside0 (Two L x (H + 1 - pa) (J - pa)) := ⟨by rw [show H + 1 - pa = H - pa + 1 by omega]; exact HO.out.not HS.out (by omega) (by omega) HU.out (decide_eq_false hc)⟩
        go_wp2
        go_region_held3 (fun w' => w'.cell? ⟨b, H * 2, none⟩ = some (.string u.f0) ∧ w'.cell? ⟨b, H * 2 + 1, none⟩ = some (.string u.f1) ∧ w'.cell? ⟨b, pm * 2, none⟩ = some (.string x.f0) ∧ w'.cell? ⟨b, pm * 2 + 1, none⟩ = some (.string x.f1)) (go_keep)
          (first | (go_at_call 26; refine (less_calls x u _).mono ?_; rintro e w1 ⟨rfl, hb1⟩; have c0 := pw_cell_below (w := wr.drew) hb1 c0; have c1 := pw_cell_below (w := wr.drew) hb1 c1; have d0 := pw_cell_below (w := wr.drew) hb1 d0; have d1 := pw_cell_below (w := wr.drew) hb1 d1; have S1 := Aside0.mk (HW.out.drew.below hb1); clear hb1))
        go_wp2
        go_roundw
        case rel => first | exact ⟨H + 1, J, by go_num, rfl, by omega, by omega, by omega, HO2, S1⟩ | ((repeat apply Exists.intro); exact ⟨⟨H + 1, J, by go_num, rfl, by omega, by omega, by omega, HO2, S1⟩, rfl⟩)
        case measure => simp [intOf]; omega
    · have hltz : ¬ (I : Int) < (J : Int) := by omega
      obtain rfl : J = I := by omega
      obtain ⟨t0, ht0⟩ : ∃ t, J - pa = t := ⟨_, rfl⟩
      rw [ht0] at HO
      have hJ : J ≤ pa + t0 ∧ pa + t0 ≤ J := by omega
      have htr : t0 ≤ r := by omega
      have HD : Aside0 (Srt ((L.take t0) ++ x :: L.drop t0)) := ⟨HO.out.done HS.out⟩
      have hlT : (L.drop t0).length = r - t0 := by rw [List.length_drop]; have := HX.out.2.2.2.1; omega
      have hlP : (p ++ L.take t0).length = J := by rw [List.length_append, List.length_take]; have := HX.out.2.2.2.1; have := HX.out.1; omega
      have M0 : Aside0 (SortAt w0 b N (p ++ L.take t0 ++ mv (L.drop t0) x (pm - J) ++ s) wr) := ⟨by
        rw [show pm - J = (L.drop t0).length by omega, mv_all]
        have h9 := HW.out
        have e9 : p ++ L ++ [x] ++ s = p ++ L.take t0 ++ (L.drop t0 ++ [x]) ++ s := by
          conv => lhs; rw [← List.take_append_drop t0 L]
          simp only [List.append_assoc, List.singleton_append, List.cons_append, List.nil_append]
        rwa [e9] at h9⟩
      have HLT := Aside0.mk (And.intro hlT hlP)
      clear HW ht0 hlT HO hlP
      go_wp2
      go_loopw [17] (fun v wr => ∃ K : Nat, v = .int .i64 K ∧ J ≤ K ∧ K ≤ pm ∧ Aside0 (SortAt w0 b N (p ++ L.take t0 ++ mv (L.drop t0) x (K - J) ++ s) wr)) (fun v _ => (intOf v).toNat)
      case atStart => exact ⟨pm, rfl, by omega, by omega, M0⟩
      case round =>
        clear M0
        obtain ⟨K, rfl, k0, k1, HW⟩ := hrel
        by_cases hlt2 : J < K
        · obtain ⟨K1, hK1⟩ : ∃ K1 : Nat, IntKind.i64.wrap ((K : Int) - 1) = (K1 : Int) := ⟨K - 1, by rw [IntWalk.i64_in _ (by omega)]; omega⟩
          have hK3 : K1 + 1 ≤ K ∧ K ≤ K1 + 1 := by rw [IntWalk.i64_in _ (by omega)] at hK1; omega
          have hK4 : (K : Int) - 1 = (K1 : Int) := by omega
          have hltz2 : (J : Int) < (K : Int) := by omega
          obtain ⟨y, gx, gy, gs⟩ := mv_at' (p ++ L.take t0) (L.drop t0) s x (K1 - J) (by have := HLT.out.1; omega) K K1 (by have := HLT.out.2; omega) (by have := HLT.out.2; omega)
          rw [show K1 - J + 1 = K - J by omega] at gx gy gs
          have S1 := Aside0.mk (HW.out.swap gx gy).drew
          rw [gs] at S1
          obtain ⟨ci0, ci1⟩ := HW.out.cells gx
          obtain ⟨cj0, cj1⟩ := HW.out.cells gy
          have fi0 := HW.out.fr (K * 2)
          have fi1 := HW.out.fr (K * 2 + 1)
          have fj0 := HW.out.fr (K1 * 2)
          have fj1 := HW.out.fr (K1 * 2 + 1)
          have i0 : (0 : Int) ≤ (K : Int) := by omega
          have i1 : (K : Int) < (m : Int) := by omega
          have j0 : (0 : Int) ≤ (K1 : Int) := by omega
          have j1 : (K1 : Int) < (m : Int) := by omega
          have n1 : ¬ K1 = K := by omega
          have n2 : ¬ K1 * 2 = K * 2 + 1 := by omega
          have n3 : ¬ K1 * 2 + 1 = K * 2 := by omega
          have n4 : ¬ K = K1 := by omega
          have n5 : ¬ K * 2 = K1 * 2 + 1 := by omega
          have n6 : ¬ K * 2 + 1 = K1 * 2 := by omega
          clear gx gy gs HW
          go_wp2
          go_region
          all_goals go_wp2
          go_roundw
          case rel => first | exact ⟨K1, rfl, by omega, by omega, S1⟩ | ((repeat apply Exists.intro); exact ⟨⟨K1, rfl, by omega, by omega, S1⟩, rfl⟩)
          case measure => simp [intOf]; omega
        · have hltz2 : ¬ (J : Int) < (K : Int) := by omega
          go_wp2
          refine bodyPost_ret (results_none rfl _ _ _) rfl ?_
          refine ⟨rfl, L.take t0 ++ x :: L.drop t0, ?_, HD.out, ?_⟩
          · conv => rhs; rw [← List.take_append_drop t0 L]
            rw [List.append_assoc]
            exact List.Perm.append_left _ (List.perm_append_singleton x _).symm
          · have h9 := HW.out
            rw [show K - J = 0 by omega, mv_zero] at h9
            simpa only [List.append_assoc, List.singleton_append, List.cons_append, List.nil_append] using h9
end Go.Proofs.Ytkmioljfjjmcpaa.P
