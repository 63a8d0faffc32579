/- The insertion sort of a run. -/
import Derived.Test.YtkmioljfjjmcpaaSortSym1
namespace Go.Proofs.Ytkmioljfjjmcpaa.P
open Go.RowKit Go.Proofs.YtkmioljfjjmcpaaW.PrintWords Go.Proofs.YtkmioljfjjmcpaaW.PrintLast Go.Proofs.YtkmioljfjjmcpaaW.PrintMore Go.Proofs.Ytkmioljfjjmcpaa.Blk
set_option linter.unusedVariables false
set_option linter.unusedSimpArgs false
/-- the first t of L in order, the others as they were -/
def InsO (w0 : World) (b N : Nat) (p L s : List E) (t : Nat) (W : World) : Prop := ∃ S : List E, S.Perm (L.take t) ∧ Srt S ∧ SortAt w0 b N (p ++ S ++ (L.drop t ++ s)) W
/-- x among S at place u, ahead of all behind -/
def InsI (w0 : World) (b N : Nat) (p S r : List E) (x : E) (u : Nat) (W : World) : Prop := u ≤ S.length ∧ Srt S ∧ (∀ y ∈ S.drop u, lt x y = true) ∧ SortAt w0 b N (p ++ mv S x u ++ r) W
theorem InsI.done {w0 W : World} {b N : Nat} {p S r : List E} {x : E} {u : Nat} (h : InsI w0 b N p S r x u W) (hx : ∀ y, S[u - 1]? = some y → 0 < u → lt x y = false) : Srt (mv S x u) := by
  obtain ⟨h1, h2, h3, _⟩ := h
  refine srt_append (srt_take h2 u) (List.pairwise_cons.2 ⟨fun y hy => lt_le (h3 y hy), srt_drop h2 u⟩) ?_
  intro y hy z hz
  obtain ⟨k, hk⟩ := List.getElem?_of_mem hy
  have hkl := (List.getElem?_eq_some_iff.1 hk).1
  rw [List.length_take] at hkl
  rw [List.getElem?_take_of_lt (by omega)] at hk
  obtain ⟨v, hv⟩ : ∃ v, S[u - 1]? = some v := ⟨_, List.getElem?_eq_getElem (by omega)⟩
  have h4 : Le y v := srt_get h2 (by omega) hk hv
  have h5 : Le v x := hx v hv (by omega)
  rcases List.mem_cons.1 hz with rfl | hz
  · exact h4.trans h5
  · exact (h4.trans h5).trans (lt_le (h3 z hz))
theorem mv_perm {α : Type} (S : List α) (x : α) (u : Nat) : (mv S x u).Perm (x :: S) := by
  unfold mv
  conv => rhs; rw [← List.take_append_drop u S]
  exact List.perm_middle
set_option maxRecDepth 100000 in
set_option maxHeartbeats 2000000 in
theorem ins_calls {w0 : World} {b N m c : Nat} (p L s : List E) (ia ib : Int) (hm : p.length + L.length + s.length = m) (hbd : m ≤ 1000000000000) (ha : ia = (p.length : Int)) (hbb : ib = ((p.length + L.length : Nat) : Int)) (W : World) (hW : SortAt w0 b N (p ++ L ++ s) W) :
    Calls Try.prog 34 #[.slice (some ⟨b, 0, none⟩) m c, .int .i64 ia, .int .i64 ib, clo] W fun e w' => e = .returned (.tuple #[]) ∧ ∃ M : List E, M.Perm L ∧ Srt M ∧ SortAt w0 b N (p ++ M ++ s) w' := by
  obtain ⟨pa, hpa⟩ : ∃ n, p.length = n := ⟨_, rfl⟩
  obtain ⟨pb, hpb⟩ : ∃ n, p.length + L.length = n := ⟨_, rfl⟩
  obtain ⟨ll, hll⟩ : ∃ n, L.length = n := ⟨_, rfl⟩
  obtain rfl : ia = (pa : Int) := by omega
  obtain rfl : ib = (pb : Int) := by omega
  have HX := Aside0.mk (And.intro hpa (And.intro hpb (And.intro hll hm)))
  have hb1 : pa + ll ≤ pb ∧ pb ≤ pa + ll ∧ pb ≤ m := by omega
  have H0 : Aside0 (InsO w0 b N p L s 1 W) := ⟨L.take 1, List.Perm.refl _, by cases L with | nil => exact List.Pairwise.nil | cons x l => exact List.pairwise_singleton _ _, by rw [List.append_assoc p, ← List.append_assoc (L.take 1), List.take_append_drop, ← List.append_assoc]; exact hW⟩
  clear hW hm ha hbb hpa hpb hll
  go_enter Try.func34, Try.ntmps34
  go_wp2
  go_loopw [8] (fun v wr => ∃ I : Nat, v = .int .i64 I ∧ pa + 1 ≤ I ∧ I ≤ pb + 1 ∧ Aside0 (InsO w0 b N p L s (I - pa) wr)) (fun v _ => (pb + 1) - (intOf v).toNat)
  case atStart => exact ⟨pa + 1, by go_num, by omega, by omega, by rw [show pa + 1 - pa = 1 by omega]; exact H0⟩
  case round =>
    clear H0
    obtain ⟨I, rfl, g1, g2, HO⟩ := hrel
    by_cases hlt : I < pb
    · have hltz : (I : Int) < (pb : Int) := by omega
      obtain ⟨S, hp, hs, hw⟩ := HO.out
      have hSl : S.length = I - pa := by rw [hp.length_eq, List.length_take]; have := HX.out.2.2.1; omega
      have hk : I - pa < L.length := by have := HX.out.2.2.1; omega
      obtain ⟨x, hx⟩ : ∃ x, L[I - pa] = x := ⟨_, rfl⟩
      have HI : Aside0 (InsI w0 b N p S (L.drop (I - pa + 1) ++ s) x (I - pa) wr) := ⟨by omega, hs, fun y hy => (by rw [List.drop_eq_nil_of_le (by omega)] at hy; cases hy), by
        rw [← hSl, mv_all, hSl]
        rw [List.drop_eq_getElem_cons hk, hx] at hw
        simpa only [List.append_assoc, List.singleton_append, List.cons_append, List.nil_append] using hw⟩
      have HP : Aside0 ((x :: S).Perm (L.take (I - pa + 1))) := ⟨by
        rw [List.take_succ_eq_append_getElem hk, hx]
        exact (List.Perm.cons x hp).trans (List.perm_append_singleton x _).symm⟩
      have HSl := Aside0.mk hSl
      clear hp hs hw hSl hk hx HO
      go_wp2
      go_loopw [9] (fun v wr => ∃ J : Nat, v = .int .i64 J ∧ pa ≤ J ∧ J ≤ I ∧ Aside0 (InsI w0 b N p S (L.drop (I - pa + 1) ++ s) x (J - pa) wr)) (fun v _ => (intOf v).toNat)
      case atStart => exact ⟨I, rfl, by omega, by omega, HI⟩
      case round =>
        clear HI
        obtain ⟨J, rfl, j1, j2, HI⟩ := hrel
        by_cases hja : pa < J
        · have hjd : decide ((pa : Int) < (J : Int)) = true := decide_eq_true (by omega)
          obtain ⟨K, hK⟩ : ∃ K : Nat, IntKind.i64.wrap ((J : Int) - 1) = (K : Int) := ⟨J - 1, by rw [IntWalk.i64_in _ (by omega)]; omega⟩
          have hK3 : K + 1 ≤ J ∧ J ≤ K + 1 := by rw [IntWalk.i64_in _ (by omega)] at hK; omega
          obtain ⟨y, gx, gy, gs⟩ := mv_at' p S (L.drop (I - pa + 1) ++ s) x (K - pa) (by have := HSl.out; omega) J K (by have := HX.out.1; omega) (by have := HX.out.1; omega)
          have hy : S[K - pa]? = some y := by
            have h9 := get_mid p (mv S x (K - pa + 1)) (L.drop (I - pa + 1) ++ s) (K - pa) (by rw [mv_len]; have := HSl.out; omega)
            rw [show p.length + (K - pa) = K by have := HX.out.1; omega, gy, mv_gy S x (K - pa) (by have := HSl.out; omega)] at h9
            rw [List.getElem?_eq_getElem (by have := HSl.out; omega)]
            exact h9.symm
          rw [show K - pa + 1 = J - pa by omega] at gx gy gs
          obtain ⟨c0, c1⟩ := HI.out.2.2.2.cells gx
          obtain ⟨d0, d1⟩ := HI.out.2.2.2.cells gy
          have HGX := Aside0.mk (And.intro gx (And.intro gy gs))
          have HY := Aside0.mk hy
          have i0 : (0 : Int) ≤ (J : Int) := by omega
          have i1 : (J : Int) < (m : Int) := by omega
          have q0 : (0 : Int) ≤ (K : Int) := by omega
          have q1 : (K : Int) < (m : Int) := by omega
          clear gx gy gs hy
          have hcase : cf x y < 0 ∨ ¬ cf x y < 0 := by omega
          rcases hcase with hc | hc
          · as_aux_lemma =>
            have hcd : decide (cf x y < 0) = true := decide_eq_true hc
            go_wp2
            go_region_held3 (fun w' => w'.cell? ⟨b, J * 2, none⟩ = some (.string x.f0) ∧ w'.cell? ⟨b, J * 2 + 1, none⟩ = some (.string x.f1) ∧ w'.cell? ⟨b, K * 2, none⟩ = some (.string y.f0) ∧ w'.cell? ⟨b, K * 2 + 1, none⟩ = some (.string y.f1)) (go_keep)
              (first | (go_at_call 26; refine (less_calls x y _).mono ?_; rintro e w1 ⟨rfl, hb1⟩; have c0 := pw_cell_below (w := wr.drew) hb1 c0; have c1 := pw_cell_below (w := wr.drew) hb1 c1; have d0 := pw_cell_below (w := wr.drew) hb1 d0; have d1 := pw_cell_below (w := wr.drew) hb1 d1; have S1 := Aside0.mk (show InsI w0 b N p S (L.drop (I - pa + 1) ++ s) x (J - pa) w1 from ⟨HI.out.1, HI.out.2.1, HI.out.2.2.1, HI.out.2.2.2.drew.below hb1⟩); clear hb1))
            have S2 := Aside0.mk (S1.out.2.2.2.swap HGX.out.1 HGX.out.2.1).drew
            have H2 : Aside0 (InsI w0 b N p S (L.drop (I - pa + 1) ++ s) x (K - pa) (((((w1.setCell ⟨b, J * 2, none⟩ (.string y.f0)).setCell ⟨b, J * 2 + 1, none⟩ (.string y.f1)).setCell ⟨b, K * 2, none⟩ (.string x.f0)).setCell ⟨b, K * 2 + 1, none⟩ (.string x.f1)).drew)) := ⟨by have := S1.out.1; omega, S1.out.2.1, by
              intro z hz
              rw [List.drop_eq_getElem_cons (by have := HSl.out; omega)] at hz
              rcases List.mem_cons.1 hz with rfl | hz
              · have h9 := HY.out
                rw [List.getElem?_eq_getElem (by have := HSl.out; omega)] at h9
                rw [Option.some.inj h9]
                exact decide_eq_true hc
              · exact S1.out.2.2.1 z (by rw [show J - pa = K - pa + 1 by omega]; exact hz), by rw [← HGX.out.2.2]; exact S2.out⟩
            have fi0 := S1.out.2.2.2.fr (J * 2)
            have fi1 := S1.out.2.2.2.fr (J * 2 + 1)
            have fj0 := S1.out.2.2.2.fr (K * 2)
            have fj1 := S1.out.2.2.2.fr (K * 2 + 1)
            have n1 : ¬ K = J := by omega
            have n2 : ¬ K * 2 = J * 2 + 1 := by omega
            have n3 : ¬ K * 2 + 1 = J * 2 := by omega
            have n4 : ¬ J = K := by omega
            have n5 : ¬ J * 2 = K * 2 + 1 := by omega
            have n6 : ¬ J * 2 + 1 = K * 2 := by omega
            clear S1 S2 HGX
            go_wp2
            go_region
            all_goals go_wp2
            go_roundw
            case rel => first | exact ⟨K, rfl, by omega, by omega, H2⟩ | ((repeat apply Exists.intro); exact ⟨⟨K, rfl, by omega, by omega, H2⟩, rfl⟩)
            case measure => simp [intOf]; omega
          · as_aux_lemma =>
            have hcd : decide (cf x y < 0) = false := decide_eq_false hc
            go_wp2
            go_region_held3 (fun w' => w'.cell? ⟨b, J * 2, none⟩ = some (.string x.f0) ∧ w'.cell? ⟨b, J * 2 + 1, none⟩ = some (.string x.f1) ∧ w'.cell? ⟨b, K * 2, none⟩ = some (.string y.f0) ∧ w'.cell? ⟨b, K * 2 + 1, none⟩ = some (.string y.f1)) (go_keep)
              (first | (go_at_call 26; refine (less_calls x y _).mono ?_; rintro e w1 ⟨rfl, hb1⟩; have c0 := pw_cell_below (w := wr.drew) hb1 c0; have c1 := pw_cell_below (w := wr.drew) hb1 c1; have d0 := pw_cell_below (w := wr.drew) hb1 d0; have d1 := pw_cell_below (w := wr.drew) hb1 d1; have S1 := Aside0.mk (show InsI w0 b N p S (L.drop (I - pa + 1) ++ s) x (J - pa) w1 from ⟨HI.out.1, HI.out.2.1, HI.out.2.2.1, HI.out.2.2.2.drew.below hb1⟩); clear hb1))
            have H2 : Aside0 (InsO w0 b N p L s (I + 1 - pa) w1) := ⟨mv S x (J - pa), by
              rw [show I + 1 - pa = I - pa + 1 by omega]
              exact (mv_perm S x _).trans HP.out, S1.out.done (fun z hz _ => by
                rw [show J - pa - 1 = K - pa by omega, HY.out] at hz
                rw [← Option.some.inj hz]
                exact decide_eq_false (show ¬ cf x y < 0 by omega)), by rw [show I + 1 - pa = I - pa + 1 by omega]; exact S1.out.2.2.2⟩
            clear S1 HGX
            go_wp2
            go_roundw
            case rel => first | exact ⟨I + 1, by go_num, by omega, by omega, H2⟩ | ((repeat apply Exists.intro); exact ⟨⟨I + 1, by go_num, by omega, by omega, H2⟩, rfl⟩)
            case measure => simp [intOf]; omega
        · as_aux_lemma =>
          have hjd : decide ((pa : Int) < (J : Int)) = false := decide_eq_false (by omega)
          have H2 : Aside0 (InsO w0 b N p L s (I + 1 - pa) wr.drew) := ⟨mv S x (J - pa), by
              rw [show I + 1 - pa = I - pa + 1 by omega]
              exact (mv_perm S x _).trans HP.out, HI.out.done (fun z _ hu => by omega), by rw [show I + 1 - pa = I - pa + 1 by omega]; exact HI.out.2.2.2.drew⟩
          clear HI
          go_wp2
          go_region
          all_goals go_wp2
          go_roundw
          case rel => first | exact ⟨I + 1, by go_num, by omega, by omega, H2⟩ | ((repeat apply Exists.intro); exact ⟨⟨I + 1, by go_num, by omega, by omega, H2⟩, rfl⟩)
          case measure => simp [intOf]; omega
    · have hltz : ¬ (I : Int) < (pb : Int) := by omega
      go_wp2
      go_end0
      obtain ⟨S, hp, hs, hw⟩ := HO.out
      have e1 : L.take (I - pa) = L := List.take_of_length_le (by have := HX.out.2.2.1; omega)
      have e2 : L.drop (I - pa) = [] := List.drop_eq_nil_of_le (by have := HX.out.2.2.1; omega)
      rw [e1] at hp
      rw [e2, List.nil_append] at hw
      exact ⟨rfl, S, hp, hs, by simpa only [List.append_assoc] using hw⟩
end Go.Proofs.Ytkmioljfjjmcpaa.P
