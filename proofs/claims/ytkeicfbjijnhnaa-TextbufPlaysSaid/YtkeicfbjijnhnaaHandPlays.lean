/- The law TextbufPlays, walked. -/
import Derived.Test.YtkeicfbjijnhnaaHandDuo
namespace Go.Proofs.Ytkeicfbjijnhnaa.P
open Go.RowKit Go.Proofs.YtkeicfbjijnhnaaW.PrintWords Go.Proofs.YtkeicfbjijnhnaaW.PrintLast Go.Proofs.YtkeicfbjijnhnaaW.PrintMore Go.Proofs.Ytkeicfbjijnhnaa.Shelf Go.Proofs.Ytkeicfbjijnhnaa.Blk
set_option linter.unusedVariables false
/-- an edit's three ends -/
theorem ends (most : Int) (P : List (List UInt8)) (a d : Int) (i : ByteArray) : (may P.flatten a d ∧ (i.size : Int) ≤ most - ((P.flatten.length : Int) - d)) ∨ ∃ r : Int, (r == r) = true ∧ ((r = 1 ∧ ¬ may P.flatten a d) ∨ (r = 2 ∧ may P.flatten a d ∧ most - ((P.flatten.length : Int) - d) < (i.size : Int))) := by
  by_cases hy : may P.flatten a d
  · by_cases hr : (i.size : Int) ≤ most - ((P.flatten.length : Int) - d)
    · exact .inl ⟨hy, hr⟩
    · exact .inr ⟨2, by simp, .inr ⟨rfl, hy, by omega⟩⟩
  · exact .inr ⟨1, by simp, .inl ⟨rfl, hy⟩⟩
theorem may_S {most : Int} {P : List (List UInt8)} {U : List (List (List UInt8))} {S : ByteArray} {Old : List ByteArray} (h : Same most P U S Old) (a d : Int) : may P.flatten a d ↔ (0 ≤ a ∧ a ≤ S.size ∧ 0 ≤ d ∧ d ≤ S.size - a) := by rw [h.1, may_bytes]
set_option maxRecDepth 100000 in
set_option maxHeartbeats 4000000 in
theorem plays_go (s : ByteArray) (most : Int) (A : Option Addr) (c : Nat) (l : List S46) (w : World) (hm0 : 0 ≤ most) (hm1 : most ≤ 65536) (hs : (s.size : Int) ≤ most) (hl : Kd.C k46 w A l.length l) (hc : l.length ≤ c) (hll : l.length ≤ 1000000000000000) (hli : ∀ y ∈ l, y.f0.f2.size ≤ 140737488351232) :
    Calls Try.prog 6 #[.string s, .int .i64 most, .slice A l.length c] w fun e w' => e = .returned (.bool true) ∧ Below w.heap.size w w' := by
  have HL := Aside0.mk hl
  have HLI := Aside0.mk hli
  have HM := Aside0.mk (And.intro hm0 hm1)
  have HSM := Aside0.mk (same_new hm0 hm1 hs)
  clear hl hli
  go_enter Try.func6, Try.ntmps6
  go_wp2_with (first
    | (go_at_call 8; refine (new_calls s most _ hm0 hm1 hs).mono ?_; rintro e w1 ⟨g, rfl, hb1, hl1⟩; have HB1 := Aside0.mk hb1; have HL1 := Aside0.mk hl1; clear hb1 hl1)
    | (go_at_call 16; refine (refnew_calls s most _ hm0 hm1 hs).mono ?_; rintro e w2 ⟨g2, rfl, hb2, hl2⟩; have D0 := Aside0.mk (duo_new HB1.out HL1.out hb2 hl2); clear HB1 HL1 hb2 hl2))
  clear hm0 hm1 hs
  go_loopw [11] (fun v11 wr => ∃ (k : Nat) (P : List (List UInt8)) (U : List (List (List UInt8))) (S : ByteArray) (Old : List ByteArray), v11 = .int .i64 k ∧ k ≤ 60 ∧ k ≤ l.length ∧ Aside0 (U.length ≤ k) ∧ Aside0 (Duo w wr g g2 most P U S Old) ∧ Aside0 (Same most P U S Old)) (fun v11 _ => (61 - (intOf v11).toNat))
  case atStart => exact ⟨0, _, _, _, _, rfl, by omega, by omega, ⟨by simp⟩, D0, HSM⟩
  case round =>
    clear D0 HSM
    obtain ⟨k, P, U, S, Old, rfl, hk, hkl, HU, HD, HS⟩ := hrel
    by_cases hgo : k < l.length ∧ k < 60
    · obtain ⟨h1, h2⟩ := hgo
      have hk1 : (k : Int) < (l.length : Int) := by omega
      have hk2 : decide ((k : Int) < 60) = true := decide_eq_true (by omega)
      have hk0 : (0 : Int) ≤ (k : Int) := by omega
      obtain ⟨ad, hA, hw0, hw1, hw2, hw3⟩ := at_T46 HL.out (k : Int) (by omega) (by omega)
      subst hA
      obtain ⟨⟨⟨a, d, i⟩, un⟩, he⟩ : ∃ e, rd_T46 l (k : Int) = e := ⟨_, rfl⟩
      have hil : i.size ≤ 140737488351232 := by
        have h9 := HLI.out l[k] (List.getElem_mem h1)
        have h8 : rd_T46 l (k : Int) = l[k] := by unfold rd_T46; rw [Int.toNat_natCast, List.getD_eq_getElem?_getD, List.getElem?_eq_getElem h1]; rfl
        rw [← h8, he] at h9
        exact h9
      have HIL := Aside0.mk hil
      simp only [he, Int.toNat_natCast] at hw0 hw1 hw2 hw3
      have hc0 := pw_cell_below HD.out.old hw0
      have hc1 := pw_cell_below HD.out.old hw1
      have hc2 := pw_cell_below HD.out.old hw2
      have hc3 := pw_cell_below HD.out.old hw3
      have HW := Aside0.mk (And.intro hw0 (And.intro hw1 hw2))
      clear he hil hw0 hw1 hw2 hw3
      have HUn := HU.out
      go_upto_if 57 with (fail)
      go_cut [] (fun wc => ∃ (P : List (List UInt8)) (U : List (List (List UInt8))) (S : ByteArray) (Old : List ByteArray), Aside0 (U.length ≤ k + 1) ∧ Aside0 (Duo w wc g g2 most P U S Old) ∧ Aside0 (Same most P U S Old))
      case first =>
        cases un with
        | true =>
          by_cases hU0 : U = []
          · have hO : Old = [] := List.eq_nil_of_length_eq_zero (by rw [← HS.out.len, hU0]; rfl)
            subst hU0 hO
            go_wp2_with (first
              | (go_at_call 12; refine (duo_undo_none HD.out).mono ?_; rintro e w3 ⟨rfl, hw3⟩; subst hw3)
              | (go_at_call 17; refine (duo_refundo_none HD.out).mono ?_; rintro e w4 ⟨rfl, hw4⟩; subst hw4))
            go_meet
            case rel => exact ⟨_, _, _, _, ⟨by simp⟩, HD, HS⟩
          · obtain ⟨U', Q, rfl⟩ : ∃ U' Q, U = U' ++ [Q] := ⟨U.dropLast, U.getLast hU0, (List.dropLast_concat_getLast hU0).symm⟩
            have hO0 : Old ≠ [] := by rintro rfl; have := HS.out.len; simp at this
            obtain ⟨O', t, rfl⟩ : ∃ O' t, Old = O' ++ [t] := ⟨Old.dropLast, Old.getLast hO0, (List.dropLast_concat_getLast hO0).symm⟩
            have HP := Aside0.mk HS.out.pop
            have hUl : U'.length ≤ 100 := by have := HU.out; simp at this; omega
            have hOl : O'.length ≤ 100 := by have := HP.out.len; omega
            have hUl2 : U'.length ≤ k + 1 := by have := HU.out; simp at this; omega
            have HQ := Aside0.mk (show Q.length ≤ 1000000 ∧ Q.flatten.length ≤ 1000000 from by have h1 := HP.out.2.2.1; have h2 := HP.out.size; have h3 := HP.out.bound; omega)
            go_wp2_with (first
              | (go_at_call 12; refine (duo_undo HD.out (by omega) HQ.out.1 HQ.out.2).mono ?_; rintro e w3 ⟨rfl, hd3⟩; have D3 := Aside0.mk hd3; clear hd3)
              | (go_at_call 17; refine (duo_refundo D3.out (by omega)).mono ?_; rintro e w4 ⟨rfl, hd4⟩; have D4 := Aside0.mk hd4; clear hd4))
            go_meet
            case rel => exact ⟨_, _, _, _, ⟨hUl2⟩, D4, HP⟩
        | false =>
          have HZ := Aside0.mk (And.intro HS.out.size (And.intro HS.out.bound (And.intro HS.out.2.2.1 (And.intro HS.out.2.2.2.1 HS.out.len))))
          have HMY := Aside0.mk (may_S HS.out a d)
          rcases ends most P a d i with hok | ⟨r, hrr, hno⟩
          · have HOK := Aside0.mk hok
            clear hok
            go_wp2
            go_region_held3 (fun w' => w'.cell? (ad.add (k * 4)) = some (.int .i64 a) ∧ w'.cell? ⟨(ad.add (k * 4)).block, (ad.add (k * 4)).off + 1, none⟩ = some (.int .i64 d) ∧ w'.cell? ⟨(ad.add (k * 4)).block, (ad.add (k * 4)).off + 2, none⟩ = some (.string i)) (go_keep)
              (first
                | (go_at_call 11; (have gA := E1.out; clear gA); refine (duo_splice a d i E1.out (.inr trivial) HZ.out.2.2.1 HZ.out.2.2.2.1 HM.out (by omega) HOK.out.1 HOK.out.2).mono ?_; rintro e w4 ⟨rfl, Q, hQ, hQl, hd4⟩; have D4 := Aside0.mk hd4; have HP := Aside0.mk (HS.out.push HOK.out.1 HOK.out.2 hQ hQl); have hc0 := pw_cell_below D4.out.old HW.out.1; have hc1 := pw_cell_below D4.out.old HW.out.2.1; have hc2 := pw_cell_below D4.out.old HW.out.2.2; clear hd4 hQ hQl E1)
                | (go_at_call 11; (have gA := HD.out; clear gA); refine (duo_splice a d i (HD.out.below (below_drew1 (Below.refl _ _))) (.inr trivial) HZ.out.2.2.1 HZ.out.2.2.2.1 HM.out (by omega) HOK.out.1 HOK.out.2).mono ?_; rintro e w3 ⟨rfl, Q, hQ, hQl, hd3⟩; have D1 := Aside0.mk hd3; have HP := Aside0.mk (HS.out.push HOK.out.1 HOK.out.2 hQ hQl); have hc0 := pw_cell_below D1.out.old HW.out.1; have hc1 := pw_cell_below D1.out.old HW.out.2.1; have hc2 := pw_cell_below D1.out.old HW.out.2.2; clear hd3 hQ hQl)
                | (go_at_call 18; (have gA := D1.out; clear gA); refine (duo_refsplice a d i D1.out (by have := HZ.out.2.2.2.2; omega) (by have := HZ.out.2.1; omega) HM.out (HMY.out.1 HOK.out.1) (by have h1 := HOK.out.2; have h2 := HZ.out.1; omega)).mono ?_; rintro e w4 ⟨rfl, hd4⟩; have D4 := Aside0.mk hd4; have hc0 := pw_cell_below D4.out.old HW.out.1; have hc1 := pw_cell_below D4.out.old HW.out.2.1; have hc2 := pw_cell_below D4.out.old HW.out.2.2; clear hd4 D1)
                | (go_at_call 18; (have gA := HD.out; clear gA); refine (duo_refsplice a d i (HD.out.below (below_drew1 (Below.refl _ _))) (by have := HZ.out.2.2.2.2; omega) (by have := HZ.out.2.1; omega) HM.out (HMY.out.1 HOK.out.1) (by have h1 := HOK.out.2; have h2 := HZ.out.1; omega)).mono ?_; rintro e w3 ⟨rfl, hd3⟩; have E1 := Aside0.mk hd3; have hc0 := pw_cell_below E1.out.old HW.out.1; have hc1 := pw_cell_below E1.out.old HW.out.2.1; have hc2 := pw_cell_below E1.out.old HW.out.2.2; clear hd3))
            all_goals go_wp2
            all_goals go_meet
            all_goals (case rel => exact ⟨_, _, _, _, ⟨by simp; omega⟩, D4, HP⟩)
          · have HNO := Aside0.mk hno
            have HNO2 : Aside0 ((r = 1 ∧ ¬ (0 ≤ a ∧ a ≤ S.size ∧ 0 ≤ d ∧ d ≤ S.size - a)) ∨ (r = 2 ∧ (0 ≤ a ∧ a ≤ S.size ∧ 0 ≤ d ∧ d ≤ S.size - a) ∧ most - ((S.size : Int) - d) < (i.size : Int))) := ⟨by rw [← HMY.out]; have h1 := HZ.out.1; rcases hno with h | h; exact .inl h; exact .inr ⟨h.1, h.2.1, by have := h.2.2; omega⟩⟩
            clear hno
            go_wp2
            go_region_held3 (fun w' => w'.cell? (ad.add (k * 4)) = some (.int .i64 a) ∧ w'.cell? ⟨(ad.add (k * 4)).block, (ad.add (k * 4)).off + 1, none⟩ = some (.int .i64 d) ∧ w'.cell? ⟨(ad.add (k * 4)).block, (ad.add (k * 4)).off + 2, none⟩ = some (.string i)) (go_keep)
              (first
                | (go_at_call 11; (have gA := E1.out; clear gA); refine (duo_splice_no a d i r E1.out (by have h1 := HZ.out.1; have h2 := HZ.out.2.1; omega) HM.out HNO.out).mono ?_; rintro e w4 ⟨rfl, hd4⟩; have D4 := Aside0.mk hd4; have hc0 := pw_cell_below D4.out.old HW.out.1; have hc1 := pw_cell_below D4.out.old HW.out.2.1; have hc2 := pw_cell_below D4.out.old HW.out.2.2; clear hd4 E1)
                | (go_at_call 11; (have gA := HD.out; clear gA); refine (duo_splice_no a d i r (HD.out.below (below_drew1 (Below.refl _ _))) (by have h1 := HZ.out.1; have h2 := HZ.out.2.1; omega) HM.out HNO.out).mono ?_; rintro e w3 ⟨rfl, hd3⟩; have D1 := Aside0.mk hd3; have hc0 := pw_cell_below D1.out.old HW.out.1; have hc1 := pw_cell_below D1.out.old HW.out.2.1; have hc2 := pw_cell_below D1.out.old HW.out.2.2; clear hd3)
                | (go_at_call 18; (have gA := D1.out; clear gA); refine (duo_refsplice_no a d i r D1.out (by have := HZ.out.2.1; omega) HM.out HIL.out HNO2.out).mono ?_; rintro e w4 ⟨rfl, hd4⟩; have D4 := Aside0.mk hd4; have hc0 := pw_cell_below D4.out.old HW.out.1; have hc1 := pw_cell_below D4.out.old HW.out.2.1; have hc2 := pw_cell_below D4.out.old HW.out.2.2; clear hd4 D1)
                | (go_at_call 18; (have gA := HD.out; clear gA); refine (duo_refsplice_no a d i r (HD.out.below (below_drew1 (Below.refl _ _))) (by have := HZ.out.2.1; omega) HM.out HIL.out HNO2.out).mono ?_; rintro e w3 ⟨rfl, hd3⟩; have E1 := Aside0.mk hd3; have hc0 := pw_cell_below E1.out.old HW.out.1; have hc1 := pw_cell_below E1.out.old HW.out.2.1; have hc2 := pw_cell_below E1.out.old HW.out.2.2; clear hd3))
            all_goals go_wp2
            all_goals go_meet
            all_goals (case rel => exact ⟨_, _, _, _, ⟨by omega⟩, D4, HS⟩)
      case rest =>
        clear HU HD HS hc0 hc1 hc2 hc3 HUn
        obtain ⟨P, U, S, Old, HU, HD, HS⟩ := hcut
        have hs0 := HD.out.s
        obtain ⟨Ao, co, ho⟩ := HD.out.o
        have hbd := HS.out.bound
        have hc0 := pw_cell_below HD.out.old HW.out.1
        have hc1 := pw_cell_below HD.out.old HW.out.2.1
        go_wp2
        go_region_held3 (fun w' => w'.cell? ⟨g2, 0, none⟩ = some (.string S) ∧ w'.cell? ⟨g2, 2, none⟩ = some (.slice Ao Old.length co)) (go_keep)
          (first
            | (go_at_call 10; refine (duo_text (HD.out.below (below_drew1 (Below.refl _ _))) HS.out).mono ?_; rintro e w5 ⟨rfl, hb5⟩; have hs0 := pw_cell_below (w := wc.drew) hb5 hs0; have ho := pw_cell_below (w := wc.drew) hb5 ho; have hc0 := pw_cell_below (w := wc.drew) hb5 hc0; have hc1 := pw_cell_below (w := wc.drew) hb5 hc1; have D5 := Aside0.mk ((HD.out.below (below_drew1 (Below.refl _ _))).below hb5); clear hb5)
            | (go_at_call 19; refine (duo_len D5.out HS.out).mono ?_; rintro e w6 ⟨rfl, hw6⟩; subst hw6)
            | (go_at_call 13; refine (duo_version D5.out HS.out).mono ?_; rintro e w7 ⟨rfl, hw7⟩; subst hw7))
        go_wp2
        go_quiet (fail)
        generalize hwq : World.drewN _ _ = wq
        have D6 : Aside0 (Duo w wq g g2 most P U S Old) := ⟨by rw [← hwq]; exact D5.out.below (pw_below_drewN (Below.refl _ _) _)⟩
        have hs0 := D6.out.s
        have hUk := HU.out
        clear hwq D5 ho hc0 hc1
        by_cases hab : 0 ≤ a ∧ a ≤ d ∧ d ≤ (S.size : Int)
        · obtain ⟨p0, p1, p2⟩ := hab
          have q0 : decide (0 ≤ a) = true := decide_eq_true p0
          have q1 : decide (a ≤ d) = true := decide_eq_true p1
          have q2 : decide (d ≤ (S.size : Int)) = true := decide_eq_true p2
          go_wp2_with (go_at_call 15; refine (duo_slice a d D6.out HS.out p0 p1 p2).mono ?_; rintro e w8 ⟨rfl, hb8⟩; have hs0 := pw_cell_below hb8 hs0; have D8 := Aside0.mk (D6.out.below hb8); clear hb8)
          go_roundw
          case rel => exact ⟨k + 1, P, U, S, Old, by go_num, by omega, by omega, ⟨by omega⟩, D8, HS⟩
          case measure => simp [intOf]; omega
        · have hno : a < 0 ∨ d < a ∨ (S.size : Int) < d := by omega
          have hdec : decide (0 ≤ a) = false ∨ (decide (0 ≤ a) = true ∧ decide (a ≤ d) = false) ∨ (decide (0 ≤ a) = true ∧ decide (a ≤ d) = true ∧ decide (d ≤ (S.size : Int)) = false) := by
            by_cases p0 : 0 ≤ a
            · by_cases p1 : a ≤ d
              · exact .inr (.inr ⟨decide_eq_true p0, decide_eq_true p1, decide_eq_false (by omega)⟩)
              · exact .inr (.inl ⟨decide_eq_true p0, decide_eq_false p1⟩)
            · exact .inl (decide_eq_false p0)
          have HNO := Aside0.mk hno
          clear hab hno
          rcases hdec with q0 | ⟨q0, q1⟩ | ⟨q0, q1, q2⟩
          all_goals
            go_wp2_with (go_at_call 15; refine (duo_slice_no a d D6.out HS.out HNO.out).mono ?_; rintro e w8 ⟨rfl, hw8⟩; subst hw8)
            go_roundw
            case rel => exact ⟨k + 1, P, U, S, Old, by go_num, by omega, by omega, ⟨by omega⟩, D6, HS⟩
            case measure => simp [intOf]; omega
    · have HB := Aside0.mk HD.out.old
      clear HU HD HS
      have hend : ((k : Int) < (l.length : Int)) = False ∨ (((k : Int) < (l.length : Int)) = True ∧ decide ((k : Int) < 60) = false) := by
        by_cases h1 : k < l.length
        · exact .inr ⟨eq_true (by omega), decide_eq_false (by omega)⟩
        · exact .inl (eq_false (by omega))
      clear hgo
      rcases hend with hk1 | ⟨hk1, hk2⟩
      all_goals
        go_wp2_with (go_at_call 9; refine (awake_calls _).mono ?_; rintro e w6 ⟨rfl, hb6⟩; have L6 := Aside0.mk (below_then HB.out HB.out.size hb6); clear hb6)
        go_ret
        exact ⟨rfl, L6.out⟩
set_option maxRecDepth 100000 in
theorem plays_arg (s : ByteArray) (most : Int) (A : Option Addr) (c : Nat) (l : List S46) (w : World) (hll : l.length ≤ 1000000000000000) (h : most < 0 ∨ 65536 < most) :
    Calls Try.prog 6 #[.string s, .int .i64 most, .slice A l.length c] w fun e w' => e = .returned (.bool true) ∧ Below w.heap.size w w' := by
  have L0 := Aside0.mk (Below.refl w.heap.size w)
  have hl0 : ((0 : Int) < (l.length : Int)) = False ∨ ((0 : Int) < (l.length : Int)) = True := by
    by_cases h : (0 : Int) < (l.length : Int)
    · exact .inr (eq_true h)
    · exact .inl (eq_false h)
  rcases hl0 with hl0 | hl0
  all_goals
    go_enter Try.func6, Try.ntmps6
    go_wp2_with (first
      | (go_at_call 8; refine (new_arg s most _ h).mono ?_; rintro e w1 ⟨rfl, hw1⟩; rw [hw1]; clear hw1)
      | (go_at_call 16; refine (refnew_arg s most _ h).mono ?_; rintro e w2 ⟨rfl, hw2⟩; rw [hw2]; clear hw2))
    go_loopw [11] (fun v11 wr => v11 = .int .i64 0 ∧ Aside0 (Below w.heap.size w wr)) (fun _ _ => 0)
    case atStart => exact ⟨rfl, L0⟩
    obtain ⟨rfl, L1⟩ := hrel
    go_wp2_with (go_at_call 9; refine (awake_calls _).mono ?_; rintro e w6 ⟨rfl, hb6⟩; have L6 := Aside0.mk (below_then L1.out L1.out.size hb6); clear hb6)
    all_goals (go_ret; exact ⟨rfl, L6.out⟩)
set_option maxRecDepth 100000 in
theorem plays_size (s : ByteArray) (most : Int) (A : Option Addr) (c : Nat) (l : List S46) (w : World) (hll : l.length ≤ 1000000000000000) (h0 : 0 ≤ most) (h1 : most ≤ 65536) (h2 : most < (s.size : Int)) :
    Calls Try.prog 6 #[.string s, .int .i64 most, .slice A l.length c] w fun e w' => e = .returned (.bool true) ∧ Below w.heap.size w w' := by
  have L0 := Aside0.mk (Below.refl w.heap.size w)
  have hl0 : ((0 : Int) < (l.length : Int)) = False ∨ ((0 : Int) < (l.length : Int)) = True := by
    by_cases h : (0 : Int) < (l.length : Int)
    · exact .inr (eq_true h)
    · exact .inl (eq_false h)
  rcases hl0 with hl0 | hl0
  all_goals
    go_enter Try.func6, Try.ntmps6
    go_wp2_with (first
      | (go_at_call 8; refine (new_size s most _ h0 h1 h2).mono ?_; rintro e w1 ⟨rfl, hw1⟩; rw [hw1]; clear hw1)
      | (go_at_call 16; refine (refnew_size s most _ h0 h1 h2).mono ?_; rintro e w2 ⟨rfl, hw2⟩; rw [hw2]; clear hw2))
    go_loopw [11] (fun v11 wr => v11 = .int .i64 0 ∧ Aside0 (Below w.heap.size w wr)) (fun _ _ => 0)
    case atStart => exact ⟨rfl, L0⟩
    obtain ⟨rfl, L1⟩ := hrel
    go_wp2_with (go_at_call 9; refine (awake_calls _).mono ?_; rintro e w6 ⟨rfl, hb6⟩; have L6 := Aside0.mk (below_then L1.out L1.out.size hb6); clear hb6)
    all_goals (go_ret; exact ⟨rfl, L6.out⟩)
/-- the law TextbufPlays -/
noncomputable def taffraillaw01_TextbufPlays.f (a0 : ByteArray) (a1 : Int) (l2 : List S46) : Option Bool := if l2.length ≤ 1000000000000000 ∧ ∀ y ∈ l2, y.f0.f2.size ≤ 140737488351232 then some true else none
theorem taffraillaw01_TextbufPlays.calls (a0 : ByteArray) (a1 : Int) (A2 : Option Addr) (c2 : Nat) (l2 : List S46) (r : Bool) (w : World) (hr2 : Kd.C k46 w A2 l2.length l2) (hc2 : l2.length ≤ c2) (h : taffraillaw01_TextbufPlays.f a0 a1 l2 = some r) :
    Calls Try.prog 6 #[.string a0, .int .i64 a1, .slice A2 l2.length c2] w fun e w' => e = .returned (.bool r) ∧ Below w.heap.size w w' := by
  unfold taffraillaw01_TextbufPlays.f at h
  split at h
  · rename_i hll
    obtain rfl := Option.some.inj h
    by_cases h0 : a1 < 0 ∨ 65536 < a1
    · exact plays_arg a0 a1 A2 c2 l2 w hll.1 h0
    · by_cases h2 : (a0.size : Int) ≤ a1
      · exact plays_go a0 a1 A2 c2 l2 w (by omega) (by omega) h2 hr2 hc2 hll.1 hll.2
      · exact plays_size a0 a1 A2 c2 l2 w hll.1 (by omega) (by omega) (by omega)
  · cases h
end Go.Proofs.Ytkeicfbjijnhnaa.P
