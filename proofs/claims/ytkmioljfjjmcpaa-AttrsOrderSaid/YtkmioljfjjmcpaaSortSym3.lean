/- The merge in place: both rows of two elements or more. -/
import Derived.Test.YtkmioljfjjmcpaaSortSym2
namespace Go.Proofs.Ytkmioljfjjmcpaa.P
open Go.RowKit Go.Proofs.YtkmioljfjjmcpaaW.PrintWords Go.Proofs.YtkmioljfjjmcpaaW.PrintLast Go.Proofs.YtkmioljfjjmcpaaW.PrintMore Go.Proofs.Ytkmioljfjjmcpaa.Blk
set_option linter.unusedVariables false
set_option linter.unusedSimpArgs false
/-- the merge's contract for rows of fewer than n elements -/
def SymIH (n : Nat) : Prop := ∀ (w0 : World) (b N m c : Nat) (p L R s : List E) (ia im ib : Int), L.length + R.length < n → 1 ≤ L.length → 1 ≤ R.length → Srt L → Srt R → p.length + L.length + R.length + s.length = m → m ≤ 1000000000000 → ia = (p.length : Int) → im = ((p.length + L.length : Nat) : Int) → ib = ((p.length + L.length + R.length : Nat) : Int) → ∀ (W : World), SortAt w0 b N (p ++ L ++ R ++ s) W →
    Calls Try.prog 35 #[.slice (some ⟨b, 0, none⟩) m c, .int .i64 ia, .int .i64 im, .int .i64 ib, clo] W fun e w' => e = .returned (.tuple #[]) ∧ Mrg w0 b N p L R s w'
theorem get_L3 (p L R s : List E) (k : Nat) (h : k < L.length) : (p ++ L ++ R ++ s)[p.length + k]? = L[k]? := by
  rw [List.append_assoc (p ++ L), get_mid p L (R ++ s) k h]
theorem get_R3 (p L R s : List E) (k : Nat) (h : k < R.length) : (p ++ L ++ R ++ s)[p.length + L.length + k]? = R[k]? := by
  have := get_mid (p ++ L) R s k h
  rwa [List.length_append] at this
theorem sym_end {w0 w' : World} {b N : Nat} {p L R L1 L2 R1 R2 M1 M2 s : List E} (p1 : M1.Perm (L1 ++ R1)) (s1 : Srt M1) (p2 : M2.Perm (L2 ++ R2)) (s2 : Srt M2) (eL : L = L1 ++ L2) (eR : R = R1 ++ R2) (hx : ∀ x ∈ L1 ++ R1, ∀ y ∈ L2 ++ R2, Le x y) (hw : SortAt w0 b N (p ++ (M1 ++ (M2 ++ s))) w') : Mrg w0 b N p L R s w' := by
  refine ⟨M1 ++ M2, ?_, srt_append s1 s2 (fun x hx1 y hy1 => hx x (p1.subset hx1) y (p2.subset hy1)), by simpa only [List.append_assoc] using hw⟩
  rw [eL, eR]
  refine (List.Perm.append p1 p2).trans ?_
  rw [List.append_assoc, List.append_assoc]
  refine List.Perm.append_left _ ?_
  rw [← List.append_assoc, ← List.append_assoc]
  exact List.Perm.append_right _ List.perm_append_comm
set_option maxRecDepth 100000 in
set_option maxHeartbeats 8000000 in
theorem sym_gen {n : Nat} (IH : SymIH n) {w0 : World} {b N m c : Nat} (p L R s : List E) (ia im ib : Int) (hln : L.length + R.length ≤ n) (hl2 : 2 ≤ L.length) (hr2 : 2 ≤ R.length) (hL : Srt L) (hR : Srt R) (hm : p.length + L.length + R.length + s.length = m) (hbd : m ≤ 1000000000000) (ha : ia = (p.length : Int)) (hmm : im = ((p.length + L.length : Nat) : Int)) (hbb : ib = ((p.length + L.length + R.length : Nat) : Int)) (W : World) (hW : SortAt w0 b N (p ++ L ++ R ++ s) W) :
    Calls Try.prog 35 #[.slice (some ⟨b, 0, none⟩) m c, .int .i64 ia, .int .i64 im, .int .i64 ib, clo] W fun e w' => e = .returned (.tuple #[]) ∧ Mrg w0 b N p L R s w' := by
  obtain ⟨pa, hpa⟩ : ∃ n, p.length = n := ⟨_, rfl⟩
  obtain ⟨pm, hpm⟩ : ∃ n, p.length + L.length = n := ⟨_, rfl⟩
  obtain ⟨pb, hpb⟩ : ∃ n, p.length + L.length + R.length = n := ⟨_, rfl⟩
  obtain ⟨ll, hll⟩ : ∃ n, L.length = n := ⟨_, rfl⟩
  obtain ⟨rr, hrr⟩ : ∃ n, R.length = n := ⟨_, rfl⟩
  obtain rfl : ia = (pa : Int) := by omega
  obtain rfl : im = (pm : Int) := by omega
  obtain rfl : ib = (pb : Int) := by omega
  have HX := Aside0.mk (And.intro hpa (And.intro hll (And.intro hrr (And.intro hm hln))))
  have hb1 : pa + ll ≤ pm ∧ pm ≤ pa + ll ∧ pb ≤ pm + rr ∧ pm + rr ≤ pb ∧ pb ≤ m ∧ 2 ≤ ll ∧ 2 ≤ rr := by omega
  have hz1 : ((pm : Int) - (pa : Int) == 1) = false := beq_eq_false_iff_ne.mpr (by omega)
  have hz2 : ((pb : Int) - (pm : Int) == 1) = false := beq_eq_false_iff_ne.mpr (by omega)
  obtain ⟨md, hmd⟩ : ∃ H : Nat, ((pa : Int) + (pb : Int)) / 2 = (H : Int) := ⟨(pa + pb) / 2, by omega⟩
  obtain ⟨nn, hnn⟩ : ∃ H : Nat, (md : Int) + (pm : Int) = (H : Int) := ⟨md + pm, by omega⟩
  have hmd2 : 2 * md ≤ pa + pb ∧ pa + pb ≤ 2 * md + 1 := by omega
  have hnn2 : md + pm ≤ nn ∧ nn ≤ md + pm := by omega
  obtain ⟨q, hq⟩ : ∃ H : Nat, (nn : Int) - 1 = (H : Int) := ⟨nn - 1, by omega⟩
  have hq2 : q + 1 ≤ nn ∧ nn ≤ q + 1 := by omega
  obtain ⟨s0, hs0⟩ : ∃ x : Nat, x = if md < pm then nn - pb else pa := ⟨_, rfl⟩
  obtain ⟨r0, hr0⟩ : ∃ x : Nat, x = if md < pm then md else pm := ⟨_, rfl⟩
  have hsr : pa ≤ s0 ∧ s0 ≤ r0 ∧ r0 ≤ md ∧ r0 ≤ pm := by
    rw [hs0, hr0]
    by_cases h : md < pm
    · rw [if_pos h, if_pos h]; omega
    · rw [if_neg h, if_neg h]; omega
  have HSR := Aside0.mk (And.intro hs0 hr0)
  have H0 : Aside0 (SortAt w0 b N (p ++ L ++ R ++ s) W) := ⟨hW⟩
  have HLR := Aside0.mk (And.intro hL hR)
  have HY : Aside0 (Sym L R (s0 - pa) (r0 - pa) (md - pa + ll - 1) (s0 - pa) (r0 - pa)) := ⟨Sym.start (by omega)⟩
  have HIH : Aside0 (SymIH n) := ⟨IH⟩
  clear hW hL hR hm ha hmm hbb hpa hpm hpb hll hrr hl2 hr2 hs0 hr0 IH hln
  go_enter Try.func35, Try.ntmps35
  go_upto_if 140 with (fail)
  go_cut [20, 21] (fun v20 v21 wc => v20 = .int .i64 s0 ∧ v21 = .int .i64 r0 ∧ wc = W)
  case first => as_aux_lemma =>
    by_cases hc : md < pm
    · have hcz : (md : Int) < (pm : Int) := by omega
      have e0 : (nn : Int) - (pb : Int) = (s0 : Int) := by have := HSR.out.1; rw [if_pos hc] at this; omega
      have e1 : r0 = md := by have := HSR.out.2; rw [if_pos hc] at this; exact this
      have E1 := Aside0.mk e1
      clear e1 HSR
      go_wp2
      go_meet
      case rel => exact ⟨rfl, by rw [E1.out], rfl⟩
    · have hcz : ¬ (md : Int) < (pm : Int) := by omega
      have e0 : s0 = pa := by have := HSR.out.1; rw [if_neg hc] at this; exact this
      have e1 : r0 = pm := by have := HSR.out.2; rw [if_neg hc] at this; exact this
      have E1 := Aside0.mk (And.intro e0 e1)
      clear e0 e1 HSR
      go_wp2
      go_meet
      case rel => exact ⟨by rw [E1.out.1], by rw [E1.out.2], rfl⟩
  case rest =>
    obtain ⟨rfl, rfl, rfl⟩ := hcut
    go_wp2
    go_loopw [20, 21] (fun v20 v21 wr => ∃ I J : Nat, v20 = .int .i64 I ∧ v21 = .int .i64 J ∧ s0 ≤ I ∧ I ≤ J ∧ J ≤ r0 ∧ Aside0 (Sym L R (s0 - pa) (r0 - pa) (md - pa + ll - 1) (I - pa) (J - pa)) ∧ Aside0 (SortAt w0 b N (p ++ L ++ R ++ s) wr)) (fun v20 v21 _ => (intOf v21).toNat - (intOf v20).toNat)
    case atStart => exact ⟨s0, r0, rfl, rfl, by omega, by omega, by omega, HY, H0⟩
    case round =>
      clear H0 HY
      obtain ⟨I, J, rfl, rfl, g1, g2, g3, HO, HW⟩ := hrel
      by_cases hlt : I < J
      · have hltz : (I : Int) < (J : Int) := by omega
        obtain ⟨H, hH⟩ : ∃ H : Nat, ((I : Int) + (J : Int)) / 2 = (H : Int) := ⟨(I + J) / 2, by omega⟩
        have hb : I ≤ H ∧ H < J := by omega
        have hge : pb ≤ nn - s0 + pb := by omega
        have hsn : nn ≤ pb + s0 := by
          have h9 := HSR.out.1
          by_cases hc : md < pm
          · rw [if_pos hc] at h9; omega
          · rw [if_neg hc] at h9; omega
        obtain ⟨Q, hQ⟩ : ∃ Q : Nat, IntKind.i64.wrap ((q : Int) - (H : Int)) = (Q : Int) := ⟨q - H, by rw [IntWalk.i64_in _ (by omega)]; omega⟩
        have hQ2 : Q + H ≤ q ∧ q ≤ Q + H := by rw [IntWalk.i64_in _ (by omega)] at hQ; omega
        have i0 : (0 : Int) ≤ (H : Int) := by omega
        have i1 : (H : Int) < (m : Int) := by omega
        have j0 : (0 : Int) ≤ (Q : Int) := by omega
        have j1 : (Q : Int) < (m : Int) := by omega
        have hk : H - pa < L.length := by have := HX.out.2.1; omega
        have hk2 : Q - pm < R.length := by have := HX.out.2.2.1; omega
        obtain ⟨v, hv⟩ : ∃ v, L[H - pa]? = some v := ⟨_, List.getElem?_eq_getElem hk⟩
        obtain ⟨u, hu⟩ : ∃ u, R[Q - pm]? = some u := ⟨_, List.getElem?_eq_getElem hk2⟩
        have gv : (p ++ L ++ R ++ s)[H]? = some v := by
          have := get_L3 p L R s (H - pa) hk
          rw [HX.out.1, show pa + (H - pa) = H by omega] at this
          rw [this, hv]
        have gu : (p ++ L ++ R ++ s)[Q]? = some u := by
          have := get_R3 p L R s (Q - pm) hk2
          rw [show p.length + L.length + (Q - pm) = Q by have := HX.out.1; have := HX.out.2.1; omega] at this
          rw [this, hu]
        obtain ⟨c0, c1⟩ := HW.out.cells gu
        obtain ⟨d0, d1⟩ := HW.out.cells gv
        have HU : Aside0 (R[md - pa + ll - 1 - (H - pa) - L.length]? = some u) := ⟨by rw [show md - pa + ll - 1 - (H - pa) - L.length = Q - pm by have := HX.out.2.1; omega]; exact hu⟩
        have HV := Aside0.mk hv
        have hqq : L.length + (H - pa) ≤ md - pa + ll - 1 := by have := HX.out.2.1; omega
        have HQ := Aside0.mk hqq
        clear gu gv hu hv hk hk2 hqq hge hsn
        have hcase : cf u v < 0 ∨ ¬ cf u v < 0 := by omega
        rcases hcase with hc | hc
        · as_aux_lemma =>
          have hcd : decide (cf u v < 0) = true := decide_eq_true hc
          have HO2 : Aside0 (Sym L R (s0 - pa) (r0 - pa) (md - pa + ll - 1) (I - pa) (H - pa)) := ⟨HO.out.less HLR.out.1 HLR.out.2 (by omega) (by omega) HQ.out HU.out HV.out (decide_eq_true hc)⟩
          go_wp2
          go_region_held3 (fun w' => w'.cell? ⟨b, Q * 2, none⟩ = some (.string u.f0) ∧ w'.cell? ⟨b, Q * 2 + 1, none⟩ = some (.string u.f1) ∧ w'.cell? ⟨b, H * 2, none⟩ = some (.string v.f0) ∧ w'.cell? ⟨b, H * 2 + 1, none⟩ = some (.string v.f1)) (go_keep)
            (first | (go_at_call 26; refine (less_calls u v _).mono ?_; rintro e w1 ⟨rfl, hb1⟩; have c0 := pw_cell_below (w := wr.drew) hb1 c0; have c1 := pw_cell_below (w := wr.drew) hb1 c1; have d0 := pw_cell_below (w := wr.drew) hb1 d0; have d1 := pw_cell_below (w := wr.drew) hb1 d1; have S1 := Aside0.mk (HW.out.drew.below hb1); clear hb1))
          go_wp2
          go_roundw
          case rel => first | exact ⟨I, H, rfl, rfl, by omega, by omega, by omega, HO2, S1⟩ | ((repeat apply Exists.intro); exact ⟨⟨I, H, rfl, rfl, by omega, by omega, by omega, HO2, S1⟩, rfl⟩)
          case measure => simp [intOf]; omega
        · as_aux_lemma =>
          have hcd : decide (cf u v < 0) = false := decide_eq_false hc
          have HO2 : Aside0 (Sym L R (s0 - pa) (r0 - pa) (md - pa + ll - 1) (H + 1 - pa) (J - pa)) := ⟨by rw [show H + 1 - pa = H - pa + 1 by omega]; exact HO.out.not HLR.out.1 HLR.out.2 (by omega) (by omega) HQ.out HU.out HV.out (decide_eq_false hc)⟩
          go_wp2
          go_region_held3 (fun w' => w'.cell? ⟨b, Q * 2, none⟩ = some (.string u.f0) ∧ w'.cell? ⟨b, Q * 2 + 1, none⟩ = some (.string u.f1) ∧ w'.cell? ⟨b, H * 2, none⟩ = some (.string v.f0) ∧ w'.cell? ⟨b, H * 2 + 1, none⟩ = some (.string v.f1)) (go_keep)
            (first | (go_at_call 26; refine (less_calls u v _).mono ?_; rintro e w1 ⟨rfl, hb1⟩; have c0 := pw_cell_below (w := wr.drew) hb1 c0; have c1 := pw_cell_below (w := wr.drew) hb1 c1; have d0 := pw_cell_below (w := wr.drew) hb1 d0; have d1 := pw_cell_below (w := wr.drew) hb1 d1; have S1 := Aside0.mk (HW.out.drew.below hb1); clear hb1))
          go_wp2
          go_roundw
          case rel => first | exact ⟨H + 1, J, by go_num, rfl, by omega, by omega, by omega, HO2, S1⟩ | ((repeat apply Exists.intro); exact ⟨⟨H + 1, J, by go_num, rfl, by omega, by omega, by omega, HO2, S1⟩, rfl⟩)
          case measure => simp [intOf]; omega
      · have hltz : ¬ (I : Int) < (J : Int) := by omega
        obtain rfl : J = I := by omega
        obtain ⟨i', hi'⟩ : ∃ t, J - pa = t := ⟨_, rfl⟩
        rw [hi'] at HO
        obtain ⟨a1, a2, a3, a4⟩ := sym_cross (mid := md - pa) (s0 := s0 - pa) (r0 := r0 - pa) HLR.out.1 HLR.out.2 (by have := HX.out.2.1; have := HX.out.2.2.1; omega)
          (by
            have h9 := HSR.out.1
            have h8 := HX.out.2.1
            have h7 := HX.out.2.2.1
            by_cases hc : md < pm
            · rw [if_pos hc] at h9; rw [if_pos (by omega)]; omega
            · rw [if_neg hc] at h9; rw [if_neg (by omega)]; omega)
          (by
            have h9 := HSR.out.2
            have h8 := HX.out.2.1
            by_cases hc : md < pm
            · rw [if_pos hc] at h9; rw [if_pos (by omega)]; omega
            · rw [if_neg hc] at h9; rw [if_neg (by omega)]; omega)
          (by rw [HX.out.2.1]; exact HO.out) (by have := HX.out.2.1; omega) (by have := HX.out.2.2.1; omega)
        obtain ⟨L1, hL1⟩ : ∃ l, L.take i' = l := ⟨_, rfl⟩
        obtain ⟨L2, hL2⟩ : ∃ l, L.drop i' = l := ⟨_, rfl⟩
        obtain ⟨R1, hR1⟩ : ∃ l, R.take (md - pa - i') = l := ⟨_, rfl⟩
        obtain ⟨R2, hR2⟩ : ∃ l, R.drop (md - pa - i') = l := ⟨_, rfl⟩
        rw [hL1, hL2, hR1, hR2] at a4
        have eL : L = L1 ++ L2 := by rw [← hL1, ← hL2, List.take_append_drop]
        have eR : R = R1 ++ R2 := by rw [← hR1, ← hR2, List.take_append_drop]
        have l1 : L1.length = i' := by rw [← hL1, List.length_take]; omega
        have l2 : L2.length = ll - i' := by rw [← hL2, List.length_drop]; have := HX.out.2.1; omega
        have l3 : R1.length = md - pa - i' := by rw [← hR1, List.length_take]; omega
        have l4 : R2.length = rr - (md - pa - i') := by rw [← hR2, List.length_drop]; have := HX.out.2.2.1; omega
        have sL1 : Srt L1 := by rw [← hL1]; exact srt_take HLR.out.1 _
        have sL2 : Srt L2 := by rw [← hL2]; exact srt_drop HLR.out.1 _
        have sR1 : Srt R1 := by rw [← hR1]; exact srt_take HLR.out.2 _
        have sR2 : Srt R2 := by rw [← hR2]; exact srt_drop HLR.out.2 _
        have HS := Aside0.mk (And.intro sL1 (And.intro sL2 (And.intro sR1 sR2)))
        have HL := Aside0.mk (And.intro l1 (And.intro l2 (And.intro l3 l4)))
        have HA := Aside0.mk a4
        have HE := Aside0.mk (And.intro eL eR)
        have HW1 : Aside0 (SortAt w0 b N (p ++ L1 ++ L2 ++ R1 ++ (R2 ++ s)) wr) := ⟨by
          have h9 := HW.out
          rw [eL, eR] at h9
          simpa only [List.append_assoc] using h9⟩
        obtain ⟨en, hen⟩ : ∃ H : Nat, (nn : Int) - (J : Int) = (H : Int) := ⟨nn - J, by omega⟩
        have hen2 : en + J ≤ nn ∧ nn ≤ en + J := by omega
        have hi2 : pa + i' ≤ J ∧ J ≤ pa + i' ∧ i' ≤ ll ∧ i' ≤ md - pa ∧ md - pa - i' ≤ rr := by have := HX.out.2.1; have := HX.out.2.2.1; omega
        clear hL1 hL2 hR1 hR2 eL eR l1 l2 l3 l4 sL1 sL2 sR1 sR2 a1 a2 a3 a4 HW HO hi' HLR HSR
        obtain ⟨B1, HB1⟩ : ∃ B : Bool, Aside0 (B = decide (J < pm ∧ pm < en)) := ⟨_, ⟨rfl⟩⟩
        go_upto_region 39 with (fail)
        go_cut [185] (fun v wz => v = .bool B1 ∧ wr = wz)
        case first => as_aux_lemma =>
          by_cases c1 : J < pm
          · by_cases c2 : pm < en
            · obtain rfl : B1 = true := by rw [HB1.out]; exact decide_eq_true ⟨c1, c2⟩
              have q0 : decide ((J : Int) < (pm : Int)) = true := decide_eq_true (by omega)
              have q1 : decide ((pm : Int) < (en : Int)) = true := decide_eq_true (by omega)
              go_wp2
              go_meet
              case rel => exact ⟨rfl, rfl⟩
            · obtain rfl : B1 = false := by rw [HB1.out]; exact decide_eq_false (fun h => c2 h.2)
              have q0 : decide ((J : Int) < (pm : Int)) = true := decide_eq_true (by omega)
              have q1 : decide ((pm : Int) < (en : Int)) = false := decide_eq_false (by omega)
              go_wp2
              go_meet
              case rel => exact ⟨rfl, rfl⟩
          · obtain rfl : B1 = false := by rw [HB1.out]; exact decide_eq_false (fun h => c1 h.1)
            have q0 : decide ((J : Int) < (pm : Int)) = false := decide_eq_false (by omega)
            go_wp2
            go_meet
            case rel => exact ⟨rfl, rfl⟩
        case rest =>
          obtain ⟨rfl, rfl⟩ := hcut
          go_upto_if 185 with (fail)
          go_cut [] (fun wc => Aside0 (SortAt w0 b N (p ++ L1 ++ R1 ++ (L2 ++ R2 ++ s)) wc))
          case first => as_aux_lemma =>
            by_cases hc : J < pm ∧ pm < en
            · obtain rfl : B1 = true := by rw [HB1.out]; exact decide_eq_true hc
              go_wp2_with (go_at_call 36; refine (rot_calls (p ++ L1) L2 R1 (R2 ++ s) _ _ _ (by have := HX.out; have := HL.out; have := HE.out; rw [HE.out.1, HE.out.2] at this; simp only [List.length_append] at *; omega) hbd (by have := HL.out; omega) (by have := HL.out; omega) (by have := HX.out.1; have := HL.out.1; simp only [List.length_append]; omega) (by have := HX.out.1; have := HL.out.1; have := HL.out.2.1; simp only [List.length_append]; omega) (by have := HX.out.1; have := HL.out; simp only [List.length_append]; omega) _ HW1.out).mono ?_; rintro e w1 ⟨rfl, hw1⟩; have S1 := Aside0.mk hw1; clear hw1)
              go_meet
              case rel => exact ⟨by have h9 := S1.out; simpa only [List.append_assoc] using h9⟩
            · have hcc : L2 = [] ∨ R1 = [] := by
                by_cases h1 : J < pm
                · exact .inr (List.eq_nil_of_length_eq_zero (by have := HL.out.2.2.1; omega))
                · exact .inl (List.eq_nil_of_length_eq_zero (by have := HL.out.2.1; omega))
              have S1 : Aside0 (SortAt w0 b N (p ++ L1 ++ R1 ++ (L2 ++ R2 ++ s)) wr) := ⟨by
                have h9 := HW1.out
                rcases hcc with h | h
                · subst h; simpa only [List.append_assoc, List.nil_append, List.append_nil] using h9
                · subst h; simpa only [List.append_assoc, List.nil_append, List.append_nil] using h9⟩
              obtain rfl : B1 = false := by rw [HB1.out]; exact decide_eq_false hc
              clear hc hcc
              go_wp2
              go_meet
              case rel => exact S1
          case rest =>
            clear HW1
            have HW1 := hcut
            clear hcut
            obtain ⟨B2, HB2⟩ : ∃ B : Bool, Aside0 (B = decide (pa < J ∧ J < md)) := ⟨_, ⟨rfl⟩⟩
            go_upto_region 41 with (fail)
            go_cut [199] (fun v wz => v = .bool B2 ∧ wc = wz)
            case first => as_aux_lemma =>
              by_cases c1 : pa < J
              · by_cases c2 : J < md
                · obtain rfl : B2 = true := by rw [HB2.out]; exact decide_eq_true ⟨c1, c2⟩
                  have q0 : decide ((pa : Int) < (J : Int)) = true := decide_eq_true (by omega)
                  have q1 : decide ((J : Int) < (md : Int)) = true := decide_eq_true (by omega)
                  go_wp2
                  go_meet
                  case rel => exact ⟨rfl, rfl⟩
                · obtain rfl : B2 = false := by rw [HB2.out]; exact decide_eq_false (fun h => c2 h.2)
                  have q0 : decide ((pa : Int) < (J : Int)) = true := decide_eq_true (by omega)
                  have q1 : decide ((J : Int) < (md : Int)) = false := decide_eq_false (by omega)
                  go_wp2
                  go_meet
                  case rel => exact ⟨rfl, rfl⟩
              · obtain rfl : B2 = false := by rw [HB2.out]; exact decide_eq_false (fun h => c1 h.1)
                have q0 : decide ((pa : Int) < (J : Int)) = false := decide_eq_false (by omega)
                go_wp2
                go_meet
                case rel => exact ⟨rfl, rfl⟩
            case rest =>
              obtain ⟨rfl, rfl⟩ := hcut
              go_upto_if 199 with (fail)
              go_cut [] (fun wd => ∃ M1 : List E, Aside0 (M1.Perm (L1 ++ R1)) ∧ Aside0 (Srt M1) ∧ Aside0 (SortAt w0 b N (p ++ M1 ++ L2 ++ R2 ++ s) wd))
              case first => as_aux_lemma =>
                by_cases hc : pa < J ∧ J < md
                · obtain rfl : B2 = true := by rw [HB2.out]; exact decide_eq_true hc
                  go_wp2_with (go_at_call 35; refine (HIH.out w0 b N m c p L1 R1 (L2 ++ R2 ++ s) _ _ _ (by have := HX.out; have := HL.out; omega) (by have := HL.out; omega) (by have := HL.out; omega) HS.out.1 HS.out.2.2.1 (by have := HX.out; have := HL.out; have := HE.out; rw [HE.out.1, HE.out.2] at this; simp only [List.length_append] at *; omega) hbd (by have := HX.out.1; omega) (by have := HX.out.1; have := HL.out.1; omega) (by have := HX.out.1; have := HL.out; omega) _ HW1.out).mono ?_; rintro e w1 ⟨rfl, M1, hp1, hs1, hw1⟩; have S1 := Aside0.mk hw1; have P1 := Aside0.mk hp1; have T1 := Aside0.mk hs1; clear hw1 hp1 hs1)
                  go_meet
                  case rel => exact ⟨M1, P1, T1, ⟨by have h9 := S1.out; simpa only [List.append_assoc] using h9⟩⟩
                · have T1 : Aside0 (Srt (L1 ++ R1)) := ⟨by
                    by_cases h1 : pa < J
                    · have : R1 = [] := List.eq_nil_of_length_eq_zero (by have := HL.out.2.2.1; omega)
                      rw [this, List.append_nil]; exact HS.out.1
                    · have : L1 = [] := List.eq_nil_of_length_eq_zero (by have := HL.out.1; omega)
                      rw [this, List.nil_append]; exact HS.out.2.2.1⟩
                  obtain rfl : B2 = false := by rw [HB2.out]; exact decide_eq_false hc
                  clear hc
                  go_wp2
                  go_meet
                  (case rel => exact ⟨L1 ++ R1, ⟨List.Perm.refl _⟩, T1, ⟨by have h9 := HW1.out; simpa only [List.append_assoc] using h9⟩⟩)
              case rest =>
                clear HW1
                obtain ⟨M1, P1, T1, HW1⟩ := hcut
                have lm : M1.length = md - pa := by have h1 := P1.out.length_eq; rw [List.length_append] at h1; have := HL.out; omega
                have HM := Aside0.mk lm
                clear lm
                obtain ⟨B3, HB3⟩ : ∃ B : Bool, Aside0 (B = decide (md < en ∧ en < pb)) := ⟨_, ⟨rfl⟩⟩
                go_upto_region 43 with (fail)
                go_cut [213] (fun v wz => v = .bool B3 ∧ wc = wz)
                case first => as_aux_lemma =>
                  by_cases c1 : md < en
                  · by_cases c2 : en < pb
                    · obtain rfl : B3 = true := by rw [HB3.out]; exact decide_eq_true ⟨c1, c2⟩
                      have q0 : decide ((md : Int) < (en : Int)) = true := decide_eq_true (by omega)
                      have q1 : decide ((en : Int) < (pb : Int)) = true := decide_eq_true (by omega)
                      go_wp2
                      go_meet
                      case rel => exact ⟨rfl, rfl⟩
                    · obtain rfl : B3 = false := by rw [HB3.out]; exact decide_eq_false (fun h => c2 h.2)
                      have q0 : decide ((md : Int) < (en : Int)) = true := decide_eq_true (by omega)
                      have q1 : decide ((en : Int) < (pb : Int)) = false := decide_eq_false (by omega)
                      go_wp2
                      go_meet
                      case rel => exact ⟨rfl, rfl⟩
                  · obtain rfl : B3 = false := by rw [HB3.out]; exact decide_eq_false (fun h => c1 h.1)
                    have q0 : decide ((md : Int) < (en : Int)) = false := decide_eq_false (by omega)
                    go_wp2
                    go_meet
                    case rel => exact ⟨rfl, rfl⟩
                case rest =>
                  obtain ⟨rfl, rfl⟩ := hcut
                  by_cases hc : md < en ∧ en < pb
                  · obtain rfl : B3 = true := by rw [HB3.out]; exact decide_eq_true hc
                    go_wp2_with (go_at_call 35; refine (HIH.out w0 b N m c (p ++ M1) L2 R2 s _ _ _ (by have := HX.out; have := HL.out; omega) (by have := HL.out; omega) (by have := HL.out; omega) HS.out.2.1 HS.out.2.2.2 (by have := HM.out; have := HX.out; have := HL.out; have := HE.out; rw [HE.out.1, HE.out.2] at this; simp only [List.length_append] at *; omega) hbd (by have := HX.out.1; have := HM.out; simp only [List.length_append]; omega) (by have := HX.out.1; have := HL.out; have := HM.out; simp only [List.length_append]; omega) (by have := HX.out.1; have := HL.out; have := HM.out; simp only [List.length_append]; omega) _ HW1.out).mono ?_; rintro e w1 ⟨rfl, M2, hp2, hs2, hw2⟩; have S2 := Aside0.mk hw2; have P2 := Aside0.mk hp2; have T2 := Aside0.mk hs2; clear hw2 hp2 hs2)
                    go_end0
                    exact ⟨rfl, sym_end P1.out T1.out P2.out T2.out HE.out.1 HE.out.2 HA.out (by have h9 := S2.out; simpa only [List.append_assoc] using h9)⟩
                  · have T2 : Aside0 (Srt (L2 ++ R2)) := ⟨by
                      by_cases h1 : md < en
                      · have : R2 = [] := List.eq_nil_of_length_eq_zero (by have := HL.out.2.2.2; omega)
                        rw [this, List.append_nil]; exact HS.out.2.1
                      · have : L2 = [] := List.eq_nil_of_length_eq_zero (by have := HL.out.2.1; omega)
                        rw [this, List.nil_append]; exact HS.out.2.2.2⟩
                    obtain rfl : B3 = false := by rw [HB3.out]; exact decide_eq_false hc
                    clear hc
                    go_wp2
                    go_end0
                    exact ⟨rfl, sym_end P1.out T1.out (List.Perm.refl _) T2.out HE.out.1 HE.out.2 HA.out (by have h9 := HW1.out; simpa only [List.append_assoc] using h9)⟩
end Go.Proofs.Ytkmioljfjjmcpaa.P
