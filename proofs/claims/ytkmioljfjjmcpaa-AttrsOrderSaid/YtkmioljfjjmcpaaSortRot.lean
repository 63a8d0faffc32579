/- Turning two runs that stand side by side. -/
import Derived.Test.YtkmioljfjjmcpaaSortAt
namespace Go.Proofs.Ytkmioljfjjmcpaa.P
open Go.RowKit Go.Proofs.YtkmioljfjjmcpaaW.PrintWords Go.Proofs.YtkmioljfjjmcpaaW.PrintLast Go.Proofs.YtkmioljfjjmcpaaW.PrintMore Go.Proofs.Ytkmioljfjjmcpaa.Blk
set_option linter.unusedVariables false
theorem swp_any {w0 : World} {b N m c : Nat} (p X q Y s : List E) (ia ib ic : Int) (h : X.length = Y.length) (hm : p.length + X.length + q.length + Y.length + s.length = m) (hbd : m ≤ 1000000000000) (ha : ia = (p.length : Int)) (hb : ib = ((p.length + X.length + q.length : Nat) : Int)) (hc : ic = (X.length : Int)) {W : World} (hW : SortAt w0 b N (p ++ X ++ q ++ Y ++ s) W) :
    Calls Try.prog 37 #[.slice (some ⟨b, 0, none⟩) m c, .int .i64 ia, .int .i64 ib, .int .i64 ic, clo] W fun e w' => e = .returned (.tuple #[]) ∧ SortAt w0 b N (p ++ Y ++ q ++ X ++ s) w' := by
  subst ha hb hc
  exact swp_calls p X q Y s h hm hbd W hW
/-- what is still to be turned, and what comes of it -/
def RotI (w0 : World) (b N m m0 : Nat) (D : List E) (i j : Nat) (W : World) : Prop :=
  ∃ p L R s : List E, L.length = i ∧ R.length = j ∧ p.length + i = m0 ∧ p.length + i + j + s.length = m ∧ 1 ≤ i ∧ 1 ≤ j ∧ SortAt w0 b N (p ++ L ++ R ++ s) W ∧ p ++ R ++ L ++ s = D
theorem RotI.one {w0 : World} {b N m m0 c : Nat} {D : List E} {i j : Nat} {W : World} (h : RotI w0 b N m m0 D i j W) (hbd : m ≤ 1000000000000) (hij : j < i) (ia ib ic : Int) (ha : ia = (m0 : Int) - (i : Int)) (hb : ib = (m0 : Int)) (hc : ic = (j : Int)) :
    Calls Try.prog 37 #[.slice (some ⟨b, 0, none⟩) m c, .int .i64 ia, .int .i64 ib, .int .i64 ic, clo] W fun e w' => e = .returned (.tuple #[]) ∧ RotI w0 b N m m0 D (i - j) j w' := by
  obtain ⟨p, L, R, s, hL, hR, hp, hm, h1, h2, hW, hD⟩ := h
  have e : L = L.take j ++ L.drop j := (List.take_append_drop j L).symm
  have el : (L.take j).length = j := by rw [List.length_take]; omega
  have ed : (L.drop j).length = i - j := by rw [List.length_drop]; omega
  refine (swp_any p (L.take j) (L.drop j) R s ia ib ic (by omega) (by omega) hbd (by omega) (by omega) (by omega) (by rw [List.append_assoc p, ← e]; exact hW)).mono ?_
  rintro x w' ⟨rfl, hw⟩
  refine ⟨rfl, p ++ R, L.drop j, L.take j, s, ed, el, by rw [List.length_append]; omega, by rw [List.length_append]; omega, by omega, h2, hw, ?_⟩
  rw [← hD]
  conv => rhs; rw [e]
  simp only [List.append_assoc]
theorem RotI.two {w0 : World} {b N m m0 c : Nat} {D : List E} {i j : Nat} {W : World} (h : RotI w0 b N m m0 D i j W) (hbd : m ≤ 1000000000000) (hij : i < j) (ia ib ic : Int) (ha : ia = (m0 : Int) - (i : Int)) (hb : ib = (m0 : Int) + (j : Int) - (i : Int)) (hc : ic = (i : Int)) :
    Calls Try.prog 37 #[.slice (some ⟨b, 0, none⟩) m c, .int .i64 ia, .int .i64 ib, .int .i64 ic, clo] W fun e w' => e = .returned (.tuple #[]) ∧ RotI w0 b N m m0 D i (j - i) w' := by
  obtain ⟨p, L, R, s, hL, hR, hp, hm, h1, h2, hW, hD⟩ := h
  have e : R = R.take (j - i) ++ R.drop (j - i) := (List.take_append_drop (j - i) R).symm
  have el : (R.take (j - i)).length = j - i := by rw [List.length_take]; omega
  have ed : (R.drop (j - i)).length = i := by rw [List.length_drop]; omega
  refine (swp_any p L (R.take (j - i)) (R.drop (j - i)) s ia ib ic (by omega) (by omega) hbd (by omega) (by omega) (by omega) (by rw [List.append_assoc (p ++ L), ← e]; exact hW)).mono ?_
  rintro x w' ⟨rfl, hw⟩
  refine ⟨rfl, p, R.drop (j - i), R.take (j - i), L ++ s, ed, el, by omega, by rw [List.length_append]; omega, h1, by omega, by simpa only [List.append_assoc] using hw, ?_⟩
  rw [← hD]
  conv => rhs; rw [e]
  simp only [List.append_assoc]
theorem RotI.end_ {w0 : World} {b N m m0 c : Nat} {D : List E} {i j : Nat} {W : World} (h : RotI w0 b N m m0 D i j W) (hbd : m ≤ 1000000000000) (hij : i = j) (ia ib ic : Int) (ha : ia = (m0 : Int) - (i : Int)) (hb : ib = (m0 : Int)) (hc : ic = (i : Int)) :
    Calls Try.prog 37 #[.slice (some ⟨b, 0, none⟩) m c, .int .i64 ia, .int .i64 ib, .int .i64 ic, clo] W fun e w' => e = .returned (.tuple #[]) ∧ SortAt w0 b N D w' := by
  obtain ⟨p, L, R, s, hL, hR, hp, hm, h1, h2, hW, hD⟩ := h
  refine (swp_any p L [] R s ia ib ic (by omega) (by simp; omega) hbd (by omega) (by simp; omega) (by omega) (by rw [List.append_nil]; exact hW)).mono ?_
  rintro x w' ⟨rfl, hw⟩
  refine ⟨rfl, ?_⟩
  rw [List.append_nil, hD] at hw
  exact hw
theorem RotI.bd {w0 : World} {b N m m0 : Nat} {D : List E} {i j : Nat} {W : World} (h : RotI w0 b N m m0 D i j W) : i ≤ m0 ∧ m0 + j ≤ m ∧ 1 ≤ i ∧ 1 ≤ j := by
  obtain ⟨p, L, R, s, hL, hR, hp, hm, h1, h2, hW, hD⟩ := h
  omega
set_option maxRecDepth 100000 in
set_option maxHeartbeats 1000000 in
theorem rot_calls {w0 : World} {b N m c : Nat} (p L R s : List E) (ia im ib : Int) (hm : p.length + L.length + R.length + s.length = m) (hbd : m ≤ 1000000000000) (hl : 1 ≤ L.length) (hr : 1 ≤ R.length) (ha : ia = (p.length : Int)) (hmm : im = ((p.length + L.length : Nat) : Int)) (hbb : ib = ((p.length + L.length + R.length : Nat) : Int)) (W : World) (hW : SortAt w0 b N (p ++ L ++ R ++ s) W) :
    Calls Try.prog 36 #[.slice (some ⟨b, 0, none⟩) m c, .int .i64 ia, .int .i64 im, .int .i64 ib, clo] W fun e w' => e = .returned (.tuple #[]) ∧ SortAt w0 b N (p ++ R ++ L ++ s) w' := by
  obtain ⟨m0, hm0⟩ : ∃ n, p.length + L.length = n := ⟨_, rfl⟩
  have HI : Aside0 (RotI w0 b N m m0 (p ++ R ++ L ++ s) L.length R.length W) := ⟨p, L, R, s, rfl, rfl, hm0, hm, hl, hr, hW, rfl⟩
  generalize hD : p ++ R ++ L ++ s = D at *
  obtain ⟨li, hli⟩ : ∃ n, L.length = n := ⟨_, rfl⟩
  obtain ⟨rj, hrj⟩ : ∃ n, R.length = n := ⟨_, rfl⟩
  obtain ⟨pa, hpa⟩ : ∃ n, p.length = n := ⟨_, rfl⟩
  rw [hli, hrj] at HI
  have hb1 : pa + li = m0 ∧ m0 + rj ≤ m ∧ 1 ≤ li ∧ 1 ≤ rj := by omega
  obtain rfl : ia = (pa : Int) := by omega
  obtain rfl : im = (m0 : Int) := by omega
  obtain rfl : ib = ((m0 + rj : Nat) : Int) := by omega
  clear hW hD hm hl hr ha hmm hbb hm0 hli hrj hpa
  have e1 : IntKind.i64.wrap ((m0 : Int) - (pa : Int)) = (li : Int) := by rw [IntWalk.i64_in _ (by omega)]; omega
  have e1'' : (m0 : Int) - (pa : Int) = (li : Int) := by omega
  have e2 : (m0 : Int) + (rj : Int) - (m0 : Int) = (rj : Int) := by omega
  go_enter Try.func36, Try.ntmps36
  go_wp2
  clear e1 e1'' e2
  go_loopw [10, 11] (fun v10 v11 wr => ∃ i j : Nat, v10 = .int .i64 i ∧ v11 = .int .i64 j ∧ Aside0 (RotI w0 b N m m0 D i j wr)) (fun v10 v11 _ => (intOf v10).toNat + (intOf v11).toNat)
  case atStart => exact ⟨li, rj, rfl, rfl, HI⟩
  case round =>
    clear HI hb1
    obtain ⟨i, j, rfl, rfl, HI⟩ := hrel
    obtain ⟨q0, q1, q2, q3⟩ := HI.out.bd
    by_cases hij : i = j
    · obtain rfl : j = i := hij.symm
      clear hij
      have t1 : ((j : Int) != (j : Int)) = false := by simp
      go_wp2_with (go_at_call 37; refine (HI.out.end_ hbd rfl _ _ _ (by omega) (by omega) (by omega)).mono ?_; rintro e w1 ⟨rfl, hw1⟩; have S1 := Aside0.mk hw1; clear hw1)
      go_end0
      exact ⟨rfl, S1.out⟩
    · have t1 : ((i : Int) != (j : Int)) = true := by simp; omega
      by_cases hlt : j < i
      · have t2 : (j : Int) < (i : Int) := by omega
        go_wp2_with (go_at_call 37; refine (HI.out.one hbd hlt _ _ _ (by omega) (by omega) (by omega)).mono ?_; rintro e w1 ⟨rfl, hw1⟩; have S1 := Aside0.mk hw1; clear hw1)
        go_roundw
        case rel => ((repeat apply Exists.intro); exact ⟨⟨i - j, j, by congr 1; omega, rfl, S1⟩, rfl⟩)
        case measure => simp [intOf]; omega
      · have t2 : ¬ (j : Int) < (i : Int) := by omega
        go_wp2_with (go_at_call 37; refine (HI.out.two hbd (by omega) _ _ _ (by omega) (by omega) (by omega)).mono ?_; rintro e w1 ⟨rfl, hw1⟩; have S1 := Aside0.mk hw1; clear hw1)
        go_roundw
        case rel => ((repeat apply Exists.intro); exact ⟨⟨i, j - i, rfl, by congr 1; omega, S1⟩, rfl⟩)
        case measure => simp [intOf]; omega
end Go.Proofs.Ytkmioljfjjmcpaa.P
