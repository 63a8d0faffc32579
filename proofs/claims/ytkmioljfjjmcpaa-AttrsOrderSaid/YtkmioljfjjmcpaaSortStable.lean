/- The stable sort: runs of twenty, then runs of twice as many. -/
import Derived.Test.YtkmioljfjjmcpaaSortSym3
import Derived.Test.YtkmioljfjjmcpaaSortIns
namespace Go.Proofs.Ytkmioljfjjmcpaa.P
open Go.RowKit Go.Proofs.YtkmioljfjjmcpaaW.PrintWords Go.Proofs.YtkmioljfjjmcpaaW.PrintLast Go.Proofs.YtkmioljfjjmcpaaW.PrintMore Go.Proofs.Ytkmioljfjjmcpaa.Blk
set_option linter.unusedVariables false
set_option linter.unusedSimpArgs false
theorem sym_all : ∀ n, SymIH n := by
  intro n
  induction n with
  | zero => intro w0 b N m c p L R s ia im ib h; omega
  | succ n ih =>
    intro w0 b N m c p L R s ia im ib hln hl1 hr1 hL hR hm hbd ha hmm hbb W hW
    by_cases h1 : L.length = 1
    · obtain ⟨x, rfl⟩ := List.length_eq_one_iff.1 h1
      exact sym_one p R s x ia im ib (by simpa using hm) hbd hR ha (by simpa using hmm) (by simpa using hbb) W hW
    · by_cases h2 : R.length = 1
      · obtain ⟨x, rfl⟩ := List.length_eq_one_iff.1 h2
        exact sym_two p L s x ia im ib (by simpa using hm) hbd (by omega) hL ha hmm (by simpa using hbb) W hW
      · exact sym_gen ih p L R s ia im ib (by omega) (by omega) (by omega) hL hR hm hbd ha hmm hbb W hW
/-- runs of n elements, each in order, the last as long as it may be -/
inductive Ch (n : Nat) : List E → Prop
  | last (l : List E) (h : l.length ≤ n) (hs : Srt l) : Ch n l
  | step (x r : List E) (h : x.length = n) (hs : Srt x) (hr : Ch n r) : Ch n (x ++ r)
theorem Ch.whole {n : Nat} {l : List E} (h : Ch n l) (hl : l.length ≤ n) : Srt l := by
  cases h with
  | last _ _ hs => exact hs
  | step x r hx hs hr =>
    rw [List.length_append] at hl
    have : r = [] := List.length_eq_zero_iff.1 (by omega)
    rw [this, List.append_nil]; exact hs
theorem Ch.head {n : Nat} {l : List E} (h : Ch n l) (hl : n ≤ l.length) (hn : 1 ≤ n) : ∃ x r, l = x ++ r ∧ x.length = n ∧ Srt x ∧ Ch n r := by
  cases h with
  | last _ h1 hs => exact ⟨l, [], by simp, by omega, hs, Ch.last [] (by simp) List.Pairwise.nil⟩
  | step x r hx hs hr => exact ⟨x, r, rfl, hx, hs, hr⟩
/-- whole runs of n -/
def Pre (n : Nat) (p : List E) : Prop := ∀ X, Ch n X → Ch n (p ++ X)
theorem Pre.nil (n : Nat) : Pre n [] := fun X h => h
theorem Pre.add {n : Nat} {p M : List E} (h : Pre n p) (hM : M.length = n) (hs : Srt M) : Pre n (p ++ M) := fun X hX => by
  rw [List.append_assoc]; exact h _ (Ch.step M X hM hs hX)
def StA (w0 : World) (b N : Nat) (d0 : List E) (bs a : Nat) (W : World) : Prop := ∃ p r : List E, p.length = a ∧ (p ++ r).Perm d0 ∧ Pre bs p ∧ SortAt w0 b N (p ++ r) W
def StI (w0 : World) (b N : Nat) (d0 : List E) (bs a : Nat) (W : World) : Prop := ∃ p r : List E, p.length = a ∧ (p ++ r).Perm d0 ∧ Pre (2 * bs) p ∧ Ch bs r ∧ SortAt w0 b N (p ++ r) W
def StO (w0 : World) (b N : Nat) (d0 : List E) (bs : Nat) (W : World) : Prop := ∃ d : List E, d.Perm d0 ∧ Ch bs d ∧ SortAt w0 b N d W
section
variable {w0 W : World} {b N m c : Nat} {d0 : List E} {bs a : Nat}
theorem StA.step (h : StA w0 b N d0 bs a W) (hn : d0.length = m) (hbd : m ≤ 1000000000000) (hb : a + bs ≤ m) (ia ib : Int) (ha : ia = (a : Int)) (hbb : ib = ((a + bs : Nat) : Int)) :
    Calls Try.prog 34 #[.slice (some ⟨b, 0, none⟩) m c, .int .i64 ia, .int .i64 ib, clo] W fun e w' => e = .returned (.tuple #[]) ∧ StA w0 b N d0 bs (a + bs) w' := by
  obtain ⟨p, r, hp, hperm, hpre, hW⟩ := h
  have hl := hperm.length_eq
  rw [List.length_append] at hl
  have ht : (r.take bs).length = bs := by rw [List.length_take]; omega
  refine (ins_calls p (r.take bs) (r.drop bs) ia ib (by rw [ht, List.length_drop]; omega) hbd (by omega) (by rw [ht]; omega) W (by rw [List.append_assoc, List.take_append_drop]; exact hW)).mono ?_
  rintro e w1 ⟨rfl, M, hM, hs, hw⟩
  refine ⟨rfl, p ++ M, r.drop bs, by rw [List.length_append, hM.length_eq]; omega, ?_, hpre.add (by rw [hM.length_eq]; exact ht) hs, hw⟩
  refine List.Perm.trans ?_ hperm
  rw [List.append_assoc]
  refine List.Perm.append_left p ?_
  conv => rhs; rw [← List.take_append_drop bs r]
  exact List.Perm.append_right _ hM
theorem StA.last (h : StA w0 b N d0 bs a W) (hn : d0.length = m) (hbd : m ≤ 1000000000000) (hb : m < a + bs) (ia ib : Int) (ha : ia = (a : Int)) (hbb : ib = (m : Int)) :
    Calls Try.prog 34 #[.slice (some ⟨b, 0, none⟩) m c, .int .i64 ia, .int .i64 ib, clo] W fun e w' => e = .returned (.tuple #[]) ∧ StO w0 b N d0 bs w' := by
  obtain ⟨p, r, hp, hperm, hpre, hW⟩ := h
  have hl := hperm.length_eq
  rw [List.length_append] at hl
  refine (ins_calls p r [] ia ib (by simp; omega) hbd (by omega) (by omega) W (by rw [List.append_nil]; exact hW)).mono ?_
  rintro e w1 ⟨rfl, M, hM, hs, hw⟩
  rw [List.append_nil] at hw
  exact ⟨rfl, p ++ M, (List.Perm.append_left p hM).trans hperm, hpre M (Ch.last M (by rw [hM.length_eq]; omega) hs), hw⟩
theorem StO.start (h : StO w0 b N d0 bs W) : StI w0 b N d0 bs 0 W := by
  obtain ⟨d, h1, h2, h3⟩ := h
  exact ⟨[], d, rfl, h1, Pre.nil _, h2, h3⟩
theorem StI.step (h : StI w0 b N d0 bs a W) (hn : d0.length = m) (hbd : m ≤ 1000000000000) (hb1 : 1 ≤ bs) (hb : a + 2 * bs ≤ m) (ia im ib : Int) (ha : ia = (a : Int)) (hmm : im = ((a + bs : Nat) : Int)) (hbb : ib = ((a + 2 * bs : Nat) : Int)) :
    Calls Try.prog 35 #[.slice (some ⟨b, 0, none⟩) m c, .int .i64 ia, .int .i64 im, .int .i64 ib, clo] W fun e w' => e = .returned (.tuple #[]) ∧ StI w0 b N d0 bs (a + 2 * bs) w' := by
  obtain ⟨p, r, hp, hperm, hpre, hch, hW⟩ := h
  have hl := hperm.length_eq
  rw [List.length_append] at hl
  obtain ⟨L, r1, rfl, hL, sL, hch⟩ := hch.head (by omega) hb1
  rw [List.length_append] at hl
  obtain ⟨R, r2, rfl, hR, sR, hch⟩ := hch.head (by omega) hb1
  rw [List.length_append] at hl
  refine (sym_all (L.length + R.length + 1) w0 b N m c p L R r2 ia im ib (by omega) (by omega) (by omega) sL sR (by omega) hbd (by omega) (by omega) (by omega) W (by simpa only [List.append_assoc] using hW)).mono ?_
  rintro e w1 ⟨rfl, M, hM, hs, hw⟩
  have hMl := hM.length_eq
  rw [List.length_append] at hMl
  refine ⟨rfl, p ++ M, r2, by rw [List.length_append]; omega, ?_, hpre.add (by omega) hs, hch, hw⟩
  refine List.Perm.trans ?_ hperm
  rw [List.append_assoc, ← List.append_assoc L]
  exact List.Perm.append_left p (List.Perm.append_right _ hM)
theorem StI.last (h : StI w0 b N d0 bs a W) (hn : d0.length = m) (hbd : m ≤ 1000000000000) (hb1 : 1 ≤ bs) (hb : a + bs < m) (hb2 : m < a + 2 * bs) (ia im ib : Int) (ha : ia = (a : Int)) (hmm : im = ((a + bs : Nat) : Int)) (hbb : ib = (m : Int)) :
    Calls Try.prog 35 #[.slice (some ⟨b, 0, none⟩) m c, .int .i64 ia, .int .i64 im, .int .i64 ib, clo] W fun e w' => e = .returned (.tuple #[]) ∧ StO w0 b N d0 (2 * bs) w' := by
  obtain ⟨p, r, hp, hperm, hpre, hch, hW⟩ := h
  have hl := hperm.length_eq
  rw [List.length_append] at hl
  obtain ⟨L, R, rfl, hL, sL, hch⟩ := hch.head (by omega) hb1
  rw [List.length_append] at hl
  refine (sym_all (L.length + R.length + 1) w0 b N m c p L R [] ia im ib (by omega) (by omega) (by omega) sL (hch.whole (by omega)) (by simp; omega) hbd (by omega) (by omega) (by omega) W (by simpa only [List.append_assoc, List.append_nil] using hW)).mono ?_
  rintro e w1 ⟨rfl, M, hM, hs, hw⟩
  have hMl := hM.length_eq
  rw [List.length_append] at hMl
  rw [List.append_nil] at hw
  exact ⟨rfl, p ++ M, (List.Perm.append_left p hM).trans hperm, hpre M (Ch.last M (by omega) hs), hw⟩
theorem StI.none_ (h : StI w0 b N d0 bs a W) (hn : d0.length = m) (hb : m ≤ a + bs) : StO w0 b N d0 (2 * bs) W := by
  obtain ⟨p, r, hp, hperm, hpre, hch, hW⟩ := h
  have hl := hperm.length_eq
  rw [List.length_append] at hl
  exact ⟨p ++ r, hperm, hpre r (Ch.last r (by omega) (hch.whole (by omega))), hW⟩
theorem StO.done (h : StO w0 b N d0 bs W) (hn : d0.length = m) (hb : m ≤ bs) : ∃ M : List E, M.Perm d0 ∧ Srt M ∧ SortAt w0 b N M W := by
  obtain ⟨d, h1, h2, h3⟩ := h
  have hl := h1.length_eq
  exact ⟨d, h1, h2.whole (by omega), h3⟩
end
set_option maxRecDepth 100000 in
set_option maxHeartbeats 2000000 in
theorem stb_calls {w0 : World} {b N m c : Nat} (d : List E) (hd : d.length = m) (hbd : m ≤ 1000000000000) (W : World) (hW : SortAt w0 b N d W) :
    Calls Try.prog 32 #[.slice (some ⟨b, 0, none⟩) m c, .int .i64 m, clo] W fun e w' => e = .returned (.tuple #[]) ∧ ∃ M : List E, M.Perm d ∧ Srt M ∧ SortAt w0 b N M w' := by
  have H0 : Aside0 (StA w0 b N d 20 0 W) := ⟨[], d, rfl, List.Perm.refl _, Pre.nil _, hW⟩
  have HD := Aside0.mk hd
  clear hW hd
  go_enter Try.func32, Try.ntmps32
  go_wp2
  go_loopw [7, 8] (fun v7 v8 wr => ∃ A B : Nat, v7 = .int .i64 A ∧ v8 = .int .i64 B ∧ B ≤ A + 20 ∧ A + 20 ≤ B ∧ A ≤ m ∧ Aside0 (StA w0 b N d 20 A wr)) (fun v7 v8 _ => m + 20 - (intOf v8).toNat)
  case atStart => exact ⟨0, 20, rfl, rfl, by omega, by omega, by omega, H0⟩
  case round =>
    clear H0
    obtain ⟨A, B, rfl, rfl, g1, g2, g3, HA⟩ := hrel
    by_cases hlt : B ≤ m
    · as_aux_lemma =>
      have hltz : (B : Int) ≤ (m : Int) := by omega
      obtain ⟨B2, hB2⟩ : ∃ B2 : Nat, IntKind.i64.wrap ((B : Int) + 20) = (B2 : Int) := ⟨B + 20, by rw [IntWalk.i64_in _ (by omega)]; omega⟩
      have hB3 : B2 ≤ B + 20 ∧ B + 20 ≤ B2 := by rw [IntWalk.i64_in _ (by omega)] at hB2; omega
      go_wp2_with (go_at_call 34; refine (HA.out.step HD.out hbd (by omega) _ _ (by omega) (by omega)).mono ?_; rintro e w1 ⟨rfl, hw1⟩; have S1 := Aside0.mk hw1; clear hw1)
      have S2 : Aside0 (StA w0 b N d 20 B w1) := ⟨by rw [show B = A + 20 by omega]; exact S1.out⟩
      clear S1
      go_roundw
      case rel => first | exact ⟨B, B2, rfl, rfl, by omega, by omega, by omega, S2⟩ | ((repeat apply Exists.intro); exact ⟨⟨B, B2, rfl, rfl, by omega, by omega, by omega, S2⟩, rfl⟩)
      case measure => simp [intOf]; omega
    · have hltz : ¬ (B : Int) ≤ (m : Int) := by omega
      go_wp2_with (go_at_call 34; refine (HA.out.last HD.out hbd (by omega) _ _ (by omega) (by omega)).mono ?_; rintro e w1 ⟨rfl, hw1⟩; have S1 := Aside0.mk hw1; clear hw1)
      clear HA hltz hlt g1 g2 g3
      go_loopw [6] (fun v6 wr => ∃ K : Nat, v6 = .int .i64 K ∧ 1 ≤ K ∧ K ≤ 2 * m + 20 ∧ Aside0 (StO w0 b N d K wr)) (fun v6 _ => m + 20 - (intOf v6).toNat)
      case atStart => exact ⟨20, rfl, by omega, by omega, S1⟩
      case round =>
        clear S1
        obtain ⟨K, rfl, k1, k2, HO⟩ := hrel
        by_cases hK : K < m
        · have hKz : (K : Int) < (m : Int) := by omega
          obtain ⟨K2, hK2⟩ : ∃ K2 : Nat, IntKind.i64.wrap (2 * (K : Int)) = (K2 : Int) := ⟨2 * K, by rw [IntWalk.i64_in _ (by omega)]; omega⟩
          have hK3 : IntKind.i64.wrap ((K : Int) * 2) = (K2 : Int) := by rw [show (K : Int) * 2 = 2 * (K : Int) by omega]; exact hK2
          have hK4 : K2 ≤ 2 * K ∧ 2 * K ≤ K2 := by rw [IntWalk.i64_in _ (by omega)] at hK2; omega
          have HI : Aside0 (StI w0 b N d K 0 wr) := ⟨HO.out.start⟩
          clear HO
          go_wp2
          go_loopw [7, 8] (fun v7 v8 wr => ∃ A B : Nat, v7 = .int .i64 A ∧ v8 = .int .i64 B ∧ B ≤ A + 2 * K ∧ A + 2 * K ≤ B ∧ A ≤ m ∧ Aside0 (StI w0 b N d K A wr)) (fun v7 v8 _ => m + 2 * K - (intOf v8).toNat)
          case atStart => exact ⟨0, K2, rfl, rfl, by omega, by omega, by omega, HI⟩
          case round =>
            clear HI
            obtain ⟨A, B, rfl, rfl, g1, g2, g3, HA⟩ := hrel
            obtain ⟨M1, hM1⟩ : ∃ M1 : Nat, IntKind.i64.wrap ((A : Int) + (K : Int)) = (M1 : Int) := ⟨A + K, by rw [IntWalk.i64_in _ (by omega)]; omega⟩
            have hM2 : M1 ≤ A + K ∧ A + K ≤ M1 := by rw [IntWalk.i64_in _ (by omega)] at hM1; omega
            by_cases hlt : B ≤ m
            · as_aux_lemma =>
              have hltz : (B : Int) ≤ (m : Int) := by omega
              obtain ⟨B2, hB2⟩ : ∃ B2 : Nat, IntKind.i64.wrap ((B : Int) + (K2 : Int)) = (B2 : Int) := ⟨B + K2, by rw [IntWalk.i64_in _ (by omega)]; omega⟩
              have hB3 : B2 ≤ B + 2 * K ∧ B + 2 * K ≤ B2 := by rw [IntWalk.i64_in _ (by omega)] at hB2; omega
              go_wp2_with (go_at_call 35; refine (HA.out.step HD.out hbd (by omega) (by omega) _ _ _ (by omega) (by omega) (by omega)).mono ?_; rintro e w1 ⟨rfl, hw1⟩; have S1 := Aside0.mk hw1; clear hw1)
              have S2 : Aside0 (StI w0 b N d K B w1) := ⟨by rw [show B = A + 2 * K by omega]; exact S1.out⟩
              clear S1
              go_roundw
              case rel => first | exact ⟨B, B2, rfl, rfl, by omega, by omega, by omega, S2⟩ | ((repeat apply Exists.intro); exact ⟨⟨B, B2, rfl, rfl, by omega, by omega, by omega, S2⟩, rfl⟩)
              case measure => simp [intOf]; omega
            · have hltz : ¬ (B : Int) ≤ (m : Int) := by omega
              by_cases hmn : M1 < m
              · as_aux_lemma =>
                have hmz : (M1 : Int) < (m : Int) := by omega
                go_wp2_with (go_at_call 35; refine (HA.out.last HD.out hbd (by omega) (by omega) (by omega) _ _ _ (by omega) (by omega) (by omega)).mono ?_; rintro e w1 ⟨rfl, hw1⟩; have S1 := Aside0.mk hw1; clear hw1)
                have S2 : Aside0 (StO w0 b N d K2 w1) := ⟨by rw [show K2 = 2 * K by omega]; exact S1.out⟩
                clear S1
                go_roundw
                case rel => first | exact ⟨K2, rfl, by omega, by omega, S2⟩ | ((repeat apply Exists.intro); exact ⟨⟨K2, rfl, by omega, by omega, S2⟩, rfl⟩)
                case measure => simp [intOf]; omega
              · as_aux_lemma =>
                have hmz : ¬ (M1 : Int) < (m : Int) := by omega
                have S2 : Aside0 (StO w0 b N d K2 wr) := ⟨by rw [show K2 = 2 * K by omega]; exact HA.out.none_ HD.out (by omega)⟩
                go_wp2
                go_roundw
                case rel => first | exact ⟨K2, rfl, by omega, by omega, S2⟩ | ((repeat apply Exists.intro); exact ⟨⟨K2, rfl, by omega, by omega, S2⟩, rfl⟩)
                case measure => simp [intOf]; omega
        · have hKz : ¬ (K : Int) < (m : Int) := by omega
          go_wp2
          go_end0
          exact ⟨rfl, HO.out.done HD.out (by omega)⟩
theorem ssf_calls {w0 : World} {b N m c : Nat} (d : List E) (hd : d.length = m) (hbd : m ≤ 1000000000000) (W : World) (hW : SortAt w0 b N d W) :
    Calls Try.prog 25 #[.slice (some ⟨b, 0, none⟩) m c, clo] W fun e w' => e = .returned (.tuple #[]) ∧ ∃ M : List E, M.Perm d ∧ Srt M ∧ SortAt w0 b N M w' := by
  have HW := Aside0.mk hW
  clear hW
  go_enter Try.func25, Try.ntmps25
  go_wp2_with (go_at_call 32; refine (stb_calls d hd hbd _ HW.out).mono ?_; rintro e w1 ⟨rfl, hw1⟩; have S1 := Aside0.mk hw1; clear hw1)
  go_end0
  exact ⟨rfl, S1.out⟩
end Go.Proofs.Ytkmioljfjjmcpaa.P
