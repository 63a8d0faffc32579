/- The law Utf8inCopies, walked. -/
import Derived.Test.YtncjlbbbojebhaaPlain3
namespace Go.Proofs.Ytncjlbbbojebhaa.P
open Go.RowKit Go.Proofs.YtncjlbbbojebhaaW.PrintWords Go.Proofs.YtncjlbbbojebhaaW.PrintLast Go.Proofs.YtncjlbbbojebhaaW.PrintMore Go.Proofs.Ytncjlbbbojebhaa.Blk
set_option linter.unusedVariables false

theorem DecAt.load {w : World} {g : Nat} {d : Dec} (h : DecAt w g d) : w.heap[g]? = some (.cells d.cells 47 (0, 0)) := h

set_option maxRecDepth 10000 in
theorem copy_calls (g : Nat) (d : Dec) (w : World) (hd : DecAt w g d) :
    Calls Try.prog 17 #[.pointer (some ⟨g, 0, none⟩)] w fun e w' => e = .returned (.pointer (some ⟨w.heap.size, 0, none⟩)) ∧ DecAt w' w.heap.size d ∧ Below w.heap.size w w' := by
  obtain ⟨a, h, n, l, u, r⟩ := d
  obtain ⟨⟨c0, c1, c2, c3, c4, c5⟩, hf⟩ := hd.facts
  have HD := Aside0.mk hd
  clear hd
  go_enter Try.func17, Try.ntmps17
  go_wp2
  go_ret
  exact ⟨rfl, Blk.new w 47 _, below_alloc (Below.refl _ _) _⟩

theorem grown_other {w w1 : World} {g g2 : Nat} {d : Dec} (h : DecAt w g2 d) (hg : w.grownBy w1 (some g)) (hne : g2 ≠ g) : DecAt w1 g2 d := Blk.grown h hg (fun e => hne (by cases e; rfl))

/-- two that are told the same: the walk of the law -/
def taffraillaw03_Utf8inCopies.f (a0 a1 a2 : ByteArray) : Option Bool := if a0.size ≤ 140737488355328 ∧ a1.size ≤ 140737488355328 ∧ a2.size ≤ 140737488355328 then some true else none

theorem chars_upto (t : ByteArray) (d : Dec) (h : t.size ≤ 20000) : taffrailref03_Chars.f 200000 (St.upto t ⟨d, [], []⟩ t.size).cs (St.upto t ⟨d, [], []⟩ t.size).cs = some true := by
  have := upto_len t ⟨d, [], []⟩ t.size
  simp only [List.length_nil, Nat.zero_add] at this
  exact Pure.chars_same _ _ (by omega) (by omega)
theorem faults_upto (t : ByteArray) (d : Dec) (h : t.size ≤ 20000) : taffrailref03_Faults.f 200000 (St.upto t ⟨d, [], []⟩ t.size).fs (St.upto t ⟨d, [], []⟩ t.size).fs = some true := by
  have := upto_len t ⟨d, [], []⟩ t.size
  simp only [List.length_nil, Nat.zero_add] at this
  exact Pure.faults_same _ _ (by omega) (by omega)
theorem chars_end (d : Dec) : taffrailref03_Chars.f 200000 d.endC d.endC = some true := by
  have hC : d.endC.length ≤ 1 := by unfold Dec.endC; split <;> simp
  exact Pure.chars_same _ _ (by omega) (by omega)
theorem faults_end (d : Dec) : taffrailref03_Faults.f 200000 d.endF d.endF = some true := by
  have hF : d.endF.length ≤ 1 := by unfold Dec.endF; split <;> simp
  exact Pure.faults_same _ _ (by omega) (by omega)

theorem C_drawn {α : Type} {d : Kd α} {w : World} {A : Option Addr} {n : Nat} {xs : List α} (h : d.C w A n xs) (m : Nat) : d.C (w.drewN m) A n xs := Kd.C_below h (pw_below_drewN (Below.refl _ _) m)

set_option maxRecDepth 10000 in
set_option maxHeartbeats 4000000 in
theorem copies_walk (s t u : ByteArray) (w : World) (hs : s.size ≤ 140737488355328) (ht : t.size ≤ 140737488355328) (hu : u.size ≤ 140737488355328) :
    Calls Try.prog 6 #[.string s, .string t, .string u] w fun e w' => e = .returned (.bool true) ∧ Below w.heap.size w w' := by
  have hw1 : wrap64 ((s.size : Int) + t.size) = (s.size : Int) + t.size := Pure.wrap_id _ (by omega) (by omega)
  have hw2 : wrap64 ((s.size : Int) + t.size + u.size) = (s.size : Int) + t.size + u.size := Pure.wrap_id _ (by omega) (by omega)
  by_cases hbig : (20000 : Int) < (s.size : Int) + t.size + u.size
  · go_enter Try.func6, Try.ntmps6
    go_wp2_with (first
      | (go_at_call 15; refine (new_calls _).mono ?_; rintro e w1 ⟨rfl, hd1, hb1⟩; have D1 := Aside0.mk hd1; have B1 := Aside0.mk hb1; have L1 := Aside0.mk (Blk.lt hd1); clear hb1 hd1)
      | (go_at_call 7; refine (taffraillaw03_awake.calls true _ Pure.awake_some).mono ?_; rintro e w2 ⟨rfl, hb2⟩; have HB2 := Aside0.mk (below_step B1.out hb2); clear hb2))
    all_goals go_ret
    all_goals exact ⟨rfl, HB2.out⟩
  · have hsm : (s.size : Int) + t.size + u.size ≤ 20000 := by omega
    go_enter Try.func6, Try.ntmps6
    go_wp2_with (first
      | (go_at_call 15; refine (new_calls _).mono ?_; rintro e w1 ⟨rfl, hd1, hb1⟩; have D1 := Aside0.mk hd1; have B1 := Aside0.mk hb1; have L1 := Aside0.mk (Blk.lt hd1); clear hb1 hd1)
      | (go_at_call 16; refine (feed_calls w.heap.size _ s _ D1.out (by omega)).mono ?_; rintro e w2 ⟨v2, u2, rfl, hc2, hf2, hd2, hg2⟩; clear hc2 hf2; generalize (St.upto s ⟨⟨0, 0, 0, 0, 0, 0⟩, [], []⟩ s.size).d = d1 at hd2; have D2 := Aside0.mk hd2; have B2 := Aside0.mk (below_of_only B1.out hg2 (Nat.le_refl _)); have L2 := Aside0.mk (Nat.lt_of_lt_of_le L1.out hg2.size); clear hd2 hg2 D1)
      | (go_at_call 17; refine (copy_calls w.heap.size _ _ D2.out).mono ?_; rintro e w3 ⟨rfl, hd3, hb3⟩; have D3 := Aside0.mk (DecAt.below D2.out hb3 L2.out); have C3 := Aside0.mk hd3; have B3 := Aside0.mk (below_step B2.out hb3); have LC3 := Aside0.mk (Blk.lt hd3); have N3 : Aside0 (w.heap.size ≠ w2.heap.size) := ⟨by have := L2.out; omega⟩; clear hd3 hb3 D2)
      | (go_at_call 16; refine (feed_calls w2.heap.size _ u _ C3.out (by omega)).mono ?_; rintro e w4 ⟨v4, u4, rfl, hc4, hf4, hd4, hg4⟩; clear hc4 hf4; generalize (St.upto u ⟨d1, [], []⟩ u.size).d = d4 at hd4; have D4 := Aside0.mk (grown_other D3.out hg4 N3.out); have C4 := Aside0.mk hd4; have B4 := Aside0.mk (below_of_only B3.out hg4 B2.out.size); have S4 := Aside0.mk hg4.size; clear hd4 hg4 C3 D3)
      | (go_at_call 18; refine (end_calls w2.heap.size _ _ C4.out).mono ?_; rintro e w5 ⟨v5, u5, rfl, hc5, hf5, hd5, hg5⟩; have D5 := Aside0.mk (grown_other D4.out hg5 N3.out); have B5 := Aside0.mk (below_of_only B4.out hg5 B2.out.size); have L5 := Aside0.mk (Blk.lt (grown_other D4.out hg5 N3.out)); clear hc5 hf5 hd5 hg5 C4 D4)
      | (go_at_call 17; refine (copy_calls w.heap.size _ _ D5.out).mono ?_; rintro e w6 ⟨rfl, hd6, hb6⟩; have D6 := Aside0.mk (DecAt.below D5.out hb6 L5.out); have E6 := Aside0.mk hd6; have B6 := Aside0.mk (below_step B5.out hb6); have LE6 := Aside0.mk (Blk.lt hd6); have L6 := Aside0.mk (Nat.lt_of_lt_of_le L5.out hb6.size); have N6 : Aside0 (w5.heap.size ≠ w.heap.size) := ⟨by have := L5.out; omega⟩; clear hd6 hb6 D5)
      | (go_at_call 16; refine (feed_calls w.heap.size _ t _ D6.out (by omega)).mono ?_; rintro e w7 ⟨v7, u7, rfl, hc7, hf7, hd7, hg7⟩; have Q1 := Aside0.mk (chars_upto t d1 (by omega)); have Q2 := Aside0.mk (faults_upto t d1 (by omega)); have Q3 := Aside0.mk (chars_end (St.upto t ⟨d1, [], []⟩ t.size).d); have Q4 := Aside0.mk (faults_end (St.upto t ⟨d1, [], []⟩ t.size).d); generalize hq : St.upto t ⟨d1, [], []⟩ t.size = st7 at hc7 hf7 hd7 Q1 Q2 Q3 Q4; obtain ⟨d7, cs7, fs7⟩ := st7; have HQ := Aside0.mk hq; clear hq; have D7 := Aside0.mk hd7; have E7 := Aside0.mk (grown_other E6.out hg7 N6.out); have B7 := Aside0.mk (below_of_only B6.out hg7 (Nat.le_refl _)); have A7 := Aside0.mk hc7; have F7 := Aside0.mk hf7; have L7 := Aside0.mk (Nat.lt_of_lt_of_le L6.out hg7.size); have LE7 := Aside0.mk (Nat.lt_of_lt_of_le LE6.out hg7.size); clear hc7 hf7 hd7 hg7 E6 D6)
      | (go_at_call 16; refine (feed_calls w5.heap.size _ t _ E7.out (by omega)).mono ?_; rintro e w8 ⟨v8, u8, rfl, hc8, hf8, hd8, hg8⟩; rw [HQ.out] at hc8 hf8 hd8; have D8 := Aside0.mk (grown_other D7.out hg8 N6.out.symm); have E8 := Aside0.mk hd8; have B8 := Aside0.mk (below_of_only B7.out hg8 B5.out.size); have A8 := Aside0.mk (R_dec A7.out hg8 LE6.out); have F8 := Aside0.mk (R_dec F7.out hg8 LE6.out); have X8 := Aside0.mk hc8; have Y8 := Aside0.mk hf8; have L8 := Aside0.mk (Nat.lt_of_lt_of_le L7.out hg8.size); have LE8 := Aside0.mk (Nat.lt_of_lt_of_le LE7.out hg8.size); clear hc8 hf8 hd8 hg8 E7 D7 A7 F7)
      | (go_at_call 18; refine (end_calls w.heap.size _ _ D8.out).mono ?_; rintro e w9 ⟨v9, u9, rfl, hc9, hf9, hd9, hg9⟩; have E9 := Aside0.mk (grown_other E8.out hg9 N6.out); have B9 := Aside0.mk (below_of_only B8.out hg9 (Nat.le_refl _)); have A9 := Aside0.mk (R_dec A8.out hg9 L6.out); have F9 := Aside0.mk (R_dec F8.out hg9 L6.out); have X9 := Aside0.mk (R_dec X8.out hg9 L7.out); have Y9 := Aside0.mk (R_dec Y8.out hg9 L7.out); have P9 := Aside0.mk hc9; have Q9 := Aside0.mk hf9; have LE9 := Aside0.mk (Nat.lt_of_lt_of_le LE8.out hg9.size); clear hc9 hf9 hd9 hg9 E8 D8 A8 F8 X8 Y8)
      | (go_at_call 18; refine (end_calls w5.heap.size _ _ E9.out).mono ?_; rintro e w10 ⟨v10, u10, rfl, hc10, hf10, hd10, hg10⟩; have B10 := Aside0.mk (below_of_only B9.out hg10 B5.out.size); have hA := R_dec A9.out hg10 LE6.out; have hF := R_dec F9.out hg10 LE6.out; have hX := R_dec X9.out hg10 LE7.out; have hY := R_dec Y9.out hg10 LE7.out; have hP := R_dec P9.out hg10 LE8.out; have hQ := R_dec Q9.out hg10 LE8.out; obtain ⟨Aa, ca, ea, ma, CA⟩ := Kd.R_reads hA; obtain ⟨Af, cf, ef, mf, CF⟩ := Kd.R_reads hF; obtain ⟨Ax, cx, ex, mx, CX⟩ := Kd.R_reads hX; obtain ⟨Ay, cy, ey, my, CY⟩ := Kd.R_reads hY; obtain ⟨Ap, cp, ep, mp, CP⟩ := Kd.R_reads hP; obtain ⟨Aq, cq, eq, mq, CQ⟩ := Kd.R_reads hQ; obtain ⟨Az, cz, ez, mz, CZ⟩ := Kd.R_reads hc10; obtain ⟨Av, cv, ev, mv, CV⟩ := Kd.R_reads hf10; subst ea ef ex ey ep eq ez ev; have ZA := Aside0.mk CA; have ZF := Aside0.mk CF; have ZX := Aside0.mk CX; have ZY := Aside0.mk CY; have ZP := Aside0.mk CP; have ZQ := Aside0.mk CQ; have ZZ := Aside0.mk CZ; have ZV := Aside0.mk CV; clear CA CF CX CY CP CQ CZ CV hA hF hX hY hP hQ hc10 hf10 hd10 hg10)
      | (have gA := ZA.out; clear gA; go_at_call 10; refine (taffrailref03_Chars.calls 200000 _ _ _ _ _ _ true _ (by (with_reducible repeat (first | refine C_drawn ?_ _)); exact ZA.out) ma (by (with_reducible repeat (first | refine C_drawn ?_ _)); exact ZX.out) mx (Q1.out)).mono ?_; rintro e w' ⟨rfl, hdr⟩; obtain ⟨n, rfl⟩ := hdr.out; clear hdr ZA ZX)
      | (have gA := ZF.out; clear gA; go_at_call 11; refine (taffrailref03_Faults.calls 200000 _ _ _ _ _ _ true _ (by (with_reducible repeat (first | refine C_drawn ?_ _)); exact ZF.out) mf (by (with_reducible repeat (first | refine C_drawn ?_ _)); exact ZY.out) my (Q2.out)).mono ?_; rintro e w' ⟨rfl, hdr⟩; obtain ⟨n, rfl⟩ := hdr.out; clear hdr ZF ZY)
      | (have gA := ZP.out; clear gA; go_at_call 10; refine (taffrailref03_Chars.calls 200000 _ _ _ _ _ _ true _ (by (with_reducible repeat (first | refine C_drawn ?_ _)); exact ZP.out) mp (by (with_reducible repeat (first | refine C_drawn ?_ _)); exact ZZ.out) mz (Q3.out)).mono ?_; rintro e w' ⟨rfl, hdr⟩; obtain ⟨n, rfl⟩ := hdr.out; clear hdr ZP ZZ)
      | (have gA := ZQ.out; clear gA; go_at_call 11; refine (taffrailref03_Faults.calls 200000 _ _ _ _ _ _ true _ (by (with_reducible repeat (first | refine C_drawn ?_ _)); exact ZQ.out) mq (by (with_reducible repeat (first | refine C_drawn ?_ _)); exact ZV.out) mv (Q4.out)).mono ?_; rintro e w' ⟨rfl, hdr⟩; obtain ⟨n, rfl⟩ := hdr.out; clear hdr ZQ ZV)
      | (go_at_call 7; refine (taffraillaw03_awake.calls true _ Pure.awake_some).mono ?_; rintro e w11 ⟨rfl, hb11⟩; have B11 := Aside0.mk (below_step (by (with_reducible repeat (first | apply below_alloc | apply pw_below_drewN | apply below_drew1)); exact B10.out) hb11); clear hb11))
    all_goals go_ret
    all_goals exact ⟨rfl, B11.out⟩

theorem taffraillaw03_Utf8inCopies.calls (a0 a1 a2 : ByteArray) (r : Bool) (w : World) (h : taffraillaw03_Utf8inCopies.f a0 a1 a2 = some r) :
    Calls Try.prog 6 #[.string a0, .string a1, .string a2] w fun e w' => e = .returned (.bool r) ∧ Below w.heap.size w w' := by
  unfold taffraillaw03_Utf8inCopies.f at h
  split at h
  case isTrue hs =>
    obtain rfl := Option.some.inj h
    exact copies_walk a0 a1 a2 w hs.1 hs.2.1 hs.2.2
  case isFalse => cases h
end Go.Proofs.Ytncjlbbbojebhaa.P
