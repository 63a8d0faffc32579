/- The law InstreamCopies, walked. -/
import Derived.Test.YtdmkhcmkfhojgaaHandPieces
namespace Go.Proofs.Ytdmkhcmkfhojgaa.P
open Go.RowKit Go.Proofs.YtdmkhcmkfhojgaaW.PrintWords Go.Proofs.YtdmkhcmkfhojgaaW.PrintLast Go.Proofs.YtdmkhcmkfhojgaaW.PrintMore Go.Proofs.Ytdmkhcmkfhojgaa.Blk
open Go.Proofs.Ytdmkhcmkfhojgaa.Pure (chars_ev faults_ev awake_ev)
set_option linter.unusedVariables false

/-- rows of a call, as they are read -/
structure Rd2 (w : World) (A : Option Addr) (c : Nat) (B : Option Addr) (e : Nat) (o : List S36) (f : List S39) : Prop where
  co : Kd.C k36 w A o.length o
  cf : Kd.C k39 w B f.length f
  lo : o.length ≤ c
  lf : f.length ≤ e

set_option maxRecDepth 100000 in
set_option maxHeartbeats 4000000 in
theorem copies_walk (s t u : ByteArray) (w : World) (hs : s.size ≤ 140737488355328) (ht : t.size ≤ 140737488355328) (hu : u.size ≤ 140737488355328) :
    Calls Try.prog 6 #[.string s, .string t, .string u] w fun e w' => e = .returned (.bool true) ∧ Below w.heap.size w w' := by
  have hw1 : wrap64 ((s.size : Int) + t.size) = (s.size : Int) + t.size := Pure.wrap_id _ (by omega) (by omega)
  have hw2 : wrap64 ((s.size : Int) + t.size + u.size) = (s.size : Int) + t.size + u.size := Pure.wrap_id _ (by omega) (by omega)
  by_cases hbig : (20000 : Int) < (s.size : Int) + t.size + u.size
  · go_enter Try.func6, Try.ntmps6
    go_wp2_with (first
      | (go_at_call 12; refine (newS_calls _).mono ?_; rintro e w1 ⟨g, gd, rfl, hs1, hg1, hgd1, hb1⟩; have B1 := Aside0.mk hb1; clear hb1 hs1)
      | (go_at_call 7; refine (taffraillaw04_awake.calls true _ awake_ev).mono ?_; rintro e w2 ⟨rfl, hb2⟩; have HB2 := Aside0.mk (below_step B1.out hb2); clear hb2))
    all_goals go_ret
    all_goals exact ⟨rfl, HB2.out⟩
  · have hsm : (s.size : Int) + t.size + u.size ≤ 20000 := by omega
    have hts : t.size ≤ 20000 := by omega
    obtain ⟨K0, _⟩ : ∃ k : Nat, True := ⟨0, trivial⟩
    go_enter Try.func6, Try.ntmps6
    go_wp2_with (first
      | (go_at_call 12; refine (newS_calls _).mono ?_; rintro e w1 ⟨g, gd, rfl, hs1, hg1, hgd1, hb1⟩; have D1 := Aside0.mk hs1; have B1 := Aside0.mk hb1; clear hb1 hs1)
      | (have gA := D1.out; clear gA; go_at_call 13; refine (feedS_calls g gd _ _ s _ D1.out (by omega)).mono ?_; rintro e w2 ⟨v2, u2, rfl, hc2, hf2, hd2, ht2⟩; clear hc2 hf2; generalize fedD _ s = d1 at hd2; generalize TS.tk _ = x1 at hd2; have D2 := Aside0.mk hd2; have B2 := Aside0.mk (Two.after B1.out ht2 hg1 hgd1); clear hd2 ht2 D1)
      | (have gA := D2.out; clear gA; go_at_call 15; refine (copyS_calls g gd _ _ _ D2.out).mono ?_; rintro e w3 ⟨h, hd, rfl, hs3, hh3, hhd3, hb3⟩; have L2 := Aside0.mk D2.out.lt; have D3 := Aside0.mk (D2.out.below hb3); have C3 := Aside0.mk hs3; have B3 := Aside0.mk (below_step B2.out hb3); have M2 := Aside0.mk (And.intro hh3 hhd3); have N2 := Aside0.mk B2.out.size; clear hs3 hb3 D2 hh3 hhd3)
      | (have gA := C3.out; clear gA; go_at_call 13; refine (feedS_calls h hd _ _ u _ C3.out (by omega)).mono ?_; rintro e w4 ⟨v4, u4, rfl, hc4, hf4, hd4, ht4⟩; clear hc4 hf4; generalize fedD _ u = d4 at hd4; generalize TS.tk _ = x4 at hd4; have D4 := Aside0.mk (D3.out.two ht4 (by have := L2.out; have := M2.out; omega) (by have := L2.out; have := M2.out; omega) (by have := L2.out; have := M2.out; omega) (by have := L2.out; have := M2.out; omega)); have C4 := Aside0.mk hd4; have B4 := Aside0.mk (Two.after B3.out ht4 (by have := N2.out; have := M2.out; omega) (by have := N2.out; have := M2.out; omega)); clear hd4 ht4 C3 D3)
      | (have gA := C4.out; clear gA; go_at_call 14; refine (endS_calls h hd _ _ _ C4.out).mono ?_; rintro e w5 ⟨v5, u5, rfl, hc5, hf5, hd5, ht5⟩; have D5 := Aside0.mk (D4.out.two ht5 (by have := L2.out; have := M2.out; omega) (by have := L2.out; have := M2.out; omega) (by have := L2.out; have := M2.out; omega) (by have := L2.out; have := M2.out; omega)); have B5 := Aside0.mk (Two.after B4.out ht5 (by have := N2.out; have := M2.out; omega) (by have := N2.out; have := M2.out; omega)); clear hc5 hf5 hd5 ht5 C4 D4)
      | (have gA := D5.out; clear gA; go_at_call 15; refine (copyS_calls g gd _ _ _ D5.out).mono ?_; rintro e w6 ⟨k, kd, rfl, hs6, hk6, hkd6, hb6⟩; have L5 := Aside0.mk D5.out.lt; have D6 := Aside0.mk (D5.out.below hb6); have E6 := Aside0.mk hs6; have B6 := Aside0.mk (below_step B5.out hb6); have M5 := Aside0.mk (And.intro hk6 hkd6); have N5 := Aside0.mk B5.out.size; have LE6 := Aside0.mk hs6.lt; have LD6 := Aside0.mk (D5.out.below hb6).lt; clear hs6 hb6 D5 hk6 hkd6)
      | (have gA := D6.out; clear gA; go_at_call 13; refine (feedS_calls g gd _ _ t _ D6.out (by omega)).mono ?_; rintro e w7 ⟨v7, u7, rfl, hc7, hf7, hd7, ht7⟩; have F1 := Aside0.mk (fedS_len d1 x1 t); generalize hq1 : fedS d1 x1 t = S at hc7 hf7 hd7 F1; generalize hq2 : fedD d1 t = dd at hd7; have HQ1 := Lib.hid hq1; have HQ2 := Lib.hid hq2; clear hq1 hq2; have D7 := Aside0.mk hd7; have E7 := Aside0.mk (E6.out.two ht7 (by have := L5.out; have := M5.out; omega) (by have := L5.out; have := M5.out; omega) (by have := L5.out; have := M5.out; omega) (by have := L5.out; have := M5.out; omega)); have B7 := Aside0.mk (Two.after B6.out ht7 hg1 hgd1); have A7 := Aside0.mk hc7; have F7 := Aside0.mk hf7; have LD7 := Aside0.mk hd7.lt; have LE7 := Aside0.mk (E6.out.two ht7 (by have := L5.out; have := M5.out; omega) (by have := L5.out; have := M5.out; omega) (by have := L5.out; have := M5.out; omega) (by have := L5.out; have := M5.out; omega)).lt; clear hc7 hf7 hd7 ht7 D6 E6)
      | (have gA := E7.out; clear gA; go_at_call 13; refine (feedS_calls k kd _ _ t _ E7.out (by omega)).mono ?_; rintro e w8 ⟨v8, u8, rfl, hc8, hf8, hd8, ht8⟩; rw [HQ1.out] at hc8 hf8 hd8; rw [HQ2.out] at hd8; have D8 := Aside0.mk (D7.out.two ht8 (by have := L5.out; have := M5.out; omega) (by have := L5.out; have := M5.out; omega) (by have := L5.out; have := M5.out; omega) (by have := L5.out; have := M5.out; omega)); have E8 := Aside0.mk hd8; have B8 := Aside0.mk (Two.after B7.out ht8 (by have := N5.out; have := M5.out; omega) (by have := N5.out; have := M5.out; omega)); have A8 := Aside0.mk (Two.R A7.out ht8 LE6.out.1 LE6.out.2); have F8 := Aside0.mk (Two.R F7.out ht8 LE6.out.1 LE6.out.2); have X8 := Aside0.mk hc8; have Y8 := Aside0.mk hf8; have LD8 := Aside0.mk (D7.out.two ht8 (by have := L5.out; have := M5.out; omega) (by have := L5.out; have := M5.out; omega) (by have := L5.out; have := M5.out; omega) (by have := L5.out; have := M5.out; omega)).lt; have LE8 := Aside0.mk hd8.lt; clear hc8 hf8 hd8 ht8 E7 D7 A7 F7)
      | (have gA := D8.out; clear gA; go_at_call 14; refine (endS_calls g gd _ _ _ D8.out).mono ?_; rintro e w9 ⟨v9, u9, rfl, hc9, hf9, hd9, ht9⟩; have E9 := Aside0.mk (E8.out.two ht9 (by have := L5.out; have := M5.out; omega) (by have := L5.out; have := M5.out; omega) (by have := L5.out; have := M5.out; omega) (by have := L5.out; have := M5.out; omega)); have B9 := Aside0.mk (Two.after B8.out ht9 hg1 hgd1); have A9 := Aside0.mk (Two.R A8.out ht9 LD6.out.1 LD6.out.2); have F9 := Aside0.mk (Two.R F8.out ht9 LD6.out.1 LD6.out.2); have X9 := Aside0.mk (Two.R X8.out ht9 LD7.out.1 LD7.out.2); have Y9 := Aside0.mk (Two.R Y8.out ht9 LD7.out.1 LD7.out.2); have P9 := Aside0.mk hc9; have Q9 := Aside0.mk hf9; clear hc9 hf9 hd9 ht9 E8 D8 A8 F8 X8 Y8)
      | (have gA := E9.out; clear gA; go_at_call 14; refine (endS_calls k kd _ _ _ E9.out).mono ?_; rintro e w10 ⟨v10, u10, rfl, hc10, hf10, hd10, ht10⟩; have B10 := Aside0.mk (Two.after B9.out ht10 (by have := N5.out; have := M5.out; omega) (by have := N5.out; have := M5.out; omega)); obtain ⟨Aa, ca, ea, ma, CA⟩ := Kd.R_reads (Two.R A9.out ht10 LE6.out.1 LE6.out.2); obtain ⟨Af, cf, ef, mf, CF⟩ := Kd.R_reads (Two.R F9.out ht10 LE6.out.1 LE6.out.2); obtain ⟨Ax, cx, ex, mx, CX⟩ := Kd.R_reads (Two.R X9.out ht10 LE7.out.1 LE7.out.2); obtain ⟨Ay, cy, ey, my, CY⟩ := Kd.R_reads (Two.R Y9.out ht10 LE7.out.1 LE7.out.2); obtain ⟨Ap, cp, ep, mp, CP⟩ := Kd.R_reads (Two.R P9.out ht10 LE8.out.1 LE8.out.2); obtain ⟨Aq, cq, eq, mq, CQ⟩ := Kd.R_reads (Two.R Q9.out ht10 LE8.out.1 LE8.out.2); obtain ⟨Az, cz, ez, mz, CZ⟩ := Kd.R_reads hc10; obtain ⟨Av, cv, ev, mv, CV⟩ := Kd.R_reads hf10; subst ea ef ex ey ep eq ez ev; have ZA := Aside0.mk CA; have ZF := Aside0.mk CF; have ZX := Aside0.mk CX; have ZY := Aside0.mk CY; have ZP := Aside0.mk CP; have ZQ := Aside0.mk CQ; have ZZ := Aside0.mk CZ; have ZV := Aside0.mk CV; have F2 := Aside0.mk (endOut_len dd S.tk); have F3 := Aside0.mk (endS_len dd S.tk); obtain ⟨K1, g1⟩ := chars_ev S.out (by have := F1.out; omega); obtain ⟨K2, g2⟩ := faults_ev S.f (by have := F1.out; omega); obtain ⟨K3, g3⟩ := chars_ev (endOut dd S.tk) (by have := F2.out; omega); obtain ⟨K4, g4⟩ := faults_ev (endS dd S.tk).f (by have := F3.out; omega); have Q1 := Aside0.mk (g1 K1 (Nat.le_refl _)); have Q2 := Aside0.mk (g2 K2 (Nat.le_refl _)); have Q3 := Aside0.mk (g3 K3 (Nat.le_refl _)); have Q4 := Aside0.mk (g4 K4 (Nat.le_refl _)); clear CA CF CX CY CP CQ CZ CV hc10 hf10 hd10 ht10 g1 g2 g3 g4 E9)
      | (have gA := ZA.out; clear gA; go_at_call 10; refine (taffrailref03_Chars.calls K1 _ _ _ _ _ _ true _ (by (with_reducible repeat (first | refine C_drawn ?_ _)); exact ZA.out) ma (by (with_reducible repeat (first | refine C_drawn ?_ _)); exact ZX.out) mx (Q1.out)).mono ?_; rintro e w' ⟨rfl, hdr⟩; obtain ⟨n, rfl⟩ := hdr.out; clear hdr ZA ZX)
      | (have gA := ZF.out; clear gA; go_at_call 11; refine (taffrailref03_Faults.calls K2 _ _ _ _ _ _ true _ (by (with_reducible repeat (first | refine C_drawn ?_ _)); exact ZF.out) mf (by (with_reducible repeat (first | refine C_drawn ?_ _)); exact ZY.out) my (Q2.out)).mono ?_; rintro e w' ⟨rfl, hdr⟩; obtain ⟨n, rfl⟩ := hdr.out; clear hdr ZF ZY)
      | (have gA := ZP.out; clear gA; go_at_call 10; refine (taffrailref03_Chars.calls K3 _ _ _ _ _ _ true _ (by (with_reducible repeat (first | refine C_drawn ?_ _)); exact ZP.out) mp (by (with_reducible repeat (first | refine C_drawn ?_ _)); exact ZZ.out) mz (Q3.out)).mono ?_; rintro e w' ⟨rfl, hdr⟩; obtain ⟨n, rfl⟩ := hdr.out; clear hdr ZP ZZ)
      | (have gA := ZQ.out; clear gA; go_at_call 11; refine (taffrailref03_Faults.calls K4 _ _ _ _ _ _ true _ (by (with_reducible repeat (first | refine C_drawn ?_ _)); exact ZQ.out) mq (by (with_reducible repeat (first | refine C_drawn ?_ _)); exact ZV.out) mv (Q4.out)).mono ?_; rintro e w' ⟨rfl, hdr⟩; obtain ⟨n, rfl⟩ := hdr.out; clear hdr ZQ ZV)
      | (go_at_call 7; refine (taffraillaw04_awake.calls true _ awake_ev).mono ?_; rintro e w11 ⟨rfl, hb11⟩; have B11 := Aside0.mk (below_step (by (with_reducible repeat (first | apply below_alloc | apply pw_below_drewN | apply below_drew1)); exact B10.out) hb11); clear hb11))
    all_goals go_ret
    all_goals exact ⟨rfl, B11.out⟩

/-- the law InstreamCopies -/
def taffraillaw04_InstreamCopies.f (a0 a1 a2 : ByteArray) : Option Bool := if a0.size ≤ 140737488355328 ∧ a1.size ≤ 140737488355328 ∧ a2.size ≤ 140737488355328 then some true else none
theorem taffraillaw04_InstreamCopies.calls (a0 a1 a2 : ByteArray) (r : Bool) (w : World) (h : taffraillaw04_InstreamCopies.f a0 a1 a2 = some r) :
    Calls Try.prog 6 #[.string a0, .string a1, .string a2] w fun e w' => e = .returned (.bool r) ∧ Below w.heap.size w w' := by
  unfold taffraillaw04_InstreamCopies.f at h
  split at h
  case isTrue hs =>
    obtain rfl := Option.some.inj h
    exact copies_walk a0 a1 a2 w hs.1 hs.2.1 hs.2.2
  case isFalse => cases h
end Go.Proofs.Ytdmkhcmkfhojgaa.P
