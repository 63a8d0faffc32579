/- The law TextbufBack, walked. -/
import Derived.Test.YtkeicfbjijnhnaaHandBack
namespace Go.Proofs.Ytkeicfbjijnhnaa.P
open Go.RowKit Go.Proofs.YtkeicfbjijnhnaaW.PrintWords Go.Proofs.YtkeicfbjijnhnaaW.PrintLast Go.Proofs.YtkeicfbjijnhnaaW.PrintMore Go.Proofs.Ytkeicfbjijnhnaa.Shelf Go.Proofs.Ytkeicfbjijnhnaa.Blk
set_option linter.unusedVariables false
set_option maxRecDepth 100000 in
set_option maxHeartbeats 2000000 in
theorem back_go (s : ByteArray) (A : Option Addr) (c : Nat) (l : List S32) (w : World) (hs : s.size ≤ 65536) (hl : Kd.C k32 w A l.length l) (hc : l.length ≤ c) (hll : l.length ≤ 1000000000000000) :
    Calls Try.prog 3 #[.string s, .slice A l.length c] w fun e w' => e = .returned (.bool true) ∧ Below w.heap.size w w' := by
  have HL := Aside0.mk hl
  have N1 := Aside0.mk trivial
  clear hl
  go_enter Try.func3, Try.ntmps3
  go_wp2_with (first
    | (go_at_call 8; (have gA := N1.out; clear gA); refine (new_calls s 65536 _ (by decide) (by decide) (by omega)).mono ?_; rintro e w1 ⟨g, rfl, hb1, hl1⟩; have S1 : Aside0 (St1 w s g (.slice none 0 0) w1 [s.data.toList] [] []) := ⟨hb1.mono (fun k hk => ⟨hk, by simp [Value.ownBlock]⟩), Kd.R_nil _ _ _ _ _, ⟨by simp, by rw [fl1, bytes_size]; omega, by simp, rfl, by simp⟩, hl1⟩; clear hb1 hl1 N1))
  go_loopw [7, 8] (fun v7 v8 wr => ∃ (k : Nat) (P : List (List UInt8)) (U : List (List (List UInt8))) (ts : List ByteArray), v8 = .int .i64 k ∧ k ≤ 40 ∧ k ≤ l.length ∧ Aside0 (U.length ≤ k) ∧ Aside0 (St1 w s g v7 wr P U ts)) (fun _ v8 _ => (41 - (intOf v8).toNat))
  case atStart => exact ⟨0, _, _, _, rfl, by omega, by omega, ⟨by simp⟩, S1⟩
  case round =>
    clear S1
    obtain ⟨k, P, U, ts, rfl, hk, hkl, HU, HS⟩ := hrel
    by_cases hgo : k < l.length ∧ k < 40
    · obtain ⟨h1, h2⟩ := hgo
      have HL1 := Aside0.mk (Kd.C_below HL.out HS.out.2.2.2)
      obtain ⟨ad, hA, hc0, hc1, hc2⟩ := at_T32 HL1.out (k : Int) (by omega) (by omega)
      subst hA
      obtain ⟨⟨a, d, i⟩, he⟩ : ∃ e, rd_T32 l (k : Int) = e := ⟨_, rfl⟩
      simp only [he, Int.toNat_natCast] at hc0 hc1 hc2
      clear he
      have hk1 : (k : Int) < (l.length : Int) := by omega
      have hk2 : decide ((k : Int) < 40) = true := decide_eq_true (by omega)
      have N1 := Aside0.mk trivial
      have HI := Aside0.mk HS.out.2.2.1
      have HZ := Aside0.mk HS.out.2.2.2.size
      by_cases hm : may P.flatten a d ∧ (i.size : Int) ≤ 65536 - ((P.flatten.length : Int) - d)
      · have HM := Aside0.mk hm
        clear hm
        go_wp2_with (first
          | (go_at_call 10; (have gA := N1.out; clear gA N1); refine (text_any HS.out.1 (by have := HI.out.2.1; omega)).mono ?_; rintro e w2 ⟨t, rfl, ht, hb2⟩; have HT := Aside0.mk ht; have S2 := Aside0.mk (HS.out.below hb2); have hc0 := pw_cell_below hb2 hc0; have hc1 := pw_cell_below hb2 hc1; have hc2 := pw_cell_below hb2 hc2; clear hb2 ht)
          | (go_at_call 11; (have gA := S2.out; clear gA); refine (splice_calls a d i S2.out.1 HI.out.1 (by have := HU.out; omega) ⟨by decide, by decide⟩ (by have := HI.out.2.1; omega) HM.out.1 HM.out.2).mono ?_; rintro e w3 ⟨rfl, Q, hQ, hQ1, hb3, hl3, hk3⟩; have hq : Q.flatten.length ≤ 65536 := (by have h9 := HM.out.2; have h8 := HM.out.1; have h7 := HI.out.2.1; unfold may at h8; rw [hQ]; unfold spl; simp only [List.length_append, List.length_take, List.length_drop, bytes_size]; omega); have HQ := Aside0.mk (And.intro hQ1 hq); have HB3 := Aside0.mk hb3; have HL3 := Aside0.mk hl3; have HR3 := Aside0.mk (row_kept S2.out.2.1 S2.out.2.2.2 hl3 hk3); clear hQ hQ1 hb3 hl3 hk3 hq)
          | (at_builtin; (have gA := HB3.out; clear gA); refine Kd.R_append Kd.string (w0 := w) w.heap.size rfl (.tmp 55) (.tmp 57) 28 9 (.string ⟨#[]⟩) 16 rfl Try.underlying28 info9 rfl (by decide) (by decide) u7 ts t [.string t] (fun k => w.heap.size ≤ k) (fun _ => False) rfl rfl rfl (fun _ h => h.elim) (fun _ h => Nat.le_trans HR3.out.2.size h) HR3.out.1 HR3.out.2 HR3.out.2.size (by have := HI.out.len; have := HU.out; omega) ?_; intro v9 w9 hr9 hb9 hg9 hat9; have S9 := Aside0.mk (St1.push S2.out HB3.out HL3.out hr9 hg9 hat9 hb9 HT.out HQ.out.1 HQ.out.2); clear hr9 hb9 hg9 hat9))
        go_roundw
        case rel => exact ⟨k + 1, _, _, _, by go_num, by omega, by omega, ⟨by have := HU.out; simp; omega⟩, S9⟩
        case measure => simp [intOf]; omega
      · have HM := Aside0.mk hm
        clear hm
        go_wp2_with (first
          | (go_at_call 10; (have gA := N1.out; clear gA N1); refine (text_any HS.out.1 (by have := HI.out.2.1; omega)).mono ?_; rintro e w2 ⟨t, rfl, ht, hb2⟩; have S2 := Aside0.mk (HS.out.below hb2); have hc0 := pw_cell_below hb2 hc0; have hc1 := pw_cell_below hb2 hc1; have hc2 := pw_cell_below hb2 hc2; clear hb2 ht)
          | (go_at_call 11; (have gA := S2.out; clear gA); refine (splice_no a d i S2.out.1 HI.out.2.1 ⟨by decide, by decide⟩ HM.out).mono ?_; rintro e w3 ⟨r, rfl, hr, hb3⟩; have hr0 : (r == 0) = false := beq_eq_false_iff_ne.mpr hr; have S9 := Aside0.mk (S2.out.below hb3); clear hb3 hr))
        go_roundw
        case rel => exact ⟨k + 1, _, _, _, by go_num, by omega, by omega, ⟨by have := HU.out; omega⟩, S9⟩
        case measure => simp [intOf]; omega
    · have HT := Aside0.mk HS.out.2.2.1.len
      have hts : ts.length ≤ 40 := by have := HT.out; have := HU.out; omega
      have S0 : Aside0 (St2 w s g u7 wr P U (ts.take ts.length) ts) := ⟨by rw [List.take_length]; exact HS.out⟩
      obtain ⟨A7, c7, e7⟩ := Kd.R_slice HS.out.2.1
      clear HS HU HT
      subst e7
      have hend : ((k : Int) < (l.length : Int)) = False ∨ (((k : Int) < (l.length : Int)) = True ∧ decide ((k : Int) < 40) = false) := by
        by_cases h1 : k < l.length
        · exact .inr ⟨eq_true (by omega), decide_eq_false (by omega)⟩
        · exact .inl (eq_false (by omega))
      clear hgo
      rcases hend with hk1 | ⟨hk1, hk2⟩
      all_goals
        go_wp2
        go_loopw [10] (fun v10 wr => ∃ (j : Nat) (z : Int) (P : List (List UInt8)) (U' : List (List (List UInt8))), v10 = .int .i64 z ∧ Aside0 (z = (j : Int) - 1) ∧ Aside0 (j ≤ ts.length) ∧ Aside0 (St2 w s g (.slice A7 ts.length c7) wr P U' (ts.take j) ts)) (fun v10 _ => (intOf v10 + 1).toNat)
        case atStart => exact ⟨ts.length, _, _, _, rfl, ⟨rfl⟩, ⟨Nat.le_refl _⟩, S0⟩
        case round =>
          clear S0
          obtain ⟨j, z, P, U', rfl, HZ, HJ, HS⟩ := hrel
          cases j with
          | zero =>
            obtain rfl : z = -1 := by have := HZ.out; omega
            have hU : U' = [] := by
              have h9 := HS.out.2.2.1.len
              simp at h9
              first | exact h9 | exact List.eq_nil_of_length_eq_zero h9.symm
            subst hU
            have hP : P.flatten = s.data.toList := by
              have h9 := HS.out.2.2.1.2.2.2.2
              simpa using h9
            have HP := Aside0.mk hP
            clear hP
            go_wp2_with (first
              | (go_at_call 12; refine (undo_none HS.out.1).mono ?_; rintro e w4 ⟨rfl, hw4⟩; subst hw4)
              | (go_at_call 10; (have gA := HP.out; clear gA); refine (text_eq HS.out.1 HP.out (by omega)).mono ?_; rintro e w5 ⟨rfl, hb5⟩; have L5 := Aside0.mk (below_then HS.out.2.2.2 HS.out.2.2.2.size hb5); clear hb5)
              | (go_at_call 9; (have gA := L5.out; clear gA); refine (awake_calls _).mono ?_; rintro e w6 ⟨rfl, hb6⟩; have L6 := Aside0.mk (below_then L5.out L5.out.size hb6); clear hb6))
            go_ret
            exact ⟨rfl, L6.out⟩
          | succ m =>
            have hmt : m < ts.length := by have := HJ.out; omega
            obtain rfl : z = (m : Int) := by have := HZ.out; omega
            have hmz : (m : Int) < (ts.length : Int) := by omega
            obtain ⟨U'', P'', rfl, hinv, htx, hU''⟩ := HS.out.split hmt
            obtain ⟨gw, cw, e7, hcell⟩ := row_cell HS.out.2.1 m hmt
            injection e7 with eA en ec
            subst eA ec
            generalize ts[m] = t at hcell htx
            have HV := Aside0.mk hinv
            have HT := Aside0.mk htx
            clear en hinv htx
            have N2 := Aside0.mk trivial
            go_wp2
            go_region_with (first
              | (go_at_call 12; (have gA := N2.out; clear gA N2); refine (undo_calls (w := wr.drew) (HS.out.1.below (below_drew1 (Below.refl _ _))) (by omega) (by have := HV.out.1; have := HV.out.2.1; omega) (by have := HV.out.2.1; unfold tl; omega)).mono ?_; rintro e w2 ⟨rfl, hb2, hl2, hk2⟩; have HB2 := Aside0.mk hb2; have HR2 := Aside0.mk (row_kept (w := w) (w1 := wr.drew) (Kd.R_below HS.out.2.1 (below_drew1 (Below.refl _ _))) (below_drew1 HS.out.2.2.2) hl2 hk2); have hx2 : w2.cell? ⟨gw, m, none⟩ = some (.string t) := cell_kept (W := wr.drew) hcell hk2 (fun h9 => h9.2 (by simp [Value.ownBlock])); clear hb2 hl2 hk2)
              | (go_at_call 10; refine (text_eq (w := w2) HB2.out HT.out.symm (by have h8 := congrArg List.length HT.out; rw [bytes_size] at h8; have := HV.out.2.1; omega)).mono ?_; rintro e w3 ⟨rfl, hb3⟩; have hx3 := pw_cell_below hb3 hx2; have S3 : Aside0 (St2 w s g (.slice (some ⟨gw, 0, none⟩) ts.length c7) w3 P'' U'' (ts.take m) ts) := ⟨HB2.out.below hb3, Kd.R_below HR2.out.1 hb3, HV.out, below_then HR2.out.2 HR2.out.2.size hb3⟩; clear hb3))
            all_goals go_wp2
            all_goals go_roundw
            all_goals first
              | exact ⟨m, (m : Int) - 1, P'', U'', by go_num, ⟨rfl⟩, ⟨by omega⟩, S3⟩
              | (simp [intOf] <;> omega)
              | trace_state
set_option maxRecDepth 100000 in
theorem back_big (s : ByteArray) (A : Option Addr) (c : Nat) (l : List S32) (w : World) (hs : 65536 < s.size) :
    Calls Try.prog 3 #[.string s, .slice A l.length c] w fun e w' => e = .returned (.bool true) ∧ Below w.heap.size w w' := by
  have hs2 : decide ((65536 : Int) < s.size) = true := decide_eq_true (by omega)
  have L0 := Aside0.mk (Below.refl w.heap.size w)
  go_enter Try.func3, Try.ntmps3
  go_wp2_with (first
    | (go_at_call 8; refine (new_size s 65536 _ (by decide) (by decide) (by omega)).mono ?_; rintro e w1 ⟨rfl, hw1⟩; subst hw1)
    | (go_at_call 9; refine (awake_calls _).mono ?_; rintro e w6 ⟨rfl, hb6⟩; have L6 := Aside0.mk hb6; clear hb6))
  go_ret
  exact ⟨rfl, L6.out⟩
/-- the law TextbufBack -/
def taffraillaw01_TextbufBack.f (a0 : ByteArray) (l1 : List S32) : Option Bool := if l1.length ≤ 1000000000000000 then some true else none
theorem taffraillaw01_TextbufBack.calls (a0 : ByteArray) (A1 : Option Addr) (c1 : Nat) (l1 : List S32) (r : Bool) (w : World) (hr1 : Kd.C k32 w A1 l1.length l1) (hc1 : l1.length ≤ c1) (h : taffraillaw01_TextbufBack.f a0 l1 = some r) :
    Calls Try.prog 3 #[.string a0, .slice A1 l1.length c1] w fun e w' => e = .returned (.bool r) ∧ Below w.heap.size w w' := by
  unfold taffraillaw01_TextbufBack.f at h
  split at h
  · rename_i hll
    obtain rfl := Option.some.inj h
    by_cases hs : a0.size ≤ 65536
    · exact back_go a0 A1 c1 l1 w hs hr1 hc1 hll
    · exact back_big a0 A1 c1 l1 w (by omega)
  · cases h
end Go.Proofs.Ytkeicfbjijnhnaa.P
