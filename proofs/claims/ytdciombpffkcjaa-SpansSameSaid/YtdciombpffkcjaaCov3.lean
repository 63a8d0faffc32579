/- spans' Cover. -/
import Derived.Test.YtdciombpffkcjaaCov2
namespace Go.Proofs.Ytdciombpffkcjaa.P
open Go.RowKit Go.Proofs.YtdciombpffkcjaaW.PrintWords Go.Proofs.YtdciombpffkcjaaW.PrintLast Go.Proofs.YtdciombpffkcjaaW.PrintMore Go.Proofs.Ytdciombpffkcjaa.Blk
set_option linter.unusedVariables false
set_option linter.unusedSimpArgs false
attribute [local go_sem] max2_int min2_int max_two min_two max_three min_three max_four min_four
theorem wrap_id (x : Int) (h1 : -9223372036854775808 ≤ x) (h2 : x ≤ 9223372036854775807) : wrap64 x = x := by unfold wrap64; omega
theorem putX_len (xs : List S42) (a u c : Int) : (putX xs a u c).1.length ≤ xs.length + 1 := by
  unfold putX
  split
  · simp
  · split
    · simp [longer]
    · simp
/-- one token more -/
def stepX (n : Int) (c : List S42 × Int) (t : S39) : List S42 × Int :=
  if cls t = 0 ∨ min t.f6.f1 n ≤ max t.f6.f0 c.2 then c else putX (putX c.1 c.2 t.f6.f0 2).1 (putX c.1 c.2 t.f6.f0 2).2 (min t.f6.f1 n) (cls t)
theorem stepX_len (n : Int) (c : List S42 × Int) (t : S39) : (stepX n c t).1.length ≤ c.1.length + 2 := by
  unfold stepX
  split
  · omega
  · have h1 := putX_len c.1 c.2 t.f6.f0 2
    have h2 := putX_len (putX c.1 c.2 t.f6.f0 2).1 (putX c.1 c.2 t.f6.f0 2).2 (min t.f6.f1 n) (cls t)
    omega
def csX (n : Int) (l : List S39) (k : Nat) : List S42 × Int := (l.take k).foldl (stepX n) ([], 0)
theorem csX_step (n : Int) (l : List S39) (k : Nat) (x : S39) (hk : l[k]? = some x) : csX n l (k + 1) = stepX n (csX n l k) x := by
  unfold csX
  rw [List.take_add_one, hk]
  simp
theorem csX_len (n : Int) (l : List S39) : ∀ k, (csX n l k).1.length ≤ 2 * k := by
  intro k
  induction k with
  | zero => simp [csX]
  | succ k ih =>
    cases h : l[k]? with
    | some x =>
      rw [csX_step n l k x h]
      have := stepX_len n (csX n l k) x
      omega
    | none =>
      have : csX n l (k + 1) = csX n l k := by
        unfold csX
        rw [List.take_add_one, h]
        simp
      rw [this]
      omega
def covX (l : List S39) (n : Int) : List S42 := (putX (csX (max n 0) l l.length).1 (csX (max n 0) l l.length).2 (max n 0) 2).1
theorem class17 (t : S39) (A4 : Option Addr) (c4 n4 : Nat) (w : World) (hn : t.f4.length = n4) (hC : Kd.C k97 w A4 t.f4.length t.f4) (hc : t.f4.length ≤ c4) :
    Calls Try.prog 17 #[.agg #[.int .i64 t.f0, .int .i64 t.f1, .string t.f2, .string t.f3, .slice A4 n4 c4, .bool t.f5, .int .i64 t.f6.f0, .int .i64 t.f6.f1]] w fun e w' => e = .returned (.int .i64 (cls t)) ∧ Below w.heap.size w w' := by
  subst hn
  exact tokens_Class.calls 1 t.f0 t.f1 t.f2 t.f3 A4 c4 t.f4 t.f5 t.f6.f0 t.f6.f1 (cls t) w hC hc (class_f t)
def spans_Cover.f (l : List S39) (n : Int) : Option (List S42) := if l.length ≤ 40000 then some (covX l n) else none
set_option maxRecDepth 100000 in
set_option maxHeartbeats 2000000 in
theorem cover_calls (A0 : Option Addr) (c0 : Nat) (l : List S39) (n : Int) (w : World) (hr0 : Kd.C k39 w A0 l.length l) (hc0 : l.length ≤ c0) (hl : l.length ≤ 40000) :
    Calls Try.prog 8 #[.slice A0 l.length c0, .int .i64 n] w fun e w' => ∃ v, e = .returned v ∧ Kd.R k42 42 w' w.heap.size (fun _ => True) v (covX l n) ∧ Below w.heap.size w w' := by
  have HR := Aside0.mk hr0
  obtain ⟨N, hN⟩ : ∃ N, max n 0 = N := ⟨_, rfl⟩
  have hcov : covX l n = (putX (csX N l l.length).1 (csX N l l.length).2 N 2).1 := by unfold covX; rw [hN]
  rw [hcov]
  have HC0 := Aside0.mk (show CovAt w (w.alloc (.cells #[.slice none 0 0, .int .i64 0] 45)) w.heap.size (csX N l 0).1 (csX N l 0).2 from
    ⟨_, Blk.new _ _ _, Kd.R_nil _ _ _ _ _, Nat.le_refl _, below_alloc (Below.refl _ _) _⟩)
  clear hr0 hcov
  go_enter Try.func8, Try.ntmps8
  go_upto_region 2 with (fail)
  obtain ⟨W1, hW1⟩ : ∃ W1, w.alloc (.cells #[.slice none 0 0, .int .i64 0] 45) = W1 := ⟨_, rfl⟩
  rw [hW1] at HC0 ⊢
  clear hW1
  go_cut [1] (fun v wz => v = .int .i64 N ∧ W1 = wz)
  case first =>
    go_wp2
    all_goals (
      go_meet
      case rel => exact ⟨by congr 1; omega, rfl⟩)
  case rest =>
    obtain ⟨rfl, rfl⟩ := hcut
    go_upto_region 4 with (fail)
    go_loopw [7, 8, 9, 16] (fun v7 v8 v9 v16 wr => ∃ k : Nat, k ≤ l.length ∧ v16 = .int .i64 (k : Int) ∧ Aside0 (CovAt w wr w.heap.size (csX N l k).1 (csX N l k).2)) (fun _ _ _ v16 _ => l.length - (intOf v16).toNat)
    case atStart => exact ⟨0, Nat.zero_le _, rfl, HC0⟩
    case round =>
      obtain ⟨k, hk, rfl, HK⟩ := hrel
      clear HC0
      by_cases hlt : k < l.length
      · have hlt' : (k : Int) < l.length := by omega
        have hbw : Below w.heap.size w wr := by
          obtain ⟨vl, _, _, _, h4⟩ := HK.out
          exact h4
        have HBW := Aside0.mk hbw
        have hCw := Kd.C_below HR.out hbw
        obtain ⟨ad, A4, c4, rfl, e0, e1, e2, e3, e4, e5, e6, e7, hl4, hC4⟩ := at_T39 hCw (k : Int) (by omega) hlt'
        simp only [Int.toNat_natCast] at e0 e1 e2 e3 e4 e5 e6 e7
        have hxl : l[k]? = some (rd_T39 l (k : Int)) := by
          unfold rd_T39
          rw [Int.toNat_natCast, List.getD_eq_getElem?_getD, List.getElem?_eq_getElem hlt]
          rfl
        obtain ⟨x, hx⟩ : ∃ x, rd_T39 l (k : Int) = x := ⟨_, rfl⟩
        rw [hx] at e0 e1 e2 e3 e4 e5 e6 e7 hxl hl4 hC4
        have hst := csX_step N l k x hxl
        have hlen := csX_len N l k
        obtain ⟨c, hc⟩ : ∃ c, csX N l k = c := ⟨_, rfl⟩
        rw [hc] at hst hlen HK
        have HST := Aside0.mk hst
        have HLN := Aside0.mk (show c.1.length ≤ 80000 by omega)
        have HC4 := Aside0.mk hC4
        have HL4 := Aside0.mk hl4
        obtain ⟨n4, hn4⟩ : ∃ n4, x.f4.length = n4 := ⟨_, rfl⟩
        rw [hn4] at e4
        have HN4 := Aside0.mk hn4
        clear hx hxl hst hlen hc hl4 hC4 hCw hbw hn4
        go_upto_region 6 with (fail)
        obtain ⟨Wb, hWb⟩ : ∃ Wb, wr.alloc (.cells #[.int .i64 x.f0, .int .i64 x.f1, .string x.f2, .string x.f3, .slice A4 n4 c4, .bool x.f5, .int .i64 x.f6.f0, .int .i64 x.f6.f1] 39) = Wb := ⟨_, rfl⟩
        have hba := below_alloc (Below.refl wr.heap.size wr) (.cells #[.int .i64 x.f0, .int .i64 x.f1, .string x.f2, .string x.f3, .slice A4 n4 c4, .bool x.f5, .int .i64 x.f6.f0, .int .i64 x.f6.f1] 39)
        have hbb := Blk.new wr 39 #[.int .i64 x.f0, .int .i64 x.f1, .string x.f2, .string x.f3, .slice A4 n4 c4, .bool x.f5, .int .i64 x.f6.f0, .int .i64 x.f6.f1]
        rw [hWb] at hba hbb ⊢
        have KB := Aside0.mk (HK.out.below hba)
        have BB := Aside0.mk hbb
        have CB := Aside0.mk (Kd.C_below HC4.out hba)
        have y0 := hbb.cell 0
        have y1 := hbb.cell 1
        have y2 := hbb.cell 2
        have y3 := hbb.cell 3
        have y4 := hbb.cell 4
        have y5 := hbb.cell 5
        have y6 := hbb.cell 6
        have y7 := hbb.cell 7
        clear hWb hba hbb e0 e1 e2 e3 e4 e5 e6 e7 HK HC4
        go_upto_region 7 with (go_at_call 17; refine (class17 x A4 c4 n4 _ HN4.out CB.out HL4.out).mono ?_; rintro e w2 ⟨rfl, hb2⟩; replace KB := Aside0.mk (KB.out.below hb2); replace BB := Aside0.mk (BB.out.below hb2 BB.out.lt); clear hb2 y0 y1 y2 y3 y4 y5 y6 y7 CB)
        have y6 := BB.out.cell 6
        have y7 := BB.out.cell 7
        obtain ⟨C, hC⟩ : ∃ C, cls x = C := ⟨_, rfl⟩
        obtain ⟨T, hT⟩ : ∃ T, min x.f6.f1 N = T := ⟨_, rfl⟩
        rw [hC]
        have HCL := Aside0.mk hC
        have HT := Aside0.mk hT
        clear hC hT
        go_cut [9] (fun v wz => v = .int .i64 T ∧ w2 = wz)
        case first =>
          go_wp2
          all_goals (
            go_meet
            case rel => exact ⟨by rw [← HT.out]; congr 1; omega, rfl⟩)
        case rest =>
          obtain ⟨rfl, rfl⟩ := hcut
          obtain ⟨vl, B2, R2, G2, L2⟩ := KB.out
          have a1 : w2.cell? ⟨w.heap.size, 1, none⟩ = some (.int .i64 c.2) := B2.cell 1
          clear B2 R2 G2 L2
          have HS1 := Aside0.mk (show C = 0 ∨ T ≤ max x.f6.f0 c.2 → stepX N c x = c by
            intro h
            unfold stepX
            rw [if_pos (by rw [HCL.out, HT.out]; exact h)])
          have HS2 := Aside0.mk (show ¬ (C = 0 ∨ T ≤ max x.f6.f0 c.2) → stepX N c x = putX (putX c.1 c.2 x.f6.f0 2).1 (putX c.1 c.2 x.f6.f0 2).2 T C by
            intro h
            unfold stepX
            rw [if_neg (by rw [HCL.out, HT.out]; exact h), HCL.out, HT.out])
          go_upto_region 8 with (fail)
          by_cases hc0' : C = 0
          · subst hc0'
            go_quiet (fail)
            have KF := Aside0.mk (show CovAt w (w2.drewN nq) w.heap.size (csX N l (k + 1)).1 (csX N l (k + 1)).2 by
              rw [HST.out, HS1.out (.inl rfl)]
              exact KB.out.below (pw_below_drewN (Below.refl _ _) _))
            go_wp2
            go_roundw
            case rel => first | exact ⟨k + 1, by omega, by go_num, KF⟩ | ((repeat apply Exists.intro); exact ⟨⟨k + 1, by omega, by go_num, KF⟩, rfl⟩)
            case measure => (first | (show l.length - (wrap64 ((k:Int)+1)).toNat < l.length - ((k:Int)).toNat; rw [wrap_id _ (by omega) (by omega)]; omega) | (show l.length - ((k:Int)+1).toNat < l.length - ((k:Int)).toNat; omega))
          · have hq0 : (C == 0) = false := beq_eq_false_iff_ne.mpr hc0'
            obtain ⟨M, hM⟩ : ∃ M, max x.f6.f0 c.2 = M := ⟨_, rfl⟩
            rw [hM] at HS1 HS2
            have hM2 : (if x.f6.f0 < c.2 then c.2 else x.f6.f0) = M := by
              rw [← hM]
              split <;> omega
            clear hM
            by_cases ht : T ≤ M
            · have hd : decide (T ≤ M) = true := decide_eq_true ht
              go_quiet (fail)
              have KF := Aside0.mk (show CovAt w (w2.drewN nq) w.heap.size (csX N l (k + 1)).1 (csX N l (k + 1)).2 by
                rw [HST.out, HS1.out (.inr ht)]
                exact KB.out.below (pw_below_drewN (Below.refl _ _) _))
              go_wp2
              go_roundw
              case rel => first | exact ⟨k + 1, by omega, by go_num, KF⟩ | ((repeat apply Exists.intro); exact ⟨⟨k + 1, by omega, by go_num, KF⟩, rfl⟩)
              case measure => (first | (show l.length - (wrap64 ((k:Int)+1)).toNat < l.length - ((k:Int)).toNat; rw [wrap_id _ (by omega) (by omega)]; omega) | (show l.length - ((k:Int)+1).toNat < l.length - ((k:Int)).toNat; omega))
            · have hd : decide (T ≤ M) = false := decide_eq_false ht
              have HS3 := Aside0.mk (HS2.out (by rintro (h | h) <;> contradiction))
              have N1 := Aside0.mk trivial
              have N2 := Aside0.mk trivial
              go_quiet (fail)
              have y6d : (w2.drewN nq).cell? ⟨wr.heap.size, 6, none⟩ = some (.int .i64 x.f6.f0) := (BB.out.drewN nq).cell 6
              have KD := Aside0.mk (KB.out.below (pw_below_drewN (Below.refl _ _) nq))
              go_wp2_with (first
                | (go_at_call 18; (have gA := N1.out; clear gA N1); refine (put_calls x.f6.f0 2 KD.out (by have := HLN.out; omega)).mono ?_; rintro e w3 ⟨rfl, h3⟩; have K3 := Aside0.mk h3; clear h3)
                | (go_at_call 18; (have gA := N2.out; clear gA N2); refine (put_calls T C K3.out (by have := HLN.out; have := putX_len c.1 c.2 x.f6.f0 2; omega)).mono ?_; rintro e w4 ⟨rfl, h4⟩; have KF := Aside0.mk (show CovAt w w4 w.heap.size (csX N l (k + 1)).1 (csX N l (k + 1)).2 by rw [HST.out, HS3.out]; exact h4); clear h4))
              go_roundw
              case rel => first | exact ⟨k + 1, by omega, by go_num, KF⟩ | ((repeat apply Exists.intro); exact ⟨⟨k + 1, by omega, by go_num, KF⟩, rfl⟩)
              case measure => (first | (show l.length - (wrap64 ((k:Int)+1)).toNat < l.length - ((k:Int)).toNat; rw [wrap_id _ (by omega) (by omega)]; omega) | (show l.length - ((k:Int)+1).toNat < l.length - ((k:Int)).toNat; omega))
      · obtain rfl : k = l.length := by omega
        have HLN := Aside0.mk (show (csX N l l.length).1.length ≤ 100000 by have := csX_len N l l.length; omega)
        go_upto_region 13 with (go_at_call 18; refine (put_calls N 2 HK.out HLN.out).mono ?_; rintro e w3 ⟨rfl, h3⟩; have K3 := Aside0.mk h3; clear h3)
        obtain ⟨vl, B2, R2, G2, L2⟩ := K3.out
        obtain ⟨A5, c5, e5⟩ := Kd.R_slice R2
        subst e5
        have a0 := B2.cell 0
        have R3 := Aside0.mk R2
        have L3 := Aside0.mk L2
        clear B2 R2 G2 L2
        go_wp2
        go_ret
        exact ⟨_, rfl, R3.out, L3.out⟩
theorem spans_Cover.calls (A0 : Option Addr) (c0 : Nat) (l0 : List (S39)) (a1 : Int) (r : List (S42)) (w : World) (hr0 : Kd.C k39 w A0 l0.length l0) (hc0 : l0.length ≤ c0) (h : spans_Cover.f l0 a1 = some r) :
    Calls Try.prog 8 #[.slice A0 l0.length c0, .int .i64 a1] w fun e w' => ∃ v0_ : Value, e = .returned (v0_) ∧ Kd.R k42 42 w' w.heap.size (fun _ => True) v0_ r ∧ Below w.heap.size w w' := by
  unfold spans_Cover.f at h
  split at h
  · cases h
    exact cover_calls A0 c0 l0 a1 w hr0 hc0 (by assumption)
  · cases h
end Go.Proofs.Ytdciombpffkcjaa.P
