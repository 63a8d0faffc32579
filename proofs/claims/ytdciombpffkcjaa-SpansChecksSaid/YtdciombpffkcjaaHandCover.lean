/- The reference's Cover. -/
import Derived.Test.YtdciombpffkcjaaCov4
import Derived.Test.YtdciombpffkcjaaHandData
namespace Go.Proofs.Ytdciombpffkcjaa.P
open Go.RowKit Go.Proofs.YtdciombpffkcjaaW.PrintWords Go.Proofs.YtdciombpffkcjaaW.PrintLast Go.Proofs.YtdciombpffkcjaaW.PrintMore Go.Proofs.Ytdciombpffkcjaa.Blk
set_option linter.unusedVariables false
set_option linter.unusedSimpArgs false
attribute [local go_sem] max2_int min2_int max_two min_two max_three min_three max_four min_four
theorem putR_len (xs : List S42) (a u c : Int) : (putR xs a u c).length ≤ xs.length + 1 := by
  rw [← putX_R]
  exact putX_len xs a u c
/-- one token more -/
def stepR (n : Int) (c : List S42 × Int) (t : S39) : List S42 × Int :=
  if cls t = 0 ∨ min t.f6.f1 n ≤ max t.f6.f0 c.2 then c else (putR (putR c.1 c.2 (max t.f6.f0 c.2) 2) (max t.f6.f0 c.2) (min t.f6.f1 n) (cls t), min t.f6.f1 n)
theorem stepR_len (n : Int) (c : List S42 × Int) (t : S39) : (stepR n c t).1.length ≤ c.1.length + 2 := by
  unfold stepR
  split
  · omega
  · have h1 := putR_len c.1 c.2 (max t.f6.f0 c.2) 2
    have h2 := putR_len (putR c.1 c.2 (max t.f6.f0 c.2) 2) (max t.f6.f0 c.2) (min t.f6.f1 n) (cls t)
    simp only
    omega
def csR (n : Int) (l : List S39) (k : Nat) : List S42 × Int := (l.take k).foldl (stepR n) ([], 0)
theorem csR_step (n : Int) (l : List S39) (k : Nat) (x : S39) (hk : l[k]? = some x) : csR n l (k + 1) = stepR n (csR n l k) x := by
  unfold csR
  rw [List.take_add_one, hk]
  simp
theorem csR_len (n : Int) (l : List S39) : ∀ k, (csR n l k).1.length ≤ 2 * k := by
  intro k
  induction k with
  | zero => simp [csR]
  | succ k ih =>
    cases h : l[k]? with
    | some x =>
      rw [csR_step n l k x h]
      have := stepR_len n (csR n l k) x
      omega
    | none =>
      have : csR n l (k + 1) = csR n l k := by
        unfold csR
        rw [List.take_add_one, h]
        simp
      rw [this]
      omega
def covR (l : List S39) (n : Int) : List S42 := putR (csR (max n 0) l l.length).1 (csR (max n 0) l l.length).2 (max n 0) 2
/-- what stands between two tokens -/
structure CovR (w wr : World) (v : Value) (xs : List S42) : Prop where
  r : Kd.R k42 42 wr w.heap.size (fun _ => True) v xs
  b : Below w.heap.size w wr
theorem CovR.below {w wr w' : World} {v : Value} {xs : List S42} (h : CovR w wr v xs) (hb : Below wr.heap.size wr w') : CovR w w' v xs := ⟨Kd.R_below h.r hb, below_then h.b h.b.size hb⟩
def taffrailref12_Cover.f (l : List S39) (n : Int) : Option (List S42) := if l.length ≤ 40000 then some (covR l n) else none
set_option maxRecDepth 100000 in
set_option maxHeartbeats 2000000 in
theorem coverR_calls (A0 : Option Addr) (c0 : Nat) (l : List S39) (n : Int) (w : World) (hr0 : Kd.C k39 w A0 l.length l) (hc0 : l.length ≤ c0) (hl : l.length ≤ 40000) :
    Calls Try.prog 10 #[.slice A0 l.length c0, .int .i64 n] w fun e w' => ∃ v, e = .returned v ∧ Kd.R k42 42 w' w.heap.size (fun _ => True) v (covR l n) ∧ Below w.heap.size w w' := by
  have HR := Aside0.mk hr0
  obtain ⟨N, hN⟩ : ∃ N, max n 0 = N := ⟨_, rfl⟩
  have hcov : covR l n = putR (csR N l l.length).1 (csR N l l.length).2 N 2 := by unfold covR; rw [hN]
  rw [hcov]
  have HC0 := Aside0.mk (show CovR w w (.slice none 0 0) (csR N l 0).1 from ⟨Kd.R_nil _ _ _ _ _, Below.refl _ _⟩)
  clear hr0 hcov
  go_enter Try.func10, Try.ntmps10
  go_upto_region 1 with (fail)
  go_cut [1] (fun v wz => v = .int .i64 N ∧ w = wz)
  case first =>
    go_wp2
    all_goals (
      go_meet
      case rel => exact ⟨by congr 1; omega, rfl⟩)
  case rest =>
    obtain ⟨rfl, rfl⟩ := hcut
    go_upto_region 5 with (fail)
    go_loopw [5, 6, 7, 8, 9, 10] (fun v5 v6 v7 v8 v9 v10 wr => ∃ k : Nat, k ≤ l.length ∧ v7 = .int .i64 (k : Int) ∧ v6 = .int .i64 (csR N l k).2 ∧ Aside0 (CovR w wr v5 (csR N l k).1)) (fun _ _ v7 _ _ _ _ => l.length - (intOf v7).toNat)
    case atStart => exact ⟨0, Nat.zero_le _, rfl, rfl, HC0⟩
    case round =>
      obtain ⟨k, hk, rfl, rfl, HK⟩ := hrel
      clear HC0
      by_cases hlt : k < l.length
      · have hlt' : (k : Int) < l.length := by omega
        have hCw := Kd.C_below HR.out HK.out.b
        obtain ⟨ad, A4, c4, rfl, e0, e1, e2, e3, e4, e5, e6, e7, hl4, hC4⟩ := at_T39 hCw (k : Int) (by omega) hlt'
        simp only [Int.toNat_natCast] at e0 e1 e2 e3 e4 e5 e6 e7
        have hxl : l[k]? = some (rd_T39 l (k : Int)) := by
          unfold rd_T39
          rw [Int.toNat_natCast, List.getD_eq_getElem?_getD, List.getElem?_eq_getElem hlt]
          rfl
        obtain ⟨x, hx⟩ : ∃ x, rd_T39 l (k : Int) = x := ⟨_, rfl⟩
        rw [hx] at e0 e1 e2 e3 e4 e5 e6 e7 hxl
        have hst := csR_step N l k x hxl
        have hlen := csR_len N l k
        obtain ⟨c, hc⟩ : ∃ c, csR N l k = c := ⟨_, rfl⟩
        rw [hc] at hst hlen HK ⊢
        have HST := Aside0.mk hst
        have HLN := Aside0.mk (show c.1.length ≤ 80000 by omega)
        obtain ⟨n4, hn4⟩ : ∃ n4, x.f4.length = n4 := ⟨_, rfl⟩
        rw [hn4] at e4
        obtain ⟨Av, cv, hv⟩ := Kd.R_slice HK.out.r
        subst hv
        obtain ⟨nv, hnv⟩ : ∃ nv, c.1.length = nv := ⟨_, rfl⟩
        rw [hnv] at HK ⊢
        clear hx hxl hst hlen hc hl4 hC4 hCw hn4 hnv
        go_upto_region 8 with (go_at_call 19; refine (class_ref x A4 c4 n4 _).mono ?_; rintro e w2 ⟨rfl, hb2⟩; have K2 := Aside0.mk (HK.out.below hb2); have B2 := Aside0.mk hb2; clear hb2)
        have z6 := pw_cell_below B2.out e6
        have z7 := pw_cell_below B2.out e7
        obtain ⟨C, hC⟩ : ∃ C, cls x = C := ⟨_, rfl⟩
        obtain ⟨T, hT⟩ : ∃ T, min x.f6.f1 N = T := ⟨_, rfl⟩
        obtain ⟨M, hM⟩ : ∃ M, max x.f6.f0 c.2 = M := ⟨_, rfl⟩
        rw [hC]
        have hM2 : (if x.f6.f0 < c.2 then c.2 else x.f6.f0) = M := by
          rw [← hM]
          split <;> omega
        have hT2 : (if N < x.f6.f1 then N else x.f6.f1) = T := by
          rw [← hT]
          split <;> omega
        have HS1 := Aside0.mk (show C = 0 ∨ T ≤ M → stepR N c x = c by
          intro h
          unfold stepR
          rw [if_pos (by rw [hC, hT, hM]; exact h)])
        have HS2 := Aside0.mk (show ¬ (C = 0 ∨ T ≤ M) → stepR N c x = (putR (putR c.1 c.2 M 2) M T C, T) by
          intro h
          unfold stepR
          rw [if_neg (by rw [hC, hT, hM]; exact h), hC, hT, hM])
        have hl1 : l.length ≤ c0 := hc0
        have hk0 : (0 : Int) ≤ k := by omega
        clear hC hT hM e0 e1 e2 e3 e4 e5 e6 e7 HK
        go_region_held3 (fun w' => w'.cell? ⟨(ad.add (k * 8)).block, (ad.add (k * 8)).off + 6, none⟩ = some (.int .i64 x.f6.f0) ∧ w'.cell? ⟨(ad.add (k * 8)).block, (ad.add (k * 8)).off + 7, none⟩ = some (.int .i64 x.f6.f1)) (go_keep) (fail)
        all_goals (
          have K3 := Aside0.mk (K2.out.below (below_drew1 (Below.refl _ _)))
          clear z6 z7 hM2 hT2 K2 B2
          by_cases hcc : C = 0 ∨ T ≤ M
          · have KF := Aside0.mk (show CovR w w2.drew (.slice Av nv cv) (csR N l (k + 1)).1 by
              rw [HST.out, HS1.out hcc]
              exact K3.out)
            have KV := Aside0.mk (show c.2 = (csR N l (k + 1)).2 by rw [HST.out, HS1.out hcc])
            by_cases hc0' : C = 0
            · subst hc0'
              clear hcc
              go_wp2
              go_roundw
              case rel => first | exact ⟨k + 1, by omega, by go_num, (by rw [← KV.out]), KF⟩ | ((repeat apply Exists.intro); exact ⟨⟨k + 1, by omega, by go_num, (by rw [← KV.out]), KF⟩, rfl⟩)
              case measure => (first | (show l.length - (wrap64 ((k:Int)+1)).toNat < l.length - ((k:Int)).toNat; rw [wrap_id _ (by omega) (by omega)]; omega) | (show l.length - ((k:Int)+1).toNat < l.length - ((k:Int)).toNat; omega))
            · have ht : T ≤ M := by
                rcases hcc with h | h
                · exact absurd h hc0'
                · exact h
              have hq0 : (C == 0) = false := beq_eq_false_iff_ne.mpr hc0'
              clear hcc
              go_wp2
              go_roundw
              case rel => first | exact ⟨k + 1, by omega, by go_num, (by rw [← KV.out]), KF⟩ | ((repeat apply Exists.intro); exact ⟨⟨k + 1, by omega, by go_num, (by rw [← KV.out]), KF⟩, rfl⟩)
              case measure => (first | (show l.length - (wrap64 ((k:Int)+1)).toNat < l.length - ((k:Int)).toNat; rw [wrap_id _ (by omega) (by omega)]; omega) | (show l.length - ((k:Int)+1).toNat < l.length - ((k:Int)).toNat; omega))
          · have hq0 : (C == 0) = false := beq_eq_false_iff_ne.mpr (fun h => hcc (.inl h))
            have ht : ¬ T ≤ M := fun h => hcc (.inr h)
            have HS3 := Aside0.mk (HS2.out hcc)
            have N1 := Aside0.mk trivial
            have N2 := Aside0.mk trivial
            clear hcc
            go_wp2_with (first
              | (go_at_call 20; (have gA := N1.out; clear gA N1); refine (putr_calls Av nv cv c.2 M 2 K3.out.r K3.out.b (by have := HLN.out; omega)).mono ?_; rintro e w3 ⟨v3, rfl, h3, b3⟩; obtain ⟨A3, c3, e3⟩ := Kd.R_slice h3; obtain ⟨n3, hn3⟩ : ∃ n3, (putR c.1 c.2 M 2).length = n3 := ⟨_, rfl⟩; rw [hn3] at e3; subst e3; have K4 := Aside0.mk (CovR.mk h3 (below_then K3.out.b K3.out.b.size b3)); clear h3 b3 hn3)
              | (go_at_call 20; (have gA := N2.out; clear gA N2); refine (putr_calls A3 n3 c3 M T C K4.out.r K4.out.b (by have := HLN.out; have := putR_len c.1 c.2 M 2; omega)).mono ?_; rintro e w4 ⟨v4, rfl, h4, b4⟩; have KF := Aside0.mk (show CovR w w4 v4 (csR N l (k + 1)).1 by (rw [HST.out, HS3.out]; exact ⟨h4, below_then K4.out.b K4.out.b.size b4⟩)); clear h4 b4))
            have KV := Aside0.mk (show T = (csR N l (k + 1)).2 by rw [HST.out, HS3.out])
            go_roundw
            case rel => first | exact ⟨k + 1, by omega, by go_num, (by rw [← KV.out]), KF⟩ | ((repeat apply Exists.intro); exact ⟨⟨k + 1, by omega, by go_num, (by rw [← KV.out]), KF⟩, rfl⟩)
            case measure => (first | (show l.length - (wrap64 ((k:Int)+1)).toNat < l.length - ((k:Int)).toNat; rw [wrap_id _ (by omega) (by omega)]; omega) | (show l.length - ((k:Int)+1).toNat < l.length - ((k:Int)).toNat; omega))
        )
      · obtain rfl : k = l.length := by omega
        have HLN := Aside0.mk (show (csR N l l.length).1.length ≤ 100000 by have := csR_len N l l.length; omega)
        obtain ⟨Av, cv, hv⟩ := Kd.R_slice HK.out.r
        subst hv
        obtain ⟨nv, hnv⟩ : ∃ nv, (csR N l l.length).1.length = nv := ⟨_, rfl⟩
        rw [hnv] at HK ⊢
        clear hnv
        go_wp2_with (go_at_call 20; refine (putr_calls Av nv cv (csR N l l.length).2 N 2 HK.out.r HK.out.b HLN.out).mono ?_; rintro e w3 ⟨v3, rfl, h3, b3⟩; have K4 := Aside0.mk (CovR.mk h3 (below_then HK.out.b HK.out.b.size b3)); clear h3 b3)
        go_ret
        exact ⟨_, rfl, K4.out.r, K4.out.b⟩
theorem taffrailref12_Cover.calls (A0 : Option Addr) (c0 : Nat) (l0 : List (S39)) (a1 : Int) (r : List (S42)) (w : World) (hr0 : Kd.C k39 w A0 l0.length l0) (hc0 : l0.length ≤ c0) (h : taffrailref12_Cover.f l0 a1 = some r) :
    Calls Try.prog 10 #[.slice A0 l0.length c0, .int .i64 a1] w fun e w' => ∃ v0_ : Value, e = .returned (v0_) ∧ Kd.R k42 42 w' w.heap.size (fun _ => True) v0_ r ∧ Below w.heap.size w w' := by
  unfold taffrailref12_Cover.f at h
  split at h
  · cases h
    exact coverR_calls A0 c0 l0 a1 w hr0 hc0 (by assumption)
  · cases h
end Go.Proofs.Ytdciombpffkcjaa.P
