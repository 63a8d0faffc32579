/- The reference's put and Cover. -/
import Derived.Test.YtdciombpffkcjaaCov3
import Derived.Test.YtdciombpffkcjaaHandData
namespace Go.Proofs.Ytdciombpffkcjaa.P
open Go.RowKit Go.Proofs.YtdciombpffkcjaaW.PrintWords Go.Proofs.YtdciombpffkcjaaW.PrintLast Go.Proofs.YtdciombpffkcjaaW.PrintMore Go.Proofs.Ytdciombpffkcjaa.Blk
set_option linter.unusedVariables false
set_option linter.unusedSimpArgs false
attribute [local go_sem] max2_int min2_int max_two min_two max_three min_three max_four min_four
def putR (xs : List S42) (fr up cl : Int) : List S42 :=
  if up ≤ fr then xs else if xs ≠ [] ∧ cl = 1 ∧ (lastP xs).f1 = 1 then longer xs up else xs ++ [⟨⟨fr, up⟩, cl⟩]
theorem putX_R (xs : List S42) (a u c : Int) : (putX xs a u c).1 = putR xs a u c := by
  unfold putX putR
  split
  · rfl
  · split <;> rfl
abbrev Pcs (x : S42) (cs : List Value) : Prop := cs = [Value.int .i64 x.f0.f0, Value.int .i64 x.f0.f1, Value.int .i64 x.f1]
theorem part_rows {W : World} {A : Option Addr} {n : Nat} {xs : List S42} (h : Kd.C k42 W A n xs) : ReadsRow Pcs k42.sz W A n xs := ReadsRow.imp_ h (Below.refl _ _) (fun _ _ h => k42_open h)
section
variable {w0 W : World} {xs : List S42}
set_option maxRecDepth 100000 in
set_option maxHeartbeats 2000000 in
theorem putr_calls (A : Option Addr) (n c : Nat) (fr up cl : Int) (h : Kd.R k42 42 W w0.heap.size (fun _ => True) (.slice A n c) xs) (hw : Below w0.heap.size w0 W) (hl : xs.length ≤ 100000) : Calls Try.prog 20 #[.slice A n c, .int .i64 fr, .int .i64 up, .int .i64 cl] W fun e w' =>
    ∃ v, e = .returned v ∧ Kd.R k42 42 w' w0.heap.size (fun _ => True) v (putR xs fr up cl) ∧ Below W.heap.size W w' := by
  have HR := Aside0.mk h
  have HW := Aside0.mk hw
  obtain ⟨hn, hnc, hC⟩ := Kd.R_reads' h
  have HROW := Aside0.mk (show ReadsRow Pcs k42.sz W A n xs by rw [hn]; exact part_rows (by first | exact hC | (rw [← hn]; exact hC)))
  have HN := Aside0.mk hn
  by_cases hup : up ≤ fr
  · have e : putR xs fr up cl = xs := if_pos hup
    rw [e]
    clear h hw hC hn e
    go_enter Try.func20, Try.ntmps20
    go_wp2
    go_ret
    exact ⟨_, rfl, HR.out, Below.refl _ _⟩
  · have hup' : ¬ up ≤ fr := hup
    by_cases hm : xs ≠ [] ∧ cl = 1 ∧ (lastP xs).f1 = 1
    · obtain ⟨m1, m2, m3⟩ := hm
      subst m2
      obtain ⟨k, hk⟩ : ∃ k, n = k + 1 := ⟨n - 1, by
        cases xs with
        | nil => exact absurd rfl m1
        | cons y ys =>
          simp at hn
          omega⟩
      subst hk
      have HE := Aside0.mk (show putR xs fr up 1 = longer xs up by unfold putR; rw [if_neg hup, if_pos ⟨m1, rfl, m3⟩])
      obtain ⟨r, cap, hv, hrb, hrl, _, hcap, e0, e1, e2, frz, hset⟩ := part_last h HN.out.symm
      cases hv
      rw [m3] at e2
      have HLL := Aside0.mk hl
      have hkb : k ≤ 100000 := by omega
      clear h hw hC hset e0 e1 frz hrb hrl hl hn
      go_enter Try.func20, Try.ntmps20
      go_upto_region 6 with (at_builtin; refine Kd.R_append_rows k42 (w0 := W) W.heap.size rfl (.const (.slice none 0 0)) (.tmp 33) 24 42 (.agg #[.int .i64 0, .int .i64 0, .int .i64 0]) 24 rfl Try.underlying24 inf42 rfl (by decide) (by decide) (.slice none 0 0) [] xs (some ⟨r, 0, none⟩) (k + 1) c (fun _ => True) (fun _ => False) rfl rfl (Kd.R_nil _ _ _ _ _) HROW.out (fun x cs h => by rw [show cs = _ from h]; exact k42_mkM _ _ _ _) (fun _ h => h.elim) (fun _ _ => trivial) (Below.refl _ _) (Nat.le_refl _) (by have := HLL.out; have := HN.out; simp; omega) ?_; intro v1 w1 hr1 hb1 hg1 hat1; rw [List.nil_append] at hr1; obtain ⟨r1, cap1, hv1, hrb1, hrl1, _, hcap1, f0, f1, f2, frz1, hset1⟩ := part_last hr1 HN.out.symm; subst hv1; have HF := Aside0.mk (show Kd.R k42 42 (w1.setCell ⟨r1, k * 3 + 1, none⟩ (.int .i64 up)) w0.heap.size (fun _ => True) (.slice (some ⟨r1, 0, none⟩) (k + 1) cap1) (longer xs up) ∧ Below W.heap.size W (w1.setCell ⟨r1, k * 3 + 1, none⟩ (.int .i64 up)) from ⟨Kd.R_lower (hset1 up).1 HW.out.size, hb1.setCell (p := ⟨r1, k * 3 + 1, none⟩) hrb1 _⟩); clear hr1 hb1 hg1 hat1 hset1 f0 f2)
      go_wp2
      go_ret
      rw [HE.out]
      exact ⟨_, rfl, HF.out.1, HF.out.2⟩
    · have HE := Aside0.mk (show putR xs fr up cl = xs ++ [⟨⟨fr, up⟩, cl⟩] by unfold putR; rw [if_neg hup, if_neg hm])
      have HM := Aside0.mk hm
      have HLL := Aside0.mk hl
      have N1 := Aside0.mk trivial
      clear h hw hC hm hl hn
      go_enter Try.func20, Try.ntmps20
      go_upto_region 4 with (fail)
      go_cut [32] (fun v wz => v = .bool false ∧ W = wz)
      case first =>
        by_cases hn0 : n = 0
        · subst hn0
          go_wp2
          go_meet
          case rel => exact ⟨rfl, rfl⟩
        · obtain ⟨k, hk⟩ : ∃ k, n = k + 1 := ⟨n - 1, by omega⟩
          subst hk
          obtain ⟨r, cap, hv, hrb, hrl, _, hcap, e0, e1, e2, fr', hset⟩ := part_last HR.out HN.out.symm
          cases hv
          have hkb : k ≤ 100000 := by have h1 := HLL.out; have h2 := HN.out; omega
          clear hset e0 e1 fr'
          by_cases hc1 : cl = 1
          · subst hc1
            have hl1 : ((lastP xs).f1 == 1) = false := beq_eq_false_iff_ne.mpr (fun h => HM.out ⟨by rintro rfl; have := HN.out; simp at this, rfl, h⟩)
            go_wp2
            go_meet
            case rel => exact ⟨rfl, rfl⟩
          · have hq : (cl == 1) = false := beq_eq_false_iff_ne.mpr hc1
            go_wp2
            all_goals (
              go_meet
              case rel => exact ⟨rfl, rfl⟩)
      case rest =>
        obtain ⟨rfl, rfl⟩ := hcut
        go_wp2_with (first
          | (at_builtin; (have gA := N1.out; clear gA N1); refine Kd.R_append_rows k42 (w0 := W) W.heap.size rfl (.const (.slice none 0 0)) (.tmp 43) 24 42 (.agg #[.int .i64 0, .int .i64 0, .int .i64 0]) 24 rfl Try.underlying24 inf42 rfl (by decide) (by decide) (.slice none 0 0) [] xs A n c (fun _ => True) (fun _ => False) rfl rfl (Kd.R_nil _ _ _ _ _) HROW.out (fun x cs h => by rw [show cs = _ from h]; exact k42_mkM _ _ _ _) (fun _ h => h.elim) (fun _ _ => trivial) (Below.refl _ _) (Nat.le_refl _) (by have := HLL.out; have := HN.out; simp; omega) ?_; intro v1 w1 hr1 hb1 hg1 hat1; rw [List.nil_append] at hr1; have HR1 := Aside0.mk hr1; have HB1 := Aside0.mk hb1; clear hr1 hb1 hg1 hat1)
          | (at_builtin; refine Kd.R_append_rows k42 (Rr := Pcs) (w0 := W) W.heap.size rfl (.tmp 44) (.tmp 50) 24 42 (.agg #[.int .i64 0, .int .i64 0, .int .i64 0]) 24 rfl Try.underlying24 inf42 rfl (by decide) (by decide) v1 xs [⟨⟨fr, up⟩, cl⟩] (some ⟨w1.heap.size, 0, none⟩) 1 1 (fun _ => True) (fun _ => False) rfl rfl (Kd.R_alloc HR1.out _) (part_row (Blk.new _ _ _)) (fun x cs h => by rw [show cs = _ from h]; exact k42_mkM _ _ _ _) (fun _ h => h.elim) (fun _ _ => trivial) (HB1.out.alloc HB1.out.size _) (by have := HB1.out.size; simp; omega) (by have := HLL.out; omega) ?_; intro v2 w2 hr2 hb2 hg2 hat2; have HR2 := Aside0.mk hr2; have HB2 := Aside0.mk hb2; clear hr2 hb2 hg2 hat2))
        go_ret
        rw [HE.out]
        exact ⟨_, rfl, Kd.R_lower HR2.out HW.out.size, HB2.out⟩
end
set_option linter.unusedVariables false
set_option linter.unusedSimpArgs false
attribute [local go_sem] max2_int min2_int max_two min_two max_three min_three max_four min_four
theorem putR_len (xs : List S42) (a u c : Int) : (putR xs a u c).length ≤ xs.length + 1 := by
  rw [← putX_R]
  exact putX_len xs a u c
/-- one token more -/
def stepR (n : Int) (c : List S42 × Int) (t : S39) : List S42 × Int :=
  if cls t = 0 ∨ min t.f6.f1 n ≤ max t.f6.f0 c.2 then c else (putR (putR c.1 c.2 (max t.f6.f0 c.2) 2) (max t.f6.f0 c.2) (min t.f6.f1 n) (cls t), min t.f6.f1 n)
theorem stepR_len (n : Int) (c : List S42 × Int) (t : S39) : (stepR n c t).1.length ≤ c.1.length + 2 := by
  unfold stepR
  split
  · omega
  · have h1 := putR_len c.1 c.2 (max t.f6.f0 c.2) 2
    have h2 := putR_len (putR c.1 c.2 (max t.f6.f0 c.2) 2) (max t.f6.f0 c.2) (min t.f6.f1 n) (cls t)
    simp only
    omega
def csR (n : Int) (l : List S39) (k : Nat) : List S42 × Int := (l.take k).foldl (stepR n) ([], 0)
theorem csR_step (n : Int) (l : List S39) (k : Nat) (x : S39) (hk : l[k]? = some x) : csR n l (k + 1) = stepR n (csR n l k) x := by
  unfold csR
  rw [List.take_add_one, hk]
  simp
theorem csR_len (n : Int) (l : List S39) : ∀ k, (csR n l k).1.length ≤ 2 * k := by
  intro k
  induction k with
  | zero => simp [csR]
  | succ k ih =>
    cases h : l[k]? with
    | some x =>
      rw [csR_step n l k x h]
      have := stepR_len n (csR n l k) x
      omega
    | none =>
      have : csR n l (k + 1) = csR n l k := by
        unfold csR
        rw [List.take_add_one, h]
        simp
      rw [this]
      omega
def covR (l : List S39) (n : Int) : List S42 := putR (csR (max n 0) l l.length).1 (csR (max n 0) l l.length).2 (max n 0) 2
/-- what stands between two tokens -/
structure CovR (w wr : World) (v : Value) (xs : List S42) : Prop where
  r : Kd.R k42 42 wr w.heap.size (fun _ => True) v xs
  b : Below w.heap.size w wr
theorem CovR.below {w wr w' : World} {v : Value} {xs : List S42} (h : CovR w wr v xs) (hb : Below wr.heap.size wr w') : CovR w w' v xs := ⟨Kd.R_below h.r hb, below_then h.b h.b.size hb⟩
def taffrailref12_Cover.f (l : List S39) (n : Int) : Option (List S42) := if l.length ≤ 40000 then some (covR l n) else none
set_option maxRecDepth 100000 in
set_option maxHeartbeats 2000000 in
theorem coverR_calls (A0 : Option Addr) (c0 : Nat) (l : List S39) (n : Int) (w : World) (hr0 : Kd.C k39 w A0 l.length l) (hc0 : l.length ≤ c0) (hl : l.length ≤ 40000) :
    Calls Try.prog 10 #[.slice A0 l.length c0, .int .i64 n] w fun e w' => ∃ v, e = .returned v ∧ Kd.R k42 42 w' w.heap.size (fun _ => True) v (covR l n) ∧ Below w.heap.size w w' := by
  have HR := Aside0.mk hr0
  obtain ⟨N, hN⟩ : ∃ N, max n 0 = N := ⟨_, rfl⟩
  have hcov : covR l n = putR (csR N l l.length).1 (csR N l l.length).2 N 2 := by unfold covR; rw [hN]
  rw [hcov]
  have HC0 := Aside0.mk (show CovR w w (.slice none 0 0) (csR N l 0).1 from ⟨Kd.R_nil _ _ _ _ _, Below.refl _ _⟩)
  clear hr0 hcov
  go_enter Try.func10, Try.ntmps10
  go_upto_region 1 with (fail)
  go_cut [1] (fun v wz => v = .int .i64 N ∧ w = wz)
  case first =>
    go_wp2
    all_goals (
      go_meet
      case rel => exact ⟨by congr 1; omega, rfl⟩)
  case rest =>
    obtain ⟨rfl, rfl⟩ := hcut
    go_upto_region 5 with (fail)
    go_loopw [5, 6, 7, 8, 9, 10] (fun v5 v6 v7 v8 v9 v10 wr => ∃ k : Nat, k ≤ l.length ∧ v7 = .int .i64 (k : Int) ∧ v6 = .int .i64 (csR N l k).2 ∧ Aside0 (CovR w wr v5 (csR N l k).1)) (fun _ _ v7 _ _ _ _ => l.length - (intOf v7).toNat)
    case atStart => exact ⟨0, Nat.zero_le _, rfl, rfl, HC0⟩
    case round =>
      obtain ⟨k, hk, rfl, rfl, HK⟩ := hrel
      clear HC0
      by_cases hlt : k < l.length
      · have hlt' : (k : Int) < l.length := by omega
        have hCw := Kd.C_below HR.out HK.out.b
        obtain ⟨ad, A4, c4, rfl, e0, e1, e2, e3, e4, e5, e6, e7, hl4, hC4⟩ := at_T39 hCw (k : Int) (by omega) hlt'
        simp only [Int.toNat_natCast] at e0 e1 e2 e3 e4 e5 e6 e7
        have hxl : l[k]? = some (rd_T39 l (k : Int)) := by
          unfold rd_T39
          rw [Int.toNat_natCast, List.getD_eq_getElem?_getD, List.getElem?_eq_getElem hlt]
          rfl
        obtain ⟨x, hx⟩ : ∃ x, rd_T39 l (k : Int) = x := ⟨_, rfl⟩
        rw [hx] at e0 e1 e2 e3 e4 e5 e6 e7 hxl
        have hst := csR_step N l k x hxl
        have hlen := csR_len N l k
        obtain ⟨c, hc⟩ : ∃ c, csR N l k = c := ⟨_, rfl⟩
        rw [hc] at hst hlen HK ⊢
        have HST := Aside0.mk hst
        have HLN := Aside0.mk (show c.1.length ≤ 80000 by omega)
        obtain ⟨n4, hn4⟩ : ∃ n4, x.f4.length = n4 := ⟨_, rfl⟩
        rw [hn4] at e4
        obtain ⟨Av, cv, hv⟩ := Kd.R_slice HK.out.r
        subst hv
        obtain ⟨nv, hnv⟩ : ∃ nv, c.1.length = nv := ⟨_, rfl⟩
        rw [hnv] at HK ⊢
        clear hx hxl hst hlen hc hl4 hC4 hCw hn4 hnv
        go_upto_region 8 with (go_at_call 19; refine (class_ref x A4 c4 n4 _).mono ?_; rintro e w2 ⟨rfl, hb2⟩; have K2 := Aside0.mk (HK.out.below hb2); have B2 := Aside0.mk hb2; clear hb2)
        have z6 := pw_cell_below B2.out e6
        have z7 := pw_cell_below B2.out e7
        obtain ⟨C, hC⟩ : ∃ C, cls x = C := ⟨_, rfl⟩
        obtain ⟨T, hT⟩ : ∃ T, min x.f6.f1 N = T := ⟨_, rfl⟩
        obtain ⟨M, hM⟩ : ∃ M, max x.f6.f0 c.2 = M := ⟨_, rfl⟩
        rw [hC]
        have hM2 : (if x.f6.f0 < c.2 then c.2 else x.f6.f0) = M := by
          rw [← hM]
          split <;> omega
        have hT2 : (if N < x.f6.f1 then N else x.f6.f1) = T := by
          rw [← hT]
          split <;> omega
        have HS1 := Aside0.mk (show C = 0 ∨ T ≤ M → stepR N c x = c by
          intro h
          unfold stepR
          rw [if_pos (by rw [hC, hT, hM]; exact h)])
        have HS2 := Aside0.mk (show ¬ (C = 0 ∨ T ≤ M) → stepR N c x = (putR (putR c.1 c.2 M 2) M T C, T) by
          intro h
          unfold stepR
          rw [if_neg (by rw [hC, hT, hM]; exact h), hC, hT, hM])
        have hl1 : l.length ≤ c0 := hc0
        have hk0 : (0 : Int) ≤ k := by omega
        clear hC hT hM e0 e1 e2 e3 e4 e5 e6 e7 HK
        go_region_held3 (fun w' => w'.cell? ⟨(ad.add (k * 8)).block, (ad.add (k * 8)).off + 6, none⟩ = some (.int .i64 x.f6.f0) ∧ w'.cell? ⟨(ad.add (k * 8)).block, (ad.add (k * 8)).off + 7, none⟩ = some (.int .i64 x.f6.f1)) (go_keep) (fail)
        all_goals (
          have K3 := Aside0.mk (K2.out.below (below_drew1 (Below.refl _ _)))
          clear z6 z7 hM2 hT2 K2 B2
          by_cases hcc : C = 0 ∨ T ≤ M
          · have KF := Aside0.mk (show CovR w w2.drew (.slice Av nv cv) (csR N l (k + 1)).1 by
              rw [HST.out, HS1.out hcc]
              exact K3.out)
            have KV := Aside0.mk (show c.2 = (csR N l (k + 1)).2 by rw [HST.out, HS1.out hcc])
            by_cases hc0' : C = 0
            · subst hc0'
              clear hcc
              go_wp2
              go_roundw
              case rel => first | exact ⟨k + 1, by omega, by go_num, (by rw [← KV.out]), KF⟩ | ((repeat apply Exists.intro); exact ⟨⟨k + 1, by omega, by go_num, (by rw [← KV.out]), KF⟩, rfl⟩)
              case measure => (first | (show l.length - (wrap64 ((k:Int)+1)).toNat < l.length - ((k:Int)).toNat; rw [wrap_id _ (by omega) (by omega)]; omega) | (show l.length - ((k:Int)+1).toNat < l.length - ((k:Int)).toNat; omega))
            · have ht : T ≤ M := by
                rcases hcc with h | h
                · exact absurd h hc0'
                · exact h
              have hq0 : (C == 0) = false := beq_eq_false_iff_ne.mpr hc0'
              clear hcc
              go_wp2
              go_roundw
              case rel => first | exact ⟨k + 1, by omega, by go_num, (by rw [← KV.out]), KF⟩ | ((repeat apply Exists.intro); exact ⟨⟨k + 1, by omega, by go_num, (by rw [← KV.out]), KF⟩, rfl⟩)
              case measure => (first | (show l.length - (wrap64 ((k:Int)+1)).toNat < l.length - ((k:Int)).toNat; rw [wrap_id _ (by omega) (by omega)]; omega) | (show l.length - ((k:Int)+1).toNat < l.length - ((k:Int)).toNat; omega))
          · have hq0 : (C == 0) = false := beq_eq_false_iff_ne.mpr (fun h => hcc (.inl h))
            have ht : ¬ T ≤ M := fun h => hcc (.inr h)
            have HS3 := Aside0.mk (HS2.out hcc)
            have N1 := Aside0.mk trivial
            have N2 := Aside0.mk trivial
            clear hcc
            go_wp2_with (first
              | (go_at_call 20; (have gA := N1.out; clear gA N1); refine (putr_calls Av nv cv c.2 M 2 K3.out.r K3.out.b (by have := HLN.out; omega)).mono ?_; rintro e w3 ⟨v3, rfl, h3, b3⟩; obtain ⟨A3, c3, e3⟩ := Kd.R_slice h3; obtain ⟨n3, hn3⟩ : ∃ n3, (putR c.1 c.2 M 2).length = n3 := ⟨_, rfl⟩; rw [hn3] at e3; subst e3; have K4 := Aside0.mk (CovR.mk h3 (below_then K3.out.b K3.out.b.size b3)); clear h3 b3 hn3)
              | (go_at_call 20; (have gA := N2.out; clear gA N2); refine (putr_calls A3 n3 c3 M T C K4.out.r K4.out.b (by have := HLN.out; have := putR_len c.1 c.2 M 2; omega)).mono ?_; rintro e w4 ⟨v4, rfl, h4, b4⟩; have KF := Aside0.mk (show CovR w w4 v4 (csR N l (k + 1)).1 by (rw [HST.out, HS3.out]; exact ⟨h4, below_then K4.out.b K4.out.b.size b4⟩)); clear h4 b4))
            have KV := Aside0.mk (show T = (csR N l (k + 1)).2 by rw [HST.out, HS3.out])
            go_roundw
            case rel => first | exact ⟨k + 1, by omega, by go_num, (by rw [← KV.out]), KF⟩ | ((repeat apply Exists.intro); exact ⟨⟨k + 1, by omega, by go_num, (by rw [← KV.out]), KF⟩, rfl⟩)
            case measure => (first | (show l.length - (wrap64 ((k:Int)+1)).toNat < l.length - ((k:Int)).toNat; rw [wrap_id _ (by omega) (by omega)]; omega) | (show l.length - ((k:Int)+1).toNat < l.length - ((k:Int)).toNat; omega))
        )
      · obtain rfl : k = l.length := by omega
        have HLN := Aside0.mk (show (csR N l l.length).1.length ≤ 100000 by have := csR_len N l l.length; omega)
        obtain ⟨Av, cv, hv⟩ := Kd.R_slice HK.out.r
        subst hv
        obtain ⟨nv, hnv⟩ : ∃ nv, (csR N l l.length).1.length = nv := ⟨_, rfl⟩
        rw [hnv] at HK ⊢
        clear hnv
        go_wp2_with (go_at_call 20; refine (putr_calls Av nv cv (csR N l l.length).2 N 2 HK.out.r HK.out.b HLN.out).mono ?_; rintro e w3 ⟨v3, rfl, h3, b3⟩; have K4 := Aside0.mk (CovR.mk h3 (below_then HK.out.b HK.out.b.size b3)); clear h3 b3)
        go_ret
        exact ⟨_, rfl, K4.out.r, K4.out.b⟩
theorem taffrailref12_Cover.calls (A0 : Option Addr) (c0 : Nat) (l0 : List (S39)) (a1 : Int) (r : List (S42)) (w : World) (hr0 : Kd.C k39 w A0 l0.length l0) (hc0 : l0.length ≤ c0) (h : taffrailref12_Cover.f l0 a1 = some r) :
    Calls Try.prog 10 #[.slice A0 l0.length c0, .int .i64 a1] w fun e w' => ∃ v0_ : Value, e = .returned (v0_) ∧ Kd.R k42 42 w' w.heap.size (fun _ => True) v0_ r ∧ Below w.heap.size w w' := by
  unfold taffrailref12_Cover.f at h
  split at h
  · cases h
    exact coverR_calls A0 c0 l0 a1 w hr0 hc0 (by assumption)
  · cases h
end Go.Proofs.Ytdciombpffkcjaa.P
