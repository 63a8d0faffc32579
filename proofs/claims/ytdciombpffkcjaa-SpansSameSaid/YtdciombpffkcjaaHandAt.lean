/- spans' At: a class by its byte. -/
import Derived.Test.YtdciombpffkcjaaTok4
import Derived.Test.YtdciombpffkcjaaTok1
namespace Go.Proofs.Ytdciombpffkcjaa.P
open Go.RowKit Go.Proofs.YtdciombpffkcjaaW.PrintWords Go.Proofs.YtdciombpffkcjaaW.PrintLast Go.Proofs.YtdciombpffkcjaaW.PrintMore Go.Proofs.Ytdciombpffkcjaa.Blk
set_option linter.unusedVariables false
set_option linter.unusedSimpArgs false
theorem wrap_idA (x : Int) (h1 : -9223372036854775808 ≤ x) (h2 : x ≤ 9223372036854775807) : wrap64 x = x := by unfold wrap64; omega
/-- does a part have a byte? -/
def hasB (p : S42) (at_ : Int) : Bool := decide (p.f0.f0 ≤ at_) && decide (at_ < p.f0.f1)
set_option maxRecDepth 100000 in
theorem at1_calls (p : S42) (at_ : Int) (b : Addr) (w : World) (hc : w.cell? b = some (.int .i64 at_)) :
    Calls Try.prog 22 #[.agg #[.int .i64 p.f0.f0, .int .i64 p.f0.f1, .int .i64 p.f1], .pointer (some b)] w fun e w' => e = .returned (.bool (hasB p at_)) ∧ Below w.heap.size w w' := by
  have hba := below_alloc (Below.refl w.heap.size w) (.cells #[.int .i64 p.f0.f0, .int .i64 p.f0.f1, .int .i64 p.f1] 42)
  have c1 := pw_cell_below hba hc
  have HB := Aside0.mk hba
  obtain ⟨r, hr⟩ : ∃ r, hasB p at_ = r := ⟨_, rfl⟩
  rw [hr]
  have HR := Aside0.mk hr
  clear hba hr
  go_enter Try.func22, Try.ntmps22
  go_wp2
  all_goals (
    go_ret
    refine ⟨?_, HB.out⟩
    rw [← HR.out]
    unfold hasB
    congr 2
    simp_all <;> omega)
/-- the first part that has a byte: its place, or how many there are -/
def idxB (l : List S42) (at_ : Int) : Nat := l.findIdx (fun p => hasB p at_)
set_option maxRecDepth 100000 in
set_option maxHeartbeats 1000000 in
theorem index_calls (A0 : Option Addr) (c0 : Nat) (l : List S42) (at_ : Int) (b : Addr) (w : World) (hC : Kd.C k42 w A0 l.length l) (hl : l.length ≤ 1000000000000000) (hc : w.cell? b = some (.int .i64 at_)) :
    Calls Try.prog 21 #[.slice A0 l.length c0, .func (.func 22) #[] #[.pointer (some b)]] w fun e w' => e = .returned (.int .i64 (if idxB l at_ < l.length then (idxB l at_ : Int) else -1)) ∧ Below w.heap.size w w' := by
  have HC := Aside0.mk hC
  have HB := Aside0.mk hc
  obtain ⟨I, hI⟩ : ∃ I, idxB l at_ = I := ⟨_, rfl⟩
  rw [hI]
  have HI := Aside0.mk hI
  obtain ⟨R, hR⟩ : ∃ R : Int, (if I < l.length then (I : Int) else -1) = R := ⟨_, rfl⟩
  rw [hR]
  have HR := Aside0.mk hR
  clear hC hc hI hR
  go_enter Try.func21, Try.ntmps21
  go_wp2
  go_loopw [5, 8] (fun v5 v8 wr => ∃ k : Nat, k ≤ l.length ∧ v8 = .int .i64 (k : Int) ∧ Aside0 (k ≤ I) ∧ Aside0 (Below w.heap.size w wr)) (fun _ v8 _ => l.length - (intOf v8).toNat)
  case atStart => exact ⟨0, Nat.zero_le _, rfl, ⟨Nat.zero_le _⟩, ⟨Below.refl _ _⟩⟩
  case round =>
    obtain ⟨k, hk, rfl, HK, HW⟩ := hrel
    by_cases hlt : k < l.length
    · have hlt' : (k : Int) < l.length := by omega
      obtain ⟨ad, rfl, e0, e1, e2⟩ := at_T42 (Kd.C_below HC.out HW.out) (k : Int) (by omega) hlt'
      simp only [Int.toNat_natCast] at e0 e1 e2
      have hx : rd_T42 l (k : Int) = l[k] := by
        unfold rd_T42
        rw [Int.toNat_natCast, List.getD_eq_getElem?_getD, List.getElem?_eq_getElem hlt]
        rfl
      obtain ⟨x, hxx⟩ : ∃ x, rd_T42 l (k : Int) = x := ⟨_, rfl⟩
      rw [hxx] at e0 e1 e2 hx
      have hcb := pw_cell_below HW.out HB.out
      have HCB := Aside0.mk hcb
      have H1 := Aside0.mk (show hasB x at_ = true → I = k by
        intro h
        have h1 : ¬ k < I := by
          intro hlt2
          rw [← HI.out] at hlt2
          have := List.not_of_lt_findIdx hlt2
          rw [← hx, h] at this
          cases this
        have := HK.out
        omega)
      have H2 := Aside0.mk (show hasB x at_ = false → k + 1 ≤ I by
        intro h
        have h1 : I ≠ k := by
          intro e
          have h3 : List.findIdx (fun p => hasB p at_) l < l.length := by
            have : idxB l at_ = k := by rw [HI.out, e]
            unfold idxB at this
            omega
          have h2 := List.findIdx_getElem (w := h3)
          have h4 : List.findIdx (fun p => hasB p at_) l = k := by
            have : idxB l at_ = k := by rw [HI.out, e]
            exact this
          simp only [h4] at h2
          rw [← hx, h] at h2
          cases h2
        have := HK.out
        omega)
      clear hxx hx hcb
      cases hb : hasB x at_ with
      | true =>
        have HX := Aside0.mk hb
        have HI2 := Aside0.mk (H1.out hb)
        clear hb
        go_wp2_with (go_at_call 22; refine (at1_calls x at_ b _ HCB.out).mono ?_; rw [HX.out]; rintro e w3 ⟨rfl, hb3⟩; have B3 := Aside0.mk (below_then HW.out HW.out.size hb3); clear hb3)
        go_ret
        refine ⟨?_, B3.out⟩
        rw [← HR.out, HI2.out, if_pos hlt]
        rfl
      | false =>
        have HX := Aside0.mk hb
        have HI2 := Aside0.mk (H2.out hb)
        clear hb
        go_wp2_with (go_at_call 22; refine (at1_calls x at_ b _ HCB.out).mono ?_; rw [HX.out]; rintro e w3 ⟨rfl, hb3⟩; have B3 := Aside0.mk (below_then HW.out HW.out.size hb3); clear hb3)
        go_roundw
        case rel => first | exact ⟨k + 1, by omega, by go_num, HI2, B3⟩ | ((repeat apply Exists.intro); exact ⟨⟨k + 1, by omega, by go_num, HI2, B3⟩, rfl⟩)
        case measure => (first | (show l.length - (wrap64 ((k:Int)+1)).toNat < l.length - ((k:Int)).toNat; rw [wrap_idA _ (by omega) (by omega)]; omega) | (show l.length - ((k:Int)+1).toNat < l.length - ((k:Int)).toNat; omega))
    · obtain rfl : k = l.length := by omega
      go_wp2
      go_ret
      refine ⟨?_, HW.out⟩
      rw [← HR.out, if_neg (by have := HK.out; omega)]
      rfl
def atX (l : List S42) (at_ : Int) : Int := if idxB l at_ < l.length then (l.getD (idxB l at_) z42).f1 else 0
def spans_At.f (l : List S42) (at_ : Int) : Option Int := if l.length ≤ 1000000000000000 then some (atX l at_) else none
set_option maxRecDepth 100000 in
set_option maxHeartbeats 1000000 in
theorem at_calls (A0 : Option Addr) (c0 : Nat) (l : List S42) (at_ : Int) (w : World) (hC : Kd.C k42 w A0 l.length l) (hc0 : l.length ≤ c0) (hl : l.length ≤ 1000000000000000) :
    Calls Try.prog 13 #[.slice A0 l.length c0, .int .i64 at_] w fun e w' => e = .returned (.int .i64 (atX l at_)) ∧ Below w.heap.size w w' := by
  have HC := Aside0.mk hC
  have hba := below_alloc (Below.refl w.heap.size w) (.cells #[.int .i64 at_] 3)
  have HBA := Aside0.mk hba
  have HX := Aside0.mk (show (w.alloc (.cells #[.int .i64 at_] 3)).cell? ⟨w.heap.size, 0, none⟩ = some (.int .i64 at_) from (Blk.new w 3 #[.int .i64 at_]).cell 0)
  obtain ⟨I, hI⟩ : ∃ I, idxB l at_ = I := ⟨_, rfl⟩
  have HI := Aside0.mk hI
  have hat : atX l at_ = if I < l.length then (l.getD I z42).f1 else 0 := by unfold atX; rw [hI]
  rw [hat]
  clear hC hba hI hat
  by_cases hlt : I < l.length
  · have hx : rd_T42 l (I : Int) = l.getD I z42 := by
      unfold rd_T42
      rw [Int.toNat_natCast]
    obtain ⟨z, hz⟩ : ∃ z, l.getD I z42 = z := ⟨_, rfl⟩
    rw [hz] at hx
    rw [if_pos hlt, hz]
    have HX2 := Aside0.mk hx
    clear hx hz
    have hlt' : (I : Int) < l.length := by omega
    have hI0 : ¬ (I : Int) < 0 := by omega
    go_enter Try.func13, Try.ntmps13
    go_wp2_with (go_at_call 21; refine (index_calls A0 c0 l at_ ⟨w.heap.size, 0, none⟩ _ (Kd.C_below HC.out HBA.out) hl HX.out).mono ?_; rw [HI.out, if_pos hlt]; rintro e w3 ⟨rfl, hb3⟩; have B3 := Aside0.mk (below_then HBA.out HBA.out.size hb3); obtain ⟨ad, hA, e0, e1, e2⟩ := at_T42 (Kd.C_below HC.out B3.out) (I : Int) (by omega) hlt'; subst hA; simp only [Int.toNat_natCast] at e0 e1 e2; rw [HX2.out] at e2; clear hb3)
    go_ret
    exact ⟨rfl, B3.out⟩
  · rw [if_neg hlt]
    go_enter Try.func13, Try.ntmps13
    go_wp2_with (go_at_call 21; refine (index_calls A0 c0 l at_ ⟨w.heap.size, 0, none⟩ _ (Kd.C_below HC.out HBA.out) hl HX.out).mono ?_; rw [HI.out, if_neg hlt]; rintro e w3 ⟨rfl, hb3⟩; have B3 := Aside0.mk (below_then HBA.out HBA.out.size hb3); clear hb3)
    go_ret
    exact ⟨rfl, B3.out⟩
theorem spans_At.calls (A0 : Option Addr) (c0 : Nat) (l0 : List (S42)) (a1 : Int) (r : Int) (w : World) (hr0 : Kd.C k42 w A0 l0.length l0) (hc0 : l0.length ≤ c0) (h : spans_At.f l0 a1 = some r) :
    Calls Try.prog 13 #[.slice A0 l0.length c0, .int .i64 a1] w fun e w' => e = .returned (.int .i64 r) ∧ Below w.heap.size w w' := by
  unfold spans_At.f at h
  split at h
  · cases h
    exact at_calls A0 c0 l0 a1 w hr0 hc0 (by assumption)
  · cases h
end Go.Proofs.Ytdciombpffkcjaa.P
