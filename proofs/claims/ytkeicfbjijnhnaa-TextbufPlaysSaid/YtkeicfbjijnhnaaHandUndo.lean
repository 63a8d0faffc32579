/- textbuf: Undo. -/
import Derived.Test.YtkeicfbjijnhnaaHandBuf
import Derived.IntWalk
namespace Go.Proofs.Ytkeicfbjijnhnaa.P
open Go.RowKit Go.Proofs.YtkeicfbjijnhnaaW.PrintWords Go.Proofs.YtkeicfbjijnhnaaW.PrintLast Go.Proofs.YtkeicfbjijnhnaaW.PrintMore Go.Proofs.Ytkeicfbjijnhnaa.Shelf Go.Proofs.Ytkeicfbjijnhnaa.Blk
set_option linter.unusedVariables false

theorem undo_nil (w : World) : Calls Try.prog 12 #[.pointer none] w fun e w' => e = .returned (.bool false) ∧ w' = w := by
  go_enter Try.func12, Try.ntmps12
  go_wp2_with (go_at_call 13; refine (version_nil _).mono ?_; rintro e w' ⟨rfl, rfl⟩)
  go_ret
  exact ⟨rfl, rfl⟩
section
variable {w : World} {base g : Nat} {ok : Nat → Prop} {P : List (List UInt8)} {most : Int} {U : List (List (List UInt8))}
theorem undo_none (h : BufAt w base ok g P most []) : Calls Try.prog 12 #[.pointer (some ⟨g, 0, none⟩)] w fun e w' => e = .returned (.bool false) ∧ w' = w := by
  have HH := Aside0.mk h
  clear h
  go_enter Try.func12, Try.ntmps12
  go_wp2_with (go_at_call 13; refine (version_calls HH.out).mono ?_; rintro e w' ⟨rfl, rfl⟩)
  go_ret
  exact ⟨rfl, rfl⟩

/-- the last of a row of rows -/
theorem N_lastR {v : Value} {okN : Nat → Prop} (h : Kd.N kR 54 w base okN v ((U ++ [P]).map pn)) :
    ∃ gu cu Ap cp, v = .slice (some ⟨gu, 0, none⟩) (U.length + 1) cu ∧ U.length + 1 ≤ cu ∧ w.cell? ⟨gu, U.length, none⟩ = some (.slice Ap P.length cp) ∧ P.length ≤ cp ∧ Kd.F kP w (fun k => okN k ∧ k ≠ gu) Ap P.length (pn P) ∧ base ≤ gu := by
  have hl : ((U ++ [P]).map pn).length = U.length + 1 := by simp
  obtain ⟨gu, cu, rfl, hb, _, _⟩ := Kd.N_form h (by omega)
  obtain ⟨hn, hcc, _⟩ := Kd.N_reads' h
  rw [hl] at hcc
  obtain ⟨cs, hcl, hM, hcell, _⟩ := Kd.N_elem h [] (U.length : Int) (by omega) (by omega)
  have hx : ((U ++ [P]).map pn).getD (U.length : Int).toNat [] = pn P := by simp [List.getD_eq_getElem?_getD]
  rw [hx] at hM
  obtain ⟨Ap, cp, rfl, hcp, hF⟩ := Kd.FK_slice_open hM
  have hpl : (pn P).length = P.length := List.length_map _
  rw [hpl] at hcp hF hcell
  have h0 := hcell 0 _ rfl
  refine ⟨gu, cu, Ap, cp, by rw [hl], hcc, ?_, hcp, hF, hb⟩
  have hs : kR.sz = 1 := rfl
  simpa [hs] using h0

set_option maxRecDepth 100000 in
set_option maxHeartbeats 1000000 in
theorem undo_calls {P' : List (List UInt8)} (h : BufAt w base ok g P' most (U ++ [P])) (hU : U.length ≤ 1000000) (hP : P.length ≤ 1000000000) (hl : tl P ≤ 1000000000) :
    Calls Try.prog 12 #[.pointer (some ⟨g, 0, none⟩)] w fun e w' => e = .returned (.bool true) ∧ BufAt w' base ok g P most U ∧ Below base w w' ∧ Kept w w' ok := by
  have HH := Aside0.mk h
  obtain ⟨A, c, vu, hb, hc, hF, hN, hg, hgo⟩ := h
  obtain ⟨gu, cu, Ap, cp, rfl, hcu, hcell, hcp, hFp, hbu⟩ := N_lastR hN
  have c0 : w.cell? ⟨g, 0, none⟩ = some (.slice A P'.length c) := hb.cell 0
  have c3 : w.cell? ⟨g, 3, none⟩ = some (.slice (some ⟨gu, 0, none⟩) (U.length + 1) cu) := hb.cell 3
  have f0 := hb.frozen 0
  have f2 := hb.frozen 2
  have f3 := hb.frozen 3
  have c2 : w.cell? ⟨g, 2, none⟩ = some (.int .i64 (tl P' : Int)) := hb.cell 2
  have HB := Aside0.mk hb
  have HFp := Aside0.mk hFp
  have HN := Aside0.mk hN
  have hlv : ((U ++ [P]).length : Int) = (U.length : Int) + 1 := by simp
  clear hb hF hN hFp
  go_enter Try.func12, Try.ntmps12
  go_wp2_with (go_at_call 13; refine (version_calls HH.out).mono ?_; rw [hlv]; rintro e w' ⟨rfl, rfl⟩)
  go_region
  all_goals go_wp2
  go_loopw [5, 42] (fun v5 v42 wr => ∃ k : Nat, k ≤ P.length ∧ v42 = .int .i64 (k : Int) ∧ Aside0 (Blk wr g 57 #[.slice Ap P.length cp, .int .i64 most, .int .i64 ((upto P k).length : Int), .slice (some ⟨gu, 0, none⟩) U.length cu]) ∧ Aside0 (w'.grownBy wr (some g))) (fun _ v42 _ => P.length - (intOf v42).toNat)
  case atStart => exact ⟨0, Nat.zero_le _, rfl, ⟨((HB.out.set_ 0 _).set_ 3 _).set_ 2 _⟩, ⟨by
    (with_reducible repeat (first | apply only_drewN | apply only_drew | refine only_setCell ?_ (.inl rfl) _))
    exact World.grownBy.refl _ _⟩⟩
  case round =>
    obtain ⟨k, hk, rfl, HK, HG⟩ := hrel
    have hle := upto_le P k
    have r0 : wr.cell? ⟨g, 0, none⟩ = some (.slice Ap P.length cp) := HK.out.cell 0
    have r2 : wr.cell? ⟨g, 2, none⟩ = some (.int .i64 ((upto P k).length : Int)) := HK.out.cell 2
    have q2 := HK.out.frozen 2
    by_cases hlt : k < P.length
    · obtain ⟨ad, A1, c1, e, hx, hc1, hC1⟩ := F_P (Kd.F_grown HFp.out HG.out (fun j hj e => hj.1.2 (by injection e))) k hlt
      cases e
      have hstep := upto_step P k hlt
      have hle2 := upto_le P (k + 1)
      rw [hstep, List.length_append] at hle2
      clear hC1
      have hl' : P.flatten.length ≤ 1000000000 := hl
      generalize hz : P.getD k [] = y at *
      generalize ho : (upto P k).length = o at *
      have e1 : wrap64 ((o : Int) + (y.length : Int)) = (o : Int) + (y.length : Int) := wrap_id _ (by omega) (by omega)
      go_wp2
      go_roundw
      case measure => (first | (show P.length - (wrap64 ((k:Int)+1)).toNat < P.length - ((k:Int)).toNat; rw [wrap_id _ (by omega) (by omega)]; omega) | (show P.length - ((k:Int)+1).toNat < P.length - ((k:Int)).toNat; omega))
      case rel => exact ⟨k + 1, by omega, by go_num, ⟨by rw [hstep, List.length_append, ho, Int.natCast_add]; exact HK.out.set_ 2 _⟩, ⟨only_setCell HG.out (.inl rfl) _⟩⟩
    · obtain rfl : k = P.length := by omega
      rw [upto_all] at HK
      have hF := Kd.F_grown HFp.out HG.out (fun j hj e => hj.1.2 (by injection e))
      have hn : U.length ≤ ((U ++ [P]).map pn).length := by simp
      have hN1 := Kd.N_take (m := U.length) HN.out hn
      have e2 : ((U ++ [P]).map pn).take U.length = U.map pn := by simp
      rw [e2] at hN1
      have hN2 := Kd.N_grown hN1 HG.out (fun j hj e => hj.2 (by injection e))
      have HF2 := Aside0.mk hF
      have HN2 := Aside0.mk hN2
      clear hF hN1 hN2 e2 hn
      go_wp2
      go_ret
      refine ⟨rfl, ⟨Ap, cp, _, HK.out, hcp, Kd.F_mono HF2.out (fun j hj => ⟨hj.1.1, hj.1.2, fun e => hj.2 (by simpa [Value.ownBlock] using e)⟩), HN2.out, hg, hgo⟩, ?_, ?_⟩
      · exact ⟨HG.out.os, HG.out.tape, HG.out.output, HG.out.size, fun j hj => by
          rcases Nat.lt_or_ge j w'.heap.size with h1 | h1
          · exact HG.out.block j h1 (fun e => by injection e with e; omega)
          · have := HB.out.lt; omega⟩
      · exact Kept.of_grown HG.out (Kept.refl _ _) (fun j hj => .inl (by injection hj with hj; rw [← hj]; exact hgo))
end
end Go.Proofs.Ytkeicfbjijnhnaa.P
