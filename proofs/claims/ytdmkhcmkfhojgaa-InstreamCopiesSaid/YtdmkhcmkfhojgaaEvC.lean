/- The reference's loop is refRun; a character's fault is one in both. -/
import Derived.Test.YtdmkhcmkfhojgaaEvB
import Derived.Test.YtdmkhcmkfhojgaaPx6
import Derived.Test.YtdmkhcmkfhojgaaPlain2
import Derived.Test.YtdmkhcmkfhojgaaEvBad
namespace Go.Proofs.Ytdmkhcmkfhojgaa.Pure
open Go.RowKit Go.Proofs.Ytdmkhcmkfhojgaa.P Go.Proofs.YtdmkhcmkfhojgaaW.PrintWords Go.Proofs.YtdmkhcmkfhojgaaW.PrintLast Go.Proofs.YtdmkhcmkfhojgaaW.PrintMore
set_option linter.unusedVariables false

theorem evF_len (f : List S39) (e : Evt) : (evF f e).length ≤ f.length + 1 := by
  unfold evF
  split
  · simp
  · split <;> simp

theorem refC_at (L : List Evt) (lo hi : Int) (hL : L.length ≤ 1000000) : ∀ (n : Nat) (pre post : List Evt) (lo' : Int), post.length ≤ n → L = pre ++ post → Chain post lo' hi → ∀ (o : List S36) (f : List S39), o.length ≤ pre.length → f.length ≤ pre.length →
    Ev (fun k => taffrailref04_Chars.l0 k (CS L) (FM L) o f ((FM pre).length : Int) (pre.length : Int)) (refRun post o f)
  | n, pre, [], lo', hn, he, hch, o, f, ho, hf => by
    refine Ev.step (f := fun k => some (o, f)) (fun k => ?_) (Ev.now _)
    simp only [taffrailref04_Chars.l0]
    rw [if_neg (by subst he; simp [CS])]
  | 0, pre, e :: es, lo', hn, he, hch, o, f, ho, hf => by simp at hn
  | n + 1, pre, e :: es, lo', hn, he, hch, o, f, ho, hf => by
    simp only [List.length_cons] at hn
    have hlen : L.length = pre.length + (es.length + 1) := by subst he; simp
    have hc : (CS L).length = L.length := by simp [CS]
    have hat : rd_T36 (CS L) (pre.length : Int) = e.1 := by
      subst he
      simp [rd_T36, CS, List.getD_eq_getElem?_getD]
    have hw : wrap64 ((pre.length : Int) + 1) = ((pre.length + 1 : Nat) : Int) := by rw [wrap_id _ (by omega) (by omega)]; omega
    -- behind the fault
    have hfm : FM L = FM pre ++ FM (e :: es) := by subst he; exact FM_append _ _
    have hpre1 : (pre ++ [e]).length = pre.length + 1 := by simp
    have hev := evF_len f e
    -- what stands behind
    have hnext : ∀ o', o'.length ≤ pre.length + 1 → Ev (fun k => taffrailref04_Chars.l0 k (CS L) (FM L) o' (evF f e) ((FM (pre ++ [e])).length : Int) ((pre.length + 1 : Nat) : Int)) (refRun es o' (evF f e)) := by
      intro o' ho'
      have := refC_at L lo hi hL n (pre ++ [e]) es _ (by omega) (by subst he; simp) hch.2.2 o' (evF f e) (by rw [hpre1]; exact ho') (by rw [hpre1]; omega)
      rw [hpre1] at this
      exact this
    have hj2 : Ev (fun k => taffrailref04_Chars.j2 k (CS L) (FM L) o (evF f e) ((FM (pre ++ [e])).length : Int) (pre.length : Int) e.1.f0 e.1.f1 e.1.f2) (refRun (e :: es) o f) := by
      by_cases h0 : e.1.f0 = 0
      · rw [ref_0 e es o f h0]
        refine Ev.step (fun k => ?_) (hnext _ (by simp; omega))
        simp only [taffrailref04_Chars.j2]
        rw [if_pos h0, if_pos (by omega), hw]
      by_cases h13 : e.1.f0 = 13
      · cases es with
        | nil =>
          rw [ref_13n e o f h0 h13]
          have h2 := hnext (o ++ [⟨10, e.1.f1, e.1.f2⟩]) (by simp; omega)
          rw [show refRun [] (o ++ [⟨10, e.1.f1, e.1.f2⟩]) (evF f e) = (o ++ [⟨10, e.1.f1, e.1.f2⟩], evF f e) from rfl] at h2
          refine Ev.step (fun k => ?_) h2
          simp only [taffrailref04_Chars.j2]
          rw [if_neg h0, if_pos h13, hw, if_neg (by rw [hc, hlen]; simp), if_pos (by omega)]
        | cons d ds =>
          have hat2 : rd_T36 (CS L) ((pre.length + 1 : Nat) : Int) = d.1 := by
            subst he
            simp [rd_T36, CS, List.getD_eq_getElem?_getD]
          have hl9 : (CS L).length = pre.length + (ds.length + 1 + 1) := by rw [hc, hlen]; rfl
          have hlt9 : ((pre.length + 1 : Nat) : Int) < ((CS L).length : Int) := by omega
          have hge9 : (0 : Int) ≤ ((pre.length + 1 : Nat) : Int) := by omega
          have hol : o.length < 5864062014805 := by omega
          rw [ref_13c e d ds o f h0 h13]
          by_cases h10 : d.1.f0 = 10
          · rw [if_pos h10]
            have hnone : d.2 = none := by
              cases hd : d.2 with
              | none => rfl
              | some x => have := (hch.2.2.2.1 x hd).2; omega
            have hfm2 : FM (pre ++ [e] ++ [d]) = FM (pre ++ [e]) := by
              rw [FM_append (pre ++ [e]) [d]]
              simp [FM, hnone]
            have h2 := refC_at L lo hi hL n (pre ++ [e] ++ [d]) ds _ (by simp only [List.length_cons] at hn; omega) (by subst he; simp) hch.2.2.2.2 (o ++ [⟨10, e.1.f1, d.1.f2⟩]) (evF f e) (by simp; omega) (by simp; omega)
            rw [hfm2, show (pre ++ [e] ++ [d]).length = pre.length + 1 + 1 by simp] at h2
            have hw2 : wrap64 (((pre.length + 1 : Nat) : Int) + 1) = ((pre.length + 1 + 1 : Nat) : Int) := by rw [wrap_id _ (by omega) (by omega)]; omega
            refine Ev.step (fun k => ?_) h2
            simp only [taffrailref04_Chars.j2]
            rw [if_neg h0, if_pos h13, hw, if_pos hlt9, if_pos hge9, hat2, if_pos h10, if_pos hol, hw2]
          · rw [if_neg h10]
            refine Ev.step (fun k => ?_) (hnext (o ++ [⟨10, e.1.f1, e.1.f2⟩]) (by simp; omega))
            simp only [taffrailref04_Chars.j2]
            rw [if_neg h0, if_pos h13, hw, if_pos hlt9, if_pos hge9, hat2, if_neg h10, if_pos hol]
      · rw [ref_e e es o f h0 h13]
        refine Ev.step (fun k => ?_) (hnext (o ++ [e.1]) (by simp; omega))
        simp only [taffrailref04_Chars.j2]
        rw [if_neg h0, if_neg h13, if_pos (by omega), hw]
    -- the fault
    obtain ⟨c, fo⟩ := e
    cases fo with
    | some x =>
      have hx := (hch.2.1 x rfl).1
      simp only at hx hat hj2
      have e1 : FM ((c, some x) :: es) = x :: FM es := rfl
      have hlt : (FM pre).length < (FM L).length := by rw [hfm, e1]; simp
      have hfat : rd_T39 (FM L) ((FM pre).length : Int) = x := by
        rw [hfm, e1]
        simp [rd_T39, List.getD_eq_getElem?_getD]
      have hfl : (FM L).length ≤ L.length := List.length_filterMap_le ..
      have hfw : wrap64 (((FM pre).length : Int) + 1) = ((FM (pre ++ [(c, some x)])).length : Int) := by
        rw [wrap_id _ (by omega) (by omega), FM_append]
        simp [FM]
      refine Ev.step (f := fun k => taffrailref04_Chars.j1 k (CS L) (FM L) o f ((FM pre).length : Int) (pre.length : Int) true c.f0 c.f1 c.f2) (fun k => ?_) (Ev.step (fun k => ?_) hj2)
      · simp only [taffrailref04_Chars.l0]
        rw [if_pos (by omega), if_pos (by omega), if_pos (by omega), if_pos (by omega), hfat, hat, beq_iff_eq.mpr hx]
      · simp only [taffrailref04_Chars.j1]
        rw [if_pos trivial, if_pos (by omega), if_pos (by omega), if_pos (by omega), hfat, hfw]
        rfl
    | none =>
      simp only at hat hj2
      have e1 : FM (pre ++ [(c, (none : Option S39))]) = FM pre := by rw [FM_append]; simp [FM]
      rw [e1] at hj2
      have hj1 : Ev (fun k => taffrailref04_Chars.j1 k (CS L) (FM L) o f ((FM pre).length : Int) (pre.length : Int) false c.f0 c.f1 c.f2) (refRun ((c, none) :: es) o f) := by
        have hbad : Ev (fun k => taffrailref04_Bad.f k c.f0) (badOf c.f0) := ⟨3, fun k hk => bad_ref c.f0 k hk⟩
        have hnn := bad_nonneg c.f0
        refine Ev.step (fun k => ?_) (Ev.bind hbad (f := fun k t149 => if t149 = 0 then (taffrailref04_Chars.j2 k (CS L) (FM L) o f ((FM pre).length : Int) (pre.length : Int) c.f0 c.f1 c.f2) else (if f.length < 8796093022208 then (taffrailref04_Chars.j2 k (CS L) (FM L) o (f ++ [(⟨t149, c.f1⟩ : S39)]) ((FM pre).length : Int) (pre.length : Int) c.f0 c.f1 c.f2) else (none))) ?_)
        · simp only [taffrailref04_Chars.j1]
          rw [if_neg (by decide)]
        · by_cases hb : badOf c.f0 = 0
          · have e2 : evF f (c, none) = f := by unfold evF; simp only; rw [if_neg (by omega)]
            rw [e2] at hj2
            exact Ev.congr (fun k => if_pos hb) hj2
          · have e2 : evF f (c, none) = f ++ [⟨badOf c.f0, c.f1⟩] := by unfold evF; simp only; rw [if_pos (by omega)]
            rw [e2] at hj2
            exact Ev.congr (fun k => by rw [if_neg hb, if_pos (by omega)]) hj2
      by_cases hlt : (FM pre).length < (FM L).length
      · have hfat : rd_T39 (FM L) ((FM pre).length : Int) ∈ FM es := by
          have e3 : FM L = FM pre ++ FM es := hfm
          have hl2 : 0 < (FM es).length := by rw [e3] at hlt; simp at hlt; omega
          rw [e3]
          simp [rd_T39, List.getD_eq_getElem?_getD, hl2]
        have hge := chain_fm hch.2.2 _ hfat
        simp only at hge
        refine Ev.step (fun k => ?_) hj1
        simp only [taffrailref04_Chars.l0]
        rw [if_pos (by omega), if_pos (by omega), if_pos (by omega), if_pos (by omega), hat, beq_eq_false_iff_ne.mpr (by omega)]
      · refine Ev.step (fun k => ?_) hj1
        simp only [taffrailref04_Chars.l0]
        rw [if_pos (by omega), if_pos (by omega), if_neg (by omega), hat]
end Go.Proofs.Ytdmkhcmkfhojgaa.Pure
