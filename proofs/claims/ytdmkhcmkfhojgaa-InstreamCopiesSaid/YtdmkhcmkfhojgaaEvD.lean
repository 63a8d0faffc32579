/- instream.Chars tells what the reference tells. -/
import Derived.Test.YtdmkhcmkfhojgaaEvC
import Derived.Test.YtdmkhcmkfhojgaaPlain3
namespace Go.Proofs.Ytdmkhcmkfhojgaa.Pure
open Go.RowKit Go.Proofs.Ytdmkhcmkfhojgaa.P Go.Proofs.YtdmkhcmkfhojgaaW.PrintWords Go.Proofs.YtdmkhcmkfhojgaaW.PrintLast Go.Proofs.YtdmkhcmkfhojgaaW.PrintMore
set_option linter.unusedVariables false

theorem chr_out (w : Bool) (cr : S36) (p o : List S36) (c : S36) : Cs.chr ⟨w, cr, p ++ o⟩ c = ⟨(Cs.chr ⟨w, cr, o⟩ c).waits, (Cs.chr ⟨w, cr, o⟩ c).cr, p ++ (Cs.chr ⟨w, cr, o⟩ c).out⟩ := by
  unfold Cs.chr Cs.rest
  by_cases h1 : w = true
  · by_cases h2 : c.f0 = 10
    · simp [h1, h2]
    · by_cases h3 : c.f0 = 13
      · simp [h1, h3]
      · by_cases h4 : c.f0 = 0 <;> simp [h1, h2, h3, h4]
  · by_cases h3 : c.f0 = 13
    · simp [h1, h3]
    · by_cases h4 : c.f0 = 0 <;> simp [h1, h3, h4]
theorem runC_out (p : List S36) : ∀ (es : List Evt) (w : Bool) (cr : S36) (o : List S36), runC ⟨w, cr, p ++ o⟩ es = ⟨(runC ⟨w, cr, o⟩ es).waits, (runC ⟨w, cr, o⟩ es).cr, p ++ (runC ⟨w, cr, o⟩ es).out⟩
  | [], w, cr, o => rfl
  | e :: es, w, cr, o => by
    have h1 : ∀ s, runC s (e :: es) = runC (s.chr e.1) es := fun _ => rfl
    rw [h1, h1, chr_out, runC_out p es]
theorem runF_out (p : List S39) : ∀ (es : List Evt) (f : List S39), runF (p ++ f) es = p ++ runF f es
  | [], f => rfl
  | e :: es, f => by
    have h1 : ∀ s, runF s (e :: es) = runF (evF s e) es := fun _ => rfl
    have h2 : evF (p ++ f) e = p ++ evF f e := by
      unfold evF
      split
      · simp
      · split <;> simp
    rw [h1, h1, h2, runF_out p es]

def c0 : Cs := ⟨false, ⟨0, 0, 0⟩, []⟩
/-- what a feed tells, over its events -/
theorem fed_run (es : List Evt) (d : Dec) (x : Tk) (t : ByteArray) (lo hi : Int) (h1 : (St.upto t ⟨d, [], []⟩ t.size).cs = CS es) (h2 : (St.upto t ⟨d, [], []⟩ t.size).fs = FM es) (hc : Chain es lo hi) :
    fedS d x t = ⟨(runC ⟨x.waits, x.cr, []⟩ es).waits, (runC ⟨x.waits, x.cr, []⟩ es).cr, (runC ⟨x.waits, x.cr, []⟩ es).out, runF [] es, []⟩ := by
  unfold fedS
  rw [h1, h2]
  exact upto_run es x.waits x.cr [] [] lo hi hc
theorem end_run (es : List Evt) (d : Dec) (x : Tk) (lo hi : Int) (h1 : d.endC = CS es) (h2 : d.endF = FM es) (hc : Chain es lo hi) :
    endS d x = ⟨(runC ⟨x.waits, x.cr, []⟩ es).waits, (runC ⟨x.waits, x.cr, []⟩ es).cr, (runC ⟨x.waits, x.cr, []⟩ es).out, runF [] es, []⟩ := by
  unfold endS
  rw [h1, h2]
  exact upto_run es x.waits x.cr [] [] lo hi hc

theorem chars_evs (t : ByteArray) (ht : t.size ≤ 100000) : (∃ es hi, Chain es 0 hi ∧ charsC t = (runC c0 es).flush ∧ charsF t = runF [] es ∧ told t = (CS es, FM es) ∧ es.length ≤ 1000000) ∧ (charsC t).length ≤ 1000000 ∧ (charsF t).length ≤ 1000000 := by
  have hinv := inv_upto t d0 0 (Int.le_refl _) rfl (by decide) (by omega) t.size (Nat.le_refl _)
  obtain ⟨es1, a1, a2, a3⟩ := hinv.evs
  have hsum := hinv.sum
  have hat := chain_le a3
  have hd0 : d0.at_ = 0 := rfl
  obtain ⟨es2, b1, b2, b3⟩ := end_evs (fedD d0 t) hinv.have0 (by show _ + _ ≤ _; unfold fedD; omega) (by unfold fedD; omega)
  have hch := chain_append a3 b3
  have hf := fed_run es1 d0 x0 t _ _ a1 a2 a3
  have he := end_run es2 (fedD d0 t) (fedS d0 x0 t).tk _ _ b1 b2 b3
  have q1 : charsC t = (runC c0 (es1 ++ es2)).flush := by
    unfold charsC endOut Cs.flush
    rw [he, hf]
    simp only [TS.tk]
    rw [runC_append]
    have := runC_out (runC c0 es1).out es2 (runC c0 es1).waits (runC c0 es1).cr []
    rw [List.append_nil] at this
    have e0 : (⟨(runC c0 es1).waits, (runC c0 es1).cr, (runC c0 es1).out⟩ : Cs) = runC c0 es1 := rfl
    rw [e0] at this
    rw [this]
    simp only [List.append_assoc]
    rfl
  have q2 : charsF t = runF [] (es1 ++ es2) := by
    unfold charsF
    rw [he, hf, runF_append]
    simp only
    have := runF_out (runF [] es1) es2 []
    rw [List.append_nil] at this
    exact this.symm
  have hl1 := fedS_len d0 x0 t
  have hl2 := endOut_len (fedD d0 t) (fedS d0 x0 t).tk
  have hl3 := endS_len (fedD d0 t) (fedS d0 x0 t).tk
  have hlen1 : (charsC t).length ≤ 1000000 := by unfold charsC; rw [List.length_append]; omega
  have hlen2 : (charsF t).length ≤ 1000000 := by unfold charsF; rw [List.length_append]; omega
  have hu := upto_len t ⟨d0, [], []⟩ t.size
  simp only [List.length_nil, Nat.zero_add] at hu
  have hL : (es1 ++ es2).length ≤ 1000000 := by
    have g1 : es1.length = (St.upto t ⟨d0, [], []⟩ t.size).cs.length := by rw [a1]; simp [CS]
    have g2 : es2.length = (fedD d0 t).endC.length := by rw [b1]; simp [CS]
    have g3 : (fedD d0 t).endC.length ≤ 1 := by unfold Dec.endC; split <;> simp
    rw [List.length_append]
    omega
  have htold : told t = (CS (es1 ++ es2), FM (es1 ++ es2)) := by
    unfold told St.res
    rw [CS_append, FM_append, ← a1, ← a2, ← b1, ← b2]
    rfl
  exact ⟨⟨es1 ++ es2, _, hch, q1, q2, htold, hL⟩, hlen1, hlen2⟩
theorem chars_ref (t : ByteArray) (ht : t.size ≤ 100000) : Ev (fun k => taffrailref04_Chars.f k t) (charsC t, charsF t) ∧ (charsC t).length ≤ 1000000 ∧ (charsF t).length ≤ 1000000 := by
  obtain ⟨⟨es, hi, hch, q1, q2, htold, hL⟩, hlen1, hlen2⟩ := chars_evs t ht
  refine ⟨?_, hlen1, hlen2⟩
  have hloop := refC_at es 0 hi hL _ [] es _ (Nat.le_refl _) rfl hch [] [] (Nat.le_refl _) (Nat.le_refl _)
  rw [ref_run _ es [] [] ⟨0, 0, 0⟩ _ _ (Nat.le_refl _) hch] at hloop
  refine Ev.congr (fun k => rfl) (Ev.bind (g := fun k => taffrailref03_Decode.f k t 0) (a := told t) ⟨t.size + 40, fun k hk => ref_some t ht k hk⟩ (f := fun k bt136 => taffrailref04_Chars.l0 k bt136.1 bt136.2 ([] : List (S36)) ([] : List (S39)) 0 0) ?_)
  rw [htold, q1, q2]
  exact hloop

theorem awake_ev : taffraillaw04_awake.f = some true := by decide +kernel
theorem chars_ev (l : List S36) (h : l.length ≤ 1000000) : Ev (fun k => taffrailref03_Chars.f k l l) true := ⟨l.length + 1, fun k hk => chars_same l k h hk⟩
theorem faults_ev (l : List S39) (h : l.length ≤ 1000000) : Ev (fun k => taffrailref03_Faults.f k l l) true := ⟨l.length + 1, fun k hk => faults_same l k h hk⟩
end Go.Proofs.Ytdmkhcmkfhojgaa.Pure
