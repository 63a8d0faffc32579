/- Bytes that come in pieces: a stream goes on where it was. -/
import Derived.Test.YtdmkhcmkfhojgaaEvL
namespace Go.Proofs.Ytdmkhcmkfhojgaa.Pure
open Go.RowKit Go.Proofs.Ytdmkhcmkfhojgaa.P Go.Proofs.YtdmkhcmkfhojgaaW.PrintWords Go.Proofs.YtdmkhcmkfhojgaaW.PrintLast Go.Proofs.YtdmkhcmkfhojgaaW.PrintMore
set_option linter.unusedVariables false

theorem fin_pre (d : Dec) (p cs : List S36) (q fs : List S39) : St.fin ⟨d, p ++ cs, q ++ fs⟩ = ⟨(St.fin ⟨d, cs, fs⟩).d, p ++ (St.fin ⟨d, cs, fs⟩).cs, q ++ (St.fin ⟨d, cs, fs⟩).fs⟩ := by
  unfold St.fin
  simp only
  split
  · simp [St.tell]
  · rfl
theorem start_pre (d : Dec) (p cs : List S36) (q fs : List S39) (c : Int) : St.start ⟨d, p ++ cs, q ++ fs⟩ c = ⟨(St.start ⟨d, cs, fs⟩ c).d, p ++ (St.start ⟨d, cs, fs⟩ c).cs, q ++ (St.start ⟨d, cs, fs⟩ c).fs⟩ := by
  unfold St.start
  split
  · exact fin_pre _ _ _ _ _
  · simp [St.bad]
theorem step_pre (d : Dec) (p cs : List S36) (q fs : List S39) (c : Int) : St.step ⟨d, p ++ cs, q ++ fs⟩ c = ⟨(St.step ⟨d, cs, fs⟩ c).d, p ++ (St.step ⟨d, cs, fs⟩ c).cs, q ++ (St.step ⟨d, cs, fs⟩ c).fs⟩ := by
  unfold St.step
  simp only
  split
  · exact start_pre _ _ _ _ _ _
  · split
    · have h := start_pre (d.told d.have_) p (cs ++ [⟨65533, d.at_, wrap64 (d.at_ + d.have_)⟩]) q (fs ++ [⟨1, d.at_⟩]) c
      rw [← List.append_assoc, ← List.append_assoc] at h
      exact h
    · exact fin_pre _ _ _ _ _
theorem upto_congr (a b : ByteArray) (s : St) : ∀ n : Nat, (∀ k : Nat, k < n → bt a (k : Int) = bt b (k : Int)) → St.upto a s n = St.upto b s n
  | 0, _ => rfl
  | n + 1, h => by
    show (St.upto a s n).step (bt a (n : Int)) = (St.upto b s n).step (bt b (n : Int))
    rw [upto_congr a b s n (fun k hk => h k (by omega)), h n (by omega)]
theorem bt_left (s t : ByteArray) (k : Nat) (h : k < s.size) : bt (s ++ t) (k : Int) = bt s (k : Int) := by
  have h2 : k < (s ++ t).size := by rw [ByteArray.size_append]; omega
  rw [← bytes_at (s ++ t) k h2, ← bytes_at s k h]
  simp only [bytes_append]
  rw [List.getElem_append_left]
theorem bt_right (s t : ByteArray) (k : Nat) (h : k < t.size) : bt (s ++ t) ((s.size + k : Nat) : Int) = bt t (k : Int) := by
  have h2 : s.size + k < (s ++ t).size := by rw [ByteArray.size_append]; omega
  rw [← bytes_at (s ++ t) (s.size + k) h2, ← bytes_at t k h]
  simp only [bytes_append]
  rw [List.getElem_append_right (by rw [bytes_len]; omega)]
  congr 1
  rw [bytes_len]
  omega
theorem upto_append (s t : ByteArray) (d : Dec) : ∀ j : Nat, j ≤ t.size → St.upto (s ++ t) ⟨d, [], []⟩ (s.size + j) =
    ⟨(St.upto t ⟨(St.upto s ⟨d, [], []⟩ s.size).d, [], []⟩ j).d, (St.upto s ⟨d, [], []⟩ s.size).cs ++ (St.upto t ⟨(St.upto s ⟨d, [], []⟩ s.size).d, [], []⟩ j).cs, (St.upto s ⟨d, [], []⟩ s.size).fs ++ (St.upto t ⟨(St.upto s ⟨d, [], []⟩ s.size).d, [], []⟩ j).fs⟩
  | 0, _ => by
    rw [Nat.add_zero, upto_congr (s ++ t) s _ s.size (fun k hk => bt_left s t k hk)]
    simp [St.upto]
  | j + 1, h => by
    have ih := upto_append s t d j (by omega)
    show (St.upto (s ++ t) ⟨d, [], []⟩ (s.size + j)).step (bt (s ++ t) ((s.size + j : Nat) : Int)) = _
    rw [ih, bt_right s t j (by omega), step_pre]
    rfl

theorem fed_append (s t : ByteArray) (hs : s.size + t.size ≤ 100000000000) :
    fedD d0 (s ++ t) = fedD (fedD d0 s) t ∧ fedS d0 x0 (s ++ t) = ⟨(fedS (fedD d0 s) (fedS d0 x0 s).tk t).waits, (fedS (fedD d0 s) (fedS d0 x0 s).tk t).cr, (fedS d0 x0 s).out ++ (fedS (fedD d0 s) (fedS d0 x0 s).tk t).out, (fedS d0 x0 s).f ++ (fedS (fedD d0 s) (fedS d0 x0 s).tk t).f, []⟩ := by
  have hz : (s ++ t).size = s.size + t.size := ByteArray.size_append
  have hu := upto_append s t d0 t.size (Nat.le_refl _)
  rw [← hz] at hu
  have i1 := inv_upto s d0 0 (Int.le_refl _) rfl (by decide) (by omega) s.size (Nat.le_refl _)
  obtain ⟨e1, a1, a2, a3⟩ := i1.evs
  have hc1 := chain_le a3
  have hd0 : d0.at_ = 0 := rfl
  have i2 := inv_upto t (fedD d0 s) (0 + (s.size : Int)) i1.have0 i1.sum (by unfold fedD; omega) (by omega) t.size (Nat.le_refl _)
  obtain ⟨e2, b1, b2, b3⟩ := i2.evs
  have hch := chain_append a3 b3
  have f1 := fed_run e1 d0 x0 s _ _ a1 a2 a3
  have f2 := fed_run e2 (fedD d0 s) (fedS d0 x0 s).tk t _ _ b1 b2 b3
  have g1 : (St.upto (s ++ t) ⟨d0, [], []⟩ (s ++ t).size).cs = CS (e1 ++ e2) := by
    rw [hu, CS_append, ← a1, ← b1]; rfl
  have g2 : (St.upto (s ++ t) ⟨d0, [], []⟩ (s ++ t).size).fs = FM (e1 ++ e2) := by
    rw [hu, FM_append, ← a2, ← b2]; rfl
  have f3 := fed_run (e1 ++ e2) d0 x0 (s ++ t) _ _ g1 g2 hch
  refine ⟨?_, ?_⟩
  · unfold fedD
    rw [hu]
  · have hh : (fedS d0 x0 s).tk = ⟨(runC ⟨x0.waits, x0.cr, []⟩ e1).waits, (runC ⟨x0.waits, x0.cr, []⟩ e1).cr⟩ := by rw [f1]; rfl
    rw [f3, f2, hh, f1, runC_append, runF_append]
    simp only
    have q1 := runC_out (runC ⟨x0.waits, x0.cr, []⟩ e1).out e2 (runC ⟨x0.waits, x0.cr, []⟩ e1).waits (runC ⟨x0.waits, x0.cr, []⟩ e1).cr []
    rw [List.append_nil] at q1
    have e0 : (⟨(runC ⟨x0.waits, x0.cr, []⟩ e1).waits, (runC ⟨x0.waits, x0.cr, []⟩ e1).cr, (runC ⟨x0.waits, x0.cr, []⟩ e1).out⟩ : Cs) = runC ⟨x0.waits, x0.cr, []⟩ e1 := rfl
    rw [e0] at q1
    have q2 := runF_out (runF [] e1) e2 []
    rw [List.append_nil] at q2
    rw [q1, q2]

/-- a stream that has come so far -/
structure PS where
  s : ByteArray
  d : Dec
  x : Tk
  a : List S36
  f : List S39
structure PS.Ok (p : PS) : Prop where
  d : p.d = fedD d0 p.s
  x : (fedS d0 x0 p.s).tk = p.x
  a : (fedS d0 x0 p.s).out = p.a
  f : (fedS d0 x0 p.s).f = p.f
def PS.step (p : PS) (t : ByteArray) : PS := ⟨p.s ++ t, fedD p.d t, (fedS p.d p.x t).tk, p.a ++ (fedS p.d p.x t).out, p.f ++ (fedS p.d p.x t).f⟩
def PS.zero : PS := ⟨⟨#[]⟩, d0, x0, [], []⟩
theorem PS.ok_zero : PS.zero.Ok := ⟨rfl, rfl, rfl, rfl⟩
theorem PS.ok_step (p : PS) (t : ByteArray) (h : p.Ok) (hs : p.s.size + t.size ≤ 100000000000) : (p.step t).Ok := by
  obtain ⟨h1, h2⟩ := fed_append p.s t hs
  obtain ⟨k1, k2, k3, k4⟩ := h
  rw [← k1, k2] at h2
  refine ⟨?_, ?_, ?_, ?_⟩
  · show fedD p.d t = fedD d0 (p.s ++ t)
    rw [h1, k1]
  · show (fedS d0 x0 (p.s ++ t)).tk = _
    rw [h2]; rfl
  · show (fedS d0 x0 (p.s ++ t)).out = p.a ++ _
    rw [h2, ← k3]
  · show (fedS d0 x0 (p.s ++ t)).f = p.f ++ _
    rw [h2, ← k4]
theorem PS.chars (p : PS) (h : p.Ok) : charsC p.s = p.a ++ endOut p.d p.x ∧ charsF p.s = p.f ++ (endS p.d p.x).f := by
  unfold charsC charsF
  rw [← h.d, h.x, h.a, h.f]
  exact ⟨rfl, rfl⟩
end Go.Proofs.Ytdmkhcmkfhojgaa.Pure
