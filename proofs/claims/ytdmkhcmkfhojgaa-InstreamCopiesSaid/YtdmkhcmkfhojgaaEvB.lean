/- instream's take over events; what the reference makes of them; the two are one. -/
import Derived.Test.YtdmkhcmkfhojgaaEvA
namespace Go.Proofs.Ytdmkhcmkfhojgaa.Pure
open Go.RowKit Go.Proofs.Ytdmkhcmkfhojgaa.P Go.Proofs.YtdmkhcmkfhojgaaW.PrintWords Go.Proofs.YtdmkhcmkfhojgaaW.PrintLast Go.Proofs.YtdmkhcmkfhojgaaW.PrintMore
set_option linter.unusedVariables false

/-- what is told of a fault at a character -/
def evF (f : List S39) (e : Evt) : List S39 := match e.2 with
  | some x => f ++ [x]
  | none => if 0 < badOf e.1.f0 then f ++ [⟨badOf e.1.f0, e.1.f1⟩] else f
structure Cs where
  waits : Bool
  cr : S36
  out : List S36
def Cs.rest (s : Cs) (c : S36) : Cs :=
  if c.f0 = 13 then ⟨true, ⟨10, c.f1, c.f2⟩, s.out⟩
  else if c.f0 = 0 then ⟨s.waits, s.cr, s.out ++ [⟨65533, c.f1, c.f2⟩]⟩
  else ⟨s.waits, s.cr, s.out ++ [c]⟩
def Cs.chr (s : Cs) (c : S36) : Cs :=
  if s.waits = true then
    if c.f0 = 10 then ⟨false, ⟨s.cr.f0, s.cr.f1, c.f2⟩, s.out ++ [⟨s.cr.f0, s.cr.f1, c.f2⟩]⟩
    else Cs.rest ⟨false, s.cr, s.out ++ [s.cr]⟩ c
  else s.rest c
theorem char_eq (s : TS) (c : S36) : s.char c = ⟨(Cs.chr ⟨s.waits, s.cr, s.out⟩ c).waits, (Cs.chr ⟨s.waits, s.cr, s.out⟩ c).cr, (Cs.chr ⟨s.waits, s.cr, s.out⟩ c).out, s.f, s.odd⟩ := by
  obtain ⟨w, cr, o, f, od⟩ := s
  unfold TS.char Cs.chr TS.rest Cs.rest
  by_cases h1 : w = true
  · by_cases h2 : c.f0 = 10
    · simp [h1, h2]
    · by_cases h3 : c.f0 = 13
      · simp [h1, h3]
      · by_cases h4 : c.f0 = 0 <;> simp [h1, h2, h3, h4]
  · by_cases h3 : c.f0 = 13
    · simp [h1, h3]
    · by_cases h4 : c.f0 = 0 <;> simp [h1, h3, h4]
/-- characters, over events -/
def runC (s : Cs) (es : List Evt) : Cs := es.foldl (fun s e => s.chr e.1) s
def runF (f : List S39) (es : List Evt) : List S39 := es.foldl evF f
theorem runC_append (s : Cs) (a b : List Evt) : runC s (a ++ b) = runC (runC s a) b := List.foldl_append ..
theorem runF_append (f : List S39) (a b : List Evt) : runF f (a ++ b) = runF (runF f a) b := List.foldl_append ..

theorem fault_ev (w : Bool) (cr : S36) (o : List S36) (f : List S39) (e : Evt) (es : List Evt) {lo hi : Int} (h : Chain (e :: es) lo hi) : TS.fault ⟨w, cr, o, f, FM (e :: es)⟩ e.1 = ⟨w, cr, o, evF f e, FM es⟩ := by
  obtain ⟨c, fo⟩ := e
  cases fo with
  | some x =>
    have hx := (h.2.1 x rfl).1
    simp only at hx
    have e1 : FM ((c, some x) :: es) = x :: FM es := rfl
    rw [e1]
    unfold TS.fault
    rw [if_pos (show TS.hit ⟨w, cr, o, f, x :: FM es⟩ c = true from decide_eq_true hx)]
    rfl
  | none =>
    have e1 : FM ((c, (none : Option S39)) :: es) = FM es := rfl
    rw [e1]
    unfold TS.fault
    have hh : TS.hit ⟨w, cr, o, f, FM es⟩ c = false := by
      unfold TS.hit
      cases hf : FM es with
      | nil => rfl
      | cons x xs =>
        have := chain_fm h.2.2 x (by rw [hf]; exact List.mem_cons_self)
        simp only at this ⊢
        exact decide_eq_false (by omega)
    rw [if_neg (by simp only; rw [hh]; decide)]
    unfold evF
    simp only
    split <;> rfl
theorem ts_foldl (l : List S36) : ∀ (k : Nat) (s : TS), k ≤ l.length → TS.upto l s k = (l.take k).foldl TS.step s
  | 0, s, h => by simp [TS.upto]
  | k + 1, s, h => by
    have e : rd_T36 l (k : Int) = l[k] := by simp [rd_T36, List.getD_eq_getElem?_getD, show k < l.length by omega]
    rw [TS.upto, ts_foldl l k s (by omega), List.take_succ_eq_append_getElem (by omega), List.foldl_append, e]
    rfl
theorem run_ev : ∀ (es : List Evt) (w : Bool) (cr : S36) (o : List S36) (f : List S39) (lo hi : Int), Chain es lo hi →
    (CS es).foldl TS.step ⟨w, cr, o, f, FM es⟩ = ⟨(runC ⟨w, cr, o⟩ es).waits, (runC ⟨w, cr, o⟩ es).cr, (runC ⟨w, cr, o⟩ es).out, runF f es, []⟩
  | [], w, cr, o, f, lo, hi, h => rfl
  | e :: es, w, cr, o, f, lo, hi, h => by
    have h1 := fault_ev w cr o f e es h
    have e1 : (CS (e :: es)).foldl TS.step ⟨w, cr, o, f, FM (e :: es)⟩ = (CS es).foldl TS.step ((TS.fault ⟨w, cr, o, f, FM (e :: es)⟩ e.1).char e.1) := rfl
    rw [e1, h1, char_eq, run_ev es _ _ _ _ _ _ h.2.2]
    rfl
theorem upto_run (es : List Evt) (w : Bool) (cr : S36) (o : List S36) (f : List S39) (lo hi : Int) (h : Chain es lo hi) :
    TS.upto (CS es) ⟨w, cr, o, f, FM es⟩ (CS es).length = ⟨(runC ⟨w, cr, o⟩ es).waits, (runC ⟨w, cr, o⟩ es).cr, (runC ⟨w, cr, o⟩ es).out, runF f es, []⟩ := by
  rw [ts_foldl _ _ _ (Nat.le_refl _), List.take_of_length_le (Nat.le_refl _)]
  exact run_ev es w cr o f lo hi h

/-- at the end, what waits is told -/
def Cs.flush (s : Cs) : List S36 := s.out ++ (if s.waits = true then [s.cr] else [])

/-- the reference's way -/
def refRun : List Evt → List S36 → List S39 → List S36 × List S39
  | [], o, f => (o, f)
  | e :: es, o, f =>
    if e.1.f0 = 0 then refRun es (o ++ [⟨65533, e.1.f1, e.1.f2⟩]) (evF f e)
    else if e.1.f0 = 13 then
      match es with
      | [] => (o ++ [⟨10, e.1.f1, e.1.f2⟩], evF f e)
      | e2 :: es2 => if e2.1.f0 = 10 then refRun es2 (o ++ [⟨10, e.1.f1, e2.1.f2⟩]) (evF f e) else refRun (e2 :: es2) (o ++ [⟨10, e.1.f1, e.1.f2⟩]) (evF f e)
    else refRun es (o ++ [e.1]) (evF f e)
theorem ref_0 (e : Evt) (es : List Evt) (o : List S36) (f : List S39) (h : e.1.f0 = 0) : refRun (e :: es) o f = refRun es (o ++ [⟨65533, e.1.f1, e.1.f2⟩]) (evF f e) := by
  rw [refRun.eq_def]; simp only; rw [if_pos h]
theorem ref_13n (e : Evt) (o : List S36) (f : List S39) (h0 : ¬ e.1.f0 = 0) (h : e.1.f0 = 13) : refRun [e] o f = (o ++ [⟨10, e.1.f1, e.1.f2⟩], evF f e) := by
  rw [refRun.eq_def]; simp only; rw [if_neg h0, if_pos h]
theorem ref_13c (e d : Evt) (es : List Evt) (o : List S36) (f : List S39) (h0 : ¬ e.1.f0 = 0) (h : e.1.f0 = 13) : refRun (e :: d :: es) o f = if d.1.f0 = 10 then refRun es (o ++ [⟨10, e.1.f1, d.1.f2⟩]) (evF f e) else refRun (d :: es) (o ++ [⟨10, e.1.f1, e.1.f2⟩]) (evF f e) := by
  rw [refRun.eq_def]; simp only; rw [if_neg h0, if_pos h]
theorem ref_e (e : Evt) (es : List Evt) (o : List S36) (f : List S39) (h0 : ¬ e.1.f0 = 0) (h : ¬ e.1.f0 = 13) : refRun (e :: es) o f = refRun es (o ++ [e.1]) (evF f e) := by
  rw [refRun.eq_def]; simp only; rw [if_neg h0, if_neg h]
theorem bad10 : badOf 10 = 0 := by decide +kernel
theorem evF_10 (f : List S39) (e : Evt) (h : e.1.f0 = 10) (hf : ∀ x, e.2 = some x → x.f1 = e.1.f1 ∧ e.1.f0 = 65533) : evF f e = f := by
  obtain ⟨c, fo⟩ := e
  cases fo with
  | some x => have := (hf x rfl).2; simp only at this h; omega
  | none => unfold evF; simp only at h ⊢; rw [h, bad10]; rfl
theorem ref_run : ∀ (n : Nat) (es : List Evt) (o : List S36) (f : List S39) (cr : S36) (lo hi : Int), es.length ≤ n → Chain es lo hi → refRun es o f = ((runC ⟨false, cr, o⟩ es).flush, runF f es)
  | _, [], o, f, cr, lo, hi, hn, h => by simp [refRun, runC, runF, Cs.flush]
  | 0, e :: es, o, f, cr, lo, hi, hn, h => by simp at hn
  | n + 1, e :: es, o, f, cr, lo, hi, hn, h => by
    simp only [List.length_cons] at hn
    have e1 : runF f (e :: es) = runF (evF f e) es := rfl
    have q2 : runC ⟨false, cr, o⟩ (e :: es) = runC (Cs.chr ⟨false, cr, o⟩ e.1) es := rfl
    rw [e1, q2]
    by_cases h0 : e.1.f0 = 0
    · have e3 : Cs.chr ⟨false, cr, o⟩ e.1 = ⟨false, cr, o ++ [⟨65533, e.1.f1, e.1.f2⟩]⟩ := by simp [Cs.chr, Cs.rest, h0]
      rw [ref_0 e es o f h0, e3]
      exact ref_run n es _ _ cr _ _ (by omega) h.2.2
    by_cases h13 : e.1.f0 = 13
    · have e3 : Cs.chr ⟨false, cr, o⟩ e.1 = ⟨true, ⟨10, e.1.f1, e.1.f2⟩, o⟩ := by simp [Cs.chr, Cs.rest, h13]
      rw [e3]
      cases es with
      | nil => rw [ref_13n e o f h0 h13]; simp [runC, runF, Cs.flush]
      | cons e2 es2 =>
        simp only [List.length_cons] at hn
        have e4 : runC ⟨true, ⟨10, e.1.f1, e.1.f2⟩, o⟩ (e2 :: es2) = runC (Cs.chr ⟨true, ⟨10, e.1.f1, e.1.f2⟩, o⟩ e2.1) es2 := rfl
        have e5 : runF (evF f e) (e2 :: es2) = runF (evF (evF f e) e2) es2 := rfl
        rw [ref_13c e e2 es2 o f h0 h13]
        by_cases h10 : e2.1.f0 = 10
        · have e6 : Cs.chr ⟨true, ⟨10, e.1.f1, e.1.f2⟩, o⟩ e2.1 = ⟨false, ⟨10, e.1.f1, e2.1.f2⟩, o ++ [⟨10, e.1.f1, e2.1.f2⟩]⟩ := by simp [Cs.chr, h10]
          rw [if_pos h10, e4, e5, e6, evF_10 _ e2 h10 h.2.2.2.1]
          exact ref_run n es2 _ _ _ _ _ (by omega) h.2.2.2.2
        · have e6 : Cs.chr ⟨true, ⟨10, e.1.f1, e.1.f2⟩, o⟩ e2.1 = Cs.chr ⟨false, ⟨10, e.1.f1, e.1.f2⟩, o ++ [⟨10, e.1.f1, e.1.f2⟩]⟩ e2.1 := by simp [Cs.chr, h10]
          rw [if_neg h10, e4, e6]
          exact ref_run n (e2 :: es2) _ _ ⟨10, e.1.f1, e.1.f2⟩ _ _ (by simp only [List.length_cons]; omega) h.2.2
    · have e3 : Cs.chr ⟨false, cr, o⟩ e.1 = ⟨false, cr, o ++ [e.1]⟩ := by simp [Cs.chr, Cs.rest, h0, h13]
      rw [e3, ref_e e es o f h0 h13]
      exact ref_run n es _ _ cr _ _ (by omega) h.2.2
end Go.Proofs.Ytdmkhcmkfhojgaa.Pure
