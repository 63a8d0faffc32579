/- Plain facts on parts: Cover makes what the reference makes, and it checks. -/
import Derived.Test.YtdciombpffkcjaaSpnA
namespace Go.Proofs.Ytdciombpffkcjaa.Pure
open Go.RowKit Go.Proofs.Ytdciombpffkcjaa.P Go.Proofs.YtdciombpffkcjaaW.PrintWords Go.Proofs.YtdciombpffkcjaaW.PrintLast Go.Proofs.YtdciombpffkcjaaW.PrintMore
theorem putX_pos (xs : List S42) (a u c : Int) (h : ¬ u ≤ a) : putX xs a u c = (putR xs a u c, u) := by
  unfold putX putR
  rw [if_neg h, if_neg h]
  split <;> rfl
theorem step_eq (n : Int) (c : List S42 × Int) (t : S39) : stepX n c t = stepR n c t := by
  unfold stepX stepR
  by_cases h : cls t = 0 ∨ min t.f6.f1 n ≤ max t.f6.f0 c.2
  · rw [if_pos h, if_pos h]
  · rw [if_neg h, if_neg h]
    by_cases hf : t.f6.f0 ≤ c.2
    · have e1 : putX c.1 c.2 t.f6.f0 2 = (c.1, c.2) := if_pos hf
      have e2 : max t.f6.f0 c.2 = c.2 := by omega
      have e3 : putR c.1 c.2 c.2 2 = c.1 := if_pos (Int.le_refl _)
      rw [e1, e2, e3]
      exact putX_pos _ _ _ _ (by omega)
    · have e1 := putX_pos c.1 c.2 t.f6.f0 2 hf
      have e2 : max t.f6.f0 c.2 = t.f6.f0 := by omega
      rw [e1, e2]
      exact putX_pos _ _ _ _ (by omega)
theorem cs_eq (n : Int) (l : List S39) (k : Nat) : csX n l k = csR n l k := by
  unfold csX csR
  congr 1
  funext c t
  exact step_eq n c t
theorem cov_eq (l : List S39) (n : Int) : covX l n = covR l n := by
  unfold covX covR
  rw [cs_eq, putX_R]
def scan : List S42 → Int → Int → Option (Int × Int)
  | [], a, w => some (a, w)
  | p :: l, a, w => if fits p a w = true then scan l p.f0.f1 p.f1 else none
theorem chk_scan (n : Int) (l : List S42) : ∀ a w a' w', scan l a w = some (a', w') → chk l a w n = (a' == mx n 0) := by
  induction l with
  | nil =>
    intro a w a' w' h
    cases h
    rfl
  | cons p l ih =>
    intro a w a' w' h
    unfold scan at h
    unfold chk
    split at h
    · rename_i hf
      rw [if_pos hf]
      exact ih _ _ _ _ h
    · cases h
theorem scan_snoc (p : S42) (l : List S42) : ∀ a w a' w', scan (l ++ [p]) a w = some (a', w') ↔ ∃ b v, scan l a w = some (b, v) ∧ fits p b v = true ∧ a' = p.f0.f1 ∧ w' = p.f1 := by
  induction l with
  | nil =>
    intro a w a' w'
    simp only [List.nil_append, scan]
    constructor
    · intro h
      split at h
      · cases h
        exact ⟨a, w, rfl, by assumption, rfl, rfl⟩
      · cases h
    · rintro ⟨b, v, h1, h2, rfl, rfl⟩
      cases h1
      rw [if_pos h2]
  | cons q l ih =>
    intro a w a' w'
    simp only [List.cons_append, scan]
    constructor
    · intro h
      split at h
      · rename_i hf
        obtain ⟨b, v, h1, h2⟩ := (ih _ _ _ _).1 h
        exact ⟨b, v, by rw [if_pos hf]; exact h1, h2⟩
      · cases h
    · rintro ⟨b, v, h1, h2⟩
      split at h1
      · rename_i hf
        rw [if_pos hf]
        exact (ih _ _ _ _).2 ⟨b, v, h1, h2⟩
      · cases h1
theorem lastP_snoc (ys : List S42) (p : S42) : lastP (ys ++ [p]) = p := by
  unfold lastP
  simp
theorem longer_snoc (ys : List S42) (p : S42) (u : Int) : longer (ys ++ [p]) u = ys ++ [⟨⟨p.f0.f0, u⟩, p.f1⟩] := by
  unfold longer
  rw [lastP_snoc]
  simp
def Good (xs : List S42) (a : Int) : Prop := ∃ w, scan xs 0 0 = some (a, w) ∧ (xs = [] → w = 0 ∧ a = 0) ∧ (xs ≠ [] → w = (lastP xs).f1)
theorem put_good {xs : List S42} {a : Int} (h : Good xs a) (u c : Int) (hu : a < u) (h1 : 1 ≤ c) (h5 : c ≤ 5) : Good (putR xs a u c) u := by
  unfold putR
  rw [if_neg (by omega)]
  obtain ⟨w, hs, he, hne⟩ := h
  rcases List.eq_nil_or_concat xs with rfl | ⟨ys, p, hx⟩
  · obtain ⟨rfl, rfl⟩ := he rfl
    rw [if_neg (fun h => h.1 rfl)]
    refine ⟨c, (scan_snoc _ _ _ _ _ _).2 ⟨0, 0, rfl, (fits_iff _ _ _).2 ⟨⟨rfl, hu, h1, h5⟩, fun h => ?_⟩, rfl, rfl⟩, fun h => ?_, fun _ => ?_⟩
    · have := h.2
      simp only at this
      omega
    · simp at h
    · rw [lastP_snoc]
  · rw [List.concat_eq_append] at hx
    subst hx
    have hw := hne (by simp)
    rw [lastP_snoc] at hw
    subst hw
    obtain ⟨b, v, hb, hf, ha, -⟩ := (scan_snoc _ _ _ _ _ _).1 hs
    have hf' := (fits_iff _ _ _).1 hf
    rw [lastP_snoc, longer_snoc]
    split
    · rename_i hc
      refine ⟨p.f1, (scan_snoc _ _ _ _ _ _).2 ⟨b, v, hb, (fits_iff _ _ _).2 ⟨⟨hf'.1.1, ?_, hf'.1.2.2.1, hf'.1.2.2.2⟩, hf'.2⟩, rfl, rfl⟩, fun h => ?_, fun _ => ?_⟩
      · have := hf'.1.2.1
        show p.f0.f0 < u
        omega
      · simp at h
      · rw [lastP_snoc]
    · rename_i hc
      refine ⟨c, (scan_snoc _ _ _ _ _ _).2 ⟨a, p.f1, hs, (fits_iff _ _ _).2 ⟨⟨rfl, hu, h1, h5⟩, fun h => ?_⟩, rfl, rfl⟩, fun h => ?_, fun _ => ?_⟩
      · have h1 : c = 1 := h.1
        have h2 : c = p.f1 := h.2
        exact hc ⟨by simp, h1, by omega⟩
      · simp at h
      · rw [lastP_snoc]
theorem put_same (xs : List S42) (a u c : Int) (h : u ≤ a) : putR xs a u c = xs := if_pos h
theorem cls_range (t : S39) (h : ¬ cls t = 0) : 1 ≤ cls t ∧ cls t ≤ 5 := by
  unfold cls at h ⊢
  split
  · omega
  · split
    · omega
    · split
      · omega
      · split
        · split <;> omega
        · rename_i h1 h2 h3 h4
          rw [if_neg h1, if_neg h2, if_neg h3, if_neg h4] at h
          exact absurd rfl h
theorem step_good (n : Int) (c : List S42 × Int) (t : S39) (h : Good c.1 c.2) (hn : c.2 ≤ n) : Good (stepR n c t).1 (stepR n c t).2 ∧ (stepR n c t).2 ≤ n := by
  unfold stepR
  split
  · exact ⟨h, hn⟩
  · rename_i hc
    have hcl := cls_range t (fun h => hc (.inl h))
    have hM : max t.f6.f0 c.2 < min t.f6.f1 n := by omega
    refine ⟨put_good ?_ _ _ hM hcl.1 hcl.2, by show min t.f6.f1 n ≤ n; omega⟩
    by_cases he : max t.f6.f0 c.2 ≤ c.2
    · rw [put_same _ _ _ _ he, show max t.f6.f0 c.2 = c.2 by omega]
      exact h
    · exact put_good h _ _ (by omega) (by omega) (by omega)
theorem cs_good (n : Int) (hn : 0 ≤ n) (l : List S39) : ∀ k, Good (csR n l k).1 (csR n l k).2 ∧ (csR n l k).2 ≤ n := by
  intro k
  induction k with
  | zero => exact ⟨⟨0, rfl, fun _ => ⟨rfl, rfl⟩, fun h => absurd rfl h⟩, hn⟩
  | succ k ih =>
    cases h : l[k]? with
    | some x =>
      rw [csR_step n l k x h]
      exact step_good n _ x ih.1 ih.2
    | none =>
      have : csR n l (k + 1) = csR n l k := by
        unfold csR
        rw [List.take_add_one, h]
        simp
      rw [this]
      exact ih
theorem cov_good (l : List S39) (n : Int) : chk (covR l n) 0 0 n = true := by
  have hm : max n 0 = mx n 0 := by unfold mx; split <;> omega
  obtain ⟨hg, hle⟩ := cs_good (max n 0) (by omega) l l.length
  have hG : Good (covR l n) (max n 0) := by
    unfold covR
    by_cases h : max n 0 ≤ (csR (max n 0) l l.length).2
    · rw [put_same _ _ _ _ h]
      have e : (csR (max n 0) l l.length).2 = max n 0 := by omega
      rw [e] at hg
      exact hg
    · exact put_good hg _ _ (by omega) (by omega) (by omega)
  obtain ⟨w, hs, -⟩ := hG
  rw [chk_scan n _ _ _ _ _ hs, hm]
  simp
theorem covR_len (l : List S39) (n : Int) : (covR l n).length ≤ 2 * l.length + 1 := by
  have h1 := csR_len (max n 0) l l.length
  have h2 := putR_len (csR (max n 0) l l.length).1 (csR (max n 0) l l.length).2 (max n 0) 2
  unfold covR
  omega
end Go.Proofs.Ytdciombpffkcjaa.Pure
