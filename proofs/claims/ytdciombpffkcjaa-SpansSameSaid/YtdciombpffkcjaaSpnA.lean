/- Plain facts on parts: what Check, Same, At and Cover tell. -/
import Derived.Test.YtdciombpffkcjaaPx3
namespace Go.Proofs.Ytdciombpffkcjaa.Pure
open Go.RowKit Go.Proofs.Ytdciombpffkcjaa.P Go.Proofs.YtdciombpffkcjaaW.PrintWords Go.Proofs.YtdciombpffkcjaaW.PrintLast Go.Proofs.YtdciombpffkcjaaW.PrintMore
set_option linter.unusedVariables false
set_option linter.unusedSimpArgs false
theorem awake_ev : Ev (fun k => taffraillaw12_awake.f k) true := Ev.of (fun k => taffraillaw12_awake.mono k) (k := 60) (by decide +kernel)
theorem rd42 (l : List S42) (i : Nat) (h : i < l.length) : rd_T42 l (i : Int) = l[i] := by
  unfold rd_T42
  rw [Int.toNat_natCast, List.getD_eq_getElem?_getD, List.getElem?_eq_getElem h]
  rfl
theorem wr1 (i : Nat) (h : i ≤ 140737488351232) : wrap64 ((i : Int) + 1) = ((i + 1 : Nat) : Int) := by
  rw [wrap_id _ (by omega) (by omega)]
  omega
/-- are two parts the same? -/
def eqP (a b : S42) : Bool := a.f0.f0 == b.f0.f0 && a.f0.f1 == b.f0.f1 && a.f1 == b.f1
def sB : List S42 → List S42 → Bool
  | a :: l, b :: m => eqP a b && sB l m
  | _, _ => true
def same (l m : List S42) : Bool := decide (l.length = m.length) && sB l m
theorem eqP_not (a b : S42) : ((!(a.f0.f0 == b.f0.f0) || !(a.f0.f1 == b.f0.f1)) || !(a.f1 == b.f1)) = !eqP a b := by
  unfold eqP
  cases (a.f0.f0 == b.f0.f0) <;> cases (a.f0.f1 == b.f0.f1) <;> cases (a.f1 == b.f1) <;> rfl
theorem part_ev (l m : List S42) (hlm : l.length = m.length) (hl : l.length ≤ 140737488351232) : ∀ (d i : Nat), i + d = l.length → Ev (fun k => api_Part.l0 k l m (l.length : Int) (i : Int)) (sB (l.drop i) (m.drop i))
  | 0, i, h => by
    have e : sB (l.drop i) (m.drop i) = true := by rw [List.drop_of_length_le (by omega)]; rfl
    rw [e]
    exact Ev.step (fun k => by simp only [api_Part.l0]; rw [if_neg (by omega)]) (Ev.now true)
  | d + 1, i, h => by
    have h1 : i < l.length := by omega
    have h2 : i < m.length := by omega
    have e : sB (l.drop i) (m.drop i) = (eqP l[i] m[i] && sB (l.drop (i + 1)) (m.drop (i + 1))) := by
      rw [List.drop_eq_getElem_cons h1, List.drop_eq_getElem_cons h2]
      rfl
    rw [e]
    refine Ev.step (f := fun k => if (!eqP l[i] m[i]) = true then some false else api_Part.l0 k l m (l.length : Int) ((i + 1 : Nat) : Int)) (fun k => by
      simp only [api_Part.l0]
      rw [if_pos (by omega), if_pos (by omega), if_pos (by omega), if_pos (by omega), rd42 l i h1, rd42 m i h2, eqP_not, wr1 i (by omega)]) ?_
    cases hq : eqP l[i] m[i] with
    | false => exact Ev.now false
    | true =>
      simp only [Bool.not_true, Bool.false_eq_true, if_false, Bool.true_and]
      exact part_ev l m hlm hl d (i + 1) (by omega)
theorem ref_ev (l m : List S42) (hlm : l.length = m.length) (hl : l.length ≤ 140737488351232) : ∀ (d i : Nat), i + d = l.length → Ev (fun k => taffrailref12_Same.l0 k l m (i : Int)) (sB (l.drop i) (m.drop i))
  | 0, i, h => by
    have e : sB (l.drop i) (m.drop i) = true := by rw [List.drop_of_length_le (by omega)]; rfl
    rw [e]
    exact Ev.step (fun k => by simp only [taffrailref12_Same.l0]; rw [if_neg (by omega)]) (Ev.now true)
  | d + 1, i, h => by
    have h1 : i < l.length := by omega
    have h2 : i < m.length := by omega
    have e : sB (l.drop i) (m.drop i) = (eqP l[i] m[i] && sB (l.drop (i + 1)) (m.drop (i + 1))) := by
      rw [List.drop_eq_getElem_cons h1, List.drop_eq_getElem_cons h2]
      rfl
    rw [e]
    refine Ev.step (f := fun k => if (!eqP l[i] m[i]) = true then some false else taffrailref12_Same.l0 k l m ((i + 1 : Nat) : Int)) (fun k => by
      simp only [taffrailref12_Same.l0]
      rw [if_pos (by omega), if_pos (by omega), if_pos (by omega), rd42 l i h1, rd42 m i h2, eqP_not, wr1 i (by omega)]) ?_
    cases hq : eqP l[i] m[i] with
    | false => exact Ev.now false
    | true =>
      simp only [Bool.not_true, Bool.false_eq_true, if_false, Bool.true_and]
      exact ref_ev l m hlm hl d (i + 1) (by omega)
theorem same_ev (l m : List S42) (hl : l.length ≤ 140737488351232) : Ev (fun k => spans_Same.f k l m) (same l m) := by
  unfold same
  by_cases h : l.length = m.length
  · rw [decide_eq_true h, Bool.true_and]
    have e := part_ev l m h hl l.length 0 (by omega)
    refine Ev.congr (f := fun k => api_Part.l0 k l m (l.length : Int) ((0 : Nat) : Int)) (fun k => ?_) e
    unfold spans_Same.f api_Part.f
    rw [if_pos (by omega)]
    cases api_Part.l0 k l m (l.length : Int) 0 <;> rfl
  · rw [decide_eq_false h, Bool.false_and]
    refine Ev.congr (f := fun _ => some false) (fun k => ?_) (Ev.now false)
    unfold spans_Same.f api_Part.f
    rw [if_neg (by omega)]
    rfl
theorem refSame_ev (l m : List S42) (hl : l.length ≤ 140737488351232) : Ev (fun k => taffrailref12_Same.f k l m) (same l m) := by
  unfold same
  by_cases h : l.length = m.length
  · rw [decide_eq_true h, Bool.true_and]
    have e := ref_ev l m h hl l.length 0 (by omega)
    refine Ev.congr (f := fun k => taffrailref12_Same.l0 k l m ((0 : Nat) : Int)) (fun k => ?_) e
    unfold taffrailref12_Same.f
    rw [if_pos (by omega)]
    rfl
  · rw [decide_eq_false h, Bool.false_and]
    refine Ev.congr (f := fun _ => some false) (fun k => ?_) (Ev.now false)
    unfold taffrailref12_Same.f
    rw [if_neg (by omega)]
theorem same_refl (l : List S42) : same l l = true := by
  unfold same
  rw [decide_eq_true rfl, Bool.true_and]
  induction l with
  | nil => rfl
  | cons a l ih =>
    unfold sB
    rw [ih]
    simp [eqP]
/-- a part fits behind a place and a class -/
def fits (p : S42) (a w : Int) : Bool := p.f0.f0 == a && decide (p.f0.f0 < p.f0.f1) && decide (1 ≤ p.f1) && decide (p.f1 ≤ 5) && !(p.f1 == 1 && p.f1 == w)
theorem fits_iff (p : S42) (a w : Int) : fits p a w = true ↔ (p.f0.f0 = a ∧ p.f0.f0 < p.f0.f1 ∧ 1 ≤ p.f1 ∧ p.f1 ≤ 5) ∧ ¬ (p.f1 = 1 ∧ p.f1 = w) := by
  unfold fits
  simp only [Bool.and_eq_true, beq_iff_eq, decide_eq_true_eq, Bool.not_eq_true', Bool.and_eq_false_iff, beq_eq_false_iff_ne]
  constructor
  · rintro ⟨⟨⟨⟨h1, h2⟩, h3⟩, h4⟩, h5⟩
    refine ⟨⟨h1, h2, h3, h4⟩, ?_⟩
    rintro ⟨q1, q2⟩
    rcases h5 with h | h
    · exact h q1
    · exact h q2
  · rintro ⟨⟨h1, h2, h3, h4⟩, h5⟩
    refine ⟨⟨⟨⟨h1, h2⟩, h3⟩, h4⟩, ?_⟩
    by_cases q1 : p.f1 = 1
    · exact .inr (fun q2 => h5 ⟨q1, q2⟩)
    · exact .inl q1
def chk : List S42 → Int → Int → Int → Bool
  | [], a, w, n => a == mx n 0
  | p :: l, a, w, n => if fits p a w = true then chk l p.f0.f1 p.f1 n else false
theorem check_ev (l : List S42) (n : Int) (hl : l.length ≤ 140737488351232) : ∀ (d i : Nat) (z a w : Int), i + d = l.length → Ev (fun k => spans_Check.l0 k n l (l.length : Int) (i : Int) z a w) (chk (l.drop i) a w n)
  | 0, i, z, a, w, h => by
    have e : chk (l.drop i) a w n = (a == mx n 0) := by rw [List.drop_of_length_le (by omega)]; rfl
    rw [e]
    exact Ev.step (fun k => by simp only [spans_Check.l0]; rw [if_neg (by omega)]) (Ev.now _)
  | d + 1, i, z, a, w, h => by
    have h1 : i < l.length := by omega
    have e : chk (l.drop i) a w n = if fits l[i] a w = true then chk (l.drop (i + 1)) l[i].f0.f1 l[i].f1 n else false := by
      rw [List.drop_eq_getElem_cons h1]
      rfl
    rw [e]
    have ih := fun z => check_ev l n hl d (i + 1) z l[i].f0.f1 l[i].f1 (by omega)
    obtain ⟨p, hp⟩ : ∃ p, l[i] = p := ⟨_, rfl⟩
    rw [hp] at ih ⊢
    have hj : ∀ b, Ev (fun k => spans_Check.j1 k n l (l.length : Int) (i : Int) b z a w p.f0.f0 p.f0.f1 p.f1) (if b = true then false else if p.f1 = 1 ∧ p.f1 = w then false else chk (l.drop (i + 1)) p.f0.f1 p.f1 n) := by
      intro b
      cases b with
      | true => exact Ev.step (fun k => by simp only [spans_Check.j1]; rw [if_pos trivial]) (Ev.now false)
      | false =>
        simp only [Bool.false_eq_true, if_false]
        refine Ev.step (f := fun k => if p.f1 = 1 ∧ p.f1 = w then some false else spans_Check.l0 k n l (l.length : Int) ((i + 1 : Nat) : Int) p.f0.f0 p.f0.f1 p.f1) (fun k => by
          simp only [spans_Check.j1, Bool.false_eq_true, if_false, wr1 i (by omega), beq_iff_eq]
          by_cases q1 : p.f1 = 1
          · by_cases q2 : p.f1 = w
            · rw [if_pos q1, if_pos q2, if_pos ⟨q1, q2⟩]
            · rw [if_pos q1, if_neg q2, if_neg (fun h => q2 h.2)]
          · rw [if_neg q1, if_neg (fun h => q1 h.1)]) ?_
        split
        · exact Ev.now false
        · exact ih _
    refine Ev.step (f := fun k => spans_Check.j1 k n l (l.length : Int) (i : Int) (decide (¬ (p.f0.f0 = a ∧ p.f0.f0 < p.f0.f1 ∧ 1 ≤ p.f1 ∧ p.f1 ≤ 5))) z a w p.f0.f0 p.f0.f1 p.f1) (fun k => by
      simp only [spans_Check.l0]
      rw [if_pos (by omega), if_pos (by omega), if_pos (by omega), rd42 l i h1, hp]
      by_cases q1 : p.f0.f0 = a
      · rw [if_pos q1]
        by_cases q2 : p.f0.f1 ≤ p.f0.f0
        · rw [if_pos q2, decide_eq_true (by omega)]
        · rw [if_neg q2]
          by_cases q3 : p.f1 < 1
          · rw [if_pos q3, decide_eq_true (by omega)]
          · rw [if_neg q3]
            congr 1
            apply decide_eq_decide.2
            omega
      · rw [if_neg q1, decide_eq_true (by omega)]) ?_
    have := hj (decide (¬ (p.f0.f0 = a ∧ p.f0.f0 < p.f0.f1 ∧ 1 ≤ p.f1 ∧ p.f1 ≤ 5)))
    have ee : (if fits p a w = true then chk (l.drop (i + 1)) p.f0.f1 p.f1 n else false) = (if decide (¬ (p.f0.f0 = a ∧ p.f0.f0 < p.f0.f1 ∧ 1 ≤ p.f1 ∧ p.f1 ≤ 5)) = true then false else if p.f1 = 1 ∧ p.f1 = w then false else chk (l.drop (i + 1)) p.f0.f1 p.f1 n) := by
      have hf := fits_iff p a w
      by_cases q : p.f0.f0 = a ∧ p.f0.f0 < p.f0.f1 ∧ 1 ≤ p.f1 ∧ p.f1 ≤ 5
      · have hd : decide (¬ (p.f0.f0 = a ∧ p.f0.f0 < p.f0.f1 ∧ 1 ≤ p.f1 ∧ p.f1 ≤ 5)) = false := decide_eq_false (fun h => h q)
        rw [hd]
        have hff : ¬ (false = true) := by decide
        by_cases q2 : p.f1 = 1 ∧ p.f1 = w
        · have hn : ¬ fits p a w = true := fun h => (hf.1 h).2 q2
          rw [if_neg hn, if_neg hff, if_pos q2]
        · have hy : fits p a w = true := hf.2 ⟨q, q2⟩
          rw [if_pos hy, if_neg hff, if_neg q2]
      · have hd : decide (¬ (p.f0.f0 = a ∧ p.f0.f0 < p.f0.f1 ∧ 1 ≤ p.f1 ∧ p.f1 ≤ 5)) = true := decide_eq_true q
        have hn : ¬ fits p a w = true := fun h => q (hf.1 h).1
        rw [hd, if_neg hn, if_pos rfl]
    rw [ee]
    exact this
theorem refCheck_ev (l : List S42) (n : Int) (hl : l.length ≤ 140737488351232) : ∀ (d i : Nat) (a w : Int), i + d = l.length → Ev (fun k => taffrailref12_Check.l0 k l n a w (i : Int)) (chk (l.drop i) a w n)
  | 0, i, a, w, h => by
    have e : chk (l.drop i) a w n = (a == mx n 0) := by rw [List.drop_of_length_le (by omega)]; rfl
    rw [e]
    exact Ev.step (fun k => by simp only [taffrailref12_Check.l0]; rw [if_neg (by omega)]) (Ev.now _)
  | d + 1, i, a, w, h => by
    have h1 : i < l.length := by omega
    have e : chk (l.drop i) a w n = if fits l[i] a w = true then chk (l.drop (i + 1)) l[i].f0.f1 l[i].f1 n else false := by
      rw [List.drop_eq_getElem_cons h1]
      rfl
    rw [e]
    have ih := refCheck_ev l n hl d (i + 1) l[i].f0.f1 l[i].f1 (by omega)
    obtain ⟨p, hp⟩ : ∃ p, l[i] = p := ⟨_, rfl⟩
    rw [hp] at ih ⊢
    refine Ev.step (f := fun k => taffrailref12_Check.j1 k l n (i : Int) (!fits p a w) p.f0.f0 p.f0.f1 p.f1) (fun k => by
      have hf := fits_iff p a w
      simp only [taffrailref12_Check.l0]
      rw [if_pos (by omega), if_pos (by omega), rd42 l i h1, hp]
      by_cases q1 : p.f0.f0 = a
      · rw [if_pos q1]
        by_cases q2 : p.f0.f1 ≤ a
        · have hn : fits p a w = false := by
            rw [Bool.eq_false_iff]
            intro h
            have := (hf.1 h).1
            omega
          rw [if_pos q2, hn]
          rfl
        · rw [if_neg q2]
          by_cases q3 : p.f1 < 1
          · have hn : fits p a w = false := by
              rw [Bool.eq_false_iff]
              intro h
              have := (hf.1 h).1
              omega
            rw [if_pos q3, hn]
            rfl
          · rw [if_neg q3]
            by_cases q4 : p.f1 > 5
            · have hn : fits p a w = false := by
                rw [Bool.eq_false_iff]
                intro h
                have := (hf.1 h).1
                omega
              rw [if_pos q4, hn]
              rfl
            · rw [if_neg q4]
              by_cases q5 : w = 1
              · rw [if_pos q5]
                by_cases q6 : p.f1 = w
                · have hn : fits p a w = false := by
                    rw [Bool.eq_false_iff]
                    intro h
                    exact (hf.1 h).2 ⟨by omega, q6⟩
                  rw [hn, beq_iff_eq.2 q6]
                  rfl
                · have hy : fits p a w = true := hf.2 ⟨by omega, fun h => q6 h.2⟩
                  rw [hy, beq_eq_false_iff_ne.2 q6]
                  rfl
              · have hy : fits p a w = true := hf.2 ⟨by omega, fun h => q5 (by omega)⟩
                rw [if_neg q5, hy]
                rfl
      · have hn : fits p a w = false := by
          rw [Bool.eq_false_iff]
          intro h
          exact q1 (hf.1 h).1.1
        rw [if_neg q1, hn]
        rfl) ?_
    cases hq : fits p a w with
    | false =>
      simp only [Bool.not_false, Bool.false_eq_true, if_false]
      exact Ev.step (fun k => by simp only [taffrailref12_Check.j1]; rw [if_pos trivial]) (Ev.now false)
    | true =>
      simp only [Bool.not_true, if_true]
      exact Ev.step (fun k => by simp only [taffrailref12_Check.j1, Bool.false_eq_true, if_false, wr1 i (by omega)]) ih
theorem check_all (l : List S42) (n : Int) (hl : l.length ≤ 140737488351232) : Ev (fun k => spans_Check.f k l n) (chk l 0 0 n) := check_ev l n hl l.length 0 0 0 0 (by omega)
theorem refCheck_all (l : List S42) (n : Int) (hl : l.length ≤ 140737488351232) : Ev (fun k => taffrailref12_Check.f k l n) (chk l 0 0 n) := refCheck_ev l n hl l.length 0 0 0 (by omega)
/-- the first part that has a byte: its class -/
def atF : List S42 → Int → Int
  | [], _ => 0
  | p :: l, a => if hasB p a = true then p.f1 else atF l a
theorem atX_atF (a : Int) : ∀ l, atX l a = atF l a
  | [] => rfl
  | p :: l => by
    have ih := atX_atF a l
    unfold atX idxB at ih ⊢
    unfold atF
    rw [List.findIdx_cons]
    cases h : hasB p a with
    | true => simp
    | false =>
      simp only [cond_false, Bool.false_eq_true, if_false, List.length_cons]
      rw [← ih]
      by_cases hlt : List.findIdx (fun p => hasB p a) l < l.length
      · rw [if_pos (by omega), if_pos hlt]
        simp
      · rw [if_neg (by omega), if_neg hlt]
theorem refAt_ev (l : List S42) (a : Int) (hl : l.length ≤ 140737488351232) : ∀ (d i : Nat), i + d = l.length → Ev (fun k => taffrailref12_At.l0 k l a (i : Int)) (atF (l.drop i) a)
  | 0, i, h => by
    have e : atF (l.drop i) a = 0 := by rw [List.drop_of_length_le (by omega)]; rfl
    rw [e]
    exact Ev.step (fun k => by simp only [taffrailref12_At.l0]; rw [if_neg (by omega)]) (Ev.now _)
  | d + 1, i, h => by
    have h1 : i < l.length := by omega
    have e : atF (l.drop i) a = if hasB l[i] a = true then l[i].f1 else atF (l.drop (i + 1)) a := by
      rw [List.drop_eq_getElem_cons h1]
      rfl
    rw [e]
    have ih := refAt_ev l a hl d (i + 1) (by omega)
    obtain ⟨p, hp⟩ : ∃ p, l[i] = p := ⟨_, rfl⟩
    rw [hp]
    refine Ev.step (f := fun k => if hasB p a = true then some p.f1 else taffrailref12_At.l0 k l a ((i + 1 : Nat) : Int)) (fun k => by
      have hb : hasB p a = true ↔ p.f0.f0 ≤ a ∧ a < p.f0.f1 := by unfold hasB; simp
      simp only [taffrailref12_At.l0]
      rw [if_pos (by omega), if_pos (by omega), rd42 l i h1, hp, wr1 i (by omega)]
      by_cases q1 : a ≥ p.f0.f0
      · rw [if_pos q1]
        by_cases q2 : a < p.f0.f1
        · rw [if_pos q2, if_pos (hb.2 ⟨q1, q2⟩)]
        · rw [if_neg q2, if_neg (fun h => q2 (hb.1 h).2)]
      · rw [if_neg q1, if_neg (fun h => q1 (hb.1 h).1)]) ?_
    split
    · exact Ev.now _
    · exact ih
theorem refAt_all (l : List S42) (a : Int) (hl : l.length ≤ 140737488351232) : Ev (fun k => taffrailref12_At.f k l a) (atX l a) := by
  rw [atX_atF]
  exact refAt_ev l a hl l.length 0 (by omega)
end Go.Proofs.Ytdciombpffkcjaa.Pure
