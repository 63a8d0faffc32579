/- 13, and 10 behind it, are one 10: a text with its line ends so told has the same characters' numbers as it has without 13s. No condition. -/
import Derived.Test.YtdmkhcmkfhojgaaSayInstreamLines
import Derived.Test.YtdmkhcmkfhojgaaEvL
namespace Go.Proofs.Ytdmkhcmkfhojgaa.Pure
open Go.RowKit Go.Proofs.Ytdmkhcmkfhojgaa.P Go.Proofs.YtdmkhcmkfhojgaaW.PrintWords Go.Proofs.YtdmkhcmkfhojgaaW.PrintLast Go.Proofs.YtdmkhcmkfhojgaaW.PrintMore
set_option linter.unusedVariables false

theorem chars_rs (t : ByteArray) (ht : t.size ≤ 20000) : rs (charsC t) = RM (emR d0 (bytesOfA t) ++ (if (emD d0 (bytesOfA t)).have_ = 0 then [] else [65533])) := by
  obtain ⟨⟨es, hi, hch, q1, q2, htold, hL⟩, _, _⟩ := chars_evs t ht
  have h1 := ref_run _ es [] [] ⟨0, 0, 0⟩ _ _ (Nat.le_refl _) hch
  have h2 := ref_RM _ es [] [] (Nat.le_refl _)
  rw [h1] at h2
  rw [q1]
  refine h2.trans ?_
  have h3 : CS es = (told t).1 := by rw [htold]
  rw [h3]
  show RM _ = _
  congr 1
  obtain ⟨u1, u2⟩ := upto_em t d0 t.size (Nat.le_refl _)
  rw [List.take_of_length_le (by rw [bytes_len]; exact Nat.le_refl _)] at u1 u2
  have hz : Dec.z d0 = d0 := rfl
  rw [hz] at u1 u2
  unfold told St.res
  show rs ((St.upto t ⟨d0, [], []⟩ t.size).cs ++ (St.upto t ⟨d0, [], []⟩ t.size).d.endC) = _
  have e1 : ∀ a b : List S36, rs (a ++ b) = rs a ++ rs b := fun a b => List.map_append ..
  rw [e1, u2]
  congr 1
  have hh : (St.upto t ⟨d0, [], []⟩ t.size).d.have_ = (emD d0 (bytesOfA t)).have_ := by rw [← u1]; rfl
  rw [← hh]
  unfold Dec.endC
  split <;> rfl

def BA (ls : List ByteArray) : List Int := ls.flatMap (fun l => bytesOfA l ++ [13, 10])
def BB (ls : List ByteArray) : List Int := ls.flatMap (fun l => bytesOfA l ++ [10])
def Clean (l : ByteArray) : Prop := ∀ c ∈ bytesOfA l, 0 ≤ c ∧ c ≤ 255 ∧ c ≠ 13
theorem em_lines : ∀ (ls : List ByteArray) (d : Dec), GD d → d.have_ = 0 → (∀ l ∈ ls, Clean l) → RM (emR d (BA ls)) = RM (emR d (BB ls)) ∧ (emD d (BA ls)).have_ = 0 ∧ (emD d (BB ls)).have_ = 0
  | [], d, hd, h0, hc => ⟨rfl, h0, h0⟩
  | l :: ls, d, hd, h0, hc => by
    obtain ⟨g1, g2⟩ := em_gd (bytesOfA l) d hd (hc l List.mem_cons_self)
    have ha : BA (l :: ls) = bytesOfA l ++ ([13] ++ ([10] ++ BA ls)) := by simp [BA]
    have hb : BB (l :: ls) = bytesOfA l ++ ([10] ++ BB ls) := by simp [BB]
    obtain ⟨_, _, s1⟩ := step_gd (emD d (bytesOfA l)) g1 13 (by decide) (by decide)
    obtain ⟨_, _, s2⟩ := step_gd (emD d (bytesOfA l)) g1 10 (by decide) (by decide)
    obtain ⟨_, _, s3⟩ := step_gd ⟨0, 0, 1, 128, 191, 13⟩ (.inl rfl) 10 (by decide) (by decide)
    have s1 := s1 (.inr rfl)
    have s2 := s2 (.inl rfl)
    have s3 := s3 (.inl rfl)
    have one : ∀ (d : Dec) (c : Int), emD d [c] = Dec.z (St.step ⟨d, [], []⟩ c).d ∧ emR d [c] = rs (St.step ⟨d, [], []⟩ c).cs := fun d c => ⟨rfl, List.append_nil _⟩
    obtain ⟨i1, i2, i3⟩ := em_lines ls ⟨0, 0, 1, 128, 191, 10⟩ (.inl rfl) rfl (fun x hx => hc x (List.mem_cons_of_mem _ hx))
    rw [ha, hb]
    obtain ⟨p1, p2⟩ := em_append (bytesOfA l) ([13] ++ ([10] ++ BA ls)) d
    obtain ⟨p3, p4⟩ := em_append [13] ([10] ++ BA ls) (emD d (bytesOfA l))
    obtain ⟨p5, p6⟩ := em_append [10] (BA ls) (emD (emD d (bytesOfA l)) [13])
    obtain ⟨p7, p8⟩ := em_append (bytesOfA l) ([10] ++ BB ls) d
    obtain ⟨p9, p10⟩ := em_append [10] (BB ls) (emD d (bytesOfA l))
    have z1 : emD (emD d (bytesOfA l)) [13] = ⟨0, 0, 1, 128, 191, 13⟩ := (one _ _).1.trans s1.2
    have z2 : emD (emD d (bytesOfA l)) [10] = ⟨0, 0, 1, 128, 191, 10⟩ := (one _ _).1.trans s2.2
    have z3 : emD ⟨0, 0, 1, 128, 191, 13⟩ [10] = ⟨0, 0, 1, 128, 191, 10⟩ := (one _ _).1.trans s3.2
    rw [p1, p2, p3, p4, p5, p6, p7, p8, p9, p10, z1, z2, z3, (one _ _).2, (one _ _).2, (one _ _).2, s1.1, s2.1, s3.1]
    refine ⟨?_, i2, i3⟩
    simp only [if_pos]
    have hE : (13 : Int) ∉ emR d (bytesOfA l) ++ (if (emD d (bytesOfA l)).have_ = 0 then [] else [65533]) := by
      rw [List.mem_append]
      rintro (h | h)
      · exact g2 h
      · split at h <;> simp at h
    generalize (if (emD d (bytesOfA l)).have_ = 0 then ([] : List Int) else [65533]) = E at *
    have q1 := RM_pre _ (13 :: 10 :: emR ⟨0, 0, 1, 128, 191, 10⟩ (BA ls)) hE
    have q2 := RM_pre _ (10 :: emR ⟨0, 0, 1, 128, 191, 10⟩ (BB ls)) hE
    rw [RM_crlf] at q1
    rw [RM_lf] at q2
    have e1 : emR d (bytesOfA l) ++ (E ++ [13] ++ ([] ++ [10] ++ emR ⟨0, 0, 1, 128, 191, 10⟩ (BA ls))) = (emR d (bytesOfA l) ++ E) ++ (13 :: 10 :: emR ⟨0, 0, 1, 128, 191, 10⟩ (BA ls)) := by simp
    have e2 : emR d (bytesOfA l) ++ (E ++ [10] ++ emR ⟨0, 0, 1, 128, 191, 10⟩ (BB ls)) = (emR d (bytesOfA l) ++ E) ++ (10 :: emR ⟨0, 0, 1, 128, 191, 10⟩ (BB ls)) := by simp
    rw [e1, e2, q1, q2, i1]

def catA : List ByteArray → ByteArray
  | ls => ls.foldl (fun a l => a ++ (l ++ (⟨#[13, 10]⟩ : ByteArray))) ⟨#[]⟩
def catB : List ByteArray → ByteArray
  | ls => ls.foldl (fun a l => a ++ (l ++ (⟨#[10]⟩ : ByteArray))) ⟨#[]⟩
theorem cat_snoc (ls : List ByteArray) (l : ByteArray) : catA (ls ++ [l]) = catA ls ++ (l ++ (⟨#[13, 10]⟩ : ByteArray)) ∧ catB (ls ++ [l]) = catB ls ++ (l ++ (⟨#[10]⟩ : ByteArray)) := by
  unfold catA catB
  simp
theorem cat_bytes_aux : ∀ (ls : List ByteArray) (a b : ByteArray), bytesOfA (ls.foldl (fun a l => a ++ (l ++ (⟨#[13, 10]⟩ : ByteArray))) a) = bytesOfA a ++ BA ls ∧ bytesOfA (ls.foldl (fun a l => a ++ (l ++ (⟨#[10]⟩ : ByteArray))) b) = bytesOfA b ++ BB ls
  | [], a, b => by simp [BA, BB]
  | l :: ls, a, b => by
    obtain ⟨h1, h2⟩ := cat_bytes_aux ls (a ++ (l ++ (⟨#[13, 10]⟩ : ByteArray))) (b ++ (l ++ (⟨#[10]⟩ : ByteArray)))
    have x1 : bytesOfA (⟨#[13, 10]⟩ : ByteArray) = [13, 10] := rfl
    have x2 : bytesOfA (⟨#[10]⟩ : ByteArray) = [10] := rfl
    rw [bytes_append, bytes_append, x1] at h1
    rw [bytes_append, bytes_append, x2] at h2
    refine ⟨?_, ?_⟩
    · show bytesOfA (ls.foldl _ (a ++ (l ++ (⟨#[13, 10]⟩ : ByteArray)))) = _
      rw [h1]; simp [BA]
    · show bytesOfA (ls.foldl _ (b ++ (l ++ (⟨#[10]⟩ : ByteArray)))) = _
      rw [h2]; simp [BB]
theorem cat_bytes (ls : List ByteArray) : bytesOfA (catA ls) = BA ls ∧ bytesOfA (catB ls) = BB ls := by
  obtain ⟨h1, h2⟩ := cat_bytes_aux ls ⟨#[]⟩ ⟨#[]⟩
  exact ⟨h1, h2⟩
theorem lines_rs (ls : List ByteArray) (hc : ∀ l ∈ ls, Clean l) (ha : (catA ls).size ≤ 20000) (hb : (catB ls).size ≤ 20000) : rs (charsC (catA ls)) = rs (charsC (catB ls)) := by
  obtain ⟨h1, h2⟩ := cat_bytes ls
  rw [chars_rs _ ha, chars_rs _ hb, h1, h2]
  obtain ⟨i1, i2, i3⟩ := em_lines ls d0 (.inl rfl) rfl hc
  rw [if_pos i2, if_pos i3, List.append_nil, List.append_nil, i1]

theorem l2_ev (x y : List S36) (h : rs x = rs y) (hl : x.length ≤ 1000000) : ∀ (d i : Nat), x.length - i = d → i ≤ x.length → Ev (fun k => taffraillaw04_InstreamLines.l2 k x y i) true
  | 0, i, hd, hi => by
    refine Ev.step (f := fun _ => some true) (fun k => ?_) (Ev.now _)
    simp only [taffraillaw04_InstreamLines.l2]
    rw [if_neg (by omega), awake_ev]
    rfl
  | d + 1, i, hd, hi => by
    have h1 : i < x.length := by omega
    have hlen : x.length = y.length := by have := congrArg List.length h; simpa [rs] using this
    have h2 : i < y.length := by omega
    have hw : wrap64 ((i : Int) + 1) = ((i + 1 : Nat) : Int) := by rw [wrapI _ (by omega) (by omega)]; omega
    have e1 : rd_T36 x (i : Int) = x[i] := by simp [rd_T36, List.getD_eq_getElem?_getD, h1]
    have e2 : rd_T36 y (i : Int) = y[i] := by simp [rd_T36, List.getD_eq_getElem?_getD, h2]
    have e3 : x[i].f0 = y[i].f0 := by
      have a1 : (rs x)[i]'(by simpa [rs] using h1) = x[i].f0 := by simp [rs]
      have a2 : (rs y)[i]'(by simpa [rs] using h2) = y[i].f0 := by simp [rs]
      rw [← a1, ← a2]
      simp only [h]
    refine Ev.step (fun k => ?_) (l2_ev x y h hl d (i + 1) (by omega) (by omega))
    simp only [taffraillaw04_InstreamLines.l2]
    rw [if_pos (by omega), if_pos (by omega), if_pos (by omega), e1, e2, if_pos e3, hw]

theorem l1_ev (ls : List ByteArray) (i : Nat) (hi : i < ls.length) (n : Int) (a b : ByteArray) (hs : (ls[i]).size ≤ 140737488351232) (ha : a.size ≤ 1000000) (hb : b.size ≤ 1000000) (hil : i ≤ 9000000000000)
    (hnext : Clean ls[i] → (ls[i]).size ≤ 1000000 → Ev (fun k => taffraillaw04_InstreamLines.l0 k ls n (a ++ (ls[i] ++ (⟨#[13, 10]⟩ : ByteArray))) (b ++ (ls[i] ++ (⟨#[10]⟩ : ByteArray))) ((i + 1 : Nat) : Int)) true) (hsz : (ls[i]).size ≤ 1000000) :
    ∀ (d j : Nat), (ls[i]).size - j = d → j ≤ (ls[i]).size → (∀ j', j' < j → bt ls[i] (j' : Int) ≠ 13) → Ev (fun k => taffraillaw04_InstreamLines.l1 k ls n a b i j) true
  | 0, j, hd, hj, hc => by
    have hcl : Clean ls[i] := by
      intro c hcm
      obtain ⟨q, hq, rfl⟩ := List.getElem_of_mem hcm
      rw [bytes_len] at hq
      rw [bytes_at _ _ hq]
      exact ⟨(bt_range _ _).1, (bt_range _ _).2, hc q (by omega)⟩
    have e1 : rdOf ByteArray.empty ls (i : Int) = ls[i] := by simp [rdOf, List.getD_eq_getElem?_getD, hi]
    have hw : wrap64 ((i : Int) + 1) = ((i + 1 : Nat) : Int) := by rw [wrapI _ (by omega) (by omega)]; omega
    have z2 : (⟨#[13, 10]⟩ : ByteArray).size = 2 := rfl
    have z1 : (⟨#[10]⟩ : ByteArray).size = 1 := rfl
    refine Ev.step (fun k => ?_) (hnext hcl hsz)
    simp only [taffraillaw04_InstreamLines.l1]
    rw [if_pos (by omega), if_pos (by omega), e1, if_neg (by omega), if_pos (by omega), if_pos (by rw [ByteArray.size_append, z2]; omega), if_pos (by omega), if_pos (by rw [ByteArray.size_append, z1]; omega), hw]
  | d + 1, j, hd, hj, hc => by
    have e1 : rdOf ByteArray.empty ls (i : Int) = ls[i] := by simp [rdOf, List.getD_eq_getElem?_getD, hi]
    have hwj : wrap64 ((j : Int) + 1) = ((j + 1 : Nat) : Int) := by rw [wrapI _ (by omega) (by omega)]; omega
    by_cases c1 : bt ls[i] (j : Int) = 13
    · refine Ev.step (f := fun _ => some true) (fun k => ?_) (Ev.now _)
      simp only [taffraillaw04_InstreamLines.l1]
      rw [if_pos (by omega), if_pos (by omega), e1, if_pos (by omega), if_pos (by omega), if_pos c1, awake_ev]
      rfl
    by_cases c2 : bt ls[i] (j : Int) = 10
    · refine Ev.step (f := fun _ => some true) (fun k => ?_) (Ev.now _)
      simp only [taffraillaw04_InstreamLines.l1]
      rw [if_pos (by omega), if_pos (by omega), e1, if_pos (by omega), if_pos (by omega), if_neg c1, if_pos c2, awake_ev]
      rfl
    · refine Ev.step (fun k => ?_) (l1_ev ls i hi n a b hs ha hb hil hnext hsz d (j + 1) (by omega) (by omega) (fun j' hj' => by
        by_cases e : j' = j
        · subst e; exact c1
        · exact hc j' (by omega)))
      simp only [taffraillaw04_InstreamLines.l1]
      rw [if_pos (by omega), if_pos (by omega), e1, if_pos (by omega), if_pos (by omega), if_neg c1, if_neg c2, hwj]

theorem l0_ev (ls : List ByteArray) (hl : ls.length ≤ 8796093021952) (hs : ∀ y ∈ ls, y.size ≤ 140737488351232) : ∀ (d i : Nat), ls.length - i = d → i ≤ ls.length → (∀ l ∈ ls.take i, Clean l) → (catA (ls.take i)).size ≤ 20000 → (catB (ls.take i)).size ≤ (catA (ls.take i)).size →
    Ev (fun k => taffraillaw04_InstreamLines.l0 k ls ((catA (ls.take i)).size : Int) (catA (ls.take i)) (catB (ls.take i)) i) true
  | 0, i, hd, hi, hc, ha, hb => by
    have h1 : instream_Chars.f (catA (ls.take i)) = some (charsC (catA (ls.take i)), charsF (catA (ls.take i))) := if_pos (by omega)
    have h2 : instream_Chars.f (catB (ls.take i)) = some (charsC (catB (ls.take i)), charsF (catB (ls.take i))) := if_pos (by omega)
    have hr := lines_rs (ls.take i) hc ha (by omega)
    have hlen : (charsC (catA (ls.take i))).length = (charsC (catB (ls.take i))).length := by have := congrArg List.length hr; simpa [rs] using this
    obtain ⟨_, q1, _⟩ := chars_evs (catA (ls.take i)) ha
    refine Ev.step (fun k => ?_) (l2_ev _ _ hr q1 _ 0 rfl (Nat.zero_le _))
    simp only [taffraillaw04_InstreamLines.l0]
    rw [if_neg (by omega), h1, h2]
    simp only [Option.bind_some]
    rw [if_pos (by omega)]
    rfl
  | d + 1, i, hd, hi, hc, ha, hb => by
    have h1 : i < ls.length := by omega
    have e1 : rdOf ByteArray.empty ls (i : Int) = ls[i] := by simp [rdOf, List.getD_eq_getElem?_getD, h1]
    have hsi := hs _ (List.getElem_mem h1)
    have hw1 : wrap64 (((ls[i]).size : Int) + 2) = ((ls[i]).size : Int) + 2 := wrapI _ (by omega) (by omega)
    have hw2 : wrap64 (((catA (ls.take i)).size : Int) + (((ls[i]).size : Int) + 2)) = ((catA (ls.take i)).size : Int) + (((ls[i]).size : Int) + 2) := wrapI _ (by omega) (by omega)
    by_cases hbig : ((catA (ls.take i)).size : Int) + (((ls[i]).size : Int) + 2) > 20000
    · refine Ev.step (f := fun _ => some true) (fun k => ?_) (Ev.now _)
      simp only [taffraillaw04_InstreamLines.l0]
      rw [if_pos (by omega), if_pos (by omega), e1, hw1, hw2, if_pos hbig, awake_ev]
      rfl
    · have ht : ls.take (i + 1) = ls.take i ++ [ls[i]] := List.take_succ_eq_append_getElem h1
      obtain ⟨s1, s2⟩ := cat_snoc (ls.take i) ls[i]
      have z2 : (⟨#[13, 10]⟩ : ByteArray).size = 2 := rfl
      have z1 : (⟨#[10]⟩ : ByteArray).size = 1 := rfl
      have hsz : (catA (ls.take (i + 1))).size = (catA (ls.take i)).size + ((ls[i]).size + 2) := by rw [ht, s1, ByteArray.size_append, ByteArray.size_append, z2]
      have hsz2 : (catB (ls.take (i + 1))).size = (catB (ls.take i)).size + ((ls[i]).size + 1) := by rw [ht, s2, ByteArray.size_append, ByteArray.size_append, z1]
      have hn : ((catA (ls.take i)).size : Int) + (((ls[i]).size : Int) + 2) = ((catA (ls.take (i + 1))).size : Int) := by rw [hsz]; omega
      refine Ev.step (fun k => ?_) (l1_ev ls i h1 ((catA (ls.take (i + 1))).size : Int) (catA (ls.take i)) (catB (ls.take i)) hsi (by omega) (by omega) (by omega) (fun hcl _ => ?_) (by omega) _ 0 rfl (Nat.zero_le _) (fun _ h => absurd h (Nat.not_lt_zero _)))
      · simp only [taffraillaw04_InstreamLines.l0]
        rw [if_pos (by omega), if_pos (by omega), e1, hw1, hw2, if_neg hbig, hn]
        rfl
      · have := l0_ev ls hl hs d (i + 1) (by omega) (by omega) (by
          intro l hlm
          rw [ht, List.mem_append] at hlm
          rcases hlm with h | h
          · exact hc l h
          · simp at h; subst h; exact hcl) (by omega) (by omega)
        rw [ht, s1, s2] at this
        rw [ht, s1]
        exact this

theorem InstreamLines : taffraillaw04_InstreamLines.Pure := by
  intro ls hl
  exact Ev.rounds (l0_ev ls (by omega) hl.2 _ 0 rfl (Nat.zero_le _) (by simp) (by rw [List.take_zero]; decide) (by rw [List.take_zero]; decide))
end Go.Proofs.Ytdmkhcmkfhojgaa.Pure
