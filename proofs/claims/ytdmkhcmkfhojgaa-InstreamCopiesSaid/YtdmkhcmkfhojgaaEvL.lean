/- The decoder's numbers alone, whatever the places: what it tells of bytes; line ends. -/
import Derived.Test.YtdmkhcmkfhojgaaEvD
namespace Go.Proofs.Ytdmkhcmkfhojgaa.Pure
open Go.RowKit Go.Proofs.Ytdmkhcmkfhojgaa.P Go.Proofs.YtdmkhcmkfhojgaaW.PrintWords Go.Proofs.YtdmkhcmkfhojgaaW.PrintLast Go.Proofs.YtdmkhcmkfhojgaaW.PrintMore
set_option linter.unusedVariables false

def Dec.z (d : Dec) : Dec := ⟨0, d.have_, d.need, d.low, d.high, d.r⟩
def rs (l : List S36) : List Int := l.map (·.f0)
theorem begin_z (d : Dec) (c : Int) : Dec.z (d.begin c) = Dec.z ((Dec.z d).begin c) := by
  unfold Dec.begin Dec.z
  repeat' split
  all_goals rfl
theorem fin_z (d : Dec) (cs cs' : List S36) (fs fs' : List S39) (d' : Dec) (h : Dec.z d = Dec.z d') : Dec.z (St.fin ⟨d, cs, fs⟩).d = Dec.z (St.fin ⟨d', cs', fs'⟩).d ∧ ∃ e, rs (St.fin ⟨d, cs, fs⟩).cs = rs cs ++ e ∧ rs (St.fin ⟨d', cs', fs'⟩).cs = rs cs' ++ e := by
  obtain ⟨a, h1, n1, l1, u1, r1⟩ := d
  obtain ⟨a', h2, n2, l2, u2, r2⟩ := d'
  injection h with _ e1 e2 e3 e4 e5
  simp only at e1 e2 e3 e4 e5
  subst e1 e2 e3 e4 e5
  unfold St.fin
  simp only
  split
  · exact ⟨rfl, [r1], by simp [St.tell, rs], by simp [St.tell, rs]⟩
  · exact ⟨rfl, [], by simp, by simp⟩
theorem start_z (d : Dec) (cs cs' : List S36) (fs fs' : List S39) (d' : Dec) (c : Int) (h : Dec.z d = Dec.z d') : Dec.z (St.start ⟨d, cs, fs⟩ c).d = Dec.z (St.start ⟨d', cs', fs'⟩ c).d ∧ ∃ e, rs (St.start ⟨d, cs, fs⟩ c).cs = rs cs ++ e ∧ rs (St.start ⟨d', cs', fs'⟩ c).cs = rs cs' ++ e := by
  have hb : Dec.z (d.begin c) = Dec.z (d'.begin c) := by rw [begin_z d c, begin_z d' c, h]
  unfold St.start
  split
  · exact fin_z _ _ _ _ _ _ hb
  · refine ⟨?_, [65533], by simp [St.bad, rs], by simp [St.bad, rs]⟩
    unfold Dec.z at hb
    injection hb with _ e1 e2 e3 e4 e5
    simp only [St.bad, Dec.told, Dec.z]
    rw [e2, e3, e4, e5]
theorem step_z (d : Dec) (cs cs' : List S36) (fs fs' : List S39) (d' : Dec) (c : Int) (h : Dec.z d = Dec.z d') : Dec.z (St.step ⟨d, cs, fs⟩ c).d = Dec.z (St.step ⟨d', cs', fs'⟩ c).d ∧ ∃ e, rs (St.step ⟨d, cs, fs⟩ c).cs = rs cs ++ e ∧ rs (St.step ⟨d', cs', fs'⟩ c).cs = rs cs' ++ e := by
  obtain ⟨a, h1, n1, l1, u1, r1⟩ := d
  obtain ⟨a', h2, n2, l2, u2, r2⟩ := d'
  injection h with _ e1 e2 e3 e4 e5
  simp only at e1 e2 e3 e4 e5
  subst e1 e2 e3 e4 e5
  unfold St.step
  simp only
  split
  · exact start_z _ _ _ _ _ _ c rfl
  · split
    · obtain ⟨q1, e, q2, q3⟩ := start_z (Dec.told ⟨a, h1, n1, l1, u1, r1⟩ h1) (cs ++ [⟨65533, a, wrap64 (a + h1)⟩]) (cs' ++ [⟨65533, a', wrap64 (a' + h1)⟩]) (fs ++ [⟨1, a⟩]) (fs' ++ [⟨1, a'⟩]) (Dec.told ⟨a', h1, n1, l1, u1, r1⟩ h1) c rfl
      refine ⟨q1, 65533 :: e, ?_, ?_⟩
      · refine Eq.trans q2 ?_
        simp [rs]
      · refine Eq.trans q3 ?_
        simp [rs]
    · exact fin_z _ _ _ _ _ _ rfl
/-- what a decoder tells of bytes, by numbers -/
def emD : Dec → List Int → Dec
  | d, [] => d
  | d, c :: cs => emD (Dec.z (St.step ⟨d, [], []⟩ c).d) cs
def emR : Dec → List Int → List Int
  | d, [] => []
  | d, c :: cs => rs (St.step ⟨d, [], []⟩ c).cs ++ emR (Dec.z (St.step ⟨d, [], []⟩ c).d) cs
theorem em_append : ∀ (a b : List Int) (d : Dec), emD d (a ++ b) = emD (emD d a) b ∧ emR d (a ++ b) = emR d a ++ emR (emD d a) b
  | [], b, d => ⟨rfl, rfl⟩
  | c :: a, b, d => by
    have ih := em_append a b (Dec.z (St.step ⟨d, [], []⟩ c).d)
    refine ⟨ih.1, ?_⟩
    show rs _ ++ emR _ (a ++ b) = (rs _ ++ emR _ a) ++ emR _ b
    rw [ih.2, List.append_assoc]
    rfl
def bytesOfA (t : ByteArray) : List Int := t.data.toList.map (fun b => (b.toNat : Int))
theorem bytes_len (t : ByteArray) : (bytesOfA t).length = t.size := by
  unfold bytesOfA
  rw [List.length_map]
  exact Array.length_toList
theorem bytes_at (t : ByteArray) (k : Nat) (h : k < t.size) : (bytesOfA t)[k]'(by rw [bytes_len]; exact h) = bt t (k : Int) := by
  have h' : ((k : Int)).toNat < t.size := by omega
  unfold bt
  rw [dif_pos h']
  unfold bytesOfA
  rw [List.getElem_map, Array.getElem_toList]
  rfl
theorem bytes_append (a b : ByteArray) : bytesOfA (a ++ b) = bytesOfA a ++ bytesOfA b := by
  unfold bytesOfA
  simp
theorem upto_em (t : ByteArray) (d : Dec) : ∀ k : Nat, k ≤ t.size → Dec.z (St.upto t ⟨d, [], []⟩ k).d = emD (Dec.z d) ((bytesOfA t).take k) ∧ rs (St.upto t ⟨d, [], []⟩ k).cs = emR (Dec.z d) ((bytesOfA t).take k)
  | 0, _ => ⟨rfl, rfl⟩
  | k + 1, h => by
    obtain ⟨ih1, ih2⟩ := upto_em t d k (by omega)
    have hb := bytes_at t k (by omega)
    have e : (bytesOfA t).take (k + 1) = (bytesOfA t).take k ++ [bt t (k : Int)] := by
      rw [List.take_succ_eq_append_getElem (by rw [bytes_len]; omega), hb]
    obtain ⟨q1, q2⟩ := em_append ((bytesOfA t).take k) [bt t (k : Int)] (Dec.z d)
    rw [e, q1, q2]
    obtain ⟨p1, x, p2, p3⟩ := step_z (St.upto t ⟨d, [], []⟩ k).d (St.upto t ⟨d, [], []⟩ k).cs [] (St.upto t ⟨d, [], []⟩ k).fs [] (emD (Dec.z d) ((bytesOfA t).take k)) (bt t (k : Int)) (by rw [← ih1]; rfl)
    refine ⟨p1, ?_⟩
    refine Eq.trans p2 ?_
    rw [ih2]
    congr 1
    show x = rs (St.step ⟨emD (Dec.z d) ((bytesOfA t).take k), [], []⟩ (bt t (k : Int))).cs ++ []
    rw [List.append_nil]
    have : rs ([] : List S36) = [] := rfl
    rw [this, List.nil_append] at p3
    exact p3.symm

/-- a decoder that has taken well-formed beginnings alone -/
def GD (d : Dec) : Prop := d.have_ = 0 ∨ (1 ≤ d.have_ ∧ d.have_ < d.need ∧ d.need ≤ 4 ∧ 128 ≤ d.low ∧ d.high ≤ 191 ∧ 0 ≤ d.r ∧ ((d.have_ = 1 ∧ d.r < 256) ∨ (d.have_ = 2 ∧ d.r < 16384) ∨ (d.have_ = 3 ∧ d.r < 1048576)) ∧ (1 ≤ d.r ∨ (d.have_ = 1 ∧ 3 ≤ d.need ∧ 144 ≤ d.low)))
theorem start_gd (a h n l u r : Int) (cs : List S36) (fs : List S39) (c : Int) (h0 : 0 ≤ c) (h1 : c ≤ 255) (hz : h = 0) :
    GD (St.start ⟨⟨a, h, n, l, u, r⟩, cs, fs⟩ c).d ∧ ∃ e, rs (St.start ⟨⟨a, h, n, l, u, r⟩, cs, fs⟩ c).cs = rs cs ++ e ∧ (c ≠ 13 → (13 : Int) ∉ e) ∧ ((c = 10 ∨ c = 13) → e = [c] ∧ Dec.z (St.start ⟨⟨a, h, n, l, u, r⟩, cs, fs⟩ c).d = ⟨0, 0, 1, 128, 191, c⟩) := by
  subst hz
  unfold St.start begOk Dec.begin
  by_cases c1 : c < 128
  · rw [if_pos (decide_eq_true (by omega))]
    simp only [if_pos c1]
    unfold St.fin
    simp only [if_pos]
    refine ⟨.inl rfl, [c], by simp [St.tell, rs], by simp; omega, fun _ => ⟨rfl, rfl⟩⟩
  by_cases c2 : c < 194
  · rw [if_neg (by simp; omega)]
    simp only [if_neg c1, if_pos c2]
    exact ⟨.inl rfl, [65533], by simp [St.bad, rs], by simp, by omega⟩
  by_cases c3 : c < 224
  · rw [if_pos (decide_eq_true (by omega))]
    simp only [if_neg c1, if_neg c2, if_pos c3]
    unfold St.fin
    simp only
    rw [if_neg (by omega)]
    exact ⟨.inr ⟨(by decide : (1 : Int) ≤ 1), (by decide : (1 : Int) < 2), (by decide : (2 : Int) ≤ 4), (by decide : (128 : Int) ≤ 128), (by decide : (191 : Int) ≤ 191), (show 0 ≤ c % 32 by omega), .inl ⟨rfl, (show c % 32 < 256 by omega)⟩, .inl (show 1 ≤ c % 32 by omega)⟩, [], by simp, by simp, by omega⟩
  by_cases c4 : c < 240
  · rw [if_pos (decide_eq_true (by omega))]
    simp only [if_neg c1, if_neg c2, if_neg c3, if_pos c4]
    unfold St.fin
    simp only
    rw [if_neg (by omega)]
    refine ⟨.inr ?_, [], by simp, by simp, by omega⟩
    by_cases d1 : c = 224
    · subst d1; simp
    · have hlow : (if c = 224 then (160 : Int) else 128) = 128 := if_neg d1
      have hhigh : (if c = 237 then (159 : Int) else 191) ≤ 191 := by split <;> decide
      exact ⟨(by decide : (1 : Int) ≤ 1), (by decide : (1 : Int) < 3), (by decide : (3 : Int) ≤ 4), by show 128 ≤ (if c = 224 then (160 : Int) else 128); rw [hlow]; decide, hhigh, (show 0 ≤ c % 16 by omega), .inl ⟨rfl, (show c % 16 < 256 by omega)⟩, .inl (show 1 ≤ c % 16 by omega)⟩
  by_cases c5 : c < 245
  · rw [if_pos (decide_eq_true (by omega))]
    simp only [if_neg c1, if_neg c2, if_neg c3, if_neg c4, if_pos c5]
    unfold St.fin
    simp only
    rw [if_neg (by omega)]
    refine ⟨.inr ?_, [], by simp, by simp, by omega⟩
    by_cases d1 : c = 240
    · subst d1; simp
    · have hlow : (if c = 240 then (144 : Int) else 128) = 128 := if_neg d1
      have hhigh : (if c = 244 then (143 : Int) else 191) ≤ 191 := by split <;> decide
      exact ⟨(by decide : (1 : Int) ≤ 1), (by decide : (1 : Int) < 4), (by decide : (4 : Int) ≤ 4), by show 128 ≤ (if c = 240 then (144 : Int) else 128); rw [hlow]; decide, hhigh, (show 0 ≤ c % 8 by omega), .inl ⟨rfl, (show c % 8 < 256 by omega)⟩, .inl (show 1 ≤ c % 8 by omega)⟩
  · rw [if_neg (by simp; omega)]
    simp only [if_neg c1, if_neg c2, if_neg c3, if_neg c4, if_neg c5]
    exact ⟨.inl rfl, [65533], by simp [St.bad, rs], by simp, by omega⟩
theorem step_gd (d : Dec) (hd : GD d) (c : Int) (h0 : 0 ≤ c) (h1 : c ≤ 255) :
    GD (St.step ⟨d, [], []⟩ c).d ∧ (c ≠ 13 → (13 : Int) ∉ rs (St.step ⟨d, [], []⟩ c).cs) ∧ ((c = 10 ∨ c = 13) → rs (St.step ⟨d, [], []⟩ c).cs = (if d.have_ = 0 then [] else [65533]) ++ [c] ∧ Dec.z (St.step ⟨d, [], []⟩ c).d = ⟨0, 0, 1, 128, 191, c⟩) := by
  obtain ⟨a, h, n, l, u, r⟩ := d
  unfold St.step
  simp only
  by_cases hz : h = 0
  · rw [if_pos hz]
    obtain ⟨q1, e, q2, q3, q4⟩ := start_gd a h n l u r [] [] c h0 h1 hz
    refine ⟨q1, fun hc => ?_, fun hc => ?_⟩
    · rw [q2]; simpa [rs] using q3 hc
    · rw [q2, if_pos hz, (q4 hc).1]; exact ⟨rfl, (q4 hc).2⟩
  · rw [if_neg hz]
    have hg : 1 ≤ h ∧ h < n ∧ n ≤ 4 ∧ 128 ≤ l ∧ u ≤ 191 ∧ 0 ≤ r ∧ ((h = 1 ∧ r < 256) ∨ (h = 2 ∧ r < 16384) ∨ (h = 3 ∧ r < 1048576)) ∧ (1 ≤ r ∨ (h = 1 ∧ 3 ≤ n ∧ 144 ≤ l)) := hd.resolve_left hz
    by_cases hr : c < l ∨ u < c
    · rw [if_pos hr]
      obtain ⟨q1, e, q2, q3, q4⟩ := start_gd (wrap64 (a + h)) 0 n l u r [⟨65533, a, wrap64 (a + h)⟩] [⟨1, a⟩] c h0 h1 rfl
      refine ⟨q1, fun hc => ?_, fun hc => ?_⟩
      · show (13 : Int) ∉ rs (St.start ⟨⟨wrap64 (a + h), 0, n, l, u, r⟩, [⟨65533, a, wrap64 (a + h)⟩], [⟨1, a⟩]⟩ c).cs
        rw [q2]; simpa [rs] using q3 hc
      · refine ⟨?_, (q4 hc).2⟩
        show rs (St.start ⟨⟨wrap64 (a + h), 0, n, l, u, r⟩, [⟨65533, a, wrap64 (a + h)⟩], [⟨1, a⟩]⟩ c).cs = _
        rw [q2, if_neg hz, (q4 hc).1]; rfl
    · rw [if_neg hr]
      have hacc : Go.bits .or .i64 (wrap64 (r * 64)) (c % 64) = r * 64 + c % 64 := accStep_eq r c hg.2.2.2.2.2.1 (by omega) h0
      have hw : wrap64 (h + 1) = h + 1 := wrapI _ (by omega) (by omega)
      unfold St.fin Dec.cont
      simp only
      rw [hacc, hw]
      have hc13 : c ≠ 10 ∧ c ≠ 13 := by omega
      by_cases hn : h + 1 = n
      · rw [if_pos hn]
        refine ⟨.inl rfl, fun _ => ?_, fun hc => by omega⟩
        simp [St.tell, rs]
        omega
      · rw [if_neg hn]
        refine ⟨.inr ?_, fun _ => by simp [rs], fun hc => by omega⟩
        simp only
        omega
theorem gd_z (d : Dec) (h : GD d) : GD (Dec.z d) := h
theorem em_gd : ∀ (cs : List Int) (d : Dec), GD d → (∀ c ∈ cs, 0 ≤ c ∧ c ≤ 255 ∧ c ≠ 13) → GD (emD d cs) ∧ (13 : Int) ∉ emR d cs
  | [], d, h, _ => ⟨h, by simp [emR]⟩
  | c :: cs, d, h, hc => by
    obtain ⟨q1, q2, _⟩ := step_gd d h c (hc c List.mem_cons_self).1 (hc c List.mem_cons_self).2.1
    obtain ⟨r1, r2⟩ := em_gd cs (Dec.z (St.step ⟨d, [], []⟩ c).d) (gd_z _ q1) (fun x hx => hc x (List.mem_cons_of_mem _ hx))
    refine ⟨r1, ?_⟩
    show (13 : Int) ∉ rs _ ++ emR _ cs
    rw [List.mem_append]
    rintro (h' | h')
    · exact q2 (hc c List.mem_cons_self).2.2 h'
    · exact r2 h'

/-- line ends and 0, by numbers -/
def RM : List Int → List Int
  | [] => []
  | r :: l => if r = 0 then 65533 :: RM l else if r = 13 then (match l with
      | [] => [10]
      | q :: l2 => if q = 10 then 10 :: RM l2 else 10 :: RM (q :: l2)) else r :: RM l
def fix0 (r : Int) : Int := if r = 0 then 65533 else r
theorem RM_pre : ∀ (y z : List Int), (13 : Int) ∉ y → RM (y ++ z) = y.map fix0 ++ RM z
  | [], z, h => rfl
  | r :: y, z, h => by
    simp only [List.mem_cons, not_or] at h
    have ih := RM_pre y z h.2
    show RM (r :: (y ++ z)) = _
    rw [RM.eq_def]
    simp only
    by_cases h0 : r = 0
    · rw [if_pos h0, ih]; simp [fix0, h0]
    · rw [if_neg h0, if_neg (fun e => h.1 e.symm), ih]; simp [fix0, h0]
theorem RM_crlf (z : List Int) : RM (13 :: 10 :: z) = 10 :: RM z := by
  rw [RM.eq_def]; simp
theorem RM_lf (z : List Int) : RM (10 :: z) = 10 :: RM z := by
  rw [RM.eq_def]; simp
theorem ref_RM : ∀ (n : Nat) (es : List Evt) (o : List S36) (f : List S39), es.length ≤ n → rs (refRun es o f).1 = rs o ++ RM (rs (CS es))
  | n, [], o, f, h => by simp [refRun, CS, rs, RM]
  | 0, e :: es, o, f, h => by simp at h
  | n + 1, e :: es, o, f, h => by
    simp only [List.length_cons] at h
    have hc : rs (CS (e :: es)) = e.1.f0 :: rs (CS es) := rfl
    rw [hc, RM.eq_def]
    simp only
    by_cases h0 : e.1.f0 = 0
    · rw [ref_0 e es o f h0, if_pos h0, ref_RM n es _ _ (by omega)]; simp [rs]
    by_cases h13 : e.1.f0 = 13
    · rw [if_neg h0, if_pos h13]
      cases es with
      | nil => rw [ref_13n e o f h0 h13]; simp [CS, rs]
      | cons d ds =>
        simp only [List.length_cons] at h
        have hc2 : rs (CS (d :: ds)) = d.1.f0 :: rs (CS ds) := rfl
        rw [ref_13c e d ds o f h0 h13, hc2]
        simp only
        by_cases h10 : d.1.f0 = 10
        · rw [if_pos h10, if_pos h10, ref_RM n ds _ _ (by omega)]; simp [rs]
        · rw [if_neg h10, if_neg h10, ref_RM n (d :: ds) _ _ (by simp only [List.length_cons]; omega), hc2]; simp [rs]
    · rw [ref_e e es o f h0 h13, if_neg h0, if_neg h13, ref_RM n es _ _ (by omega)]; simp [rs]
end Go.Proofs.Ytdmkhcmkfhojgaa.Pure
