/- The byte at a place outside of what an edit takes out is the byte at the place behind it, and back. Condition: what comes in is of bulk at most 1048576. -/
import Derived.Test.YtcediffliacgkaaSayMappingKeeps
import Derived.Test.YtcediffliacgkaaRefMapping
namespace Go.Proofs.Ytcediffliacgkaa.Pure
open Go.RowKit Go.Proofs.Ytcediffliacgkaa.P Go.Proofs.YtcediffliacgkaaW.PrintWords Go.Proofs.YtcediffliacgkaaW.PrintLast Go.Proofs.YtcediffliacgkaaW.PrintMore

theorem bt_left (a b : ByteArray) (i : Int) (h0 : 0 ≤ i) (h : i < a.size) : bt (a ++ b) i = bt a i := by
  unfold bt
  have h1 : i.toNat < a.size := by omega
  rw [dif_pos h1, dif_pos (by rw [ByteArray.size_append]; omega), ByteArray.getElem_append_left h1]

theorem bt_right (a b : ByteArray) (i : Int) (h0 : (a.size : Int) ≤ i) : bt (a ++ b) i = bt b (i - a.size) := by
  unfold bt
  by_cases h : i.toNat < (a ++ b).size
  · have h' := h
    rw [ByteArray.size_append] at h'
    have h2 : (i - a.size).toNat = i.toNat - a.size := by omega
    rw [dif_pos h, dif_pos (by omega), ByteArray.getElem_append_right (by omega)]
    congr 2
    simp [h2]
  · rw [dif_neg h, dif_neg (by rw [ByteArray.size_append] at h; omega)]

theorem bt_extract (a : ByteArray) (p q : Nat) (i : Int) (h0 : 0 ≤ i) (h : i.toNat < q - p) (hq : q ≤ a.size) : bt (a.extract p q) i = bt a (p + i) := by
  unfold bt
  rw [dif_pos (by rw [ByteArray.size_extract]; omega), dif_pos (by omega), ByteArray.getElem_extract]
  congr 2
  have : ((p : Int) + i).toNat = p + i.toNat := by omega
  simp [this]

theorem check_iff (a d : Int) (s : ByteArray) (n : Int) (hn : 0 ≤ n) (hn2 : n ≤ 1048576) : (0 ≤ a ∧ a ≤ n ∧ 0 ≤ d ∧ d ≤ n - a ∧ taffrailref02_Check.f a d s n = some 0) ∨ (taffrailref02_Check.f a d s n = some 1) := by
  unfold taffrailref02_Check.f wrap64
  rw [if_neg (by omega)]
  by_cases c1 : a < 0
  · rw [if_pos c1]; exact .inr rfl
  rw [if_neg c1]
  by_cases c2 : a > n
  · rw [if_pos c2]; exact .inr rfl
  rw [if_neg c2]
  by_cases c3 : d < 0
  · rw [if_pos c3]; exact .inr rfl
  rw [if_neg c3]
  by_cases c4 : d > (n - a + 9223372036854775808) % 18446744073709551616 - 9223372036854775808
  · rw [if_pos c4]; exact .inr rfl
  · rw [if_neg c4]; exact .inl ⟨by omega, by omega, by omega, by omega, rfl⟩

theorem keeps_far (k : Nat) (s : ByteArray) (a d : Int) (ins : ByteArray) (t : Int) : taffraillaw02_MappingKeeps.j0 (k + 1) s t true a d ins = some true := by
  simp only [taffraillaw02_MappingKeeps.j0, awake_true, if_true]
  rfl

theorem keeps_near (k : Nat) (s ins : ByteArray) (a d t : Int) (hs : s.size ≤ 1048576) (hi : ins.size ≤ 1048576) (ha : 0 ≤ a) (hd : 0 ≤ d) (had : a + d ≤ s.size) (h0 : 0 ≤ t) (h1 : t < s.size) (hout : t < a ∨ a + d ≤ t) :
    taffraillaw02_MappingKeeps.j0 (k + 1) s t false a d ins = some true := by
  have ht : tk a d ins = (a, d, (ins.size : Int)) := if_pos (by unfold may; omega)
  have eP : mapping_Point.f a d ins t true = some (if t < a then t else t - d + ins.size) := by
    unfold mapping_Point.f
    rw [if_pos (by omega), ht]
    unfold pointOf
    simp only
    congr 1
    rw [if_neg (by omega)]
    by_cases c : t < a
    · rw [if_pos c, if_pos c]
    · rw [if_neg c, if_neg c]
      by_cases c2 : t ≥ a + d ∧ t > a
      · rw [if_pos c2]; omega
      · rw [if_neg c2, if_pos trivial]; omega
  have eB : mapping_Back.f a d ins (if t < a then t else t - d + ins.size) = some (t, true) := by
    unfold mapping_Back.f
    rw [if_pos (by omega), ht]
    unfold backOf
    simp only
    congr 1
    by_cases c : t < a
    · simp only [if_pos c]; rw [if_neg (by omega)]
    · simp only [if_neg c]
      rw [if_neg (by omega), if_neg (by omega), if_pos (by omega)]
      congr 1
      omega
  have w1 : wrap64 (a + d) = a + d := wrap_id _ (by omega) (by omega)
  have hA : (s.extract 0 a.toNat).size = a.toNat := by rw [ByteArray.size_extract]; omega
  have hB : (s.extract (a + d).toNat s.size).size = s.size - (a + d).toNat := by rw [ByteArray.size_extract]; omega
  have hAB : (s.extract 0 a.toNat ++ ins).size = a.toNat + ins.size := by rw [ByteArray.size_append, hA]
  have hT : (s.extract 0 a.toNat ++ ins ++ s.extract (a + d).toNat s.size).size = a.toNat + ins.size + (s.size - (a + d).toNat) := by rw [ByteArray.size_append, hAB, hB]
  have hb : bt (s.extract 0 a.toNat ++ ins ++ s.extract (a + d).toNat s.size) (if t < a then t else t - d + ins.size) = bt s t := by
    by_cases c : t < a
    · rw [if_pos c, bt_left _ _ _ h0 (by rw [hAB]; omega), bt_left _ _ _ h0 (by rw [hA]; omega), bt_extract _ _ _ _ h0 (by omega) (by omega)]
      congr 1
      omega
    · rw [if_neg c, bt_right _ _ _ (by rw [hAB]; omega), hAB, bt_extract _ _ _ _ (by omega) (by omega) (by omega)]
      congr 1
      omega
  simp only [taffraillaw02_MappingKeeps.j0, w1, eP, eB, Option.bind_some, awake_true, Bool.false_eq_true, if_false]
  rw [hb, if_pos ha, if_pos (by omega), if_pos (by rw [hA]; omega), if_pos (by omega), if_pos had, if_pos (by rw [hAB, hB]; omega)]
  have q1 : (if t < a then t else t - d + (ins.size : Int)) ≥ 0 := by split <;> omega
  have q2 : (if t < a then t else t - d + (ins.size : Int)) < ((s.extract 0 a.toNat ++ ins ++ s.extract (a + d).toNat s.size).size : Int) := by rw [hT]; split <;> omega
  rw [if_pos q1, if_pos q2, if_pos q1, if_pos h0, if_pos h1, if_pos rfl, if_pos trivial, if_pos trivial]

theorem MappingKeeps : taffraillaw02_MappingKeeps.Pure := by
  intro s x t hs hx ht
  obtain ⟨h0, h1, h2⟩ := hx
  refine ⟨1, ?_⟩
  unfold taffraillaw02_MappingKeeps.f
  rcases check_iff x.f0 x.f1 x.f2 s.size (by omega) (by omega) with ⟨q0, q1, q2, q3, q4⟩ | q4
  · rw [q4]
    simp only [Option.bind_some, if_true]
    have w1 : wrap64 (x.f0 + x.f1) = x.f0 + x.f1 := wrap_id _ (by omega) (by omega)
    by_cases c1 : t < 0
    · rw [if_pos c1]; exact keeps_far _ _ _ _ _ _
    rw [if_neg c1]
    by_cases c2 : t ≥ s.size
    · rw [if_pos c2]; exact keeps_far _ _ _ _ _ _
    rw [if_neg c2, w1]
    by_cases c3 : t ≥ x.f0
    · rw [if_pos c3]
      by_cases c4 : t < x.f0 + x.f1
      · rw [decide_eq_true c4]; exact keeps_far _ _ _ _ _ _
      · rw [decide_eq_false c4]; exact keeps_near 0 s x.f2 x.f0 x.f1 t hs h2 q0 q2 (by omega) (by omega) (by omega) (by omega)
    · rw [if_neg c3]; exact keeps_near 0 s x.f2 x.f0 x.f1 t hs h2 q0 q2 (by omega) (by omega) (by omega) (by omega)
  · rw [q4]
    simp only [Option.bind_some]
    rw [if_neg (by decide)]
    exact keeps_far _ _ _ _ _ _
end Go.Proofs.Ytcediffliacgkaa.Pure
