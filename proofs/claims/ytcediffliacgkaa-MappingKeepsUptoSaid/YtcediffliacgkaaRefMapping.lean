/- The reference's Point, Back and Check in closed form. -/
import Derived.Test.YtcediffliacgkaaPx1
import Derived.Test.YtcediffliacgkaaOpen
namespace Go.Proofs.Ytcediffliacgkaa.Pure
open Go.RowKit Go.Proofs.Ytcediffliacgkaa.P Go.Proofs.YtcediffliacgkaaW.PrintWords Go.Proofs.YtcediffliacgkaaW.PrintLast Go.Proofs.YtcediffliacgkaaW.PrintMore

theorem awake_true : taffraillaw02_awake.f = some true := by decide +kernel

theorem ref_may (a d : Int) (s : ByteArray) : ∃ s', taffrailref02_may.f a d s = some ((tk a d s).1, (tk a d s).2.1, s') ∧ (s'.size : Int) = (tk a d s).2.2 := by
  have no : ¬ may a d → tk a d s = (0, 0, 0) := fun h => if_neg h
  have yes : may a d → tk a d s = (a, d, (s.size : Int)) := fun h => if_pos h
  unfold may at no yes
  unfold taffrailref02_may.f
  by_cases h1 : a < 0
  · rw [no (by omega)]; exact ⟨⟨#[]⟩, by rw [if_pos h1], rfl⟩
  by_cases h2 : d < 0
  · rw [no (by omega)]; exact ⟨⟨#[]⟩, by rw [if_neg h1, if_pos h2], rfl⟩
  by_cases h3 : a > 1099511627776
  · rw [no (by omega)]; exact ⟨⟨#[]⟩, by rw [if_neg h1, if_neg h2, if_pos h3], rfl⟩
  by_cases h4 : d > 1099511627776
  · rw [no (by omega)]; exact ⟨⟨#[]⟩, by rw [if_neg h1, if_neg h2, if_neg h3, if_pos h4], rfl⟩
  · rw [yes (by omega)]; exact ⟨s, by rw [if_neg h1, if_neg h2, if_neg h3, if_neg h4], rfl⟩

theorem wrap_id (x : Int) (h1 : -9223372036854775808 ≤ x) (h2 : x ≤ 9223372036854775807) : wrap64 x = x := by unfold wrap64; omega

theorem ref_back (a d : Int) (s : ByteArray) (t : Int) (hs : s.size ≤ 140737488351232) :
    taffrailref02_Back.f 2 a d s t = some (backOf (tk a d s).1 (tk a d s).2.1 (tk a d s).2.2 t) := by
  have hb := tk_bounds a d s
  obtain ⟨s', hm, hz⟩ := ref_may a d s
  simp only [taffrailref02_Back.f, taffrailref02_Back.j0, hm, Option.bind_some, hz, if_true, decide_eq_true_eq]
  generalize tk a d s = q at *
  obtain ⟨f, n, m⟩ := q
  simp only at *
  unfold backOf wrap64
  have hm' : m ≤ 140737488351232 := by omega
  repeat' split
  all_goals first | rfl | (exfalso; omega) | (congr 1; first | rfl | (congr 1; omega))

theorem ref_point (a d : Int) (s : ByteArray) (t : Int) (after : Bool) (hs : s.size ≤ 140737488351232) :
    taffrailref02_Point.f 3 a d s t after = some (pointOf (tk a d s).1 (tk a d s).2.1 (tk a d s).2.2 t after) := by
  have hb := tk_bounds a d s
  obtain ⟨s', hm, hz⟩ := ref_may a d s
  simp only [taffrailref02_Point.f, taffrailref02_Point.j0, taffrailref02_Point.j1, hm, Option.bind_some, hz, if_true, decide_eq_true_eq, Bool.false_eq_true, if_false]
  generalize tk a d s = q at *
  obtain ⟨f, n, m⟩ := q
  simp only at *
  unfold pointOf wrap64
  have hm' : m ≤ 140737488351232 := by omega
  cases after
  all_goals
    repeat' split
  all_goals first | rfl | (exfalso; omega) | (congr 1; omega) | (exfalso; simp at *; omega) | (exfalso; simp at *)

theorem ref_check (a d : Int) (s : ByteArray) (n : Int) : taffrailref02_Check.f a d s n = mapping_Check.f a d s n := by
  unfold taffrailref02_Check.f mapping_Check.f
  by_cases c1 : n < 0
  · rw [if_pos c1]
    by_cases c2 : a < 0
    · rw [if_pos c2]
    rw [if_neg c2]
    by_cases c3 : d < 0
    · rw [if_pos c3]
    rw [if_neg c3, if_pos (by omega)]
  rw [if_neg c1]
  by_cases c2 : a < 0
  · rw [if_pos c2, if_pos c2]
  rw [if_neg c2, if_neg c2]
  by_cases c3 : d < 0
  · by_cases c4 : a > n
    · rw [if_pos c4, if_pos c3]
    · rw [if_neg c4, if_pos c3, if_pos c3]
  · rw [if_neg c3, if_neg c3]

theorem check_some (a d : Int) (s : ByteArray) (n : Int) : ∃ r, mapping_Check.f a d s n = some r := by
  unfold mapping_Check.f
  repeat' split
  all_goals exact ⟨_, rfl⟩
end Go.Proofs.Ytcediffliacgkaa.Pure
