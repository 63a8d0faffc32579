/- Plain facts on lists of attributes, as attrs and the reference go over them. -/
import Derived.Test.YtkmioljfjjmcpaaPx5
import Derived.Test.YtkmioljfjjmcpaaPKinds
namespace Go.Proofs.Ytkmioljfjjmcpaa.Pure
open Go.RowKit Go.Proofs.Ytkmioljfjjmcpaa.P Go.Proofs.YtkmioljfjjmcpaaW.PrintWords Go.Proofs.YtkmioljfjjmcpaaW.PrintLast Go.Proofs.YtkmioljfjjmcpaaW.PrintMore

theorem wrap_id (x : Int) (h1 : -9223372036854775808 ≤ x) (h2 : x ≤ 9223372036854775807) : wrap64 x = x := by unfold wrap64; omega

theorem awake_ev : Ev (fun k => taffraillaw08_awake.f k) true := Ev.of (fun k => taffraillaw08_awake.mono k) (k := 10) (by decide +kernel)

theorem rd_nat (l : List S24) (i : Nat) (h : i < l.length) : rd_T24 l (i : Int) = l[i] := by
  simp [rd_T24, List.getD_eq_getElem?_getD, h]

theorem few_at (ls : List (List S24)) (hb : ∀ l ∈ ls, l.length ≤ 140737488351232) (hn : ls.length ≤ 10) :
    ∀ (d i : Nat) (n : Int) (k : Nat), ls.length - i = d → i ≤ ls.length → d < k → 0 ≤ n → n ≤ i * 140737488351232 → taffraillaw08_few.l0 k ls n i = some (decide (n + (((ls.drop i).map List.length).sum : Nat) ≤ 400)) := by
  intro d
  induction d with
  | zero =>
    intro i n k hd hi hk h0 h1
    obtain ⟨k, rfl⟩ : ∃ m, k = m + 1 := ⟨k - 1, by omega⟩
    simp only [taffraillaw08_few.l0]
    rw [if_neg (by omega), List.drop_eq_nil_of_le (by omega)]
    simp
  | succ d ih =>
    intro i n k hd hi hk h0 h1
    obtain ⟨k, rfl⟩ : ∃ m, k = m + 1 := ⟨k - 1, by omega⟩
    have hlt : i < ls.length := by omega
    have e : rd_L2 ls (i : Int) = ls[i] := by simp [rd_L2, List.getD_eq_getElem?_getD, hlt]
    have hbi := hb ls[i] (List.getElem_mem hlt)
    simp only [taffraillaw08_few.l0]
    rw [if_pos (by omega), if_pos (by omega), e, wrap_id _ (by omega) (by omega), wrap_id _ (by omega) (by omega)]
    have := ih (i + 1) (n + (ls[i].length : Int)) k (by omega) (by omega) (by omega) (by omega) (by omega)
    rw [show ((i : Int) + 1) = ((i + 1 : Nat) : Int) by omega, this, List.drop_eq_getElem_cons hlt]
    simp only [List.map_cons, List.sum_cons]
    congr 2
    simp
    omega

theorem few_ev (ls : List (List S24)) (hb : ∀ l ∈ ls, l.length ≤ 140737488351232) (hn : ls.length ≤ 10) : Ev (fun k => taffraillaw08_few.f k ls) (decide ((ls.map List.length).sum ≤ 400)) := by
  refine ⟨ls.length + 1, fun k hk => ?_⟩
  have := few_at ls hb hn ls.length 0 0 k (by omega) (by omega) (by omega) (by omega) (by omega)
  show taffraillaw08_few.l0 k ls 0 ((0 : Nat) : Int) = _
  rw [this]
  simp
  omega

theorem placeFrom_range (nm : ByteArray) : ∀ (l : List S24) (i : Nat), placeFrom nm l i = -1 ∨ ((i : Int) ≤ placeFrom nm l i ∧ placeFrom nm l i < i + l.length)
  | [], i => .inl rfl
  | x :: xs, i => by
    unfold placeFrom
    split
    · exact .inr ⟨by omega, by simp; omega⟩
    · rcases placeFrom_range nm xs (i + 1) with h | h
      · exact .inl h
      · exact .inr ⟨by omega, by simp; omega⟩

theorem placeFrom_append (nm : ByteArray) : ∀ (l r : List S24) (i : Nat), placeFrom nm (l ++ r) i = if placeFrom nm l i = -1 then placeFrom nm r (i + l.length) else placeFrom nm l i
  | [], r, i => by simp [placeFrom]
  | x :: xs, r, i => by
    have ih := placeFrom_append nm xs r (i + 1)
    rw [List.cons_append, placeFrom, placeFrom]
    by_cases h : x.f0.toList = nm.toList
    · rw [if_pos h, if_pos h, if_neg (by omega)]
    · rw [if_neg h, if_neg h, ih, List.length_cons, show i + 1 + xs.length = i + (xs.length + 1) by omega]

theorem get_some (l : List S24) (nm : ByteArray) : attrs_Get.f l nm = some (if placeFrom nm l 0 = -1 then (⟨#[]⟩, false) else ((rd_T24 l (placeFrom nm l 0)).f1, true)) := by
  unfold attrs_Get.f attrs_place.f
  simp only [Option.bind_some]
  rcases placeFrom_range nm l 0 with h | h
  · rw [if_neg (by omega), if_pos h]
  · rw [if_pos (by omega), if_pos (by omega), if_pos (by omega), if_neg (by omega)]

theorem clone_some (l : List S24) (h : l.length * 32 ≤ 140737488351232) : api_Attr_22.f l = some l := if_pos (by omega)

theorem add_some (l : List S24) (a b : ByteArray) (h : l.length * 32 ≤ 140737488351232) : attrs_Add.f l a b = some (if placeFrom a l 0 = -1 then (l ++ [⟨a, b⟩], true) else (l, false)) := by
  unfold attrs_Add.f attrs_place.f
  rw [clone_some l h]
  simp only [Option.bind_some]
  rcases placeFrom_range a l 0 with h1 | h1
  · rw [if_neg (by omega), if_pos (by omega), if_pos h1]
  · rw [if_pos (by omega), if_neg (by omega)]
end Go.Proofs.Ytkmioljfjjmcpaa.Pure
