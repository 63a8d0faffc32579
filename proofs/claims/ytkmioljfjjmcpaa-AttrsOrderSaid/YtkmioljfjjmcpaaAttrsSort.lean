/- Plain facts for the laws of Same and Sorted. -/
import Derived.Test.YtkmioljfjjmcpaaPx5
import Derived.Test.YtkmioljfjjmcpaaAttrs2
namespace Go.Proofs.Ytkmioljfjjmcpaa.Pure
set_option linter.unusedVariables false
open Go.RowKit Go.Proofs.Ytkmioljfjjmcpaa.P Go.Proofs.YtkmioljfjjmcpaaW.PrintWords Go.Proofs.YtkmioljfjjmcpaaW.PrintLast Go.Proofs.YtkmioljfjjmcpaaW.PrintMore
/-- one of l is (a, b) -/
def hasE (a b : ByteArray) (l : List S24) : Bool := l.any (fun x => x.f0.toList == a.toList && x.f1.toList == b.toList)
theorem has_mem {x : S24} {l : List S24} (h : x ∈ l) : hasE x.f0 x.f1 l = true := by
  unfold hasE
  rw [List.any_eq_true]
  exact ⟨x, h, by simp⟩
theorem refIn_at (l : List S24) (hl : l.length ≤ 1000000) (a b : ByteArray) : ∀ (d i k : Nat), l.length - i = d → i ≤ l.length → d < k → taffrailref08_in.l0 k l i a b = some (hasE a b (l.drop i)) := by
  intro d
  induction d with
  | zero =>
    intro i k hd hi hk
    obtain ⟨k, rfl⟩ : ∃ m, k = m + 1 := ⟨k - 1, by omega⟩
    simp only [taffrailref08_in.l0]
    rw [if_neg (by omega), List.drop_eq_nil_of_le (by omega)]
    rfl
  | succ d ih =>
    intro i k hd hi hk
    obtain ⟨k, rfl⟩ : ∃ m, k = m + 1 := ⟨k - 1, by omega⟩
    have hlt : i < l.length := by omega
    simp only [taffrailref08_in.l0]
    rw [if_pos (by omega), if_pos (by omega), rd_nat _ _ hlt, wrap_id _ (by omega) (by omega), show ((i : Int) + 1) = ((i + 1 : Nat) : Int) by omega, ih (i + 1) k (by omega) (by omega) (by omega), List.drop_eq_getElem_cons hlt]
    unfold hasE
    rw [List.any_cons]
    cases (l[i].f0.toList == a.toList && l[i].f1.toList == b.toList) <;> simp
theorem refIn_some (l : List S24) (hl : l.length ≤ 1000000) (a b : ByteArray) (k : Nat) (hk : l.length < k) : taffrailref08_in.f k a b l = some (hasE a b l) := by
  have := refIn_at l hl a b l.length 0 k (by omega) (by omega) hk
  rw [List.drop_zero] at this
  exact this
theorem idx_at (l : List S24) (hl : l.length ≤ 1000000) (a b : ByteArray) : ∀ (d i k : Nat), l.length - i = d → i ≤ l.length → d < k → ∃ r : Int, api_Attr_31.l0 k l l.length i a b = some r ∧ (decide (r ≥ 0) = hasE a b (l.drop i)) := by
  intro d
  induction d with
  | zero =>
    intro i k hd hi hk
    obtain ⟨k, rfl⟩ : ∃ m, k = m + 1 := ⟨k - 1, by omega⟩
    simp only [api_Attr_31.l0]
    rw [if_neg (by omega), List.drop_eq_nil_of_le (by omega)]
    exact ⟨_, rfl, rfl⟩
  | succ d ih =>
    intro i k hd hi hk
    obtain ⟨k, rfl⟩ : ∃ m, k = m + 1 := ⟨k - 1, by omega⟩
    have hlt : i < l.length := by omega
    obtain ⟨r, h1, h2⟩ := ih (i + 1) k (by omega) (by omega) (by omega)
    simp only [api_Attr_31.l0]
    rw [if_pos (by omega), if_pos (by omega), if_pos (by omega), rd_nat _ _ hlt, wrap_id _ (by omega) (by omega), show ((i : Int) + 1) = ((i + 1 : Nat) : Int) by omega, h1, List.drop_eq_getElem_cons hlt]
    unfold hasE at h2 ⊢
    rw [List.any_cons, show (l[i].f0.toList == a.toList && l[i].f1.toList == b.toList) = (a.toList == l[i].f0.toList && b.toList == l[i].f1.toList) by rw [Bool.beq_comm, Bool.beq_comm (a := l[i].f1.toList)]]
    by_cases hq : (a.toList == l[i].f0.toList && b.toList == l[i].f1.toList) = true
    · rw [if_pos hq]
      exact ⟨_, rfl, by rw [hq, Bool.true_or]; exact decide_eq_true (by omega)⟩
    · rw [if_neg hq]
      rw [Bool.not_eq_true] at hq
      exact ⟨_, rfl, by rw [hq, Bool.false_or]; exact h2⟩
theorem contains_some (l : List S24) (hl : l.length ≤ 1000000) (a b : ByteArray) (k : Nat) (hk : l.length < k) : api_Attr_23.f k l a b = some (hasE a b l) := by
  obtain ⟨r, h1, h2⟩ := idx_at l hl a b l.length 0 k (by omega) (by omega) hk
  rw [List.drop_zero] at h2
  unfold api_Attr_23.f api_Attr_31.f
  have h3 : api_Attr_31.l0 k l (l.length : Int) 0 a b = some r := h1
  rw [h3, Option.bind_some, h2]
/-- each of both, place by place, is in the other -/
def sameB (l0 l1 : List S24) (i : Nat) : Bool := ((l0.drop i).zip (l1.drop i)).all fun p => hasE p.1.f0 p.1.f1 l1 && hasE p.2.f0 p.2.f1 l0
theorem same_at (l0 l1 : List S24) (h0 : l0.length ≤ 1000000) (he : l0.length = l1.length) : ∀ (d i k : Nat), l0.length - i = d → i ≤ l0.length → d + l0.length < k → attrs_Same.l0 k l0 l1 l0.length i = some (sameB l0 l1 i) := by
  intro d
  induction d with
  | zero =>
    intro i k hd hi hk
    obtain ⟨k, rfl⟩ : ∃ m, k = m + 1 := ⟨k - 1, by omega⟩
    simp only [attrs_Same.l0]
    unfold sameB
    rw [if_neg (by omega), List.drop_eq_nil_of_le (by omega)]
    rfl
  | succ d ih =>
    intro i k hd hi hk
    obtain ⟨k, rfl⟩ : ∃ m, k = m + 1 := ⟨k - 1, by omega⟩
    have hlt : i < l0.length := by omega
    have hlt1 : i < l1.length := by omega
    have hI := ih (i + 1) k (by omega) (by omega) (by omega)
    simp only [attrs_Same.l0]
    rw [if_pos (by omega), if_pos (by omega), if_pos (by omega), rd_nat _ _ hlt, rd_nat _ _ hlt1, wrap_id _ (by omega) (by omega), show ((i : Int) + 1) = ((i + 1 : Nat) : Int) by omega, hI, contains_some l1 (by omega) _ _ k (by omega), contains_some l0 (by omega) _ _ k (by omega), Option.bind_some, if_pos (show (i : Int) < (l1.length : Int) by omega), Option.bind_some]
    unfold sameB
    rw [List.drop_eq_getElem_cons hlt, List.drop_eq_getElem_cons hlt1, List.zip_cons_cons, List.all_cons]
    cases hasE l0[i].f0 l0[i].f1 l1 <;> cases hasE l1[i].f0 l1[i].f1 l0 <;> simp
theorem same_some (l0 l1 : List S24) (h0 : l0.length ≤ 1000000) (h1 : l1.length ≤ 1000000) (k : Nat) (hk : 2000002 < k) : attrs_Same.f k l0 l1 = some (decide (l0.length = l1.length) && sameB l0 l1 0) := by
  unfold attrs_Same.f
  by_cases he : l0.length = l1.length
  · rw [if_pos (by omega), decide_eq_true he, Bool.true_and]
    exact same_at l0 l1 h0 he l0.length 0 k (by omega) (by omega) (by omega)
  · rw [if_neg (by omega), decide_eq_false he, Bool.false_and]
theorem refSame_at (l0 l1 : List S24) (h0 : l0.length ≤ 1000000) (he : l0.length = l1.length) : ∀ (d i k : Nat), l0.length - i = d → i ≤ l0.length → d + l0.length < k → taffrailref08_Same.l0 k l0 l1 i = some (sameB l0 l1 i) := by
  intro d
  induction d with
  | zero =>
    intro i k hd hi hk
    obtain ⟨k, rfl⟩ : ∃ m, k = m + 1 := ⟨k - 1, by omega⟩
    simp only [taffrailref08_Same.l0]
    unfold sameB
    rw [if_neg (by omega), List.drop_eq_nil_of_le (by omega)]
    rfl
  | succ d ih =>
    intro i k hd hi hk
    obtain ⟨k, rfl⟩ : ∃ m, k = m + 1 := ⟨k - 1, by omega⟩
    have hlt : i < l0.length := by omega
    have hlt1 : i < l1.length := by omega
    have hI := ih (i + 1) k (by omega) (by omega) (by omega)
    simp only [taffrailref08_Same.l0]
    rw [if_pos (by omega), if_pos (by omega), rd_nat _ _ hlt, rd_nat _ _ hlt1, wrap_id _ (by omega) (by omega), show ((i : Int) + 1) = ((i + 1 : Nat) : Int) by omega, hI, refIn_some l1 (by omega) _ _ k (by omega), refIn_some l0 (by omega) _ _ k (by omega), Option.bind_some, if_pos (show (i : Int) < (l1.length : Int) by omega), Option.bind_some]
    unfold sameB
    rw [List.drop_eq_getElem_cons hlt, List.drop_eq_getElem_cons hlt1, List.zip_cons_cons, List.all_cons]
    cases hasE l0[i].f0 l0[i].f1 l1 <;> cases hasE l1[i].f0 l1[i].f1 l0 <;> simp
theorem refSame_some (l0 l1 : List S24) (h0 : l0.length ≤ 1000000) (h1 : l1.length ≤ 1000000) (k : Nat) (hk : 2000002 < k) : taffrailref08_Same.f k l0 l1 = some (decide (l0.length = l1.length) && sameB l0 l1 0) := by
  unfold taffrailref08_Same.f
  by_cases he : l0.length = l1.length
  · rw [if_pos (by omega), decide_eq_true he, Bool.true_and]
    exact refSame_at l0 l1 h0 he l0.length 0 k (by omega) (by omega) (by omega)
  · rw [if_neg (by omega), decide_eq_false he, Bool.false_and]
theorem sameB_of {l0 l1 : List S24} (h1 : ∀ x ∈ l0, x ∈ l1) (h2 : ∀ x ∈ l1, x ∈ l0) : sameB l0 l1 0 = true := by
  unfold sameB
  rw [List.all_eq_true]
  rintro ⟨x, y⟩ hp
  rw [List.drop_zero, List.drop_zero] at hp
  have := List.of_mem_zip hp
  rw [has_mem (h1 x this.1), has_mem (h2 y this.2)]
  rfl
theorem sorted_some (l : List S24) (h : l.length ≤ 1000000) : attrs_Sorted.f l = some (sortE l) := if_pos ⟨by omega, by omega⟩
theorem refSorted_some (l : List S24) (h : l.length ≤ 1000000) : taffrailref08_Sorted.f l = some (sortE l) := if_pos ⟨by omega, by omega⟩
end Go.Proofs.Ytkmioljfjjmcpaa.Pure
