/- Plain facts on lists of attributes: Get, Add, Missing, Equal of attrs and of the reference, in closed form. -/
import Derived.Test.YtkmioljfjjmcpaaAttrs
import Derived.Test.YtkmioljfjjmcpaaPx4
namespace Go.Proofs.Ytkmioljfjjmcpaa.Pure
open Go.RowKit Go.Proofs.Ytkmioljfjjmcpaa.P Go.Proofs.YtkmioljfjjmcpaaW.PrintWords Go.Proofs.YtkmioljfjjmcpaaW.PrintLast Go.Proofs.YtkmioljfjjmcpaaW.PrintMore

theorem refGet_at (l : List S24) (nm : ByteArray) (hl : l.length ≤ 4611686018427387904) : ∀ (d i k : Nat), l.length - i = d → i ≤ l.length → d < k →
    taffrailref08_Get.l0 k l nm i = some (if placeFrom nm (l.drop i) i = -1 then (⟨#[]⟩, false) else ((rd_T24 l (placeFrom nm (l.drop i) i)).f1, true)) := by
  intro d
  induction d with
  | zero =>
    intro i k hd hi hk
    obtain ⟨k, rfl⟩ : ∃ m, k = m + 1 := ⟨k - 1, by omega⟩
    simp only [taffrailref08_Get.l0]
    rw [if_neg (by omega), List.drop_eq_nil_of_le (by omega)]
    rfl
  | succ d ih =>
    intro i k hd hi hk
    obtain ⟨k, rfl⟩ : ∃ m, k = m + 1 := ⟨k - 1, by omega⟩
    simp only [taffrailref08_Get.l0]
    rw [if_pos (by omega), if_pos (by omega), placeFrom_drop _ _ _ (by omega)]
    by_cases h : (rd_T24 l i).f0.toList = nm.toList
    · rw [if_pos h, if_pos h, if_neg (by omega)]
    · rw [if_neg h, if_neg h, wrap_id _ (by omega) (by omega)]
      have := ih (i + 1) k (by omega) (by omega) (by omega)
      rw [show ((i : Int) + 1) = ((i + 1 : Nat) : Int) by omega, this]

theorem refGet_some (l : List S24) (nm : ByteArray) (hl : l.length ≤ 4611686018427387904) (k : Nat) (hk : l.length < k) :
    taffrailref08_Get.f k l nm = some (if placeFrom nm l 0 = -1 then (⟨#[]⟩, false) else ((rd_T24 l (placeFrom nm l 0)).f1, true)) :=
  refGet_at l nm hl l.length 0 k (by omega) (by omega) hk

theorem refAdd_some (l : List S24) (a b : ByteArray) (hl : l.length ≤ 1000000000000) (k : Nat) (hk : l.length < k) :
    taffrailref08_Add.f k l a b = some (if placeFrom a l 0 = -1 then (l ++ [⟨a, b⟩], true) else (l, false)) := by
  unfold taffrailref08_Add.f
  rw [refGet_some l a (by omega) k hk]
  by_cases h : placeFrom a l 0 = -1
  · simp only [if_pos h, Option.bind_some, Bool.false_eq_true, if_false]
    rw [if_pos (by simp; omega)]
    simp
    omega
  · simp only [if_neg h, Option.bind_some, if_true]

/-- one that is missing is put behind -/
def miss1 (l : List S24) (a : S24) : List S24 := if placeFrom a.f0 l 0 = -1 then l ++ [a] else l
theorem miss1_len (l : List S24) (a : S24) : (miss1 l a).length ≤ l.length + 1 ∧ l.length ≤ (miss1 l a).length := by
  unfold miss1; split <;> simp

theorem missing_at (more : List S24) : ∀ (d i k : Nat) (l : List S24), more.length - i = d → i ≤ more.length → d < k → l.length + d ≤ 1000000000000 → more.length ≤ 1000000000000 →
    attrs_Missing.l0 k l more more.length i = some ((more.drop i).foldl miss1 l) := by
  intro d
  induction d with
  | zero =>
    intro i k l hd hi hk h0 h1
    obtain ⟨k, rfl⟩ : ∃ m, k = m + 1 := ⟨k - 1, by omega⟩
    simp only [attrs_Missing.l0]
    rw [if_neg (by omega), List.drop_eq_nil_of_le (by omega)]
    rfl
  | succ d ih =>
    intro i k l hd hi hk h0 h1
    obtain ⟨k, rfl⟩ : ∃ m, k = m + 1 := ⟨k - 1, by omega⟩
    have hlt : i < more.length := by omega
    simp only [attrs_Missing.l0, attrs_place.f, Option.bind_some]
    rw [if_pos (by omega), if_pos (by omega), if_pos (by omega), rd_nat _ _ hlt, wrap_id _ (by omega) (by omega), show ((i : Int) + 1) = ((i + 1 : Nat) : Int) by omega, List.drop_eq_getElem_cons hlt, List.foldl_cons]
    rcases placeFrom_range more[i].f0 l 0 with h | h
    · have e : miss1 l more[i] = l ++ [more[i]] := if_pos h
      rw [if_pos (by omega), if_pos (by omega), ih (i + 1) k _ (by omega) (by omega) (by omega) (by simp; omega) h1, e]
    · have e : miss1 l more[i] = l := if_neg (by omega)
      rw [if_neg (by omega), ih (i + 1) k _ (by omega) (by omega) (by omega) (by omega) h1, e]

theorem missing_some (l more : List S24) (k : Nat) (hk : more.length < k) (h0 : l.length + more.length ≤ 1000000000000) : attrs_Missing.f k l more = some (more.foldl miss1 l) := by
  unfold attrs_Missing.f
  rw [clone_some l (by omega)]
  exact missing_at more more.length 0 k l (by omega) (by omega) hk h0 (by omega)

theorem refMissing_at (more : List S24) : ∀ (d i k : Nat) (l : List S24), more.length - i = d → i ≤ more.length → d + (l.length + d) < k → l.length + d ≤ 1000000000000 → more.length ≤ 1000000000000 →
    taffrailref08_Missing.l0 k l more i = some ((more.drop i).foldl miss1 l) := by
  intro d
  induction d with
  | zero =>
    intro i k l hd hi hk h0 h1
    obtain ⟨k, rfl⟩ : ∃ m, k = m + 1 := ⟨k - 1, by omega⟩
    simp only [taffrailref08_Missing.l0]
    rw [if_neg (by omega), List.drop_eq_nil_of_le (by omega)]
    rfl
  | succ d ih =>
    intro i k l hd hi hk h0 h1
    obtain ⟨k, rfl⟩ : ∃ m, k = m + 1 := ⟨k - 1, by omega⟩
    have hlt : i < more.length := by omega
    simp only [taffrailref08_Missing.l0]
    rw [if_pos (by omega), if_pos (by omega), rd_nat _ _ hlt, refAdd_some _ _ _ (by omega) k (by omega), wrap_id _ (by omega) (by omega), show ((i : Int) + 1) = ((i + 1 : Nat) : Int) by omega, List.drop_eq_getElem_cons hlt, List.foldl_cons]
    by_cases h : placeFrom more[i].f0 l 0 = -1
    · have e : miss1 l more[i] = l ++ [more[i]] := if_pos h
      simp only [if_pos h, Option.bind_some]
      rw [e, ← ih (i + 1) k _ (by omega) (by omega) (by simp; omega) (by simp; omega) h1]
    · have e : miss1 l more[i] = l := if_neg h
      simp only [if_neg h, Option.bind_some]
      rw [e, ← ih (i + 1) k _ (by omega) (by omega) (by omega) (by omega) h1]

theorem refMissing_some (l more : List S24) (k : Nat) (hk : more.length + (l.length + more.length) < k) (h0 : l.length + more.length ≤ 1000000000000) : taffrailref08_Missing.f k l more = some (more.foldl miss1 l) :=
  refMissing_at more more.length 0 k l (by omega) (by omega) hk h0 (by omega)

theorem refEqual_at (l : List S24) (hl : l.length ≤ 4611686018427387904) : ∀ (d i k : Nat), l.length - i = d → i ≤ l.length → d < k → taffrailref08_Equal.l0 k l l i = some true := by
  intro d
  induction d with
  | zero =>
    intro i k hd hi hk
    obtain ⟨k, rfl⟩ : ∃ m, k = m + 1 := ⟨k - 1, by omega⟩
    simp only [taffrailref08_Equal.l0]
    rw [if_neg (by omega)]
  | succ d ih =>
    intro i k hd hi hk
    obtain ⟨k, rfl⟩ : ∃ m, k = m + 1 := ⟨k - 1, by omega⟩
    simp only [taffrailref08_Equal.l0]
    rw [if_pos (by omega), if_pos (by omega), if_pos (by omega), if_neg (by simp), wrap_id _ (by omega) (by omega), show ((i : Int) + 1) = ((i + 1 : Nat) : Int) by omega]
    exact ih (i + 1) k (by omega) (by omega) (by omega)

theorem refEqual_refl (l : List S24) (hl : l.length ≤ 4611686018427387904) (k : Nat) (hk : l.length < k) : taffrailref08_Equal.f k l l = some true := by
  unfold taffrailref08_Equal.f
  rw [if_pos rfl]
  exact refEqual_at l hl l.length 0 k (by omega) (by omega) hk

theorem missAll_len (more : List S24) : ∀ l : List S24, (more.foldl miss1 l).length ≤ l.length + more.length := by
  induction more with
  | nil => intro l; simp
  | cons a r ih =>
    intro l
    have h1 := ih (miss1 l a)
    have h2 := (miss1_len l a).1
    simp only [List.foldl_cons, List.length_cons]
    omega
end Go.Proofs.Ytkmioljfjjmcpaa.Pure
