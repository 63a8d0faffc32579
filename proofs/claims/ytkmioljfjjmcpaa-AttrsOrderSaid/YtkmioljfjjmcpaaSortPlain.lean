/- Attributes in order: the order, in plain Lean. -/
import Derived.Test.YtkmioljfjjmcpaaPx0
namespace Go.Proofs.Ytkmioljfjjmcpaa.P
open Go.RowKit Go.Proofs.YtkmioljfjjmcpaaW.PrintWords
set_option linter.unusedVariables false
abbrev E := S24
def bl : List UInt8 → List UInt8 → Bool := Op.bytesLess
theorem bl_nn : bl [] [] = false := rfl
theorem bl_cons (a b : UInt8) (x y : List UInt8) : bl (a :: x) (b :: y) = (decide (a < b) || (a == b && bl x y)) := by
  unfold bl
  rw [Op.bytesLess]
theorem bl_irrefl : ∀ x, bl x x = false
  | [] => rfl
  | a :: x => by rw [bl_cons, bl_irrefl x]; simp
theorem bl_total : ∀ x y, bl x y = false → bl y x = false → x = y
  | [], [], _, _ => rfl
  | [], _ :: _, h, _ => by simp [bl, Op.bytesLess] at h
  | _ :: _, [], _, h => by simp [bl, Op.bytesLess] at h
  | a :: x, b :: y, h1, h2 => by
    rw [bl_cons] at h1 h2
    simp only [Bool.or_eq_false_iff, decide_eq_false_iff_not, Bool.and_eq_false_iff, UInt8.not_lt] at h1 h2
    have hab : a = b := UInt8.le_antisymm h2.1 h1.1
    subst hab
    simp at h1 h2
    rw [bl_total x y h1 h2]
theorem bl_trans : ∀ x y z, bl x y = true → bl y z = true → bl x z = true
  | _, [], _, h, _ => by rename_i x z; cases x <;> simp [bl, Op.bytesLess] at h
  | _, _ :: _, [], _, h => by simp [bl, Op.bytesLess] at h
  | [], _ :: _, _ :: _, _, _ => by simp [bl, Op.bytesLess]
  | a :: x, b :: y, c :: z, h1, h2 => by
    rw [bl_cons] at h1 h2 ⊢
    simp only [Bool.or_eq_true, decide_eq_true_eq, Bool.and_eq_true, beq_iff_eq] at h1 h2 ⊢
    rcases h1 with h1 | ⟨rfl, h1⟩
    · rcases h2 with h2 | ⟨rfl, h2⟩
      · exact .inl (UInt8.lt_trans h1 h2)
      · exact .inl h1
    · rcases h2 with h2 | ⟨rfl, h2⟩
      · exact .inl h2
      · exact .inr ⟨rfl, bl_trans x y z h1 h2⟩
theorem bl_asymm (x y : List UInt8) (h : bl x y = true) : bl y x = false := by
  cases hq : bl y x with
  | false => rfl
  | true => have := bl_trans x y x h hq; rw [bl_irrefl] at this; cases this
/-- what cmp.Compare tells -/
def cmpB (a b : ByteArray) : Int := if bl a.toList b.toList then -1 else if bl b.toList a.toList then 1 else 0
/-- what attrs.Sorted's function tells -/
def orI (x y : Int) : Int := if x = 0 then y else x
def cf (x y : E) : Int := orI (cmpB x.f0 y.f0) (cmpB x.f1 y.f1)
def lt (x y : E) : Bool := decide (cf x y < 0)
theorem toList_inj {a b : ByteArray} (h : a.toList = b.toList) : a = b := by
  rw [ByteArray.toList_eq, ByteArray.toList_eq] at h
  exact ByteArray.ext (Array.ext' h)
theorem cmpB_zero {a b : ByteArray} : cmpB a b = 0 ↔ a = b := by
  unfold cmpB
  constructor
  · intro h
    by_cases h1 : bl a.toList b.toList
    · rw [if_pos h1] at h; simp at h
    · rw [if_neg h1] at h
      by_cases h2 : bl b.toList a.toList
      · rw [if_pos h2] at h; simp at h
      · exact toList_inj (bl_total _ _ (by simpa using h1) (by simpa using h2))
  · rintro rfl
    rw [bl_irrefl]; simp
theorem cmpB_neg {a b : ByteArray} : cmpB a b < 0 ↔ bl a.toList b.toList = true := by
  unfold cmpB
  by_cases h1 : bl a.toList b.toList
  · rw [if_pos h1]; simp [h1]
  · rw [if_neg h1]; simp only [h1]; split <;> simp
theorem lt_iff (x y : E) : lt x y = true ↔ (bl x.f0.toList y.f0.toList = true ∨ x.f0 = y.f0 ∧ bl x.f1.toList y.f1.toList = true) := by
  unfold lt cf orI
  rw [decide_eq_true_eq]
  by_cases h : x.f0 = y.f0
  · rw [if_pos (cmpB_zero.2 h), cmpB_neg, h, bl_irrefl]; simp
  · rw [if_neg (fun e => h (cmpB_zero.1 e)), cmpB_neg]; simp [h]
theorem lt_irrefl (x : E) : lt x x = false := by
  cases hq : lt x x with
  | false => rfl
  | true => rw [lt_iff, bl_irrefl, bl_irrefl] at hq; simp at hq
theorem lt_trans {x y z : E} (h1 : lt x y = true) (h2 : lt y z = true) : lt x z = true := by
  rw [lt_iff] at *
  rcases h1 with h1 | ⟨e1, h1⟩ <;> rcases h2 with h2 | ⟨e2, h2⟩
  · exact .inl (bl_trans _ _ _ h1 h2)
  · exact .inl (by rw [← e2]; exact h1)
  · exact .inl (by rw [e1]; exact h2)
  · exact .inr ⟨e1.trans e2, bl_trans _ _ _ h1 h2⟩
theorem lt_total {x y : E} (h1 : lt x y = false) (h2 : lt y x = false) : x = y := by
  have n1 : ¬ lt x y = true := by rw [h1]; simp
  have n2 : ¬ lt y x = true := by rw [h2]; simp
  rw [lt_iff] at n1 n2
  have e0 : x.f0 = y.f0 := toList_inj (bl_total _ _ (by cases hq : bl x.f0.toList y.f0.toList; rfl; exact absurd (.inl hq) n1) (by cases hq : bl y.f0.toList x.f0.toList; rfl; exact absurd (.inl hq) n2))
  have e1 : x.f1 = y.f1 := toList_inj (bl_total _ _ (by cases hq : bl x.f1.toList y.f1.toList; rfl; exact absurd (.inr ⟨e0, hq⟩) n1) (by cases hq : bl y.f1.toList x.f1.toList; rfl; exact absurd (.inr ⟨e0.symm, hq⟩) n2))
  obtain ⟨a, b⟩ := x
  obtain ⟨c, d⟩ := y
  simp at e0 e1
  rw [e0, e1]
/-- not behind -/
def Le (x y : E) : Prop := lt y x = false
theorem Le.refl (x : E) : Le x x := lt_irrefl x
theorem lt_le {x y : E} (h : lt x y = true) : Le x y := by
  unfold Le
  cases hq : lt y x with
  | false => rfl
  | true => have := lt_trans h hq; rw [lt_irrefl] at this; cases this
theorem Le.trans {x y z : E} (h1 : Le x y) (h2 : Le y z) : Le x z := by
  unfold Le at *
  cases hq : lt z x with
  | false => rfl
  | true =>
    cases h3 : lt x y with
    | true => have := lt_trans hq h3; rw [h2] at this; cases this
    | false => have := lt_total h3 h1; subst this; rw [h2] at hq; cases hq
theorem lt_of_lt_le {x y z : E} (h1 : lt x y = true) (h2 : Le y z) : lt x z = true := by
  cases hq : lt x z with
  | true => rfl
  | false =>
    have h3 : Le z x := hq
    have h4 : Le y x := h2.trans h3
    unfold Le at h4
    rw [h1] at h4; cases h4
theorem lt_of_le_lt {x y z : E} (h1 : Le x y) (h2 : lt y z = true) : lt x z = true := by
  cases hq : lt x z with
  | true => rfl
  | false =>
    have h3 : Le z x := hq
    have h4 : Le z y := h3.trans h1
    unfold Le at h4
    rw [h2] at h4; cases h4
theorem Le.antisymm {x y : E} (h1 : Le x y) (h2 : Le y x) : x = y := lt_total h2 h1
/-- in order -/
def Srt (l : List E) : Prop := l.Pairwise Le
/-- rows in order with the same elements are one -/
theorem srt_unique : ∀ (l m : List E), Srt l → Srt m → l.Perm m → l = m
  | [], m, _, _, h => by rw [List.nil_perm] at h; exact h.symm
  | x :: l, m, hl, hm, h => by
    cases m with
    | nil => exact absurd h.length_eq (by simp)
    | cons y m =>
      have hx : x ∈ y :: m := h.subset (List.mem_cons_self)
      have hy : y ∈ x :: l := h.symm.subset (List.mem_cons_self)
      have e : x = y := by
        refine Le.antisymm ?_ ?_
        · rcases List.mem_cons.1 hy with rfl | hy
          · exact Le.refl _
          · exact (List.pairwise_cons.1 hl).1 y hy
        · rcases List.mem_cons.1 hx with rfl | hx
          · exact Le.refl _
          · exact (List.pairwise_cons.1 hm).1 x hx
      subst e
      rw [srt_unique l m (List.pairwise_cons.1 hl).2 (List.pairwise_cons.1 hm).2 ((List.perm_cons x).1 h)]
theorem srt_append {l m : List E} (hl : Srt l) (hm : Srt m) (h : ∀ x ∈ l, ∀ y ∈ m, Le x y) : Srt (l ++ m) := List.pairwise_append.2 ⟨hl, hm, h⟩
end Go.Proofs.Ytkmioljfjjmcpaa.P
