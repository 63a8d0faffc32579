/- Attributes in order: merging in place, in plain Lean. -/
import Derived.Test.YtkmioljfjjmcpaaSortPlain
namespace Go.Proofs.Ytkmioljfjjmcpaa.P
open Go.RowKit Go.Proofs.YtkmioljfjjmcpaaW.PrintWords
set_option linter.unusedVariables false
theorem srt_get {l : List E} (h : Srt l) {i j : Nat} {x y : E} (hij : i ≤ j) (hx : l[i]? = some x) (hy : l[j]? = some y) : Le x y := by
  obtain ⟨hi, rfl⟩ := List.getElem?_eq_some_iff.1 hx
  obtain ⟨hj, rfl⟩ := List.getElem?_eq_some_iff.1 hy
  rcases Nat.lt_or_eq_of_le hij with hlt | rfl
  · exact List.pairwise_iff_getElem.1 h i j hi hj hlt
  · exact Le.refl _
theorem srt_take {l : List E} (h : Srt l) (n : Nat) : Srt (l.take n) := h.sublist (List.take_sublist n l)
theorem srt_drop {l : List E} (h : Srt l) (n : Nat) : Srt (l.drop n) := h.sublist (List.drop_sublist n l)
/-- the search over one row for the place of x ahead of all that are not less: up to i all are less, from j on none is -/
def One (l : List E) (x : E) (i j : Nat) : Prop := i ≤ j ∧ j ≤ l.length ∧ (∀ k u, k < i → l[k]? = some u → lt u x = true) ∧ (∀ k u, j ≤ k → l[k]? = some u → lt u x = false)
theorem One.start (l : List E) (x : E) : One l x 0 l.length := ⟨Nat.zero_le _, Nat.le_refl _, fun k u h => by omega, fun k u h hu => by have := (List.getElem?_eq_some_iff.1 hu).1; omega⟩
theorem One.less {l : List E} {x u : E} {i j h : Nat} (hl : Srt l) (H : One l x i j) (h1 : i ≤ h) (h2 : h < j) (hu : l[h]? = some u) (hlt : lt u x = true) : One l x (h + 1) j :=
  ⟨by omega, H.2.1, fun k v hk hv => lt_of_le_lt (srt_get hl (by omega) hv hu) hlt, H.2.2.2⟩
theorem One.not {l : List E} {x u : E} {i j h : Nat} (hl : Srt l) (H : One l x i j) (h1 : i ≤ h) (h2 : h < j) (hu : l[h]? = some u) (hlt : lt u x = false) : One l x i h :=
  ⟨h1, by have := H.2.1; omega, H.2.2.1, fun k v hk hv => by
    have h3 := srt_get hl hk hu hv
    have h4 : Le x u := hlt
    exact h4.trans h3⟩
/-- x goes behind those that are less -/
theorem One.done {l : List E} {x : E} {i : Nat} (hl : Srt l) (H : One l x i i) : Srt (l.take i ++ x :: l.drop i) := by
  refine srt_append (srt_take hl i) ?_ ?_
  · refine List.pairwise_cons.2 ⟨fun y hy => ?_, srt_drop hl i⟩
    obtain ⟨k, hk⟩ := List.getElem?_of_mem hy
    rw [List.getElem?_drop] at hk
    exact H.2.2.2 _ y (by omega) hk
  · intro y hy z hz
    obtain ⟨k, hk⟩ := List.getElem?_of_mem hy
    have hki : k < i := by have := (List.getElem?_eq_some_iff.1 hk).1; rw [List.length_take] at this; omega
    rw [List.getElem?_take_of_lt hki] at hk
    rcases List.mem_cons.1 hz with rfl | hz
    · exact lt_le (H.2.2.1 k y hki hk)
    · obtain ⟨k2, hk2⟩ := List.getElem?_of_mem hz
      rw [List.getElem?_drop] at hk2
      exact srt_get hl (by omega) hk hk2
/-- the search for the place of x behind all that it is not less than: up to i x is not less, from j on it is -/
def Two (l : List E) (x : E) (i j : Nat) : Prop := i ≤ j ∧ j ≤ l.length ∧ (∀ k u, k < i → l[k]? = some u → lt x u = false) ∧ (∀ k u, j ≤ k → l[k]? = some u → lt x u = true)
theorem Two.start (l : List E) (x : E) : Two l x 0 l.length := ⟨Nat.zero_le _, Nat.le_refl _, fun k u h => by omega, fun k u h hu => by have := (List.getElem?_eq_some_iff.1 hu).1; omega⟩
theorem Two.not {l : List E} {x u : E} {i j h : Nat} (hl : Srt l) (H : Two l x i j) (h1 : i ≤ h) (h2 : h < j) (hu : l[h]? = some u) (hlt : lt x u = false) : Two l x (h + 1) j :=
  ⟨by omega, H.2.1, fun k v hk hv => (srt_get hl (by omega) hv hu : Le v u).trans hlt, H.2.2.2⟩
theorem Two.less {l : List E} {x u : E} {i j h : Nat} (hl : Srt l) (H : Two l x i j) (h1 : i ≤ h) (h2 : h < j) (hu : l[h]? = some u) (hlt : lt x u = true) : Two l x i h :=
  ⟨h1, by have := H.2.1; omega, H.2.2.1, fun k v hk hv => lt_of_lt_le hlt (srt_get hl hk hu hv)⟩
theorem Two.done {l : List E} {x : E} {i : Nat} (hl : Srt l) (H : Two l x i i) : Srt (l.take i ++ x :: l.drop i) := by
  refine srt_append (srt_take hl i) ?_ ?_
  · refine List.pairwise_cons.2 ⟨fun y hy => ?_, srt_drop hl i⟩
    obtain ⟨k, hk⟩ := List.getElem?_of_mem hy
    rw [List.getElem?_drop] at hk
    exact lt_le (H.2.2.2 _ y (by omega) hk)
  · intro y hy z hz
    obtain ⟨k, hk⟩ := List.getElem?_of_mem hy
    have hki : k < i := by have := (List.getElem?_eq_some_iff.1 hk).1; rw [List.length_take] at this; omega
    rw [List.getElem?_take_of_lt hki] at hk
    rcases List.mem_cons.1 hz with rfl | hz
    · exact H.2.2.1 k y hki hk
    · obtain ⟨k2, hk2⟩ := List.getElem?_of_mem hz
      rw [List.getElem?_drop] at hk2
      exact srt_get hl (by omega) hk hk2
/-- the search of the merge, in places from the left row's head on: q = mid + m - 1 -/
def Sym (L R : List E) (s0 r0 q i j : Nat) : Prop := s0 ≤ i ∧ i ≤ j ∧ j ≤ r0 ∧ (∀ c u v, s0 ≤ c → c < i → R[q - c - L.length]? = some u → L[c]? = some v → lt u v = false) ∧ (∀ c u v, j ≤ c → c < r0 → R[q - c - L.length]? = some u → L[c]? = some v → lt u v = true)
theorem Sym.start {L R : List E} {s0 r0 q : Nat} (h : s0 ≤ r0) : Sym L R s0 r0 q s0 r0 := ⟨Nat.le_refl _, h, Nat.le_refl _, fun c u v h1 h2 => by omega, fun c u v h1 h2 => by omega⟩
theorem Sym.not {L R : List E} {s0 r0 q i j c : Nat} {u v : E} (hL : Srt L) (hR : Srt R) (H : Sym L R s0 r0 q i j) (h1 : i ≤ c) (h2 : c < j) (hq : L.length + c ≤ q) (hu : R[q - c - L.length]? = some u) (hv : L[c]? = some v) (hlt : lt u v = false) : Sym L R s0 r0 q (c + 1) j := by
  refine ⟨by have := H.1; omega, by omega, H.2.2.1, fun c' u' v' g1 g2 hu' hv' => ?_, H.2.2.2.2⟩
  have a1 : Le v' v := srt_get hL (by omega) hv' hv
  have a2 : Le u u' := srt_get hR (by omega) hu hu'
  have a3 : Le v u := hlt
  exact (a1.trans a3).trans a2
theorem Sym.less {L R : List E} {s0 r0 q i j c : Nat} {u v : E} (hL : Srt L) (hR : Srt R) (H : Sym L R s0 r0 q i j) (h1 : i ≤ c) (h2 : c < j) (hq : L.length + c ≤ q) (hu : R[q - c - L.length]? = some u) (hv : L[c]? = some v) (hlt : lt u v = true) : Sym L R s0 r0 q i c := by
  refine ⟨H.1, h1, by have := H.2.2.1; omega, H.2.2.2.1, fun c' u' v' g1 g2 hu' hv' => ?_⟩
  have a1 : Le v v' := srt_get hL (by omega) hv hv'
  have a2 : Le u' u := srt_get hR (by omega) hu' hu
  exact lt_of_le_lt a2 (lt_of_lt_le hlt a1)
/-- what the merge parts, and how the parts stand -/
theorem sym_cross {L R : List E} {mid s0 r0 i : Nat} (hL : Srt L) (hR : Srt R) (hmid : mid = (L.length + R.length) / 2) (hs0 : s0 = if L.length > mid then mid - R.length else 0) (hr0 : r0 = if L.length > mid then mid else L.length)
    (H : Sym L R s0 r0 (mid + L.length - 1) i i) (hl0 : 1 ≤ L.length) (hr1 : 1 ≤ R.length) :
    i ≤ L.length ∧ i ≤ mid ∧ mid - i ≤ R.length ∧ ∀ x ∈ L.take i ++ R.take (mid - i), ∀ y ∈ L.drop i ++ R.drop (mid - i), Le x y := by
  obtain ⟨a1, _, a2, a3, a4⟩ := H
  have b1 : i ≤ L.length := by split at hr0 <;> omega
  have b2 : i ≤ mid := by split at hr0 <;> omega
  have b3 : mid - i ≤ R.length := by split at hs0 <;> omega
  refine ⟨b1, b2, b3, ?_⟩
  intro x hx y hy
  rcases List.mem_append.1 hx with hx | hx <;> rcases List.mem_append.1 hy with hy | hy
  all_goals
    obtain ⟨k, hk⟩ := List.getElem?_of_mem hx
    obtain ⟨k2, hk2⟩ := List.getElem?_of_mem hy
    have hkl := (List.getElem?_eq_some_iff.1 hk).1
    have hkl2 := (List.getElem?_eq_some_iff.1 hk2).1
    rw [List.getElem?_drop] at hk2
    rw [List.length_take] at hkl
    rw [List.length_drop] at hkl2
    rw [List.getElem?_take_of_lt (by omega)] at hk
  · exact srt_get hL (by omega) hk hk2
  · -- left ahead, right behind
    by_cases hi : s0 < i
    · obtain ⟨u, hu⟩ : ∃ u, R[mid - i]? = some u := ⟨_, List.getElem?_eq_getElem (by omega)⟩
      obtain ⟨v, hv⟩ : ∃ v, L[i - 1]? = some v := ⟨_, List.getElem?_eq_getElem (by omega)⟩
      have h3 : Le v u := a3 (i - 1) u v (by omega) (by omega) (by rw [show mid + L.length - 1 - (i - 1) - L.length = mid - i by omega]; exact hu) hv
      exact ((srt_get hL (by omega) hk hv).trans h3).trans (srt_get hR (by omega) hu hk2)
    · exfalso
      split at hs0 <;> omega
  · -- right ahead, left behind
    by_cases hi : i < r0
    · obtain ⟨u, hu⟩ : ∃ u, R[mid - i - 1]? = some u := ⟨_, List.getElem?_eq_getElem (by omega)⟩
      obtain ⟨v, hv⟩ : ∃ v, L[i]? = some v := ⟨_, List.getElem?_eq_getElem (by omega)⟩
      have h3 : lt u v = true := a4 i u v (Nat.le_refl _) hi (by rw [show mid + L.length - 1 - i - L.length = mid - i - 1 by omega]; exact hu) hv
      exact ((srt_get hR (by omega) hk hu).trans (lt_le h3)).trans (srt_get hL (by omega) hv hk2)
    · exfalso
      split at hr0 <;> omega
  · exact srt_get hR (by omega) hk hk2
end Go.Proofs.Ytkmioljfjjmcpaa.P
