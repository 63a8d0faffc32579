/- What Missing makes has each new name once, and all that was stays in its place: for all lists of attributes. No condition. -/
import Derived.Test.YtkmioljfjjmcpaaSayAttrsOnce
import Derived.Test.YtkmioljfjjmcpaaAttrs2
namespace Go.Proofs.Ytkmioljfjjmcpaa.Pure
open Go.RowKit Go.Proofs.Ytkmioljfjjmcpaa.P Go.Proofs.YtkmioljfjjmcpaaW.PrintWords Go.Proofs.YtkmioljfjjmcpaaW.PrintLast Go.Proofs.YtkmioljfjjmcpaaW.PrintMore

theorem place_none (nm : ByteArray) : ∀ (l : List S24) (i : Nat), placeFrom nm l i = -1 ↔ ∀ x ∈ l, x.f0.toList ≠ nm.toList
  | [], i => by simp [placeFrom]
  | x :: xs, i => by
    have ih := place_none nm xs (i + 1)
    unfold placeFrom
    by_cases h : x.f0.toList = nm.toList
    · rw [if_pos h]
      constructor
      · intro h1; omega
      · intro h1; exact absurd h (h1 x (by simp))
    · rw [if_neg h, ih]
      simp [h]

theorem miss_prefix (more : List S24) : ∀ l : List S24, ∃ ext, more.foldl miss1 l = l ++ ext := by
  induction more with
  | nil => intro l; exact ⟨[], by simp⟩
  | cons a r ih =>
    intro l
    obtain ⟨e, he⟩ := ih (miss1 l a)
    rw [List.foldl_cons, he]
    unfold miss1
    split
    · exact ⟨a :: e, by simp⟩
    · exact ⟨e, rfl⟩

theorem miss_has (more : List S24) : ∀ l : List S24, ∀ a ∈ more, placeFrom a.f0 (more.foldl miss1 l) 0 ≠ -1 := by
  induction more with
  | nil => intro l a h; simp at h
  | cons b r ih =>
    intro l a h
    rw [List.foldl_cons]
    rcases List.mem_cons.1 h with rfl | h
    · obtain ⟨e, he⟩ := miss_prefix r (miss1 l a)
      rw [he]
      intro hn
      have hn' := (place_none _ _ _).1 hn
      unfold miss1 at hn'
      split at hn'
      · exact hn' a (by simp) rfl
      · rename_i hp
        exact hp ((place_none _ _ _).2 (fun x hx => hn' x (by simp [hx])))
    · exact ih _ a h

theorem miss_again (more : List S24) : ∀ m : List S24, (∀ a ∈ more, placeFrom a.f0 m 0 ≠ -1) → more.foldl miss1 m = m := by
  induction more with
  | nil => intro m _; rfl
  | cons a r ih =>
    intro m h
    have e : miss1 m a = m := if_neg (h a (by simp))
    rw [List.foldl_cons, e]
    exact ih m (fun b hb => h b (by simp [hb]))

/-- from place n on, no name stands ahead of where it is -/
def Once (n : Nat) (m : List S24) : Prop := ∀ i j (hi : i < m.length) (hj : j < i), n ≤ i → (m[j]'(by omega)).f0.toList ≠ m[i].f0.toList

theorem once_miss (n : Nat) (more : List S24) : ∀ m : List S24, Once n m → Once n (more.foldl miss1 m) := by
  induction more with
  | nil => intro m h; exact h
  | cons a r ih =>
    intro m h
    rw [List.foldl_cons]
    refine ih _ ?_
    unfold miss1
    split
    · rename_i hp
      have hp' := (place_none _ _ _).1 hp
      intro i j hi hj hn
      rw [List.length_append, List.length_singleton] at hi
      rw [List.getElem_append_left (by omega)]
      by_cases hl : i < m.length
      · rw [List.getElem_append_left hl]
        exact h i j hl hj hn
      · obtain rfl : i = m.length := by omega
        rw [List.getElem_append_right (by omega)]
        simpa using hp' _ (List.getElem_mem (show j < m.length by omega))
    · exact h

theorem l2_some (more m : List S24) (K : Nat) (hA : ∀ k, K ≤ k → taffraillaw08_awake.f k = some true) (hm : m.length ≤ 100000) (hmo : more.length ≤ 100000) (hh : ∀ a ∈ more, placeFrom a.f0 m 0 ≠ -1) :
    ∀ (d i k : Nat), more.length - i = d → i ≤ more.length → d + K + 300000 < k → taffraillaw08_AttrsOnce.l2 k more m i = some true := by
  intro d
  induction d with
  | zero =>
    intro i k hd hi hk
    obtain ⟨k, rfl⟩ : ∃ m, k = m + 1 := ⟨k - 1, by omega⟩
    simp only [taffraillaw08_AttrsOnce.l2]
    rw [if_neg (by omega), missing_some _ _ k (by omega) (by omega), miss_again _ _ hh, Option.bind_some, refEqual_refl _ (by omega) k (by omega), Option.bind_some, if_pos rfl, hA k (by omega)]
    rfl
  | succ d ih =>
    intro i k hd hi hk
    obtain ⟨k, rfl⟩ : ∃ m, k = m + 1 := ⟨k - 1, by omega⟩
    have hlt : i < more.length := by omega
    simp only [taffraillaw08_AttrsOnce.l2]
    rw [if_pos (by omega), if_pos (by omega), rd_nat _ _ hlt, get_some, if_neg (hh _ (List.getElem_mem hlt)), Option.bind_some, if_pos rfl, wrap_id _ (by omega) (by omega), show ((i : Int) + 1) = ((i + 1 : Nat) : Int) by omega]
    exact ih (i + 1) k (by omega) (by omega) (by omega)

/-- rounds enough for so many places -/
def bnd : Nat → Nat
  | 0 => 0
  | d + 1 => bnd d + 100002
theorem bnd_le : ∀ d, d ≤ 400 → bnd d ≤ 40000800
  | d, h => by
    have : bnd d = d * 100002 := by
      induction d with
      | zero => rfl
      | succ d ih => rw [bnd, ih (by omega), Nat.add_mul, Nat.one_mul]
    rw [this]
    exact Nat.le_trans (Nat.mul_le_mul_right _ h) (by decide)

theorem l0_some (more m : List S24) (n K : Nat) (hA : ∀ k, K ≤ k → taffraillaw08_awake.f k = some true) (hm : m.length ≤ 100000) (hmo : more.length ≤ 100000) (hh : ∀ a ∈ more, placeFrom a.f0 m 0 ≠ -1) (ho : Once n m) :
    ∀ (d i : Nat), m.length - i = d → i ≤ m.length → n ≤ i →
      ∀ k, bnd d + K + 500000 < k → taffraillaw08_AttrsOnce.l0 k more m i = some true := by
  intro d
  induction d with
  | zero =>
    intro i hd hi hn k hk
    obtain ⟨k, rfl⟩ : ∃ m, k = m + 1 := ⟨k - 1, by omega⟩
    simp only [taffraillaw08_AttrsOnce.l0]
    rw [if_neg (by omega)]
    exact l2_some more m K hA hm hmo hh more.length 0 k (by omega) (by omega) (by omega)
  | succ d ih =>
    intro i hd hi hn k hk
    have hb : bnd d + 100002 + K + 500000 < k := hk
    clear hk
    have inner : ∀ (c j k : Nat), i < m.length → i - j = c → j ≤ i → bnd d + c + K + 500001 < k → taffraillaw08_AttrsOnce.l1 k more m i j = some true := by
      intro c
      induction c with
      | zero =>
        intro j k hlt hc hj hk
        obtain ⟨k, rfl⟩ : ∃ m, k = m + 1 := ⟨k - 1, by omega⟩
        simp only [taffraillaw08_AttrsOnce.l1]
        rw [if_neg (by omega), wrap_id _ (by omega) (by omega), show ((i : Int) + 1) = ((i + 1 : Nat) : Int) by omega]
        exact ih (i + 1) (by omega) (by omega) (by omega) k (by omega)
      | succ c ihc =>
        intro j k hlt hc hj hk
        obtain ⟨k, rfl⟩ : ∃ m, k = m + 1 := ⟨k - 1, by omega⟩
        simp only [taffraillaw08_AttrsOnce.l1]
        rw [if_pos (by omega), if_pos (by omega), if_pos (by omega), if_pos (by omega), if_pos (by omega), rd_nat _ _ hlt, rd_nat _ _ (show j < m.length by omega), if_neg (ho i j hlt (by omega) hn), wrap_id _ (by omega) (by omega), show ((j : Int) + 1) = ((j + 1 : Nat) : Int) by omega]
        exact ihc (j + 1) k hlt (by omega) (by omega) (by omega)
    obtain ⟨k, rfl⟩ : ∃ m, k = m + 1 := ⟨k - 1, by omega⟩
    simp only [taffraillaw08_AttrsOnce.l0]
    rw [if_pos (by omega)]
    exact inner i 0 k (by omega) (by omega) (by omega) (by omega)

theorem AttrsOnce : taffraillaw08_AttrsOnce.Pure := by
  intro l more hl hm
  have hlen : l.length ≤ 140737488351232 := by omega
  have hmen : more.length ≤ 140737488351232 := by omega
  obtain ⟨K, hK⟩ := few_ev [l, more] (by intro z hz; simp at hz; rcases hz with rfl | rfl <;> assumption) (by simp)
  obtain ⟨K2, hA⟩ := awake_ev
  refine ⟨max K (K2 + 100000000), ?_⟩
  have h1 := hK (max K (K2 + 100000000)) (by omega)
  have h2 := hA (max K (K2 + 100000000)) (by omega)
  have hk : K2 + 100000000 ≤ max K (K2 + 100000000) := by omega
  have hk1 : 1 ≤ max K (K2 + 100000000) := by omega
  simp only at h1 h2
  generalize max K (K2 + 100000000) = k at *
  unfold taffraillaw08_AttrsOnce.f
  rw [h1]
  simp only [Option.bind_some, h2]
  by_cases hf : ([l, more].map List.length).sum ≤ 400
  · have hf' : l.length + more.length ≤ 400 := by simpa using hf
    rw [if_pos (by simpa using hf), missing_some _ _ k (by omega) (by omega)]
    have hq := missAll_len more l
    obtain ⟨e, he⟩ := miss_prefix more l
    have hh := miss_has more l
    have ho : Once l.length (more.foldl miss1 l) := once_miss _ _ _ (fun i j hi hj hn => by omega)
    rw [he] at hq hh ho
    rw [he]
    simp only [Option.bind_some]
    have ht : (l ++ e).take (l.length : Int).toNat = l := by simp
    rw [if_neg (by simp; omega), if_pos (by omega), if_pos (by simp; omega), ht, refEqual_refl _ (by omega) k (by omega), Option.bind_some]
    clear h1 h2
    obtain ⟨k, rfl⟩ : ∃ m, k = m + 1 := ⟨k - 1, (Nat.sub_add_cancel hk1).symm⟩
    simp only [taffraillaw08_AttrsOnce.j0]
    rw [if_neg (by simp)]
    have hd : (l ++ e).length - l.length ≤ 400 := by omega
    refine (l0_some more (l ++ e) l.length K2 hA (by omega) (by omega) hh ho ((l ++ e).length - l.length) l.length rfl (by simp) (Nat.le_refl _)) k ?_
    have := bnd_le _ hd
    omega
  · rw [if_neg (by simpa using hf)]
end Go.Proofs.Ytkmioljfjjmcpaa.Pure
