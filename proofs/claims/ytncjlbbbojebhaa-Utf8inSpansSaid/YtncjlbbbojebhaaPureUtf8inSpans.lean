/- The characters' spans stand together, and cover all bytes. No condition. -/
import Derived.Test.YtncjlbbbojebhaaSayUtf8inSpans
import Derived.Test.YtncjlbbbojebhaaPureUtf8inEncodes
namespace Go.Proofs.Ytncjlbbbojebhaa.Pure
open Go.RowKit Go.Proofs.Ytncjlbbbojebhaa.P Go.Proofs.YtncjlbbbojebhaaW.PrintWords Go.Proofs.YtncjlbbbojebhaaW.PrintLast Go.Proofs.YtncjlbbbojebhaaW.PrintMore

/-- characters that stand together, from a to z -/
def Chain : Int → Int → List S34 → Prop
  | a, z, [] => a = z
  | a, z, c :: l => c.f1 = a ∧ a < c.f2 ∧ c.f2 ≤ a + 4 ∧ okRune c.f0 ∧ Chain c.f2 z l

theorem scan_ok (b : Int → Int) (size : Int) : ∀ (d : Nat) (j : Int), scan b size d j = j + d → ∀ i, j ≤ i → i < j + d → okAt b i
  | 0, j, _, i, h1, h2 => by omega
  | d + 1, j, h, i, h1, h2 => by
    unfold scan at h
    split at h
    case isTrue hk =>
      by_cases hi : i = j
      · subst hi; exact hk.2
      · exact scan_ok b size d (j + 1) (by omega) i (by omega) (by omega)
    case isFalse => omega

theorem acc_ok (b : Int → Int) (hb : ∀ i, 0 ≤ b i ∧ b i ≤ 255) (N : Int) (hN : N = needOf (b 0)) (h1 : 1 ≤ N) (hk : ∀ i, 1 ≤ i → i < N → okAt b i) : okRune (acc b N.toNat) := by
  have r0 := hb 0
  have r1 := hb 1
  have r2 := hb 2
  have r3 := hb 3
  have hr := acc_range b hb
  have e1 : acc b 1 = firstR (b 0) := rfl
  have e2 : acc b 2 = accStep (acc b 1) (b 1) := rfl
  have e3 : acc b 3 = accStep (acc b 2) (b 2) := rfl
  have e4 : acc b 4 = accStep (acc b 3) (b 3) := rfl
  rw [accStep_eq _ _ (by omega) (by omega) (by omega)] at e2 e3 e4
  unfold needOf at hN
  unfold firstR at e1
  by_cases c1 : b 0 < 128
  · rw [if_pos c1] at hN e1
    subst hN
    show okRune (acc b 1)
    unfold okRune
    omega
  rw [if_neg c1] at hN e1
  by_cases c2 : 194 ≤ b 0 ∧ b 0 ≤ 223
  · rw [if_pos c2] at hN
    rw [if_pos (by omega)] at e1
    subst hN
    show okRune (acc b 2)
    unfold okRune
    omega
  rw [if_neg c2] at hN
  by_cases c3 : 224 ≤ b 0 ∧ b 0 ≤ 239
  · rw [if_pos c3] at hN
    rw [if_neg (by omega), if_pos (by omega)] at e1
    subst hN
    have k1 := hk 1 (by omega) (by omega)
    unfold okAt highOf lowOf at k1
    rw [if_pos rfl] at k1
    show okRune (acc b 3)
    unfold okRune
    by_cases c : b 0 = 237
    · rw [if_pos c, if_neg (show ¬ b 0 = 224 by omega), if_neg (show ¬ b 0 = 240 by omega)] at k1
      omega
    · omega
  rw [if_neg c3] at hN
  by_cases c4 : 240 ≤ b 0 ∧ b 0 ≤ 244
  · rw [if_pos c4] at hN
    rw [if_neg (by omega), if_neg (by omega)] at e1
    subst hN
    have k1 := hk 1 (by omega) (by omega)
    unfold okAt highOf lowOf at k1
    rw [if_pos rfl, if_neg (show ¬ b 0 = 224 by omega), if_neg (show ¬ b 0 = 237 by omega)] at k1
    show okRune (acc b 4)
    unfold okRune
    by_cases c : b 0 = 244
    · rw [if_pos c, if_neg (show ¬ b 0 = 240 by omega)] at k1
      omega
    · by_cases c' : b 0 = 240
      · rw [if_pos c'] at k1
        omega
      · omega
  · rw [if_neg c4] at hN; omega

/-- one character: how long, and what -/
theorem one_ok (x : ByteArray) (h0 : 0 < (x.size : Int)) : ∃ r n m, oneOf (bt x) x.size = (r, n, m) ∧ 1 ≤ n ∧ n ≤ 4 ∧ n ≤ x.size ∧ (r < 0 ∨ okRune r) := by
  have hn := need_range (bt x 0)
  unfold oneOf
  by_cases h : needOf (bt x 0) = 0
  · rw [if_pos h]
    exact ⟨_, _, _, rfl, by omega, by omega, by omega, .inl (by omega)⟩
  · rw [if_neg h]
    have hs := scan_le (bt x) x.size (needOf (bt x 0) - 1).toNat 1
    generalize he : scan (bt x) x.size (needOf (bt x 0) - 1).toNat 1 = e at *
    unfold oneRes
    by_cases hlt : e < needOf (bt x 0)
    · rw [if_pos hlt]
      exact ⟨_, _, _, rfl, by omega, by omega, by omega, .inl (by omega)⟩
    · rw [if_neg hlt]
      refine ⟨_, _, _, rfl, by omega, by omega, by omega, .inr (acc_ok _ (bt_range x) _ rfl (by omega) (fun i h1 h2 => scan_ok (bt x) x.size (needOf (bt x 0) - 1).toNat 1 (by omega) i h1 (by omega)))⟩

theorem chain_of : ∀ (m : Nat) (x : ByteArray) (p : Int) (cs : List S34) (fs : List S43) (k : Nat) (l : List S34) (f : List S43), x.size = m → m + 40 ≤ k → 0 ≤ p → p + m ≤ 1000000 →
    taffrailref03_Decode.l0 k x p cs fs = some (l, f) → ∃ L, l = cs ++ L ∧ Chain p (p + m) L ∧ L.length ≤ m := by
  intro m
  induction m using Nat.strongRecOn with
  | _ m ih =>
  intro x p cs fs k l f hm hk hp0 hp h
  obtain ⟨k, rfl⟩ : ∃ j, k = j + 1 := ⟨k - 1, by omega⟩
  simp only [taffrailref03_Decode.l0] at h
  by_cases h0 : (x.size : Int) > 0
  · obtain ⟨r, n, mo, ho, hn1, hn4, hns, hr⟩ := one_ok x h0
    rw [if_pos h0, one_some x k (by omega) h0, ho] at h
    simp only [Option.bind_some] at h
    have hw : wrap64 (p + n) = p + n := wrap_id _ (by omega) (by omega)
    have hx : (x.extract n.toNat x.size).size = m - n.toNat := by rw [ByteArray.size_extract]; omega
    by_cases hr0 : r < 0
    · rw [if_pos hr0] at h
      by_cases a1 : fs.length < 8796093022208
      case neg => rw [if_neg a1] at h; cases h
      rw [if_pos a1] at h
      by_cases a2 : cs.length < 5864062014805
      case neg => rw [if_neg a2] at h; cases h
      rw [if_pos a2, if_pos (by omega), if_pos (by omega), hw] at h
      obtain ⟨L, hL, hc, hlen⟩ := ih (m - n.toNat) (by omega) _ _ _ _ k l f hx (by omega) (by omega) (by omega) h
      refine ⟨⟨65533, p, p + n⟩ :: L, by rw [hL]; simp, ⟨rfl, by show p < p + n; omega, by show p + n ≤ p + 4; omega, by show okRune 65533; unfold okRune; omega, ?_⟩, by simp; omega⟩
      rw [show p + n + ((m - n.toNat : Nat) : Int) = p + m by omega] at hc
      exact hc
    · rw [if_neg hr0] at h
      by_cases a2 : cs.length < 5864062014805
      case neg => rw [if_neg a2] at h; cases h
      rw [if_pos a2, if_pos (by omega), if_pos (by omega), hw] at h
      obtain ⟨L, hL, hc, hlen⟩ := ih (m - n.toNat) (by omega) _ _ _ _ k l f hx (by omega) (by omega) (by omega) h
      refine ⟨⟨r, p, p + n⟩ :: L, by rw [hL]; simp, ⟨rfl, by show p < p + n; omega, by show p + n ≤ p + 4; omega, hr.resolve_left hr0, ?_⟩, by simp; omega⟩
      rw [show p + n + ((m - n.toNat : Nat) : Int) = p + m by omega] at hc
      exact hc
  · rw [if_neg h0] at h
    obtain ⟨rfl, rfl⟩ := Prod.mk.inj (Option.some.inj h)
    exact ⟨[], by simp, by show p = p + m; omega, by simp⟩

theorem spans_loop (t : ByteArray) (l : List S34) (hl : l.length ≤ 1000000) (ht : t.size ≤ 1000000) : ∀ (d i : Nat) (a : Int) (k : Nat), l.length - i = d → 2 * d + 2 ≤ k → 0 ≤ a → a ≤ t.size → Chain a t.size (l.drop i) →
    taffraillaw03_Utf8inSpans.l0 k t l a i = some true
  | 0, i, a, k, hd, hk, ha, ha2, hc => by
    obtain ⟨m, rfl⟩ : ∃ m, k = m + 1 := ⟨k - 1, by omega⟩
    rw [List.drop_eq_nil_of_le (by omega)] at hc
    have hc' : a = t.size := hc
    simp only [taffraillaw03_Utf8inSpans.l0]
    rw [if_neg (by omega), if_pos hc', awake_some]
    rfl
  | d + 1, i, a, k, hd, hk, ha, ha2, hc => by
    obtain ⟨m, rfl⟩ : ∃ m, k = m + 2 := ⟨k - 2, by omega⟩
    have hi : i < l.length := by omega
    rw [List.drop_eq_getElem_cons hi] at hc
    have hrd : rd_T34 l (i : Int) = l[i] := by simp [rd_T34, List.getD_eq_getElem?_getD, hi]
    obtain ⟨h1, h2, h3, h4, h5⟩ := hc
    have hle : ∀ (L : List S34) (a z : Int), Chain a z L → a ≤ z := by
      intro L
      induction L with
      | nil => intro a z h; have h : a = z := h; omega
      | cons c L ih => intro a z h; obtain ⟨q1, q2, q3, q4, q5⟩ := h; have := ih _ _ q5; omega
    have hz := hle _ _ _ h5
    simp only [taffraillaw03_Utf8inSpans.l0, taffraillaw03_Utf8inSpans.j1]
    have hw : wrap64 ((i : Int) + 1) = ((i + 1 : Nat) : Int) := by rw [wrap_id _ (by omega) (by omega)]; omega
    rw [if_pos (by omega), if_pos (by omega), hrd, if_pos h1, if_neg (by omega), wrap_id (a + 4) (by omega) (by omega), if_neg (by omega), may_some]
    simp only [Option.bind_some]
    rw [if_neg (by simpa using h4), if_pos (by omega), if_pos (by omega), hw]
    exact spans_loop t l hl ht d (i + 1) _ m (by omega) (by omega) (by omega) hz h5

theorem Utf8inSpans : taffraillaw03_Utf8inSpans.Pure := by
  intro t _
  refine ⟨100000, ?_⟩
  unfold taffraillaw03_Utf8inSpans.f
  by_cases h : (t.size : Int) > 20000
  · rw [if_pos h, awake_some]; rfl
  · rw [if_neg h, utf8in_some t (by omega)]
    simp only [Option.bind_some]
    have hr := ref_some t (by omega) 100000 (by omega)
    unfold taffrailref03_Decode.f at hr
    obtain ⟨L, hL, hc, hlen⟩ := chain_of t.size t 0 [] [] 100000 (told t).1 (told t).2 rfl (by omega) (by omega) (by omega) hr
    rw [List.nil_append] at hL
    rw [hL]
    rw [show (0 : Int) + (t.size : Int) = t.size by omega] at hc
    exact spans_loop t L (by omega) (by omega) L.length 0 0 100000 (by omega) (by omega) (by omega) (by omega) (by rw [List.drop_zero]; exact hc)
end Go.Proofs.Ytncjlbbbojebhaa.Pure
