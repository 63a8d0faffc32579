/- Layer 3's plain law: the decoder tells what the definition tells. -/
import Derived.Test.YtdmkhcmkfhojgaaPx5
set_option linter.unusedVariables false
set_option linter.unusedSimpArgs false
namespace Go.Proofs.Ytdmkhcmkfhojgaa.Pure
open Go.RowKit Go.Proofs.Ytdmkhcmkfhojgaa.P Go.Proofs.YtdmkhcmkfhojgaaW.PrintWords Go.Proofs.YtdmkhcmkfhojgaaW.PrintLast Go.Proofs.YtdmkhcmkfhojgaaW.PrintMore

theorem wrap_id (x : Int) (h1 : -9223372036854775808 ≤ x) (h2 : x ≤ 9223372036854775807) : wrap64 x = x := by unfold wrap64; omega

def needOf (c : Int) : Int := if c < 128 then 1 else if 194 ≤ c ∧ c ≤ 223 then 2 else if 224 ≤ c ∧ c ≤ 239 then 3 else if 240 ≤ c ∧ c ≤ 244 then 4 else 0
def lowOf (c : Int) : Int := if c = 224 then 160 else if c = 240 then 144 else 128
def highOf (c : Int) : Int := if c = 237 then 159 else if c = 244 then 143 else 191
def firstR (c : Int) : Int := if c < 128 then c else if c < 224 then c % 32 else if c < 240 then c % 16 else c % 8
/-- may byte j stand there, behind the first one? -/
def okAt (b : Int → Int) (j : Int) : Prop := if j = 1 then lowOf (b 0) ≤ b 1 ∧ b 1 ≤ highOf (b 0) else 128 ≤ b j ∧ b j ≤ 191
instance (b : Int → Int) (j : Int) : Decidable (okAt b j) := by unfold okAt; infer_instance
def accStep (r c : Int) : Int := Go.bits .or .i64 (wrap64 (r * 64)) (c % 64)
def acc (b : Int → Int) : Nat → Int
  | 0 => 0
  | 1 => firstR (b 0)
  | j + 1 => accStep (acc b j) (b j)
theorem acc_succ (b : Int → Int) (j : Nat) (h : 1 ≤ j) : acc b (j + 1) = accStep (acc b j) (b j) := by
  obtain ⟨i, rfl⟩ : ∃ i, j = i + 1 := ⟨j - 1, by omega⟩
  rfl

theorem need_some (k : Nat) (c : Int) (hk : 3 ≤ k) : taffrailref03_need.f k c = some (needOf c) := by
  obtain ⟨m, rfl⟩ : ∃ m, k = m + 3 := ⟨k - 3, by omega⟩
  unfold taffrailref03_need.f needOf
  simp only [taffrailref03_need.j0, taffrailref03_need.j1]
  repeat' split
  all_goals first | rfl | (exfalso; omega) | (exfalso; simp only [decide_eq_true_eq] at *; omega) | (exfalso; simp at *; omega) | (simp_all; done) | (simp_all; omega)

theorem second_some (a c : Int) : taffrailref03_second.f a c = some (decide (lowOf a ≤ c ∧ c ≤ highOf a)) := by
  unfold taffrailref03_second.f lowOf highOf
  by_cases h1 : a = 224
  · subst h1; by_cases h : c ≥ 160 <;> simp [h] <;> omega
  by_cases h2 : a = 237
  · subst h2; by_cases h : c ≥ 128 <;> simp [h] <;> omega
  by_cases h3 : a = 240
  · subst h3; by_cases h : c ≥ 144 <;> simp [h] <;> omega
  by_cases h4 : a = 244
  · subst h4; by_cases h : c ≥ 128 <;> simp [h] <;> omega
  · simp only [h1, h2, h3, h4, if_false]; by_cases h : c ≥ 128 <;> simp [h] <;> omega

theorem and63 (c : Int) (h0 : 0 ≤ c) (h1 : c ≤ 255) : Go.bits .and .u8 c 63 = c % 64 := by
  have h : ∀ x : Fin 256, Go.bits .and .u8 (x.val : Int) 63 = (x.val : Int) % 64 := by decide +kernel
  have := h ⟨c.toNat, by omega⟩
  simpa [Int.toNat_of_nonneg h0] using this
theorem and31 (c : Int) (h0 : 0 ≤ c) (h1 : c ≤ 255) : Go.bits .and .i64 c 31 = c % 32 := by
  have h : ∀ x : Fin 256, Go.bits .and .i64 (x.val : Int) 31 = (x.val : Int) % 32 := by decide +kernel
  have := h ⟨c.toNat, by omega⟩
  simpa [Int.toNat_of_nonneg h0] using this
theorem and15 (c : Int) (h0 : 0 ≤ c) (h1 : c ≤ 255) : Go.bits .and .i64 c 15 = c % 16 := by
  have h : ∀ x : Fin 256, Go.bits .and .i64 (x.val : Int) 15 = (x.val : Int) % 16 := by decide +kernel
  have := h ⟨c.toNat, by omega⟩
  simpa [Int.toNat_of_nonneg h0] using this
theorem and7 (c : Int) (h0 : 0 ≤ c) (h1 : c ≤ 255) : Go.bits .and .i64 c 7 = c % 8 := by
  have h : ∀ x : Fin 256, Go.bits .and .i64 (x.val : Int) 7 = (x.val : Int) % 8 := by decide +kernel
  have := h ⟨c.toNat, by omega⟩
  simpa [Int.toNat_of_nonneg h0] using this

/-- the number, read off from j on -/
theorem l1_some (x : ByteArray) (N : Int) (hN : N ≤ x.size) (hN4 : N ≤ 4) : ∀ (d : Nat) (j : Nat) (k : Nat), N - j = d → 1 ≤ j → d + 1 ≤ k →
    taffrailref03_One.l1 k x N (acc (bt x) j) j = some (acc (bt x) N.toNat, N, false)
  | 0, j, k, hd, hj, hk => by
    obtain ⟨m, rfl⟩ : ∃ m, k = m + 1 := ⟨k - 1, by omega⟩
    simp only [taffrailref03_One.l1]
    rw [if_neg (by omega)]
    obtain rfl : N = j := by omega
    simp
  | d + 1, j, k, hd, hj, hk => by
    obtain ⟨m, rfl⟩ : ∃ m, k = m + 1 := ⟨k - 1, by omega⟩
    simp only [taffrailref03_One.l1]
    have hr := bt_range x j
    have hw : wrap64 ((j : Int) + 1) = ((j + 1 : Nat) : Int) := by rw [wrap_id _ (by omega) (by omega)]; omega
    rw [if_pos (by omega), if_pos (by omega), if_pos (by omega), hw, and63 _ hr.1 hr.2, wrap_id (bt x j % 64) (by omega) (by omega)]
    have e : Go.bits .or .i64 (wrap64 (acc (bt x) j * 64)) (bt x j % 64) = acc (bt x) (j + 1) := (acc_succ (bt x) j hj).symm
    rw [e]
    exact l1_some x N hN hN4 d (j + 1) m (by omega) (by omega) (by omega)

/-- how far a character goes, from j on; d: how much is left to N -/
def scan (b : Int → Int) (size : Int) : Nat → Int → Int
  | 0, j => j
  | d + 1, j => if j < size ∧ okAt b j then scan b size d (j + 1) else j
theorem scan_le (b : Int → Int) (size : Int) : ∀ (d : Nat) (j : Int), j ≤ scan b size d j ∧ scan b size d j ≤ j + d ∧ (j ≤ size → scan b size d j ≤ size)
  | 0, j => by simp [scan]
  | d + 1, j => by
    unfold scan
    split
    · have := scan_le b size d (j + 1)
      refine ⟨by omega, by omega, fun h => this.2.2 (by omega)⟩
    · exact ⟨by omega, by omega, id⟩

def oneRes (b : Int → Int) (size N e : Int) : Int × Int × Bool := if e < N then (-1, e, e == size) else (acc b N.toNat, N, false)

theorem j1_end (x : ByteArray) (N : Int) (j : Int) (k : Nat) (hk : 10 ≤ k) (h0 : 0 < (x.size : Int)) (hN : N = needOf (bt x 0)) (hj1 : 1 ≤ j) (hj : j < N) :
    taffrailref03_One.j1 k x N j false = some (-1, j, j == (x.size : Int)) := by
  obtain ⟨m, rfl⟩ : ∃ m, k = m + 1 := ⟨k - 1, by omega⟩
  simp only [taffrailref03_One.j1]
  rw [if_neg (by simp), if_pos hj]

theorem j1_full (x : ByteArray) (N : Int) (k : Nat) (hk : 10 ≤ k) (h0 : 0 < (x.size : Int)) (hN : N = needOf (bt x 0)) (h1 : 1 ≤ N) (hs : N ≤ x.size) :
    taffrailref03_One.j1 k x N N false = some (acc (bt x) N.toNat, N, false) := by
  obtain ⟨m, rfl⟩ : ∃ m, k = m + 2 := ⟨k - 2, by omega⟩
  have hr := bt_range x 0
  have h4 : N ≤ 4 := by rw [hN]; unfold needOf; repeat' split
                        all_goals omega
  have hl := l1_some x N hs h4 (N - 1).toNat 1 m (by omega) (by omega) (by omega)
  have hw : wrap64 (bt x 0) = bt x 0 := wrap_id _ (by omega) (by omega)
  simp only [taffrailref03_One.j1, taffrailref03_One.j2]
  rw [if_neg (by simp), if_neg (by omega), if_pos h0, hw, and31 _ hr.1 hr.2, and15 _ hr.1 hr.2, and7 _ hr.1 hr.2]
  have hf : acc (bt x) 1 = firstR (bt x 0) := rfl
  rw [hf] at hl
  have hl' : taffrailref03_One.l1 m x N (firstR (bt x 0)) 1 = some (acc (bt x) N.toNat, N, false) := hl
  unfold needOf at hN
  unfold firstR at hl'
  by_cases c1 : bt x 0 < 128
  · rw [if_pos c1] at hN hl'
    rw [if_neg (by omega), if_neg (by omega), if_neg (by omega)]; exact hl'
  rw [if_neg c1] at hN hl'
  by_cases c2 : 194 ≤ bt x 0 ∧ bt x 0 ≤ 223
  · rw [if_pos c2] at hN
    rw [if_pos (by omega)] at hl'
    rw [if_pos hN]; exact hl'
  rw [if_neg c2] at hN
  by_cases c3 : 224 ≤ bt x 0 ∧ bt x 0 ≤ 239
  · rw [if_pos c3] at hN
    rw [if_neg (by omega), if_pos (by omega)] at hl'
    rw [if_neg (by omega), if_pos hN]; exact hl'
  rw [if_neg c3] at hN
  by_cases c4 : 240 ≤ bt x 0 ∧ bt x 0 ≤ 244
  · rw [if_pos c4] at hN
    rw [if_neg (by omega), if_neg (by omega)] at hl'
    rw [if_neg (by omega), if_neg (by omega), if_pos hN]; exact hl'
  · rw [if_neg c4] at hN; omega

theorem l0_some (x : ByteArray) (N : Int) (h0 : 0 < (x.size : Int)) (hN : N = needOf (bt x 0)) : ∀ (d : Nat) (j : Int) (k : Nat), N - j = d → 1 ≤ j → j ≤ x.size → 2 * d + 14 ≤ k →
    taffrailref03_One.l0 k x N j = some (oneRes (bt x) x.size N (scan (bt x) x.size d j))
  | 0, j, k, hd, hj, hs, hk => by
    obtain ⟨m, rfl⟩ : ∃ m, k = m + 1 := ⟨k - 1, by omega⟩
    simp only [taffrailref03_One.l0, scan, oneRes]
    obtain rfl : N = j := by omega
    simp only [Int.lt_irrefl, if_false]
    exact j1_full x N m (by omega) h0 hN hj hs
  | d + 1, j, k, hd, hj, hs, hk => by
    obtain ⟨m, rfl⟩ : ∃ m, k = m + 2 := ⟨k - 2, by omega⟩
    have hend : taffrailref03_One.j1 (m + 1) x N j false = some (oneRes (bt x) x.size N j) := by
      unfold oneRes; rw [if_pos (by omega)]
      exact j1_end x N j (m + 1) (by omega) h0 hN hj (by omega)
    have hgo : j < (x.size : Int) → taffrailref03_One.j1 (m + 1) x N j true = some (oneRes (bt x) x.size N (scan (bt x) x.size d (j + 1))) := by
      intro hjs
      have hN4 : N ≤ 4 := by rw [hN]; unfold needOf; repeat' split
                             all_goals omega
      simp only [taffrailref03_One.j1]
      rw [if_pos trivial, wrap_id _ (by omega) (by omega)]
      exact l0_some x N h0 hN d (j + 1) m (by omega) (by omega) (by omega) (by omega)
    simp only [taffrailref03_One.l0, scan]
    rw [if_pos (by omega)]
    by_cases hjs : j < (x.size : Int)
    · rw [if_pos hjs]
      by_cases h1 : j = 1
      · subst h1
        rw [if_pos rfl, if_pos h0, if_pos hjs, second_some]
        simp only [Option.bind_some]
        by_cases hv : lowOf (bt x 0) ≤ bt x 1 ∧ bt x 1 ≤ highOf (bt x 0)
        · rw [if_pos (by simpa using hv), if_pos ⟨hjs, by unfold okAt; rw [if_pos rfl]; exact hv⟩]
          exact hgo hjs
        · rw [if_neg (by simpa using hv), if_neg (by omega), if_neg (fun h => hv (by have := h.2; unfold okAt at this; rw [if_pos rfl] at this; exact this))]
          exact hend
      · rw [if_neg h1, if_pos (by omega), if_pos (by omega)]
        by_cases hv : bt x j ≥ 128
        · rw [if_pos hv]
          by_cases hu : bt x j ≤ 191
          · rw [if_pos ⟨hjs, by unfold okAt; rw [if_neg h1]; exact ⟨hv, hu⟩⟩, decide_eq_true hu]
            exact hgo hjs
          · rw [if_neg (fun h => hu (by have := h.2; unfold okAt at this; rw [if_neg h1] at this; exact this.2)), decide_eq_false hu]
            exact hend
        · rw [if_neg hv, if_neg (fun h => hv (by have := h.2; unfold okAt at this; rw [if_neg h1] at this; exact this.1))]
          exact hend
    · rw [if_neg hjs, if_neg (fun h => hjs h.1)]
      exact hend

/-- what One answers -/
def oneOf (b : Int → Int) (size : Int) : Int × Int × Bool :=
  if needOf (b 0) = 0 then (-1, 1, false) else oneRes b size (needOf (b 0)) (scan b size (needOf (b 0) - 1).toNat 1)

theorem need_range (c : Int) : 0 ≤ needOf c ∧ needOf c ≤ 4 := by
  unfold needOf
  repeat' split
  all_goals omega

theorem one_some (x : ByteArray) (k : Nat) (hk : 30 ≤ k) (h0 : 0 < (x.size : Int)) : taffrailref03_One.f k x = some (oneOf (bt x) x.size) := by
  have hn := need_range (bt x 0)
  unfold taffrailref03_One.f oneOf
  rw [if_pos h0, need_some k _ (by omega)]
  simp only [Option.bind_some]
  by_cases h : needOf (bt x 0) = 0
  · rw [if_pos h, if_pos h]
  · rw [if_neg h, if_neg h]
    exact l0_some x _ h0 rfl (needOf (bt x 0) - 1).toNat 1 k (by omega) (by omega) (by omega) (by omega)
end Go.Proofs.Ytdmkhcmkfhojgaa.Pure
