/- The reference's loop is refRun; a character's fault is one in both. -/
import Derived.Test.YtdmkhcmkfhojgaaEvB
import Derived.Test.YtdmkhcmkfhojgaaPx5
import Derived.Test.YtdmkhcmkfhojgaaPlain2
namespace Go.Proofs.Ytdmkhcmkfhojgaa.Pure
open Go.RowKit Go.Proofs.Ytdmkhcmkfhojgaa.P Go.Proofs.YtdmkhcmkfhojgaaW.PrintWords Go.Proofs.YtdmkhcmkfhojgaaW.PrintLast Go.Proofs.YtdmkhcmkfhojgaaW.PrintMore
set_option linter.unusedVariables false

theorem band (x : Int) (m : Nat) (hm : m < 65536) : ∃ n : Nat, n < 18446744073709551616 ∧ Go.bits .and .i64 x (m : Int) = ((n &&& m : Nat) : Int) ∧ (∀ m' : Nat, m' < 65536 → Go.bits .and .i64 x (m' : Int) = ((n &&& m' : Nat) : Int)) := by
  have key : ∀ m' : Nat, m' < 65536 → Go.bits .and .i64 x (m' : Int) = (((BitVec.ofInt 64 x).toNat &&& m' : Nat) : Int) := by
    intro m' h
    have h1 : Go.bits .and .i64 x (m' : Int) = IntKind.i64.wrap (((BitVec.ofInt 64 x) &&& (BitVec.ofInt 64 (m' : Int))).toNat : Int) := rfl
    have h2 : (BitVec.ofInt 64 (m' : Int)) = BitVec.ofNat 64 m' := BitVec.ofInt_natCast ..
    have h3 : (BitVec.ofInt 64 x).toNat &&& m' ≤ m' := Nat.and_le_right
    rw [h1, h2, BitVec.toNat_and, BitVec.toNat_ofNat, Nat.mod_eq_of_lt (a := m') (by omega), i64_w, wrap_id _ (by omega) (by omega)]
  exact ⟨(BitVec.ofInt 64 x).toNat, (BitVec.ofInt 64 x).isLt, key m hm, key⟩
theorem mask (n : Nat) : (n &&& 65534 = 65534) ↔ (n &&& 65535 = 65534 ∨ n &&& 65535 = 65535) := by
  have e1 : n &&& 65534 = (n &&& 65535) &&& 65534 := by rw [Nat.and_assoc]; rfl
  have e2 : n &&& 65535 = n % 65536 := Nat.and_two_pow_sub_one_eq_mod n 16
  rw [e1, e2]
  have hm : n % 65536 < 65536 := Nat.mod_lt _ (by decide)
  generalize n % 65536 = m at *
  constructor
  · intro h
    have h1 : (m &&& 65534) / 2 = (m / 2) &&& 32767 := by rw [Nat.and_div_two]
    have h2 : (m / 2) &&& 32767 = (m / 2) % 32768 := Nat.and_two_pow_sub_one_eq_mod _ 15
    rw [h, h2] at h1
    omega
  · rintro (rfl | rfl) <;> rfl
theorem mask_int (x : Int) : (Go.bits .and .i64 x 65534 = 65534) ↔ (Go.bits .and .i64 x 65535 = 65534 ∨ Go.bits .and .i64 x 65535 = 65535) := by
  obtain ⟨n, _, _, h⟩ := band x 0 (by decide)
  have h1 := h 65534 (by decide)
  have h2 := h 65535 (by decide)
  have e1 : Go.bits .and .i64 x 65534 = ((n &&& 65534 : Nat) : Int) := h1
  have e2 : Go.bits .and .i64 x 65535 = ((n &&& 65535 : Nat) : Int) := h2
  rw [e1, e2]
  have := mask n
  omega

theorem bad_form (r : Int) : badOf r = if r = 0 then 2 else if r = 9 ∨ r = 10 ∨ r = 12 ∨ r = 13 then 0 else if (0 < r ∧ r < 32) ∨ (126 < r ∧ r < 160) then 3 else if (64975 < r ∧ r < 65008) ∨ (0 < r ∧ Go.bits .and .i64 r 65534 = 65534) then 4 else 0 := by
  unfold badOf instream_Bad.f
  simp only [instream_Bad.j0, instream_Bad.j1, instream_Bad.j2]
  generalize Go.bits .and .i64 r 65534 = x4
  by_cases c0 : r = 0
  · rw [if_pos c0, if_pos c0]; rfl
  rw [if_neg c0, if_neg c0]
  by_cases c1 : r = 9 ∨ r = 10 ∨ r = 12 ∨ r = 13
  · rw [if_pos c1]
    rcases c1 with rfl | rfl | rfl | rfl <;> (first | rfl | simp)
  rw [if_neg c1]
  rw [if_neg (by omega), if_neg (by omega), if_neg (by omega), if_neg (by simp; omega)]
  by_cases c2 : (0 < r ∧ r < 32) ∨ (126 < r ∧ r < 160)
  · rw [if_pos c2]
    by_cases d1 : r > 0
    · rw [if_pos d1]
      by_cases d2 : r < 32
      · rw [if_pos d2, if_pos trivial]; rfl
      · rw [if_neg d2, if_pos (by omega), if_pos (by simp; omega)]; rfl
    · omega
  rw [if_neg c2]
  by_cases d1 : r > 0
  · rw [if_pos d1, if_neg (by omega)]
    have t1 : ∀ (a b : Option Int), (if r > 126 then (if decide (r < 160) = true then a else b) else (if false = true then a else b)) = b := by
      intro a b
      by_cases d3 : r > 126
      · rw [if_pos d3, if_neg (by simp; omega)]
      · rw [if_neg d3, if_neg (by decide)]
    rw [t1]
    by_cases d4 : 64975 < r ∧ r < 65008
    · rw [if_pos d4.1, if_pos d4.2, if_pos trivial, if_pos (.inl d4)]; rfl
    · have t2 : ∀ (a b : Option Int), (if r > 64975 then (if r < 65008 then a else b) else b) = b := by
        intro a b
        by_cases d5 : r > 64975
        · rw [if_pos d5, if_neg (by omega)]
        · rw [if_neg d5]
      rw [t2, if_pos d1]
      by_cases d6 : x4 = 65534
      · rw [if_pos (beq_iff_eq.mpr d6), if_pos (.inr ⟨d1, d6⟩)]; rfl
      · rw [if_neg (by simpa using d6), if_neg (by rintro (h | h); exact d4 h; exact d6 h.2)]; rfl
  · rw [if_neg d1, if_neg (by omega), if_neg (by decide), if_neg (by omega), if_neg d1, if_neg (by decide), if_neg (by omega)]; rfl
theorem bad_ref (r : Int) (k : Nat) (hk : 3 ≤ k) : taffrailref04_Bad.f k r = some (badOf r) := by
  obtain ⟨k, rfl⟩ : ∃ m, k = m + 3 := ⟨k - 3, by omega⟩
  have hm := mask_int r
  have hb := bad_form r
  rw [hb]
  unfold taffrailref04_Bad.f
  simp only [taffrailref04_Bad.j0, taffrailref04_Bad.j1, taffrailref04_Bad.j2]
  clear hb
  generalize Go.bits .and .i64 r 65534 = x4 at *
  generalize Go.bits .and .i64 r 65535 = x5 at *
  by_cases c0 : r = 0
  · rw [if_pos c0, if_pos c0]
  rw [if_neg c0, if_neg c0]
  by_cases c1 : r = 9 ∨ r = 10 ∨ r = 12 ∨ r = 13
  · rw [if_pos c1]
    rcases c1 with rfl | rfl | rfl | rfl <;> (first | rfl | simp)
  rw [if_neg c1]
  rw [if_neg (by omega), if_neg (by omega), if_neg (by omega), if_neg (by simp; omega)]
  by_cases c2 : (0 < r ∧ r < 32) ∨ (126 < r ∧ r < 160)
  · rw [if_pos c2]
    by_cases d1 : r ≥ 1
    · rw [if_pos d1]
      by_cases d2 : r ≤ 31
      · rw [if_pos d2, if_pos trivial]
      · rw [if_neg d2, if_pos (by omega), if_pos (by simp; omega)]
    · omega
  rw [if_neg c2]
  by_cases d1 : r ≥ 1
  · rw [if_pos d1, if_neg (by omega)]
    have t1 : ∀ (a b : Option Int), (if r ≥ 127 then (if decide (r ≤ 159) = true then a else b) else (if false = true then a else b)) = b := by
      intro a b
      by_cases d3 : r ≥ 127
      · rw [if_pos d3, if_neg (by simp; omega)]
      · rw [if_neg d3, if_neg (by decide)]
    rw [t1]
    by_cases d4 : 64975 < r ∧ r < 65008
    · rw [if_pos (by omega), if_pos (by omega), if_pos trivial, if_pos (.inl d4)]
    · have t2 : ∀ (a b : Option Int), (if r ≥ 64976 then (if r ≤ 65007 then a else b) else b) = b := by
        intro a b
        by_cases d5 : r ≥ 64976
        · rw [if_pos d5, if_neg (by omega)]
        · rw [if_neg d5]
      rw [t2, if_pos (show r ≥ 0 by omega)]
      by_cases h4 : x5 = 65534
      · rw [if_pos h4, if_pos trivial, if_pos (.inr ⟨by omega, hm.mpr (.inl h4)⟩)]
      · rw [if_neg h4]
        by_cases h5 : x5 = 65535
        · rw [if_pos (beq_iff_eq.mpr h5), if_pos (.inr ⟨by omega, hm.mpr (.inr h5)⟩)]
        · rw [if_neg (by simpa using h5), if_neg (by rintro (h | h); exact d4 h; exact (hm.mp h.2).elim h4 h5)]
  · rw [if_neg d1, if_neg (by omega), if_neg (by decide), if_neg (by omega), if_neg (by omega), if_neg (by decide), if_neg (by omega)]

theorem bad_nonneg (r : Int) : 0 ≤ badOf r := by
  rw [bad_form]
  repeat' split
  all_goals omega
end Go.Proofs.Ytdmkhcmkfhojgaa.Pure
