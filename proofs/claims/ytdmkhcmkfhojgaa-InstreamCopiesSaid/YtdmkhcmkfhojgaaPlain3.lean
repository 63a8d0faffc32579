/- Layer 3's plain law, third part: what the laws ask besides. -/
import Derived.Test.YtdmkhcmkfhojgaaPlain2
import Derived.Test.YtdmkhcmkfhojgaaPx7
set_option linter.unusedVariables false
set_option linter.unusedSimpArgs false
namespace Go.Proofs.Ytdmkhcmkfhojgaa.Pure
open Go.RowKit Go.Proofs.Ytdmkhcmkfhojgaa.P Go.Proofs.YtdmkhcmkfhojgaaW.PrintWords Go.Proofs.YtdmkhcmkfhojgaaW.PrintLast Go.Proofs.YtdmkhcmkfhojgaaW.PrintMore



theorem told_len (t : ByteArray) : (told t).1.length ≤ 2 * t.size + 1 ∧ (told t).2.length ≤ 2 * t.size + 1 := by
  have h := upto_len t ⟨⟨0, 0, 0, 0, 0, 0⟩, [], []⟩ t.size
  simp only [List.length_nil, Nat.zero_add] at h
  unfold told St.res
  generalize St.upto t ⟨⟨0, 0, 0, 0, 0, 0⟩, [], []⟩ t.size = s at *
  have hC : s.d.endC.length ≤ 1 := by unfold Dec.endC; split <;> simp
  have hF : s.d.endF.length ≤ 1 := by unfold Dec.endF; split <;> simp
  simp only [List.length_append]
  omega

theorem chars_refl (l : List S36) (hl : l.length ≤ 1000000) : ∀ (d i k : Nat), l.length - i = d → d + 1 ≤ k → taffrailref03_Chars.l0 k l l i = some true
  | 0, i, k, hd, hk => by
    obtain ⟨m, rfl⟩ : ∃ m, k = m + 1 := ⟨k - 1, by omega⟩
    simp only [taffrailref03_Chars.l0]
    rw [if_neg (by omega)]
  | d + 1, i, k, hd, hk => by
    obtain ⟨m, rfl⟩ : ∃ m, k = m + 1 := ⟨k - 1, by omega⟩
    simp only [taffrailref03_Chars.l0]
    have hw : wrap64 ((i : Int) + 1) = ((i + 1 : Nat) : Int) := by rw [wrap_id _ (by omega) (by omega)]; omega
    rw [if_pos (by omega), if_pos (by omega), if_pos (by omega), if_neg (by simp), hw]
    exact chars_refl l hl d (i + 1) m (by omega) (by omega)
theorem faults_refl (l : List S39) (hl : l.length ≤ 1000000) : ∀ (d i k : Nat), l.length - i = d → d + 1 ≤ k → taffrailref03_Faults.l0 k l l i = some true
  | 0, i, k, hd, hk => by
    obtain ⟨m, rfl⟩ : ∃ m, k = m + 1 := ⟨k - 1, by omega⟩
    simp only [taffrailref03_Faults.l0]
    rw [if_neg (by omega)]
  | d + 1, i, k, hd, hk => by
    obtain ⟨m, rfl⟩ : ∃ m, k = m + 1 := ⟨k - 1, by omega⟩
    simp only [taffrailref03_Faults.l0]
    have hw : wrap64 ((i : Int) + 1) = ((i + 1 : Nat) : Int) := by rw [wrap_id _ (by omega) (by omega)]; omega
    rw [if_pos (by omega), if_pos (by omega), if_pos (by omega), if_neg (by simp), hw]
    exact faults_refl l hl d (i + 1) m (by omega) (by omega)
theorem chars_same (l : List S36) (k : Nat) (hl : l.length ≤ 1000000) (hk : l.length + 1 ≤ k) : taffrailref03_Chars.f k l l = some true := by
  unfold taffrailref03_Chars.f
  rw [if_pos rfl]
  exact chars_refl l hl l.length 0 k (by omega) hk
theorem faults_same (l : List S39) (k : Nat) (hl : l.length ≤ 1000000) (hk : l.length + 1 ≤ k) : taffrailref03_Faults.f k l l = some true := by
  unfold taffrailref03_Faults.f
  rw [if_pos rfl]
  exact faults_refl l hl l.length 0 k (by omega) hk
end Go.Proofs.Ytdmkhcmkfhojgaa.Pure
