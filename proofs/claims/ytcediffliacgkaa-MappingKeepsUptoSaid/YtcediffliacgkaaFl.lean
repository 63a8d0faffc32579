import Derived.Laws.FloatArith
namespace Go.Proofs.Ytcediffliacgkaa.Fl
open Ieee

theorem cut_zero_drop (way : Toward) (neg : Bool) (n : Nat) : way.cut neg n 0 = n := by
  cases way <;> simp [Toward.cut, Nat.mod_one]

theorem log2_bounds {m : Nat} (h : m ≠ 0) : 2 ^ m.log2 ≤ m ∧ m < 2 ^ (m.log2 + 1) :=
  ⟨Nat.log2_self_le h, Nat.lt_log2_self⟩

theorem nearest_pos {m : Nat} (h0 : m ≠ 0) (hm : m.log2 ≤ 52) :
    Ieee.double.nearest false m 0 = (m.log2 + 1022) * 2 ^ 52 + m * 2 ^ (52 - m.log2) := by
  obtain ⟨h1, h2⟩ := log2_bounds h0
  have e1 : max ((0 : Int) + m.log2 - (Ieee.double).fractionBits) (Ieee.double).leastPlace = (m.log2 : Int) - 52 := by
    have : (Ieee.double).leastPlace = -1074 := by decide
    rw [this]; show max ((0 : Int) + m.log2 - (52 : Nat)) _ = _
    omega
  have e2 : (Ieee.double).leastPlace = -1074 := by decide
  have e3 : (Ieee.double).binade = 2 ^ 52 := rfl
  have e4 : (Ieee.double).infRung = 2047 * 2 ^ 52 := by decide
  have hlt : m * 2 ^ (52 - m.log2) < 2 ^ 53 := by
    calc m * 2 ^ (52 - m.log2) < 2 ^ (m.log2 + 1) * 2 ^ (52 - m.log2) := Nat.mul_lt_mul_of_pos_right h2 (Nat.two_pow_pos _)
      _ = 2 ^ 53 := by rw [← Nat.pow_add]; congr 1; omega
  unfold Format.nearest
  rw [if_neg h0]
  simp only [e1, e3, e4]
  rw [e2]
  have d1 : ((m.log2 : Int) - 52 - 0).toNat = 0 := by omega
  have d2 : (0 - ((m.log2 : Int) - 52)).toNat = 52 - m.log2 := by omega
  have d3 : ((m.log2 : Int) - 52 - -1074).toNat = m.log2 + 1022 := by omega
  rw [d1, d2, d3, cut_zero_drop, Nat.shiftLeft_eq]
  unfold Format.word
  simp only [Bool.false_eq_true, if_false]
  refine Nat.min_eq_left (Nat.le_trans (Nat.add_le_add (Nat.mul_le_mul_right _ (show m.log2 + 1022 ≤ 1074 by omega)) (Nat.le_of_lt hlt)) ?_)
  decide +kernel

theorem read_rung {E r : Nat} (hE : 1 ≤ E) (hE2 : E < 2047) (hr : r < 2 ^ 52) :
    Ieee.double.read (E * 2 ^ 52 + r) = .number false (2 ^ 52 + r) (-1074 + ((E - 1 : Nat) : Int)) := by
  have e2 : (Ieee.double).leastPlace = -1074 := by decide
  have e3 : (Ieee.double).binade = 2 ^ 52 := rfl
  have e4 : (Ieee.double).infRung = 2047 * 2 ^ 52 := by decide
  have e5 : (Ieee.double).signWeight = 2 ^ 63 := by decide
  have hb : E * 2 ^ 52 + r < 2047 * 2 ^ 52 := by
    have : E * 2 ^ 52 ≤ 2046 * 2 ^ 52 := Nat.mul_le_mul_right _ (by omega)
    omega
  have hb2 : 2 ^ 52 ≤ E * 2 ^ 52 := Nat.le_mul_of_pos_left _ (by omega)
  unfold Format.read
  simp only [e2, e3, e4, e5]
  have q0 : (E * 2 ^ 52 + r) / 2 ^ 63 = 0 := Nat.div_eq_of_lt (by omega)
  have q1 : (E * 2 ^ 52 + r) % 2 ^ 63 = E * 2 ^ 52 + r := Nat.mod_eq_of_lt (by omega)
  have q2 : (E * 2 ^ 52 + r) % 2 ^ 52 = r := by
    rw [Nat.add_comm, Nat.add_mul_mod_self_right]; exact Nat.mod_eq_of_lt hr
  have q3 : (E * 2 ^ 52 + r) / 2 ^ 52 = E := by
    rw [Nat.add_comm, Nat.add_mul_div_right _ _ (Nat.two_pow_pos 52), Nat.div_eq_of_lt hr]; omega
  rw [q0, q1, q2, q3, if_neg (by omega), if_pos hb]
  rfl

theorem toInt_kept {m : Nat} (h0 : m ≠ 0) (hm : m.log2 ≤ 52) :
    (Datum.number false (m * 2 ^ (52 - m.log2)) ((m.log2 : Int) - 52)).toInt .zero = some (m : Int) := by
  have d1 : ((m.log2 : Int) - 52).toNat = 0 := by omega
  have d2 : (-((m.log2 : Int) - 52)).toNat = 52 - m.log2 := by omega
  have hne : m * 2 ^ (52 - m.log2) ≠ 0 := Nat.mul_ne_zero h0 (Nat.ne_of_gt (Nat.two_pow_pos _))
  have hl : 52 ≤ (m * 2 ^ (52 - m.log2)).log2 := by
    rw [Nat.le_log2 hne]
    calc 2 ^ 52 = 2 ^ m.log2 * 2 ^ (52 - m.log2) := by rw [← Nat.pow_add]; congr 1; omega
      _ ≤ m * 2 ^ (52 - m.log2) := Nat.mul_le_mul_right _ (Nat.log2_self_le h0)
  have hc : Toward.zero.cut false (m * 2 ^ (52 - m.log2)) (52 - m.log2) = m := by
    unfold Toward.cut
    simp only
    rw [Nat.min_eq_left (by omega), Nat.shiftLeft_eq, Nat.one_mul, Nat.mul_div_cancel _ (Nat.two_pow_pos _)]
    rfl
  unfold Datum.toInt Datum.integral
  simp only [d1, d2, Nat.shiftLeft_zero, hc, signed]
  simp

theorem toInt_of_nat (m : Nat) (hm : m < 2 ^ 53) : (FloatKind.f64.decode (floatOfInt .f64 (m : Int))).toInt .zero = some (m : Int) := by
  by_cases h0 : m = 0
  · subst h0; decide +kernel
  · obtain ⟨h1, h2⟩ := log2_bounds h0
    have hl : m.log2 ≤ 52 := by
      have : m.log2 < 53 := (Nat.log2_lt h0).2 hm
      omega
    have ef : floatOfInt .f64 (m : Int) = Ieee.double.nearest false m 0 := by
      have e : decide ((m : Int) < 0) = false := by simp
      show Ieee.double.write (.number (decide ((m : Int) < 0)) ((m : Int).natAbs) 0) = _
      rw [e]; rfl
    have hk1 : 2 ^ 52 ≤ m * 2 ^ (52 - m.log2) := by
      calc 2 ^ 52 = 2 ^ m.log2 * 2 ^ (52 - m.log2) := by rw [← Nat.pow_add]; congr 1; omega
        _ ≤ m * 2 ^ (52 - m.log2) := Nat.mul_le_mul_right _ h1
    have hk2 : m * 2 ^ (52 - m.log2) < 2 ^ 53 := by
      calc m * 2 ^ (52 - m.log2) < 2 ^ (m.log2 + 1) * 2 ^ (52 - m.log2) := Nat.mul_lt_mul_of_pos_right h2 (Nat.two_pow_pos _)
        _ = 2 ^ 53 := by rw [← Nat.pow_add]; congr 1; omega
    rw [ef, nearest_pos h0 hl]
    have ek : (m.log2 + 1022) * 2 ^ 52 + m * 2 ^ (52 - m.log2) = (m.log2 + 1023) * 2 ^ 52 + (m * 2 ^ (52 - m.log2) - 2 ^ 52) := by
      rw [Nat.add_mul, Nat.add_mul]; omega
    rw [ek]
    show (Ieee.double.read _).toInt .zero = _
    rw [read_rung (by omega) (by omega) (by omega)]
    have em : 2 ^ 52 + (m * 2 ^ (52 - m.log2) - 2 ^ 52) = m * 2 ^ (52 - m.log2) := Nat.add_sub_of_le hk1
    have ep : (-1074 + ((m.log2 + 1023 - 1 : Nat) : Int)) = (m.log2 : Int) - 52 := by omega
    rw [em, ep]
    exact toInt_kept h0 hl

theorem float_back (m : Int) (h0 : 0 ≤ m) (hm : m < 9007199254740992) : floatToIntVal .f64 (floatOfInt .f64 m) .i64 = some m := by
  obtain ⟨n, rfl⟩ := Int.eq_ofNat_of_zero_le h0
  unfold floatToIntVal
  rw [toInt_of_nat n (by omega)]
  have a : IntKind.i64.min ≤ (n : Int) ∧ (n : Int) ≤ IntKind.i64.max := by
    have e1 : IntKind.i64.min = -9223372036854775808 := by decide
    have e2 : IntKind.i64.max = 9223372036854775807 := by decide
    rw [e1, e2]; omega
  simp only
  rw [if_pos a]
end Go.Proofs.Ytcediffliacgkaa.Fl
