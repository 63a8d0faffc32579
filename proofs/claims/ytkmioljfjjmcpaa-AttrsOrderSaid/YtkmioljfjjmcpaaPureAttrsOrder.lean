/- However a list is turned about, it holds the same and is put in order alike. No condition. -/
import Derived.Test.YtkmioljfjjmcpaaSayAttrsOrder
import Derived.Test.YtkmioljfjjmcpaaAttrsSort
namespace Go.Proofs.Ytkmioljfjjmcpaa.Pure
open Go.RowKit Go.Proofs.Ytkmioljfjjmcpaa.P Go.Proofs.YtkmioljfjjmcpaaW.PrintWords Go.Proofs.YtkmioljfjjmcpaaW.PrintLast Go.Proofs.YtkmioljfjjmcpaaW.PrintMore
theorem order_j (l : List S24) (hl : l.length ≤ 400) (i : Nat) (hi : i ≤ l.length) (k : Nat) (hk : 2500000 < k) (hA : taffraillaw08_awake.f (k - 1) = some true) : taffraillaw08_AttrsOrder.j0 k l i = some true := by
  obtain ⟨k, rfl⟩ : ∃ m, k = m + 1 := ⟨k - 1, by omega⟩
  rw [Nat.add_sub_cancel] at hA
  have hp : (l.drop i ++ l.take i).Perm l := List.perm_append_comm.trans (by rw [List.take_append_drop])
  have hlen := hp.length_eq
  have hs : sameB l (l.drop i ++ l.take i) 0 = true := sameB_of (fun x h => hp.symm.subset h) (fun x h => hp.subset h)
  have he : sortE (l.drop i ++ l.take i) = sortE l := sortE_uniq ((sortE_perm _).trans hp) (sortE_srt _)
  have hd : (l.drop i).length ≤ 400 := by rw [List.length_drop]; omega
  have ht : (l.take i).length ≤ 400 := by rw [List.length_take]; omega
  simp only [taffraillaw08_AttrsOrder.j0, Int.toNat_natCast, Option.bind_some, List.nil_append]
  rw [if_pos (by omega), if_pos (by omega), if_pos (by simp; omega), if_pos (by omega), same_some l _ (by omega) (by omega) k (by omega), sorted_some l (by omega), sorted_some (l.drop i ++ l.take i) (by omega), he, hs, decide_eq_true hlen.symm]
  simp only [Option.bind_some]
  rw [if_pos (by simp), refEqual_refl _ (by rw [sortE_len]; omega) k (by rw [sortE_len]; omega), Option.bind_some, if_pos rfl, hA]
  rfl
theorem AttrsOrder : taffraillaw08_AttrsOrder.Pure := by
  intro l a hl ha
  have hlen : l.length ≤ 140737488351232 := by omega
  obtain ⟨K, hK⟩ := few_ev [l] (by intro z hz; simp at hz; rcases hz with rfl; assumption) (by simp)
  obtain ⟨K2, hA⟩ := awake_ev
  refine ⟨max (max K (K2 + 1)) 3000000, ?_⟩
  have h1 := hK (max (max K (K2 + 1)) 3000000) (by omega)
  have h2 := hA (max (max K (K2 + 1)) 3000000) (by omega)
  have h3 := hA (max (max K (K2 + 1)) 3000000 - 1) (by omega)
  have hk : 3000000 ≤ max (max K (K2 + 1)) 3000000 := by omega
  simp only at h1 h2 h3
  generalize max (max K (K2 + 1)) 3000000 = k at *
  unfold taffraillaw08_AttrsOrder.f
  rw [h1]
  simp only [Option.bind_some, h2]
  by_cases hf : ([l].map List.length).sum ≤ 400
  · have hf' : l.length ≤ 400 := by simpa using hf
    rw [if_pos (by simpa using hf)]
    by_cases h0 : (l.length : Int) > 0
    · rw [if_pos h0, u64_sum _ (by omega) (by omega), if_neg (by omega)]
      have hw : 0 ≤ IntKind.u64.wrap a := by
        have : IntKind.u64.wrap a = a % 18446744073709551616 := by
          unfold IntKind.wrap
          simp [IntKind.bits, IntKind.signed]
        omega
      have hm1 : Int.tmod (IntKind.u64.wrap a) (l.length : Int) = IntKind.u64.wrap a % (l.length : Int) := Int.tmod_eq_emod_of_nonneg hw
      have hm2 := Int.emod_nonneg (IntKind.u64.wrap a) (show (l.length : Int) ≠ 0 by omega)
      have hm3 := Int.emod_lt_of_pos (IntKind.u64.wrap a) h0
      rw [hm1, wrap_id _ (by omega) (by omega)]
      obtain ⟨i, hi⟩ : ∃ i : Nat, IntKind.u64.wrap a % (l.length : Int) = (i : Int) := ⟨(IntKind.u64.wrap a % (l.length : Int)).toNat, by omega⟩
      rw [hi] at hm3 ⊢
      exact order_j l hf' i (by omega) k (by omega) h3
    · rw [if_neg h0]
      exact order_j l hf' 0 (by omega) k (by omega) h3
  · rw [if_neg (by simpa using hf)]
end Go.Proofs.Ytkmioljfjjmcpaa.Pure
