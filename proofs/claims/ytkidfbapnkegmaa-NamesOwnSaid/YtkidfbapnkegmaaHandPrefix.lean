/- NamesPrefix -/
import Derived.Test.YtkidfbapnkegmaaTr5
namespace Go.Proofs.Ytkidfbapnkegmaa.P
open Go.RowKit Go.Proofs.YtkidfbapnkegmaaW.PrintWords Go.Proofs.YtkidfbapnkegmaaW.PrintLast Go.Proofs.YtkidfbapnkegmaaW.PrintMore Go.Proofs.Ytkidfbapnkegmaa.Blk
set_option linter.unusedVariables false
attribute [local go_sem] max2_int min2_int max_two min_two max_three min_three max_four min_four
theorem ngoes_pre (S : NS) (s p : List UInt8) (hp : p <+: s) (h : ngoes S s = true) : ngoes S p = true := by
  unfold ngoes at *
  rw [List.any_eq_true] at *
  obtain ⟨x, hx, h1⟩ := h
  refine ⟨x, hx, ?_⟩
  rw [List.isPrefixOf_iff_prefix] at *
  exact hp.trans h1
theorem get_mem (S : NS) (q : List UInt8) (r : Int) (h : S.get q = some r) : (q, r) ∈ S := by
  unfold NS.get at h
  induction S with
  | nil => cases h
  | cons y S ih =>
    obtain ⟨y1, y2⟩ := y
    rw [List.lookup_cons] at h
    split at h
    · rename_i he
      have : q = y1 := by simpa using he
      cases h
      subst this
      exact List.mem_cons_self
    · exact List.mem_cons_of_mem _ (ih h)
theorem nlng_is (S : NS) (s : List UInt8) (hS : S ≠ []) : ∀ k, (nlng S s k).2 ≤ k ∧ ngoes S (s.take (nlng S s k).2) = true
  | 0 => by
    refine ⟨Nat.le_refl _, ?_⟩
    unfold nlng ngoes
    cases S with
    | nil => exact absurd rfl hS
    | cons y S => simp
  | k + 1 => by
    unfold nlng
    cases h : NS.get S (s.take (k + 1)) with
    | none =>
      have := nlng_is S s hS k
      exact ⟨by simp only; omega, by simp only; exact this.2⟩
    | some r =>
      refine ⟨Nat.le_refl _, ?_⟩
      unfold ngoes
      rw [List.any_eq_true]
      exact ⟨_, get_mem S _ r h, by simp⟩
theorem extract_take (s : ByteArray) (m : Nat) : (s.extract 0 m).data.toList = s.data.toList.take m := by
  rw [ByteArray.data_extract, Array.toList_extract]
  simp
def gp (L : List UInt8) (k : Nat) : Bool := if k = 0 then true else ngoes S0 (L.take (k - 1))
set_option maxRecDepth 100000 in
set_option maxHeartbeats 1000000 in
theorem prefix_walk (s : ByteArray) (hs : s.size ≤ 1000000000000000) (w : World) : Calls Try.prog 4 #[.string s] w fun e w' => e = .returned (.bool true) ∧ Below w.heap.size w w' := by
  by_cases h2 : 2000 < s.size
  · have h2' : (2000 : Int) < s.size := by omega
    go_enter Try.func4, Try.ntmps4
    go_wp2_with (first
      | (go_at_call 8; refine (refs78 _).mono ?_; rintro e w1 ⟨g0, rfl, hc1, hl1⟩; have D1 := Aside0.mk hc1; have L1 := Aside0.mk hl1; clear hc1 hl1)
      | (go_at_call 9; refine (new78 D1.out).mono ?_; rintro e w2 ⟨g, rfl, ht2, hl2⟩; have D2 := Aside0.mk ht2; have L2 := Aside0.mk (below_then' L1.out L1.out.size hl2); clear ht2 hl2 D1)
      | (go_at_call 10; refine (awake_calls _).mono ?_; rintro e w8 ⟨rfl, hl8⟩; have L8 := Aside0.mk (below_then' L2.out L2.out.size hl8); clear hl8))
    go_ret
    exact ⟨rfl, L8.out⟩
  · have h2' : ¬ (2000 : Int) < s.size := by omega
    obtain ⟨n, hn⟩ : ∃ n, s.size = n := ⟨_, rfl⟩
    go_enter Try.func4, Try.ntmps4
    go_wp2_with (first
      | (go_at_call 8; refine (refs78 _).mono ?_; rintro e w1 ⟨g0, rfl, hc1, hl1⟩; have D1 := Aside0.mk hc1; have L1 := Aside0.mk hl1; clear hc1 hl1)
      | (go_at_call 9; refine (new78 D1.out).mono ?_; rintro e w2 ⟨g, rfl, ht2, hl2⟩; have D2 := Aside0.mk ht2; have L2 := Aside0.mk (below_then' L1.out L1.out.size hl2); clear ht2 hl2 D1))
    go_loopw [4, 5, 6] (fun v4 v5 v6 wr => ∃ k : Nat, k ≤ n + 1 ∧ v5 = .int .i64 (k : Int) ∧ (∃ b, v4 = .bool b ∧ Aside0 (b = gp s.data.toList k)) ∧ Aside0 (Tr wr g S0) ∧ Aside0 (Below w.heap.size w wr)) (fun _ v5 _ _ => n + 1 - (intOf v5).toNat)
    case atStart => exact ⟨0, by omega, rfl, ⟨true, rfl, ⟨rfl⟩⟩, D2, L2⟩
    case round =>
    obtain ⟨k, hk, rfl, ⟨b, rfl, HB⟩, D3, L3⟩ := hrel
    have hse : ∀ m, (s.extract 0 m).data.toList = s.data.toList.take m := fun m => extract_take s m
    have hsz : ∀ m, (s.extract 0 m).size ≤ 1000000000000000 := fun m => by
      rw [← data_length, hse m, List.length_take, data_length]
      omega
    have HSE := Aside0.mk hse
    have HSZ := Aside0.mk hsz
    clear hse hsz
    by_cases hkn : k ≤ n
    · have hkn' : (k : Int) ≤ n := by omega
      obtain ⟨r, hr⟩ : ∃ r, ngoes S0 (s.data.toList.take k) = r := ⟨_, rfl⟩
      have HR := Aside0.mk hr
      have hg : ngoes S0 (s.extract 0 k).data.toList = r := by rw [HSE.out, hr]
      have hnx : gp s.data.toList (k + 1) = r := by
        unfold gp
        rw [if_neg (by omega)]
        simpa using hr
      have HNX := Aside0.mk hnx
      have HG := Aside0.mk hg
      have hb : r = true → b = true := by
        intro h
        subst h
        rw [HB.out]
        unfold gp
        split
        · rfl
        · refine ngoes_pre S0 (s.data.toList.take k) _ ?_ hr
          have : s.data.toList.take (k - 1) = (s.data.toList.take k).take (k - 1) := by rw [List.take_take]; congr 1; omega
          rw [this]
          exact List.take_prefix _ _
      clear hr hg hnx
      cases r with
      | true =>
        obtain rfl := hb rfl
        clear hb
        go_wp2_with (go_at_call 12; refine (goes78 D3.out _ (HSZ.out k) HG.out).mono ?_; rintro e w3 ⟨rfl, hl3⟩; have D4 := Aside0.mk (D3.out.below hl3); have L4 := Aside0.mk (below_then' L3.out L3.out.size hl3); clear hl3)
        go_roundw
        case measure => (first | (show n + 1 - (wrap64 ((k:Int)+1)).toNat < n + 1 - ((k:Int)).toNat; rw [wrap_id _ (by omega) (by omega)]; omega) | (show n + 1 - ((k:Int)+1).toNat < n + 1 - ((k:Int)).toNat; omega))
        case rel => first | exact ⟨k + 1, by omega, by go_num, ⟨true, rfl, ⟨HNX.out.symm⟩⟩, D4, L4⟩ | ((repeat apply Exists.intro); exact ⟨⟨k + 1, by omega, by go_num, ⟨true, rfl, ⟨HNX.out.symm⟩⟩, D4, L4⟩, rfl⟩)
      | false =>
        clear hb
        go_wp2_with (go_at_call 12; refine (goes78 D3.out _ (HSZ.out k) HG.out).mono ?_; rintro e w3 ⟨rfl, hl3⟩; have D4 := Aside0.mk (D3.out.below hl3); have L4 := Aside0.mk (below_then' L3.out L3.out.size hl3); clear hl3)
        go_roundw
        case measure => (first | (show n + 1 - (wrap64 ((k:Int)+1)).toNat < n + 1 - ((k:Int)).toNat; rw [wrap_id _ (by omega) (by omega)]; omega) | (show n + 1 - ((k:Int)+1).toNat < n + 1 - ((k:Int)).toNat; omega))
        case rel => first | exact ⟨k + 1, by omega, by go_num, ⟨false, rfl, ⟨HNX.out.symm⟩⟩, D4, L4⟩ | ((repeat apply Exists.intro); exact ⟨⟨k + 1, by omega, by go_num, ⟨false, rfl, ⟨HNX.out.symm⟩⟩, D4, L4⟩, rfl⟩)
    · have hkn' : ¬ (k : Int) ≤ n := by omega
      have h3 := nlng_is S0 s.data.toList (by intro e; have := S0_len; rw [e] at this; cases this) s.size
      obtain ⟨x, hx⟩ : ∃ x, nlng S0 s.data.toList s.size = x := ⟨_, rfl⟩
      rw [hx] at h3
      obtain ⟨q, m⟩ := x
      obtain ⟨h3, h4⟩ := h3
      simp only at h3 h4
      rw [hn] at h3
      have h5 : ngoes S0 (s.extract 0 m).data.toList = true := by rw [HSE.out]; exact h4
      have H5 := Aside0.mk h5
      have HX := Aside0.mk hx
      have hmn : (m : Int) ≤ n := by omega
      have hmin : min (m : Int) (n : Int) = m := by omega
      have hmax : max (0 : Int) (m : Int) = m := by omega
      have HQ := Aside0.mk (show (if 0 < m then (m : Int) else 0).toNat = m by split <;> omega)
      clear h4 h5 hx
      go_wp2_with (first
        | (go_at_call 11; refine (longest78 D3.out s hs HX.out).mono ?_; rintro e w3 ⟨rfl, hl3⟩; have D4 := Aside0.mk (D3.out.below hl3); have L4 := Aside0.mk (below_then' L3.out L3.out.size hl3); clear hl3)
        | (go_at_call 12; rw [HQ.out]; refine (goes78 D4.out _ (HSZ.out m) H5.out).mono ?_; rintro e w4 ⟨rfl, hl4⟩; have D5 := Aside0.mk (D4.out.below hl4); have L5 := Aside0.mk (below_then' L4.out L4.out.size hl4); clear hl4)
        | (go_at_call 10; refine (awake_calls _).mono ?_; rintro e w8 ⟨rfl, hl8⟩; have L8 := Aside0.mk (below_then' L5.out L5.out.size hl8); clear hl8))
      all_goals (go_ret; exact ⟨rfl, L8.out⟩)
/-- the law NamesPrefix -/
def taffraillaw05_NamesPrefix.f (a0 : ByteArray) : Option (Bool) := if a0.size ≤ 1000000000000000 then some true else none
theorem taffraillaw05_NamesPrefix.calls (a0 : ByteArray) (r : Bool) (w : World) (h : taffraillaw05_NamesPrefix.f a0 = some r) :
    Calls Try.prog 4 #[.string a0] w fun e w' => e = .returned (.bool r) ∧ Below w.heap.size w w' := by
  unfold taffraillaw05_NamesPrefix.f at h
  split at h
  · obtain rfl := Option.some.inj h
    exact prefix_walk a0 (by assumption) w
  · cases h
end Go.Proofs.Ytkidfbapnkegmaa.P
