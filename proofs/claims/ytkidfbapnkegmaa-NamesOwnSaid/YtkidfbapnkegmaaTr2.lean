/- Count, Goes, Longest of a trie that lies in memory. -/
import Derived.Test.YtkidfbapnkegmaaTr1
namespace Go.Proofs.Ytkidfbapnkegmaa.P
open Go.RowKit Go.Proofs.YtkidfbapnkegmaaW.PrintWords Go.Proofs.YtkidfbapnkegmaaW.PrintLast Go.Proofs.YtkidfbapnkegmaaW.PrintMore Go.Proofs.Ytkidfbapnkegmaa.Blk
set_option linter.unusedVariables false

theorem wrap_id (x : Int) (h1 : -9223372036854775808 ≤ x) (h2 : x ≤ 9223372036854775807) : wrap64 x = x := by unfold wrap64; omega
theorem take_snoc (s : List UInt8) (k : Nat) (hk : k < s.length) : s.take k ++ [s.getD k 0] = s.take (k + 1) := by
  rw [List.take_add_one, List.getElem?_eq_getElem hk]
  simp [List.getD_eq_getElem?_getD, List.getElem?_eq_getElem hk]
theorem bytes_cell (W : World) (s : ByteArray) (hs : s.size ≤ 9223372036854775807) (k : Nat) (hk : k < s.data.toList.length) :
    (Lib.bytesWorld W 5 s).cell? ⟨W.heap.size, k, none⟩ = some (kc (s.data.toList.getD k 0)) := by
  obtain ⟨ad, e, hc⟩ := (bytes_reads W 5 s hs).2.2 (by rw [← data_length]; omega)
  cases e
  have := hc k (by rw [← data_length]; exact hk)
  rw [add_plain] at this
  rw [this]
  simp [bytesOf, kc, List.getD_eq_getElem?_getD, List.getElem?_eq_getElem hk]
theorem zero45 (w : World) : (zeroValue 45).run Try.prog w = .ok (.pointer none) w := Try.zeroValue45 w

section
variable {w : World} {base g cnt : Nat} {t : TG}
/-- behind a byte -/
theorem TrieAt.gone (h : TrieAt w base g cnt t) (s : List UInt8) : ∀ (j k : Nat), t.nd (s.take k) = none → t.nd (s.take (k + j)) = none := by
  intro j
  induction j with
  | zero => intro k hk; exact hk
  | succ j ih =>
    intro k hk
    have e := ih k hk
    rcases Nat.lt_or_ge (k + j) s.length with hlt | hge
    · cases hn : t.nd (s.take (k + (j + 1))) with
      | none => rfl
      | some b =>
        have : s.take (k + (j + 1)) = s.take (k + j) ++ [s.getD (k + j) 0] := (take_snoc s (k + j) hlt).symm
        rw [this] at hn
        obtain ⟨m, hm⟩ := h.up hn
        obtain ⟨b', hb'⟩ := h.has hm
        rw [e] at hb'
        cases hb'
    · rw [List.take_of_length_le (by omega)]
      rw [List.take_of_length_le hge] at e
      exact e
theorem TrieAt.gone_all (h : TrieAt w base g cnt t) (s : List UInt8) (k : Nat) (hk : k ≤ s.length) (hn : t.nd (s.take k) = none) : t.nd s = none := by
  have := h.gone s (s.length - k) k hn
  rwa [show k + (s.length - k) = s.length by omega, List.take_length] at this

set_option maxRecDepth 100000 in
theorem count_calls (h : TrieAt w base g cnt t) : Calls Try.prog 17 #[.pointer (some ⟨g, 0, none⟩)] w fun e w' => e = .returned (.int .i64 (cnt : Int)) ∧ w' = w := by
  have c3 := h.c3
  clear h
  go_enter Try.func17, Try.ntmps17
  go_wp2
  go_ret
  exact ⟨rfl, rfl⟩
theorem count_nil (w : World) : Calls Try.prog 17 #[.pointer none] w fun e w' => e = .returned (.int .i64 0) ∧ w' = w := by
  go_enter Try.func17, Try.ntmps17
  go_wp2
  go_ret
  exact ⟨rfl, rfl⟩
theorem goes_nil (s : ByteArray) (w : World) : Calls Try.prog 12 #[.pointer none, .string s] w fun e w' => e = .returned (.bool false) ∧ w' = w := by
  go_enter Try.func12, Try.ntmps12
  go_wp2
  go_ret
  exact ⟨rfl, rfl⟩
theorem longest_nil (s : ByteArray) (w : World) : Calls Try.prog 11 #[.pointer none, .string s] w fun e w' => e = .returned (.tuple #[.int .i64 0, .int .i64 0]) ∧ w' = w := by
  go_enter Try.func11, Try.ntmps11
  go_wp2
  go_ret2
  exact ⟨rfl, rfl⟩

def TG.goes (t : TG) (cnt : Nat) (s : List UInt8) : Bool := cnt != 0 && (t.nd s).isSome
set_option maxRecDepth 100000 in
set_option maxHeartbeats 1000000 in
theorem goes_calls (h : TrieAt w base g cnt t) (s : ByteArray) (hs : s.size ≤ 1000000000000000) (hc : cnt ≤ 1000000000000000) :
    Calls Try.prog 12 #[.pointer (some ⟨g, 0, none⟩), .string s] w fun e w' => e = .returned (.bool (t.goes cnt s.data.toList)) ∧ Below w.heap.size w w' := by
  have c3 := h.c3
  by_cases hz : cnt = 0
  · subst hz
    go_enter Try.func12, Try.ntmps12
    go_wp2
    go_ret
    exact ⟨rfl, Below.refl _ _⟩
  have hz' : ¬ (cnt : Int) = 0 := by omega
  have HZ := Aside0.mk (show ((cnt : Int) == 0) = false by simpa using hz')
  have hsz : s.size = s.data.toList.length := (data_length s).symm
  obtain ⟨L, hL⟩ : ∃ L, s.data.toList = L := ⟨_, rfl⟩
  obtain ⟨W, hW⟩ : ∃ W, Lib.bytesWorld w 5 s = W := ⟨_, rfl⟩
  obtain ⟨n, hn⟩ : ∃ n, s.size = n := ⟨_, rfl⟩
  obtain ⟨cap, hcap⟩ : ∃ cap, grownCap w s.size 0 5 = cap := ⟨_, rfl⟩
  have kb := print_bytes (P := Try.prog) 9 32 5 Try.underlying9 Try.underlying32 Try.underlying5 s w
  rw [hW, hcap, hn] at kb
  have BC := fun k hk => bytes_cell w s (by omega) k hk
  rw [hL, hW] at BC
  have hb := bytes_below (Below.refl w.heap.size w) (Nat.le_refl _) 5 s
  rw [hW] at hb
  have h' := Aside0.mk (h.below hb)
  have HB := Aside0.mk hb
  have hnl : n = L.length := by rw [← hn, hsz, hL]
  have hn1 : n ≤ L.length := by omega
  have hn2 : L.length ≤ n := by omega
  have hn3 : n ≤ 1000000000000000 := by omega
  have HNL := Aside0.mk hnl
  have H0 := Aside0.mk h.root
  rw [hL]
  clear hb h hsz hL hW hcap hnl hn
  go_enter Try.func12, Try.ntmps12
  go_wp2
  go_loopw [5, 7, 23] (fun v5 v7 v23 wr => ∃ k : Nat, k ≤ n ∧ v23 = .int .i64 (k : Int) ∧ (∃ b, v5 = .pointer (some ⟨b, 0, none⟩) ∧ Aside0 (t.nd (L.take k) = some b)) ∧ Aside0 (wr = W)) (fun _ _ v23 _ => n - (intOf v23).toNat)
  case atStart => exact ⟨0, by omega, rfl, ⟨g, rfl, ⟨by simpa using H0.out⟩⟩, ⟨rfl⟩⟩
  case round =>
  obtain ⟨k, hk, rfl, ⟨b, rfl, HN⟩, hwW⟩ := hrel
  obtain rfl := hwW.out.symm
  clear hwW
  by_cases hlt : k < n
  · have hlt' : (k : Int) < n := by omega
    have bc := BC k (by omega)
    have hlk := h'.out.look HN.out (L.getD k 0) (P := Try.prog) (T := 40) Try.underlying40 Try.underlying5 (zero45 W)
    have c0 := h'.out.c0 HN.out
    rw [take_snoc L k (by omega)] at hlk
    cases hnx : t.nd (L.take (k + 1)) with
    | none =>
      rw [hnx] at hlk
      have hlk' : (Instr.lookup 40 (.map (t.mp (L.take k))) (kc (L.getD k 0)) false).run Try.prog W = .ok (.pointer none) W := hlk
      clear hlk
      have HE := Aside0.mk (h'.out.gone_all L (k + 1) (by omega) hnx)
      go_wp2_with (at_lookup; refine wpList_lookup_run _ rfl _ _ 40 rfl _ _ _ rfl rfl hlk' ?_)
      go_ret
      refine ⟨?_, HB.out⟩
      unfold TG.goes
      rw [HE.out]
      simp
    | some b' =>
      rw [hnx] at hlk
      have hlk' : (Instr.lookup 40 (.map (t.mp (L.take k))) (kc (L.getD k 0)) false).run Try.prog W = .ok (.pointer (some ⟨b', 0, none⟩)) W := hlk
      clear hlk
      have HX := Aside0.mk hnx
      clear hnx
      go_wp2_with (at_lookup; refine wpList_lookup_run _ rfl _ _ 40 rfl _ _ _ rfl rfl hlk' ?_)
      go_roundw
      case measure => (first | (show n - (wrap64 ((k:Int)+1)).toNat < n - ((k:Int)).toNat; rw [wrap_id _ (by omega) (by omega)]; omega) | (show n - ((k:Int)+1).toNat < n - ((k:Int)).toNat; omega))
      case rel => first | exact ⟨k + 1, by omega, by go_num, ⟨b', rfl, HX⟩, ⟨by first | rfl | trivial⟩⟩ | ((try rw [HZ.out]); (repeat apply Exists.intro); exact ⟨⟨k + 1, by omega, by go_num, ⟨b', rfl, HX⟩, ⟨by first | rfl | trivial⟩⟩, rfl⟩)
  · obtain rfl : k = n := by omega
    go_wp2
    go_ret
    refine ⟨?_, HB.out⟩
    unfold TG.goes
    have := HN.out
    rw [HNL.out, List.take_length] at this
    rw [this]
    simp [hz]

/-- the longest of the first k bytes' beginnings that is a name -/
def TG.lng (t : TG) (s : List UInt8) : Nat → Int × Nat
  | 0 => (0, 0)
  | k + 1 => match t.vl (s.take (k + 1)) with
    | some r => (r, k + 1)
    | none => t.lng s k
theorem TrieAt.lng_gone (h : TrieAt w base g cnt t) (s : List UInt8) (k : Nat) (hn : t.nd (s.take (k + 1)) = none) : ∀ j, t.lng s (k + j) = t.lng s k := by
  intro j
  induction j with
  | zero => rfl
  | succ j ih =>
    have : t.nd (s.take (k + j + 1)) = none := by
      have := h.gone s j (k + 1) hn
      rwa [show k + 1 + j = k + j + 1 by omega] at this
    show t.lng s (k + j + 1) = _
    rw [TG.lng, (h.out _ this).2]
    exact ih
set_option maxRecDepth 100000 in
set_option maxHeartbeats 1000000 in
theorem longest_calls (h : TrieAt w base g cnt t) (s : ByteArray) (hs : s.size ≤ 1000000000000000) :
    Calls Try.prog 11 #[.pointer (some ⟨g, 0, none⟩), .string s] w fun e w' => e = .returned (.tuple #[.int .i64 (t.lng s.data.toList s.size).1, .int .i64 ((t.lng s.data.toList s.size).2 : Int)]) ∧ Below w.heap.size w w' := by
  have hsz : s.size = s.data.toList.length := (data_length s).symm
  obtain ⟨L, hL⟩ : ∃ L, s.data.toList = L := ⟨_, rfl⟩
  obtain ⟨W, hW⟩ : ∃ W, Lib.bytesWorld w 5 s = W := ⟨_, rfl⟩
  obtain ⟨n, hn⟩ : ∃ n, s.size = n := ⟨_, rfl⟩
  obtain ⟨cap, hcap⟩ : ∃ cap, grownCap w s.size 0 5 = cap := ⟨_, rfl⟩
  have kb := print_bytes (P := Try.prog) 9 32 5 Try.underlying9 Try.underlying32 Try.underlying5 s w
  rw [hW, hcap, hn] at kb
  have BC := fun k hk => bytes_cell w s (by omega) k hk
  rw [hL, hW] at BC
  have hb := bytes_below (Below.refl w.heap.size w) (Nat.le_refl _) 5 s
  rw [hW] at hb
  have h' := Aside0.mk (h.below hb)
  have HB := Aside0.mk hb
  have hnl : n = L.length := by rw [← hn, hsz, hL]
  have hn1 : n ≤ L.length := by omega
  have hn2 : L.length ≤ n := by omega
  have hn3 : n ≤ 1000000000000000 := by omega
  have HNL := Aside0.mk hnl
  have H0 := Aside0.mk h.root
  rw [hL, hn]
  clear hb h hsz hL hW hcap hnl hn
  go_enter Try.func11, Try.ntmps11
  go_wp2
  go_loopw [6, 7, 8, 9, 10, 19] (fun v6 v7 v8 v9 v10 v19 wr => ∃ k : Nat, k ≤ n ∧ v19 = .int .i64 (k : Int) ∧ v6 = .int .i64 (t.lng L k).1 ∧ v7 = .int .i64 ((t.lng L k).2 : Int) ∧ (∃ b, v8 = .pointer (some ⟨b, 0, none⟩) ∧ Aside0 (t.nd (L.take k) = some b)) ∧ Aside0 (wr = W)) (fun _ _ _ _ _ v19 _ => n - (intOf v19).toNat)
  case atStart => exact ⟨0, by omega, rfl, rfl, rfl, ⟨g, rfl, ⟨by simpa using H0.out⟩⟩, ⟨rfl⟩⟩
  case round =>
  obtain ⟨k, hk, rfl, rfl, rfl, ⟨b, rfl, HN⟩, hwW⟩ := hrel
  obtain rfl := hwW.out.symm
  clear hwW
  by_cases hlt : k < n
  · have hlt' : (k : Int) < n := by omega
    have bc := BC k (by omega)
    have hlk := h'.out.look HN.out (L.getD k 0) (P := Try.prog) (T := 40) Try.underlying40 Try.underlying5 (zero45 W)
    have c0 := h'.out.c0 HN.out
    rw [take_snoc L k (by omega)] at hlk
    cases hnx : t.nd (L.take (k + 1)) with
    | none =>
      rw [hnx] at hlk
      have hlk' : (Instr.lookup 40 (.map (t.mp (L.take k))) (kc (L.getD k 0)) false).run Try.prog W = .ok (.pointer none) W := hlk
      clear hlk
      have HE := Aside0.mk (h'.out.lng_gone L k hnx (n - k))
      have he : k + (n - k) = n := by omega
      rw [he] at HE
      go_wp2_with (at_lookup; refine wpList_lookup_run _ rfl _ _ 40 rfl _ _ _ rfl rfl hlk' ?_)
      go_ret2
      rw [HE.out]
      exact ⟨rfl, HB.out⟩
    | some b' =>
      rw [hnx] at hlk
      have hlk' : (Instr.lookup 40 (.map (t.mp (L.take k))) (kc (L.getD k 0)) false).run Try.prog W = .ok (.pointer (some ⟨b', 0, none⟩)) W := hlk
      clear hlk
      have d1 := h'.out.c1 hnx
      have d2 := h'.out.c2 hnx
      have HX := Aside0.mk hnx
      clear hnx
      cases hv : t.vl (L.take (k + 1)) with
      | some r =>
        have e1 : t.lng L (k + 1) = (r, k + 1) := by rw [TG.lng, hv]
        have E1 := Aside0.mk e1
        clear e1
        rw [hv] at d1 d2
        simp only [Option.isSome_some, Option.getD_some] at d1 d2
        clear hv
        go_wp2_with (at_lookup; refine wpList_lookup_run _ rfl _ _ 40 rfl _ _ _ rfl rfl hlk' ?_)
        go_roundw
        case measure => (first | (show n - (wrap64 ((k:Int)+1)).toNat < n - ((k:Int)).toNat; rw [wrap_id _ (by omega) (by omega)]; omega) | (show n - ((k:Int)+1).toNat < n - ((k:Int)).toNat; omega))
        case rel => first | exact ⟨k + 1, by omega, by go_num, by rw [E1.out], by rw [E1.out]; go_num, ⟨b', rfl, HX⟩, ⟨by first | rfl | trivial⟩⟩ | ((repeat apply Exists.intro); exact ⟨⟨k + 1, by omega, by go_num, by rw [E1.out], by rw [E1.out]; go_num, ⟨b', rfl, HX⟩, ⟨by first | rfl | trivial⟩⟩, rfl⟩)
      | none =>
        have e1 : t.lng L (k + 1) = t.lng L k := by rw [TG.lng, hv]
        have E1 := Aside0.mk e1
        clear e1
        rw [hv] at d1 d2
        simp only [Option.isSome_none] at d1
        clear hv d2
        go_wp2_with (at_lookup; refine wpList_lookup_run _ rfl _ _ 40 rfl _ _ _ rfl rfl hlk' ?_)
        go_roundw
        case measure => (first | (show n - (wrap64 ((k:Int)+1)).toNat < n - ((k:Int)).toNat; rw [wrap_id _ (by omega) (by omega)]; omega) | (show n - ((k:Int)+1).toNat < n - ((k:Int)).toNat; omega))
        case rel => first | exact ⟨k + 1, by omega, by go_num, by rw [E1.out], by rw [E1.out], ⟨b', rfl, HX⟩, ⟨by first | rfl | trivial⟩⟩ | ((repeat apply Exists.intro); exact ⟨⟨k + 1, by omega, by go_num, by rw [E1.out], by rw [E1.out], ⟨b', rfl, HX⟩, ⟨by first | rfl | trivial⟩⟩, rfl⟩)
  · obtain rfl : k = n := by omega
    go_wp2
    go_ret2
    exact ⟨rfl, HB.out⟩
end
end Go.Proofs.Ytkidfbapnkegmaa.P
