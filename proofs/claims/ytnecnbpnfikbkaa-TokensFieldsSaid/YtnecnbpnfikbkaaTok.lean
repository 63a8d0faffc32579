/- Tokens: what the reference and the program tell, in closed form. -/
import Derived.Test.YtnecnbpnfikbkaaSayTokensSame
import Derived.Test.YtnecnbpnfikbkaaSayTokensShifts
import Derived.Test.YtnecnbpnfikbkaaHandList
import Derived.Test.YtnecnbpnfikbkaaHandShow
namespace Go.Proofs.Ytnecnbpnfikbkaa.Pure
open Go.RowKit Go.Proofs.Ytnecnbpnfikbkaa.P Go.Proofs.YtnecnbpnfikbkaaW.PrintWords Go.Proofs.YtnecnbpnfikbkaaW.PrintLast Go.Proofs.YtnecnbpnfikbkaaW.PrintMore
set_option linter.unusedVariables false

theorem i64_w (x : Int) : IntKind.i64.wrap x = wrap64 x := by unfold wrap64; simp [IntKind.wrap, IntKind.signed, IntKind.bits]; try omega
def okRune (r : Int) : Prop := 0 ≤ r ∧ r ≤ 1114111 ∧ (r < 55296 ∨ 57344 ≤ r)
instance (r : Int) : Decidable (okRune r) := by unfold okRune; infer_instance
theorem and63i (x : Int) (h0 : 0 ≤ x) (h1 : x < 2 ^ 50) : Go.bits .and .i64 x 63 = x % 64 := by
  obtain ⟨n, rfl⟩ : ∃ n : Nat, x = n := ⟨x.toNat, by omega⟩
  have h : Go.bits .and .i64 (n : Int) 63 = IntKind.i64.wrap (((BitVec.ofInt 64 (n : Int)) &&& (BitVec.ofInt 64 ((63 : Nat) : Int))).toNat : Int) := rfl
  have h1' : (BitVec.ofInt 64 (n : Int)) = BitVec.ofNat 64 n := BitVec.ofInt_natCast ..
  have h2 : (BitVec.ofInt 64 ((63 : Nat) : Int)) = BitVec.ofNat 64 63 := BitVec.ofInt_natCast ..
  have e : n &&& 63 = n % 64 := Nat.and_two_pow_sub_one_eq_mod n 6
  rw [h, h1', h2, BitVec.toNat_and, BitVec.toNat_ofNat, BitVec.toNat_ofNat, Nat.mod_eq_of_lt (a := n) (by omega), Nat.mod_eq_of_lt (a := 63) (by omega), e, i64_w, wrap_id _ (by omega) (by omega)]
  omega
theorem or192 (y : Int) (h0 : 0 ≤ y) (h1 : y < 32) : Go.bits .or .i64 192 y = 192 + y := by
  have h : ∀ x : Fin 32, Go.bits .or .i64 192 (x.val : Int) = 192 + (x.val : Int) := by decide +kernel
  have := h ⟨y.toNat, by omega⟩
  simpa [Int.toNat_of_nonneg h0] using this
theorem or224 (y : Int) (h0 : 0 ≤ y) (h1 : y < 16) : Go.bits .or .i64 224 y = 224 + y := by
  have h : ∀ x : Fin 16, Go.bits .or .i64 224 (x.val : Int) = 224 + (x.val : Int) := by decide +kernel
  have := h ⟨y.toNat, by omega⟩
  simpa [Int.toNat_of_nonneg h0] using this
theorem or240 (y : Int) (h0 : 0 ≤ y) (h1 : y < 8) : Go.bits .or .i64 240 y = 240 + y := by
  have h : ∀ x : Fin 8, Go.bits .or .i64 240 (x.val : Int) = 240 + (x.val : Int) := by decide +kernel
  have := h ⟨y.toNat, by omega⟩
  simpa [Int.toNat_of_nonneg h0] using this
theorem or128 (y : Int) (h0 : 0 ≤ y) (h1 : y < 64) : Go.bits .or .i64 128 y = 128 + y := by
  have h : ∀ x : Fin 64, Go.bits .or .i64 128 (x.val : Int) = 128 + (x.val : Int) := by decide +kernel
  have := h ⟨y.toNat, by omega⟩
  simpa [Int.toNat_of_nonneg h0] using this

/-- the bytes, as numbers -/
def encN (c : Nat) : List Nat :=
  if c < 128 then [c] else if c < 2048 then [192 + c / 64, 128 + c % 64] else if c < 65536 then [224 + c / 4096, 128 + c / 64 % 64, 128 + c % 64] else [240 + c / 262144, 128 + c / 4096 % 64, 128 + c / 64 % 64, 128 + c % 64]
def bytesOfN (l : List Nat) : ByteArray := ⟨(l.map UInt8.ofNat).toArray⟩

theorem ok_valid (q : Int) (h : okRune q) : Utf8.valid q = true := by
  unfold okRune at h
  unfold Utf8.valid
  simp
  omega
theorem encode_eq (q : Int) (h : okRune q) : Utf8.encode q = bytesOfN (encN q.toNat) := by
  unfold Utf8.encode encN bytesOfN
  simp only [ok_valid q h, if_true]
  repeat' split
  all_goals rfl

theorem str_eq (l : List Int) (m : List Nat) (h : l.map Int.toNat = m) : strOfNums l = bytesOfN m := by
  subst h
  unfold strOfNums bytesOfN
  rw [List.map_map]
  rfl

theorem refEncode_some (q : Int) (h : okRune q) (k : Nat) (hk : 1 ≤ k) : taffrailref03_Encode.j0 k q = some (Utf8.encode q) := by
  obtain ⟨m, rfl⟩ : ∃ m, k = m + 1 := ⟨k - 1, by omega⟩
  rw [encode_eq q h]
  unfold okRune at h
  simp only [taffrailref03_Encode.j0]
  unfold encN
  by_cases c1 : q < 128
  · rw [if_pos c1, if_pos (show q.toNat < 128 by omega), str_eq _ _ rfl]
    simp only [List.map_cons, List.map_nil]
    rw [show (q % 256).toNat = q.toNat by omega]
  rw [if_neg c1, if_neg (show ¬ q.toNat < 128 by omega)]
  by_cases c2 : q < 2048
  · rw [if_pos c2, if_pos (show q.toNat < 2048 by omega), str_eq _ _ rfl, or192 _ (by omega) (by omega), and63i _ (by omega) (by omega), or128 _ (by omega) (by omega)]
    simp only [List.map_cons, List.map_nil]
    rw [show ((192 + q / 64) % 256).toNat = 192 + q.toNat / 64 by omega, show ((128 + q % 64) % 256).toNat = 128 + q.toNat % 64 by omega]
  rw [if_neg c2, if_neg (show ¬ q.toNat < 2048 by omega)]
  by_cases c3 : q < 65536
  · rw [if_pos c3, if_pos (show q.toNat < 65536 by omega), str_eq _ _ rfl, or224 _ (by omega) (by omega), and63i _ (by omega) (by omega), and63i _ (by omega) (by omega), or128 _ (by omega) (by omega), or128 _ (by omega) (by omega)]
    simp only [List.map_cons, List.map_nil]
    rw [show ((224 + q / 4096) % 256).toNat = 224 + q.toNat / 4096 by omega, show ((128 + q / 64 % 64) % 256).toNat = 128 + q.toNat / 64 % 64 by omega, show ((128 + q % 64) % 256).toNat = 128 + q.toNat % 64 by omega]
  · rw [if_neg c3, if_neg (show ¬ q.toNat < 65536 by omega), str_eq _ _ rfl, or240 _ (by omega) (by omega), and63i _ (by omega) (by omega), and63i _ (by omega) (by omega), and63i _ (by omega) (by omega), or128 _ (by omega) (by omega), or128 _ (by omega) (by omega), or128 _ (by omega) (by omega)]
    simp only [List.map_cons, List.map_nil]
    rw [show ((240 + q / 262144) % 256).toNat = 240 + q.toNat / 262144 by omega, show ((128 + q / 4096 % 64) % 256).toNat = 128 + q.toNat / 4096 % 64 by omega, show ((128 + q / 64 % 64) % 256).toNat = 128 + q.toNat / 64 % 64 by omega, show ((128 + q % 64) % 256).toNat = 128 + q.toNat % 64 by omega]

theorem may_some (r : Int) : taffrailref03_May.f r = some (decide (okRune r)) := by
  unfold taffrailref03_May.f okRune
  by_cases h1 : r ≥ 0
  · rw [if_pos h1]
    by_cases h2 : r ≤ 1114111
    · rw [if_pos h2]
      by_cases h3 : r < 55296
      · rw [if_pos h3]; congr 1; symm; exact decide_eq_true (by omega)
      · rw [if_neg h3]; congr 1; exact decide_eq_decide.mpr (by omega)
    · rw [if_neg h2]; congr 1; symm; exact decide_eq_false (by omega)
  · rw [if_neg h1]; congr 1; symm; exact decide_eq_false (by omega)


theorem ok_runeOf (r : Int) : okRune (runeOf r) := by
  unfold runeOf okRune
  split <;> omega
theorem encode_ev (r : Int) : Ev (fun k => taffrailref03_Encode.f k r) (Utf8.encode (runeOf r)) := by
  refine ⟨1, fun k hk => ?_⟩
  unfold taffrailref03_Encode.f
  rw [may_some]
  simp only [Option.bind_some]
  have ho := ok_runeOf r
  by_cases h : okRune r
  · have e : runeOf r = r := by unfold runeOf; exact if_pos h
    rw [if_pos (by simpa using h), e]
    exact refEncode_some r h k hk
  · have e : runeOf r = 65533 := by unfold runeOf; exact if_neg h
    rw [if_neg (by simpa using h), e]
    exact refEncode_some 65533 (by unfold okRune; omega) k hk

theorem awake_ev : Ev (fun k => taffraillaw09_awake.f k) true := Ev.of (fun k => taffraillaw09_awake.mono k) (k := 10) (by decide +kernel)

theorem size_l0 (l : List S26) (hl : l.length ≤ 4398046511104) (ha : ∀ t, t ∈ l → t.f4.length ≤ 4398046511104) : ∀ (d i : Nat) (n : Int), l.length - i = d → i ≤ l.length → ∃ b, Ev (fun k => taffraillaw09_size.l0 k l n i) b
  | 0, i, n, hd, hi => by
    refine ⟨decide (n < 20000), Ev.step (f := fun k => taffraillaw09_size.j1 k l n i false) (fun k => ?_) (Ev.step (f := fun k => some (decide (n < 20000))) (fun k => ?_) (Ev.now _))⟩
    · simp only [taffraillaw09_size.l0]; rw [if_neg (by omega)]
    · simp only [taffraillaw09_size.j1]; rw [if_neg (by decide)]
  | d + 1, i, n, hd, hi => by
    have h1 : i < l.length := by omega
    have hw : wrap64 ((i : Int) + 1) = ((i + 1 : Nat) : Int) := by rw [wrap_id _ (by omega) (by omega)]; omega
    have inner : ∀ (e j : Nat) (m : Int), l[i].f4.length - j = e → j ≤ l[i].f4.length → ∃ b, Ev (fun k => taffraillaw09_size.l1 k l m i j) b := by
      intro e
      induction e with
      | zero =>
        intro j m he hj
        obtain ⟨b, hb⟩ := size_l0 l hl ha d (i + 1) m (by omega) (by omega)
        refine ⟨b, Ev.step (fun k => ?_) hb⟩
        simp only [taffraillaw09_size.l1]
        rw [if_pos (by omega), if_pos (by omega), rd26 l i h1, if_neg (by omega), hw]
      | succ e ih =>
        intro j m he hj
        have hwj : wrap64 ((j : Int) + 1) = ((j + 1 : Nat) : Int) := by have := ha _ (List.getElem_mem h1); rw [wrap_id _ (by omega) (by omega)]; omega
        obtain ⟨b, hb⟩ := ih (j + 1) (wrap64 (m + (wrap64 ((wrap64 (1 + (((rd_T31 (l[i].f4) j).f0).size : Int))) + (((rd_T31 (l[i].f4) j).f1).size : Int))))) (by omega) (by omega)
        refine ⟨b, Ev.step (fun k => ?_) hb⟩
        simp only [taffraillaw09_size.l1]
        rw [if_pos (by omega), if_pos (by omega), rd26 l i h1, if_pos (by omega), if_pos (by omega), hwj]
    obtain ⟨b1, h1b⟩ := inner _ 0 (wrap64 (n + (wrap64 ((wrap64 (1 + ((l[i].f2).size : Int))) + ((l[i].f3).size : Int))))) rfl (Nat.zero_le _)
    by_cases hn : n < 20000
    · refine ⟨b1, Ev.step (f := fun k => taffraillaw09_size.j1 k l n i true) (fun k => ?_) (Ev.step (fun k => ?_) h1b)⟩
      · simp only [taffraillaw09_size.l0]
        rw [if_pos (by omega), decide_eq_true hn]
      · simp only [taffraillaw09_size.j1]
        rw [if_pos trivial, if_pos (by omega), if_pos (by omega), rd26 l i h1]
        rfl
    · refine ⟨decide (n < 20000), Ev.step (f := fun k => taffraillaw09_size.j1 k l n i false) (fun k => ?_) (Ev.step (f := fun k => some (decide (n < 20000))) (fun k => ?_) (Ev.now _))⟩
      · simp only [taffraillaw09_size.l0]
        rw [if_pos (by omega), decide_eq_false hn]
      · simp only [taffraillaw09_size.j1]; rw [if_neg (by decide)]
theorem size_ev (l : List S26) (hl : l.length ≤ 4398046511104) (ha : ∀ t, t ∈ l → t.f4.length ≤ 4398046511104) : ∃ b, Ev (fun k => taffraillaw09_size.f k l) b := size_l0 l hl ha _ 0 0 rfl (Nat.zero_le _)

theorem refAttrs_at (l m : List S31) (hlm : l.length = m.length) (hl : l.length ≤ 4611686018427387904) : ∀ (d i : Nat), l.length - i = d → i ≤ l.length →
    Ev (fun k => taffrailref08_Equal.l0 k l m i) (attrsB (l.drop i) (m.drop i))
  | 0, i, hd, hi => by
    refine Ev.step (fun k => rfl) (Ev.congr (fun k => if_neg (by omega)) ?_)
    rw [List.drop_eq_nil_of_le (by omega), List.drop_eq_nil_of_le (by omega)]
    exact Ev.now _
  | d + 1, i, hd, hi => by
    have h1 : i < l.length := by omega
    have h2 : i < m.length := by omega
    have hw : wrap64 ((i : Int) + 1) = ((i + 1 : Nat) : Int) := by rw [wrap_id _ (by omega) (by omega)]; omega
    rw [List.drop_eq_getElem_cons h1, List.drop_eq_getElem_cons h2]
    by_cases e : (l[i].f0.toList == m[i].f0.toList && l[i].f1.toList == m[i].f1.toList) = true
    · refine Ev.step (fun k => rfl) (Ev.congr (fun k => ?_) (f := fun k => taffrailref08_Equal.l0 k l m ((i + 1 : Nat) : Int)) ?_)
      · simp only [taffrailref08_Equal.l0]; rw [if_pos (by omega), if_pos (by omega), if_pos (by omega), rd31 l i h1, rd31 m i h2, if_neg (by simp at e ⊢; exact e), hw]
      · rw [attrsB, e, Bool.true_and]
        exact refAttrs_at l m hlm hl d (i + 1) (by omega) (by omega)
    · have e' : (l[i].f0.toList == m[i].f0.toList && l[i].f1.toList == m[i].f1.toList) = false := by simpa using e
      refine Ev.step (fun k => rfl) (Ev.congr (fun k => ?_) (f := fun k => some false) ?_)
      · simp only [taffrailref08_Equal.l0]; rw [if_pos (by omega), if_pos (by omega), if_pos (by omega), rd31 l i h1, rd31 m i h2, if_pos (by simp at e ⊢; by_cases q : l[i].f0.toList = m[i].f0.toList <;> simp_all)]
      · rw [attrsB, e', Bool.false_and]
        exact Ev.now _
theorem refEqual_ev (l m : List S31) (hl : l.length ≤ 4611686018427387904) : Ev (fun k => taffrailref08_Equal.f k l m) (attrsB l m) := by
  by_cases h : l.length = m.length
  · refine Ev.congr (fun k => ?_) (refAttrs_at l m h hl l.length 0 (by omega) (by omega))
    unfold taffrailref08_Equal.f
    rw [if_pos (by omega)]; rfl
  · rw [attrsB_len l m h]
    refine Ev.congr (fun k => ?_) (Ev.now _)
    unfold taffrailref08_Equal.f
    rw [if_neg (by omega)]

theorem refSame_ev (a b : S26) (h : a.f4.length ≤ 4611686018427387904) :
    Ev (fun k => taffrailref09_Same.f k a.f0 a.f1 a.f2 a.f3 a.f4 a.f5 a.f6.f0 a.f6.f1 b.f0 b.f1 b.f2 b.f3 b.f4 b.f5 b.f6.f0 b.f6.f1) (sameB a b) := by
  obtain ⟨K, hK⟩ := refEqual_ev a.f4 b.f4 h
  refine ⟨K, fun k hk => ?_⟩
  have hq := hK k hk
  simp only at hq
  show taffrailref09_Same.f k a.f0 a.f1 a.f2 a.f3 a.f4 a.f5 a.f6.f0 a.f6.f1 b.f0 b.f1 b.f2 b.f3 b.f4 b.f5 b.f6.f0 b.f6.f1 = _
  unfold taffrailref09_Same.f sameB
  rw [hq]
  by_cases c0 : a.f0 = b.f0
  case neg => rw [if_neg c0]; simp [c0]
  by_cases c1 : a.f1 = b.f1
  case neg => rw [if_pos c0, if_neg c1]; simp [c1]
  by_cases c2 : a.f2.toList = b.f2.toList
  case neg => rw [if_pos c0, if_pos c1, if_neg c2]; simp [c2]
  by_cases c3 : a.f3.toList = b.f3.toList
  case neg => rw [if_pos c0, if_pos c1, if_pos c2, if_neg c3]; simp [c3]
  by_cases c5 : (a.f5 == b.f5) = true
  case neg => rw [if_pos c0, if_pos c1, if_pos c2, if_pos c3, if_neg c5]; simp at c5; simp [c5]
  by_cases c6 : (a.f6.f0 == b.f6.f0 && (a.f6.f1 == b.f6.f1)) = true
  case neg => rw [if_pos c0, if_pos c1, if_pos c2, if_pos c3, if_pos c5, if_neg c6, Bool.eq_false_iff.mpr c6]; simp
  rw [if_pos c0, if_pos c1, if_pos c2, if_pos c3, if_pos c5, if_pos c6, c5, c6]
  simp [c0, c1, c2, c3]
theorem same_ev (a b : S26) (h : a.f4.length ≤ 4611686018427387904) :
    Ev (fun k => tokens_Same.f k a.f0 a.f1 a.f2 a.f3 a.f4 a.f5 a.f6.f0 a.f6.f1 b.f0 b.f1 b.f2 b.f3 b.f4 b.f5 b.f6.f0 b.f6.f1) (sameB a b) :=
  ⟨a.f4.length + 1, fun k hk => same_some a b h k (by omega)⟩

theorem attrsB_refl : ∀ l : List S31, attrsB l l = true
  | [] => rfl
  | x :: xs => by simp [attrsB, attrsB_refl xs]
theorem sameB_refl (a : S26) : sameB a a = true := by simp [sameB, attrsB_refl]
theorem listB_refl : ∀ l : List S26, listB l l = true
  | [] => rfl
  | x :: xs => by simp [listB, sameB_refl, listB_refl xs]

theorem refList_at (l m : List S26) (hlm : l.length = m.length) (hl : l.length ≤ 4611686018427387904) (ha : smallAttrs l) : ∀ (d i : Nat), l.length - i = d → i ≤ l.length →
    Ev (fun k => taffrailref09_List.l0 k l m i) (listB (l.drop i) (m.drop i))
  | 0, i, hd, hi => by
    refine Ev.step (fun k => rfl) (Ev.congr (fun k => if_neg (by omega)) ?_)
    rw [List.drop_eq_nil_of_le (by omega), List.drop_eq_nil_of_le (by omega)]
    exact Ev.now _
  | d + 1, i, hd, hi => by
    have h1 : i < l.length := by omega
    have h2 : i < m.length := by omega
    have hw : wrap64 ((i : Int) + 1) = ((i + 1 : Nat) : Int) := by rw [wrap_id _ (by omega) (by omega)]; omega
    rw [List.drop_eq_getElem_cons h1, List.drop_eq_getElem_cons h2, listB]
    have hs := refSame_ev l[i] m[i] (by have := ha _ (List.getElem_mem h1); omega)
    refine Ev.step (fun k => rfl) (Ev.congr (fun k => ?_) (Ev.bind hs (f := fun k t => if t = true then taffrailref09_List.l0 k l m ((i + 1 : Nat) : Int) else some false) ?_))
    · simp only [taffrailref09_List.l0]; rw [if_pos (by omega), if_pos (by omega), if_pos (by omega), rd26 l i h1, rd26 m i h2, hw]
    · cases hq : sameB l[i] m[i]
      · exact Ev.congr (fun k => if_neg (by decide)) (Ev.now _)
      · exact Ev.congr (fun k => if_pos rfl) (refList_at l m hlm hl ha d (i + 1) (by omega) (by omega))
theorem refList_ev (l m : List S26) (hl : l.length ≤ 4611686018427387904) (ha : smallAttrs l) : Ev (fun k => taffrailref09_List.f k l m) (listB l m) := by
  by_cases h : l.length = m.length
  · refine Ev.congr (fun k => ?_) (refList_at l m h hl ha l.length 0 (by omega) (by omega))
    unfold taffrailref09_List.f
    rw [if_pos (by omega)]; rfl
  · rw [listB_len l m h]
    refine Ev.congr (fun k => ?_) (Ev.now _)
    unfold taffrailref09_List.f
    rw [if_neg (by omega)]

theorem refText_at (l : List S26) (hl : l.length ≤ 2000000000000) : ∀ (d i : Nat), l.length - i = d → i ≤ l.length →
    Ev (fun k => taffrailref09_Text.l0 k l ⟨(textTo l i).toArray⟩ i) ⟨(textTo l l.length).toArray⟩
  | 0, i, hd, hi => by
    obtain rfl : i = l.length := by omega
    exact Ev.step (fun k => rfl) (Ev.congr (fun k => if_neg (by omega)) (Ev.now _))
  | d + 1, i, hd, hi => by
    have h1 : i < l.length := by omega
    have hw : wrap64 ((i : Int) + 1) = ((i + 1 : Nat) : Int) := by rw [wrap_id _ (by omega) (by omega)]; omega
    have ih := refText_at l hl d (i + 1) (by omega) (by omega)
    have e : rd_T26 l (i : Int) = l[i] := rd26 l i h1
    by_cases c : l[i].f0 = 1
    · have ht : textTo l (i + 1) = textTo l i ++ (Utf8.encode (runeOf l[i].f1)).data.toList := by rw [textTo, e, if_pos c]
      refine Ev.step (fun k => rfl) (Ev.congr (fun k => ?_) (Ev.bind (encode_ev l[i].f1) (f := fun k t => if (⟨(textTo l i).toArray⟩ : ByteArray).size + t.size ≤ 9223372036854775807 then taffrailref09_Text.l0 k l (⟨(textTo l i).toArray⟩ ++ t) ((i + 1 : Nat) : Int) else none) ?_))
      · simp only [taffrailref09_Text.l0]; rw [if_pos (by omega), if_pos (by omega), e, if_pos c, hw]
      · have hq : (⟨(textTo l (i + 1)).toArray⟩ : ByteArray) = ⟨(textTo l i).toArray⟩ ++ Utf8.encode (runeOf l[i].f1) := by
          rw [ht]
          apply ByteArray.ext
          simp
        refine Ev.congr (fun k => if_pos ?_) ?_
        · have h3 := textTo_le l i
          have h4 := enc_le (runeOf l[i].f1)
          have h5 : (⟨(textTo l i).toArray⟩ : ByteArray).size = (textTo l i).length := by simp [ByteArray.size]
          omega
        · rw [← hq]; exact ih
    · have ht : textTo l (i + 1) = textTo l i := by rw [textTo, e, if_neg c, List.append_nil]
      refine Ev.step (fun k => rfl) (Ev.congr (fun k => ?_) (f := fun k => taffrailref09_Text.l0 k l ⟨(textTo l (i + 1)).toArray⟩ ((i + 1 : Nat) : Int)) ih)
      simp only [taffrailref09_Text.l0]; rw [if_pos (by omega), if_pos (by omega), e, if_neg c, hw, ht]
theorem refText_ev (l : List S26) (hl : l.length ≤ 2000000000000) : Ev (fun k => taffrailref09_Text.f k l) ⟨(textTo l l.length).toArray⟩ := refText_at l hl _ 0 rfl (Nat.zero_le _)
end Go.Proofs.Ytnecnbpnfikbkaa.Pure
