/- slices.EqualFunc by tokens.Same, tokens.List. -/
import Derived.Test.YtnecnbpnfikbkaaPx3
import Derived.Test.YtnecnbpnfikbkaaHandText
namespace Go.Proofs.Ytnecnbpnfikbkaa.P
open Go.RowKit Go.Proofs.YtnecnbpnfikbkaaW.PrintWords Go.Proofs.YtnecnbpnfikbkaaW.PrintLast Go.Proofs.YtnecnbpnfikbkaaW.PrintMore
set_option linter.unusedVariables false

def attrsB : List S31 → List S31 → Bool
  | [], [] => true
  | x :: xs, y :: ys => x.f0.toList == y.f0.toList && x.f1.toList == y.f1.toList && attrsB xs ys
  | _, _ => false
theorem attrsB_len : ∀ (l m : List S31), l.length ≠ m.length → attrsB l m = false
  | [], [], h => by simp at h
  | [], _ :: _, _ => rfl
  | _ :: _, [], _ => rfl
  | x :: xs, y :: ys, h => by
    have := attrsB_len xs ys (by simpa using h)
    simp [attrsB, this]
theorem rd31 (l : List S31) (i : Nat) (h : i < l.length) : rd_T31 l (i : Int) = l[i] := by
  simp [rd_T31, List.getD_eq_getElem?_getD, h]
theorem attrs_at (l m : List S31) (hlm : l.length = m.length) (hl : l.length ≤ 4611686018427387904) : ∀ (d i k : Nat), l.length - i = d → i ≤ l.length → d < k →
    api_Attr_18.l0 k l m (l.length : Int) i = some (attrsB (l.drop i) (m.drop i))
  | 0, i, k, hd, hi, hk => by
    obtain ⟨j, rfl⟩ : ∃ j, k = j + 1 := ⟨k - 1, by omega⟩
    simp only [api_Attr_18.l0]
    rw [if_neg (by omega), List.drop_eq_nil_of_le (by omega), List.drop_eq_nil_of_le (by omega)]
    rfl
  | d + 1, i, k, hd, hi, hk => by
    obtain ⟨j, rfl⟩ : ∃ j, k = j + 1 := ⟨k - 1, by omega⟩
    have h1 : i < l.length := by omega
    have h2 : i < m.length := by omega
    simp only [api_Attr_18.l0]
    rw [if_pos (by omega), if_pos (by omega), if_pos (by omega), if_pos (by omega), rd31 l i h1, rd31 m i h2, List.drop_eq_getElem_cons h1, List.drop_eq_getElem_cons h2]
    have hw : wrap64 ((i : Int) + 1) = ((i + 1 : Nat) : Int) := by rw [wrap_id _ (by omega) (by omega)]; omega
    rw [hw]
    simp only [attrsB]
    by_cases e : (l[i].f0.toList == m[i].f0.toList && l[i].f1.toList == m[i].f1.toList) = true
    · rw [if_neg (by simp at e ⊢; exact e), attrs_at l m hlm hl d (i + 1) j (by omega) (by omega) (by omega), e, Bool.true_and]
    · have e' : (l[i].f0.toList == m[i].f0.toList && l[i].f1.toList == m[i].f1.toList) = false := by simpa using e
      rw [if_pos (by simp at e ⊢; by_cases q : l[i].f0.toList = m[i].f0.toList <;> simp_all), e', Bool.false_and]
theorem attrs_some (l m : List S31) (hl : l.length ≤ 4611686018427387904) (k : Nat) (hk : l.length < k) : api_Attr_18.f k l m = some (attrsB l m) := by
  unfold api_Attr_18.f
  by_cases h : l.length = m.length
  · rw [if_pos (by omega)]
    exact attrs_at l m h hl l.length 0 k (by omega) (by omega) (by omega)
  · rw [if_neg (by omega), attrsB_len l m h]

def sameB (a b : S26) : Bool := a.f0 == b.f0 && (a.f1 == b.f1 && (a.f2.toList == b.f2.toList && (a.f3.toList == b.f3.toList && (a.f5 == b.f5 && ((a.f6.f0 == b.f6.f0 && a.f6.f1 == b.f6.f1) && attrsB a.f4 b.f4)))))
theorem same_some (a b : S26) (h : a.f4.length ≤ 4611686018427387904) (k : Nat) (hk : a.f4.length < k) :
    tokens_Same.f k a.f0 a.f1 a.f2 a.f3 a.f4 a.f5 a.f6.f0 a.f6.f1 b.f0 b.f1 b.f2 b.f3 b.f4 b.f5 b.f6.f0 b.f6.f1 = some (sameB a b) := by
  unfold tokens_Same.f sameB
  rw [attrs_some _ _ h k hk]
  by_cases c0 : a.f0 = b.f0
  case neg => rw [if_neg c0]; simp [c0]
  by_cases c1 : a.f1 = b.f1
  case neg => rw [if_pos c0, if_neg c1]; simp [c1]
  by_cases c2 : a.f2.toList = b.f2.toList
  case neg => rw [if_pos c0, if_pos c1, if_neg c2]; simp [c2]
  by_cases c3 : a.f3.toList = b.f3.toList
  case neg => rw [if_pos c0, if_pos c1, if_pos c2, if_neg c3]; simp [c3]
  by_cases c5 : (a.f5 == b.f5) = true
  case neg => rw [if_pos c0, if_pos c1, if_pos c2, if_pos c3, if_neg c5]; simp at c5; simp [c5]
  by_cases c6 : (a.f6.f0 == b.f6.f0 && (a.f6.f1 == b.f6.f1)) = true
  case neg => rw [if_pos c0, if_pos c1, if_pos c2, if_pos c3, if_pos c5, if_neg c6, Bool.eq_false_iff.mpr c6]; simp
  rw [if_pos c0, if_pos c1, if_pos c2, if_pos c3, if_pos c5, if_pos c6, c5, c6]
  simp [c0, c1, c2, c3]

theorem cell_alloc {w : World} {a : Addr} {v : Value} (h : w.cell? a = some v) (o : Obj) : (w.alloc o).cell? a = some v :=
  (World.cell?_alloc_lt w o a (World.block_lt_of_cell? w a h)).trans h
def listB : List S26 → List S26 → Bool
  | [], [] => true
  | x :: xs, y :: ys => sameB x y && listB xs ys
  | _, _ => false
theorem listB_len : ∀ (l m : List S26), l.length ≠ m.length → listB l m = false
  | [], [], h => by simp at h
  | [], _ :: _, _ => rfl
  | _ :: _, [], _ => rfl
  | x :: xs, y :: ys, h => by
    have := listB_len xs ys (by simpa using h)
    simp [listB, this]
theorem rd26 (l : List S26) (i : Nat) (h : i < l.length) : rd_T26 l (i : Int) = l[i] := by
  simp [rd_T26, List.getD_eq_getElem?_getD, h]
def smallAttrs (l : List S26) : Prop := ∀ t, t ∈ l → t.f4.length ≤ 4398046511104

set_option maxHeartbeats 1000000 in
theorem equalFunc_walk (A B : Option Addr) (c d : Nat) (l m : List S26) (w : World) (hr : Kd.C k26 w A l.length l) (hc : l.length ≤ c) (hs : Kd.C k26 w B m.length m) (hd : m.length ≤ d) (hl : smallAttrs l) :
    Calls Try.prog 20 #[.slice A l.length c, .slice B m.length d, .func (.func 8) #[] #[]] w fun e w' => e = .returned (.bool (listB l m)) ∧ Below w.heap.size w w' := by
  have HR := Aside0.mk hr
  have HS := Aside0.mk hs
  have hmax : l.length ≤ 9223372036854775807 := hr.2.1
  clear hr hs hc hd
  by_cases hlm : l.length = m.length
  · have hlmb : ((l.length : Int) != (m.length : Int)) = false := by rw [bne_eq_false_iff_eq]; omega
    have HLM := Aside0.mk hlm
    clear hlm
    go_enter Try.func20, Try.ntmps20
    go_wp2
    go_loopw [7, 8, 9, 17] (fun v7 v8 v9 v17 wr => ∃ k : Nat, k ≤ l.length ∧ v17 = .int .i64 (k : Int) ∧ Aside0 (listB l m = listB (l.drop k) (m.drop k)) ∧ Aside0 (Below w.heap.size w wr)) (fun _ _ _ v17 _ => l.length - (intOf v17).toNat)
    case atStart => exact ⟨0, Nat.zero_le _, rfl, ⟨rfl⟩, ⟨Below.refl _ _⟩⟩
    case round =>
      obtain ⟨k, hk, rfl, HL, HB⟩ := hrel
      have HRk := Aside0.mk (Kd.C_below HR.out HB.out)
      have HSk := Aside0.mk (Kd.C_below HS.out HB.out)
      by_cases hlt : k < l.length
      · have hlt2 : k < m.length := by have := HLM.out; omega
        obtain ⟨ad, A4, c4, e, hx0, hx1, hx2, hx3, hx4, hx5, hx6, hx7, hc4, hC4⟩ := at_T26 HRk.out (k : Int) (by omega) (by omega)
        cases e
        obtain ⟨bd, B4, d4, e, hy0, hy1, hy2, hy3, hy4, hy5, hy6, hy7, hd4, hD4⟩ := at_T26 HSk.out (k : Int) (by omega) (by omega)
        cases e
        simp only [Int.toNat_natCast] at hx0 hx1 hx2 hx3 hx4 hx5 hx6 hx7 hy0 hy1 hy2 hy3 hy4 hy5 hy6 hy7
        have hstep : listB (l.drop k) (m.drop k) = (sameB (rd_T26 l k) (rd_T26 m k) && listB (l.drop (k + 1)) (m.drop (k + 1))) := by
          rw [List.drop_eq_getElem_cons hlt, List.drop_eq_getElem_cons hlt2, listB, rd26 l k hlt, rd26 m k hlt2]
        have hsm : (rd_T26 l k).f4.length ≤ 4398046511104 := by rw [rd26 l k hlt]; exact hl _ (List.getElem_mem hlt)
        have hyb0 := cell_alloc hy0
        have hyb1 := cell_alloc hy1
        have hyb2 := cell_alloc hy2
        have hyb3 := cell_alloc hy3
        have hyb4 := cell_alloc hy4
        have hyb5 := cell_alloc hy5
        have hyb6 := cell_alloc hy6
        have hyb7 := cell_alloc hy7
        generalize hz : rd_T26 l (k : Int) = z at *
        generalize hy : rd_T26 m (k : Int) = y at *
        have HC4 := Aside0.mk hC4
        have HD4 := Aside0.mk hD4
        have hsame := Aside0.mk (same_some z y (by omega) 5000000000000 (by omega))
        clear hC4 hD4
        go_wp2_with (go_at_call 8; refine (tokens_Same.calls 5000000000000 _ _ _ _ _ _ _ _ _ _ _ _ _ _ _ _ _ _ _ _ _ _ ?side1 hc4 ?side2 hd4 hsame.out).mono ?_; (case side1 => exact Kd.C_below HC4.out (below_alloc (below_alloc (Below.refl _ _) _) _)); (case side2 => exact Kd.C_below HD4.out (below_alloc (below_alloc (Below.refl _ _) _) _)); rintro e w' ⟨rfl, hb⟩)
        · have hq : sameB z y = false := by first | assumption | (have h9 : (!sameB z y) = true := by assumption
                                                                  simpa using h9)
          go_ret
          refine ⟨?_, below_step (below_alloc (below_alloc HB.out _) _) hb⟩
          rw [HL.out, hstep, hq]
          rfl
        · have hq : sameB z y = true := by first | assumption | (have h9 : (!sameB z y) = false := by assumption
                                                                 simpa using h9)
          go_roundw
          case measure => (first | (show l.length - (wrap64 ((k:Int)+1)).toNat < l.length - ((k:Int)).toNat; rw [wrap_id _ (by omega) (by omega)]; omega) | (show l.length - ((k:Int)+1).toNat < l.length - ((k:Int)).toNat; omega))
          case rel => exact ⟨k + 1, by omega, by go_num, ⟨by rw [HL.out, hstep, hq, Bool.true_and]⟩, ⟨below_step (below_alloc (below_alloc HB.out _) _) hb⟩⟩
      · obtain rfl : k = l.length := by omega
        go_wp2
        go_ret
        refine ⟨?_, HB.out⟩
        rw [HL.out, List.drop_length, HLM.out, List.drop_length]
        rfl
  · have hlmb : ((l.length : Int) != (m.length : Int)) = true := by rw [bne_iff_ne]; omega
    go_enter Try.func20, Try.ntmps20
    go_wp2
    go_ret
    exact ⟨by rw [listB_len l m hlm]; rfl, Below.refl _ _⟩
/-- tokens.List -/
instance (l : List S26) : Decidable (smallAttrs l) := by unfold smallAttrs; infer_instance
def tokens_List.f (l0 l1 : List S26) : Option Bool := if smallAttrs l0 then some (listB l0 l1) else none
theorem tokens_List.calls (A0 : Option Addr) (c0 : Nat) (l0 : List S26) (A1 : Option Addr) (c1 : Nat) (l1 : List S26) (r : Bool) (w : World) (hr0 : Kd.C k26 w A0 l0.length l0) (hc0 : l0.length ≤ c0) (hr1 : Kd.C k26 w A1 l1.length l1) (hc1 : l1.length ≤ c1) (h : tokens_List.f l0 l1 = some r) :
    Calls Try.prog 10 #[.slice A0 l0.length c0, .slice A1 l1.length c1] w fun e w' => e = .returned (.bool r) ∧ Below w.heap.size w w' := by
  unfold tokens_List.f at h
  split at h
  case isTrue hs =>
    obtain rfl := Option.some.inj h
    have HR := Aside0.mk hr0
    have HS := Aside0.mk hr1
    clear hr0 hr1 h
    go_enter Try.func10, Try.ntmps10
    go_wp2_with (go_at_call 20; refine (equalFunc_walk _ _ _ _ _ _ _ HR.out hc0 HS.out hc1 hs).mono ?_; rintro e w' ⟨rfl, hb⟩)
    go_ret
    exact ⟨rfl, hb⟩
  case isFalse => cases h
end Go.Proofs.Ytnecnbpnfikbkaa.P
