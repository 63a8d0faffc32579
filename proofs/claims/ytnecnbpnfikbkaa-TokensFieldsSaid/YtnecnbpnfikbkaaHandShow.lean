/- tokens.Show of a character reference '<' and of a start tag. -/
import Derived.Test.YtnecnbpnfikbkaaHandText
namespace Go.Proofs.Ytnecnbpnfikbkaa.P
open Go.RowKit Go.Proofs.YtnecnbpnfikbkaaW.PrintWords Go.Proofs.YtnecnbpnfikbkaaW.PrintLast Go.Proofs.YtnecnbpnfikbkaaW.PrintMore Go.Proofs.Ytnecnbpnfikbkaa.Shelf
set_option linter.unusedVariables false

/-- an attribute's bytes -/
def attrBytes (a : S31) : List UInt8 := ((((⟨#[32]⟩ : ByteArray) ++ a.f0) ++ ⟨#[61, 34]⟩) ++ a.f1 ++ ⟨#[34]⟩).data.toList
def showTo (l : List S31) : Nat → List UInt8
  | 0 => []
  | k + 1 => showTo l k ++ attrBytes (rd_T31 l k)

theorem attrBytes_le (a : S31) (h0 : a.f0.size ≤ 1000) (h1 : a.f1.size ≤ 1000) : (attrBytes a).length ≤ 2004 := by
  unfold attrBytes
  have e : ∀ b : ByteArray, b.data.toList.length = b.size := fun b => Array.length_toList
  rw [e]
  simp only [ByteArray.size_append]
  have q1 : (⟨#[32]⟩ : ByteArray).size = 1 := rfl
  have q2 : (⟨#[61, 34]⟩ : ByteArray).size = 2 := rfl
  have q3 : (⟨#[34]⟩ : ByteArray).size = 1 := rfl
  omega
theorem showTo_le (l : List S31) (ha : ∀ a, a ∈ l → a.f0.size ≤ 1000 ∧ a.f1.size ≤ 1000) (k : Nat) (hk : k ≤ l.length) : (showTo l k).length ≤ 2004 * k := by
  induction k with
  | zero => simp [showTo]
  | succ k ih =>
    have e : rd_T31 l (k : Int) = l[k] := by simp [rd_T31, List.getD_eq_getElem?_getD, show k < l.length by omega]
    have := attrBytes_le l[k] (ha _ (List.getElem_mem _)).1 (ha _ (List.getElem_mem _)).2
    rw [showTo, e, List.length_append]
    have := ih (by omega)
    omega
theorem box_kept {w w1 : World} {o o' : Obj} (hb : Below (w.heap.size + 1) ((w.alloc o).alloc o') w1) : w1.heap[w.heap.size]? = some o :=
  (hb.block _ (Nat.lt_succ_self _)).trans (blk_alloc (heap_alloc_new w o) o')

/-- tokens.Show: known at '[lt]' and at one start tag -/
def tokens_Show.f (a0_0 a0_1 : Int) (a0_2 a0_3 : ByteArray) (l0_4 : List S31) (a0_5 : Bool) (a0_6 a0_7 : Int) : Option ByteArray :=
  if a0_0 = 1 ∧ a0_1 = 60 then some ⟨#[91, 108, 116, 93]⟩
  else if a0_0 = 2 ∧ a0_5 = false ∧ a0_2.size ≤ 1000 ∧ l0_4.length ≤ 1000 ∧ (∀ a, a ∈ l0_4 → a.f0.size ≤ 1000 ∧ a.f1.size ≤ 1000) then some ((⟨((((⟨#[60]⟩ : ByteArray) ++ a0_2).data.toList) ++ showTo l0_4 l0_4.length).toArray⟩ ++ ⟨#[]⟩) ++ ⟨#[62]⟩)
  else none

theorem bstr_calls2 (B b : Nat) (s : ByteArray) (w : World) (h : Lib.IsBuilder 46 5 B b (Lib.byteCells s.data.toList) w) (hBw : B ≤ w.heap.size) :
    Calls Try.prog 23 #[.pointer (some ⟨b, 0, none⟩)] w fun e w' => e = .returned (.string s) ∧ Below B w w' := bstr_calls B b _ w h hBw
set_option maxRecDepth 10000 in
theorem tokens_Show.calls (a0_0 a0_1 : Int) (a0_2 a0_3 : ByteArray) (A0_4 : Option Addr) (c0_4 : Nat) (l0_4 : List S31) (a0_5 : Bool) (a0_6 a0_7 : Int) (r : ByteArray) (w : World) (hr0_4 : Kd.C k31 w A0_4 l0_4.length l0_4) (hc0_4 : l0_4.length ≤ c0_4) (h : tokens_Show.f a0_0 a0_1 a0_2 a0_3 l0_4 a0_5 a0_6 a0_7 = some r) :
    Calls Try.prog 16 #[.agg #[.int .i64 a0_0, .int .i64 a0_1, .string a0_2, .string a0_3, .slice A0_4 l0_4.length c0_4, .bool a0_5, .int .i64 a0_6, .int .i64 a0_7]] w fun e w' => e = .returned (.string r) ∧ Below w.heap.size w w' := by
  unfold tokens_Show.f at h
  have HR := Aside0.mk hr0_4
  clear hr0_4
  by_cases h1 : a0_0 = 1 ∧ a0_1 = 60
  · rw [if_pos h1] at h
    obtain rfl := Option.some.inj h
    obtain ⟨rfl, rfl⟩ := h1
    clear h
    cases a0_5
    · go_enter Try.func16, Try.ntmps16
      go_wp2
      go_ret
      exact ⟨rfl, below_alloc (Below.refl _ _) _⟩
    · go_enter Try.func16, Try.ntmps16
      go_wp2
      go_ret
      exact ⟨rfl, below_alloc (Below.refl _ _) _⟩
  rw [if_neg h1] at h
  split at h
  case isFalse => cases h
  case isTrue h2 =>
    obtain ⟨rfl, rfl, hn, hl, ha⟩ := h2
    obtain rfl := Option.some.inj h
    clear h h1
    have hb0 : ∀ (o : Obj) (w0 : World), w0 = w.alloc o → Lib.IsBuilder 46 5 (w.heap.size + 1) (w.heap.size + 1) [] (w0.alloc (.cells #[.pointer none, .slice none 0 0] 46)) := by
      rintro o w0 rfl
      refine .inl ⟨by omega, .slice none 0 0, ?_, own_nil _ _ _ _, by simp [Value.ownBlock]⟩
      have := heap_alloc_new (w.alloc o) (.cells #[.pointer none, .slice none 0 0] 46)
      simpa using this
    have hsz : ([] : List Value).length + ((⟨#[60]⟩ : ByteArray) ++ a0_2).size ≤ 140737488355328 := by
      rw [ByteArray.size_append]
      have : (⟨#[60]⟩ : ByteArray).size = 1 := rfl
      simp only [List.length_nil]
      omega
    have hbw : ∀ o o', w.heap.size + 1 ≤ ((w.alloc o).alloc o').heap.size := fun o o' => by simp
    have hle := Aside0.mk (fun k hk => showTo_le l0_4 ha k hk)
    have HA := Aside0.mk ha
    clear ha
    · go_enter Try.func16, Try.ntmps16
      go_wp2_with (go_at_call 21; refine (ws_calls (w.heap.size + 1) (w.heap.size + 1) [] _ _ (hb0 _ _ rfl) hsz (hbw _ _)).mono ?_; rintro e w1 ⟨rfl, hu, hb⟩; have HU := Aside0.mk hu; have HV := Aside0.mk hb; have k4 := (show w1.cell? ⟨w.heap.size, 4, none⟩ = some (.slice A0_4 l0_4.length c0_4) from (blk_cell (box_kept hb) 4).trans rfl); clear hu hb hb0)
      go_loopw [6, 52] (fun v6 v52 wr => ∃ k : Nat, k ≤ l0_4.length ∧ v52 = .int .i64 (k : Int) ∧ Aside0 (Lib.IsBuilder 46 5 (w.heap.size + 1) (w.heap.size + 1) (Lib.byteCells (((⟨#[60]⟩ : ByteArray) ++ a0_2).data.toList ++ showTo l0_4 k)) wr) ∧ Aside0 (Below w.heap.size w wr) ∧ Aside0 (w.heap.size + 1 ≤ wr.heap.size)) (fun _ v52 _ => l0_4.length - (intOf v52).toNat)
      case atStart => exact ⟨0, Nat.zero_le _, rfl, ⟨.inr (by have h9 := HU.out; rw [List.nil_append, Lib.strCells_eq] at h9; rw [showTo, List.append_nil]; exact h9)⟩, ⟨below_same (below_alloc (below_alloc (Below.refl _ _) _) _) (HV.out.mono (by omega))⟩, ⟨by have := HV.out.size; simp at this; omega⟩⟩
      case round =>
        obtain ⟨k, hk, rfl, HI, HB, HZ⟩ := hrel
        have HRk := Aside0.mk (Kd.C_below HR.out HB.out)
        by_cases hlt : k < l0_4.length
        · obtain ⟨ad, e, hx0, hx1⟩ := at_T31 HRk.out (k : Int) (by omega) (by omega)
          cases e
          simp only [Int.toNat_natCast] at hx0 hx1
          have hstep : showTo l0_4 (k + 1) = showTo l0_4 k ++ attrBytes (rd_T31 l0_4 k) := rfl
          have hz01 : (rd_T31 l0_4 (k : Int)).f0.size ≤ 1000 ∧ (rd_T31 l0_4 (k : Int)).f1.size ≤ 1000 := by
            have : rd_T31 l0_4 (k : Int) = l0_4[k] := by simp [rd_T31, List.getD_eq_getElem?_getD, hlt]
            rw [this]; exact HA.out _ (List.getElem_mem hlt)
          generalize hz : rd_T31 l0_4 (k : Int) = z at *
          have s1 : ((⟨#[32]⟩ : ByteArray) ++ z.f0).size ≤ 1001 := by rw [ByteArray.size_append]; have : (⟨#[32]⟩ : ByteArray).size = 1 := rfl; omega
          have s2 : (((⟨#[32]⟩ : ByteArray) ++ z.f0) ++ ⟨#[61, 34]⟩).size ≤ 1003 := by rw [ByteArray.size_append]; have : (⟨#[61, 34]⟩ : ByteArray).size = 2 := rfl; omega
          have s3 : ((((⟨#[32]⟩ : ByteArray) ++ z.f0) ++ ⟨#[61, 34]⟩) ++ z.f1).size ≤ 2003 := by rw [ByteArray.size_append]; omega
          have s4 : (((((⟨#[32]⟩ : ByteArray) ++ z.f0) ++ ⟨#[61, 34]⟩) ++ z.f1) ++ ⟨#[34]⟩).size ≤ 2004 := by rw [ByteArray.size_append]; have : (⟨#[34]⟩ : ByteArray).size = 1 := rfl; omega
          have hln : (Lib.byteCells (((⟨#[60]⟩ : ByteArray) ++ a0_2).data.toList ++ showTo l0_4 k)).length + (((((⟨#[32]⟩ : ByteArray) ++ z.f0) ++ ⟨#[61, 34]⟩) ++ z.f1) ++ ⟨#[34]⟩).size ≤ 140737488355328 := by
            have h7 := hle.out k hk
            have h8 : (((⟨#[60]⟩ : ByteArray) ++ a0_2).data.toList).length = 1 + a0_2.size := by
              have e : (((⟨#[60]⟩ : ByteArray) ++ a0_2).data.toList).length = ((⟨#[60]⟩ : ByteArray) ++ a0_2).size := Array.length_toList
              rw [e, ByteArray.size_append]; rfl
            rw [Lib.byteCells_length, List.length_append, h8]
            omega
          have hBw : Aside0 (∀ o, w.heap.size + 1 ≤ (wr.alloc o).heap.size) := ⟨fun o => by have := HB.out.size; simp; omega⟩
          go_wp2_with (go_at_call 21; refine (ws_calls (w.heap.size + 1) (w.heap.size + 1) _ _ _ (isb_alloc HI.out _) hln (hBw.out _)).mono ?_; rintro e w' ⟨rfl, hbu, hb⟩; have HU2 := Aside0.mk hbu; have HV2 := Aside0.mk hb; clear hbu hb)
          go_roundw
          case measure => (first | (show l0_4.length - (wrap64 ((k:Int)+1)).toNat < l0_4.length - ((k:Int)).toNat; rw [wrap_id _ (by omega) (by omega)]; omega) | (show l0_4.length - ((k:Int)+1).toNat < l0_4.length - ((k:Int)).toNat; omega))
          case rel =>
            refine ⟨k + 1, by omega, by go_num, ⟨.inr ?_⟩, ⟨below_same (below_alloc HB.out _) (HV2.out.mono (by omega))⟩, ⟨by have := HV2.out.size; have := HZ.out; simp at *; omega⟩⟩
            rw [hstep, ← List.append_assoc, Lib.byteCells_append]
            have h9 := HU2.out
            rw [Lib.strCells_eq] at h9
            exact h9
        · obtain rfl : k = l0_4.length := by omega
          have h7 := hle.out l0_4.length (Nat.le_refl _)
          have h8 : (((⟨#[60]⟩ : ByteArray) ++ a0_2).data.toList).length = 1 + a0_2.size := by
            have e : (((⟨#[60]⟩ : ByteArray) ++ a0_2).data.toList).length = ((⟨#[60]⟩ : ByteArray) ++ a0_2).size := Array.length_toList
            rw [e, ByteArray.size_append]; rfl
          obtain ⟨s, hs1, hs2⟩ : ∃ s : ByteArray, s = ⟨((((⟨#[60]⟩ : ByteArray) ++ a0_2).data.toList) ++ showTo l0_4 l0_4.length).toArray⟩ ∧ s.size ≤ 3000000 := ⟨_, rfl, by
            show (((((⟨#[60]⟩ : ByteArray) ++ a0_2).data.toList) ++ showTo l0_4 l0_4.length).toArray).size ≤ 3000000
            rw [List.size_toArray, List.length_append, h8]; omega⟩
          have HI2 : Aside0 (Lib.IsBuilder 46 5 (w.heap.size + 1) (w.heap.size + 1) (Lib.byteCells s.data.toList) wr) := ⟨by rw [hs1]; exact HI.out⟩
          have HS1 := Lib.hid hs1
          clear hs1 h7 h8 HI
          go_wp2_with (go_at_call 23; refine (bstr_calls2 (w.heap.size + 1) (w.heap.size + 1) _ _ HI2.out HZ.out).mono ?_; rintro e w' ⟨rfl, hb⟩; have HB2 := Aside0.mk hb; clear hb)
          have e1 : (s ++ (⟨#[]⟩ : ByteArray)).size = s.size := by rw [ByteArray.size_append]; rfl
          have e2 : ((s ++ (⟨#[]⟩ : ByteArray)) ++ ⟨#[62]⟩).size = s.size + 1 := by rw [ByteArray.size_append, e1]; rfl
          go_wp2
          go_ret
          exact ⟨by rw [HS1.out]; rfl, below_same HB.out (HB2.out.mono (by omega))⟩
end Go.Proofs.Ytnecnbpnfikbkaa.P
