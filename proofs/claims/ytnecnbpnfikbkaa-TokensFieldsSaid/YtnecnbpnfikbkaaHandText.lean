/- tokens.char, tokens.Text. -/
import Derived.Test.YtnecnbpnfikbkaaPx0
import Derived.Test.YtnecnbpnfikbkaaLays
import Derived.Lib.Hide
import Derived.WalkSpells
import Derived.Laws.Runes
namespace Go.Proofs.Ytnecnbpnfikbkaa.P
open Go.RowKit Go.Proofs.YtnecnbpnfikbkaaW.PrintWords Go.Proofs.YtnecnbpnfikbkaaW.PrintLast Go.Proofs.YtnecnbpnfikbkaaW.PrintMore Go.Proofs.Ytnecnbpnfikbkaa.Shelf
set_option linter.unusedVariables false

theorem wrap_id (x : Int) (h1 : -9223372036854775808 ≤ x) (h2 : x ≤ 9223372036854775807) : wrap64 x = x := by unfold wrap64; omega
/-- the number that is written -/
def runeOf (r : Int) : Int := if 0 ≤ r ∧ r ≤ 1114111 ∧ (r < 55296 ∨ 57344 ≤ r) then r else 65533
def tokens_char.f (a0 : Int) : Option ByteArray := some (Utf8.encode (runeOf a0))

theorem char_walk (r : Int) (w : World) (q : Int) (hq : q = runeOf r) :
    Calls Try.prog 22 #[.int .i64 r] w fun e w' => e = .returned (.string (Utf8.encode q)) ∧ w = w' := by
  unfold runeOf at hq
  by_cases h1 : r < 0
  · have hr : q = 65533 := by rw [hq, if_neg (by omega)]
    clear hq; subst hr
    go_enter Try.func22, Try.ntmps22
    go_wp2
    go_ret
    exact ⟨rfl, rfl⟩
  by_cases h2 : 1114111 < r
  · have hr : q = 65533 := by rw [hq, if_neg (by omega)]
    clear hq; subst hr
    go_enter Try.func22, Try.ntmps22
    go_wp2
    go_ret
    exact ⟨rfl, rfl⟩
  by_cases h3 : 55296 ≤ r ∧ r < 57344
  · have hr : q = 65533 := by rw [hq, if_neg (by omega)]
    have he : Utf8.encode r = Utf8.encode 65533 := by
      have hv : Utf8.valid r = false := by unfold Utf8.valid; simp; omega
      have hv2 : Utf8.valid 65533 = true := by decide
      unfold Utf8.encode
      simp only [hv, hv2]
      rfl
    clear hq; subst hr
    rw [← he]
    go_enter Try.func22, Try.ntmps22
    go_wp2
    go_ret
    exact ⟨rfl, rfl⟩
  · have hr : q = r := by rw [hq, if_pos (by omega)]
    clear hq; subst hr
    go_enter Try.func22, Try.ntmps22
    go_wp2
    go_ret
    exact ⟨rfl, rfl⟩

theorem tokens_char.calls (a0 : Int) (r : ByteArray) (w : World) (h : tokens_char.f a0 = some r) :
    Calls Try.prog 22 #[.int .i64 a0] w fun e w' => e = .returned (.string r) ∧ Below w.heap.size w w' := by
  obtain rfl := Option.some.inj h
  refine (char_walk a0 w _ rfl).mono ?_
  rintro e w' ⟨rfl, rfl⟩
  exact ⟨rfl, Below.refl _ _⟩

theorem enc_le (q : Int) : (Utf8.encode q).size ≤ 4 := by
  unfold Utf8.encode
  simp only []
  repeat' split
  all_goals simp [ByteArray.size]

/-- the characters' bytes of a row's beginning -/
def textTo (l : List S26) : Nat → List UInt8
  | 0 => []
  | k + 1 => textTo l k ++ (if (rd_T26 l k).f0 = 1 then (Utf8.encode (runeOf (rd_T26 l k).f1)).data.toList else [])
theorem textTo_le (l : List S26) (k : Nat) : (textTo l k).length ≤ 4 * k := by
  induction k with
  | zero => simp [textTo]
  | succ k ih =>
    unfold textTo
    have := enc_le (runeOf (rd_T26 l k).f1)
    split
    · rw [List.length_append]
      have e : (Utf8.encode (runeOf (rd_T26 l k).f1)).data.toList.length = (Utf8.encode (runeOf (rd_T26 l k).f1)).size := Array.length_toList
      omega
    · simp; omega

theorem ws_calls (B b : Nat) (bs : List Value) (s : ByteArray) (w : World) (h : Lib.IsBuilder 46 5 B b bs w) (hlen : bs.length + s.size ≤ 140737488355328) (hBw : B ≤ w.heap.size) :
    Calls Try.prog 21 #[.pointer (some ⟨b, 0, none⟩), .string s] w fun e w' => e = .returned (.tuple #[.int .i64 s.size, .nilIface]) ∧ (Lib.BuilderAt 46 5 B b (.pointer (some ⟨b, 0, none⟩)) (bs ++ Lib.strCells s) w' ∧ Below B w w') :=
  Any.Builder_WriteString lays166 extra B b bs s w h hlen hBw
theorem bstr_calls (B b : Nat) (l : List UInt8) (w : World) (h : Lib.IsBuilder 46 5 B b (Lib.byteCells l) w) (hBw : B ≤ w.heap.size) :
    Calls Try.prog 23 #[.pointer (some ⟨b, 0, none⟩)] w fun e w' => e = .returned (.string ⟨l.toArray⟩) ∧ Below B w w' :=
  Any.Builder_String_any lays169 extra B b l w h hBw

theorem isb_alloc {T e : TypeId} {B b : Nat} {bs : List Value} {w : World} (h : Lib.IsBuilder T e B b bs w) (o : Obj) : Lib.IsBuilder T e B b bs (w.alloc o) := by
  have go : ∀ p, Lib.BuilderAt T e B b p bs w → Lib.BuilderAt T e B b p bs (w.alloc o) := by
    rintro p ⟨hB, v, hb, hown, hne⟩
    exact ⟨hB, v, blk_alloc hb o, hown.alloc _, hne⟩
  rcases h with h | h
  · exact .inl (go _ h)
  · exact .inr (go _ h)
theorem below_same {B : Nat} {a w w1 : World} (h : Below B a w) (k : Below B w w1) : Below B a w1 :=
  ⟨k.os.trans h.os, k.tape.trans h.tape, k.output.trans h.output, Nat.le_trans h.size k.size, fun i hi => (k.block i hi).trans (h.block i hi)⟩

set_option maxHeartbeats 1000000 in
theorem text_walk (A : Option Addr) (c : Nat) (l : List S26) (w : World) (hr : Kd.C k26 w A l.length l) (hc : l.length ≤ c) (hl : l.length ≤ 2000000000000) :
    Calls Try.prog 12 #[.slice A l.length c] w fun e w' => e = .returned (.string ⟨(textTo l l.length).toArray⟩) ∧ Below w.heap.size w w' := by
  have HR := Aside0.mk hr
  clear hr hc
  go_enter Try.func12, Try.ntmps12
  go_wp2
  go_loopw [5, 8] (fun v5 v8 wr => ∃ k : Nat, k ≤ l.length ∧ v8 = .int .i64 (k : Int) ∧ Aside0 (Lib.IsBuilder 46 5 w.heap.size w.heap.size (Lib.byteCells (textTo l k)) wr) ∧ Aside0 (Below w.heap.size w wr)) (fun _ v8 _ => l.length - (intOf v8).toNat)
  case atStart => exact ⟨0, Nat.zero_le _, rfl, ⟨.inl ⟨Nat.le_refl _, .slice none 0 0, heap_alloc_new w _, own_nil _ _ _ _, by simp [Value.ownBlock]⟩⟩, ⟨below_alloc (Below.refl _ _) _⟩⟩
  case round =>
    obtain ⟨k, hk, rfl, HI, HB⟩ := hrel
    have HRk := Aside0.mk (Kd.C_below HR.out HB.out)
    have hle := textTo_le l k
    by_cases hlt : k < l.length
    · obtain ⟨ad, A4, c4, e, hx0, hx1, hx2, hx3, hx4, hx5, hx6, hx7, hc4, hC4⟩ := at_T26 HRk.out (k : Int) (by omega) (by omega)
      cases e
      simp only [Int.toNat_natCast] at hx0 hx1 hx2 hx3 hx4 hx5 hx6 hx7
      have hstep : textTo l (k + 1) = textTo l k ++ (if (rd_T26 l k).f0 = 1 then (Utf8.encode (runeOf (rd_T26 l k).f1)).data.toList else []) := rfl
      have hsz := enc_le (runeOf (rd_T26 l k).f1)
      generalize hz : rd_T26 l (k : Int) = z at *
      have hbw : Aside0 (∀ o, w.heap.size ≤ (wr.alloc o).heap.size) := ⟨fun o => Nat.le_trans HB.out.size (below_alloc (Below.refl wr.heap.size wr) o).size⟩
      have hln : (Lib.byteCells (textTo l k)).length + (Utf8.encode (runeOf z.f1)).size ≤ 140737488355328 := by rw [Lib.byteCells_length]; omega
      by_cases h1 : z.f0 = 1
      · go_wp2_with (first
          | (go_at_call 22; refine (char_walk _ _ _ rfl).mono ?_; rintro e w' ⟨rfl, rfl⟩)
          | (go_at_call 21; refine (ws_calls w.heap.size w.heap.size _ _ _ (isb_alloc HI.out _) hln (hbw.out _)).mono ?_; rintro e w' ⟨rfl, hbu, hb⟩; have HU := Aside0.mk hbu; have HV := Aside0.mk (below_same (below_alloc HB.out _) hb); clear hbu hb))
        go_roundw
        case measure => (first | (show l.length - (wrap64 ((k:Int)+1)).toNat < l.length - ((k:Int)).toNat; rw [wrap_id _ (by omega) (by omega)]; omega) | (show l.length - ((k:Int)+1).toNat < l.length - ((k:Int)).toNat; omega))
        case rel => exact ⟨k + 1, by omega, by go_num, ⟨.inr (by rw [hstep, if_pos h1, Lib.byteCells_append]; exact HU.out)⟩, HV⟩
      · have h1b : (z.f0 == 1) = false := beq_eq_false_iff_ne.mpr h1
        go_wp2
        go_roundw
        case measure => (first | (show l.length - (wrap64 ((k:Int)+1)).toNat < l.length - ((k:Int)).toNat; rw [wrap_id _ (by omega) (by omega)]; omega) | (show l.length - ((k:Int)+1).toNat < l.length - ((k:Int)).toNat; omega))
        case rel => exact ⟨k + 1, by omega, by go_num, ⟨by rw [hstep, if_neg h1, List.append_nil]; exact isb_alloc HI.out _⟩, ⟨below_alloc HB.out _⟩⟩
    · obtain rfl : k = l.length := by omega
      go_wp2_with (go_at_call 23; refine (bstr_calls w.heap.size w.heap.size _ _ HI.out HB.out.size).mono ?_; rintro e w' ⟨rfl, hb⟩)
      go_ret
      exact ⟨rfl, below_same HB.out hb⟩

/-- tokens.Text -/
def tokens_Text.f (a0 : List S26) : Option ByteArray := if a0.length ≤ 2000000000000 then some ⟨(textTo a0 a0.length).toArray⟩ else none
theorem tokens_Text.calls (A0 : Option Addr) (c0 : Nat) (a0 : List S26) (r : ByteArray) (w : World) (hr0 : Kd.C k26 w A0 a0.length a0) (hc0 : a0.length ≤ c0) (h : tokens_Text.f a0 = some r) :
    Calls Try.prog 12 #[.slice A0 a0.length c0] w fun e w' => e = .returned (.string r) ∧ Below w.heap.size w w' := by
  unfold tokens_Text.f at h
  split at h
  case isTrue hs =>
    obtain rfl := Option.some.inj h
    exact text_walk A0 c0 a0 w hr0 hc0 hs
  case isFalse => cases h
end Go.Proofs.Ytnecnbpnfikbkaa.P
