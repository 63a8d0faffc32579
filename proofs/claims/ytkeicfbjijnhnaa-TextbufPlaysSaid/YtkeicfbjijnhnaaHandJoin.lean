/- strings.Builder's Write, textbuf.join. -/
import Derived.Test.YtkeicfbjijnhnaaPx0
import Derived.Test.YtkeicfbjijnhnaaLays
import Derived.Test.YtkeicfbjijnhnaaBlk
import Derived.Lib.Hide
import Derived.WalkSpells
namespace Go.Proofs.Ytkeicfbjijnhnaa.P
open Go.RowKit Go.Proofs.YtkeicfbjijnhnaaW.PrintWords Go.Proofs.YtkeicfbjijnhnaaW.PrintLast Go.Proofs.YtkeicfbjijnhnaaW.PrintMore Go.Proofs.Ytkeicfbjijnhnaa.Shelf Go.Proofs.Ytkeicfbjijnhnaa.Blk
set_option linter.unusedVariables false

theorem wrap_id (x : Int) (h1 : -9223372036854775808 ≤ x) (h2 : x ≤ 9223372036854775807) : wrap64 x = x := by unfold wrap64; omega
/-- bytes as whole numbers -/
def num (l : List UInt8) : List Int := l.map fun b => (b.toNat : Int)
theorem num_length (l : List UInt8) : (num l).length = l.length := by simp [num]
theorem num_append (l m : List UInt8) : num (l ++ m) = num l ++ num m := by simp [num]
theorem nums_num (l : List UInt8) : nums .u8 (num l) = Lib.byteCells l := by simp [nums, num, Lib.byteCells]
abbrev kB : Kd Int := Kd.int .u8
abbrev kP : Kd (List Int) := Kd.slice 5 kB
abbrev kR : Kd (List (List Int)) := Kd.slice 53 kP
theorem reads_num {w : World} {A : Option Addr} {n : Nat} {xs : List Int} (h : Kd.C kB w A n xs) : ReadsInt w .u8 A n xs := by
  refine ⟨h.1, h.2.1, fun hp => ?_⟩
  obtain ⟨ad, e, _⟩ := h.2.2 hp
  subst e
  refine ⟨ad, rfl, fun j hj => ?_⟩
  have := Kd.foot_int h (j : Int) (by omega) (by omega)
  simpa [rd] using this

theorem copy_calls (B b : Nat) (bs : List Value) (w : World) (h : Lib.IsBuilder 62 5 B b bs w) :
    Calls Try.prog 24 #[.pointer (some ⟨b, 0, none⟩)] w fun e w' => e = .returned (.tuple #[]) ∧ (Lib.BuilderAt 62 5 B b (.pointer (some ⟨b, 0, none⟩)) bs w' ∧ Below B w w') :=
  Any.Builder_copyCheck lays240 extra.toX72 B b bs w h
theorem bstr_calls (B b : Nat) (l : List UInt8) (w : World) (h : Lib.IsBuilder 62 5 B b (Lib.byteCells l) w) (hBw : B ≤ w.heap.size) :
    Calls Try.prog 23 #[.pointer (some ⟨b, 0, none⟩)] w fun e w' => e = .returned (.string ⟨l.toArray⟩) ∧ Below B w w' :=
  Any.Builder_String_any lays169 extra B b l w h hBw

theorem info5 : (Try.prog.info? 5).map (fun i => (i.zero, i.size, i.bytes)) = some (some (.int .u8 0), 1, 1) := by kernel_rfl

set_option maxHeartbeats 2000000 in
set_option maxRecDepth 100000 in
theorem write_calls (B b : Nat) (l0 l : List UInt8) (A : Option Addr) (c : Nat) (w : World) (h : Lib.IsBuilder 62 5 B b (Lib.byteCells l0) w) (hr : ∀ W, Below B w W → Kd.C kB W A l.length (num l)) (hlen : l0.length + l.length ≤ 140737488355328) (hBw : B ≤ w.heap.size) :
    Calls Try.prog 22 #[.pointer (some ⟨b, 0, none⟩), .slice A l.length c] w fun e w' => e = .returned (.tuple #[.int .i64 l.length, .nilIface]) ∧ (Lib.BuilderAt 62 5 B b (.pointer (some ⟨b, 0, none⟩)) (Lib.byteCells (l0 ++ l)) w' ∧ Below B w w') := by
  have HR := Aside0.mk hr
  clear hr
  go_enter Try.func22, Try.ntmps22
  go_wp2_with (go_at_call 24; refine (copy_calls B b _ _ h).mono ?_)
  rintro e w1 ⟨rfl, h1, hb1⟩
  obtain ⟨hB, v, hbk, hown, hne⟩ := h1
  have c0 : w1.cell? ⟨b, 0, none⟩ = some (.pointer (some ⟨b, 0, none⟩)) := by rw [Lib.cell_of_heap hbk]; rfl
  have c1 : w1.cell? ⟨b, 1, none⟩ = some v := by rw [Lib.cell_of_heap hbk]; rfl
  have HO := Aside0.mk hown
  have HB1 := Aside0.mk hb1
  have HK := Aside0.mk hbk
  clear hown
  go_wp2_with (at_builtin; refine print_append_row (w0 := w) B rfl (.tmp 12) (.tmp 13) 52 5 .u8 1 rfl Try.underlying52 info5 (by decide) v (num l0) (num l) A l.length c rfl rfl ?aO ?aR ?aB ?aS ?aL ?_)
  case aO => rw [num_length, nums_num]; have := HO.out; rwa [Lib.byteCells_length] at this
  case aR => exact reads_num (HR.out _ hb1)
  case aB => exact hb1
  case aS => have := hb1.size; omega
  case aL => rw [num_length]; omega
  intro v' w2 hown' hb2 hgrow hat
  have hlt : b < w1.heap.size := by
    rcases Nat.lt_or_ge b w1.heap.size with h' | h'
    · exact h'
    · simp [Array.getElem?_eq_none h'] at hbk
  have hk2 : w2.heap[b]? = some (.cells #[.pointer (some ⟨b, 0, none⟩), v] 62 (0, 0)) := by
    rw [hgrow.block b hlt (fun e => hne e.symm)]
    exact hbk
  have d0 : w2.cell? ⟨b, 0, none⟩ = some (.pointer (some ⟨b, 0, none⟩)) := by rw [Lib.cell_of_heap hk2]; rfl
  have d1 : w2.cell? ⟨b, 1, none⟩ = some v := by rw [Lib.cell_of_heap hk2]; rfl
  have f1 : w2.frozen? ⟨b, 1, none⟩ = false := Lib.frozen_of_heap hk2 1
  obtain ⟨ao, n', cap, rfl⟩ : ∃ ao n' cap, v' = .slice ao n' cap := by
    rcases hown'.2 with ⟨hv, _⟩ | ⟨g, cap, cur, hv, _⟩
    · exact ⟨_, _, _, hv⟩
    · exact ⟨_, _, _, hv⟩
  have HO2 := Aside0.mk hown'
  have HB2 := Aside0.mk hb2
  clear hown' hb2 hgrow hat
  go_wp2
  go_ret2
  refine ⟨rfl, ?_, ?_⟩
  · have ho : w2.ownsRow B 5 1 (.slice ao n' cap) (l0 ++ l).length (Lib.byteCells (l0 ++ l)) := by
      have := HO2.out
      rw [← num_append, nums_num, num_length, num_length] at this
      rwa [List.length_append]
    exact Lib.BuilderAt.put (T := 62) (e := 5) hB hk2 (bs' := Lib.byteCells (l0 ++ l)) (by rw [Lib.byteCells_length]; exact ho) (by decide)
  · exact HB2.out.setCell (p := ⟨b, 1, none⟩) hB _

/-- piece k -/
theorem at_P {w : World} {A : Option Addr} {n : Nat} {P : List (List UInt8)} (h : Kd.C kP w A n (P.map num)) (k : Nat) (hk : k < P.length) :
    ∃ ad A1 c1, A = some ad ∧ w.cell? (ad.add k) = some (.slice A1 (P.getD k []).length c1) ∧ (P.getD k []).length ≤ c1 ∧ Kd.C kB w A1 (P.getD k []).length (num (P.getD k [])) := by
  have hn : (P.map num).length = n := h.1
  rw [List.length_map] at hn
  obtain ⟨ad, c, e, hcl, hK, hcc⟩ := Kd.C_get h [] (k : Int) (by omega) (by omega)
  obtain ⟨A1, c1, rfl, hl, hC⟩ := hK
  have hx : (P.map num).getD (k : Int).toNat [] = num (P.getD k []) := by
    simp [List.getD_eq_getElem?_getD, List.getElem?_eq_getElem hk]
  rw [hx] at hl hC
  rw [num_length] at hl hC
  refine ⟨ad, A1, c1, e, ?_, hl, hC⟩
  have := hcc 0 _ rfl
  rw [hx, num_length] at this
  have hs : kP.sz = 1 := rfl
  simpa [hs] using this

theorem isb_alloc {T e : TypeId} {B b : Nat} {bs : List Value} {w : World} (h : Lib.IsBuilder T e B b bs w) (o : Obj) : Lib.IsBuilder T e B b bs (w.alloc o) := by
  have go : ∀ p, Lib.BuilderAt T e B b p bs w → Lib.BuilderAt T e B b p bs (w.alloc o) := by
    rintro p ⟨hB, v, hb, hown, hne⟩
    exact ⟨hB, v, blk_alloc hb o, hown.alloc _, hne⟩
  rcases h with h | h
  · exact .inl (go _ h)
  · exact .inr (go _ h)
theorem below_same {B : Nat} {a w w1 : World} (h : Below B a w) (k : Below B w w1) : Below B a w1 :=
  ⟨k.os.trans h.os, k.tape.trans h.tape, k.output.trans h.output, Nat.le_trans h.size k.size, fun i hi => (k.block i hi).trans (h.block i hi)⟩

/-- the bytes of the first k pieces -/
def upto (P : List (List UInt8)) (k : Nat) : List UInt8 := (P.take k).flatten
theorem upto_step (P : List (List UInt8)) (k : Nat) (hk : k < P.length) : upto P (k + 1) = upto P k ++ P.getD k [] := by
  unfold upto
  rw [List.take_add_one, List.getElem?_eq_getElem hk, List.flatten_append]
  simp [List.getD_eq_getElem?_getD, List.getElem?_eq_getElem hk]
theorem upto_le (P : List (List UInt8)) (k : Nat) : (upto P k).length ≤ P.flatten.length := by
  have h : P.flatten = upto P k ++ (P.drop k).flatten := by unfold upto; rw [← List.flatten_append, List.take_append_drop]
  rw [h, List.length_append]
  omega
theorem upto_all (P : List (List UInt8)) : upto P P.length = P.flatten := by unfold upto; rw [List.take_length]
theorem upto_zero (P : List (List UInt8)) : upto P 0 = [] := rfl

set_option maxHeartbeats 2000000 in
theorem join_calls (A : Option Addr) (n c : Nat) (P : List (List UInt8)) (w : World) (hn : n = P.length) (hr : Kd.C kP w A n (P.map num)) (hl : P.flatten.length ≤ 1000000000) :
    Calls Try.prog 20 #[.slice A n c] w fun e w' => e = .returned (.string ⟨P.flatten.toArray⟩) ∧ Below w.heap.size w w' := by
  subst hn
  have HR := Aside0.mk hr
  have hsz : P.length ≤ 9223372036854775807 := hr.2.1
  clear hr
  go_enter Try.func20, Try.ntmps20
  go_wp2
  go_loopw [5, 8] (fun v5 v8 wr => ∃ k : Nat, k ≤ P.length ∧ v8 = .int .i64 (k : Int) ∧ Aside0 (Lib.IsBuilder 62 5 w.heap.size w.heap.size (Lib.byteCells (upto P k)) wr) ∧ Aside0 (Below w.heap.size w wr)) (fun _ v8 _ => P.length - (intOf v8).toNat)
  case atStart => exact ⟨0, Nat.zero_le _, rfl, ⟨.inl ⟨Nat.le_refl _, .slice none 0 0, heap_alloc_new w _, own_nil _ _ _ _, by simp [Value.ownBlock]⟩⟩, ⟨below_alloc (Below.refl _ _) _⟩⟩
  case round =>
    obtain ⟨k, hk, rfl, HI, HB⟩ := hrel
    have hle := upto_le P k
    by_cases hlt : k < P.length
    · have HRk := Aside0.mk (Kd.C_below HR.out HB.out)
      obtain ⟨ad, A1, c1, e, hx, hc1, hC1⟩ := at_P HRk.out k hlt
      have HC := Aside0.mk (fun W (hW : Below w.heap.size wr W) => (by
        obtain ⟨ad', A1', c1', e', hx', _, hC'⟩ := at_P HR.out k hlt
        rw [e] at e'
        injection e' with e'
        subst e'
        have h2 := pw_cell_below HB.out hx'
        rw [hx] at h2
        injection h2 with h2
        injection h2 with h2
        subst h2
        exact Kd.C_below hC' (below_same HB.out hW) : Kd.C kB W A1 (P.getD k []).length (num (P.getD k []))))
      cases e
      have hstep := upto_step P k hlt
      have hle2 := upto_le P (k + 1)
      rw [hstep, List.length_append] at hle2
      generalize hz : P.getD k [] = z at *
      clear hC1
      go_wp2_with (go_at_call 22; refine (write_calls w.heap.size w.heap.size (upto P k) z A1 c1 _ HI.out HC.out (by omega) HB.out.size).mono ?_; rintro e w' ⟨rfl, hbu, hb⟩; have HU := Aside0.mk hbu; have HV := Aside0.mk (below_same HB.out hb); clear hbu hb)
      go_roundw
      case measure => (first | (show P.length - (wrap64 ((k:Int)+1)).toNat < P.length - ((k:Int)).toNat; rw [wrap_id _ (by omega) (by omega)]; omega) | (show P.length - ((k:Int)+1).toNat < P.length - ((k:Int)).toNat; omega))
      case rel => exact ⟨k + 1, by omega, by go_num, ⟨.inr (by rw [hstep]; exact HU.out)⟩, HV⟩
    · obtain rfl : k = P.length := by omega
      rw [upto_all] at HI
      go_wp2_with (go_at_call 23; refine (bstr_calls w.heap.size w.heap.size _ _ HI.out HB.out.size).mono ?_; rintro e w' ⟨rfl, hb⟩)
      go_ret
      exact ⟨rfl, below_same HB.out hb⟩
end Go.Proofs.Ytkeicfbjijnhnaa.P
