/- attrs.place: the first place at which a name stands. -/
import Derived.Test.YtkmioljfjjmcpaaPx0
import Derived.Lib.Hide
import Derived.WalkSpells
namespace Go.Proofs.Ytkmioljfjjmcpaa.P
open Go.RowKit Go.Proofs.YtkmioljfjjmcpaaW.PrintWords Go.Proofs.YtkmioljfjjmcpaaW.PrintLast Go.Proofs.YtkmioljfjjmcpaaW.PrintMore
set_option linter.unusedVariables false

theorem cell_alloc {w : World} {a : Addr} {v : Value} (h : w.cell? a = some v) (o : Obj) : (w.alloc o).cell? a = some v :=
  (World.cell?_alloc_lt w o a (World.block_lt_of_cell? w a h)).trans h

/-- the closure: has an attribute the name that the closure holds? -/
theorem is_calls (a b nm : ByteArray) (p : Nat) (w : World) (hp : w.cell? ⟨p, 0, none⟩ = some (.string nm)) :
    Calls Try.prog 30 #[.agg #[.string a, .string b], .pointer (some ⟨p, 0, none⟩)] w fun e w' => e = .returned (.bool (a.toList == nm.toList)) ∧ Below w.heap.size w w' := by
  have h1 := cell_alloc hp
  go_enter Try.func30, Try.ntmps30
  go_wp2
  go_ret
  exact ⟨rfl, below_alloc (Below.refl _ _) _⟩

/-- the first place of a name, from i on -/
def placeFrom (nm : ByteArray) : List S24 → Nat → Int
  | [], _ => -1
  | x :: xs, i => if x.f0.toList = nm.toList then (i : Int) else placeFrom nm xs (i + 1)

theorem placeFrom_drop (nm : ByteArray) (l : List S24) (i : Nat) (h : i < l.length) :
    placeFrom nm (l.drop i) i = if (rd_T24 l i).f0.toList = nm.toList then (i : Int) else placeFrom nm (l.drop (i + 1)) (i + 1) := by
  rw [List.drop_eq_getElem_cons h, placeFrom]
  have : rd_T24 l i = l[i] := by simp [rd_T24, List.getD_eq_getElem?_getD, h]
  rw [this]

set_option maxHeartbeats 1000000 in
theorem find_calls (A : Option Addr) (c : Nat) (l : List S24) (nm : ByteArray) (p : Nat) (w : World) (hr : Kd.C k24 w A l.length l) (hc : l.length ≤ c) (hp : w.cell? ⟨p, 0, none⟩ = some (.string nm)) :
    Calls Try.prog 29 #[.slice A l.length c, .func (.func 30) #[] #[.pointer (some ⟨p, 0, none⟩)]] w fun e w' => e = .returned (.int .i64 (placeFrom nm l 0)) ∧ Below w.heap.size w w' := by
  have HR := Aside0.mk hr
  have HP := Aside0.mk hp
  have hmax : l.length ≤ 9223372036854775807 := hr.2.1
  clear hr hp hc
  go_enter Try.func29, Try.ntmps29
  go_wp2
  go_loopw [9] (fun v wr => ∃ k : Nat, k ≤ l.length ∧ v = .int .i64 (k : Int) ∧ Aside0 (placeFrom nm l 0 = placeFrom nm (l.drop k) k) ∧ Aside0 (Below w.heap.size w wr)) (fun v _ => l.length - (intOf v).toNat)
  case atStart => exact ⟨0, Nat.zero_le _, rfl, ⟨rfl⟩, ⟨Below.refl _ _⟩⟩
  case round =>
    obtain ⟨k, hk, rfl, hpl, HB⟩ := hrel
    have HRk := Aside0.mk (Kd.C_below HR.out HB.out)
    have HPk := Aside0.mk (pw_cell_below HB.out HP.out)
    by_cases hlt : k < l.length
    · obtain ⟨ad, e, hx0, hx1⟩ := at_T24 HRk.out (k : Int) (by omega) (by omega)
      cases e
      simp only [Int.toNat_natCast] at hx0 hx1
      have hx0a := cell_alloc hx0
      have hx1a := cell_alloc hx1
      generalize hz : rd_T24 l (k : Int) = z at *
      go_wp2_with (go_at_call 30; refine (is_calls _ _ nm p _ ?_).mono ?_; (first | exact cell_alloc HPk.out _ | skip); rintro e w' ⟨rfl, hb⟩)
      · have hq : (z.f0.toList == nm.toList) = true := by assumption
        go_ret
        refine ⟨?_, below_step (below_alloc HB.out _) hb⟩
        rw [hpl.out, placeFrom_drop _ _ _ hlt, hz, if_pos (by simpa using hq)]
        rfl
      · have hq : (z.f0.toList == nm.toList) = false := by assumption
        refine ⟨⟨k + 1, by omega, by go_num, ⟨?_⟩, ⟨below_step (below_alloc HB.out _) hb⟩⟩, by simp [intOf]; omega⟩
        rw [hpl.out, placeFrom_drop _ _ _ hlt, hz, if_neg (by simpa using hq)]
    · obtain rfl : k = l.length := by omega
      go_wp2
      go_ret
      refine ⟨?_, HB.out⟩
      rw [hpl.out, List.drop_length]
      rfl

/-- attrs.place -/
def attrs_place.f (l0 : List S24) (a1 : ByteArray) : Option Int := some (placeFrom a1 l0 0)
theorem attrs_place.calls (A0 : Option Addr) (c0 : Nat) (l0 : List S24) (a1 : ByteArray) (r : Int) (w : World) (hr0 : Kd.C k24 w A0 l0.length l0) (hc0 : l0.length ≤ c0) (h : attrs_place.f l0 a1 = some r) :
    Calls Try.prog 21 #[.slice A0 l0.length c0, .string a1] w fun e w' => e = .returned (.int .i64 r) ∧ Below w.heap.size w w' := by
  obtain rfl := Option.some.inj h
  have HR := Aside0.mk hr0
  clear hr0 h
  go_enter Try.func21, Try.ntmps21
  go_wp2_with (go_at_call 29; refine (find_calls _ _ _ a1 _ _ ?_ hc0 ?_).mono ?_; (exact Kd.C_below HR.out (below_alloc (Below.refl _ _) _)); (simp [go_sem]); rintro e w' ⟨rfl, hb⟩)
  go_ret
  exact ⟨rfl, below_step (below_alloc (Below.refl _ _) _) hb⟩
end Go.Proofs.Ytkmioljfjjmcpaa.P
