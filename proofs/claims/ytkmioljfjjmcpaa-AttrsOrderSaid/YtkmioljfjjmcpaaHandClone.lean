/- slices.Clone at a type whose elements lead to no rows: a row of the call's own with the same elements. Condition: the copy fits (its bytes are at most 2^47). -/
import Derived.Test.YtkmioljfjjmcpaaPx0
import Derived.Lib.Hide
import Derived.WalkSpells
namespace Go.Proofs.Ytkmioljfjjmcpaa.P
open Go.RowKit Go.Proofs.YtkmioljfjjmcpaaW.PrintWords Go.Proofs.YtkmioljfjjmcpaaW.PrintLast Go.Proofs.YtkmioljfjjmcpaaW.PrintMore
set_option linter.unusedVariables false

theorem cloneinfo24 : (Try.prog.info? 24).map (fun i => (i.zero, i.size, i.bytes)) = some (some (.agg #[.string ⟨#[]⟩, .string ⟨#[]⟩]), 2, 32) := by kernel_rfl

/-- what 'S{}' leaves: a row of the call's own, of no element -/
theorem clone24.empty (w : World) : Kd.R k24 24 (w.alloc (.cells #[] 24)) w.heap.size (fun _ => True) (.slice (some ⟨w.heap.size, 0, none⟩) 0 0) [] :=
  ⟨fun _ _ => trivial, [], by simpa using World.ownsRow_lit (base := w.heap.size) (e := 24) (size := k24.sz) w #[] 0 (Nat.le_refl _) (by decide) (by simp), Reps.none _ _⟩

theorem clone24.some_ (ad : Addr) (c : Nat) (l : List S24) (w : World) (hr : Kd.C k24 w (some ad) l.length l) (hl : l.length * 32 ≤ 140737488355328) :
    Calls Try.prog 22 #[.slice (some ad) l.length c] w fun e w' => ∃ v0_ : Value, e = .returned (v0_) ∧ Kd.R k24 24 w' w.heap.size (fun _ => True) v0_ l ∧ Below w.heap.size w w' := by
  have hn := fun W => Lib.run_eql_slice_nil (P := Try.prog) W 22 24 (some ad) l.length c 0 0 Try.underlying22
  have HR := Aside0.mk hr
  clear hr
  go_enter Try.func22, Try.ntmps22
  go_wp2_with (at_builtin; refine Kd.R_append_rows k24 (w0 := w) w.heap.size rfl (.tmp 5) (.tmp 6) 22 24 (.agg #[.string ⟨#[]⟩, .string ⟨#[]⟩]) 32 rfl Try.underlying22 cloneinfo24 rfl (by decide) (by omega) (.slice (some ⟨w.heap.size, 0, none⟩) 0 0) [] l _ _ _ (fun _ => True) (fun _ => False) rfl rfl ?aO ?aR (fun _ _ h => h) (fun _ h => h.elim) ?aF ?aB ?aS ?aL ?_; (case aO => exact clone24.empty w); (case aR => exact Kd.C_alloc HR.out _); (case aF => exact (fun _ _ => trivial)); (case aB => exact below_alloc (Below.refl _ _) _); (case aS => exact (below_alloc (Below.refl _ _) _).size); (case aL => simpa using hl); intro v1 w1 ho hb hg hat)
  go_ret
  exact ⟨_, rfl, by simpa using ho, hb⟩

def api_Attr_22.f (l0 : List S24) : Option (List S24) := if l0.length * 32 ≤ 140737488355328 then some l0 else none
theorem api_Attr_22.calls (A0 : Option Addr) (c0 : Nat) (l0 : List S24) (r : List S24) (w : World) (hr0 : Kd.C k24 w A0 l0.length l0) (hc0 : l0.length ≤ c0) (h : api_Attr_22.f l0 = some r) :
    Calls Try.prog 22 #[.slice A0 l0.length c0] w fun e w' => ∃ v0_ : Value, e = .returned (v0_) ∧ Kd.R k24 24 w' w.heap.size (fun _ => True) v0_ r ∧ Below w.heap.size w w' := by
  unfold api_Attr_22.f at h
  by_cases hl : l0.length * 32 ≤ 140737488355328
  · rw [if_pos hl] at h
    obtain rfl := Option.some.inj h
    cases A0 with
    | some ad => exact clone24.some_ ad c0 l0 w hr0 hl
    | none =>
      have hz : l0.length = 0 := by
        rcases Nat.eq_zero_or_pos l0.length with h0 | h0
        · exact h0
        · obtain ⟨ad, h1, _⟩ := hr0.2.2 h0
          cases h1
      obtain rfl : l0 = [] := List.eq_nil_of_length_eq_zero hz
      have hn := fun W => Lib.run_eql_slice_nil (P := Try.prog) W 22 24 none 0 c0 0 0 Try.underlying22
      clear h hr0
      go_enter Try.func22, Try.ntmps22
      go_wp2
      go_ret
      exact ⟨_, rfl, Kd.R_nil _ _ _ _ _, Below.refl _ _⟩
  · rw [if_neg hl] at h; cases h
end Go.Proofs.Ytkmioljfjjmcpaa.P
