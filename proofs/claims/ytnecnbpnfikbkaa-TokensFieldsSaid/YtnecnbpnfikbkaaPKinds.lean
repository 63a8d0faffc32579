-- Printed by the session's driver printx.py over the kit's print; Lean checks it.
import Derived.Test.YtnecnbpnfikbkaaPx0
import Derived.Test.YtnecnbpnfikbkaaOpen
import Derived.KernelRfl
set_option linter.unusedVariables false
namespace Go.Proofs.Ytnecnbpnfikbkaa.P
open Go.RowKit Go.Proofs.YtnecnbpnfikbkaaW.PrintWords Go.Proofs.Ytnecnbpnfikbkaa.Open

def ok31 (x : S31) : Prop := x.f0.size ≤ 140737488351232 ∧ x.f1.size ≤ 140737488351232
theorem opens31 (N : Nat) : Opens Try.prog N 31 k31 ok31 :=
  (opens_iso (fun a => (⟨a.1, a.2⟩ : S31)) (fun _ => rfl) (opens_struct_any Try.underlying31 (by kernel_rfl) (fun N => (opensL_cons rfl (by kernel_rfl) (opens_string (Try.underlying9) N) (opensL_one rfl (by kernel_rfl) (opens_string (Try.underlying9) N)))) N)).imp (fun _ h => h)
def ok24 (x : S24) : Prop := (Lit.int .i64 x.f0).wf = true ∧ (Lit.int .i64 x.f1).wf = true
theorem opens24 (N : Nat) : Opens Try.prog N 24 k24 ok24 :=
  (opens_iso (fun a => (⟨a.1, a.2⟩ : S24)) (fun _ => rfl) (opens_struct_any Try.underlying24 (by kernel_rfl) (fun N => (opensL_cons rfl (by kernel_rfl) (opens_int (Try.underlying3) N) (opensL_one rfl (by kernel_rfl) (opens_int (Try.underlying3) N)))) N)).imp (fun _ h => h)
def ok26 (x : S26) : Prop := (Lit.int .i64 x.f0).wf = true ∧ (Lit.int .i64 x.f1).wf = true ∧ x.f2.size ≤ 140737488351232 ∧ x.f3.size ≤ 140737488351232 ∧ (x.f4.length * 32 ≤ 140737488351232 ∧ ∀ y ∈ x.f4, ok31 y) ∧ True ∧ ok24 x.f6
theorem opens26 (N : Nat) : Opens Try.prog N 26 k26 ok26 :=
  (opens_iso (fun a => (⟨a.1, a.2.1, a.2.2.1, a.2.2.2.1, a.2.2.2.2.1, a.2.2.2.2.2.1, a.2.2.2.2.2.2⟩ : S26)) (fun _ => rfl) (opens_struct_any Try.underlying26 (by kernel_rfl) (fun N => (opensL_cons rfl (by kernel_rfl) (opens_int (Try.underlying3) N) (opensL_cons rfl (by kernel_rfl) (opens_int (Try.underlying3) N) (opensL_cons rfl (by kernel_rfl) (opens_string (Try.underlying9) N) (opensL_cons rfl (by kernel_rfl) (opens_string (Try.underlying9) N) (opensL_cons rfl (by kernel_rfl) (opens_slice (B := 32) (Try.underlying22) (by kernel_rfl) (by kernel_rfl) (opens31 N)) (opensL_cons rfl (by kernel_rfl) (opens_bool (Try.underlying4) N) (opensL_one rfl (by kernel_rfl) (opens24 N))))))))) N)).imp (fun _ h => h)
end Go.Proofs.Ytnecnbpnfikbkaa.P
