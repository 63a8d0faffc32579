-- Printed by the session's driver printx.py over the kit's print; Lean checks it.
import Derived.Test.YtkidfbapnkegmaaPx0
import Derived.Test.YtkidfbapnkegmaaOpen
import Derived.KernelRfl
set_option linter.unusedVariables false
namespace Go.Proofs.Ytkidfbapnkegmaa.P
open Go.RowKit Go.Proofs.YtkidfbapnkegmaaW.PrintWords Go.Proofs.Ytkidfbapnkegmaa.Open

def ok28 (x : S28) : Prop := x.f0.size ≤ 140737488351232 ∧ (Lit.int .i64 x.f1).wf = true
theorem opens28 (N : Nat) : Opens Try.prog N 28 k28 ok28 :=
  (opens_iso (fun a => (⟨a.1, a.2⟩ : S28)) (fun _ => rfl) (opens_struct_any Try.underlying28 (by kernel_rfl) (fun N => (opensL_cons rfl (by kernel_rfl) (opens_string (Try.underlying9) N) (opensL_one rfl (by kernel_rfl) (opens_int (Try.underlying3) N)))) N)).imp (fun _ h => h)
end Go.Proofs.Ytkidfbapnkegmaa.P
