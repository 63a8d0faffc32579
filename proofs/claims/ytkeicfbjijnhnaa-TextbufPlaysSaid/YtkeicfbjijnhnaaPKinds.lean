-- Printed by the session's driver printx.py over the kit's print; Lean checks it.
import Derived.Test.YtkeicfbjijnhnaaPx0
import Derived.Test.YtkeicfbjijnhnaaOpen
import Derived.KernelRfl
set_option linter.unusedVariables false
namespace Go.Proofs.Ytkeicfbjijnhnaa.P
open Go.RowKit Go.Proofs.YtkeicfbjijnhnaaW.PrintWords Go.Proofs.Ytkeicfbjijnhnaa.Open

def ok32 (x : S32) : Prop := (Lit.int .i64 x.f0).wf = true ∧ (Lit.int .i64 x.f1).wf = true ∧ x.f2.size ≤ 140737488351232
theorem opens32 (N : Nat) : Opens Try.prog N 32 k32 ok32 :=
  (opens_iso (fun a => (⟨a.1, a.2.1, a.2.2⟩ : S32)) (fun _ => rfl) (opens_struct_any Try.underlying32 (by kernel_rfl) (fun N => (opensL_cons rfl (by kernel_rfl) (opens_int (Try.underlying3) N) (opensL_cons rfl (by kernel_rfl) (opens_int (Try.underlying3) N) (opensL_one rfl (by kernel_rfl) (opens_string (Try.underlying9) N))))) N)).imp (fun _ h => h)
def ok46 (x : S46) : Prop := ok32 x.f0 ∧ True
theorem opens46 (N : Nat) : Opens Try.prog N 46 k46 ok46 :=
  (opens_iso (fun a => (⟨a.1, a.2⟩ : S46)) (fun _ => rfl) (opens_struct_any Try.underlying46 (by kernel_rfl) (fun N => (opensL_cons rfl (by kernel_rfl) (opens32 N) (opensL_one rfl (by kernel_rfl) (opens_bool (Try.underlying4) N)))) N)).imp (fun _ h => h)
end Go.Proofs.Ytkeicfbjijnhnaa.P
