-- Printed by the session's driver printx.py over the kit's print; Lean checks it.
import Derived.Test.YtcediffliacgkaaPx0
import Derived.Test.YtcediffliacgkaaOpenU
import Derived.KernelRfl
set_option linter.unusedVariables false
namespace Go.Proofs.Ytcediffliacgkaa.P
open Go.RowKit Go.Proofs.YtcediffliacgkaaW.PrintWords Go.Proofs.Ytcediffliacgkaa.OpenU

def oku23 (x : S23) : Prop := (Lit.int .i64 x.f0).wf = true ∧ (Lit.int .i64 x.f1).wf = true ∧ x.f2.size ≤ 1048576
theorem opensu23 (N : Nat) : Opens Try.prog N 23 k23 oku23 :=
  (opens_iso (fun a => (⟨a.1, a.2.1, a.2.2⟩ : S23)) (fun _ => rfl) (opens_struct_any Try.underlying23 (by kernel_rfl) (fun N => (opensL_cons rfl (by kernel_rfl) (opens_int (Try.underlying3) N) (opensL_cons rfl (by kernel_rfl) (opens_int (Try.underlying3) N) (opensL_one rfl (by kernel_rfl) (opens_string (Try.underlying9) N))))) N)).imp (fun _ h => h)
end Go.Proofs.Ytcediffliacgkaa.P
