-- Printed by the session's driver printx.py over the kit's print; Lean checks it.
import Derived.Test.YtkmioljfjjmcpaaPx0
import Derived.Test.YtkmioljfjjmcpaaOpen
import Derived.KernelRfl
set_option linter.unusedVariables false
namespace Go.Proofs.Ytkmioljfjjmcpaa.P
open Go.RowKit Go.Proofs.YtkmioljfjjmcpaaW.PrintWords Go.Proofs.Ytkmioljfjjmcpaa.Open

def ok24 (x : S24) : Prop := x.f0.size ≤ 140737488351232 ∧ x.f1.size ≤ 140737488351232
theorem opens24 (N : Nat) : Opens Try.prog N 24 k24 ok24 :=
  (opens_iso (fun a => (⟨a.1, a.2⟩ : S24)) (fun _ => rfl) (opens_struct_any Try.underlying24 (by kernel_rfl) (fun N => (opensL_cons rfl (by kernel_rfl) (opens_string (Try.underlying9) N) (opensL_one rfl (by kernel_rfl) (opens_string (Try.underlying9) N)))) N)).imp (fun _ h => h)
end Go.Proofs.Ytkmioljfjjmcpaa.P
