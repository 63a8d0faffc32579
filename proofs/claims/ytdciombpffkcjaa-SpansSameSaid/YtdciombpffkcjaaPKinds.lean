-- Printed by the session's driver printx.py over the kit's print; Lean checks it.
import Derived.Test.YtdciombpffkcjaaPx0
import Derived.Test.YtdciombpffkcjaaOpen
import Derived.KernelRfl
set_option linter.unusedVariables false
namespace Go.Proofs.Ytdciombpffkcjaa.P
open Go.RowKit Go.Proofs.YtdciombpffkcjaaW.PrintWords Go.Proofs.Ytdciombpffkcjaa.Open

def ok97 (x : S97) : Prop := x.f0.size ≤ 140737488351232 ∧ x.f1.size ≤ 140737488351232
theorem opens97 (N : Nat) : Opens Try.prog N 97 k97 ok97 :=
  (opens_iso (fun a => (⟨a.1, a.2⟩ : S97)) (fun _ => rfl) (opens_struct_any Try.underlying97 (by kernel_rfl) (fun N => (opensL_cons rfl (by kernel_rfl) (opens_string (Try.underlying9) N) (opensL_one rfl (by kernel_rfl) (opens_string (Try.underlying9) N)))) N)).imp (fun _ h => h)
def ok36 (x : S36) : Prop := (Lit.int .i64 x.f0).wf = true ∧ (Lit.int .i64 x.f1).wf = true
theorem opens36 (N : Nat) : Opens Try.prog N 36 k36 ok36 :=
  (opens_iso (fun a => (⟨a.1, a.2⟩ : S36)) (fun _ => rfl) (opens_struct_any Try.underlying36 (by kernel_rfl) (fun N => (opensL_cons rfl (by kernel_rfl) (opens_int (Try.underlying3) N) (opensL_one rfl (by kernel_rfl) (opens_int (Try.underlying3) N)))) N)).imp (fun _ h => h)
def ok39 (x : S39) : Prop := (Lit.int .i64 x.f0).wf = true ∧ (Lit.int .i64 x.f1).wf = true ∧ x.f2.size ≤ 140737488351232 ∧ x.f3.size ≤ 140737488351232 ∧ (x.f4.length * 32 ≤ 140737488351232 ∧ ∀ y ∈ x.f4, ok97 y) ∧ True ∧ ok36 x.f6
theorem opens39 (N : Nat) : Opens Try.prog N 39 k39 ok39 :=
  (opens_iso (fun a => (⟨a.1, a.2.1, a.2.2.1, a.2.2.2.1, a.2.2.2.2.1, a.2.2.2.2.2.1, a.2.2.2.2.2.2⟩ : S39)) (fun _ => rfl) (opens_struct_any Try.underlying39 (by kernel_rfl) (fun N => (opensL_cons rfl (by kernel_rfl) (opens_int (Try.underlying3) N) (opensL_cons rfl (by kernel_rfl) (opens_int (Try.underlying3) N) (opensL_cons rfl (by kernel_rfl) (opens_string (Try.underlying9) N) (opensL_cons rfl (by kernel_rfl) (opens_string (Try.underlying9) N) (opensL_cons rfl (by kernel_rfl) (opens_slice (B := 32) (Try.underlying37) (by kernel_rfl) (by kernel_rfl) (opens97 N)) (opensL_cons rfl (by kernel_rfl) (opens_bool (Try.underlying4) N) (opensL_one rfl (by kernel_rfl) (opens36 N))))))))) N)).imp (fun _ h => h)
def ok42 (x : S42) : Prop := ok36 x.f0 ∧ (Lit.int .i64 x.f1).wf = true
theorem opens42 (N : Nat) : Opens Try.prog N 42 k42 ok42 :=
  (opens_iso (fun a => (⟨a.1, a.2⟩ : S42)) (fun _ => rfl) (opens_struct_any Try.underlying42 (by kernel_rfl) (fun N => (opensL_cons rfl (by kernel_rfl) (opens36 N) (opensL_one rfl (by kernel_rfl) (opens_int (Try.underlying3) N)))) N)).imp (fun _ h => h)
end Go.Proofs.Ytdciombpffkcjaa.P
