-- Printed by the session's driver printx.py over the kit's print; Lean checks it.
import Derived.Test.YtncjlbbbojebhaaPx0
import Derived.Test.YtncjlbbbojebhaaOpen
import Derived.KernelRfl
set_option linter.unusedVariables false
namespace Go.Proofs.Ytncjlbbbojebhaa.P
open Go.RowKit Go.Proofs.YtncjlbbbojebhaaW.PrintWords Go.Proofs.Ytncjlbbbojebhaa.Open


end Go.Proofs.Ytncjlbbbojebhaa.P
