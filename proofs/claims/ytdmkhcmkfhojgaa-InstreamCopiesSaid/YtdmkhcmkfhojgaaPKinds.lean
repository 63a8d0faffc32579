-- Printed by the session's driver printx.py over the kit's print; Lean checks it.
import Derived.Test.YtdmkhcmkfhojgaaPx0
import Derived.Test.YtdmkhcmkfhojgaaOpen
import Derived.KernelRfl
set_option linter.unusedVariables false
namespace Go.Proofs.Ytdmkhcmkfhojgaa.P
open Go.RowKit Go.Proofs.YtdmkhcmkfhojgaaW.PrintWords Go.Proofs.Ytdmkhcmkfhojgaa.Open


end Go.Proofs.Ytdmkhcmkfhojgaa.P
