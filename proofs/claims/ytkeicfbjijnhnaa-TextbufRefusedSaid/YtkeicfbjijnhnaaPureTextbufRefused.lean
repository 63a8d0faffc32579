import Derived.Test.YtkeicfbjijnhnaaSayTextbufRefused
namespace Go.Proofs.Ytkeicfbjijnhnaa.Pure
open Go.RowKit Go.Proofs.Ytkeicfbjijnhnaa.P Go.Proofs.YtkeicfbjijnhnaaW.PrintWords Go.Proofs.YtkeicfbjijnhnaaW.PrintLast Go.Proofs.YtkeicfbjijnhnaaW.PrintMore
/- the law's plain statement: what was walked -/
theorem TextbufRefused : taffraillaw01_TextbufRefused.Pure := fun _ _ _ _ => rfl

end Go.Proofs.Ytkeicfbjijnhnaa.Pure
