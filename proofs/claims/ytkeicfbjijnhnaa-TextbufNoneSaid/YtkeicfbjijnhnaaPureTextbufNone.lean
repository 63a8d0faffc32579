import Derived.Test.YtkeicfbjijnhnaaSayTextbufNone
namespace Go.Proofs.Ytkeicfbjijnhnaa.Pure
open Go.RowKit Go.Proofs.Ytkeicfbjijnhnaa.P Go.Proofs.YtkeicfbjijnhnaaW.PrintWords Go.Proofs.YtkeicfbjijnhnaaW.PrintLast Go.Proofs.YtkeicfbjijnhnaaW.PrintMore

/- ∀ (x0 : S32), ok32 x0 → taffraillaw01_TextbufNone.f x0.f0 x0.f1 x0.f2 = some true -/
theorem TextbufNone : taffraillaw01_TextbufNone.Pure := fun _ _ => rfl

end Go.Proofs.Ytkeicfbjijnhnaa.Pure
