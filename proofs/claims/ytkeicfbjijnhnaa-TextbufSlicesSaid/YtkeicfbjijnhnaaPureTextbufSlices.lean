import Derived.Test.YtkeicfbjijnhnaaSayTextbufSlices
namespace Go.Proofs.Ytkeicfbjijnhnaa.Pure
open Go.RowKit Go.Proofs.Ytkeicfbjijnhnaa.P Go.Proofs.YtkeicfbjijnhnaaW.PrintWords Go.Proofs.YtkeicfbjijnhnaaW.PrintLast Go.Proofs.YtkeicfbjijnhnaaW.PrintMore

/- ∀ (x0 : ByteArray) (x1 : S32) (x2 : Int), x0.size ≤ 140737488351232 → ok32 x1 → (Lit.int .i64 x2).wf = true → taffraillaw01_TextbufSlices.f x0 x1.f0 x1.f1 x1.f2 x2 = some true -/
theorem TextbufSlices : taffraillaw01_TextbufSlices.Pure := fun _ _ _ _ _ _ => rfl

end Go.Proofs.Ytkeicfbjijnhnaa.Pure
