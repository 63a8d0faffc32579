-- Printed by the session's lays.py; Lean checks it.
import Derived.Test.YtkeicfbjijnhnaaChecked
import Derived.Shelf.Lays
import Derived.Shelf.Strings.Builder1
import Derived.KernelRfl
namespace Go.Proofs.Ytkeicfbjijnhnaa.Shelf
open Go Go.RowKit Go.Proofs Go.Shelf
def ren : Ren := ⟨fun n => if n = 169 then 23 else if n = 240 then 24 else if n = 276 then 25 else 0, fun n => if n = 0 then 0 else if n = 3 then 3 else if n = 4 then 4 else if n = 5 then 5 else if n = 9 then 9 else if n = 20 then 20 else if n = 37 then 52 else if n = 70 then 60 else if n = 72 then 62 else if n = 127 then 67 else if n = 164 then 68 else 0, fun x => x⟩
theorem lays240 : Lays.n240 Try.prog ren := { mixed := by kernel_rfl, f240 := by kernel_rfl, f276 := by kernel_rfl, t0 := Try.underlying0, a0 := Try.isAgg0, z0 := Try.sizeOf0, v0 := Try.zeroValue0, t4 := Try.underlying4, a4 := Try.isAgg4, z4 := Try.sizeOf4, v4 := Try.zeroValue4, t9 := Try.underlying9, a9 := Try.isAgg9, z9 := Try.sizeOf9, v9 := Try.zeroValue9, t20 := Try.underlying20, a20 := Try.isAgg20, z20 := Try.sizeOf20, v20 := Try.zeroValue20, t70 := Try.underlying60, a70 := Try.isAgg60, z70 := Try.sizeOf60, v70 := Try.zeroValue60, t72 := Try.underlying62, a72 := Try.isAgg62, z72 := Try.sizeOf62, v72 := Try.zeroValue62, t164 := Try.underlying68, a164 := Try.isAgg68, z164 := Try.sizeOf68, v164 := Try.zeroValue68 }
theorem lays169 : Lays.n169 Try.prog ren := { mixed := by kernel_rfl, f169 := by kernel_rfl, t0 := Try.underlying0, a0 := Try.isAgg0, z0 := Try.sizeOf0, v0 := Try.zeroValue0, t3 := Try.underlying3, a3 := Try.isAgg3, z3 := Try.sizeOf3, v3 := Try.zeroValue3, t9 := Try.underlying9, a9 := Try.isAgg9, z9 := Try.sizeOf9, v9 := Try.zeroValue9, t37 := Try.underlying52, a37 := Try.isAgg52, z37 := Try.sizeOf52, v37 := Try.zeroValue52, t70 := Try.underlying60, a70 := Try.isAgg60, z70 := Try.sizeOf60, v70 := Try.zeroValue60, t72 := Try.underlying62, a72 := Try.isAgg62, z72 := Try.sizeOf62, v72 := Try.zeroValue62, t127 := Try.underlying67, a127 := Try.isAgg67, z127 := Try.sizeOf67, v127 := Try.zeroValue67 }
theorem extra : Builder.Extra Try.prog ren := { sizeBuilder := by kernel_rfl, liesBuilder := by kernel_rfl, t5 := Try.underlying5, a5 := Try.isAgg5, z5 := Try.sizeOf5, v5 := Try.zeroValue5, infoByte := by kernel_rfl, cellsByte := by kernel_rfl, sizeByte := by kernel_rfl, neB5 := by decide }
end Go.Proofs.Ytkeicfbjijnhnaa.Shelf
