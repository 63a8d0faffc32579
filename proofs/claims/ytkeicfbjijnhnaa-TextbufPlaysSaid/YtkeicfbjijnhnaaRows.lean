/-
  No cell of these rows narrows 'for every input' (looked for: loops, veiled, ifaces, maps, wideKeys, modest, calm, conditions, laid).
  DERIVED. THE GIVEN ROWS OF THIS SEAT. 5 by the template 'for every input the law returns true; each argument reads behind the call as it read before'; 0 by the template 'total and deterministic' (their statements: YtkeicfbjijnhnaaTotals.lean).
  GIVEN WITH THE SEED: the statements are not yours to turn. If you find one false, say at which input.
  Laid BY PROGRAM, IN A SANDBOX (cutbox-rows.mjs): the forced cells as the released guide's own fill.sh prints them over the translation 439965e012089970… (all of the seat's roots in one cut). By AI agents, Wed Nov 11 2026. No macro, syntax, notation, axiom, sorry.
-/
import Derived.Test.YtkeicfbjijnhnaaChecked
import GoSem.Claim
import GoSem.ClaimJoined
import GoSem.ClaimMapViews
import Derived.JoinedTies
import Derived.KernelRfl
namespace Go.Proofs.Ytkeicfbjijnhnaa
/- THE CELL 'sum', in the pinned program and in every row, IS THE sha256 OF THE DUMP (.gsa) THAT YtkeicfbjijnhnaaProg.lean LOADS. Nothing in Lean hashes anything: it is a label: what it is worth is what the hold of that sum in a sandbox is worth. -/
noncomputable def Try.pinned : Pinned := { name := "ytkeicfbjijnhnaa", sum := "439965e0120899709cbfd91438cbdf911e0bc78824e7a061333fc07d607fe786", checked := Try.checked }
namespace Rows
def none {H : Type} : Left H := { results := [], args := [] }

/-- 'taffraillaw01.TextbufBack': WHATEVER THE INPUT: true; the input reads as it did. -/
def textbufBackSpec : ChangeSpec := { name := "textbufBack", fn := fun _ => fun
  | [d1, d2] => { results := [.lit (.bool true)], args := [d1, d2] }
  | _ => none }
def textbufBackRow : OpenClaim := { program := "ytkeicfbjijnhnaa", sum := "439965e0120899709cbfd91438cbdf911e0bc78824e7a061333fc07d607fe786", func := "taffrail/taffraillaw01.TextbufBack", spec := "textbufBack", inPlace := ["internal/abi.NoEscape"], apart := false }
def TextbufBackSaid : Prop := textbufBackRow.holds Try.pinned (OpenSpec.ofChange textbufBackSpec)

/-- ITS FALSE NEIGHBOUR: 'it returns false'. Refute it at one input. -/
def textbufBackWrong : ChangeSpec := { name := "textbufBack", fn := fun _ => fun
  | [d1, d2] => { results := [.lit (.bool false)], args := [d1, d2] }
  | _ => none }
def TextbufBackWrongFalsely : Prop := textbufBackRow.holds Try.pinned (OpenSpec.ofChange textbufBackWrong)

/-- 'taffraillaw01.TextbufRefused': WHATEVER THE INPUT: true; the input reads as it did. -/
def textbufRefusedSpec : ChangeSpec := { name := "textbufRefused", fn := fun _ => fun
  | [d1, d2] => { results := [.lit (.bool true)], args := [d1, d2] }
  | _ => none }
def textbufRefusedRow : OpenClaim := { program := "ytkeicfbjijnhnaa", sum := "439965e0120899709cbfd91438cbdf911e0bc78824e7a061333fc07d607fe786", func := "taffrail/taffraillaw01.TextbufRefused", spec := "textbufRefused", inPlace := ["internal/abi.NoEscape"], apart := false }
def TextbufRefusedSaid : Prop := textbufRefusedRow.holds Try.pinned (OpenSpec.ofChange textbufRefusedSpec)

/-- ITS FALSE NEIGHBOUR: 'it returns false'. Refute it at one input. -/
def textbufRefusedWrong : ChangeSpec := { name := "textbufRefused", fn := fun _ => fun
  | [d1, d2] => { results := [.lit (.bool false)], args := [d1, d2] }
  | _ => none }
def TextbufRefusedWrongFalsely : Prop := textbufRefusedRow.holds Try.pinned (OpenSpec.ofChange textbufRefusedWrong)

/-- 'taffraillaw01.TextbufSlices': WHATEVER THE INPUT: true; the input reads as it did. -/
def textbufSlicesSpec : ChangeSpec := { name := "textbufSlices", fn := fun _ => fun
  | [d1, d2, d3] => { results := [.lit (.bool true)], args := [d1, d2, d3] }
  | _ => none }
def textbufSlicesRow : OpenClaim := { program := "ytkeicfbjijnhnaa", sum := "439965e0120899709cbfd91438cbdf911e0bc78824e7a061333fc07d607fe786", func := "taffrail/taffraillaw01.TextbufSlices", spec := "textbufSlices", inPlace := ["internal/abi.NoEscape"], apart := false }
def TextbufSlicesSaid : Prop := textbufSlicesRow.holds Try.pinned (OpenSpec.ofChange textbufSlicesSpec)

/-- ITS FALSE NEIGHBOUR: 'it returns false'. Refute it at one input. -/
def textbufSlicesWrong : ChangeSpec := { name := "textbufSlices", fn := fun _ => fun
  | [d1, d2, d3] => { results := [.lit (.bool false)], args := [d1, d2, d3] }
  | _ => none }
def TextbufSlicesWrongFalsely : Prop := textbufSlicesRow.holds Try.pinned (OpenSpec.ofChange textbufSlicesWrong)

/-- 'taffraillaw01.TextbufPlays': WHATEVER THE INPUT: true; the input reads as it did. -/
def textbufPlaysSpec : ChangeSpec := { name := "textbufPlays", fn := fun _ => fun
  | [d1, d2, d3] => { results := [.lit (.bool true)], args := [d1, d2, d3] }
  | _ => none }
def textbufPlaysRow : OpenClaim := { program := "ytkeicfbjijnhnaa", sum := "439965e0120899709cbfd91438cbdf911e0bc78824e7a061333fc07d607fe786", func := "taffrail/taffraillaw01.TextbufPlays", spec := "textbufPlays", inPlace := ["internal/abi.NoEscape"], apart := false }
def TextbufPlaysSaid : Prop := textbufPlaysRow.holds Try.pinned (OpenSpec.ofChange textbufPlaysSpec)

/-- ITS FALSE NEIGHBOUR: 'it returns false'. Refute it at one input. -/
def textbufPlaysWrong : ChangeSpec := { name := "textbufPlays", fn := fun _ => fun
  | [d1, d2, d3] => { results := [.lit (.bool false)], args := [d1, d2, d3] }
  | _ => none }
def TextbufPlaysWrongFalsely : Prop := textbufPlaysRow.holds Try.pinned (OpenSpec.ofChange textbufPlaysWrong)

/-- 'taffraillaw01.TextbufNone': WHATEVER THE INPUT: true; the input reads as it did. -/
def textbufNoneSpec : ChangeSpec := { name := "textbufNone", fn := fun _ => fun
  | [d] => { results := [.lit (.bool true)], args := [d] }
  | _ => none }
def textbufNoneRow : OpenClaim := { program := "ytkeicfbjijnhnaa", sum := "439965e0120899709cbfd91438cbdf911e0bc78824e7a061333fc07d607fe786", func := "taffrail/taffraillaw01.TextbufNone", spec := "textbufNone", inPlace := ["internal/abi.NoEscape"], apart := false }
def TextbufNoneSaid : Prop := textbufNoneRow.holds Try.pinned (OpenSpec.ofChange textbufNoneSpec)

/-- ITS FALSE NEIGHBOUR: 'it returns false'. Refute it at one input. -/
def textbufNoneWrong : ChangeSpec := { name := "textbufNone", fn := fun _ => fun
  | [d] => { results := [.lit (.bool false)], args := [d] }
  | _ => none }
def TextbufNoneWrongFalsely : Prop := textbufNoneRow.holds Try.pinned (OpenSpec.ofChange textbufNoneWrong)

/- THE SECOND FORM. 'bulk': how many values and letters a reading holds, each counted each time it is reached (what is shared counts as often as it is met; a slice's spare places count too). A statement '..UptoSaid' is the law's where the arguments, and the package variables that the reading takes, are together of bulk at most 1048576: NARROWER than '..Said'. Prove '..Said' where nothing that the law and all that it calls make is longer than what came in: it says more and counts as full. Else prove '..UptoSaid'. A law counts once. -/
mutual
def uptoBulk {H : Type} : DataW H → Nat
  | .lit (.string bytes) => bytes.length + 1
  | .lit _ => 1
  | .nil => 1
  | .ptr d => uptoBulk d + 1
  | .slice elems spare => uptoBulkAll elems + uptoBulkAll spare + 1
  | .agg parts => uptoBulkAll parts + 1
  | .iface _ d => uptoBulk d + 1
  | .map entries => uptoBulkEntries entries + 1
  | .held _ => 1
def uptoBulkAll {H : Type} : List (DataW H) → Nat
  | [] => 0
  | d :: r => uptoBulk d + uptoBulkAll r
def uptoBulkEntries {H : Type} : List (Lit × DataW H) → Nat
  | [] => 0
  | x :: r => uptoBulkEntry x + uptoBulkEntries r
def uptoBulkEntry {H : Type} : Lit × DataW H → Nat
  | (.string bytes, d) => bytes.length + uptoBulk d + 1
  | (_, d) => uptoBulk d + 1
 end
def uptoSmall : (H : Type) → List (DataW H) → Bool := fun _ ds => decide (uptoBulkAll ds ≤ 1048576)
def OpenSpec.upto (s : _root_.Go.ChangeSpec) : _root_.Go.OpenSpec := { _root_.Go.OpenSpec.ofChange s with cond := some uptoSmall }

/-- 'taffraillaw01.TextbufBack', WHERE WHAT IT READS IS OF BULK AT MOST 1048576: true; the input reads as it did. -/
def textbufBackUptoRow : OpenClaim := { program := "ytkeicfbjijnhnaa", sum := "439965e0120899709cbfd91438cbdf911e0bc78824e7a061333fc07d607fe786", func := "taffrail/taffraillaw01.TextbufBack", spec := "textbufBack", inPlace := ["internal/abi.NoEscape"], apart := false, narrowed := true }
def TextbufBackUptoSaid : Prop := textbufBackUptoRow.holds Try.pinned (OpenSpec.upto textbufBackSpec)

/-- 'taffraillaw01.TextbufRefused', WHERE WHAT IT READS IS OF BULK AT MOST 1048576: true; the input reads as it did. -/
def textbufRefusedUptoRow : OpenClaim := { program := "ytkeicfbjijnhnaa", sum := "439965e0120899709cbfd91438cbdf911e0bc78824e7a061333fc07d607fe786", func := "taffrail/taffraillaw01.TextbufRefused", spec := "textbufRefused", inPlace := ["internal/abi.NoEscape"], apart := false, narrowed := true }
def TextbufRefusedUptoSaid : Prop := textbufRefusedUptoRow.holds Try.pinned (OpenSpec.upto textbufRefusedSpec)

/-- 'taffraillaw01.TextbufSlices', WHERE WHAT IT READS IS OF BULK AT MOST 1048576: true; the input reads as it did. -/
def textbufSlicesUptoRow : OpenClaim := { program := "ytkeicfbjijnhnaa", sum := "439965e0120899709cbfd91438cbdf911e0bc78824e7a061333fc07d607fe786", func := "taffrail/taffraillaw01.TextbufSlices", spec := "textbufSlices", inPlace := ["internal/abi.NoEscape"], apart := false, narrowed := true }
def TextbufSlicesUptoSaid : Prop := textbufSlicesUptoRow.holds Try.pinned (OpenSpec.upto textbufSlicesSpec)

/-- 'taffraillaw01.TextbufPlays', WHERE WHAT IT READS IS OF BULK AT MOST 1048576: true; the input reads as it did. -/
def textbufPlaysUptoRow : OpenClaim := { program := "ytkeicfbjijnhnaa", sum := "439965e0120899709cbfd91438cbdf911e0bc78824e7a061333fc07d607fe786", func := "taffrail/taffraillaw01.TextbufPlays", spec := "textbufPlays", inPlace := ["internal/abi.NoEscape"], apart := false, narrowed := true }
def TextbufPlaysUptoSaid : Prop := textbufPlaysUptoRow.holds Try.pinned (OpenSpec.upto textbufPlaysSpec)

/-- 'taffraillaw01.TextbufNone', WHERE WHAT IT READS IS OF BULK AT MOST 1048576: true; the input reads as it did. -/
def textbufNoneUptoRow : OpenClaim := { program := "ytkeicfbjijnhnaa", sum := "439965e0120899709cbfd91438cbdf911e0bc78824e7a061333fc07d607fe786", func := "taffrail/taffraillaw01.TextbufNone", spec := "textbufNone", inPlace := ["internal/abi.NoEscape"], apart := false, narrowed := true }
def TextbufNoneUptoSaid : Prop := textbufNoneUptoRow.holds Try.pinned (OpenSpec.upto textbufNoneSpec)

end Rows
end Go.Proofs.Ytkeicfbjijnhnaa
