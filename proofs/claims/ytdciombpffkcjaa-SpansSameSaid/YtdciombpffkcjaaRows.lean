/-
  No cell of these rows narrows 'for every input' (looked for: loops, veiled, ifaces, maps, wideKeys, modest, calm, conditions, laid).
  DERIVED. THE GIVEN ROWS OF THIS SEAT. 4 by the template 'for every input the law returns true; each argument reads behind the call as it read before'; 0 by the template 'total and deterministic' (their statements: YtdciombpffkcjaaTotals.lean).
  GIVEN WITH THE SEED: the statements are not yours to turn. If you find one false, say at which input.
  Laid BY PROGRAM, IN A SANDBOX (cutbox-rows.mjs): the forced cells as the released guide's own fill.sh prints them over the translation c6d85ce58f999480… (all of the seat's roots in one cut). By AI agents, Wed Nov 11 2026. No macro, syntax, notation, axiom, sorry.
-/
import Derived.Test.YtdciombpffkcjaaChecked
import GoSem.Claim
import GoSem.ClaimJoined
import GoSem.ClaimMapViews
import Derived.JoinedTies
import Derived.KernelRfl
namespace Go.Proofs.Ytdciombpffkcjaa
/- THE CELL 'sum', in the pinned program and in every row, IS THE sha256 OF THE DUMP (.gsa) THAT YtdciombpffkcjaaProg.lean LOADS. Nothing in Lean hashes anything: it is a label: what it is worth is what the hold of that sum in a sandbox is worth. -/
noncomputable def Try.pinned : Pinned := { name := "ytdciombpffkcjaa", sum := "c6d85ce58f9994809911704557d82de35c21773ac1793202079918d92ebb7471", checked := Try.checked }
namespace Rows
def none {H : Type} : Left H := { results := [], args := [] }

/-- 'taffraillaw12.SpansCovers': WHATEVER THE INPUT: true; the input reads as it did. -/
def spansCoversSpec : ChangeSpec := { name := "spansCovers", fn := fun _ => fun
  | [d1, d2] => { results := [.lit (.bool true)], args := [d1, d2] }
  | _ => none }
def spansCoversRow : OpenClaim := { program := "ytdciombpffkcjaa", sum := "c6d85ce58f9994809911704557d82de35c21773ac1793202079918d92ebb7471", func := "taffrail/taffraillaw12.SpansCovers", spec := "spansCovers", unfollowed := true, recurses := true, apart := false }
def SpansCoversSaid : Prop := spansCoversRow.holds Try.pinned (OpenSpec.ofChange spansCoversSpec)

/-- ITS FALSE NEIGHBOUR: 'it returns false'. Refute it at one input. -/
def spansCoversWrong : ChangeSpec := { name := "spansCovers", fn := fun _ => fun
  | [d1, d2] => { results := [.lit (.bool false)], args := [d1, d2] }
  | _ => none }
def SpansCoversWrongFalsely : Prop := spansCoversRow.holds Try.pinned (OpenSpec.ofChange spansCoversWrong)

/-- 'taffraillaw12.SpansChecks': WHATEVER THE INPUT: true; the input reads as it did. -/
def spansChecksSpec : ChangeSpec := { name := "spansChecks", fn := fun _ => fun
  | [d1, d2, d3] => { results := [.lit (.bool true)], args := [d1, d2, d3] }
  | _ => none }
def spansChecksRow : OpenClaim := { program := "ytdciombpffkcjaa", sum := "c6d85ce58f9994809911704557d82de35c21773ac1793202079918d92ebb7471", func := "taffrail/taffraillaw12.SpansChecks", spec := "spansChecks", unfollowed := true, recurses := true, apart := false }
def SpansChecksSaid : Prop := spansChecksRow.holds Try.pinned (OpenSpec.ofChange spansChecksSpec)

/-- ITS FALSE NEIGHBOUR: 'it returns false'. Refute it at one input. -/
def spansChecksWrong : ChangeSpec := { name := "spansChecks", fn := fun _ => fun
  | [d1, d2, d3] => { results := [.lit (.bool false)], args := [d1, d2, d3] }
  | _ => none }
def SpansChecksWrongFalsely : Prop := spansChecksRow.holds Try.pinned (OpenSpec.ofChange spansChecksWrong)

/-- 'taffraillaw12.SpansSame': WHATEVER THE INPUT: true; the input reads as it did. -/
def spansSameSpec : ChangeSpec := { name := "spansSame", fn := fun _ => fun
  | [d1, d2] => { results := [.lit (.bool true)], args := [d1, d2] }
  | _ => none }
def spansSameRow : OpenClaim := { program := "ytdciombpffkcjaa", sum := "c6d85ce58f9994809911704557d82de35c21773ac1793202079918d92ebb7471", func := "taffrail/taffraillaw12.SpansSame", spec := "spansSame", unfollowed := true, recurses := true, apart := false }
def SpansSameSaid : Prop := spansSameRow.holds Try.pinned (OpenSpec.ofChange spansSameSpec)

/-- ITS FALSE NEIGHBOUR: 'it returns false'. Refute it at one input. -/
def spansSameWrong : ChangeSpec := { name := "spansSame", fn := fun _ => fun
  | [d1, d2] => { results := [.lit (.bool false)], args := [d1, d2] }
  | _ => none }
def SpansSameWrongFalsely : Prop := spansSameRow.holds Try.pinned (OpenSpec.ofChange spansSameWrong)

/-- 'taffraillaw12.SpansTexts': WHATEVER THE INPUT: true; the input reads as it did. -/
def spansTextsSpec : ChangeSpec := { name := "spansTexts", fn := fun _ => fun
  | [d1, d2] => { results := [.lit (.bool true)], args := [d1, d2] }
  | _ => none }
def spansTextsRow : OpenClaim := { program := "ytdciombpffkcjaa", sum := "c6d85ce58f9994809911704557d82de35c21773ac1793202079918d92ebb7471", func := "taffrail/taffraillaw12.SpansTexts", spec := "spansTexts", unfollowed := true, recurses := true, apart := false }
def SpansTextsSaid : Prop := spansTextsRow.holds Try.pinned (OpenSpec.ofChange spansTextsSpec)

/-- ITS FALSE NEIGHBOUR: 'it returns false'. Refute it at one input. -/
def spansTextsWrong : ChangeSpec := { name := "spansTexts", fn := fun _ => fun
  | [d1, d2] => { results := [.lit (.bool false)], args := [d1, d2] }
  | _ => none }
def SpansTextsWrongFalsely : Prop := spansTextsRow.holds Try.pinned (OpenSpec.ofChange spansTextsWrong)

/- THE SECOND FORM. 'bulk': how many values and letters a reading holds, each counted each time it is reached (what is shared counts as often as it is met; a slice's spare places count too). A statement '..UptoSaid' is the law's where the arguments, and the package variables that the reading takes, are together of bulk at most 1048576: NARROWER than '..Said'. Prove '..Said' where nothing that the law and all that it calls make is longer than what came in: it says more and counts as full. Else prove '..UptoSaid'. A law counts once. -/
mutual
def uptoBulk {H : Type} : DataW H → Nat
  | .lit (.string bytes) => bytes.length + 1
  | .lit _ => 1
  | .nil => 1
  | .ptr d => uptoBulk d + 1
  | .slice elems spare => uptoBulkAll elems + uptoBulkAll spare + 1
  | .agg parts => uptoBulkAll parts + 1
  | .iface _ d => uptoBulk d + 1
  | .map entries => uptoBulkEntries entries + 1
  | .held _ => 1
def uptoBulkAll {H : Type} : List (DataW H) → Nat
  | [] => 0
  | d :: r => uptoBulk d + uptoBulkAll r
def uptoBulkEntries {H : Type} : List (Lit × DataW H) → Nat
  | [] => 0
  | x :: r => uptoBulkEntry x + uptoBulkEntries r
def uptoBulkEntry {H : Type} : Lit × DataW H → Nat
  | (.string bytes, d) => bytes.length + uptoBulk d + 1
  | (_, d) => uptoBulk d + 1
 end
def uptoSmall : (H : Type) → List (DataW H) → Bool := fun _ ds => decide (uptoBulkAll ds ≤ 1048576)
def OpenSpec.upto (s : _root_.Go.ChangeSpec) : _root_.Go.OpenSpec := { _root_.Go.OpenSpec.ofChange s with cond := some uptoSmall }

/-- 'taffraillaw12.SpansCovers', WHERE WHAT IT READS IS OF BULK AT MOST 1048576: true; the input reads as it did. -/
def spansCoversUptoRow : OpenClaim := { program := "ytdciombpffkcjaa", sum := "c6d85ce58f9994809911704557d82de35c21773ac1793202079918d92ebb7471", func := "taffrail/taffraillaw12.SpansCovers", spec := "spansCovers", unfollowed := true, recurses := true, apart := false, narrowed := true }
def SpansCoversUptoSaid : Prop := spansCoversUptoRow.holds Try.pinned (OpenSpec.upto spansCoversSpec)

/-- 'taffraillaw12.SpansChecks', WHERE WHAT IT READS IS OF BULK AT MOST 1048576: true; the input reads as it did. -/
def spansChecksUptoRow : OpenClaim := { program := "ytdciombpffkcjaa", sum := "c6d85ce58f9994809911704557d82de35c21773ac1793202079918d92ebb7471", func := "taffrail/taffraillaw12.SpansChecks", spec := "spansChecks", unfollowed := true, recurses := true, apart := false, narrowed := true }
def SpansChecksUptoSaid : Prop := spansChecksUptoRow.holds Try.pinned (OpenSpec.upto spansChecksSpec)

/-- 'taffraillaw12.SpansSame', WHERE WHAT IT READS IS OF BULK AT MOST 1048576: true; the input reads as it did. -/
def spansSameUptoRow : OpenClaim := { program := "ytdciombpffkcjaa", sum := "c6d85ce58f9994809911704557d82de35c21773ac1793202079918d92ebb7471", func := "taffrail/taffraillaw12.SpansSame", spec := "spansSame", unfollowed := true, recurses := true, apart := false, narrowed := true }
def SpansSameUptoSaid : Prop := spansSameUptoRow.holds Try.pinned (OpenSpec.upto spansSameSpec)

/-- 'taffraillaw12.SpansTexts', WHERE WHAT IT READS IS OF BULK AT MOST 1048576: true; the input reads as it did. -/
def spansTextsUptoRow : OpenClaim := { program := "ytdciombpffkcjaa", sum := "c6d85ce58f9994809911704557d82de35c21773ac1793202079918d92ebb7471", func := "taffrail/taffraillaw12.SpansTexts", spec := "spansTexts", unfollowed := true, recurses := true, apart := false, narrowed := true }
def SpansTextsUptoSaid : Prop := spansTextsUptoRow.holds Try.pinned (OpenSpec.upto spansTextsSpec)

end Rows
end Go.Proofs.Ytdciombpffkcjaa
