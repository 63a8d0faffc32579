/-
  No cell of these rows narrows 'for every input' (looked for: loops, veiled, ifaces, maps, wideKeys, modest, calm, conditions, laid).
  DERIVED. THE GIVEN ROWS OF THIS SEAT. 4 by the template 'for every input the law returns true; each argument reads behind the call as it read before'; 0 by the template 'total and deterministic' (their statements: YtncjlbbbojebhaaTotals.lean).
  GIVEN WITH THE SEED: the statements are not yours to turn. If you find one false, say at which input.
  Laid BY PROGRAM, IN A SANDBOX (cutbox-rows.mjs): the forced cells as the released guide's own fill.sh prints them over the translation e364966f61bc2ba1… (all of the seat's roots in one cut). By AI agents, Wed Nov 11 2026. No macro, syntax, notation, axiom, sorry.
-/
import Derived.Test.YtncjlbbbojebhaaChecked
import GoSem.Claim
import GoSem.ClaimJoined
import GoSem.ClaimMapViews
import Derived.JoinedTies
import Derived.KernelRfl
namespace Go.Proofs.Ytncjlbbbojebhaa
/- THE CELL 'sum', in the pinned program and in every row, IS THE sha256 OF THE DUMP (.gsa) THAT YtncjlbbbojebhaaProg.lean LOADS. Nothing in Lean hashes anything: it is a label: what it is worth is what the hold of that sum in a sandbox is worth. -/
noncomputable def Try.pinned : Pinned := { name := "ytncjlbbbojebhaa", sum := "e364966f61bc2ba17691d22009239782f8b2c88c68bb913c733495be266ea6bd", checked := Try.checked }
namespace Rows
def none {H : Type} : Left H := { results := [], args := [] }

/-- 'taffraillaw03.Utf8inDecodes': WHATEVER THE INPUT: true; the input reads as it did. -/
def utf8inDecodesSpec : ChangeSpec := { name := "utf8inDecodes", fn := fun _ => fun
  | [d] => { results := [.lit (.bool true)], args := [d] }
  | _ => none }
def utf8inDecodesRow : OpenClaim := { program := "ytncjlbbbojebhaa", sum := "e364966f61bc2ba17691d22009239782f8b2c88c68bb913c733495be266ea6bd", func := "taffrail/taffraillaw03.Utf8inDecodes", spec := "utf8inDecodes", apart := false }
def Utf8inDecodesSaid : Prop := utf8inDecodesRow.holds Try.pinned (OpenSpec.ofChange utf8inDecodesSpec)

/-- ITS FALSE NEIGHBOUR: 'it returns false'. Refute it at one input. -/
def utf8inDecodesWrong : ChangeSpec := { name := "utf8inDecodes", fn := fun _ => fun
  | [d] => { results := [.lit (.bool false)], args := [d] }
  | _ => none }
def Utf8inDecodesWrongFalsely : Prop := utf8inDecodesRow.holds Try.pinned (OpenSpec.ofChange utf8inDecodesWrong)

/-- 'taffraillaw03.Utf8inEncodes': WHATEVER THE INPUT: true; the input reads as it did. -/
def utf8inEncodesSpec : ChangeSpec := { name := "utf8inEncodes", fn := fun _ => fun
  | [d] => { results := [.lit (.bool true)], args := [d] }
  | _ => none }
def utf8inEncodesRow : OpenClaim := { program := "ytncjlbbbojebhaa", sum := "e364966f61bc2ba17691d22009239782f8b2c88c68bb913c733495be266ea6bd", func := "taffrail/taffraillaw03.Utf8inEncodes", spec := "utf8inEncodes", apart := false }
def Utf8inEncodesSaid : Prop := utf8inEncodesRow.holds Try.pinned (OpenSpec.ofChange utf8inEncodesSpec)

/-- ITS FALSE NEIGHBOUR: 'it returns false'. Refute it at one input. -/
def utf8inEncodesWrong : ChangeSpec := { name := "utf8inEncodes", fn := fun _ => fun
  | [d] => { results := [.lit (.bool false)], args := [d] }
  | _ => none }
def Utf8inEncodesWrongFalsely : Prop := utf8inEncodesRow.holds Try.pinned (OpenSpec.ofChange utf8inEncodesWrong)

/-- 'taffraillaw03.Utf8inSpans': WHATEVER THE INPUT: true; the input reads as it did. -/
def utf8inSpansSpec : ChangeSpec := { name := "utf8inSpans", fn := fun _ => fun
  | [d] => { results := [.lit (.bool true)], args := [d] }
  | _ => none }
def utf8inSpansRow : OpenClaim := { program := "ytncjlbbbojebhaa", sum := "e364966f61bc2ba17691d22009239782f8b2c88c68bb913c733495be266ea6bd", func := "taffrail/taffraillaw03.Utf8inSpans", spec := "utf8inSpans", apart := false }
def Utf8inSpansSaid : Prop := utf8inSpansRow.holds Try.pinned (OpenSpec.ofChange utf8inSpansSpec)

/-- ITS FALSE NEIGHBOUR: 'it returns false'. Refute it at one input. -/
def utf8inSpansWrong : ChangeSpec := { name := "utf8inSpans", fn := fun _ => fun
  | [d] => { results := [.lit (.bool false)], args := [d] }
  | _ => none }
def Utf8inSpansWrongFalsely : Prop := utf8inSpansRow.holds Try.pinned (OpenSpec.ofChange utf8inSpansWrong)

/-- 'taffraillaw03.Utf8inCopies': WHATEVER THE INPUT: true; the input reads as it did. -/
def utf8inCopiesSpec : ChangeSpec := { name := "utf8inCopies", fn := fun _ => fun
  | [d1, d2, d3] => { results := [.lit (.bool true)], args := [d1, d2, d3] }
  | _ => none }
def utf8inCopiesRow : OpenClaim := { program := "ytncjlbbbojebhaa", sum := "e364966f61bc2ba17691d22009239782f8b2c88c68bb913c733495be266ea6bd", func := "taffrail/taffraillaw03.Utf8inCopies", spec := "utf8inCopies", apart := false }
def Utf8inCopiesSaid : Prop := utf8inCopiesRow.holds Try.pinned (OpenSpec.ofChange utf8inCopiesSpec)

/-- ITS FALSE NEIGHBOUR: 'it returns false'. Refute it at one input. -/
def utf8inCopiesWrong : ChangeSpec := { name := "utf8inCopies", fn := fun _ => fun
  | [d1, d2, d3] => { results := [.lit (.bool false)], args := [d1, d2, d3] }
  | _ => none }
def Utf8inCopiesWrongFalsely : Prop := utf8inCopiesRow.holds Try.pinned (OpenSpec.ofChange utf8inCopiesWrong)

/- THE SECOND FORM. 'bulk': how many values and letters a reading holds, each counted each time it is reached (what is shared counts as often as it is met; a slice's spare places count too). A statement '..UptoSaid' is the law's where the arguments, and the package variables that the reading takes, are together of bulk at most 1048576: NARROWER than '..Said'. Prove '..Said' where nothing that the law and all that it calls make is longer than what came in: it says more and counts as full. Else prove '..UptoSaid'. A law counts once. -/
mutual
def uptoBulk {H : Type} : DataW H → Nat
  | .lit (.string bytes) => bytes.length + 1
  | .lit _ => 1
  | .nil => 1
  | .ptr d => uptoBulk d + 1
  | .slice elems spare => uptoBulkAll elems + uptoBulkAll spare + 1
  | .agg parts => uptoBulkAll parts + 1
  | .iface _ d => uptoBulk d + 1
  | .map entries => uptoBulkEntries entries + 1
  | .held _ => 1
def uptoBulkAll {H : Type} : List (DataW H) → Nat
  | [] => 0
  | d :: r => uptoBulk d + uptoBulkAll r
def uptoBulkEntries {H : Type} : List (Lit × DataW H) → Nat
  | [] => 0
  | x :: r => uptoBulkEntry x + uptoBulkEntries r
def uptoBulkEntry {H : Type} : Lit × DataW H → Nat
  | (.string bytes, d) => bytes.length + uptoBulk d + 1
  | (_, d) => uptoBulk d + 1
 end
def uptoSmall : (H : Type) → List (DataW H) → Bool := fun _ ds => decide (uptoBulkAll ds ≤ 1048576)
def OpenSpec.upto (s : _root_.Go.ChangeSpec) : _root_.Go.OpenSpec := { _root_.Go.OpenSpec.ofChange s with cond := some uptoSmall }

/-- 'taffraillaw03.Utf8inDecodes', WHERE WHAT IT READS IS OF BULK AT MOST 1048576: true; the input reads as it did. -/
def utf8inDecodesUptoRow : OpenClaim := { program := "ytncjlbbbojebhaa", sum := "e364966f61bc2ba17691d22009239782f8b2c88c68bb913c733495be266ea6bd", func := "taffrail/taffraillaw03.Utf8inDecodes", spec := "utf8inDecodes", apart := false, narrowed := true }
def Utf8inDecodesUptoSaid : Prop := utf8inDecodesUptoRow.holds Try.pinned (OpenSpec.upto utf8inDecodesSpec)

/-- 'taffraillaw03.Utf8inEncodes', WHERE WHAT IT READS IS OF BULK AT MOST 1048576: true; the input reads as it did. -/
def utf8inEncodesUptoRow : OpenClaim := { program := "ytncjlbbbojebhaa", sum := "e364966f61bc2ba17691d22009239782f8b2c88c68bb913c733495be266ea6bd", func := "taffrail/taffraillaw03.Utf8inEncodes", spec := "utf8inEncodes", apart := false, narrowed := true }
def Utf8inEncodesUptoSaid : Prop := utf8inEncodesUptoRow.holds Try.pinned (OpenSpec.upto utf8inEncodesSpec)

/-- 'taffraillaw03.Utf8inSpans', WHERE WHAT IT READS IS OF BULK AT MOST 1048576: true; the input reads as it did. -/
def utf8inSpansUptoRow : OpenClaim := { program := "ytncjlbbbojebhaa", sum := "e364966f61bc2ba17691d22009239782f8b2c88c68bb913c733495be266ea6bd", func := "taffrail/taffraillaw03.Utf8inSpans", spec := "utf8inSpans", apart := false, narrowed := true }
def Utf8inSpansUptoSaid : Prop := utf8inSpansUptoRow.holds Try.pinned (OpenSpec.upto utf8inSpansSpec)

/-- 'taffraillaw03.Utf8inCopies', WHERE WHAT IT READS IS OF BULK AT MOST 1048576: true; the input reads as it did. -/
def utf8inCopiesUptoRow : OpenClaim := { program := "ytncjlbbbojebhaa", sum := "e364966f61bc2ba17691d22009239782f8b2c88c68bb913c733495be266ea6bd", func := "taffrail/taffraillaw03.Utf8inCopies", spec := "utf8inCopies", apart := false, narrowed := true }
def Utf8inCopiesUptoSaid : Prop := utf8inCopiesUptoRow.holds Try.pinned (OpenSpec.upto utf8inCopiesSpec)

end Rows
end Go.Proofs.Ytncjlbbbojebhaa
