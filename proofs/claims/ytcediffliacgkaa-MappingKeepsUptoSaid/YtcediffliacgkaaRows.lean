/-
  No cell of these rows narrows 'for every input' (looked for: loops, veiled, ifaces, maps, wideKeys, modest, calm, conditions, laid).
  DERIVED. THE GIVEN ROWS OF THIS SEAT. 3 by the template 'for every input the law returns true; each argument reads behind the call as it read before'; 0 by the template 'total and deterministic' (their statements: YtcediffliacgkaaTotals.lean).
  GIVEN WITH THE SEED: the statements are not yours to turn. If you find one false, say at which input.
  Laid BY PROGRAM, IN A SANDBOX (cutbox-rows.mjs): the forced cells as the released guide's own fill.sh prints them over the translation 876f8ad30115b0a0… (all of the seat's roots in one cut). By AI agents, Wed Nov 11 2026. No macro, syntax, notation, axiom, sorry.
-/
import Derived.Test.YtcediffliacgkaaChecked
import GoSem.Claim
import GoSem.ClaimJoined
import GoSem.ClaimMapViews
import Derived.JoinedTies
import Derived.KernelRfl
namespace Go.Proofs.Ytcediffliacgkaa
/- THE CELL 'sum', in the pinned program and in every row, IS THE sha256 OF THE DUMP (.gsa) THAT YtcediffliacgkaaProg.lean LOADS. Nothing in Lean hashes anything: it is a label: what it is worth is what the hold of that sum in a sandbox is worth. -/
noncomputable def Try.pinned : Pinned := { name := "ytcediffliacgkaa", sum := "876f8ad30115b0a0dba2ddddfabe8d31d7321c54bbbcf763e5fea9dbf25d9343", checked := Try.checked }
namespace Rows
def none {H : Type} : Left H := { results := [], args := [] }

/-- 'taffraillaw02.MappingPoints': WHATEVER THE INPUT: true; the input reads as it did. -/
def mappingPointsSpec : ChangeSpec := { name := "mappingPoints", fn := fun _ => fun
  | [d1, d2, d3] => { results := [.lit (.bool true)], args := [d1, d2, d3] }
  | _ => none }
def mappingPointsRow : OpenClaim := { program := "ytcediffliacgkaa", sum := "876f8ad30115b0a0dba2ddddfabe8d31d7321c54bbbcf763e5fea9dbf25d9343", func := "taffrail/taffraillaw02.MappingPoints", spec := "mappingPoints", apart := false }
def MappingPointsSaid : Prop := mappingPointsRow.holds Try.pinned (OpenSpec.ofChange mappingPointsSpec)

/-- ITS FALSE NEIGHBOUR: 'it returns false'. Refute it at one input. -/
def mappingPointsWrong : ChangeSpec := { name := "mappingPoints", fn := fun _ => fun
  | [d1, d2, d3] => { results := [.lit (.bool false)], args := [d1, d2, d3] }
  | _ => none }
def MappingPointsWrongFalsely : Prop := mappingPointsRow.holds Try.pinned (OpenSpec.ofChange mappingPointsWrong)

/-- 'taffraillaw02.MappingKeeps': WHATEVER THE INPUT: true; the input reads as it did. -/
def mappingKeepsSpec : ChangeSpec := { name := "mappingKeeps", fn := fun _ => fun
  | [d1, d2, d3] => { results := [.lit (.bool true)], args := [d1, d2, d3] }
  | _ => none }
def mappingKeepsRow : OpenClaim := { program := "ytcediffliacgkaa", sum := "876f8ad30115b0a0dba2ddddfabe8d31d7321c54bbbcf763e5fea9dbf25d9343", func := "taffrail/taffraillaw02.MappingKeeps", spec := "mappingKeeps", apart := false }
def MappingKeepsSaid : Prop := mappingKeepsRow.holds Try.pinned (OpenSpec.ofChange mappingKeepsSpec)

/-- ITS FALSE NEIGHBOUR: 'it returns false'. Refute it at one input. -/
def mappingKeepsWrong : ChangeSpec := { name := "mappingKeeps", fn := fun _ => fun
  | [d1, d2, d3] => { results := [.lit (.bool false)], args := [d1, d2, d3] }
  | _ => none }
def MappingKeepsWrongFalsely : Prop := mappingKeepsRow.holds Try.pinned (OpenSpec.ofChange mappingKeepsWrong)

/-- 'taffraillaw02.MappingOrder': WHATEVER THE INPUT: true; the input reads as it did. -/
def mappingOrderSpec : ChangeSpec := { name := "mappingOrder", fn := fun _ => fun
  | [d1, d2, d3] => { results := [.lit (.bool true)], args := [d1, d2, d3] }
  | _ => none }
def mappingOrderRow : OpenClaim := { program := "ytcediffliacgkaa", sum := "876f8ad30115b0a0dba2ddddfabe8d31d7321c54bbbcf763e5fea9dbf25d9343", func := "taffrail/taffraillaw02.MappingOrder", spec := "mappingOrder", apart := false }
def MappingOrderSaid : Prop := mappingOrderRow.holds Try.pinned (OpenSpec.ofChange mappingOrderSpec)

/-- ITS FALSE NEIGHBOUR: 'it returns false'. Refute it at one input. -/
def mappingOrderWrong : ChangeSpec := { name := "mappingOrder", fn := fun _ => fun
  | [d1, d2, d3] => { results := [.lit (.bool false)], args := [d1, d2, d3] }
  | _ => none }
def MappingOrderWrongFalsely : Prop := mappingOrderRow.holds Try.pinned (OpenSpec.ofChange mappingOrderWrong)

/- THE SECOND FORM. 'bulk': how many values and letters a reading holds, each counted each time it is reached (what is shared counts as often as it is met; a slice's spare places count too). A statement '..UptoSaid' is the law's where the arguments, and the package variables that the reading takes, are together of bulk at most 1048576: NARROWER than '..Said'. Prove '..Said' where nothing that the law and all that it calls make is longer than what came in: it says more and counts as full. Else prove '..UptoSaid'. A law counts once. -/
mutual
def uptoBulk {H : Type} : DataW H → Nat
  | .lit (.string bytes) => bytes.length + 1
  | .lit _ => 1
  | .nil => 1
  | .ptr d => uptoBulk d + 1
  | .slice elems spare => uptoBulkAll elems + uptoBulkAll spare + 1
  | .agg parts => uptoBulkAll parts + 1
  | .iface _ d => uptoBulk d + 1
  | .map entries => uptoBulkEntries entries + 1
  | .held _ => 1
def uptoBulkAll {H : Type} : List (DataW H) → Nat
  | [] => 0
  | d :: r => uptoBulk d + uptoBulkAll r
def uptoBulkEntries {H : Type} : List (Lit × DataW H) → Nat
  | [] => 0
  | x :: r => uptoBulkEntry x + uptoBulkEntries r
def uptoBulkEntry {H : Type} : Lit × DataW H → Nat
  | (.string bytes, d) => bytes.length + uptoBulk d + 1
  | (_, d) => uptoBulk d + 1
 end
def uptoSmall : (H : Type) → List (DataW H) → Bool := fun _ ds => decide (uptoBulkAll ds ≤ 1048576)
def OpenSpec.upto (s : _root_.Go.ChangeSpec) : _root_.Go.OpenSpec := { _root_.Go.OpenSpec.ofChange s with cond := some uptoSmall }

/-- 'taffraillaw02.MappingPoints', WHERE WHAT IT READS IS OF BULK AT MOST 1048576: true; the input reads as it did. -/
def mappingPointsUptoRow : OpenClaim := { program := "ytcediffliacgkaa", sum := "876f8ad30115b0a0dba2ddddfabe8d31d7321c54bbbcf763e5fea9dbf25d9343", func := "taffrail/taffraillaw02.MappingPoints", spec := "mappingPoints", apart := false, narrowed := true }
def MappingPointsUptoSaid : Prop := mappingPointsUptoRow.holds Try.pinned (OpenSpec.upto mappingPointsSpec)

/-- 'taffraillaw02.MappingKeeps', WHERE WHAT IT READS IS OF BULK AT MOST 1048576: true; the input reads as it did. -/
def mappingKeepsUptoRow : OpenClaim := { program := "ytcediffliacgkaa", sum := "876f8ad30115b0a0dba2ddddfabe8d31d7321c54bbbcf763e5fea9dbf25d9343", func := "taffrail/taffraillaw02.MappingKeeps", spec := "mappingKeeps", apart := false, narrowed := true }
def MappingKeepsUptoSaid : Prop := mappingKeepsUptoRow.holds Try.pinned (OpenSpec.upto mappingKeepsSpec)

/-- 'taffraillaw02.MappingOrder', WHERE WHAT IT READS IS OF BULK AT MOST 1048576: true; the input reads as it did. -/
def mappingOrderUptoRow : OpenClaim := { program := "ytcediffliacgkaa", sum := "876f8ad30115b0a0dba2ddddfabe8d31d7321c54bbbcf763e5fea9dbf25d9343", func := "taffrail/taffraillaw02.MappingOrder", spec := "mappingOrder", apart := false, narrowed := true }
def MappingOrderUptoSaid : Prop := mappingOrderUptoRow.holds Try.pinned (OpenSpec.upto mappingOrderSpec)

end Rows
end Go.Proofs.Ytcediffliacgkaa
