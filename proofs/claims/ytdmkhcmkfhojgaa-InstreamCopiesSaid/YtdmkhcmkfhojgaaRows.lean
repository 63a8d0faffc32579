/-
  No cell of these rows narrows 'for every input' (looked for: loops, veiled, ifaces, maps, wideKeys, modest, calm, conditions, laid).
  DERIVED. THE GIVEN ROWS OF THIS SEAT. 4 by the template 'for every input the law returns true; each argument reads behind the call as it read before'; 0 by the template 'total and deterministic' (their statements: YtdmkhcmkfhojgaaTotals.lean).
  GIVEN WITH THE SEED: the statements are not yours to turn. If you find one false, say at which input.
  Laid BY PROGRAM, IN A SANDBOX (cutbox-rows.mjs): the forced cells as the released guide's own fill.sh prints them over the translation d9268d36f19e570b… (all of the seat's roots in one cut). By AI agents, Wed Nov 11 2026. No macro, syntax, notation, axiom, sorry.
-/
import Derived.Test.YtdmkhcmkfhojgaaChecked
import GoSem.Claim
import GoSem.ClaimJoined
import GoSem.ClaimMapViews
import Derived.JoinedTies
import Derived.KernelRfl
namespace Go.Proofs.Ytdmkhcmkfhojgaa
/- THE CELL 'sum', in the pinned program and in every row, IS THE sha256 OF THE DUMP (.gsa) THAT YtdmkhcmkfhojgaaProg.lean LOADS. Nothing in Lean hashes anything: it is a label: what it is worth is what the hold of that sum in a sandbox is worth. -/
noncomputable def Try.pinned : Pinned := { name := "ytdmkhcmkfhojgaa", sum := "d9268d36f19e570bf9fac042de397ea2d7b1bfecb80669612498173fe911acdd", checked := Try.checked }
namespace Rows
def none {H : Type} : Left H := { results := [], args := [] }

/-- 'taffraillaw04.InstreamChars': WHATEVER THE INPUT: true; the input reads as it did. -/
def instreamCharsSpec : ChangeSpec := { name := "instreamChars", fn := fun _ => fun
  | [d] => { results := [.lit (.bool true)], args := [d] }
  | _ => none }
def instreamCharsRow : OpenClaim := { program := "ytdmkhcmkfhojgaa", sum := "d9268d36f19e570bf9fac042de397ea2d7b1bfecb80669612498173fe911acdd", func := "taffrail/taffraillaw04.InstreamChars", spec := "instreamChars", unfollowed := true, recurses := true, apart := false }
def InstreamCharsSaid : Prop := instreamCharsRow.holds Try.pinned (OpenSpec.ofChange instreamCharsSpec)

/-- ITS FALSE NEIGHBOUR: 'it returns false'. Refute it at one input. -/
def instreamCharsWrong : ChangeSpec := { name := "instreamChars", fn := fun _ => fun
  | [d] => { results := [.lit (.bool false)], args := [d] }
  | _ => none }
def InstreamCharsWrongFalsely : Prop := instreamCharsRow.holds Try.pinned (OpenSpec.ofChange instreamCharsWrong)

/-- 'taffraillaw04.InstreamPieces': WHATEVER THE INPUT: true; the input reads as it did. -/
def instreamPiecesSpec : ChangeSpec := { name := "instreamPieces", fn := fun _ => fun
  | [d] => { results := [.lit (.bool true)], args := [d] }
  | _ => none }
def instreamPiecesRow : OpenClaim := { program := "ytdmkhcmkfhojgaa", sum := "d9268d36f19e570bf9fac042de397ea2d7b1bfecb80669612498173fe911acdd", func := "taffrail/taffraillaw04.InstreamPieces", spec := "instreamPieces", unfollowed := true, recurses := true, apart := false }
def InstreamPiecesSaid : Prop := instreamPiecesRow.holds Try.pinned (OpenSpec.ofChange instreamPiecesSpec)

/-- ITS FALSE NEIGHBOUR: 'it returns false'. Refute it at one input. -/
def instreamPiecesWrong : ChangeSpec := { name := "instreamPieces", fn := fun _ => fun
  | [d] => { results := [.lit (.bool false)], args := [d] }
  | _ => none }
def InstreamPiecesWrongFalsely : Prop := instreamPiecesRow.holds Try.pinned (OpenSpec.ofChange instreamPiecesWrong)

/-- 'taffraillaw04.InstreamLines': WHATEVER THE INPUT: true; the input reads as it did. -/
def instreamLinesSpec : ChangeSpec := { name := "instreamLines", fn := fun _ => fun
  | [d] => { results := [.lit (.bool true)], args := [d] }
  | _ => none }
def instreamLinesRow : OpenClaim := { program := "ytdmkhcmkfhojgaa", sum := "d9268d36f19e570bf9fac042de397ea2d7b1bfecb80669612498173fe911acdd", func := "taffrail/taffraillaw04.InstreamLines", spec := "instreamLines", unfollowed := true, recurses := true, apart := false }
def InstreamLinesSaid : Prop := instreamLinesRow.holds Try.pinned (OpenSpec.ofChange instreamLinesSpec)

/-- ITS FALSE NEIGHBOUR: 'it returns false'. Refute it at one input. -/
def instreamLinesWrong : ChangeSpec := { name := "instreamLines", fn := fun _ => fun
  | [d] => { results := [.lit (.bool false)], args := [d] }
  | _ => none }
def InstreamLinesWrongFalsely : Prop := instreamLinesRow.holds Try.pinned (OpenSpec.ofChange instreamLinesWrong)

/-- 'taffraillaw04.InstreamCopies': WHATEVER THE INPUT: true; the input reads as it did. -/
def instreamCopiesSpec : ChangeSpec := { name := "instreamCopies", fn := fun _ => fun
  | [d1, d2, d3] => { results := [.lit (.bool true)], args := [d1, d2, d3] }
  | _ => none }
def instreamCopiesRow : OpenClaim := { program := "ytdmkhcmkfhojgaa", sum := "d9268d36f19e570bf9fac042de397ea2d7b1bfecb80669612498173fe911acdd", func := "taffrail/taffraillaw04.InstreamCopies", spec := "instreamCopies", unfollowed := true, recurses := true, apart := false }
def InstreamCopiesSaid : Prop := instreamCopiesRow.holds Try.pinned (OpenSpec.ofChange instreamCopiesSpec)

/-- ITS FALSE NEIGHBOUR: 'it returns false'. Refute it at one input. -/
def instreamCopiesWrong : ChangeSpec := { name := "instreamCopies", fn := fun _ => fun
  | [d1, d2, d3] => { results := [.lit (.bool false)], args := [d1, d2, d3] }
  | _ => none }
def InstreamCopiesWrongFalsely : Prop := instreamCopiesRow.holds Try.pinned (OpenSpec.ofChange instreamCopiesWrong)

/- THE SECOND FORM. 'bulk': how many values and letters a reading holds, each counted each time it is reached (what is shared counts as often as it is met; a slice's spare places count too). A statement '..UptoSaid' is the law's where the arguments, and the package variables that the reading takes, are together of bulk at most 1048576: NARROWER than '..Said'. Prove '..Said' where nothing that the law and all that it calls make is longer than what came in: it says more and counts as full. Else prove '..UptoSaid'. A law counts once. -/
mutual
def uptoBulk {H : Type} : DataW H → Nat
  | .lit (.string bytes) => bytes.length + 1
  | .lit _ => 1
  | .nil => 1
  | .ptr d => uptoBulk d + 1
  | .slice elems spare => uptoBulkAll elems + uptoBulkAll spare + 1
  | .agg parts => uptoBulkAll parts + 1
  | .iface _ d => uptoBulk d + 1
  | .map entries => uptoBulkEntries entries + 1
  | .held _ => 1
def uptoBulkAll {H : Type} : List (DataW H) → Nat
  | [] => 0
  | d :: r => uptoBulk d + uptoBulkAll r
def uptoBulkEntries {H : Type} : List (Lit × DataW H) → Nat
  | [] => 0
  | x :: r => uptoBulkEntry x + uptoBulkEntries r
def uptoBulkEntry {H : Type} : Lit × DataW H → Nat
  | (.string bytes, d) => bytes.length + uptoBulk d + 1
  | (_, d) => uptoBulk d + 1
 end
def uptoSmall : (H : Type) → List (DataW H) → Bool := fun _ ds => decide (uptoBulkAll ds ≤ 1048576)
def OpenSpec.upto (s : _root_.Go.ChangeSpec) : _root_.Go.OpenSpec := { _root_.Go.OpenSpec.ofChange s with cond := some uptoSmall }

/-- 'taffraillaw04.InstreamChars', WHERE WHAT IT READS IS OF BULK AT MOST 1048576: true; the input reads as it did. -/
def instreamCharsUptoRow : OpenClaim := { program := "ytdmkhcmkfhojgaa", sum := "d9268d36f19e570bf9fac042de397ea2d7b1bfecb80669612498173fe911acdd", func := "taffrail/taffraillaw04.InstreamChars", spec := "instreamChars", unfollowed := true, recurses := true, apart := false, narrowed := true }
def InstreamCharsUptoSaid : Prop := instreamCharsUptoRow.holds Try.pinned (OpenSpec.upto instreamCharsSpec)

/-- 'taffraillaw04.InstreamPieces', WHERE WHAT IT READS IS OF BULK AT MOST 1048576: true; the input reads as it did. -/
def instreamPiecesUptoRow : OpenClaim := { program := "ytdmkhcmkfhojgaa", sum := "d9268d36f19e570bf9fac042de397ea2d7b1bfecb80669612498173fe911acdd", func := "taffrail/taffraillaw04.InstreamPieces", spec := "instreamPieces", unfollowed := true, recurses := true, apart := false, narrowed := true }
def InstreamPiecesUptoSaid : Prop := instreamPiecesUptoRow.holds Try.pinned (OpenSpec.upto instreamPiecesSpec)

/-- 'taffraillaw04.InstreamLines', WHERE WHAT IT READS IS OF BULK AT MOST 1048576: true; the input reads as it did. -/
def instreamLinesUptoRow : OpenClaim := { program := "ytdmkhcmkfhojgaa", sum := "d9268d36f19e570bf9fac042de397ea2d7b1bfecb80669612498173fe911acdd", func := "taffrail/taffraillaw04.InstreamLines", spec := "instreamLines", unfollowed := true, recurses := true, apart := false, narrowed := true }
def InstreamLinesUptoSaid : Prop := instreamLinesUptoRow.holds Try.pinned (OpenSpec.upto instreamLinesSpec)

/-- 'taffraillaw04.InstreamCopies', WHERE WHAT IT READS IS OF BULK AT MOST 1048576: true; the input reads as it did. -/
def instreamCopiesUptoRow : OpenClaim := { program := "ytdmkhcmkfhojgaa", sum := "d9268d36f19e570bf9fac042de397ea2d7b1bfecb80669612498173fe911acdd", func := "taffrail/taffraillaw04.InstreamCopies", spec := "instreamCopies", unfollowed := true, recurses := true, apart := false, narrowed := true }
def InstreamCopiesUptoSaid : Prop := instreamCopiesUptoRow.holds Try.pinned (OpenSpec.upto instreamCopiesSpec)

end Rows
end Go.Proofs.Ytdmkhcmkfhojgaa
