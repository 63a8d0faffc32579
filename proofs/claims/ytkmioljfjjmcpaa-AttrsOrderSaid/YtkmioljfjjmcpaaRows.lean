/-
  No cell of these rows narrows 'for every input' (looked for: loops, veiled, ifaces, maps, wideKeys, modest, calm, conditions, laid).
  DERIVED. THE GIVEN ROWS OF THIS SEAT. 5 by the template 'for every input the law returns true; each argument reads behind the call as it read before'; 0 by the template 'total and deterministic' (their statements: YtkmioljfjjmcpaaTotals.lean).
  GIVEN WITH THE SEED: the statements are not yours to turn. If you find one false, say at which input.
  Laid BY PROGRAM, IN A SANDBOX (cutbox-rows.mjs): the forced cells as the released guide's own fill.sh prints them over the translation 9a87364fa0b52a56… (all of the seat's roots in one cut). By AI agents, Wed Nov 11 2026. No macro, syntax, notation, axiom, sorry.
-/
import Derived.Test.YtkmioljfjjmcpaaChecked
import GoSem.Claim
import GoSem.ClaimJoined
import GoSem.ClaimMapViews
import Derived.JoinedTies
import Derived.KernelRfl
namespace Go.Proofs.Ytkmioljfjjmcpaa
/- THE CELL 'sum', in the pinned program and in every row, IS THE sha256 OF THE DUMP (.gsa) THAT YtkmioljfjjmcpaaProg.lean LOADS. Nothing in Lean hashes anything: it is a label: what it is worth is what the hold of that sum in a sandbox is worth. -/
noncomputable def Try.pinned : Pinned := { name := "ytkmioljfjjmcpaa", sum := "9a87364fa0b52a56a0ab4ed0443e69fd6e1a554be9ce1098f78dda1334f83d53", checked := Try.checked }
namespace Rows
def none {H : Type} : Left H := { results := [], args := [] }

/-- 'taffraillaw08.AttrsGets': WHATEVER THE INPUT: true; the input reads as it did. -/
def attrsGetsSpec : ChangeSpec := { name := "attrsGets", fn := fun _ => fun
  | [d1, d2] => { results := [.lit (.bool true)], args := [d1, d2] }
  | _ => none }
def attrsGetsRow : OpenClaim := { program := "ytkmioljfjjmcpaa", sum := "9a87364fa0b52a56a0ab4ed0443e69fd6e1a554be9ce1098f78dda1334f83d53", func := "taffrail/taffraillaw08.AttrsGets", spec := "attrsGets", unfollowed := true, recurses := true, apart := false }
def AttrsGetsSaid : Prop := attrsGetsRow.holds Try.pinned (OpenSpec.ofChange attrsGetsSpec)

/-- ITS FALSE NEIGHBOUR: 'it returns false'. Refute it at one input. -/
def attrsGetsWrong : ChangeSpec := { name := "attrsGets", fn := fun _ => fun
  | [d1, d2] => { results := [.lit (.bool false)], args := [d1, d2] }
  | _ => none }
def AttrsGetsWrongFalsely : Prop := attrsGetsRow.holds Try.pinned (OpenSpec.ofChange attrsGetsWrong)

/-- 'taffraillaw08.AttrsAdds': WHATEVER THE INPUT: true; the input reads as it did. -/
def attrsAddsSpec : ChangeSpec := { name := "attrsAdds", fn := fun _ => fun
  | [d1, d2, d3] => { results := [.lit (.bool true)], args := [d1, d2, d3] }
  | _ => none }
def attrsAddsRow : OpenClaim := { program := "ytkmioljfjjmcpaa", sum := "9a87364fa0b52a56a0ab4ed0443e69fd6e1a554be9ce1098f78dda1334f83d53", func := "taffrail/taffraillaw08.AttrsAdds", spec := "attrsAdds", unfollowed := true, recurses := true, apart := false }
def AttrsAddsSaid : Prop := attrsAddsRow.holds Try.pinned (OpenSpec.ofChange attrsAddsSpec)

/-- ITS FALSE NEIGHBOUR: 'it returns false'. Refute it at one input. -/
def attrsAddsWrong : ChangeSpec := { name := "attrsAdds", fn := fun _ => fun
  | [d1, d2, d3] => { results := [.lit (.bool false)], args := [d1, d2, d3] }
  | _ => none }
def AttrsAddsWrongFalsely : Prop := attrsAddsRow.holds Try.pinned (OpenSpec.ofChange attrsAddsWrong)

/-- 'taffraillaw08.AttrsOnce': WHATEVER THE INPUT: true; the input reads as it did. -/
def attrsOnceSpec : ChangeSpec := { name := "attrsOnce", fn := fun _ => fun
  | [d1, d2] => { results := [.lit (.bool true)], args := [d1, d2] }
  | _ => none }
def attrsOnceRow : OpenClaim := { program := "ytkmioljfjjmcpaa", sum := "9a87364fa0b52a56a0ab4ed0443e69fd6e1a554be9ce1098f78dda1334f83d53", func := "taffrail/taffraillaw08.AttrsOnce", spec := "attrsOnce", unfollowed := true, recurses := true, apart := false }
def AttrsOnceSaid : Prop := attrsOnceRow.holds Try.pinned (OpenSpec.ofChange attrsOnceSpec)

/-- ITS FALSE NEIGHBOUR: 'it returns false'. Refute it at one input. -/
def attrsOnceWrong : ChangeSpec := { name := "attrsOnce", fn := fun _ => fun
  | [d1, d2] => { results := [.lit (.bool false)], args := [d1, d2] }
  | _ => none }
def AttrsOnceWrongFalsely : Prop := attrsOnceRow.holds Try.pinned (OpenSpec.ofChange attrsOnceWrong)

/-- 'taffraillaw08.AttrsSame': WHATEVER THE INPUT: true; the input reads as it did. -/
def attrsSameSpec : ChangeSpec := { name := "attrsSame", fn := fun _ => fun
  | [d1, d2] => { results := [.lit (.bool true)], args := [d1, d2] }
  | _ => none }
def attrsSameRow : OpenClaim := { program := "ytkmioljfjjmcpaa", sum := "9a87364fa0b52a56a0ab4ed0443e69fd6e1a554be9ce1098f78dda1334f83d53", func := "taffrail/taffraillaw08.AttrsSame", spec := "attrsSame", unfollowed := true, recurses := true, apart := false }
def AttrsSameSaid : Prop := attrsSameRow.holds Try.pinned (OpenSpec.ofChange attrsSameSpec)

/-- ITS FALSE NEIGHBOUR: 'it returns false'. Refute it at one input. -/
def attrsSameWrong : ChangeSpec := { name := "attrsSame", fn := fun _ => fun
  | [d1, d2] => { results := [.lit (.bool false)], args := [d1, d2] }
  | _ => none }
def AttrsSameWrongFalsely : Prop := attrsSameRow.holds Try.pinned (OpenSpec.ofChange attrsSameWrong)

/-- 'taffraillaw08.AttrsOrder': WHATEVER THE INPUT: true; the input reads as it did. -/
def attrsOrderSpec : ChangeSpec := { name := "attrsOrder", fn := fun _ => fun
  | [d1, d2] => { results := [.lit (.bool true)], args := [d1, d2] }
  | _ => none }
def attrsOrderRow : OpenClaim := { program := "ytkmioljfjjmcpaa", sum := "9a87364fa0b52a56a0ab4ed0443e69fd6e1a554be9ce1098f78dda1334f83d53", func := "taffrail/taffraillaw08.AttrsOrder", spec := "attrsOrder", unfollowed := true, recurses := true, apart := false }
def AttrsOrderSaid : Prop := attrsOrderRow.holds Try.pinned (OpenSpec.ofChange attrsOrderSpec)

/-- ITS FALSE NEIGHBOUR: 'it returns false'. Refute it at one input. -/
def attrsOrderWrong : ChangeSpec := { name := "attrsOrder", fn := fun _ => fun
  | [d1, d2] => { results := [.lit (.bool false)], args := [d1, d2] }
  | _ => none }
def AttrsOrderWrongFalsely : Prop := attrsOrderRow.holds Try.pinned (OpenSpec.ofChange attrsOrderWrong)

/- THE SECOND FORM. 'bulk': how many values and letters a reading holds, each counted each time it is reached (what is shared counts as often as it is met; a slice's spare places count too). A statement '..UptoSaid' is the law's where the arguments, and the package variables that the reading takes, are together of bulk at most 1048576: NARROWER than '..Said'. Prove '..Said' where nothing that the law and all that it calls make is longer than what came in: it says more and counts as full. Else prove '..UptoSaid'. A law counts once. -/
mutual
def uptoBulk {H : Type} : DataW H → Nat
  | .lit (.string bytes) => bytes.length + 1
  | .lit _ => 1
  | .nil => 1
  | .ptr d => uptoBulk d + 1
  | .slice elems spare => uptoBulkAll elems + uptoBulkAll spare + 1
  | .agg parts => uptoBulkAll parts + 1
  | .iface _ d => uptoBulk d + 1
  | .map entries => uptoBulkEntries entries + 1
  | .held _ => 1
def uptoBulkAll {H : Type} : List (DataW H) → Nat
  | [] => 0
  | d :: r => uptoBulk d + uptoBulkAll r
def uptoBulkEntries {H : Type} : List (Lit × DataW H) → Nat
  | [] => 0
  | x :: r => uptoBulkEntry x + uptoBulkEntries r
def uptoBulkEntry {H : Type} : Lit × DataW H → Nat
  | (.string bytes, d) => bytes.length + uptoBulk d + 1
  | (_, d) => uptoBulk d + 1
 end
def uptoSmall : (H : Type) → List (DataW H) → Bool := fun _ ds => decide (uptoBulkAll ds ≤ 1048576)
def OpenSpec.upto (s : _root_.Go.ChangeSpec) : _root_.Go.OpenSpec := { _root_.Go.OpenSpec.ofChange s with cond := some uptoSmall }

/-- 'taffraillaw08.AttrsGets', WHERE WHAT IT READS IS OF BULK AT MOST 1048576: true; the input reads as it did. -/
def attrsGetsUptoRow : OpenClaim := { program := "ytkmioljfjjmcpaa", sum := "9a87364fa0b52a56a0ab4ed0443e69fd6e1a554be9ce1098f78dda1334f83d53", func := "taffrail/taffraillaw08.AttrsGets", spec := "attrsGets", unfollowed := true, recurses := true, apart := false, narrowed := true }
def AttrsGetsUptoSaid : Prop := attrsGetsUptoRow.holds Try.pinned (OpenSpec.upto attrsGetsSpec)

/-- 'taffraillaw08.AttrsAdds', WHERE WHAT IT READS IS OF BULK AT MOST 1048576: true; the input reads as it did. -/
def attrsAddsUptoRow : OpenClaim := { program := "ytkmioljfjjmcpaa", sum := "9a87364fa0b52a56a0ab4ed0443e69fd6e1a554be9ce1098f78dda1334f83d53", func := "taffrail/taffraillaw08.AttrsAdds", spec := "attrsAdds", unfollowed := true, recurses := true, apart := false, narrowed := true }
def AttrsAddsUptoSaid : Prop := attrsAddsUptoRow.holds Try.pinned (OpenSpec.upto attrsAddsSpec)

/-- 'taffraillaw08.AttrsOnce', WHERE WHAT IT READS IS OF BULK AT MOST 1048576: true; the input reads as it did. -/
def attrsOnceUptoRow : OpenClaim := { program := "ytkmioljfjjmcpaa", sum := "9a87364fa0b52a56a0ab4ed0443e69fd6e1a554be9ce1098f78dda1334f83d53", func := "taffrail/taffraillaw08.AttrsOnce", spec := "attrsOnce", unfollowed := true, recurses := true, apart := false, narrowed := true }
def AttrsOnceUptoSaid : Prop := attrsOnceUptoRow.holds Try.pinned (OpenSpec.upto attrsOnceSpec)

/-- 'taffraillaw08.AttrsSame', WHERE WHAT IT READS IS OF BULK AT MOST 1048576: true; the input reads as it did. -/
def attrsSameUptoRow : OpenClaim := { program := "ytkmioljfjjmcpaa", sum := "9a87364fa0b52a56a0ab4ed0443e69fd6e1a554be9ce1098f78dda1334f83d53", func := "taffrail/taffraillaw08.AttrsSame", spec := "attrsSame", unfollowed := true, recurses := true, apart := false, narrowed := true }
def AttrsSameUptoSaid : Prop := attrsSameUptoRow.holds Try.pinned (OpenSpec.upto attrsSameSpec)

/-- 'taffraillaw08.AttrsOrder', WHERE WHAT IT READS IS OF BULK AT MOST 1048576: true; the input reads as it did. -/
def attrsOrderUptoRow : OpenClaim := { program := "ytkmioljfjjmcpaa", sum := "9a87364fa0b52a56a0ab4ed0443e69fd6e1a554be9ce1098f78dda1334f83d53", func := "taffrail/taffraillaw08.AttrsOrder", spec := "attrsOrder", unfollowed := true, recurses := true, apart := false, narrowed := true }
def AttrsOrderUptoSaid : Prop := attrsOrderUptoRow.holds Try.pinned (OpenSpec.upto attrsOrderSpec)

end Rows
end Go.Proofs.Ytkmioljfjjmcpaa
