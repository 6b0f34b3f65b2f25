/-
  No cell of these rows narrows 'for every input' (looked for: loops, veiled, ifaces, maps, wideKeys, modest, calm, conditions, laid).
  DERIVED. THE GIVEN ROWS OF THIS SEAT. 7 by the template 'for every input the law returns true; each argument reads behind the call as it read before'; 0 by the template 'total and deterministic' (their statements: YtagkhhoimgighaaTotals.lean).
  GIVEN WITH THE SEED: the statements are not yours to turn. If you find one false, say at which input.
  Laid BY PROGRAM, IN A SANDBOX (cutbox-rows.mjs): the forced cells as the released guide's own fill.sh prints them over the translation 48388136089ca0a7… (all of the seat's roots in one cut). By AI agents, Wed Nov 11 2026. No macro, syntax, notation, axiom, sorry.
-/
import Derived.Test.YtagkhhoimgighaaChecked
import GoSem.Claim
import GoSem.ClaimJoined
import GoSem.ClaimMapViews
import Derived.JoinedTies
import Derived.KernelRfl
namespace Go.Proofs.Ytagkhhoimgighaa
/- THE CELL 'sum', in the pinned program and in every row, IS THE sha256 OF THE DUMP (.gsa) THAT YtagkhhoimgighaaProg.lean LOADS. Nothing in Lean hashes anything: it is a label: what it is worth is what the hold of that sum in a sandbox is worth. -/
noncomputable def Try.pinned : Pinned := { name := "ytagkhhoimgighaa", sum := "48388136089ca0a7990d67240a44654731b167681efcc996a7a0843df162750d", checked := Try.checked }
namespace Rows
def none {H : Type} : Left H := { results := [], args := [] }

/-- 'replicalaw10.TlogFull': WHATEVER THE INPUT: true; the input reads as it did. -/
def tlogFullSpec : ChangeSpec := { name := "tlogFull", fn := fun _ => fun
  | [d1, d2, d3] => { results := [.lit (.bool true)], args := [d1, d2, d3] }
  | _ => none }
def tlogFullRow : OpenClaim := { program := "ytagkhhoimgighaa", sum := "48388136089ca0a7990d67240a44654731b167681efcc996a7a0843df162750d", func := "replica/replicalaw10.TlogFull", spec := "tlogFull", apart := false }
def TlogFullSaid : Prop := tlogFullRow.holds Try.pinned (OpenSpec.ofChange tlogFullSpec)

/-- ITS FALSE NEIGHBOUR: 'it returns false'. Refute it at one input. -/
def tlogFullWrong : ChangeSpec := { name := "tlogFull", fn := fun _ => fun
  | [d1, d2, d3] => { results := [.lit (.bool false)], args := [d1, d2, d3] }
  | _ => none }
def TlogFullWrongFalsely : Prop := tlogFullRow.holds Try.pinned (OpenSpec.ofChange tlogFullWrong)

/-- 'replicalaw10.TlogSettled': WHATEVER THE INPUT: true; the input reads as it did. -/
def tlogSettledSpec : ChangeSpec := { name := "tlogSettled", fn := fun _ => fun
  | [d1, d2, d3] => { results := [.lit (.bool true)], args := [d1, d2, d3] }
  | _ => none }
def tlogSettledRow : OpenClaim := { program := "ytagkhhoimgighaa", sum := "48388136089ca0a7990d67240a44654731b167681efcc996a7a0843df162750d", func := "replica/replicalaw10.TlogSettled", spec := "tlogSettled", apart := false }
def TlogSettledSaid : Prop := tlogSettledRow.holds Try.pinned (OpenSpec.ofChange tlogSettledSpec)

/-- ITS FALSE NEIGHBOUR: 'it returns false'. Refute it at one input. -/
def tlogSettledWrong : ChangeSpec := { name := "tlogSettled", fn := fun _ => fun
  | [d1, d2, d3] => { results := [.lit (.bool false)], args := [d1, d2, d3] }
  | _ => none }
def TlogSettledWrongFalsely : Prop := tlogSettledRow.holds Try.pinned (OpenSpec.ofChange tlogSettledWrong)

/-- 'replicalaw10.TlogMoves': WHATEVER THE INPUT: true; the input reads as it did. -/
def tlogMovesSpec : ChangeSpec := { name := "tlogMoves", fn := fun _ => fun
  | [d1, d2, d3] => { results := [.lit (.bool true)], args := [d1, d2, d3] }
  | _ => none }
def tlogMovesRow : OpenClaim := { program := "ytagkhhoimgighaa", sum := "48388136089ca0a7990d67240a44654731b167681efcc996a7a0843df162750d", func := "replica/replicalaw10.TlogMoves", spec := "tlogMoves", apart := false }
def TlogMovesSaid : Prop := tlogMovesRow.holds Try.pinned (OpenSpec.ofChange tlogMovesSpec)

/-- ITS FALSE NEIGHBOUR: 'it returns false'. Refute it at one input. -/
def tlogMovesWrong : ChangeSpec := { name := "tlogMoves", fn := fun _ => fun
  | [d1, d2, d3] => { results := [.lit (.bool false)], args := [d1, d2, d3] }
  | _ => none }
def TlogMovesWrongFalsely : Prop := tlogMovesRow.holds Try.pinned (OpenSpec.ofChange tlogMovesWrong)

/-- 'replicalaw10.TlogOrder': WHATEVER THE INPUT: true; the input reads as it did. -/
def tlogOrderSpec : ChangeSpec := { name := "tlogOrder", fn := fun _ => fun
  | [d1, d2, d3] => { results := [.lit (.bool true)], args := [d1, d2, d3] }
  | _ => none }
def tlogOrderRow : OpenClaim := { program := "ytagkhhoimgighaa", sum := "48388136089ca0a7990d67240a44654731b167681efcc996a7a0843df162750d", func := "replica/replicalaw10.TlogOrder", spec := "tlogOrder", apart := false }
def TlogOrderSaid : Prop := tlogOrderRow.holds Try.pinned (OpenSpec.ofChange tlogOrderSpec)

/-- ITS FALSE NEIGHBOUR: 'it returns false'. Refute it at one input. -/
def tlogOrderWrong : ChangeSpec := { name := "tlogOrder", fn := fun _ => fun
  | [d1, d2, d3] => { results := [.lit (.bool false)], args := [d1, d2, d3] }
  | _ => none }
def TlogOrderWrongFalsely : Prop := tlogOrderRow.holds Try.pinned (OpenSpec.ofChange tlogOrderWrong)

/-- 'replicalaw10.TlogAcks': WHATEVER THE INPUT: true; the input reads as it did. -/
def tlogAcksSpec : ChangeSpec := { name := "tlogAcks", fn := fun _ => fun
  | [d1, d2, d3] => { results := [.lit (.bool true)], args := [d1, d2, d3] }
  | _ => none }
def tlogAcksRow : OpenClaim := { program := "ytagkhhoimgighaa", sum := "48388136089ca0a7990d67240a44654731b167681efcc996a7a0843df162750d", func := "replica/replicalaw10.TlogAcks", spec := "tlogAcks", unfollowed := true, recurses := true, apart := false }
def TlogAcksSaid : Prop := tlogAcksRow.holds Try.pinned (OpenSpec.ofChange tlogAcksSpec)

/-- ITS FALSE NEIGHBOUR: 'it returns false'. Refute it at one input. -/
def tlogAcksWrong : ChangeSpec := { name := "tlogAcks", fn := fun _ => fun
  | [d1, d2, d3] => { results := [.lit (.bool false)], args := [d1, d2, d3] }
  | _ => none }
def TlogAcksWrongFalsely : Prop := tlogAcksRow.holds Try.pinned (OpenSpec.ofChange tlogAcksWrong)

/-- 'replicalaw10.TlogAsks': WHATEVER THE INPUT: true; the input reads as it did. -/
def tlogAsksSpec : ChangeSpec := { name := "tlogAsks", fn := fun _ => fun
  | [d1, d2, d3] => { results := [.lit (.bool true)], args := [d1, d2, d3] }
  | _ => none }
def tlogAsksRow : OpenClaim := { program := "ytagkhhoimgighaa", sum := "48388136089ca0a7990d67240a44654731b167681efcc996a7a0843df162750d", func := "replica/replicalaw10.TlogAsks", spec := "tlogAsks", unfollowed := true, recurses := true, apart := false }
def TlogAsksSaid : Prop := tlogAsksRow.holds Try.pinned (OpenSpec.ofChange tlogAsksSpec)

/-- ITS FALSE NEIGHBOUR: 'it returns false'. Refute it at one input. -/
def tlogAsksWrong : ChangeSpec := { name := "tlogAsks", fn := fun _ => fun
  | [d1, d2, d3] => { results := [.lit (.bool false)], args := [d1, d2, d3] }
  | _ => none }
def TlogAsksWrongFalsely : Prop := tlogAsksRow.holds Try.pinned (OpenSpec.ofChange tlogAsksWrong)

/-- 'replicalaw10.TlogExact': WHATEVER THE INPUT: true; the input reads as it did. -/
def tlogExactSpec : ChangeSpec := { name := "tlogExact", fn := fun _ => fun
  | [d1, d2, d3, d4, d5] => { results := [.lit (.bool true)], args := [d1, d2, d3, d4, d5] }
  | _ => none }
def tlogExactRow : OpenClaim := { program := "ytagkhhoimgighaa", sum := "48388136089ca0a7990d67240a44654731b167681efcc996a7a0843df162750d", func := "replica/replicalaw10.TlogExact", spec := "tlogExact", unfollowed := true, recurses := true, apart := false }
def TlogExactSaid : Prop := tlogExactRow.holds Try.pinned (OpenSpec.ofChange tlogExactSpec)

/-- ITS FALSE NEIGHBOUR: 'it returns false'. Refute it at one input. -/
def tlogExactWrong : ChangeSpec := { name := "tlogExact", fn := fun _ => fun
  | [d1, d2, d3, d4, d5] => { results := [.lit (.bool false)], args := [d1, d2, d3, d4, d5] }
  | _ => none }
def TlogExactWrongFalsely : Prop := tlogExactRow.holds Try.pinned (OpenSpec.ofChange tlogExactWrong)

/- THE SECOND FORM. 'bulk': how many values and letters a reading holds, each counted each time it is reached (what is shared counts as often as it is met; a slice's spare places count too). A statement '..UptoSaid' is the law's where the arguments, and the package variables that the reading takes, are together of bulk at most 1048576: NARROWER than '..Said'. Prove '..Said' where nothing that the law and all that it calls make is longer than what came in: it says more and counts as full. Else prove '..UptoSaid'. A law counts once. -/
mutual
def uptoBulk {H : Type} : DataW H → Nat
  | .lit (.string bytes) => bytes.length + 1
  | .lit _ => 1
  | .nil => 1
  | .ptr d => uptoBulk d + 1
  | .slice elems spare => uptoBulkAll elems + uptoBulkAll spare + 1
  | .agg parts => uptoBulkAll parts + 1
  | .iface _ d => uptoBulk d + 1
  | .map entries => uptoBulkEntries entries + 1
  | .held _ => 1
def uptoBulkAll {H : Type} : List (DataW H) → Nat
  | [] => 0
  | d :: r => uptoBulk d + uptoBulkAll r
def uptoBulkEntries {H : Type} : List (Lit × DataW H) → Nat
  | [] => 0
  | x :: r => uptoBulkEntry x + uptoBulkEntries r
def uptoBulkEntry {H : Type} : Lit × DataW H → Nat
  | (.string bytes, d) => bytes.length + uptoBulk d + 1
  | (_, d) => uptoBulk d + 1
 end
def uptoSmall : (H : Type) → List (DataW H) → Bool := fun _ ds => decide (uptoBulkAll ds ≤ 1048576)
def OpenSpec.upto (s : _root_.Go.ChangeSpec) : _root_.Go.OpenSpec := { _root_.Go.OpenSpec.ofChange s with cond := some uptoSmall }

/-- 'replicalaw10.TlogFull', WHERE WHAT IT READS IS OF BULK AT MOST 1048576: true; the input reads as it did. -/
def tlogFullUptoRow : OpenClaim := { program := "ytagkhhoimgighaa", sum := "48388136089ca0a7990d67240a44654731b167681efcc996a7a0843df162750d", func := "replica/replicalaw10.TlogFull", spec := "tlogFull", apart := false, narrowed := true }
def TlogFullUptoSaid : Prop := tlogFullUptoRow.holds Try.pinned (OpenSpec.upto tlogFullSpec)

/-- 'replicalaw10.TlogSettled', WHERE WHAT IT READS IS OF BULK AT MOST 1048576: true; the input reads as it did. -/
def tlogSettledUptoRow : OpenClaim := { program := "ytagkhhoimgighaa", sum := "48388136089ca0a7990d67240a44654731b167681efcc996a7a0843df162750d", func := "replica/replicalaw10.TlogSettled", spec := "tlogSettled", apart := false, narrowed := true }
def TlogSettledUptoSaid : Prop := tlogSettledUptoRow.holds Try.pinned (OpenSpec.upto tlogSettledSpec)

/-- 'replicalaw10.TlogMoves', WHERE WHAT IT READS IS OF BULK AT MOST 1048576: true; the input reads as it did. -/
def tlogMovesUptoRow : OpenClaim := { program := "ytagkhhoimgighaa", sum := "48388136089ca0a7990d67240a44654731b167681efcc996a7a0843df162750d", func := "replica/replicalaw10.TlogMoves", spec := "tlogMoves", apart := false, narrowed := true }
def TlogMovesUptoSaid : Prop := tlogMovesUptoRow.holds Try.pinned (OpenSpec.upto tlogMovesSpec)

/-- 'replicalaw10.TlogOrder', WHERE WHAT IT READS IS OF BULK AT MOST 1048576: true; the input reads as it did. -/
def tlogOrderUptoRow : OpenClaim := { program := "ytagkhhoimgighaa", sum := "48388136089ca0a7990d67240a44654731b167681efcc996a7a0843df162750d", func := "replica/replicalaw10.TlogOrder", spec := "tlogOrder", apart := false, narrowed := true }
def TlogOrderUptoSaid : Prop := tlogOrderUptoRow.holds Try.pinned (OpenSpec.upto tlogOrderSpec)

/-- 'replicalaw10.TlogAcks', WHERE WHAT IT READS IS OF BULK AT MOST 1048576: true; the input reads as it did. -/
def tlogAcksUptoRow : OpenClaim := { program := "ytagkhhoimgighaa", sum := "48388136089ca0a7990d67240a44654731b167681efcc996a7a0843df162750d", func := "replica/replicalaw10.TlogAcks", spec := "tlogAcks", unfollowed := true, recurses := true, apart := false, narrowed := true }
def TlogAcksUptoSaid : Prop := tlogAcksUptoRow.holds Try.pinned (OpenSpec.upto tlogAcksSpec)

/-- 'replicalaw10.TlogAsks', WHERE WHAT IT READS IS OF BULK AT MOST 1048576: true; the input reads as it did. -/
def tlogAsksUptoRow : OpenClaim := { program := "ytagkhhoimgighaa", sum := "48388136089ca0a7990d67240a44654731b167681efcc996a7a0843df162750d", func := "replica/replicalaw10.TlogAsks", spec := "tlogAsks", unfollowed := true, recurses := true, apart := false, narrowed := true }
def TlogAsksUptoSaid : Prop := tlogAsksUptoRow.holds Try.pinned (OpenSpec.upto tlogAsksSpec)

/-- 'replicalaw10.TlogExact', WHERE WHAT IT READS IS OF BULK AT MOST 1048576: true; the input reads as it did. -/
def tlogExactUptoRow : OpenClaim := { program := "ytagkhhoimgighaa", sum := "48388136089ca0a7990d67240a44654731b167681efcc996a7a0843df162750d", func := "replica/replicalaw10.TlogExact", spec := "tlogExact", unfollowed := true, recurses := true, apart := false, narrowed := true }
def TlogExactUptoSaid : Prop := tlogExactUptoRow.holds Try.pinned (OpenSpec.upto tlogExactSpec)

end Rows
end Go.Proofs.Ytagkhhoimgighaa
