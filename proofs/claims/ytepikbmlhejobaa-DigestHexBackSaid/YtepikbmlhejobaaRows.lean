/-
  No cell of these rows narrows 'for every input' (looked for: loops, veiled, ifaces, maps, wideKeys, modest, calm, conditions, laid).
  DERIVED. THE GIVEN ROWS OF THIS SEAT. 3 by the template 'for every input the law returns true; each argument reads behind the call as it read before'; 0 by the template 'total and deterministic' (their statements: YtepikbmlhejobaaTotals.lean).
  GIVEN WITH THE SEED: the statements are not yours to turn. If you find one false, say at which input.
  Laid BY PROGRAM, IN A SANDBOX (cutbox-rows.mjs): the forced cells as the released guide's own fill.sh prints them over the translation 6ff13da733e18dd7… (all of the seat's roots in one cut). By AI agents, Wed Nov 11 2026. No macro, syntax, notation, axiom, sorry.
-/
import Derived.Test.YtepikbmlhejobaaChecked
import GoSem.Claim
import GoSem.ClaimJoined
import GoSem.ClaimMapViews
import Derived.JoinedTies
import Derived.KernelRfl
namespace Go.Proofs.Ytepikbmlhejobaa
/- THE CELL 'sum', in the pinned program and in every row, IS THE sha256 OF THE DUMP (.gsa) THAT YtepikbmlhejobaaProg.lean LOADS. Nothing in Lean hashes anything: it is a label: what it is worth is what the hold of that sum in a sandbox is worth. -/
noncomputable def Try.pinned : Pinned := { name := "ytepikbmlhejobaa", sum := "6ff13da733e18dd7a30880c0530b12fa17799a10be1399ac4ca24f916b05c338", checked := Try.checked }
namespace Rows
def none {H : Type} : Left H := { results := [], args := [] }

/-- 'replicalaw01.DigestCrc': WHATEVER THE INPUT: true; the input reads as it did. -/
def digestCrcSpec : ChangeSpec := { name := "digestCrc", fn := fun _ => fun
  | [d1, d2] => { results := [.lit (.bool true)], args := [d1, d2] }
  | _ => none }
def digestCrcRow : OpenClaim := { program := "ytepikbmlhejobaa", sum := "6ff13da733e18dd7a30880c0530b12fa17799a10be1399ac4ca24f916b05c338", func := "replica/replicalaw01.DigestCrc", spec := "digestCrc", apart := false }
def DigestCrcSaid : Prop := digestCrcRow.holds Try.pinned (OpenSpec.ofChange digestCrcSpec)

/-- ITS FALSE NEIGHBOUR: 'it returns false'. Refute it at one input. -/
def digestCrcWrong : ChangeSpec := { name := "digestCrc", fn := fun _ => fun
  | [d1, d2] => { results := [.lit (.bool false)], args := [d1, d2] }
  | _ => none }
def DigestCrcWrongFalsely : Prop := digestCrcRow.holds Try.pinned (OpenSpec.ofChange digestCrcWrong)

/-- 'replicalaw01.DigestHex': WHATEVER THE INPUT: true; the input reads as it did. -/
def digestHexSpec : ChangeSpec := { name := "digestHex", fn := fun _ => fun
  | [d1, d2] => { results := [.lit (.bool true)], args := [d1, d2] }
  | _ => none }
def digestHexRow : OpenClaim := { program := "ytepikbmlhejobaa", sum := "6ff13da733e18dd7a30880c0530b12fa17799a10be1399ac4ca24f916b05c338", func := "replica/replicalaw01.DigestHex", spec := "digestHex", apart := false }
def DigestHexSaid : Prop := digestHexRow.holds Try.pinned (OpenSpec.ofChange digestHexSpec)

/-- ITS FALSE NEIGHBOUR: 'it returns false'. Refute it at one input. -/
def digestHexWrong : ChangeSpec := { name := "digestHex", fn := fun _ => fun
  | [d1, d2] => { results := [.lit (.bool false)], args := [d1, d2] }
  | _ => none }
def DigestHexWrongFalsely : Prop := digestHexRow.holds Try.pinned (OpenSpec.ofChange digestHexWrong)

/-- 'replicalaw01.DigestHexBack': WHATEVER THE INPUT: true; the input reads as it did. -/
def digestHexBackSpec : ChangeSpec := { name := "digestHexBack", fn := fun _ => fun
  | [d1, d2] => { results := [.lit (.bool true)], args := [d1, d2] }
  | _ => none }
def digestHexBackRow : OpenClaim := { program := "ytepikbmlhejobaa", sum := "6ff13da733e18dd7a30880c0530b12fa17799a10be1399ac4ca24f916b05c338", func := "replica/replicalaw01.DigestHexBack", spec := "digestHexBack", apart := false }
def DigestHexBackSaid : Prop := digestHexBackRow.holds Try.pinned (OpenSpec.ofChange digestHexBackSpec)

/-- ITS FALSE NEIGHBOUR: 'it returns false'. Refute it at one input. -/
def digestHexBackWrong : ChangeSpec := { name := "digestHexBack", fn := fun _ => fun
  | [d1, d2] => { results := [.lit (.bool false)], args := [d1, d2] }
  | _ => none }
def DigestHexBackWrongFalsely : Prop := digestHexBackRow.holds Try.pinned (OpenSpec.ofChange digestHexBackWrong)

/- THE SECOND FORM. 'bulk': how many values and letters a reading holds, each counted each time it is reached (what is shared counts as often as it is met; a slice's spare places count too). A statement '..UptoSaid' is the law's where the arguments, and the package variables that the reading takes, are together of bulk at most 1048576: NARROWER than '..Said'. Prove '..Said' where nothing that the law and all that it calls make is longer than what came in: it says more and counts as full. Else prove '..UptoSaid'. A law counts once. -/
mutual
def uptoBulk {H : Type} : DataW H → Nat
  | .lit (.string bytes) => bytes.length + 1
  | .lit _ => 1
  | .nil => 1
  | .ptr d => uptoBulk d + 1
  | .slice elems spare => uptoBulkAll elems + uptoBulkAll spare + 1
  | .agg parts => uptoBulkAll parts + 1
  | .iface _ d => uptoBulk d + 1
  | .map entries => uptoBulkEntries entries + 1
  | .held _ => 1
def uptoBulkAll {H : Type} : List (DataW H) → Nat
  | [] => 0
  | d :: r => uptoBulk d + uptoBulkAll r
def uptoBulkEntries {H : Type} : List (Lit × DataW H) → Nat
  | [] => 0
  | x :: r => uptoBulkEntry x + uptoBulkEntries r
def uptoBulkEntry {H : Type} : Lit × DataW H → Nat
  | (.string bytes, d) => bytes.length + uptoBulk d + 1
  | (_, d) => uptoBulk d + 1
 end
def uptoSmall : (H : Type) → List (DataW H) → Bool := fun _ ds => decide (uptoBulkAll ds ≤ 1048576)
def OpenSpec.upto (s : _root_.Go.ChangeSpec) : _root_.Go.OpenSpec := { _root_.Go.OpenSpec.ofChange s with cond := some uptoSmall }

/-- 'replicalaw01.DigestCrc', WHERE WHAT IT READS IS OF BULK AT MOST 1048576: true; the input reads as it did. -/
def digestCrcUptoRow : OpenClaim := { program := "ytepikbmlhejobaa", sum := "6ff13da733e18dd7a30880c0530b12fa17799a10be1399ac4ca24f916b05c338", func := "replica/replicalaw01.DigestCrc", spec := "digestCrc", apart := false, narrowed := true }
def DigestCrcUptoSaid : Prop := digestCrcUptoRow.holds Try.pinned (OpenSpec.upto digestCrcSpec)

/-- 'replicalaw01.DigestHex', WHERE WHAT IT READS IS OF BULK AT MOST 1048576: true; the input reads as it did. -/
def digestHexUptoRow : OpenClaim := { program := "ytepikbmlhejobaa", sum := "6ff13da733e18dd7a30880c0530b12fa17799a10be1399ac4ca24f916b05c338", func := "replica/replicalaw01.DigestHex", spec := "digestHex", apart := false, narrowed := true }
def DigestHexUptoSaid : Prop := digestHexUptoRow.holds Try.pinned (OpenSpec.upto digestHexSpec)

/-- 'replicalaw01.DigestHexBack', WHERE WHAT IT READS IS OF BULK AT MOST 1048576: true; the input reads as it did. -/
def digestHexBackUptoRow : OpenClaim := { program := "ytepikbmlhejobaa", sum := "6ff13da733e18dd7a30880c0530b12fa17799a10be1399ac4ca24f916b05c338", func := "replica/replicalaw01.DigestHexBack", spec := "digestHexBack", apart := false, narrowed := true }
def DigestHexBackUptoSaid : Prop := digestHexBackUptoRow.holds Try.pinned (OpenSpec.upto digestHexBackSpec)

end Rows
end Go.Proofs.Ytepikbmlhejobaa
