/-
  No cell of these rows narrows 'for every input' (looked for: loops, veiled, ifaces, maps, wideKeys, modest, calm, conditions, laid).
  DERIVED. THE GIVEN ROWS OF THIS SEAT. 11 by the template 'for every input the law returns true; each argument reads behind the call as it read before'; 0 by the template 'total and deterministic' (their statements: YtiidheknlacioaaTotals.lean).
  GIVEN WITH THE SEED: the statements are not yours to turn. If you find one false, say at which input.
  Laid BY PROGRAM, IN A SANDBOX (cutbox-rows.mjs): the forced cells as the released guide's own fill.sh prints them over the translation bac647afd71c6c6b… (all of the seat's roots in one cut). By AI agents, Wed Nov 11 2026. No macro, syntax, notation, axiom, sorry.
-/
import Derived.Test.YtiidheknlacioaaChecked
import GoSem.Claim
import GoSem.ClaimJoined
import GoSem.ClaimMapViews
import Derived.JoinedTies
import Derived.KernelRfl
namespace Go.Proofs.Ytiidheknlacioaa
/- THE CELL 'sum', in the pinned program and in every row, IS THE sha256 OF THE DUMP (.gsa) THAT YtiidheknlacioaaProg.lean LOADS. Nothing in Lean hashes anything: it is a label: what it is worth is what the hold of that sum in a sandbox is worth. -/
noncomputable def Try.pinned : Pinned := { name := "ytiidheknlacioaa", sum := "bac647afd71c6c6b5bbd57c9f31591ec58b65aaaf6233be73468811c69e854a1", checked := Try.checked }
namespace Rows
def none {H : Type} : Left H := { results := [], args := [] }

/-- 'replicalaw04.ActlogOldest': WHATEVER THE INPUT: true; the input reads as it did. -/
def actlogOldestSpec : ChangeSpec := { name := "actlogOldest", fn := fun _ => fun
  | [d1, d2] => { results := [.lit (.bool true)], args := [d1, d2] }
  | _ => none }
def actlogOldestRow : OpenClaim := { program := "ytiidheknlacioaa", sum := "bac647afd71c6c6b5bbd57c9f31591ec58b65aaaf6233be73468811c69e854a1", func := "replica/replicalaw04.ActlogOldest", spec := "actlogOldest", unfollowed := true, recurses := true, plainKeys := false, apart := false }
def ActlogOldestSaid : Prop := actlogOldestRow.holds Try.pinned (OpenSpec.ofChange actlogOldestSpec)

/-- ITS FALSE NEIGHBOUR: 'it returns false'. Refute it at one input. -/
def actlogOldestWrong : ChangeSpec := { name := "actlogOldest", fn := fun _ => fun
  | [d1, d2] => { results := [.lit (.bool false)], args := [d1, d2] }
  | _ => none }
def ActlogOldestWrongFalsely : Prop := actlogOldestRow.holds Try.pinned (OpenSpec.ofChange actlogOldestWrong)

/-- 'replicalaw04.ActlogLru': WHATEVER THE INPUT: true; the input reads as it did. -/
def actlogLruSpec : ChangeSpec := { name := "actlogLru", fn := fun _ => fun
  | [d1, d2] => { results := [.lit (.bool true)], args := [d1, d2] }
  | _ => none }
def actlogLruRow : OpenClaim := { program := "ytiidheknlacioaa", sum := "bac647afd71c6c6b5bbd57c9f31591ec58b65aaaf6233be73468811c69e854a1", func := "replica/replicalaw04.ActlogLru", spec := "actlogLru", unfollowed := true, recurses := true, plainKeys := false, apart := false }
def ActlogLruSaid : Prop := actlogLruRow.holds Try.pinned (OpenSpec.ofChange actlogLruSpec)

/-- ITS FALSE NEIGHBOUR: 'it returns false'. Refute it at one input. -/
def actlogLruWrong : ChangeSpec := { name := "actlogLru", fn := fun _ => fun
  | [d1, d2] => { results := [.lit (.bool false)], args := [d1, d2] }
  | _ => none }
def ActlogLruWrongFalsely : Prop := actlogLruRow.holds Try.pinned (OpenSpec.ofChange actlogLruWrong)

/-- 'replicalaw04.ActlogKinds': WHATEVER THE INPUT: true; the input reads as it did. -/
def actlogKindsSpec : ChangeSpec := { name := "actlogKinds", fn := fun _ => fun
  | [d1, d2, d3] => { results := [.lit (.bool true)], args := [d1, d2, d3] }
  | _ => none }
def actlogKindsRow : OpenClaim := { program := "ytiidheknlacioaa", sum := "bac647afd71c6c6b5bbd57c9f31591ec58b65aaaf6233be73468811c69e854a1", func := "replica/replicalaw04.ActlogKinds", spec := "actlogKinds", unfollowed := true, recurses := true, plainKeys := false, apart := false }
def ActlogKindsSaid : Prop := actlogKindsRow.holds Try.pinned (OpenSpec.ofChange actlogKindsSpec)

/-- ITS FALSE NEIGHBOUR: 'it returns false'. Refute it at one input. -/
def actlogKindsWrong : ChangeSpec := { name := "actlogKinds", fn := fun _ => fun
  | [d1, d2, d3] => { results := [.lit (.bool false)], args := [d1, d2, d3] }
  | _ => none }
def ActlogKindsWrongFalsely : Prop := actlogKindsRow.holds Try.pinned (OpenSpec.ofChange actlogKindsWrong)

/-- 'replicalaw04.ActlogReplay': WHATEVER THE INPUT: true; the input reads as it did. -/
def actlogReplaySpec : ChangeSpec := { name := "actlogReplay", fn := fun _ => fun
  | [d1, d2, d3] => { results := [.lit (.bool true)], args := [d1, d2, d3] }
  | _ => none }
def actlogReplayRow : OpenClaim := { program := "ytiidheknlacioaa", sum := "bac647afd71c6c6b5bbd57c9f31591ec58b65aaaf6233be73468811c69e854a1", func := "replica/replicalaw04.ActlogReplay", spec := "actlogReplay", unfollowed := true, recurses := true, plainKeys := false, apart := false }
def ActlogReplaySaid : Prop := actlogReplayRow.holds Try.pinned (OpenSpec.ofChange actlogReplaySpec)

/-- ITS FALSE NEIGHBOUR: 'it returns false'. Refute it at one input. -/
def actlogReplayWrong : ChangeSpec := { name := "actlogReplay", fn := fun _ => fun
  | [d1, d2, d3] => { results := [.lit (.bool false)], args := [d1, d2, d3] }
  | _ => none }
def ActlogReplayWrongFalsely : Prop := actlogReplayRow.holds Try.pinned (OpenSpec.ofChange actlogReplayWrong)

/-- 'replicalaw04.ActlogKeeps': WHATEVER THE INPUT: true; the input reads as it did. -/
def actlogKeepsSpec : ChangeSpec := { name := "actlogKeeps", fn := fun _ => fun
  | [d1, d2] => { results := [.lit (.bool true)], args := [d1, d2] }
  | _ => none }
def actlogKeepsRow : OpenClaim := { program := "ytiidheknlacioaa", sum := "bac647afd71c6c6b5bbd57c9f31591ec58b65aaaf6233be73468811c69e854a1", func := "replica/replicalaw04.ActlogKeeps", spec := "actlogKeeps", unfollowed := true, recurses := true, plainKeys := false, apart := false }
def ActlogKeepsSaid : Prop := actlogKeepsRow.holds Try.pinned (OpenSpec.ofChange actlogKeepsSpec)

/-- ITS FALSE NEIGHBOUR: 'it returns false'. Refute it at one input. -/
def actlogKeepsWrong : ChangeSpec := { name := "actlogKeeps", fn := fun _ => fun
  | [d1, d2] => { results := [.lit (.bool false)], args := [d1, d2] }
  | _ => none }
def ActlogKeepsWrongFalsely : Prop := actlogKeepsRow.holds Try.pinned (OpenSpec.ofChange actlogKeepsWrong)

/-- 'replicalaw04.ActlogLog': WHATEVER THE INPUT: true; the input reads as it did. -/
def actlogLogSpec : ChangeSpec := { name := "actlogLog", fn := fun _ => fun
  | [d1, d2, d3] => { results := [.lit (.bool true)], args := [d1, d2, d3] }
  | _ => none }
def actlogLogRow : OpenClaim := { program := "ytiidheknlacioaa", sum := "bac647afd71c6c6b5bbd57c9f31591ec58b65aaaf6233be73468811c69e854a1", func := "replica/replicalaw04.ActlogLog", spec := "actlogLog", unfollowed := true, recurses := true, plainKeys := false, apart := false }
def ActlogLogSaid : Prop := actlogLogRow.holds Try.pinned (OpenSpec.ofChange actlogLogSpec)

/-- ITS FALSE NEIGHBOUR: 'it returns false'. Refute it at one input. -/
def actlogLogWrong : ChangeSpec := { name := "actlogLog", fn := fun _ => fun
  | [d1, d2, d3] => { results := [.lit (.bool false)], args := [d1, d2, d3] }
  | _ => none }
def ActlogLogWrongFalsely : Prop := actlogLogRow.holds Try.pinned (OpenSpec.ofChange actlogLogWrong)

/-- 'replicalaw04.ActlogRecords': WHATEVER THE INPUT: true; the input reads as it did. -/
def actlogRecordsSpec : ChangeSpec := { name := "actlogRecords", fn := fun _ => fun
  | [d1, d2, d3] => { results := [.lit (.bool true)], args := [d1, d2, d3] }
  | _ => none }
def actlogRecordsRow : OpenClaim := { program := "ytiidheknlacioaa", sum := "bac647afd71c6c6b5bbd57c9f31591ec58b65aaaf6233be73468811c69e854a1", func := "replica/replicalaw04.ActlogRecords", spec := "actlogRecords", unfollowed := true, recurses := true, plainKeys := false, apart := false }
def ActlogRecordsSaid : Prop := actlogRecordsRow.holds Try.pinned (OpenSpec.ofChange actlogRecordsSpec)

/-- ITS FALSE NEIGHBOUR: 'it returns false'. Refute it at one input. -/
def actlogRecordsWrong : ChangeSpec := { name := "actlogRecords", fn := fun _ => fun
  | [d1, d2, d3] => { results := [.lit (.bool false)], args := [d1, d2, d3] }
  | _ => none }
def ActlogRecordsWrongFalsely : Prop := actlogRecordsRow.holds Try.pinned (OpenSpec.ofChange actlogRecordsWrong)

/-- 'replicalaw04.ActlogCovers': WHATEVER THE INPUT: true; the input reads as it did. -/
def actlogCoversSpec : ChangeSpec := { name := "actlogCovers", fn := fun _ => fun
  | [d1, d2] => { results := [.lit (.bool true)], args := [d1, d2] }
  | _ => none }
def actlogCoversRow : OpenClaim := { program := "ytiidheknlacioaa", sum := "bac647afd71c6c6b5bbd57c9f31591ec58b65aaaf6233be73468811c69e854a1", func := "replica/replicalaw04.ActlogCovers", spec := "actlogCovers", unfollowed := true, recurses := true, plainKeys := false, apart := false }
def ActlogCoversSaid : Prop := actlogCoversRow.holds Try.pinned (OpenSpec.ofChange actlogCoversSpec)

/-- ITS FALSE NEIGHBOUR: 'it returns false'. Refute it at one input. -/
def actlogCoversWrong : ChangeSpec := { name := "actlogCovers", fn := fun _ => fun
  | [d1, d2] => { results := [.lit (.bool false)], args := [d1, d2] }
  | _ => none }
def ActlogCoversWrongFalsely : Prop := actlogCoversRow.holds Try.pinned (OpenSpec.ofChange actlogCoversWrong)

/-- 'replicalaw04.ActlogTold': WHATEVER THE INPUT: true; the input reads as it did. -/
def actlogToldSpec : ChangeSpec := { name := "actlogTold", fn := fun _ => fun
  | [d1, d2, d3, d4, d5, d6] => { results := [.lit (.bool true)], args := [d1, d2, d3, d4, d5, d6] }
  | _ => none }
def actlogToldRow : OpenClaim := { program := "ytiidheknlacioaa", sum := "bac647afd71c6c6b5bbd57c9f31591ec58b65aaaf6233be73468811c69e854a1", func := "replica/replicalaw04.ActlogTold", spec := "actlogTold", unfollowed := true, recurses := true, plainKeys := false, apart := false }
def ActlogToldSaid : Prop := actlogToldRow.holds Try.pinned (OpenSpec.ofChange actlogToldSpec)

/-- ITS FALSE NEIGHBOUR: 'it returns false'. Refute it at one input. -/
def actlogToldWrong : ChangeSpec := { name := "actlogTold", fn := fun _ => fun
  | [d1, d2, d3, d4, d5, d6] => { results := [.lit (.bool false)], args := [d1, d2, d3, d4, d5, d6] }
  | _ => none }
def ActlogToldWrongFalsely : Prop := actlogToldRow.holds Try.pinned (OpenSpec.ofChange actlogToldWrong)

/-- 'replicalaw04.ActlogLists': WHATEVER THE INPUT: true; the input reads as it did. -/
def actlogListsSpec : ChangeSpec := { name := "actlogLists", fn := fun _ => fun
  | [d1, d2, d3] => { results := [.lit (.bool true)], args := [d1, d2, d3] }
  | _ => none }
def actlogListsRow : OpenClaim := { program := "ytiidheknlacioaa", sum := "bac647afd71c6c6b5bbd57c9f31591ec58b65aaaf6233be73468811c69e854a1", func := "replica/replicalaw04.ActlogLists", spec := "actlogLists", unfollowed := true, recurses := true, plainKeys := false, apart := false }
def ActlogListsSaid : Prop := actlogListsRow.holds Try.pinned (OpenSpec.ofChange actlogListsSpec)

/-- ITS FALSE NEIGHBOUR: 'it returns false'. Refute it at one input. -/
def actlogListsWrong : ChangeSpec := { name := "actlogLists", fn := fun _ => fun
  | [d1, d2, d3] => { results := [.lit (.bool false)], args := [d1, d2, d3] }
  | _ => none }
def ActlogListsWrongFalsely : Prop := actlogListsRow.holds Try.pinned (OpenSpec.ofChange actlogListsWrong)

/-- 'replicalaw04.ActlogSaved': WHATEVER THE INPUT: true; the input reads as it did. -/
def actlogSavedSpec : ChangeSpec := { name := "actlogSaved", fn := fun _ => fun
  | [d1, d2] => { results := [.lit (.bool true)], args := [d1, d2] }
  | _ => none }
def actlogSavedRow : OpenClaim := { program := "ytiidheknlacioaa", sum := "bac647afd71c6c6b5bbd57c9f31591ec58b65aaaf6233be73468811c69e854a1", func := "replica/replicalaw04.ActlogSaved", spec := "actlogSaved", unfollowed := true, recurses := true, plainKeys := false, apart := false }
def ActlogSavedSaid : Prop := actlogSavedRow.holds Try.pinned (OpenSpec.ofChange actlogSavedSpec)

/-- ITS FALSE NEIGHBOUR: 'it returns false'. Refute it at one input. -/
def actlogSavedWrong : ChangeSpec := { name := "actlogSaved", fn := fun _ => fun
  | [d1, d2] => { results := [.lit (.bool false)], args := [d1, d2] }
  | _ => none }
def ActlogSavedWrongFalsely : Prop := actlogSavedRow.holds Try.pinned (OpenSpec.ofChange actlogSavedWrong)

/- THE SECOND FORM. 'bulk': how many values and letters a reading holds, each counted each time it is reached (what is shared counts as often as it is met; a slice's spare places count too). A statement '..UptoSaid' is the law's where the arguments, and the package variables that the reading takes, are together of bulk at most 1048576: NARROWER than '..Said'. Prove '..Said' where nothing that the law and all that it calls make is longer than what came in: it says more and counts as full. Else prove '..UptoSaid'. A law counts once. -/
mutual
def uptoBulk {H : Type} : DataW H → Nat
  | .lit (.string bytes) => bytes.length + 1
  | .lit _ => 1
  | .nil => 1
  | .ptr d => uptoBulk d + 1
  | .slice elems spare => uptoBulkAll elems + uptoBulkAll spare + 1
  | .agg parts => uptoBulkAll parts + 1
  | .iface _ d => uptoBulk d + 1
  | .map entries => uptoBulkEntries entries + 1
  | .held _ => 1
def uptoBulkAll {H : Type} : List (DataW H) → Nat
  | [] => 0
  | d :: r => uptoBulk d + uptoBulkAll r
def uptoBulkEntries {H : Type} : List (Lit × DataW H) → Nat
  | [] => 0
  | x :: r => uptoBulkEntry x + uptoBulkEntries r
def uptoBulkEntry {H : Type} : Lit × DataW H → Nat
  | (.string bytes, d) => bytes.length + uptoBulk d + 1
  | (_, d) => uptoBulk d + 1
 end
def uptoSmall : (H : Type) → List (DataW H) → Bool := fun _ ds => decide (uptoBulkAll ds ≤ 1048576)
def OpenSpec.upto (s : _root_.Go.ChangeSpec) : _root_.Go.OpenSpec := { _root_.Go.OpenSpec.ofChange s with cond := some uptoSmall }

/-- 'replicalaw04.ActlogOldest', WHERE WHAT IT READS IS OF BULK AT MOST 1048576: true; the input reads as it did. -/
def actlogOldestUptoRow : OpenClaim := { program := "ytiidheknlacioaa", sum := "bac647afd71c6c6b5bbd57c9f31591ec58b65aaaf6233be73468811c69e854a1", func := "replica/replicalaw04.ActlogOldest", spec := "actlogOldest", unfollowed := true, recurses := true, plainKeys := false, apart := false, narrowed := true }
def ActlogOldestUptoSaid : Prop := actlogOldestUptoRow.holds Try.pinned (OpenSpec.upto actlogOldestSpec)

/-- 'replicalaw04.ActlogLru', WHERE WHAT IT READS IS OF BULK AT MOST 1048576: true; the input reads as it did. -/
def actlogLruUptoRow : OpenClaim := { program := "ytiidheknlacioaa", sum := "bac647afd71c6c6b5bbd57c9f31591ec58b65aaaf6233be73468811c69e854a1", func := "replica/replicalaw04.ActlogLru", spec := "actlogLru", unfollowed := true, recurses := true, plainKeys := false, apart := false, narrowed := true }
def ActlogLruUptoSaid : Prop := actlogLruUptoRow.holds Try.pinned (OpenSpec.upto actlogLruSpec)

/-- 'replicalaw04.ActlogKinds', WHERE WHAT IT READS IS OF BULK AT MOST 1048576: true; the input reads as it did. -/
def actlogKindsUptoRow : OpenClaim := { program := "ytiidheknlacioaa", sum := "bac647afd71c6c6b5bbd57c9f31591ec58b65aaaf6233be73468811c69e854a1", func := "replica/replicalaw04.ActlogKinds", spec := "actlogKinds", unfollowed := true, recurses := true, plainKeys := false, apart := false, narrowed := true }
def ActlogKindsUptoSaid : Prop := actlogKindsUptoRow.holds Try.pinned (OpenSpec.upto actlogKindsSpec)

/-- 'replicalaw04.ActlogReplay', WHERE WHAT IT READS IS OF BULK AT MOST 1048576: true; the input reads as it did. -/
def actlogReplayUptoRow : OpenClaim := { program := "ytiidheknlacioaa", sum := "bac647afd71c6c6b5bbd57c9f31591ec58b65aaaf6233be73468811c69e854a1", func := "replica/replicalaw04.ActlogReplay", spec := "actlogReplay", unfollowed := true, recurses := true, plainKeys := false, apart := false, narrowed := true }
def ActlogReplayUptoSaid : Prop := actlogReplayUptoRow.holds Try.pinned (OpenSpec.upto actlogReplaySpec)

/-- 'replicalaw04.ActlogKeeps', WHERE WHAT IT READS IS OF BULK AT MOST 1048576: true; the input reads as it did. -/
def actlogKeepsUptoRow : OpenClaim := { program := "ytiidheknlacioaa", sum := "bac647afd71c6c6b5bbd57c9f31591ec58b65aaaf6233be73468811c69e854a1", func := "replica/replicalaw04.ActlogKeeps", spec := "actlogKeeps", unfollowed := true, recurses := true, plainKeys := false, apart := false, narrowed := true }
def ActlogKeepsUptoSaid : Prop := actlogKeepsUptoRow.holds Try.pinned (OpenSpec.upto actlogKeepsSpec)

/-- 'replicalaw04.ActlogLog', WHERE WHAT IT READS IS OF BULK AT MOST 1048576: true; the input reads as it did. -/
def actlogLogUptoRow : OpenClaim := { program := "ytiidheknlacioaa", sum := "bac647afd71c6c6b5bbd57c9f31591ec58b65aaaf6233be73468811c69e854a1", func := "replica/replicalaw04.ActlogLog", spec := "actlogLog", unfollowed := true, recurses := true, plainKeys := false, apart := false, narrowed := true }
def ActlogLogUptoSaid : Prop := actlogLogUptoRow.holds Try.pinned (OpenSpec.upto actlogLogSpec)

/-- 'replicalaw04.ActlogRecords', WHERE WHAT IT READS IS OF BULK AT MOST 1048576: true; the input reads as it did. -/
def actlogRecordsUptoRow : OpenClaim := { program := "ytiidheknlacioaa", sum := "bac647afd71c6c6b5bbd57c9f31591ec58b65aaaf6233be73468811c69e854a1", func := "replica/replicalaw04.ActlogRecords", spec := "actlogRecords", unfollowed := true, recurses := true, plainKeys := false, apart := false, narrowed := true }
def ActlogRecordsUptoSaid : Prop := actlogRecordsUptoRow.holds Try.pinned (OpenSpec.upto actlogRecordsSpec)

/-- 'replicalaw04.ActlogCovers', WHERE WHAT IT READS IS OF BULK AT MOST 1048576: true; the input reads as it did. -/
def actlogCoversUptoRow : OpenClaim := { program := "ytiidheknlacioaa", sum := "bac647afd71c6c6b5bbd57c9f31591ec58b65aaaf6233be73468811c69e854a1", func := "replica/replicalaw04.ActlogCovers", spec := "actlogCovers", unfollowed := true, recurses := true, plainKeys := false, apart := false, narrowed := true }
def ActlogCoversUptoSaid : Prop := actlogCoversUptoRow.holds Try.pinned (OpenSpec.upto actlogCoversSpec)

/-- 'replicalaw04.ActlogTold', WHERE WHAT IT READS IS OF BULK AT MOST 1048576: true; the input reads as it did. -/
def actlogToldUptoRow : OpenClaim := { program := "ytiidheknlacioaa", sum := "bac647afd71c6c6b5bbd57c9f31591ec58b65aaaf6233be73468811c69e854a1", func := "replica/replicalaw04.ActlogTold", spec := "actlogTold", unfollowed := true, recurses := true, plainKeys := false, apart := false, narrowed := true }
def ActlogToldUptoSaid : Prop := actlogToldUptoRow.holds Try.pinned (OpenSpec.upto actlogToldSpec)

/-- 'replicalaw04.ActlogLists', WHERE WHAT IT READS IS OF BULK AT MOST 1048576: true; the input reads as it did. -/
def actlogListsUptoRow : OpenClaim := { program := "ytiidheknlacioaa", sum := "bac647afd71c6c6b5bbd57c9f31591ec58b65aaaf6233be73468811c69e854a1", func := "replica/replicalaw04.ActlogLists", spec := "actlogLists", unfollowed := true, recurses := true, plainKeys := false, apart := false, narrowed := true }
def ActlogListsUptoSaid : Prop := actlogListsUptoRow.holds Try.pinned (OpenSpec.upto actlogListsSpec)

/-- 'replicalaw04.ActlogSaved', WHERE WHAT IT READS IS OF BULK AT MOST 1048576: true; the input reads as it did. -/
def actlogSavedUptoRow : OpenClaim := { program := "ytiidheknlacioaa", sum := "bac647afd71c6c6b5bbd57c9f31591ec58b65aaaf6233be73468811c69e854a1", func := "replica/replicalaw04.ActlogSaved", spec := "actlogSaved", unfollowed := true, recurses := true, plainKeys := false, apart := false, narrowed := true }
def ActlogSavedUptoSaid : Prop := actlogSavedUptoRow.holds Try.pinned (OpenSpec.upto actlogSavedSpec)

end Rows
end Go.Proofs.Ytiidheknlacioaa
