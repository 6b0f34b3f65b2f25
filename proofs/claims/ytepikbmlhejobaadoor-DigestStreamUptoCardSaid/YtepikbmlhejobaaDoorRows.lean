/-
  NARROWER THAN 'FOR EVERY INPUT', by the rows' own cells (each row's printed sentence says how): DigestStream: laid · DigestSum: laid · DigestRoots: laid · DigestMac: laid · DigestKeys: laid · DigestCrcJoins: laid · DigestCrcTells: laid · DigestCrcOdd: laid · DigestCrcSums: laid · DigestPieces: laid.
  DERIVED. THE GIVEN ROWS OF THIS SEAT. 10 by the template 'for every input the law returns true; each argument reads behind the call as it read before'; 0 by the template 'total and deterministic' (their statements: YtepikbmlhejobaaDoorTotals.lean).
  GIVEN WITH THE SEED: the statements are not yours to turn. If you find one false, say at which input.
  Laid BY PROGRAM, IN A SANDBOX (cutbox-rows.mjs): the forced cells as the released guide's own fill.sh prints them over the translation 846ca599a4293e59… (all of the seat's roots in one cut). By AI agents, Wed Nov 11 2026. No macro, syntax, notation, axiom, sorry.
-/
import Derived.Test.YtepikbmlhejobaaDoorChecked
import GoSem.Claim
import GoSem.ClaimJoined
import GoSem.ClaimMapViews
import Derived.JoinedTies
import Derived.KernelRfl
namespace Go.Proofs.YtepikbmlhejobaaDoor
/- THE CELL 'sum', in the pinned program and in every row, IS THE sha256 OF THE DUMP (.gsa) THAT YtepikbmlhejobaaDoorProg.lean LOADS. Nothing in Lean hashes anything: it is a label: what it is worth is what the hold of that sum in a sandbox is worth. -/
noncomputable def Tryd.pinned : Pinned := { name := "ytepikbmlhejobaadoor", sum := "846ca599a4293e599047200b965784afdbffb74c2a69b8f7cd64ee051806cda8", checked := Tryd.checked }
namespace Rows
def none {H : Type} : Left H := { results := [], args := [] }

/- WHAT THE LISTED PACKAGE-LEVEL VARIABLES READ AS WHEN THE CALL BEGINS. Each datum BY PROGRAM (the guide's laid-datum.mjs) off the statement by which the dump's own 'gosem.cut.vars' lays the variable. In a bare row this is a premise. The card (YtepikbmlhejobaaDoorCards.lean) ties it to the program's text. -/
def laid_replica_digest_rounds {H : Type} : DataW H := .agg [.lit (.int .u32 1116352408), .lit (.int .u32 1899447441), .lit (.int .u32 3049323471), .lit (.int .u32 3921009573), .lit (.int .u32 961987163), .lit (.int .u32 1508970993), .lit (.int .u32 2453635748), .lit (.int .u32 2870763221), .lit (.int .u32 3624381080), .lit (.int .u32 310598401), .lit (.int .u32 607225278), .lit (.int .u32 1426881987), .lit (.int .u32 1925078388), .lit (.int .u32 2162078206), .lit (.int .u32 2614888103), .lit (.int .u32 3248222580), .lit (.int .u32 3835390401), .lit (.int .u32 4022224774), .lit (.int .u32 264347078), .lit (.int .u32 604807628), .lit (.int .u32 770255983), .lit (.int .u32 1249150122), .lit (.int .u32 1555081692), .lit (.int .u32 1996064986), .lit (.int .u32 2554220882), .lit (.int .u32 2821834349), .lit (.int .u32 2952996808), .lit (.int .u32 3210313671), .lit (.int .u32 3336571891), .lit (.int .u32 3584528711), .lit (.int .u32 113926993), .lit (.int .u32 338241895), .lit (.int .u32 666307205), .lit (.int .u32 773529912), .lit (.int .u32 1294757372), .lit (.int .u32 1396182291), .lit (.int .u32 1695183700), .lit (.int .u32 1986661051), .lit (.int .u32 2177026350), .lit (.int .u32 2456956037), .lit (.int .u32 2730485921), .lit (.int .u32 2820302411), .lit (.int .u32 3259730800), .lit (.int .u32 3345764771), .lit (.int .u32 3516065817), .lit (.int .u32 3600352804), .lit (.int .u32 4094571909), .lit (.int .u32 275423344), .lit (.int .u32 430227734), .lit (.int .u32 506948616), .lit (.int .u32 659060556), .lit (.int .u32 883997877), .lit (.int .u32 958139571), .lit (.int .u32 1322822218), .lit (.int .u32 1537002063), .lit (.int .u32 1747873779), .lit (.int .u32 1955562222), .lit (.int .u32 2024104815), .lit (.int .u32 2227730452), .lit (.int .u32 2361852424), .lit (.int .u32 2428436474), .lit (.int .u32 2756734187), .lit (.int .u32 3204031479), .lit (.int .u32 3329325298)]
def laid_replica_digest_start {H : Type} : DataW H := .agg [.lit (.int .u32 1779033703), .lit (.int .u32 3144134277), .lit (.int .u32 1013904242), .lit (.int .u32 2773480762), .lit (.int .u32 1359893119), .lit (.int .u32 2600822924), .lit (.int .u32 528734635), .lit (.int .u32 1541459225)]
def laid_replica_replicaref01_begin {H : Type} : DataW H := .agg [.lit (.int .u32 1779033703), .lit (.int .u32 3144134277), .lit (.int .u32 1013904242), .lit (.int .u32 2773480762), .lit (.int .u32 1359893119), .lit (.int .u32 2600822924), .lit (.int .u32 528734635), .lit (.int .u32 1541459225)]
def laid_replica_replicaref01_round {H : Type} : DataW H := .agg [.lit (.int .u32 1116352408), .lit (.int .u32 1899447441), .lit (.int .u32 3049323471), .lit (.int .u32 3921009573), .lit (.int .u32 961987163), .lit (.int .u32 1508970993), .lit (.int .u32 2453635748), .lit (.int .u32 2870763221), .lit (.int .u32 3624381080), .lit (.int .u32 310598401), .lit (.int .u32 607225278), .lit (.int .u32 1426881987), .lit (.int .u32 1925078388), .lit (.int .u32 2162078206), .lit (.int .u32 2614888103), .lit (.int .u32 3248222580), .lit (.int .u32 3835390401), .lit (.int .u32 4022224774), .lit (.int .u32 264347078), .lit (.int .u32 604807628), .lit (.int .u32 770255983), .lit (.int .u32 1249150122), .lit (.int .u32 1555081692), .lit (.int .u32 1996064986), .lit (.int .u32 2554220882), .lit (.int .u32 2821834349), .lit (.int .u32 2952996808), .lit (.int .u32 3210313671), .lit (.int .u32 3336571891), .lit (.int .u32 3584528711), .lit (.int .u32 113926993), .lit (.int .u32 338241895), .lit (.int .u32 666307205), .lit (.int .u32 773529912), .lit (.int .u32 1294757372), .lit (.int .u32 1396182291), .lit (.int .u32 1695183700), .lit (.int .u32 1986661051), .lit (.int .u32 2177026350), .lit (.int .u32 2456956037), .lit (.int .u32 2730485921), .lit (.int .u32 2820302411), .lit (.int .u32 3259730800), .lit (.int .u32 3345764771), .lit (.int .u32 3516065817), .lit (.int .u32 3600352804), .lit (.int .u32 4094571909), .lit (.int .u32 275423344), .lit (.int .u32 430227734), .lit (.int .u32 506948616), .lit (.int .u32 659060556), .lit (.int .u32 883997877), .lit (.int .u32 958139571), .lit (.int .u32 1322822218), .lit (.int .u32 1537002063), .lit (.int .u32 1747873779), .lit (.int .u32 1955562222), .lit (.int .u32 2024104815), .lit (.int .u32 2227730452), .lit (.int .u32 2361852424), .lit (.int .u32 2428436474), .lit (.int .u32 2756734187), .lit (.int .u32 3204031479), .lit (.int .u32 3329325298)]

/-- 'replicalaw01.DigestStream': WHATEVER THE INPUT: true; the input reads as it did. -/
def digestStreamSpec : ChangeSpec := { name := "digestStream", fn := fun _ => fun
  | [d] => { results := [.lit (.bool true)], args := [d] }
  | _ => none }
def digestStreamRow : OpenClaim := { program := "ytepikbmlhejobaadoor", sum := "846ca599a4293e599047200b965784afdbffb74c2a69b8f7cd64ee051806cda8", func := "replica/replicalaw01.DigestStream", spec := "digestStream", named := ["replica/digest.start", "replica/digest.rounds", "replica/replicaref01.begin", "replica/replicaref01.round"], apart := false, laid := [("replica/digest.rounds", laid_replica_digest_rounds), ("replica/digest.start", laid_replica_digest_start), ("replica/replicaref01.begin", laid_replica_replicaref01_begin), ("replica/replicaref01.round", laid_replica_replicaref01_round)] }
def DigestStreamSaid : Prop := digestStreamRow.holds Tryd.pinned (OpenSpec.ofChange digestStreamSpec)

/-- ITS FALSE NEIGHBOUR: 'it returns false'. Refute it at one input. -/
def digestStreamWrong : ChangeSpec := { name := "digestStream", fn := fun _ => fun
  | [d] => { results := [.lit (.bool false)], args := [d] }
  | _ => none }
def DigestStreamWrongFalsely : Prop := digestStreamRow.holds Tryd.pinned (OpenSpec.ofChange digestStreamWrong)

/-- 'replicalaw01.DigestSum': WHATEVER THE INPUT: true; the input reads as it did. -/
def digestSumSpec : ChangeSpec := { name := "digestSum", fn := fun _ => fun
  | [d] => { results := [.lit (.bool true)], args := [d] }
  | _ => none }
def digestSumRow : OpenClaim := { program := "ytepikbmlhejobaadoor", sum := "846ca599a4293e599047200b965784afdbffb74c2a69b8f7cd64ee051806cda8", func := "replica/replicalaw01.DigestSum", spec := "digestSum", named := ["replica/digest.start", "replica/digest.rounds", "replica/replicaref01.begin", "replica/replicaref01.round"], apart := false, laid := [("replica/digest.rounds", laid_replica_digest_rounds), ("replica/digest.start", laid_replica_digest_start), ("replica/replicaref01.begin", laid_replica_replicaref01_begin), ("replica/replicaref01.round", laid_replica_replicaref01_round)] }
def DigestSumSaid : Prop := digestSumRow.holds Tryd.pinned (OpenSpec.ofChange digestSumSpec)

/-- ITS FALSE NEIGHBOUR: 'it returns false'. Refute it at one input. -/
def digestSumWrong : ChangeSpec := { name := "digestSum", fn := fun _ => fun
  | [d] => { results := [.lit (.bool false)], args := [d] }
  | _ => none }
def DigestSumWrongFalsely : Prop := digestSumRow.holds Tryd.pinned (OpenSpec.ofChange digestSumWrong)

/-- 'replicalaw01.DigestRoots': WHATEVER THE INPUT: true; the input reads as it did. -/
def digestRootsSpec : ChangeSpec := { name := "digestRoots", fn := fun _ => fun
  | [d] => { results := [.lit (.bool true)], args := [d] }
  | _ => none }
def digestRootsRow : OpenClaim := { program := "ytepikbmlhejobaadoor", sum := "846ca599a4293e599047200b965784afdbffb74c2a69b8f7cd64ee051806cda8", func := "replica/replicalaw01.DigestRoots", spec := "digestRoots", named := ["replica/digest.start", "replica/digest.rounds"], apart := false, laid := [("replica/digest.rounds", laid_replica_digest_rounds), ("replica/digest.start", laid_replica_digest_start)] }
def DigestRootsSaid : Prop := digestRootsRow.holds Tryd.pinned (OpenSpec.ofChange digestRootsSpec)

/-- ITS FALSE NEIGHBOUR: 'it returns false'. Refute it at one input. -/
def digestRootsWrong : ChangeSpec := { name := "digestRoots", fn := fun _ => fun
  | [d] => { results := [.lit (.bool false)], args := [d] }
  | _ => none }
def DigestRootsWrongFalsely : Prop := digestRootsRow.holds Tryd.pinned (OpenSpec.ofChange digestRootsWrong)

/-- 'replicalaw01.DigestMac': WHATEVER THE INPUT: true; the input reads as it did. -/
def digestMacSpec : ChangeSpec := { name := "digestMac", fn := fun _ => fun
  | [d1, d2] => { results := [.lit (.bool true)], args := [d1, d2] }
  | _ => none }
def digestMacRow : OpenClaim := { program := "ytepikbmlhejobaadoor", sum := "846ca599a4293e599047200b965784afdbffb74c2a69b8f7cd64ee051806cda8", func := "replica/replicalaw01.DigestMac", spec := "digestMac", named := ["replica/digest.start", "replica/digest.rounds", "replica/replicaref01.begin", "replica/replicaref01.round"], apart := false, laid := [("replica/digest.rounds", laid_replica_digest_rounds), ("replica/digest.start", laid_replica_digest_start), ("replica/replicaref01.begin", laid_replica_replicaref01_begin), ("replica/replicaref01.round", laid_replica_replicaref01_round)] }
def DigestMacSaid : Prop := digestMacRow.holds Tryd.pinned (OpenSpec.ofChange digestMacSpec)

/-- ITS FALSE NEIGHBOUR: 'it returns false'. Refute it at one input. -/
def digestMacWrong : ChangeSpec := { name := "digestMac", fn := fun _ => fun
  | [d1, d2] => { results := [.lit (.bool false)], args := [d1, d2] }
  | _ => none }
def DigestMacWrongFalsely : Prop := digestMacRow.holds Tryd.pinned (OpenSpec.ofChange digestMacWrong)

/-- 'replicalaw01.DigestKeys': WHATEVER THE INPUT: true; the input reads as it did. -/
def digestKeysSpec : ChangeSpec := { name := "digestKeys", fn := fun _ => fun
  | [d1, d2] => { results := [.lit (.bool true)], args := [d1, d2] }
  | _ => none }
def digestKeysRow : OpenClaim := { program := "ytepikbmlhejobaadoor", sum := "846ca599a4293e599047200b965784afdbffb74c2a69b8f7cd64ee051806cda8", func := "replica/replicalaw01.DigestKeys", spec := "digestKeys", named := ["replica/digest.start", "replica/digest.rounds"], apart := false, laid := [("replica/digest.rounds", laid_replica_digest_rounds), ("replica/digest.start", laid_replica_digest_start)] }
def DigestKeysSaid : Prop := digestKeysRow.holds Tryd.pinned (OpenSpec.ofChange digestKeysSpec)

/-- ITS FALSE NEIGHBOUR: 'it returns false'. Refute it at one input. -/
def digestKeysWrong : ChangeSpec := { name := "digestKeys", fn := fun _ => fun
  | [d1, d2] => { results := [.lit (.bool false)], args := [d1, d2] }
  | _ => none }
def DigestKeysWrongFalsely : Prop := digestKeysRow.holds Tryd.pinned (OpenSpec.ofChange digestKeysWrong)

/-- 'replicalaw01.DigestCrcJoins': WHATEVER THE INPUT: true; the input reads as it did. -/
def digestCrcJoinsSpec : ChangeSpec := { name := "digestCrcJoins", fn := fun _ => fun
  | [d1, d2] => { results := [.lit (.bool true)], args := [d1, d2] }
  | _ => none }
def digestCrcJoinsRow : OpenClaim := { program := "ytepikbmlhejobaadoor", sum := "846ca599a4293e599047200b965784afdbffb74c2a69b8f7cd64ee051806cda8", func := "replica/replicalaw01.DigestCrcJoins", spec := "digestCrcJoins", named := ["replica/digest.start", "replica/digest.rounds"], apart := false, laid := [("replica/digest.rounds", laid_replica_digest_rounds), ("replica/digest.start", laid_replica_digest_start)] }
def DigestCrcJoinsSaid : Prop := digestCrcJoinsRow.holds Tryd.pinned (OpenSpec.ofChange digestCrcJoinsSpec)

/-- ITS FALSE NEIGHBOUR: 'it returns false'. Refute it at one input. -/
def digestCrcJoinsWrong : ChangeSpec := { name := "digestCrcJoins", fn := fun _ => fun
  | [d1, d2] => { results := [.lit (.bool false)], args := [d1, d2] }
  | _ => none }
def DigestCrcJoinsWrongFalsely : Prop := digestCrcJoinsRow.holds Tryd.pinned (OpenSpec.ofChange digestCrcJoinsWrong)

/-- 'replicalaw01.DigestCrcTells': WHATEVER THE INPUT: true; the input reads as it did. -/
def digestCrcTellsSpec : ChangeSpec := { name := "digestCrcTells", fn := fun _ => fun
  | [d1, d2, d3] => { results := [.lit (.bool true)], args := [d1, d2, d3] }
  | _ => none }
def digestCrcTellsRow : OpenClaim := { program := "ytepikbmlhejobaadoor", sum := "846ca599a4293e599047200b965784afdbffb74c2a69b8f7cd64ee051806cda8", func := "replica/replicalaw01.DigestCrcTells", spec := "digestCrcTells", named := ["replica/digest.start", "replica/digest.rounds"], apart := false, laid := [("replica/digest.rounds", laid_replica_digest_rounds), ("replica/digest.start", laid_replica_digest_start)] }
def DigestCrcTellsSaid : Prop := digestCrcTellsRow.holds Tryd.pinned (OpenSpec.ofChange digestCrcTellsSpec)

/-- ITS FALSE NEIGHBOUR: 'it returns false'. Refute it at one input. -/
def digestCrcTellsWrong : ChangeSpec := { name := "digestCrcTells", fn := fun _ => fun
  | [d1, d2, d3] => { results := [.lit (.bool false)], args := [d1, d2, d3] }
  | _ => none }
def DigestCrcTellsWrongFalsely : Prop := digestCrcTellsRow.holds Tryd.pinned (OpenSpec.ofChange digestCrcTellsWrong)

/-- 'replicalaw01.DigestCrcOdd': WHATEVER THE INPUT: true; the input reads as it did. -/
def digestCrcOddSpec : ChangeSpec := { name := "digestCrcOdd", fn := fun _ => fun
  | [d1, d2] => { results := [.lit (.bool true)], args := [d1, d2] }
  | _ => none }
def digestCrcOddRow : OpenClaim := { program := "ytepikbmlhejobaadoor", sum := "846ca599a4293e599047200b965784afdbffb74c2a69b8f7cd64ee051806cda8", func := "replica/replicalaw01.DigestCrcOdd", spec := "digestCrcOdd", named := ["replica/digest.start", "replica/digest.rounds"], apart := false, laid := [("replica/digest.rounds", laid_replica_digest_rounds), ("replica/digest.start", laid_replica_digest_start)] }
def DigestCrcOddSaid : Prop := digestCrcOddRow.holds Tryd.pinned (OpenSpec.ofChange digestCrcOddSpec)

/-- ITS FALSE NEIGHBOUR: 'it returns false'. Refute it at one input. -/
def digestCrcOddWrong : ChangeSpec := { name := "digestCrcOdd", fn := fun _ => fun
  | [d1, d2] => { results := [.lit (.bool false)], args := [d1, d2] }
  | _ => none }
def DigestCrcOddWrongFalsely : Prop := digestCrcOddRow.holds Tryd.pinned (OpenSpec.ofChange digestCrcOddWrong)

/-- 'replicalaw01.DigestCrcSums': WHATEVER THE INPUT: true; the input reads as it did. -/
def digestCrcSumsSpec : ChangeSpec := { name := "digestCrcSums", fn := fun _ => fun
  | [d1, d2, d3] => { results := [.lit (.bool true)], args := [d1, d2, d3] }
  | _ => none }
def digestCrcSumsRow : OpenClaim := { program := "ytepikbmlhejobaadoor", sum := "846ca599a4293e599047200b965784afdbffb74c2a69b8f7cd64ee051806cda8", func := "replica/replicalaw01.DigestCrcSums", spec := "digestCrcSums", named := ["replica/digest.start", "replica/digest.rounds"], apart := false, laid := [("replica/digest.rounds", laid_replica_digest_rounds), ("replica/digest.start", laid_replica_digest_start)] }
def DigestCrcSumsSaid : Prop := digestCrcSumsRow.holds Tryd.pinned (OpenSpec.ofChange digestCrcSumsSpec)

/-- ITS FALSE NEIGHBOUR: 'it returns false'. Refute it at one input. -/
def digestCrcSumsWrong : ChangeSpec := { name := "digestCrcSums", fn := fun _ => fun
  | [d1, d2, d3] => { results := [.lit (.bool false)], args := [d1, d2, d3] }
  | _ => none }
def DigestCrcSumsWrongFalsely : Prop := digestCrcSumsRow.holds Tryd.pinned (OpenSpec.ofChange digestCrcSumsWrong)

/-- 'replicalaw01.DigestPieces': WHATEVER THE INPUT: true; the input reads as it did. -/
def digestPiecesSpec : ChangeSpec := { name := "digestPieces", fn := fun _ => fun
  | [d1, d2] => { results := [.lit (.bool true)], args := [d1, d2] }
  | _ => none }
def digestPiecesRow : OpenClaim := { program := "ytepikbmlhejobaadoor", sum := "846ca599a4293e599047200b965784afdbffb74c2a69b8f7cd64ee051806cda8", func := "replica/replicalaw01.DigestPieces", spec := "digestPieces", named := ["replica/digest.start", "replica/digest.rounds"], apart := false, laid := [("replica/digest.rounds", laid_replica_digest_rounds), ("replica/digest.start", laid_replica_digest_start)] }
def DigestPiecesSaid : Prop := digestPiecesRow.holds Tryd.pinned (OpenSpec.ofChange digestPiecesSpec)

/-- ITS FALSE NEIGHBOUR: 'it returns false'. Refute it at one input. -/
def digestPiecesWrong : ChangeSpec := { name := "digestPieces", fn := fun _ => fun
  | [d1, d2] => { results := [.lit (.bool false)], args := [d1, d2] }
  | _ => none }
def DigestPiecesWrongFalsely : Prop := digestPiecesRow.holds Tryd.pinned (OpenSpec.ofChange digestPiecesWrong)

/- THE SECOND FORM. 'bulk': how many values and letters a reading holds, each counted each time it is reached (what is shared counts as often as it is met; a slice's spare places count too). A statement '..UptoSaid' is the law's where the arguments, and the package variables that the reading takes, are together of bulk at most 1048576: NARROWER than '..Said'. Prove '..Said' where nothing that the law and all that it calls make is longer than what came in: it says more and counts as full. Else prove '..UptoSaid'. A law counts once. -/
mutual
def uptoBulk {H : Type} : DataW H → Nat
  | .lit (.string bytes) => bytes.length + 1
  | .lit _ => 1
  | .nil => 1
  | .ptr d => uptoBulk d + 1
  | .slice elems spare => uptoBulkAll elems + uptoBulkAll spare + 1
  | .agg parts => uptoBulkAll parts + 1
  | .iface _ d => uptoBulk d + 1
  | .map entries => uptoBulkEntries entries + 1
  | .held _ => 1
def uptoBulkAll {H : Type} : List (DataW H) → Nat
  | [] => 0
  | d :: r => uptoBulk d + uptoBulkAll r
def uptoBulkEntries {H : Type} : List (Lit × DataW H) → Nat
  | [] => 0
  | x :: r => uptoBulkEntry x + uptoBulkEntries r
def uptoBulkEntry {H : Type} : Lit × DataW H → Nat
  | (.string bytes, d) => bytes.length + uptoBulk d + 1
  | (_, d) => uptoBulk d + 1
 end
def uptoSmall : (H : Type) → List (DataW H) → Bool := fun _ ds => decide (uptoBulkAll ds ≤ 1048576)
def OpenSpec.upto (s : _root_.Go.ChangeSpec) : _root_.Go.OpenSpec := { _root_.Go.OpenSpec.ofChange s with cond := some uptoSmall }

/-- 'replicalaw01.DigestStream', WHERE WHAT IT READS IS OF BULK AT MOST 1048576: true; the input reads as it did. -/
def digestStreamUptoRow : OpenClaim := { program := "ytepikbmlhejobaadoor", sum := "846ca599a4293e599047200b965784afdbffb74c2a69b8f7cd64ee051806cda8", func := "replica/replicalaw01.DigestStream", spec := "digestStream", named := ["replica/digest.start", "replica/digest.rounds", "replica/replicaref01.begin", "replica/replicaref01.round"], apart := false, laid := [("replica/digest.rounds", laid_replica_digest_rounds), ("replica/digest.start", laid_replica_digest_start), ("replica/replicaref01.begin", laid_replica_replicaref01_begin), ("replica/replicaref01.round", laid_replica_replicaref01_round)], narrowed := true }
def DigestStreamUptoSaid : Prop := digestStreamUptoRow.holds Tryd.pinned (OpenSpec.upto digestStreamSpec)

/-- 'replicalaw01.DigestSum', WHERE WHAT IT READS IS OF BULK AT MOST 1048576: true; the input reads as it did. -/
def digestSumUptoRow : OpenClaim := { program := "ytepikbmlhejobaadoor", sum := "846ca599a4293e599047200b965784afdbffb74c2a69b8f7cd64ee051806cda8", func := "replica/replicalaw01.DigestSum", spec := "digestSum", named := ["replica/digest.start", "replica/digest.rounds", "replica/replicaref01.begin", "replica/replicaref01.round"], apart := false, laid := [("replica/digest.rounds", laid_replica_digest_rounds), ("replica/digest.start", laid_replica_digest_start), ("replica/replicaref01.begin", laid_replica_replicaref01_begin), ("replica/replicaref01.round", laid_replica_replicaref01_round)], narrowed := true }
def DigestSumUptoSaid : Prop := digestSumUptoRow.holds Tryd.pinned (OpenSpec.upto digestSumSpec)

/-- 'replicalaw01.DigestRoots', WHERE WHAT IT READS IS OF BULK AT MOST 1048576: true; the input reads as it did. -/
def digestRootsUptoRow : OpenClaim := { program := "ytepikbmlhejobaadoor", sum := "846ca599a4293e599047200b965784afdbffb74c2a69b8f7cd64ee051806cda8", func := "replica/replicalaw01.DigestRoots", spec := "digestRoots", named := ["replica/digest.start", "replica/digest.rounds"], apart := false, laid := [("replica/digest.rounds", laid_replica_digest_rounds), ("replica/digest.start", laid_replica_digest_start)], narrowed := true }
def DigestRootsUptoSaid : Prop := digestRootsUptoRow.holds Tryd.pinned (OpenSpec.upto digestRootsSpec)

/-- 'replicalaw01.DigestMac', WHERE WHAT IT READS IS OF BULK AT MOST 1048576: true; the input reads as it did. -/
def digestMacUptoRow : OpenClaim := { program := "ytepikbmlhejobaadoor", sum := "846ca599a4293e599047200b965784afdbffb74c2a69b8f7cd64ee051806cda8", func := "replica/replicalaw01.DigestMac", spec := "digestMac", named := ["replica/digest.start", "replica/digest.rounds", "replica/replicaref01.begin", "replica/replicaref01.round"], apart := false, laid := [("replica/digest.rounds", laid_replica_digest_rounds), ("replica/digest.start", laid_replica_digest_start), ("replica/replicaref01.begin", laid_replica_replicaref01_begin), ("replica/replicaref01.round", laid_replica_replicaref01_round)], narrowed := true }
def DigestMacUptoSaid : Prop := digestMacUptoRow.holds Tryd.pinned (OpenSpec.upto digestMacSpec)

/-- 'replicalaw01.DigestKeys', WHERE WHAT IT READS IS OF BULK AT MOST 1048576: true; the input reads as it did. -/
def digestKeysUptoRow : OpenClaim := { program := "ytepikbmlhejobaadoor", sum := "846ca599a4293e599047200b965784afdbffb74c2a69b8f7cd64ee051806cda8", func := "replica/replicalaw01.DigestKeys", spec := "digestKeys", named := ["replica/digest.start", "replica/digest.rounds"], apart := false, laid := [("replica/digest.rounds", laid_replica_digest_rounds), ("replica/digest.start", laid_replica_digest_start)], narrowed := true }
def DigestKeysUptoSaid : Prop := digestKeysUptoRow.holds Tryd.pinned (OpenSpec.upto digestKeysSpec)

/-- 'replicalaw01.DigestCrcJoins', WHERE WHAT IT READS IS OF BULK AT MOST 1048576: true; the input reads as it did. -/
def digestCrcJoinsUptoRow : OpenClaim := { program := "ytepikbmlhejobaadoor", sum := "846ca599a4293e599047200b965784afdbffb74c2a69b8f7cd64ee051806cda8", func := "replica/replicalaw01.DigestCrcJoins", spec := "digestCrcJoins", named := ["replica/digest.start", "replica/digest.rounds"], apart := false, laid := [("replica/digest.rounds", laid_replica_digest_rounds), ("replica/digest.start", laid_replica_digest_start)], narrowed := true }
def DigestCrcJoinsUptoSaid : Prop := digestCrcJoinsUptoRow.holds Tryd.pinned (OpenSpec.upto digestCrcJoinsSpec)

/-- 'replicalaw01.DigestCrcTells', WHERE WHAT IT READS IS OF BULK AT MOST 1048576: true; the input reads as it did. -/
def digestCrcTellsUptoRow : OpenClaim := { program := "ytepikbmlhejobaadoor", sum := "846ca599a4293e599047200b965784afdbffb74c2a69b8f7cd64ee051806cda8", func := "replica/replicalaw01.DigestCrcTells", spec := "digestCrcTells", named := ["replica/digest.start", "replica/digest.rounds"], apart := false, laid := [("replica/digest.rounds", laid_replica_digest_rounds), ("replica/digest.start", laid_replica_digest_start)], narrowed := true }
def DigestCrcTellsUptoSaid : Prop := digestCrcTellsUptoRow.holds Tryd.pinned (OpenSpec.upto digestCrcTellsSpec)

/-- 'replicalaw01.DigestCrcOdd', WHERE WHAT IT READS IS OF BULK AT MOST 1048576: true; the input reads as it did. -/
def digestCrcOddUptoRow : OpenClaim := { program := "ytepikbmlhejobaadoor", sum := "846ca599a4293e599047200b965784afdbffb74c2a69b8f7cd64ee051806cda8", func := "replica/replicalaw01.DigestCrcOdd", spec := "digestCrcOdd", named := ["replica/digest.start", "replica/digest.rounds"], apart := false, laid := [("replica/digest.rounds", laid_replica_digest_rounds), ("replica/digest.start", laid_replica_digest_start)], narrowed := true }
def DigestCrcOddUptoSaid : Prop := digestCrcOddUptoRow.holds Tryd.pinned (OpenSpec.upto digestCrcOddSpec)

/-- 'replicalaw01.DigestCrcSums', WHERE WHAT IT READS IS OF BULK AT MOST 1048576: true; the input reads as it did. -/
def digestCrcSumsUptoRow : OpenClaim := { program := "ytepikbmlhejobaadoor", sum := "846ca599a4293e599047200b965784afdbffb74c2a69b8f7cd64ee051806cda8", func := "replica/replicalaw01.DigestCrcSums", spec := "digestCrcSums", named := ["replica/digest.start", "replica/digest.rounds"], apart := false, laid := [("replica/digest.rounds", laid_replica_digest_rounds), ("replica/digest.start", laid_replica_digest_start)], narrowed := true }
def DigestCrcSumsUptoSaid : Prop := digestCrcSumsUptoRow.holds Tryd.pinned (OpenSpec.upto digestCrcSumsSpec)

/-- 'replicalaw01.DigestPieces', WHERE WHAT IT READS IS OF BULK AT MOST 1048576: true; the input reads as it did. -/
def digestPiecesUptoRow : OpenClaim := { program := "ytepikbmlhejobaadoor", sum := "846ca599a4293e599047200b965784afdbffb74c2a69b8f7cd64ee051806cda8", func := "replica/replicalaw01.DigestPieces", spec := "digestPieces", named := ["replica/digest.start", "replica/digest.rounds"], apart := false, laid := [("replica/digest.rounds", laid_replica_digest_rounds), ("replica/digest.start", laid_replica_digest_start)], narrowed := true }
def DigestPiecesUptoSaid : Prop := digestPiecesUptoRow.holds Tryd.pinned (OpenSpec.upto digestPiecesSpec)

end Rows
end Go.Proofs.YtepikbmlhejobaaDoor
