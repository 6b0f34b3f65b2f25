/- ApiNumbers: every constant of package api has the number that the document gives it; a closed sentence, without a condition. -/
import Derived.Test.YtmhbemmlkbgmfaaPApiNumbersx1
namespace Go.Proofs.Ytmhbemmlkbgmfaa.Pure
open Go.RowKit Go.Proofs.Ytmhbemmlkbgmfaa.PApiNumbers Go.Proofs.YtmhbemmlkbgmfaaW.PrintWords Go.Proofs.YtmhbemmlkbgmfaaW.PrintLast

/-- YOURS: replicatop_ApiNumbers.f  = some true
What it reaches (each with k first where it has rounds; `.mono`: more rounds tell the same; `.l0`, ..: its loops, with `.mono_l`): replicatop_ApiNumbers.f -/
theorem ApiNumbers : replicatop_ApiNumbers.Pure := by
  first | rfl | decide

end Go.Proofs.Ytmhbemmlkbgmfaa.Pure
