-- PRINTED BY print.sh 35421559b90ae4d0a3588c463048766b98c2df88dd9212a6774a882060cdf62d: not written by this session
import Derived.Test.YtmhbemmlkbgmfaaPApiNumbersx0
namespace Go.Proofs.Ytmhbemmlkbgmfaa.PApiNumbers
open Go.RowKit Go.Proofs.YtmhbemmlkbgmfaaW.PrintWords Go.Proofs.YtmhbemmlkbgmfaaW.PrintLast Go.Proofs.YtmhbemmlkbgmfaaW.PrintMore
attribute [local go_sem] max2_int min2_int max_two min_two max_three min_three max_four min_four   -- for this text's walks alone
set_option linter.unusedVariables false
set_option linter.unusedSimpArgs false

/-! ### replicatop_ApiNumbers: function 5 -/
def replicatop_ApiNumbers.f  : Option (Bool) := some true
set_option maxHeartbeats 8000000 in
set_option maxRecDepth 100000 in
theorem replicatop_ApiNumbers.calls  (r : Bool) (w : World) (h : replicatop_ApiNumbers.f  = some r) :
    Calls Try.prog 5 #[] w fun e w' => e = .returned (.bool r) ∧ Drawn0 w w' := by
  have H : (some true) = some r := h
  clear h
  obtain rfl := Option.some.inj H
  go_enter Try.func5, Try.ntmps5
  go_wp2
  go_ret
  exact ⟨by first | rfl | (simp; done) | (simp [*]; done), by repeat (first | exact Drawn0.refl _ | apply Drawn0.step)⟩

/-- THE ONE PURE STATEMENT of replicatop_ApiNumbers: yours. -/
def replicatop_ApiNumbers.Pure : Prop := replicatop_ApiNumbers.f  = some true
theorem replicatop_ApiNumbers.walk (P : replicatop_ApiNumbers.Pure)  (w : World)  :
    Calls Try.prog 5 #[] w fun e w' => e = .returned (.bool true) ∧ Below w.heap.size w w' := by
  have h := P  
  refine (replicatop_ApiNumbers.calls  true w h).mono ?_
  rintro e w' ⟨rfl, hd⟩
  exact ⟨rfl, hd.below⟩

end Go.Proofs.Ytmhbemmlkbgmfaa.PApiNumbers
