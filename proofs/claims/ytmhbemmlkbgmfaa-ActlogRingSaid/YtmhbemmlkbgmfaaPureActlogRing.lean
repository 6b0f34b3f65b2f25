/- ActlogRing: for every number of slots the program's Ring and the document's Ring answer the same, without a condition. -/
import Derived.Test.YtmhbemmlkbgmfaaPActlogRingx1
namespace Go.Proofs.Ytmhbemmlkbgmfaa.Pure
open Go.RowKit Go.Proofs.Ytmhbemmlkbgmfaa.PActlogRing Go.Proofs.YtmhbemmlkbgmfaaW.PrintWords Go.Proofs.YtmhbemmlkbgmfaaW.PrintLast

/-- YOURS: ∀ (a0 : Int), (Lit.int .i64 a0).wf = true → ∃ k, replicalaw04_ActlogRing.f k a0 = some true
What it reaches (each with k first where it has rounds; `.mono`: more rounds tell the same; `.l0`, ..: its loops, with `.mono_l`): actlog_Ring.f, replicaref04_Ring.f, replicalaw04_ActlogRing.f -/
theorem ActlogRing : replicalaw04_ActlogRing.Pure := by
  intro a0 _
  refine ⟨1, ?_⟩
  unfold replicalaw04_ActlogRing.f actlog_Ring.f replicaref04_Ring.f
  by_cases h1 : a0 < 1
  · simp [h1, actlog_Ring.j0, replicaref04_Ring.j0]
  · by_cases h2 : a0 > 16
    · simp [h1, h2, actlog_Ring.j0, replicaref04_Ring.j0]
    · by_cases h3 : a0 ≤ 4
      · simp [h1, h2, h3, actlog_Ring.j0, replicaref04_Ring.j0]
      · by_cases h4 : a0 ≤ 8
        · simp [h1, h2, h3, h4, actlog_Ring.j0, replicaref04_Ring.j0]
        · simp [h1, h2, h3, h4, actlog_Ring.j0, replicaref04_Ring.j0]

end Go.Proofs.Ytmhbemmlkbgmfaa.Pure
