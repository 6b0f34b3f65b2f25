/- The statement DigestHexBack: the walk joined with the plain laws. -/
import Derived.Test.YtepikbmlhejobaaHexBack
namespace Go.Proofs.Ytepikbmlhejobaa
open Go.RowKit

theorem digestHexBack_any (l : List UInt8) (s : ByteArray) (w : World) (hl : l.length = 32) (hs : s.size ≤ maxLen) : Calls Try.prog 5 #[.agg (arr encB l), .string s] w fun e w' => e = .returned (.bool true) ∧ Below w.heap.size w w' := by
  unfold maxLen at hs
  have h64 : (strOf (hexOf l)).size = 64 := by rw [strOf_size, hexOf_length, hl]
  have g1 : Gives 15 #[.agg (arr encB l)] (.string (strOf (hexOf l))) := fun w => hex_any l w hl
  have g2 : Gives 16 #[.string (strOf (hexOf l))] (.tuple #[.agg (arr encB l), .int .i64 0]) := fun w => by
    have h := unhex_any (strOf (hexOf l)) w
    unfold UnPost at h
    rwa [strL_strOf, (back_small l hl).1, (back_small l hl).2] at h
  have g3 : Gives 21 #[.string (strOf (hexOf l))] (.string (strOf ((hexOf l).map uppB))) := fun w => by
    have h := upper_any (strOf (hexOf l)) w (by rw [h64]; omega)
    rwa [strL_strOf] at h
  have g4 : Gives 16 #[.string (strOf ((hexOf l).map uppB))] (.tuple #[.agg (arr encB l), .int .i64 0]) := fun w => by
    have h := unhex_any (strOf ((hexOf l).map uppB)) w
    unfold UnPost at h
    rwa [strL_strOf, (back_cap l hl).1, (back_cap l hl).2] at h
  have g5 : Gives 16 #[.string s] (.tuple #[.agg (arr encB (unhexT (strL s))), .int .i64 (unhexE (strL s))]) := fun w => unhex_any s w
  have g6 : Gives 15 #[.agg (arr encB (unhexT (strL s)))] (.string (strOf (hexOf (unhexT (strL s))))) := fun w => hex_any _ w (unhexT_length _)
  have g7 : Gives 22 #[.string s] (.string (strOf ((strL s).map lowB))) := fun w => lower_any s w hs
  have g8 : Gives 19 #[.agg (arr encB l), .agg (arr encB l)] (.bool true) := fun w => equal_yes l w hl
  cases hok : hexOk (strL s) with
  | true =>
    have hE : unhexE (strL s) = 0 := by unfold unhexE; rw [hok]; rfl
    rw [hE] at g5
    exact hexBack_ok l _ s _ _ _ _ w hl (unhexT_length _) g1 g2 g3 g4 g5 g6 g7 g8 (by rw [read_small _ hok])
  | false =>
    have hE : unhexE (strL s) = 11 := by unfold unhexE; rw [hok]; rfl
    have hT : unhexT (strL s) = zero32 := by unfold unhexT; rw [hok]; rfl
    rw [hE] at g5
    refine hexBack_no l _ s _ _ _ _ w hl (unhexT_length _) g1 g2 g3 g4 g5 g6 g7 g8 hT (fun h64 e => ?_) (fun w => equal_yes zero32 w zero32_len)
    rw [hT] at e
    exact read_not (strL s) hok (by rw [strL_length]; exact h64) (strOf_inj e)
end Go.Proofs.Ytepikbmlhejobaa
