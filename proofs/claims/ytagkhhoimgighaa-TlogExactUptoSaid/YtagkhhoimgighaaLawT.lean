/- The statements of layer 10: their own helpers (has), an operation of a script, the book of what was put in. -/
import Derived.Test.YtagkhhoimgighaaMade
namespace Go.Proofs.Ytagkhhoimgighaa
open Go.RowKit

abbrev Ent3 := Int × Int × Int
def encE (x : Ent3) : List Value := [.int .i64 x.1, .int .i64 x.2.1, .int .i64 x.2.2]
theorem encE_len (x : Ent3) : (encE x).length = 3 := rfl
theorem encE_one (x : Ent3) : ∀ v ∈ encE x, v.oneCell' = true := fun v hv => by
  simp only [encE, List.mem_cons, List.not_mem_nil, or_false] at hv
  rcases hv with rfl | rfl | rfl <;> rfl
/-- a call of a script: its kind, which log, its numbers -/
abbrev encO4 (o : Int × Int × Int × Int) : List Value := [.int .i64 o.1, .int .i64 o.2.1, .int .i64 o.2.2.1, .int .i64 o.2.2.2]
theorem opSz4 : (Try.prog.info? 29).map (·.size) = some 4 := by kernel_rfl
theorem opSz (x y z u : Value) : (Try.prog.info? 29).map (·.size) = some (#[x, y, z, u] : Array Value).size := opSz4
theorem size4 (x y z u a b c d : Value) : (#[x, y, z, u] : Array Value).size = (#[a, b, c, d] : Array Value).size := rfl
theorem one4 {x y z u : Value} (hx : x.oneCell' = true) (hy : y.oneCell' = true) (hz : z.oneCell' = true) (hu : u.oneCell' = true) : (#[x, y, z, u] : Array Value).all (·.oneCell') = true := by simp [hx, hy, hz, hu]

def hasB (l : List Ent3) (id : Int) : Bool := l.any fun x => x.1 == id
theorem hasB_take {l : List Ent3} {id : Int} {k : Nat} {x : Ent3} (hx : l[k]? = some x) (h : hasB (l.take k) id = false) : hasB (l.take (k + 1)) id = (x.1 == id) := by
  unfold hasB at *
  rw [List.take_add_one, hx, Option.toList_some, List.any_append, h]
  simp
theorem hasB_find {l : List Ent3} {ws : List Wr} {id : Int} (h : l.map (·.1) = ws.map (·.id)) : hasB l id = (findW ws id).isSome := by
  unfold hasB findW
  rw [Option.isSome_map, show (l.any fun x => x.1 == id) = ((l.map (·.1)).any fun y => y == id) from by rw [List.any_map]; rfl, h, List.any_map, Bool.eq_iff_iff]
  simp only [List.find?_isSome, List.any_eq_true, Function.comp]
set_option maxRecDepth 20000 in
set_option maxHeartbeats 1000000 in
theorem has_any {A : Option Addr} {c : Nat} {l : List Ent3} {w : World} (id : Int) (hr : RdS encE 3 w A l) (hl : l.length ≤ 9223372036854775807) :
    Calls Try.prog 13 #[.slice A l.length c, .int .i64 id] w fun e w' => e = .returned (.bool (hasB l id)) ∧ w = w' := by
  go_enter Try.func13, Try.ntmps13
  go_wp2
  go_loop [5] (fun ct => ∃ k : Nat, k ≤ l.length ∧ ct = .int .i64 k ∧ hasB (l.take k) id = false) (fun ct => l.length - (intOf ct).toNat)
  case atStart => exact ⟨0, by omega, rfl, rfl⟩
  case round =>
    obtain ⟨k, hk, rfl, hh⟩ := hrel
    by_cases hlt : k < l.length
    · obtain ⟨g, o, x, rfl, _, hx, hc⟩ := hr.at_ hlt
      have x0 : w.cell? ⟨g, o + k * 3, none⟩ = some (.int .i64 x.1) := hc 0 _ rfl
      have hs := hasB_take hx hh
      have Hx := Lib.hid hx
      have HS := Lib.hid hs
      have HH := Lib.hid hh
      clear hc hx hs hh
      by_cases e : x.1 = id
      · have t : (x.1 == id) = true := by simpa using e
        have He := Lib.hid e
        clear e
        go_wp2
        go_ret
        refine ⟨ret_bool ?_, rfl⟩
        unfold hasB
        exact (List.any_eq_true.2 ⟨x, List.mem_of_getElem? Hx.out, by simpa using He.out⟩).symm
      · have t : (x.1 == id) = false := by simpa using e
        have He := Lib.hid t
        clear e
        go_wp2
        go_round
        case rel => exact ⟨k + 1, by omega, by go_num, by rw [HS.out, He.out]⟩
        case measure => simp [intOf]; omega
    · obtain rfl : k = l.length := by omega
      rw [List.take_length] at hh
      have HH := Lib.hid hh
      clear hh
      go_wp2
      go_ret
      exact ⟨ret_bool HH.out.symm, rfl⟩
end Go.Proofs.Ytagkhhoimgighaa
