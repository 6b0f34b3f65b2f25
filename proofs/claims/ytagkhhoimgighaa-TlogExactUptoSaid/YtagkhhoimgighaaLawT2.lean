/- The statements of layer 10: sameEntries and oldest, by contract. -/
import Derived.Test.YtagkhhoimgighaaLawT
import Derived.Test.YtagkhhoimgighaaAck
namespace Go.Proofs.Ytagkhhoimgighaa
open Go.RowKit

def oldE : List Ent3 → Int
  | [] => 0
  | x :: _ => x.2.2
def oldN (l : List Ent3) : Nat := (l.filter fun x => x.2.2 == oldE l).length
theorem oldN_take {l : List Ent3} {k : Nat} {x : Ent3} (e : Int) (hx : l[k]? = some x) : ((l.take (k + 1)).filter fun x => x.2.2 == e).length = ((l.take k).filter fun x => x.2.2 == e).length + (if x.2.2 == e then 1 else 0) := by
  rw [List.take_add_one, hx, Option.toList_some, List.filter_append, List.length_append]
  cases h : x.2.2 == e <;> simp [h]
set_option maxRecDepth 20000 in
set_option maxHeartbeats 1000000 in
theorem oldest_any {A : Option Addr} {c : Nat} {l : List Ent3} {w : World} (hr : RdS encE 3 w A l) (hl : l.length ≤ 9223372036854775807) :
    Calls Try.prog 24 #[.slice A l.length c] w fun e w' => e = .returned (.tuple #[.int .i64 (oldE l), .int .i64 (oldN l)]) ∧ ∃ n, w' = w.drewN n := by
  cases l with
  | nil =>
    go_enter Try.func24, Try.ntmps24
    go_wp2
    go_ret2
    exact ⟨rfl, 0, rfl⟩
  | cons z zs =>
    obtain ⟨l, hl'⟩ : ∃ l, l = z :: zs := ⟨_, rfl⟩
    have h0 : ((l.length : Int) == 0) = false := by rw [beq_eq_false_iff_ne, hl']; simp only [List.length_cons]; omega
    have h1 : (0 : Int) < (l.length : Int) := by rw [hl']; simp only [List.length_cons]; omega
    rw [← hl'] at hr hl ⊢
    obtain ⟨g, o, x, rfl, _, hx, hc⟩ := hr.at_ (k := 0) (by omega)
    have hz : x = z := by rw [hl'] at hx; cases hx; rfl
    subst hz
    have z2 : w.cell? ⟨g, o + 2, none⟩ = some (.int .i64 x.2.2) := by simpa using hc 2 _ rfl
    have hE : oldE l = x.2.2 := by rw [hl']; rfl
    have HE := Lib.hid hE
    have hN : oldN l = (l.filter fun y => y.2.2 == x.2.2).length := by unfold oldN; rw [hE]
    have HN := Lib.hid hN
    have Hr := Lib.hid hr
    rw [hE, hN]
    clear hc hx hE hN hl' hr
    go_enter Try.func24, Try.ntmps24
    go_wp2
    go_loopw [4, 5] (fun t4 t5 wr => ∃ k m : Nat, k ≤ l.length ∧ t5 = .int .i64 k ∧ t4 = .int .i64 (((l.take k).filter fun y => y.2.2 == x.2.2).length) ∧ wr = w.drewN m) (fun _ t5 _ => l.length - (intOf t5).toNat)
    case atStart => exact ⟨0, 0, by omega, rfl, rfl, rfl⟩
    case round =>
      obtain ⟨k, m, hk, rfl, rfl, rfl⟩ := hrel
      by_cases hlt : k < l.length
      · obtain ⟨g', o', y, hA, _, hy, hc⟩ := Hr.out.at_ hlt
        cases hA
        have y2 : w.cell? ⟨g, o + k * 3 + 2, none⟩ = some (.int .i64 y.2.2) := hc 2 _ rfl
        have hs := oldN_take x.2.2 hy
        have hle : ((l.take k).filter fun y => y.2.2 == x.2.2).length ≤ k := Nat.le_trans (List.length_filter_le _ _) (List.length_take_le _ _)
        obtain ⟨N, hN⟩ : ∃ N, N = ((l.take k).filter fun y => y.2.2 == x.2.2).length := ⟨_, rfl⟩
        rw [← hN] at hs hle ⊢
        have HS := Lib.hid hs
        have t1 : (k : Int) < (l.length : Int) := by omega
        have t0 : (0 : Int) ≤ (k : Int) := by omega
        clear hs hN hc hy
        by_cases e : y.2.2 = x.2.2
        · have t : (y.2.2 == x.2.2) = true := by simpa using e
          have He := Lib.hid t
          rw [e] at y2
          clear e t
          go_wp2
          go_quiet (fail)
          go_wp2
          go_roundw
          case rel => exact ⟨k + 1, _, by omega, by go_num, by rw [HS.out, He.out]; rfl, rfl⟩
          case measure => simp [intOf]; omega
        · have t : (y.2.2 == x.2.2) = false := by simpa using e
          have He := Lib.hid t
          clear e
          go_wp2
          go_quiet (fail)
          go_wp2
          go_roundw
          case rel => exact ⟨k + 1, _, by omega, by go_num, by rw [HS.out, He.out]; rfl, rfl⟩
          case measure => simp [intOf]; omega
      · obtain rfl : k = l.length := by omega
        rw [List.take_length]
        go_wp2
        go_ret2
        exact ⟨rfl, m, rfl⟩
theorem sameEntry_val (a b c x y z : Int) (r : Bool) (w : World) (h : decide (a = x ∧ b = y ∧ c = z) = r) : Calls Try.prog 27 #[entV a b c, entV x y z] w fun e w' => e = .returned (.bool r) ∧ Below w.heap.size w w' := by
  subst h
  exact sameEntry_any a b c x y z w
set_option maxRecDepth 20000 in
set_option maxHeartbeats 1000000 in
theorem sameEntries_any {A B : Option Addr} {cA cB : Nat} {l m : List Ent3} {w : World} (hr : RdS encE 3 w A l) (hm : RdS encE 3 w B m) (hl : l.length ≤ 9223372036854775807) (_hml : m.length ≤ 9223372036854775807) :
    Calls Try.prog 25 #[.slice A l.length cA, .slice B m.length cB] w fun e w' => e = .returned (.bool (decide (l = m))) ∧ Below w.heap.size w w' := by
  by_cases hlen : l.length = m.length
  case neg =>
    have h0 : ((l.length : Int) != (m.length : Int)) = true := by rw [bne_iff_ne]; omega
    have hd : decide (l = m) = false := decide_eq_false fun e => hlen (by rw [e])
    rw [hd]
    clear hlen hd
    go_enter Try.func25, Try.ntmps25
    go_wp2
    go_ret
    exact ⟨rfl, Below.refl _ _⟩
  have Hr := Lib.hid hr
  have Hm := Lib.hid hm
  have Hlen := Lib.hid hlen
  clear hr hm
  rw [← hlen]
  clear hlen
  go_enter Try.func25, Try.ntmps25
  go_wp2
  go_loopw [5] (fun t5 wr => ∃ k : Nat, k ≤ l.length ∧ t5 = .int .i64 k ∧ l.take k = m.take k ∧ Below w.heap.size w wr) (fun t5 _ => l.length - (intOf t5).toNat)
  case atStart => exact ⟨0, by omega, rfl, rfl, Below.refl _ _⟩
  case round =>
    obtain ⟨k, hk, rfl, hs, hB⟩ := hrel
    have HS := Lib.hid hs
    have HB := Lib.hid hB
    clear hs hB
    by_cases hlt : k < l.length
    · obtain ⟨g, o, x, rfl, hg, hx, hc⟩ := Hr.out.at_ hlt
      obtain ⟨g', o', y, rfl, hg', hy, hd⟩ := Hm.out.at_ (k := k) (by have := Hlen.out; omega)
      have x0 : wr.cell? ⟨g, o + k * 3, none⟩ = some (.int .i64 x.1) := (HB.out.cell (p := ⟨g, o + k * 3, none⟩) hg).trans (hc 0 _ rfl)
      have x1 : wr.cell? ⟨g, o + k * 3 + 1, none⟩ = some (.int .i64 x.2.1) := (HB.out.cell (p := ⟨g, o + k * 3 + 1, none⟩) hg).trans (hc 1 _ rfl)
      have x2 : wr.cell? ⟨g, o + k * 3 + 2, none⟩ = some (.int .i64 x.2.2) := (HB.out.cell (p := ⟨g, o + k * 3 + 2, none⟩) hg).trans (hc 2 _ rfl)
      have y0 : wr.cell? ⟨g', o' + k * 3, none⟩ = some (.int .i64 y.1) := (HB.out.cell (p := ⟨g', o' + k * 3, none⟩) hg').trans (hd 0 _ rfl)
      have y1 : wr.cell? ⟨g', o' + k * 3 + 1, none⟩ = some (.int .i64 y.2.1) := (HB.out.cell (p := ⟨g', o' + k * 3 + 1, none⟩) hg').trans (hd 1 _ rfl)
      have y2 : wr.cell? ⟨g', o' + k * 3 + 2, none⟩ = some (.int .i64 y.2.2) := (HB.out.cell (p := ⟨g', o' + k * 3 + 2, none⟩) hg').trans (hd 2 _ rfl)
      have t1 : (k : Int) < (l.length : Int) := by omega
      have t0 : (0 : Int) ≤ (k : Int) := by omega
      have hgw : g < wr.heap.size := Nat.lt_of_lt_of_le hg HB.out.size
      have hgw' : g' < wr.heap.size := Nat.lt_of_lt_of_le hg' HB.out.size
      have Hx := Lib.hid hx
      have Hy := Lib.hid hy
      clear hc hd hx hy
      by_cases e : x.1 = y.1 ∧ x.2.1 = y.2.1 ∧ x.2.2 = y.2.2
      · have hxy : x = y := Prod.ext e.1 (Prod.ext e.2.1 e.2.2)
        have SE := Lib.hid (fun W => sameEntry_val x.1 x.2.1 x.2.2 y.1 y.2.1 y.2.2 true W (decide_eq_true e))
        have HXY := Lib.hid hxy
        clear e hxy
        go_wp2
        go_region_held3 (fun w' => w'.cell? ⟨g, o + k * 3, none⟩ = some (.int .i64 x.1) ∧ w'.cell? ⟨g, o + k * 3 + 1, none⟩ = some (.int .i64 x.2.1) ∧ w'.cell? ⟨g, o + k * 3 + 2, none⟩ = some (.int .i64 x.2.2) ∧ w'.cell? ⟨g', o' + k * 3, none⟩ = some (.int .i64 y.1) ∧ w'.cell? ⟨g', o' + k * 3 + 1, none⟩ = some (.int .i64 y.2.1) ∧ w'.cell? ⟨g', o' + k * 3 + 2, none⟩ = some (.int .i64 y.2.2)) (first | go_keep | exact ⟨(k6.cell (p := ⟨g, o + k * 3, none⟩) hgw).trans x0, (k6.cell (p := ⟨g, o + k * 3 + 1, none⟩) hgw).trans x1, (k6.cell (p := ⟨g, o + k * 3 + 2, none⟩) hgw).trans x2, (k6.cell (p := ⟨g', o' + k * 3, none⟩) hgw').trans y0, (k6.cell (p := ⟨g', o' + k * 3 + 1, none⟩) hgw').trans y1, (k6.cell (p := ⟨g', o' + k * 3 + 2, none⟩) hgw').trans y2⟩) ((first | (go_at_call 27; (with_reducible refine (SE.out _).mono ?_); rintro e w' ⟨rfl, k6⟩)))
        all_goals
          go_wp2
          go_roundw
          case rel => exact ⟨k + 1, by omega, by go_num, by rw [List.take_add_one, List.take_add_one, HS.out, Hx.out, Hy.out, HXY.out], HB.out.drew.trans (k6.mono HB.out.size)⟩
          case measure => simp [intOf]; omega
      · have SE := Lib.hid (fun W => sameEntry_val x.1 x.2.1 x.2.2 y.1 y.2.1 y.2.2 false W (decide_eq_false e))
        have hd : decide (l = m) = false := decide_eq_false fun h => e (by
          have h1 := Hx.out
          rw [h, Hy.out] at h1
          cases h1
          exact ⟨rfl, rfl, rfl⟩)
        have HD := Lib.hid hd
        clear e hd
        go_wp2
        go_region_held3 (fun w' => w'.cell? ⟨g, o + k * 3, none⟩ = some (.int .i64 x.1) ∧ w'.cell? ⟨g, o + k * 3 + 1, none⟩ = some (.int .i64 x.2.1) ∧ w'.cell? ⟨g, o + k * 3 + 2, none⟩ = some (.int .i64 x.2.2) ∧ w'.cell? ⟨g', o' + k * 3, none⟩ = some (.int .i64 y.1) ∧ w'.cell? ⟨g', o' + k * 3 + 1, none⟩ = some (.int .i64 y.2.1) ∧ w'.cell? ⟨g', o' + k * 3 + 2, none⟩ = some (.int .i64 y.2.2)) (first | go_keep | exact ⟨(k6.cell (p := ⟨g, o + k * 3, none⟩) hgw).trans x0, (k6.cell (p := ⟨g, o + k * 3 + 1, none⟩) hgw).trans x1, (k6.cell (p := ⟨g, o + k * 3 + 2, none⟩) hgw).trans x2, (k6.cell (p := ⟨g', o' + k * 3, none⟩) hgw').trans y0, (k6.cell (p := ⟨g', o' + k * 3 + 1, none⟩) hgw').trans y1, (k6.cell (p := ⟨g', o' + k * 3 + 2, none⟩) hgw').trans y2⟩) ((first | (go_at_call 27; (with_reducible refine (SE.out _).mono ?_); rintro e w' ⟨rfl, k6⟩)))
        all_goals
          go_wp2
          go_ret
          exact ⟨ret_bool HD.out.symm, HB.out.drew.trans (k6.mono HB.out.size)⟩
    · obtain rfl : k = l.length := by omega
      have hd : decide (l = m) = true := decide_eq_true (by have := HS.out; rwa [List.take_length, List.take_of_length_le (by have := Hlen.out; omega)] at this)
      have HD := Lib.hid hd
      clear hd
      go_wp2
      go_ret
      exact ⟨ret_bool HD.out.symm, HB.out⟩
end Go.Proofs.Ytagkhhoimgighaa
