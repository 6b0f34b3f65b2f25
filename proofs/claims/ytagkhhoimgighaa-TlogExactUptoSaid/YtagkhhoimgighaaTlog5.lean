/- The transfer log: writes that leave, by contract. -/
import Derived.Test.YtagkhhoimgighaaTlog4
namespace Go.Proofs.Ytagkhhoimgighaa
open Go.RowKit

section
variable {w w' : World} {G : Nat} {s : LogS} {F F' : Nat → Nat → Prop} {A : Option Addr} {c b n : Nat}
set_option maxRecDepth 20000 in
set_option maxHeartbeats 4000000 in
theorem leave_any (N : Nat) (h : LogIn w G s A c b n) (hN : N ≤ s.ws.length) (hc : c ≤ 9223372036854775807) : Calls Try.prog 32 #[.pointer (some ⟨G, 0, none⟩), .int .i64 N] w fun e w' =>
    e = .returned (.slice A N N) ∧ LogIn w' G { s with ws := s.ws.drop N } (if c = N then A else A.map (·.add (N * 3))) (c - N) b n ∧ Chg (fun k _ => k = G ∨ k = b) w w' := by
  obtain ⟨c0, c1, c2, c3, c4, c5, c6⟩ := h.cells
  have hf5 := h.blk.frozen 5
  have hle := h.row.le
  have Hh := Lib.hid h
  have g1 : (0 : Int) ≤ N := by omega
  have g2 : (N : Int) ≤ s.ws.length := by omega
  have g3 : (N : Int) ≤ c := by omega
  have g4 : (s.ws.length : Int) ≤ c := by omega
  clear h c0 c1 c2 c3 c4
  go_enter Try.func32, Try.ntmps32
  obtain ⟨A1, hA1⟩ : ∃ A1 : Option Addr, A1 = if c = N then A else A.map (·.add (N * 3)) := ⟨_, rfl⟩
  obtain ⟨c1, hc1⟩ : ∃ c1, c1 = c - N := ⟨_, rfl⟩
  obtain ⟨w1, hw1⟩ : ∃ W, W = w.setCell ⟨G, 5, none⟩ (.slice A1 (s.ws.length - N) c1) := ⟨_, rfl⟩
  have K1 : Chg (fun k _ => k = G) w w1 := by rw [hw1]; exact Chg.setCell (fun k _ => k = G) w rfl _
  have B1 : Blk w1 G 71 (logC { s with ws := s.ws.drop N } A1 c1 b) := by
    have h5 := Hh.out.blk.set_ 5 (.slice A1 (s.ws.length - N) c1)
    rw [← hw1] at h5
    have e : (logC s A c b).setIfInBounds 5 (.slice A1 (s.ws.length - N) c1) = logC { s with ws := s.ws.drop N } A1 c1 b := by simp [logC]
    rwa [e] at h5
  have R1 : GSl encW 3 36 w1 A c s.ws := Hh.out.row.chg K1 encW_len fun g j ⟨o, ho, h1, h2⟩ => (Hh.out.row_ne ⟨o, ho, h1, Nat.lt_of_lt_of_le h2 (by have := Nat.mul_le_mul_right 3 hle; omega)⟩).1
  have M1 : PMap Try.prog 3 w1 b n (findW s.ws) := Hh.out.map.chg K1 fun _ => Hh.out.map_ne
  rw [← hA1, ← hc1]
  have HA1 := Lib.hid hA1
  have Hc1 := Lib.hid hc1
  have Hw1 := Lib.hid hw1
  clear hA1 hc1 hw1
  go_wp2
  all_goals
    first
      | (rename_i e; rw [show Value.slice A (s.ws.length - N) 0 = Value.slice A1 (s.ws.length - N) c1 from by rw [HA1.out, Hc1.out, if_pos (by omega)]; congr 1; omega, ← Hw1.out])
      | (rename_i e; rw [show Value.slice (Option.map (fun x => x.add (N * 3)) A) (s.ws.length - N) (c - N) = Value.slice A1 (s.ws.length - N) c1 from by rw [HA1.out, Hc1.out, if_neg (by omega)], ← Hw1.out])
  all_goals
    go_loopw [26] (fun ct wr => ∃ k : Nat, k ≤ N ∧ ct = .int .i64 k ∧ Chg (fun k _ => k = b ∨ w1.heap.size ≤ k) w1 wr ∧ PMap Try.prog 3 wr b n (struck s.ws k)) (fun ct _ => N - (intOf ct).toNat)
    case atStart => exact ⟨0, by omega, rfl, Chg.refl _ _, by rw [struck_zero]; exact M1⟩
    case round =>
      obtain ⟨k, hk, rfl, hch, hm⟩ := hrel
      have Rr : GSl encW 3 36 wr A c s.ws := R1.chg hch encW_len fun g j ⟨o, ho, h1, h2⟩ e => by
        have hs : slFp 3 A 0 c g j := ⟨o, ho, h1, Nat.lt_of_lt_of_le h2 (by have := Nat.mul_le_mul_right 3 hle; omega)⟩
        rcases e with e | e
        · exact Hh.out.row_map hs e
        · have := (Hh.out.row_ne hs).2
          have := K1.size
          omega
      have Br : Blk wr G 71 (logC { s with ws := s.ws.drop N } A1 c1 b) := hch.blk B1 fun _ e => by
        rcases e with e | e
        · exact Hh.out.map_ne e.symm
        · have := B1.lt; omega
      by_cases hlt : k < N
      · obtain ⟨x, hx⟩ : ∃ x, s.ws[k]? = some x := ⟨_, List.getElem?_eq_getElem (by omega)⟩
        obtain ⟨g, o, hA, hg, hcl⟩ := Rr.cell hx
        have x0 : wr.cell? ⟨g, o + k * 3, none⟩ = some (.int .i64 x.id) := (hcl 0 _ rfl).1
        have x1 : wr.cell? ⟨g, o + k * 3 + 1, none⟩ = some (.int .i64 x.blk) := (hcl 1 _ rfl).1
        have x2 : wr.cell? ⟨g, o + k * 3 + 2, none⟩ = some (.int .i64 x.ep) := (hcl 2 _ rfl).1
        have hok := Hh.out.ok x (List.mem_of_getElem? hx)
        have he : Blk (wr.alloc (.cells #[.int .i64 0, .int .i64 0, .int .i64 0] 36)) wr.heap.size 36 #[.int .i64 0, .int .i64 0, .int .i64 0] := Blk.new wr _ _
        have hGr := Br.lt
        have Hx := Lib.hid hx
        have HA := Lib.hid hA
        clear hx hcl
        rw [hA]
        clear hA
        go_wp2_with (first
          | ((with_reducible refine wpList_store_blk rfl 36 (.tmp 7) (.tmp 29) rfl wr.heap.size 36 #[.int .i64 0, .int .i64 0, .int .i64 0] #[.int .i64 x.id, .int .i64 x.blk, .int .i64 x.ep] ?hb rfl rfl (entSz _ _ _) (size3 _ _ _ _ _ _) (one3 rfl rfl rfl) ?_); (case hb => exact he); intro w2 hb2 hg2 hs2; have q6 := ((Br.alloc _).grown hg2 (by intro e; injection e with e; omega)).cell 6; have q0 := hb2.cell 0; simp only [logC] at q6 q0))
        have kw2 : Chg (fun k _ => k = b ∨ w1.heap.size ≤ k) w1 w2 := (hch.trans (Chg.alloc (fun k _ => k = b ∨ w1.heap.size ≤ k) wr _) fun _ _ _ h => h).trans (Chg.of_row (F := fun k _ => wr.heap.size ≤ k) hg2 he hb2 rfl fun _ => Nat.le_refl _) fun k i hk h => by have := hch.size; omega
        have hm2 : PMap Try.prog 3 w2 b n (struck s.ws k) := (hm.chg (Chg.alloc (fun _ _ => False) wr _) fun _ h => h).chg (Chg.of_row (F := fun k _ => wr.heap.size ≤ k) hg2 he hb2 rfl fun _ => Nat.le_refl _) fun _ h => by have := hm.lt; omega
        go_still_tail 6, (by kernel_rfl)
        refine wpList_delP rfl (.tmp 33) (.tmp 35) rfl Try.underlying3 Try.underlying69 rfl (by exact hm2) x.id rfl hok ?_
        intro w3 hm3 hg3
        go_wp2
        go_roundw
        case rel => exact ⟨k + 1, by omega, by go_num, kw2.drew.trans (Chg.of_map (F := fun k _ => k = b) (by exact hm2) hg3 rfl) fun _ _ _ h => .inl h, by rw [← struck_succ Hx.out]; exact hm3⟩
        case measure => simp [intOf]; omega
      · obtain rfl : k = N := by omega
        have hfin : LogIn wr G { s with ws := s.ws.drop k } A1 c1 b n := by
          refine ⟨Br, ?_, by rw [← struck_all Hh.out.ids]; exact hm, fun x hx => ?_, Hh.out.ids.sublist (List.drop_sublist _ _), fun x hx => Hh.out.ok x (List.mem_of_mem_drop hx), Hh.out.le⟩
          · rw [HA1.out, Hc1.out]; exact Rr.drop k hN
          · have hx' := List.mem_of_mem_drop hx
            have hb := K1.blk (Hh.out.std x hx') fun _ => Hh.out.std_ne hx'
            exact hch.blk hb fun _ e => by
              rcases e with e | e
              · exact Hh.out.map_blk (Hh.out.std x hx') e
              · have := hb.lt; omega
        have kfin : Chg (fun k _ => k = G ∨ k = b) w wr := (K1.mono fun _ _ _ h => .inl h).trans hch fun j i hj h => by
          rcases h with h | h
          · exact .inr h
          · have := K1.size; omega
        have Hfin := Lib.hid hfin
        clear hfin
        go_wp2
        go_ret
        exact ⟨rfl, Hfin.out, kfin⟩
end
end Go.Proofs.Ytagkhhoimgighaa
