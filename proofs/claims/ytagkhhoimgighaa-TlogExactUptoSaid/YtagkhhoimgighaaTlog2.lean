/- The transfer log: Close and Add, by contract. -/
import Derived.Test.YtagkhhoimgighaaTlog
namespace Go.Proofs.Ytagkhhoimgighaa
open Go.RowKit

section
variable {w w' : World} {G : Nat} {s : LogS} {F F' : Nat → Nat → Prop} {A : Option Addr} {c b n : Nat}
theorem LogIn.row_ne (h : LogIn w G s A c b n) {k i : Nat} (hs : slFp 3 A 0 c k i) : k ≠ G ∧ k < w.heap.size := by
  obtain ⟨o, ho, _⟩ := hs
  rcases h.row with ⟨rfl, _⟩ | ⟨g, o', cs, rfl, _, _, hb, _⟩
  · cases ho
  · cases ho
    refine ⟨?_, Chg.lt hb⟩
    rintro rfl
    have := h.blk
    unfold Blk at this
    rw [hb] at this
    cases this
theorem LogIn.map_ne (h : LogIn w G s A c b n) : b ≠ G := by
  rintro rfl
  obtain ⟨D, ⟨es, clock, h1, _⟩, _⟩ := h.map
  have := h.blk
  unfold Blk at this
  rw [h1] at this
  cases this
theorem LogIn.std_ne (h : LogIn w G s A c b n) {x : Wr} (hx : x ∈ s.ws) : x.at_ ≠ G := (h.std x hx).ne_ h.blk (by decide)
/-- one of the log's own cells is written -/
theorem LogIn.setG (h : LogIn w G s A c b n) (i : Nat) (u : Value) (s' : LogS) (hC : logC s' A c b = (logC s A c b).setIfInBounds i u) (hws : s'.ws = s.ws) (ht : s.turn ≤ s'.turn) : LogIn (w.setCell ⟨G, i, none⟩ u) G s' A c b n := by
  have hc := Chg.setCell (fun k _ => k = G) w (g := G) (i := i) rfl u
  refine ⟨?_, ?_, ?_, ?_, by rw [hws]; exact h.ids, by rw [hws]; exact h.ok, Nat.le_trans h.le ht⟩
  · rw [hC]; exact h.blk.set_ i u
  · rw [hws]
    exact h.row.chg hc encW_len fun g j ⟨o, ho, h1, h2⟩ => (h.row_ne ⟨o, ho, h1, Nat.lt_of_lt_of_le h2 (by have := Nat.mul_le_mul_right 3 h.row.le; omega)⟩).1
  · rw [hws]; exact h.map.chg hc fun _ => h.map_ne
  · rw [hws]; exact fun x hx => hc.blk (h.std x hx) fun _ => h.std_ne hx
def closeS (s : LogS) : LogS := if s.filled = 0 then s else { s with opn := s.opn + 1, filled := 0 }
set_option maxRecDepth 20000 in
set_option maxHeartbeats 1000000 in
theorem close_any (h : LogAt w G s F) (hb : -9223372036854775808 ≤ s.opn ∧ s.opn < 9223372036854775807) :
    Calls Try.prog 15 #[.pointer (some ⟨G, 0, none⟩)] w fun e w' => e = .returned (.tuple #[.int .i64 s.opn, .int .i64 s.filled, .bool (decide (s.filled ≠ 0))]) ∧ LogAt w' G (closeS s) F ∧ Chg F w w' := by
  obtain ⟨A, c, b, n, h, hF⟩ := h
  obtain ⟨c0, c1, c2, c3, c4, c5, c6⟩ := h.cells
  by_cases h0 : s.filled = 0
  · have hS : closeS s = s := by unfold closeS; rw [if_pos h0]
    have HS := Lib.hid hS
    have Hh := Lib.hid h
    rw [h0] at c3
    have H0 := Lib.hid h0
    clear h hS c0 c1 c4 c5 c6 h0
    go_enter Try.func15, Try.ntmps15
    go_wp2
    go_ret3
    exact ⟨by rw [H0.out]; rfl, by rw [HS.out]; exact ⟨A, c, b, n, Hh.out, hF⟩, Chg.refl _ _⟩
  · have hne : (s.filled == 0) = false := by rw [beq_eq_false_iff_ne]; exact h0
    have hwr : IntKind.i64.wrap (s.opn + 1) = s.opn + 1 := i64_in_ _ (by omega)
    have hf2 := h.blk.frozen 2
    have hf3 := h.blk.frozen 3
    have h1 : ∀ m, LogIn ((w.drewN m).setCell ⟨G, 2, none⟩ (.int .i64 (s.opn + 1))) G { s with opn := s.opn + 1 } A c b n := fun m =>
      LogIn.setG (w := w.drewN m) ⟨h.blk, h.row, h.map, h.std, h.ids, h.ok, h.le⟩ 2 _ _ rfl rfl (Nat.le_refl _)
    have h2 : ∀ m, LogIn (((w.drewN m).setCell ⟨G, 2, none⟩ (.int .i64 (s.opn + 1))).setCell ⟨G, 3, none⟩ (.int .i64 0)) G (closeS s) A c b n := fun m =>
      (h1 m).setG 3 _ _ (by unfold closeS; rw [if_neg h0]; rfl) (by unfold closeS; rw [if_neg h0]) (by unfold closeS; rw [if_neg h0]; exact Nat.le_refl _)
    have hd : decide (s.filled ≠ 0) = true := decide_eq_true h0
    have H2 := Lib.hid h2
    have Hd := Lib.hid hd
    have hws : (closeS s).ws = s.ws := by unfold closeS; rw [if_neg h0]
    have Hws := Lib.hid hws
    clear h h1 h2 hd c0 c1 c4 c5 c6 h0 hws
    go_enter Try.func15, Try.ntmps15
    go_wp2
    go_quiet (fail)
    go_wp2
    go_ret3
    refine ⟨by rw [Hd.out]; rfl, ⟨A, c, b, n, H2.out _, fun k i => by rw [Hws.out]; exact hF k i⟩, ?_⟩
    have hG : ∀ i, F G i := fun i => (hF G i).2 (.inl rfl)
    exact (((Chg.refl F w).drewN _).trans (Chg.setCell F _ (hG 2) _) fun _ _ _ h => h).trans (Chg.setCell F _ (hG 3) _) fun _ _ _ h => h

/-- what Add answers -/
def addR (s : LogS) (id blk : Int) : Int := if id < 1 then 1 else if blk < 0 ∨ 4096 ≤ blk then 2 else if (findW s.ws id).isSome then 102 else if s.limit ≤ s.ws.length ∨ s.width ≤ s.filled then 4 else 0
def addS (s : LogS) (id blk : Int) (g : Nat) : LogS := { s with filled := s.filled + 1, turn := s.turn + 1, ws := s.ws ++ [⟨id, blk, s.opn, s.turn + 1, false, g⟩] }
theorem zeroStd (W : World) : (zeroValue 67).run Try.prog W = .ok (.pointer none) W := by kernel_rfl
theorem LogIn.look (h : LogIn w G s A c b n) {id : Int} (hw : (Lit.int .i64 id).wf = true) (W : World) (hW : W.heap = w.heap) : (Instr.lookup 69 (.map (some b)) (.int .i64 id) false).run Try.prog W = .ok (ptrV (findW s.ws id)) W :=
  (h.map.keep (by rw [hW])).look Try.underlying3 Try.underlying69 (zeroStd W) hw
set_option maxRecDepth 20000 in
set_option maxHeartbeats 2000000 in
theorem add_no (id blk : Int) (h : LogAt w G s F) (hw : (Lit.int .i64 id).wf = true) (hno : addR s id blk ≠ 0) :
    Calls Try.prog 12 #[.pointer (some ⟨G, 0, none⟩), .int .i64 id, .int .i64 blk] w fun e w' => e = .returned (.tuple #[.int .i64 0, .bool false, .int .i64 (addR s id blk)]) ∧ ∃ n, w' = w.drewN n := by
  obtain ⟨A, c, b, n, h, hF⟩ := h
  obtain ⟨c0, c1, c2, c3, c4, c5, c6⟩ := h.cells
  have hlook := h.look hw w rfl
  clear h hF
  by_cases h1 : id < 1
  · have hR : addR s id blk = 1 := by unfold addR; rw [if_pos h1]
    rw [hR]
    clear hlook c0 c1 c2 c3 c4 c5 c6 hno hR
    go_enter Try.func12, Try.ntmps12
    go_wp2
    go_ret3
    exact ⟨rfl, 0, rfl⟩
  by_cases h2 : blk < 0 ∨ 4096 ≤ blk
  · have hR : addR s id blk = 2 := by unfold addR; rw [if_neg h1, if_pos h2]
    rw [hR]
    clear hlook c0 c1 c2 c3 c4 c5 c6 hno hR
    have h3 : blk < 0 ∨ (0 ≤ blk ∧ 4096 ≤ blk) := by omega
    clear h2
    rcases h3 with h3 | ⟨h3, h4⟩
    all_goals
      go_enter Try.func12, Try.ntmps12
      go_wp2
      go_ret3
      exact ⟨rfl, 0, rfl⟩
  have h3 : ¬ blk < 0 := by omega
  have h4 : ¬ 4096 ≤ blk := by omega
  cases hf : findW s.ws id with
  | some g =>
    have hR : addR s id blk = 102 := by unfold addR; rw [if_neg h1, if_neg h2, if_pos (by rw [hf]; rfl)]
    rw [hR]
    rw [hf] at hlook
    unfold ptrV at hlook
    clear c0 c1 c2 c3 c4 c5 hno hR hf h2
    go_enter Try.func12, Try.ntmps12
    go_wp2
    go_ret3
    exact ⟨rfl, 0, rfl⟩
  | none =>
    have h5 : s.limit ≤ s.ws.length ∨ s.width ≤ s.filled := by
      unfold addR at hno
      rw [if_neg h1, if_neg h2, hf] at hno
      simp only [Option.isSome_none, Bool.false_eq_true, if_false] at hno
      by_cases h : s.limit ≤ s.ws.length ∨ s.width ≤ s.filled
      · exact h
      · rw [if_neg h] at hno; exact absurd rfl hno
    have hR : addR s id blk = 4 := by unfold addR; rw [if_neg h1, if_neg h2, hf, if_neg (by simp), if_pos h5]
    rw [hR]
    rw [hf] at hlook
    unfold ptrV at hlook
    clear hno hR hf h2
    have h6 : s.limit ≤ (s.ws.length : Int) ∨ (¬ s.limit ≤ (s.ws.length : Int) ∧ s.width ≤ s.filled) := by omega
    clear h5
    rcases h6 with h6 | ⟨h6, h7⟩
    all_goals
      go_enter Try.func12, Try.ntmps12
      go_wp2
      go_quiet (fail)
      go_wp2
      go_ret3
      exact ⟨rfl, _, rfl⟩

theorem findW_snoc {l : List Wr} {x : Wr} (hf : findW l x.id = none) : findW (l ++ [x]) = setP (findW l) x.id (some x.at_) := by
  funext id
  unfold findW setP at *
  rw [List.find?_append]
  by_cases e : id = x.id
  · subst e
    rw [if_pos rfl]
    have : l.find? (fun y => y.id == x.id) = none := by simpa using hf
    rw [this]
    simp
  · rw [if_neg e]
    have : [x].find? (fun y => y.id == id) = none := by
      simp
      exact fun h => e h.symm
    rw [this]
    simp
theorem findW_none {l : List Wr} {id : Int} (hf : findW l id = none) : ∀ y ∈ l, y.id ≠ id := by
  unfold findW at hf
  intro y hy e
  have : l.find? (fun y => y.id == id) = none := by simpa using hf
  have := List.find?_eq_none.1 this y hy
  simp [e] at this
theorem LogIn.row_type (h : LogIn w G s A c b n) {k i t : Nat} {cs : Array Value} (hs : slFp 3 A 0 c k i) (hb : Blk w k t cs) : t = 36 := by
  obtain ⟨o, ho, _⟩ := hs
  rcases h.row with ⟨rfl, _⟩ | ⟨g, o', cs, rfl, _, _, hb', _⟩
  · cases ho
  · cases ho
    unfold Blk at hb
    rw [hb'] at hb
    cases hb
    rfl
theorem LogIn.row_map (h : LogIn w G s A c b n) {k i : Nat} (hs : slFp 3 A 0 c k i) : k ≠ b := by
  obtain ⟨o, ho, _⟩ := hs
  rcases h.row with ⟨rfl, _⟩ | ⟨g, o', cs, rfl, _, _, hb', _⟩
  · cases ho
  · cases ho
    rintro rfl
    obtain ⟨D, ⟨es, clock, h3, _⟩, _⟩ := h.map
    rw [h3] at hb'
    cases hb'
theorem LogIn.map_blk (h : LogIn w G s A c b n) {k t : Nat} {cs : Array Value} (hb : Blk w k t cs) : k ≠ b := by
  rintro rfl
  obtain ⟨D, ⟨es, clock, h3, _⟩, _⟩ := h.map
  unfold Blk at hb
  rw [h3] at hb
  cases hb
/-- a write more, behind the map's and the row's turn -/
theorem LogIn.grow {w3 wR w4 : World} {x : Wr} {A' : Option Addr} {c' : Nat} (HA : LogIn w G s A c b n) (hsx : Blk w x.at_ 73 (stdW x)) (hm3 : PMap Try.prog 3 w3 b (n + 1) (setP (findW s.ws) x.id (some x.at_))) (hg3 : w.grownBy w3 (some b))
    (kR : Chg (fun k _ => w3.heap.size ≤ k) w3 wR) (k4 : Chg (slFp 3 A s.ws.length c) wR w4) (h4 : GSl encW 3 36 w4 A' c' (s.ws ++ [x])) (q4 : (A' = A ∧ c' = c) ∨ ∃ g, A' = some ⟨g, 0, none⟩ ∧ wR.heap.size ≤ g)
    (hf : findW s.ws x.id = none) (hok : x.ok) (hn : n + 1 ≤ s.turn) :
    LogIn (w4.setCell ⟨G, 5, none⟩ (.slice A' (s.ws.length + 1) c')) G { s with ws := s.ws ++ [x] } A' c' b (n + 1) := by
  have hc5 := Chg.setCell (fun k _ => k = G) w4 (g := G) (i := 5) rfl (.slice A' (s.ws.length + 1) c')
  have lift : ∀ {k t : Nat} {cs : Array Value}, Blk w k t cs → t ≠ 36 → Blk w4 k t cs := fun {k t cs} hb ht => by
    have h3 : Blk w3 k t cs := hb.grown hg3 (by intro e; injection e with e; exact HA.map_blk hb e)
    have hR : Blk wR k t cs := kR.blk h3 fun i => Nat.not_le.2 h3.lt
    exact k4.blk hR fun i hs => ht (HA.row_type (slFp_zero hs) hb)
  have hmR := hm3.chg kR fun i => Nat.not_le.2 hm3.lt
  have hm4 := hmR.chg k4 fun i hs => HA.row_map (slFp_zero hs) rfl
  have hGR : G < wR.heap.size := Nat.lt_of_lt_of_le HA.blk.lt (Nat.le_trans hg3.size kR.size)
  refine ⟨?_, ?_, ?_, ?_, ?_, ?_, hn⟩
  · have h5 := (lift HA.blk (by decide)).set_ 5 (.slice A' (s.ws.length + 1) c')
    have e : (logC s A c b).setIfInBounds 5 (.slice A' (s.ws.length + 1) c') = logC { s with ws := s.ws ++ [x] } A' c' b := by simp [logC]
    rwa [e] at h5
  · refine h4.chg hc5 encW_len fun g i hs e => ?_
    obtain ⟨o, ho, h1, h2⟩ := hs
    rcases q4 with ⟨rfl, rfl⟩ | ⟨g', rfl, hg'⟩
    · exact (HA.row_ne ⟨o, ho, h1, Nat.lt_of_lt_of_le h2 (by have := Nat.mul_le_mul_right 3 h4.le; omega)⟩).1 e
    · cases ho
      subst e
      omega
  · rw [show findW (s.ws ++ [x]) = _ from findW_snoc hf]
    exact hm4.chg hc5 fun _ => HA.map_ne
  · intro y hy
    rcases List.mem_append.1 hy with hy | hy
    · exact hc5.blk (lift (HA.std y hy) (by decide)) fun _ => HA.std_ne hy
    · obtain rfl := List.mem_singleton.1 hy
      exact hc5.blk (lift hsx (by decide)) fun _ => hsx.ne_ HA.blk (by decide)
  · refine List.pairwise_append.2 ⟨HA.ids, List.pairwise_singleton _ _, fun y hy z hz => ?_⟩
    obtain rfl := List.mem_singleton.1 hz
    exact findW_none hf y hy
  · intro y hy
    rcases List.mem_append.1 hy with hy | hy
    · exact HA.ok y hy
    · obtain rfl := List.mem_singleton.1 hy
      exact hok
end
end Go.Proofs.Ytagkhhoimgighaa
