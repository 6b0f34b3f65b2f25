/- The transfer log: Ack, by contract. -/
import Derived.Test.YtagkhhoimgighaaMade
namespace Go.Proofs.Ytagkhhoimgighaa
open Go.RowKit

def ackW (id : Int) (x : Wr) : Wr := if x.id = id then { x with acked := true } else x
theorem ackW_id (id : Int) (x : Wr) : (ackW id x).id = x.id := by unfold ackW; split <;> rfl
theorem ackW_at (id : Int) (x : Wr) : (ackW id x).at_ = x.at_ := by unfold ackW; split <;> rfl
theorem ackW_ep (id : Int) (x : Wr) : (ackW id x).ep = x.ep := by unfold ackW; split <;> rfl
theorem ackW_blk (id : Int) (x : Wr) : (ackW id x).blk = x.blk := by unfold ackW; split <;> rfl
theorem ackW_enc (id : Int) (x : Wr) : encW (ackW id x) = encW x := by unfold ackW; split <;> rfl
def ackS (s : LogS) (id : Int) : LogS := { s with ws := s.ws.map (ackW id) }
theorem findW_ack (l : List Wr) (id : Int) : findW (l.map (ackW id)) = findW l := by
  funext j
  unfold findW
  induction l with
  | nil => rfl
  | cons x l ih =>
    rw [List.map_cons, List.find?_cons, List.find?_cons, ackW_id]
    split
    · simp [ackW_at]
    · exact ih
theorem GSl.map_enc {e : TypeId} {w : World} {A : Option Addr} {c : Nat} {l : List Wr} {f : Wr → Wr} (hf : ∀ x, encW (f x) = encW x) (h : GSl encW 3 e w A c l) : GSl encW 3 e w A c (l.map f) := by
  rcases h with ⟨h1, rfl, h2⟩ | ⟨g, o, cs, h1, h2, h3, h4, h5, h6⟩
  · exact .inl ⟨h1, rfl, h2⟩
  · refine .inr ⟨g, o, cs, h1, by simpa using h2, h3, h4, h5, fun i x hx j v hv => ?_⟩
    rw [List.getElem?_map] at hx
    obtain ⟨y, hy, rfl⟩ := Option.map_eq_some_iff.1 hx
    rw [hf] at hv
    exact h6 i y hy j v hv
theorem pair_eq {l : List Wr} (hd : l.Pairwise fun x y => x.id ≠ y.id) {x y : Wr} (hx : x ∈ l) (hy : y ∈ l) (e : x.id = y.id) : x = y := by
  induction l with
  | nil => cases hx
  | cons z l ih =>
    rw [List.pairwise_cons] at hd
    rcases List.mem_cons.1 hx with h1 | h1
    · rcases List.mem_cons.1 hy with h2 | h2
      · rw [h1, h2]
      · rw [h1] at e; exact absurd e (hd.1 y h2)
    · rcases List.mem_cons.1 hy with h2 | h2
      · rw [h2] at e; exact absurd e.symm (hd.1 x h1)
      · exact ih hd.2 h1 h2
section
variable {w w' : World} {G : Nat} {s : LogS} {F F' : Nat → Nat → Prop} {A : Option Addr} {c b n : Nat}
theorem LogIn.acked (h : LogIn w G s A c b n) {x : Wr} (hx : x ∈ s.ws) : LogIn (w.setCell ⟨x.at_, 4, none⟩ (.bool true)) G (ackS s x.id) A c b n := by
  have hc := Chg.setCell (fun k _ => k = x.at_) w (g := x.at_) (i := 4) rfl (.bool true)
  have hb := h.std x hx
  refine ⟨?_, ?_, ?_, ?_, ?_, ?_, h.le⟩
  · have : logC (ackS s x.id) A c b = logC s A c b := by simp [logC, ackS]
    rw [this]
    exact hc.blk h.blk fun _ e => h.std_ne hx e.symm
  · refine (h.row.chg hc encW_len fun g j ⟨o, ho, h1, h2⟩ e => ?_).map_enc (ackW_enc x.id)
    have hs : slFp 3 A 0 c g j := ⟨o, ho, h1, Nat.lt_of_lt_of_le h2 (by have := Nat.mul_le_mul_right 3 h.row.le; omega)⟩
    subst e
    exact absurd (h.row_type hs hb) (by decide)
  · rw [show findW (ackS s x.id).ws = findW s.ws from findW_ack _ _]
    exact h.map.chg hc fun _ e => h.map_blk hb e.symm
  · intro y hy
    obtain ⟨z, hz, rfl⟩ := List.mem_map.1 hy
    rw [ackW_at]
    by_cases e : z.id = x.id
    · obtain rfl := pair_eq h.ids hz hx e
      have : stdW (ackW z.id z) = (stdW z).setIfInBounds 4 (.bool true) := by unfold ackW; rw [if_pos rfl]; rfl
      rw [this]
      exact hb.set_ 4 _
    · have : ackW x.id z = z := by unfold ackW; rw [if_neg e]
      rw [this]
      refine hc.blk (h.std z hz) fun _ e2 => ?_
      have hz' := h.std z hz
      rw [e2] at hz'
      unfold Blk at hz' hb
      rw [hb] at hz'
      injection hz' with hz'
      injection hz' with hz'
      have := congrArg (fun a : Array Value => a[0]?) hz'
      simp [stdW] at this
      exact e this.symm
  · show (s.ws.map (ackW x.id)).Pairwise _
    rw [List.pairwise_map]
    refine h.ids.imp fun {a b} hab => ?_
    rw [ackW_id, ackW_id]
    exact hab
  · intro y hy
    obtain ⟨z, hz, rfl⟩ := List.mem_map.1 hy
    unfold Wr.ok
    rw [ackW_id]
    exact h.ok z hz
theorem logFp_ack {id : Int} {k i : Nat} {ws : List Wr} : logFp G A c b (ws.map (ackW id)) k i ↔ logFp G A c b ws k i := by
  unfold logFp
  refine or_congr Iff.rfl (or_congr Iff.rfl (or_congr Iff.rfl ⟨?_, ?_⟩))
  · rintro ⟨y, hy, e⟩
    obtain ⟨z, hz, rfl⟩ := List.mem_map.1 hy
    exact ⟨z, hz, by rw [e, ackW_at]⟩
  · rintro ⟨y, hy, e⟩
    exact ⟨ackW id y, List.mem_map_of_mem hy, by rw [e, ackW_at]⟩
def findO (l : List Wr) (id : Int) : Option Wr := l.find? fun x => x.id == id
theorem findO_W (l : List Wr) (id : Int) : findW l id = (findO l id).map (·.at_) := rfl
theorem findO_some {l : List Wr} {id : Int} {x : Wr} (h : findO l id = some x) : x ∈ l ∧ x.id = id := ⟨List.mem_of_find?_eq_some h, by simpa using List.find?_some h⟩
/-- what Ack answers -/
def ackR (s : LogS) (id : Int) : Int := match findO s.ws id with | none => 103 | some x => if x.acked then 102 else 0
def ackE (s : LogS) (id : Int) : Int × Int × Int := match findO s.ws id with | none => (0, 0, 0) | some x => if x.acked then (0, 0, 0) else (x.id, x.blk, x.ep)
def ackT (s : LogS) (id : Int) : LogS := if ackR s id = 0 then ackS s id else s
set_option maxRecDepth 20000 in
set_option maxHeartbeats 2000000 in
theorem ack_any (id : Int) (h : LogAt w G s F) (hw : (Lit.int .i64 id).wf = true) :
    Calls Try.prog 23 #[.pointer (some ⟨G, 0, none⟩), .int .i64 id] w fun e w' => e = .returned (.tuple #[entV (ackE s id).1 (ackE s id).2.1 (ackE s id).2.2, .int .i64 (ackR s id)]) ∧ LogAt w' G (ackT s id) F ∧ Chg F w w' := by
  obtain ⟨A, c, b, n, h, hF⟩ := h
  obtain ⟨c0, c1, c2, c3, c4, c5, c6⟩ := h.cells
  have kA := Chg.alloc (fun k _ => w.heap.size ≤ k) w (.cells #[.int .i64 0, .int .i64 0, .int .i64 0] 36)
  have hA : LogIn (w.alloc (.cells #[.int .i64 0, .int .i64 0, .int .i64 0] 36)) G s A c b n := h.chg kA fun k i hk hle => absurd (h.fp_lt hk) (Nat.not_lt.2 hle)
  have hlook := hA.look hw _ rfl
  have he : Blk (w.alloc (.cells #[.int .i64 0, .int .i64 0, .int .i64 0] 36)) w.heap.size 36 #[.int .i64 0, .int .i64 0, .int .i64 0] := Blk.new w _ _
  have a6 := hA.cells.2.2.2.2.2.2
  rw [findO_W] at hlook
  have HA := Lib.hid hA
  have HF := Lib.hid hF
  have HK := Lib.hid kA
  have Hh := Lib.hid h
  clear h c0 c1 c2 c3 c4 c5 c6 hF hA kA
  cases hf : findO s.ws id with
  | none =>
    have hR : ackR s id = 103 := by unfold ackR; rw [hf]
    have hE : ackE s id = (0, 0, 0) := by unfold ackE; rw [hf]
    have hT : ackT s id = s := by unfold ackT; rw [hR]; rfl
    rw [hR, hE, hT]
    rw [hf] at hlook
    simp only [Option.map_none, ptrV] at hlook
    clear hR hE hT hf
    go_enter Try.func23, Try.ntmps23
    go_wp2_with (first | ((with_reducible refine wpList_store_blk rfl 36 (.tmp 4) (.tmp 15) rfl w.heap.size 36 #[.int .i64 0, .int .i64 0, .int .i64 0] #[.int .i64 0, .int .i64 0, .int .i64 0] ?hb rfl rfl (entSz _ _ _) (size3 _ _ _ _ _ _) (one3 rfl rfl rfl) ?_); (case hb => exact he); intro w2 hb2 hg2 hs2))
    refine bodyPost_cell_tmp (u := 5) (p := 4) rfl w.heap.size 36 _ (0, 0) _ rfl hb2 Try.underlying36 rfl (entSz _ _ _) rfl ⟨rfl, ?_, ?_⟩
    · exact ⟨A, c, b, n, HA.out.chg (Chg.of_row (F := fun k _ => w.heap.size ≤ k) hg2 he hb2 rfl fun _ => Nat.le_refl _) fun k i hk hle => by have := Hh.out.fp_lt hk; omega, HF.out⟩
    · exact (HK.out.mono fun k i hk hle => by omega).trans (Chg.of_row (F := fun k _ => w.heap.size ≤ k) hg2 he hb2 rfl fun _ => Nat.le_refl _) fun k i hk hle => by omega
  | some x =>
    obtain ⟨hx, hid⟩ := findO_some hf
    have hb := HA.out.std x hx
    have x4 := hb.cell 4
    rw [hf] at hlook
    simp only [Option.map_some, ptrV] at hlook
    by_cases ha : x.acked = true
    · have hR : ackR s id = 102 := by unfold ackR; rw [hf]; simp [ha]
      have hE : ackE s id = (0, 0, 0) := by unfold ackE; rw [hf]; simp [ha]
      have hT : ackT s id = s := by unfold ackT; rw [hR]; rfl
      rw [hR, hE, hT]
      simp only [stdW, ha] at x4
      clear hR hE hT hf hb ha hid
      go_enter Try.func23, Try.ntmps23
      go_wp2_with (first | ((with_reducible refine wpList_store_blk rfl 36 (.tmp 4) (.tmp 20) rfl w.heap.size 36 #[.int .i64 0, .int .i64 0, .int .i64 0] #[.int .i64 0, .int .i64 0, .int .i64 0] ?hb rfl rfl (entSz _ _ _) (size3 _ _ _ _ _ _) (one3 rfl rfl rfl) ?_); (case hb => exact he); intro w2 hb2 hg2 hs2))
      refine bodyPost_cell_tmp (u := 5) (p := 4) rfl w.heap.size 36 _ (0, 0) _ rfl hb2 Try.underlying36 rfl (entSz _ _ _) rfl ⟨rfl, ?_, ?_⟩
      · exact ⟨A, c, b, n, HA.out.chg (Chg.of_row (F := fun k _ => w.heap.size ≤ k) hg2 he hb2 rfl fun _ => Nat.le_refl _) fun k i hk hle => by have := Hh.out.fp_lt hk; omega, HF.out⟩
      · exact (HK.out.mono fun k i hk hle => by omega).trans (Chg.of_row (F := fun k _ => w.heap.size ≤ k) hg2 he hb2 rfl fun _ => Nat.le_refl _) fun k i hk hle => by omega
    · have hR : ackR s id = 0 := by unfold ackR; rw [hf]; simp [ha]
      have hE : ackE s id = (x.id, x.blk, x.ep) := by unfold ackE; rw [hf]; simp [ha]
      have hT : ackT s id = ackS s x.id := by unfold ackT; rw [hR, hid]; rfl
      rw [hR, hE, hT]
      have ha' : x.acked = false := by simpa using ha
      have y4 := hb.frozen 4
      have hneq : x.at_ ≠ w.heap.size := by have := Hh.out.std x hx; exact Nat.ne_of_lt this.lt
      have x0 := hb.cell 0
      have x1 := hb.cell 1
      have x2 := hb.cell 2
      have he1 := he.far (p := ⟨x.at_, 4, none⟩) (fun e => hneq e.symm) (.bool true)
      have HA1 := Lib.hid (HA.out.acked hx)
      have KA1 := Lib.hid (Chg.setCell (fun k _ => k = x.at_) (w.alloc (.cells #[.int .i64 0, .int .i64 0, .int .i64 0] 36)) (g := x.at_) (i := 4) rfl (.bool true))
      have Hx := Lib.hid hx
      simp only [stdW, ha'] at x4 x0 x1 x2
      clear hR hE hT hf hb ha ha' hid hx
      go_enter Try.func23, Try.ntmps23
      go_wp2_with (first | ((with_reducible refine wpList_store_blk rfl 36 (.tmp 4) (.tmp 27) rfl w.heap.size 36 #[.int .i64 0, .int .i64 0, .int .i64 0] #[.int .i64 x.id, .int .i64 x.blk, .int .i64 x.ep] ?hb rfl rfl (entSz _ _ _) (size3 _ _ _ _ _ _) (one3 rfl rfl rfl) ?_); (case hb => exact he1); intro w2 hb2 hg2 hs2))
      have kF : Chg F w w2 := ((HK.out.mono fun k i hk hle => by omega).trans KA1.out fun k i hk e => by subst e; exact (HF.out _ _).2 (.inr (.inr (.inr ⟨x, Hx.out, rfl⟩)))).trans (Chg.of_row (F := fun k _ => w.heap.size ≤ k) hg2 he1 hb2 rfl fun _ => Nat.le_refl _) fun k i hk hle => by omega
      refine bodyPost_cell_tmp (u := 5) (p := 4) rfl w.heap.size 36 _ (0, 0) _ rfl hb2 Try.underlying36 rfl (entSz _ _ _) rfl ⟨rfl, ?_, kF⟩
      refine ⟨A, c, b, n, HA1.out.chg (Chg.of_row (F := fun k _ => w.heap.size ≤ k) hg2 he1 hb2 rfl fun _ => Nat.le_refl _) fun k i hk hle => ?_, fun k i => ?_⟩
      · rw [show logFp G A c b (ackS s x.id).ws k i ↔ logFp G A c b s.ws k i from logFp_ack] at hk
        have := Hh.out.fp_lt hk
        omega
      · rw [HF.out]
        exact logFp_ack.symm
end
end Go.Proofs.Ytagkhhoimgighaa
