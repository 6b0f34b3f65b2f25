/- The Lru of package actlog, keys texts: Get, by contract. -/
import Derived.Test.YtiidheknlacioaaLruOS
import Derived.Lib.SliceRun
namespace Go.Proofs.Ytiidheknlacioaa.KS
open Go.RowKit Go.Shelf Go.Lib Go.Sort
set_option linter.unusedVariables false
set_option linter.unusedSimpArgs false
shelf_lay_g SlLaysH.n10 Slgf 10 at Try 57 as Try.dlfS
abbrev encI (n : Nat) : Value := .int .i64 (n : Int)
theorem gives_at (i x B : Nat) (W : World) (hc : W.cell? ⟨B, 0, none⟩ = some (.int .i64 (i : Int))) :
    FnGives Try.prog 103 #[.pointer (some ⟨B, 0, none⟩)] #[encI x] (.bool (decide (x = i))) W := by
  show Calls Try.prog 103 #[.int .i64 (x : Int), .pointer (some ⟨B, 0, none⟩)] W _
  have hd : decide (x = i) = ((x : Int) == (i : Int)) := by
    by_cases e : x = i
    · subst e; simp
    · have : ((x : Int) == (i : Int)) = false := by rw [beq_eq_false_iff_ne]; omega
      rw [this]; simp [e]
  rw [hd]
  go_enter Try.func103, Try.ntmps103
  go_wp2
  go_ret
  exact ⟨rfl, 0, rfl⟩
/-- the idle ones without one of them -/
theorem del_any (i B g o c : Nat) (l : List Nat) (w : World) (h : GSl encN 1 3 w (some ⟨g, o, none⟩) c l) (hB : B < w.heap.size) (hne : B ≠ g) (hcell : w.cell? ⟨B, 0, none⟩ = some (.int .i64 (i : Int))) (h0 : 0 < l.length) :
    Calls Try.prog 57 #[.slice (some ⟨g, o, none⟩) l.length c, .func (.func 103) #[] #[.pointer (some ⟨B, 0, none⟩)]] w fun e w' =>
      e = .returned (.slice (some ⟨g, o, none⟩) (l.filter fun x => !decide (x = i)).length c) ∧ GSl encN 1 3 w' (some ⟨g, o, none⟩) c (l.filter fun x => !decide (x = i)) ∧ Chg (slFp 1 (some ⟨g, o, none⟩) 0 c) w w' := by
  have eg : ∀ args w, (callFunc 103 args).run Try.prog w = .ok (.enter 103 args) w := enters_of Try.func103 (by kernel_rfl) rfl
  have hc1 : l.length ≤ c ∧ c ≤ maxLen := by
    rcases h with ⟨h, _⟩ | ⟨_, _, _, _, h1, h2, _⟩
    · cases h
    · exact ⟨h1, h2⟩
  have hH : Holds encI w g o l.toArray := fun j hj => by
    have hj' : j < l.length := by simpa using hj
    obtain ⟨g', o', e, _, hc⟩ := h.cell (k := j) (x := l[j]) (List.getElem?_eq_getElem hj')
    cases e
    have := hc 0 _ rfl
    rw [Nat.mul_one, Nat.add_zero] at this
    rw [getElem!_pos l.toArray j hj]
    exact this
  have hcon := AnyE.slices_DeleteFunc Try.dlfS encI (fun _ => rfl) (fun x => decide (x = i)) 103 #[.pointer (some ⟨B, 0, none⟩)] eg 0 Try.zeroValue3 g o c l.toArray w
    (fun W x hb => gives_at i x B W ((hb.cell (p := ⟨B, 0, none⟩) hB).trans hcell))
    (fun n os dk x _ => gives_at i x B _ (by
      unfold sortWorld
      rw [cell?_grow _ _ _ (by show B < (putRow _ _ _ _ _).heap.size; rw [size_putRow]; exact hB), cell?_putRow_other _ _ g o _ _ (Or.inl hne)]
      exact hcell)) hH (by have := hc1.2; unfold maxLen at this; simp; omega) (by simpa using hc1.1)
  change Calls Try.prog 57 _ _ _ at hcon
  simp only [List.size_toArray] at hcon
  refine hcon.mono ?_
  rintro e w' ⟨rfl, q, rfl⟩
  have hfl : (l.filter fun x => !decide (x = i)).length ≤ l.length := List.length_filter_le _ _
  obtain ⟨r1, r2⟩ := GSl.putRow_ h (l' := l.filter fun x => !decide (x = i)) (X := ((l.filter fun x => !decide (x = i)) ++ List.replicate (l.length - (l.filter fun x => !decide (x = i)).length) 0).toArray) (q := q) (by simp; omega) (fun j x hj => by
    have hlt := (List.getElem?_eq_some_iff.1 hj).1
    rw [List.getElem?_toArray, List.getElem?_append_left hlt]; exact hj) hfl h0
  exact ⟨rfl, r1, r2⟩
/-- what Get answers -/
def getV (s : LruS) (key : Int) : Value := match getO s key with
  | .hit i => .tuple #[.int .i64 (i : Int), .bool false, kZV, .bool false, .int .i64 0]
  | .fresh i => .tuple #[.int .i64 (i : Int), .bool true, kZV, .bool false, .int .i64 0]
  | .evict i old => .tuple #[.int .i64 (i : Int), .bool true, kV old, .bool true, .int .i64 0]
  | .starved => .tuple #[.int .i64 0, .bool false, kZV, .bool false, .int .i64 41]
def GetP (w : World) (G N : Nat) (s : LruS) (F : Nat → Nat → Prop) (key : Int) (e : Ending) (w' : World) : Prop :=
  e = .returned (getV s key) ∧ ∃ F', LruAt w' G (N + 1) (getT s key) F' ∧ Chg F w w' ∧ ∀ k i, F' k i → F k i ∨ w.heap.size ≤ k
section
variable {w w' : World} {G N gp b n ci : Nat} {s : LruS} {F F' : Nat → Nat → Prop} {Ai : Option Addr}
theorem box_world (w : World) (v : Value) (t : TypeId) : ∃ W, (w.alloc (.cells #[.int .i64 0] t)).setCell ⟨w.heap.size, 0, none⟩ v = W ∧ Below w.heap.size w W ∧ W.heap.size = w.heap.size + 1 ∧ W.cell? ⟨w.heap.size, 0, none⟩ = some v :=
  ⟨_, rfl, ((Below.refl _ w).alloc (Nat.le_refl _) _).setCell (p := ⟨w.heap.size, 0, none⟩) (Nat.le_refl _) _, by simp [World.setCell], by rw [((Blk.new w t #[.int .i64 0]).set_ 0 v).cell]; rfl⟩
set_option maxRecDepth 20000 in
set_option maxHeartbeats 4000000 in
theorem get_hit (key : Int) (h : LruIn w G s gp b n Ai ci) (hk : kOk key) (hn : n ≤ N) (hF : ∀ k i, F k i ↔ lruFp G gp b Ai ci k i) {at_ : Nat} (hs : slotS s key = some at_) (hr : (plcAt s at_).2 < 9223372036854775807) :
    Calls Try.prog 61 #[.pointer (some ⟨G, 0, none⟩), kV key] w (GetP w G N s F key) := by
  have hlook := h.look hk
  rw [hs] at hlook
  simp only [Option.getD_some, Option.isSome_some] at hlook
  obtain ⟨c0, c1, c2⟩ := h.cells
  obtain ⟨hp, hlt, _⟩ := slotS_some hs
  have hO : getO s key = .hit at_ := by unfold getO; rw [hs]
  have hV : getV s key = .tuple #[.int .i64 (at_ : Int), .bool false, kZV, .bool false, .int .i64 0] := by unfold getV; rw [hO]
  have hT : getT s key = hitT s key at_ := by unfold getT; rw [hO]
  obtain ⟨w1, hw1, B1, S1, K1⟩ := box_world w (.int .i64 (at_ : Int)) 3
  have k1 : Chg (fun k _ => w.heap.size ≤ k) w w1 := Chg.of_below _ B1
  have R1 := h.raw.high (Nat.le_refl _) k1
  obtain ⟨d0, d1, d2⟩ := R1.cells
  have hr0 := h.ok.refs _ _ _ hp
  have e1 := (R1.plc hp 1 _ rfl).1
  have z1 := (R1.plc hp 1 _ rfl).2
  have hwr : IntKind.i64.wrap ((plcAt s at_).2 + 1) = (plcAt s at_).2 + 1 := i64_in_ _ ⟨by omega, by omega⟩
  have hlt' : (at_ : Int) < (s.ps.length : Int) := by omega
  have hGb := h.blk.lt
  obtain ⟨csp, hgpb⟩ := h.rowB
  have hgpl := hgpb.lt
  have hok' := h.ok.hit hs
  have hoks' : ∀ (i : Nat) (k r : Int), (hitT s key at_).ps[i]? = some (some (k, r)) → kOk k := oks_set h.oks hk
  have hlen' : 1 ≤ (hitT s key at_).ps.length ∧ (hitT s key at_).ps.length ≤ 16 := by have : (hitT s key at_).ps.length = s.ps.length := List.length_set; rw [this]; exact h.len
  have hsl : slotS s = slotS (hitT s key at_) := slotS_same h.ok hok' hp rfl
  by_cases h0 : (plcAt s at_).2 = 0
  · -- it was idle
    have hm : at_ ∈ s.idle := (h.ok.idle at_).2 ⟨key, by rw [hp, h0]⟩
    have hpos : 0 < s.idle.length := List.length_pos_of_mem hm
    obtain ⟨g, o, hA⟩ : ∃ g o, Ai = some ⟨g, o, none⟩ := by
      rcases h.idl with ⟨_, e, _⟩ | ⟨g, o, _, e, _⟩
      · rw [e] at hpos; cases hpos
      · exact ⟨g, o, e⟩
    subst hA
    have hgl : g < w.heap.size := by
      rcases h.idl with ⟨e, _⟩ | ⟨g', o', _, e, _, _, hb, _⟩
      · cases e
      · cases e; exact Chg.lt hb
    have D1 := Lib.hid (fun q => del_any at_ w.heap.size g o ci s.idle (w1.drewN q) (by exact R1.idl) (by show w.heap.size < w1.heap.size; omega) (by omega) K1 hpos)
    have hidle : (hitT s key at_).idle = s.idle.filter fun x => !decide (x = at_) := by show (if _ then _ else _) = _; rw [if_pos h0]
    have hps : (hitT s key at_).ps = s.ps.set at_ (some (key, 1)) := by show s.ps.set at_ _ = _; rw [h0]; rfl
    rw [h0] at e1 hwr
    have HH := Lib.hid h
    have HR := Lib.hid R1
    have HK := Lib.hid k1
    have HP := Lib.hid hp
    have HT := Lib.hid hT
    have HV := Lib.hid hV
    clear h R1 k1 hp hV hT hO hs B1 hr hr0
    go_enter Try.func61, Try.ntmps61
    go_upto_region 3 with fail
    clear hw1
    go_quiet (fail)
    go_wp2_with fail
    refine (D1.out _).mono ?_
    rintro e w2 ⟨rfl, g2, k2⟩
    have R1q := HR.out.high (m := w1.heap.size) (Nat.le_refl _) ((Chg.refl (fun k _ => w1.heap.size ≤ k) w1).drewN nq)
    have k2' : Chg (fun k i => slFp 1 (some ⟨g, o, none⟩) 0 ci k i ∨ (w1.drewN nq).heap.size ≤ k) (w1.drewN nq) w2 := k2.mono fun _ _ _ h => .inl h
    have R3 := R1q.idleT k2' g2 fun _ _ h => .inl h
    have G2 : w2.cell? ⟨G, 2, none⟩ = some (.slice (some ⟨g, o, none⟩) s.idle.length ci) ∧ w2.frozen? ⟨G, 2, none⟩ = false := by
      have hb := k2.blk R1q.blk fun i hs => R1q.ne_blk.2 i hs
      exact ⟨hb.cell 2, hb.frozen 2⟩
    obtain ⟨g2c, g2f⟩ := G2
    have kB : w2.cell? ⟨w.heap.size, 0, none⟩ = some (.int .i64 (at_ : Int)) := k2.cell (fun hs => by obtain ⟨o', e, _⟩ := hs; cases e; omega) K1
    obtain ⟨W3, hW3⟩ : ∃ W, w2.setCell ⟨G, 2, none⟩ (.slice (some ⟨g, o, none⟩) (s.idle.filter fun x => !decide (x = at_)).length ci) = W := ⟨_, rfl⟩
    have kB3 : W3.cell? ⟨w.heap.size, 0, none⟩ = some (.int .i64 (at_ : Int)) := by rw [← hW3, World.cell?_setCell_other _ _ _ _ (by intro e; injection e with e; omega)]; exact kB
    rw [hW3] at R3
    have k3 : Chg (fun k i => lruFp G gp b (some ⟨g, o, none⟩) ci k i) w2 W3 := by rw [← hW3]; exact Chg.setCell _ w2 (.inl rfl) _
    obtain ⟨e3, z3⟩ := R3.plc HP.out 1 _ rfl
    rw [h0] at e3
    have R4 := R3.refs HP.out 1
    have k4 : Chg (fun k i => lruFp G gp b (some ⟨g, o, none⟩) ci k i) W3 (W3.setCell ⟨gp, at_ * 3 + 1, none⟩ (.int .i64 1)) := Chg.setCell _ W3 (.inr (.inl rfl)) _
    have fin : GetP w G N s F key (.returned (.tuple #[.int .i64 (at_ : Int), .bool false, kZV, .bool false, .int .i64 0])) (W3.setCell ⟨gp, at_ * 3 + 1, none⟩ (.int .i64 1)) := by
      refine ⟨by rw [HV.out], _, ⟨gp, b, n, some ⟨g, o, none⟩, ci, ?_, by omega, fun _ _ => Iff.rfl⟩, ?_, fun k i hk => .inl ((hF k i).2 hk)⟩
      · rw [HT.out]
        have : LruR (W3.setCell ⟨gp, at_ * 3 + 1, none⟩ (.int .i64 1)) G (hitT s key at_).ps (hitT s key at_).idle (slotS s) gp b n (some ⟨g, o, none⟩) ci := by rw [hidle, hps]; exact R4
        exact this.lru hsl hok' hoks' hlen'
      · have c1 : Chg F w (w1.drewN nq) := (HK.out.drewN nq).mono fun k i hk hle => by omega
        have c2 : Chg F (w1.drewN nq) w2 := k2.mono fun k i _ hs => (hF k i).2 (.inr (.inr (.inr hs)))
        have c3 : Chg F w2 W3 := k3.mono fun k i _ hs => (hF k i).2 hs
        exact ((c1.trans c2 fun _ _ _ h => h).trans c3 fun _ _ _ h => h).trans (k4.mono (F' := F) fun k i _ hs => (hF k i).2 hs) fun _ _ _ h => h
    have HF := Lib.hid fin
    clear R1q k2' R3 k3 R4 k4 fin g2 k2 kB K1 e1 z1 D1
    go_wp2_with fail
    (try simp only [Exit.inBlock, Exit.then]); refine bodyPost_ret (results_tmp5 rfl _ _ _) rfl ?_
    exact HF.out
  · -- it had references
    have hidle : (hitT s key at_).idle = s.idle := by show (if _ then _ else _) = _; rw [if_neg h0]
    have hps : (hitT s key at_).ps = s.ps.set at_ (some (key, (plcAt s at_).2 + 1)) := rfl
    obtain ⟨R, hR⟩ : ∃ R, R = (plcAt s at_).2 := ⟨_, rfl⟩
    rw [← hR] at e1 hwr h0 hps hr hr0 hp
    have hne0 : (R == 0) = false := by rw [beq_eq_false_iff_ne]; exact h0
    have HR := Lib.hid R1
    have HK := Lib.hid k1
    have R4 : ∀ q, LruR (((w1.drewN q)).setCell ⟨gp, at_ * 3 + 1, none⟩ (.int .i64 (R + 1))) G (s.ps.set at_ (some (key, R + 1))) s.idle (slotS s) gp b n Ai ci := fun q => (R1.high (m := w1.heap.size) (Nat.le_refl _) ((Chg.refl (fun k _ => w1.heap.size ≤ k) w1).drewN q)).refs hp (R + 1)
    have fin : ∀ q, GetP w G N s F key (.returned (.tuple #[.int .i64 (at_ : Int), .bool false, kZV, .bool false, .int .i64 0])) ((w1.drewN q).setCell ⟨gp, at_ * 3 + 1, none⟩ (.int .i64 (R + 1))) := fun q => by
      refine ⟨by rw [hV], _, ⟨gp, b, n, Ai, ci, ?_, by omega, fun _ _ => Iff.rfl⟩, ?_, fun k i hk => .inl ((hF k i).2 hk)⟩
      · rw [hT]
        have : LruR ((w1.drewN q).setCell ⟨gp, at_ * 3 + 1, none⟩ (.int .i64 (R + 1))) G (hitT s key at_).ps (hitT s key at_).idle (slotS s) gp b n Ai ci := by rw [hidle, hps]; exact R4 q
        exact this.lru hsl hok' hoks' hlen'
      · have c1 : Chg F w (w1.drewN q) := (HK.out.drewN q).mono fun k i hk hle => by omega
        exact c1.trans (Chg.setCell F _ ((hF _ _).2 (.inr (.inl rfl))) _) fun _ _ _ h => h
    have HF := Lib.hid fin
    clear R4 fin h R1 k1 hp hV hT hO hs B1 hr hr0 hps hidle hR h0 hlen' hoks' hok' hsl
    go_enter Try.func61, Try.ntmps61
    go_upto_region 3 with fail
    clear hw1
    go_quiet (fail)
    go_wp2_with fail
    (try simp only [Exit.inBlock, Exit.then]); refine bodyPost_ret (results_tmp5 rfl _ _ _) rfl ?_
    exact HF.out _
end
end Go.Proofs.Ytiidheknlacioaa.KS
