/- Package locks: leave, by contract. -/
import Derived.Test.YtkjbjfjgnponfaaLkC
namespace Go.Proofs.Ytkjbjfjgnponfaa
open Go.RowKit
set_option linter.unusedSimpArgs false
/-- those who come in: holders, the row left, who came -/
def comeL : List Pl → List Pl → List Pl × List Pl × List Int
  | h, [] => (h, [], [])
  | h, p :: q => if goesL h p.2 = true then ((comeL (h ++ [p]) q).1, (comeL (h ++ [p]) q).2.1, p.1 :: (comeL (h ++ [p]) q).2.2) else (h, p :: q, [])
theorem comeL_len : ∀ (r h : List Pl), (comeL h r).1.length + (comeL h r).2.1.length = h.length + r.length ∧ (comeL h r).2.2.length + (comeL h r).2.1.length = r.length
  | [], h => by simp [comeL]
  | p :: q, h => by
    have ih := comeL_len q (h ++ [p])
    rw [comeL]
    split
    · simp only [List.length_append, List.length_cons, List.length_nil] at ih ⊢
      omega
    · simp
theorem OwnP.rds {w : World} {base : Nat} {v : Value} {l : List Pl} (h : OwnP w base v l) : ∃ A c, v = .slice A l.length c ∧ RdS encP 2 w A l := by
  obtain ⟨A, c, rfl, hG, _⟩ := h
  exact ⟨A, c, rfl, hG.rds⟩
theorem OwnP.pos {w : World} {base : Nat} {v : Value} {l : List Pl} (h : OwnP w base v l) (h0 : 0 < l.length) : ∃ g c, v = .slice (some ⟨g, 0, none⟩) l.length c ∧ GSl encP 2 96 w (some ⟨g, 0, none⟩) c l ∧ base ≤ g := by
  obtain ⟨A, c, rfl, hG, hA⟩ := h
  rcases hA with rfl | ⟨g, rfl, hb⟩
  · rcases hG with ⟨_, rfl, _⟩ | ⟨_, _, _, e, _⟩
    · cases h0
    · cases e
  · exact ⟨g, c, rfl, hG, hb⟩
theorem OwnP.mk {w : World} {base g c : Nat} {l : List Pl} (h : GSl encP 2 96 w (some ⟨g, 0, none⟩) c l) (hb : base ≤ g) : OwnP w base (.slice (some ⟨g, 0, none⟩) l.length c) l := ⟨_, c, rfl, h, .inr ⟨g, rfl, hb⟩⟩
def enc1 (x : Int) : List Value := [.int .i64 x]
theorem enc1_len (x : Int) : (enc1 x).length = 1 := rfl
theorem enc1_one (x : Int) : ∀ v ∈ enc1 x, v.oneCell' = true := fun v hv => by obtain rfl := List.mem_singleton.1 hv; rfl
/-- a list of numbers, its own memory -/
def OwnI (w : World) (base : Nat) (v : Value) (l : List Int) : Prop := ∃ A c, v = .slice A l.length c ∧ GSl enc1 1 3 w A c l ∧ (A = none ∨ ∃ g, A = some ⟨g, 0, none⟩ ∧ base ≤ g)
theorem OwnI.blk {w : World} {base g : Nat} {v : Value} {l : List Int} (h : OwnI w base v l) (hg : v.ownBlock = some g) : base ≤ g ∧ ∃ cs, Blk w g 3 cs := by
  obtain ⟨A, c, rfl, hG, hA⟩ := h
  rcases hA with rfl | ⟨g', rfl, hb⟩
  · cases hg
  · cases hg
    rcases hG with ⟨h, _⟩ | ⟨g2, o, cs, e, _, _, h3, _⟩
    · cases h
    · cases e
      exact ⟨hb, cs, h3⟩
theorem OwnI.nil_ (w : World) (base : Nat) : OwnI w base (.slice none 0 0) [] := ⟨none, 0, rfl, GSl.nil_, .inl rfl⟩
theorem OwnI.chg {w w' : World} {base : Nat} {v : Value} {l : List Int} {F : Nat → Nat → Prop} (h : OwnI w base v l) (hc : Chg F w w') (hn : ∀ g, v.ownBlock = some g → ∀ i, ¬ F g i) : OwnI w' base v l := by
  obtain ⟨A, c, rfl, hG, hA⟩ := h
  refine ⟨A, c, rfl, hG.chg hc enc1_len fun g i hs => ?_, hA⟩
  rcases hA with rfl | ⟨g', rfl, _⟩
  · obtain ⟨_, e, _⟩ := hs
    cases e
  · obtain ⟨_, e, _⟩ := hs
    cases e
    exact hn g rfl i
theorem OwnI.below {w w' : World} {base : Nat} {v : Value} {l : List Int} (h : OwnI w base v l) (hB : Below w.heap.size w w') : OwnI w' base v l := h.chg (Chg.of_below (fun _ _ => False) hB) fun _ _ _ h => h
theorem OwnI.of_own {w : World} {base : Nat} {v : Value} {l : List Int} (h : Own encI 3 w base v l) : OwnI w base v l := by
  rcases h.form with ⟨rfl, rfl⟩ | ⟨g, cap, cs, rfl, hb, hblk, hle, hm, hs, ht⟩
  · exact OwnI.nil_ _ _
  · refine ⟨_, cap, rfl, .inr ⟨g, 0, cs, rfl, hle, hm, hblk, by omega, fun i x hx j u hu => ?_⟩, .inr ⟨g, rfl, hb⟩⟩
    have hi := (List.getElem?_eq_some_iff.1 hx).1
    match j, hu with
    | 0, hu =>
      cases hu
      have h1 : (cs.toList.take l.length)[i]? = (l.map encI)[i]? := by rw [ht]
      rw [List.getElem?_take, if_pos hi, List.getElem?_map, hx] at h1
      simpa using h1
/-- the request's block -/
def reqC (T : Nat) (ex mode owner : Int) (gv : Value) (ok : Bool) (err : Int) : Array Value := #[.pointer (some ⟨T, 0, none⟩), .int .i64 ex, .int .i64 mode, .int .i64 owner, gv, .bool ok, .int .i64 err]
theorem findI_ge {l : List Pl} {o : Int} (h : 0 ≤ findI l o) : ∃ i : Nat, findI l o = (i : Int) ∧ i < l.length := by
  unfold findI at h ⊢
  cases hf : l.findIdx? (hasO o) with
  | none => rw [hf] at h; simp at h
  | some i =>
    rw [List.findIdx?_eq_some_iff_getElem] at hf
    exact ⟨i, rfl, by have := hf.1; exact this⟩
/-- what a call may change: the table, the request, the list of those who came -/
def LvF (T E n Q : Nat) (V : Nat → Value) (gv : Value) (k : Nat) : Prop := Fp T E n V k ∨ k = Q ∨ gv.ownBlock = some k
/-- the state of a call at work -/
structure LvS (base : Nat) (w wr : World) (T E n Q : Nat) (most ex mode owner : Int) (ok : Bool) (err : Int) (V0 : Nat → Value) (g0 : Value) (wait : Int) (V : Nat → Value) (L : Nat → List Pl) (gv : Value) (gl : List Int) : Prop where
  tab : TabS base wr T E n 1 most wait V L
  req : Blk wr Q 72 (reqC T ex mode owner gv ok err)
  own : OwnI wr base gv gl
  chg : Chg (fun k _ => LvF T E n Q V0 g0 k) w wr
  fp : ∀ k, Fp T E n V k → Fp T E n V0 k ∨ w.heap.size ≤ k
  gp : ∀ k, gv.ownBlock = some k → g0.ownBlock = some k ∨ w.heap.size ≤ k
section
variable {base : Nat} {w wr wr' : World} {T E n Q : Nat} {most ex mode owner : Int} {ok : Bool} {err : Int} {V0 : Nat → Value} {g0 : Value} {wait : Int} {V : Nat → Value} {L : Nat → List Pl} {gv : Value} {gl : List Int}
theorem LvS.below (h : LvS base w wr T E n Q most ex mode owner ok err V0 g0 wait V L gv gl) (hB : Below wr.heap.size wr wr') : LvS base w wr' T E n Q most ex mode owner ok err V0 g0 wait V L gv gl :=
  ⟨h.tab.below hB, h.req.below hB h.req.lt, h.own.below hB, h.chg.trans (Chg.of_below (fun _ _ => False) hB) (fun _ _ _ h => h.elim), h.fp, h.gp⟩
/-- a list of the table is changed and its slice written -/
theorem LvS.put {F : Nat → Nat → Prop} (h : LvS base w wr T E n Q most ex mode owner ok err V0 g0 wait V L gv gl) {i : Nat} {v : Value} {l : List Pl} (hi : i < 2 * n) (hc : Chg F wr wr') (hF : ∀ k j, F k j → (V i).ownBlock = some k) (ho : OwnP wr' base v l) (hv : ∀ k, v.ownBlock = some k → (V i).ownBlock = some k ∨ wr.heap.size ≤ k) :
    LvS base w (wr'.setCell ⟨E, i, none⟩ v) T E n Q most ex mode owner ok err V0 g0 wait (upd V i v) (upd L i l) gv gl := by
  have hpl : ∀ k j, F k j → ∃ cs, Blk wr k 96 cs := fun k j hf => ((h.tab.own i hi).blk (hF k j hf)).2
  have req' := hc.blk h.req fun j hf => by obtain ⟨cs, hb⟩ := hpl _ _ hf; exact blk_type_ne hb h.req (by decide) rfl
  have ex' := hc.blk h.tab.ex fun j hf => by obtain ⟨cs, hb⟩ := hpl _ _ hf; exact blk_type_ne hb h.tab.ex (by decide) rfl
  have own' : OwnI wr' base gv gl := h.own.chg hc fun g hg j hf => by obtain ⟨cs, hb⟩ := hpl _ _ hf; obtain ⟨_, cs2, hb2⟩ := h.own.blk hg; exact blk_type_ne hb2 hb (by decide) rfl
  refine ⟨h.tab.put hi hc hF ho hv, req'.far (fun e => blk_type_ne req' ex' (by decide) e) _, own'.chg (Chg.setCell (fun k _ => k = E) _ (show E = E from rfl) v) fun g hg _ e => by { obtain ⟨_, cs2, hb2⟩ := own'.blk hg; exact blk_type_ne hb2 ex' (by decide) e }, ?_, fun k hk => ?_, h.gp⟩
  · have hset : Chg (fun k _ => k = E) wr' (wr'.setCell ⟨E, i, none⟩ v) := Chg.setCell (fun k _ => k = E) _ (show E = E from rfl) v
    have hsz := h.chg.size
    refine (h.chg.trans hc fun k j hk hf => ?_).trans hset fun k j hk hf => ?_
    · rcases h.fp k (.inr (.inr ⟨i, hi, hF k j hf⟩)) with h1 | h1
      · exact .inl h1
      · omega
    · rcases h.fp k (.inr (.inl hf)) with h1 | h1
      · exact .inl h1
      · omega
  · rcases hk with hk | hk | ⟨j, hj, e⟩
    · exact h.fp k (.inl hk)
    · exact h.fp k (.inr (.inl hk))
    · by_cases e2 : j = i
      · subst e2
        rw [upd_same] at e
        rcases hv k e with h1 | h1
        · exact h.fp k (.inr (.inr ⟨j, hj, h1⟩))
        · exact .inr (Nat.le_trans h.chg.size h1)
      · rw [upd_ne _ _ e2] at e
        exact h.fp k (.inr (.inr ⟨j, hj, e⟩))
theorem LvS.waits (h : LvS base w wr T E n Q most ex mode owner ok err V0 g0 wait V L gv gl) (z : Int) : LvS base w (wr.setCell ⟨T, 4, none⟩ (.int .i64 z)) T E n Q most ex mode owner ok err V0 g0 z V L gv gl := by
  have hset : Chg (fun k _ => k = T) wr (wr.setCell ⟨T, 4, none⟩ (.int .i64 z)) := Chg.setCell (fun k _ => k = T) _ (show T = T from rfl) _
  refine ⟨h.tab.waits z, h.req.far (fun e => blk_type_ne h.req h.tab.tb (by decide) e) _, h.own.chg hset fun g hg _ e => by { obtain ⟨_, cs2, hb2⟩ := h.own.blk hg; exact blk_type_ne hb2 h.tab.tb (by decide) e }, h.chg.trans hset fun k j hk hf => ?_, h.fp, h.gp⟩
  rcases h.fp k (.inl hf) with h1 | h1
  · exact .inl h1
  · omega
/-- a number is added to those who came -/
theorem LvS.gput {F : Nat → Nat → Prop} (h : LvS base w wr T E n Q most ex mode owner ok err V0 g0 wait V L gv gl) {v : Value} {l : List Int} (hc : Chg F wr wr') (hF : ∀ k j, F k j → gv.ownBlock = some k) (ho : OwnI wr' base v l) (hv : ∀ k, v.ownBlock = some k → gv.ownBlock = some k ∨ wr.heap.size ≤ k) :
    LvS base w (wr'.setCell ⟨Q, 4, none⟩ v) T E n Q most ex mode owner ok err V0 g0 wait V L v l := by
  have hint : ∀ k j, F k j → ∃ cs, Blk wr k 3 cs := fun k j hf => (h.own.blk (hF k j hf)).2
  have req' := hc.blk h.req fun j hf => by obtain ⟨cs, hb⟩ := hint _ _ hf; exact blk_type_ne hb h.req (by decide) rfl
  have hcg : Chg (fun k _ => gv.ownBlock = some k) wr wr' := hc.mono fun k j _ hf => hF k j hf
  have hset : Chg (fun k _ => k = Q) wr' (wr'.setCell ⟨Q, 4, none⟩ v) := Chg.setCell (fun k _ => k = Q) _ (show Q = Q from rfl) v
  have hall : Chg (fun k _ => gv.ownBlock = some k ∨ k = Q) wr (wr'.setCell ⟨Q, 4, none⟩ v) := (hcg.mono fun k i _ h => .inl h).trans hset fun k i _ h => .inr h
  refine ⟨h.tab.keep hall fun k hk j hf => ?_, req'.set_ 4 v, ho.chg hset fun g hg _ e => by { obtain ⟨_, cs2, hb2⟩ := ho.blk hg; exact blk_type_ne hb2 req' (by decide) e }, h.chg.trans hall fun k j hk hf => ?_, h.fp, fun k hk => ?_⟩
  · rcases hf with hf | rfl
    · rcases hk with rfl | rfl | ⟨i, hi, e⟩
      · obtain ⟨_, cs2, hb2⟩ := h.own.blk hf; exact blk_type_ne hb2 h.tab.tb (by decide) rfl
      · obtain ⟨_, cs2, hb2⟩ := h.own.blk hf; exact blk_type_ne hb2 h.tab.ex (by decide) rfl
      · obtain ⟨_, cs, hb⟩ := (h.tab.own i hi).blk e
        obtain ⟨_, cs2, hb2⟩ := h.own.blk hf
        exact blk_type_ne hb2 hb (by decide) rfl
    · rcases hk with rfl | rfl | ⟨i, hi, e⟩
      · exact blk_type_ne h.req h.tab.tb (by decide) rfl
      · exact blk_type_ne h.req h.tab.ex (by decide) rfl
      · obtain ⟨_, cs, hb⟩ := (h.tab.own i hi).blk e
        exact blk_type_ne h.req hb (by decide) rfl
  · rcases hf with hf | rfl
    · rcases h.gp k hf with h1 | h1
      · exact .inr (.inr h1)
      · omega
    · exact .inr (.inl rfl)
  · rcases hv k hk with h1 | h1
    · exact h.gp k h1
    · exact .inr (Nat.le_trans h.chg.size h1)
end

/-- what leave does with an extent: holders, row, who came, how many left the row -/
def leaveL (h r : List Pl) (o : Int) : Option (List Pl × List Pl × List Int × Nat) :=
  if 0 ≤ findI h o then some ((comeL (h.eraseIdx (findI h o).toNat) r).1, (comeL (h.eraseIdx (findI h o).toNat) r).2.1, (comeL (h.eraseIdx (findI h o).toNat) r).2.2, 0)
  else if 0 ≤ findI r o then some ((comeL h (r.eraseIdx (findI r o).toNat)).1, (comeL h (r.eraseIdx (findI r o).toNat)).2.1, (comeL h (r.eraseIdx (findI r o).toNat)).2.2, 1)
  else none
def cellLen (w : World) (a : Addr) : Nat := match w.cell? a with
  | some (.slice _ n _) => n
  | _ => 0
def LvPost (base : Nat) (w : World) (T E n Q x : Nat) (most ex mode owner : Int) (ok : Bool) (err : Int) (V : Nat → Value) (gv : Value) (wait : Int) (L : Nat → List Pl) (gl : List Int) (e : Ending) (w' : World) : Prop :=
  match leaveL (L (x * 2)) (L (x * 2 + 1)) owner with
  | none => e = .returned (.bool false) ∧ Below w.heap.size w w'
  | some q => e = .returned (.bool true) ∧ ∃ V' gv', LvS base w w' T E n Q most ex mode owner ok err V gv (wait - (q.2.2.2 : Int) - (q.2.2.1.length : Int)) V' (upd (upd L (x * 2) q.1) (x * 2 + 1) q.2.1) gv' (gl ++ q.2.2.1)
theorem cellLen_of {w : World} {a : Addr} {A : Option Addr} {n c : Nat} (h : w.cell? a = some (.slice A n c)) : cellLen w a = n := by unfold cellLen; rw [h]
theorem upd_comm {α : Type} (f : Nat → α) {i j : Nat} (x y : α) (h : i ≠ j) : upd (upd f i x) j y = upd (upd f j y) i x := by
  funext k
  unfold upd
  by_cases h1 : k = j
  · subst h1
    rw [if_pos rfl, if_neg (fun e => h e.symm), if_pos rfl]
  · rw [if_neg h1, if_neg h1]
theorem upd_upd {α : Type} (f : Nat → α) (i : Nat) (x y : α) : upd (upd f i x) i y = upd f i y := by
  funext k
  unfold upd
  split <;> rfl
theorem upd_self {α : Type} (f : Nat → α) (k : Nat) : upd f k (f k) = f := by
  funext j
  unfold upd
  split
  · next e => rw [e]
  · rfl
theorem ex_at {w : World} {E n i : Nat} {V : Nat → Value} (h : Blk w E 93 ((List.range (2 * n)).map V).toArray) (hi : i < 2 * n) : w.cell? ⟨E, i, none⟩ = some (V i) := (h.cell _).trans (by simp [hi])
theorem rng2 {w : World} {g c : Nat} {p : Pl} {q : List Pl} (h : GSl encP 2 96 w (some ⟨g, 0, none⟩) c (p :: q)) : w.rangeAt g 0 [.int .i64 p.1, .int .i64 p.2] := fun j v hv => by
  obtain ⟨g', o, e, _, hc⟩ := h.cell (k := 0) rfl
  cases e
  have := (hc j v hv).1
  simpa using this
theorem slFp_own {A : Option Addr} {m n c k j l : Nat} (h : slFp 2 A m c k j) (hA : A = none ∨ ∃ g, A = some ⟨g, 0, none⟩) : (Value.slice A l n).ownBlock = some k := by
  obtain ⟨o, e, _⟩ := h
  rcases hA with rfl | ⟨g, rfl⟩
  · cases e
  · cases e; rfl
set_option maxRecDepth 20000 in
set_option maxHeartbeats 16000000 in
theorem leave_any (base T E n Q x : Nat) (most ex mode owner : Int) (ok : Bool) (err : Int) (V : Nat → Value) (gv : Value) (wait : Int) (L : Nat → List Pl) (gl : List Int) (w : World) (hxn : x < n) (hS : LvS base w w T E n Q most ex mode owner ok err V gv wait V L gv gl)
    (hb1 : (L (x * 2)).length + (L (x * 2 + 1)).length ≤ 8000000000000) (hb2 : (L (x * 2 + 1)).length ≤ 1000000) (hb3 : gl.length ≤ 8000000000000) (hw : 0 ≤ wait ∧ wait ≤ 1000000) :
    Calls Try.prog 56 #[.pointer (some ⟨Q, 0, none⟩), .pointer (some ⟨E, x * 2, none⟩)] w (LvPost base w T E n Q x most ex mode owner ok err V gv wait L gl) := by
  have HS := Lib.hid hS
  have i0 : x * 2 < 2 * n := by omega
  have i1 : x * 2 + 1 < 2 * n := by omega
  obtain ⟨Ah, ch, eh, rh⟩ := (hS.tab.own (x * 2) i0).rds
  obtain ⟨Ar, cr, er, rr⟩ := (hS.tab.own (x * 2 + 1) i1).rds
  obtain ⟨hn, hhn⟩ : ∃ k, k = (L (x * 2)).length := ⟨_, rfl⟩
  obtain ⟨rn, hrn⟩ : ∃ k, k = (L (x * 2 + 1)).length := ⟨_, rfl⟩
  rw [← hhn] at eh
  rw [← hrn] at er
  have ce : ∀ v, TabS base v T E n 1 most wait V L → v.cell? ⟨E, x * 2, none⟩ = some (.slice Ah hn ch) ∧ v.cell? ⟨E, x * 2 + 1, none⟩ = some (.slice Ar rn cr) := fun v h => ⟨by rw [h.cell i0, eh], by rw [h.cell i1, er]⟩
  have CE := Lib.hid ce
  have HHN := Lib.hid hhn
  have HRN := Lib.hid hrn
  have EH := Lib.hid eh
  have ER := Lib.hid er
  have g1 := Lib.hid (find_any Ah ch hn (L (x * 2)) owner w.drew hhn.symm (by omega) rh)
  have RR := Lib.hid rr
  have S0 := Lib.hid (hS.below (Below.refl w.heap.size w).drew)
  clear hS ce hhn hrn eh er rh rr
  go_enter Try.func56, Try.ntmps56
  go_wp2_with fail
  refine wp_region_noPanic ?_
  refine wp_region_held_drew (S := fun w' => w'.cell? ⟨E, x * 2, none⟩ = some (.slice Ah hn ch) ∧ w'.cell? ⟨E, x * 2 + 1, none⟩ = some (.slice Ar rn cr) ∧ w'.cell? ⟨Q, 3, none⟩ = some (.int .i64 owner)) (by kernel_rfl) (⟨(CE.out _ S0.out.tab).1, (CE.out _ S0.out.tab).2, S0.out.req.cell 3⟩) (fun hHeld => ?_)
  refine take_on (i := 0) (some 7) (v := ?vr1) rfl rfl (by kernel_rfl) (by kernel_rfl) (by kernel_rfl) (fun _ _ _ h => h) (by rfl) ?hyr1 (by with_reducible exact hHeld) ?restr1
  case hyr1 => (intro wS hSw; (try dsimp only at hSw); go_simp; try with_reducible rfl)
  try simp only [Act.put, List.setIfInBounds_toArray, List.set_cons_zero, List.set_cons_succ]
  refine take_on (i := 1) (some 8) (v := ?vr2) rfl rfl (by kernel_rfl) (by kernel_rfl) (by kernel_rfl) (fun _ _ _ h => h) (by rfl) ?hyr2 (by with_reducible exact hHeld) ?restr2
  case hyr2 => (intro wS hSw; (try dsimp only at hSw); go_simp; try with_reducible rfl)
  try simp only [Act.put, List.setIfInBounds_toArray, List.set_cons_zero, List.set_cons_succ]
  refine take_on (i := 2) (some 9) (v := ?vr3) rfl rfl (by kernel_rfl) (by kernel_rfl) (by kernel_rfl) (fun _ _ _ h => h) (by rfl) ?hyr3 (by with_reducible exact hHeld) ?restr3
  case hyr3 => (intro wS hSw; (try dsimp only at hSw); go_simp; try with_reducible rfl)
  try simp only [Act.put, List.setIfInBounds_toArray, List.set_cons_zero, List.set_cons_succ]
  refine take_on (i := 3) (some 10) (v := ?vr4) rfl rfl (by kernel_rfl) (by kernel_rfl) (by kernel_rfl) (fun _ _ _ h => h) (by rfl) ?hyr4 (by with_reducible exact hHeld) ?restr4
  case hyr4 => (intro wS hSw; (try dsimp only at hSw); go_simp; try with_reducible rfl)
  try simp only [Act.put, List.setIfInBounds_toArray, List.set_cons_zero, List.set_cons_succ]
  refine take_on (i := 4) (some 11) (v := ?vr5) rfl rfl (by kernel_rfl) (by kernel_rfl) (by kernel_rfl) (fun _ _ _ h => h) (by rfl) ?hyr5 (by with_reducible exact hHeld) ?restr5
  case hyr5 => (intro wS hSw; (try dsimp only at hSw); go_simp; try with_reducible rfl)
  try simp only [Act.put, List.setIfInBounds_toArray, List.set_cons_zero, List.set_cons_succ]
  refine take_on (i := 5) (some 12) (v := ?vr6) rfl rfl (by kernel_rfl) (by kernel_rfl) (by kernel_rfl) (fun _ _ _ h => h) (by rfl) ?hyr6 (by with_reducible exact hHeld) ?restr6
  case hyr6 => (intro wS hSw; (try dsimp only at hSw); go_simp; try with_reducible rfl)
  try simp only [Act.put, List.setIfInBounds_toArray, List.set_cons_zero, List.set_cons_succ]
  refine take_on (i := 6) (some 13) (v := ?vr7) rfl rfl (by kernel_rfl) (by kernel_rfl) (by kernel_rfl) (fun _ _ _ h => h) (by rfl) ?hyr7 (by with_reducible exact hHeld) ?restr7
  case hyr7 => (intro wS hSw; (try dsimp only at hSw); go_simp; try with_reducible rfl)
  try simp only [Act.put, List.setIfInBounds_toArray, List.set_cons_zero, List.set_cons_succ]
  refine take_on (i := 7) (some 14) (v := ?vr8) rfl rfl (by kernel_rfl) (by kernel_rfl) (by kernel_rfl) (fun _ _ _ h => h) (by rfl) ?hyr8 (by with_reducible exact hHeld) ?restr8
  case hyr8 => (intro wS hSw; (try dsimp only at hSw); go_simp; try with_reducible rfl)
  try simp only [Act.put, List.setIfInBounds_toArray, List.set_cons_zero, List.set_cons_succ]
  refine wpAnyH_ready (rs := [8]) (by kernel_rfl) (by simp) ?_
  refine AllReadyH.cons rfl (fun K hK => ?_) AllReadyH.nil
  go_simp
  with_reducible refine g1.out.mono ?_
  rintro e w1 ⟨rfl, hB1⟩
  have S1 := Lib.hid (S0.out.below hB1)
  have BL1 := Lib.hid ((Below.refl w.heap.size w).drew.trans hB1)
  clear g1 hB1
  refine hK.out _ _ (⟨(CE.out _ S1.out.tab).1, (CE.out _ S1.out.tab).2, S1.out.req.cell 3⟩) (fun hHeld => ?_)
  clear hK K
  try simp only [Act.put, List.setIfInBounds_toArray, List.set_cons_zero, List.set_cons_succ]
  refine take_on (i := 9) (some 5) (v := ?vr9) rfl rfl (by kernel_rfl) (by kernel_rfl) (by kernel_rfl) (fun _ _ _ h => h) (by rfl) ?hyr9 (by with_reducible exact hHeld) ?restr9
  case hyr9 => (intro wS hSw; (try dsimp only at hSw); go_simp; try with_reducible rfl)
  try simp only [Act.put, List.setIfInBounds_toArray, List.set_cons_zero, List.set_cons_succ]
  refine wpAnyH_done (by kernel_rfl) ?_ _
  refine NoPanic.normal ?_
  obtain ⟨fi, hfi⟩ : ∃ fi, fi = findI (L (x * 2)) owner := ⟨_, rfl⟩
  rw [← hfi]
  have HFI := Lib.hid hfi
  clear hfi
  go_upto_if 17 with fail
  go_cut [] (fun wx => ∃ (h1 r1 : List Pl) (d : Nat) (V1 : Nat → Value), Hid (leaveL (L (x * 2)) (L (x * 2 + 1)) owner = some ((comeL h1 r1).1, (comeL h1 r1).2.1, (comeL h1 r1).2.2, d)) ∧ Hid (h1.length + r1.length ≤ 8000000000000 ∧ r1.length ≤ 1000000 ∧ d ≤ 1) ∧ LvS base w wx T E n Q most ex mode owner ok err V gv (wait - (d : Int)) V1 (upd (upd L (x * 2) h1) (x * 2 + 1) r1) gv gl)
  case first =>
    by_cases c0 : 0 ≤ fi
    · obtain ⟨i, hfi, hil⟩ := findI_ge (l := L (x * 2)) (o := owner) (by rw [← HFI.out]; exact c0)
      rw [← HFI.out] at hfi
      obtain ⟨g, c', hv, hG, hbg⟩ := (S1.out.tab.own (x * 2) i0).pos (by omega)
      rw [EH.out] at hv
      injection hv with e1 e2 e3
      subst e1
      subst e3
      clear e2
      obtain ⟨m, hm⟩ : ∃ m, hn = m + 1 := ⟨hn - 1, by have := HHN.out; omega⟩
      have hil' : i < hn := by rw [HHN.out]; exact hil
      have gd := Lib.hid (delete_any g ch hn m i fi (fi + 1) (L (x * 2)) w1 HHN.out.symm hm hil' hfi (by rw [hfi]) hG)
      have hel : ((L (x * 2)).eraseIdx i).length = m := by rw [List.length_eraseIdx, if_pos hil]; have := HHN.out; omega
      have hex := Lib.hid S1.out.tab.ex
      have HFI2 := Lib.hid hfi
      have HM := Lib.hid hm
      have HEL := Lib.hid hel
      have wz : IntKind.i64.wrap (fi + 1) = fi + 1 := i64_in_ _ (by rw [hfi]; omega)
      have ct := CE.out _ S1.out.tab
      have ct1 := ct.1
      have ct2 := ct.2
      clear hG hfi hm hel ct
      go_wp2_with fail
      refine gd.out.mono ?_
      rintro e wd ⟨rfl, hGd, hCd⟩
      have exd := hCd.blk hex.out fun _ e => by obtain ⟨_, cs, hb⟩ := (S1.out.tab.own (x * 2) i0).blk (g := g) (by rw [EH.out]; rfl); exact blk_type_ne hb hex.out (by decide) e.symm
      have xd : wd.cell? ⟨E, x * 2, none⟩ = some (V (x * 2)) := ex_at exd i0
      have fd := exd.frozen (x * 2)
      have Sd := S1.out.put i0 hCd (fun k j e => by rw [EH.out, e]; rfl) (OwnP.mk hGd hbg) (fun k e => .inl (by rw [EH.out]; exact e))
      rw [HEL.out] at Sd
      have SD := Lib.hid Sd
      rw [EH.out] at xd
      clear gd hGd hCd exd Sd ct1 ct2 hex
      go_wp2_with fail
      go_meet
      refine ⟨(L (x * 2)).eraseIdx i, L (x * 2 + 1), 0, upd V (x * 2) (.slice (some ⟨g, 0, none⟩) m ch), Lib.hid ?_, Lib.hid ⟨by have := HEL.out; have := HM.out; have := HHN.out; omega, hb2, by omega⟩, ?_⟩
      · have h2 := HFI.out
        unfold leaveL
        rw [if_pos (by rw [← h2]; exact c0), ← h2, HFI2.out]
        simp
      · have e1 : upd (upd L (x * 2) ((L (x * 2)).eraseIdx i)) (x * 2 + 1) (L (x * 2 + 1)) = upd L (x * 2) ((L (x * 2)).eraseIdx i) := by
          rw [upd_comm _ _ _ (by omega), upd_self]
        rw [e1]
        simpa using SD.out
    · have c0' : ¬ (0 : Int) ≤ fi := c0
      have S1d := Lib.hid (S1.out.below (Below.refl w1.heap.size w1).drew)
      obtain ⟨Ar2, cr2, er2, rr2⟩ := (S1d.out.tab.own (x * 2 + 1) i1).rds
      rw [ER.out] at er2
      injection er2 with e1 e2 e3
      subst e1
      subst e3
      clear e2
      have g2 := Lib.hid (find_any Ar cr rn (L (x * 2 + 1)) owner w1.drew HRN.out.symm (by have := HRN.out; omega) rr2)
      clear rr2 c0
      go_wp2_with fail
      refine wp_region_noPanic ?_
      refine wp_region_held_drew (S := fun w' => w'.cell? ⟨E, x * 2, none⟩ = some (.slice Ah hn ch) ∧ w'.cell? ⟨E, x * 2 + 1, none⟩ = some (.slice Ar rn cr) ∧ w'.cell? ⟨Q, 3, none⟩ = some (.int .i64 owner)) (by kernel_rfl) (⟨(CE.out _ S1d.out.tab).1, (CE.out _ S1d.out.tab).2, S1d.out.req.cell 3⟩) (fun hHeld => ?_)
      refine take_on (i := 0) (some 29) (v := ?vr10) rfl rfl (by kernel_rfl) (by kernel_rfl) (by kernel_rfl) (fun _ _ _ h => h) (by rfl) ?hyr10 (by with_reducible exact hHeld) ?restr10
      case hyr10 => (intro wS hSw; (try dsimp only at hSw); go_simp; try with_reducible rfl)
      try simp only [Act.put, List.setIfInBounds_toArray, List.set_cons_zero, List.set_cons_succ]
      refine take_on (i := 1) (some 30) (v := ?vr11) rfl rfl (by kernel_rfl) (by kernel_rfl) (by kernel_rfl) (fun _ _ _ h => h) (by rfl) ?hyr11 (by with_reducible exact hHeld) ?restr11
      case hyr11 => (intro wS hSw; (try dsimp only at hSw); go_simp; try with_reducible rfl)
      try simp only [Act.put, List.setIfInBounds_toArray, List.set_cons_zero, List.set_cons_succ]
      refine take_on (i := 2) (some 31) (v := ?vr12) rfl rfl (by kernel_rfl) (by kernel_rfl) (by kernel_rfl) (fun _ _ _ h => h) (by rfl) ?hyr12 (by with_reducible exact hHeld) ?restr12
      case hyr12 => (intro wS hSw; (try dsimp only at hSw); go_simp; try with_reducible rfl)
      try simp only [Act.put, List.setIfInBounds_toArray, List.set_cons_zero, List.set_cons_succ]
      refine take_on (i := 3) (some 32) (v := ?vr13) rfl rfl (by kernel_rfl) (by kernel_rfl) (by kernel_rfl) (fun _ _ _ h => h) (by rfl) ?hyr13 (by with_reducible exact hHeld) ?restr13
      case hyr13 => (intro wS hSw; (try dsimp only at hSw); go_simp; try with_reducible rfl)
      try simp only [Act.put, List.setIfInBounds_toArray, List.set_cons_zero, List.set_cons_succ]
      refine take_on (i := 4) (some 33) (v := ?vr14) rfl rfl (by kernel_rfl) (by kernel_rfl) (by kernel_rfl) (fun _ _ _ h => h) (by rfl) ?hyr14 (by with_reducible exact hHeld) ?restr14
      case hyr14 => (intro wS hSw; (try dsimp only at hSw); go_simp; try with_reducible rfl)
      try simp only [Act.put, List.setIfInBounds_toArray, List.set_cons_zero, List.set_cons_succ]
      refine take_on (i := 5) (some 34) (v := ?vr15) rfl rfl (by kernel_rfl) (by kernel_rfl) (by kernel_rfl) (fun _ _ _ h => h) (by rfl) ?hyr15 (by with_reducible exact hHeld) ?restr15
      case hyr15 => (intro wS hSw; (try dsimp only at hSw); go_simp; try with_reducible rfl)
      try simp only [Act.put, List.setIfInBounds_toArray, List.set_cons_zero, List.set_cons_succ]
      refine take_on (i := 6) (some 35) (v := ?vr16) rfl rfl (by kernel_rfl) (by kernel_rfl) (by kernel_rfl) (fun _ _ _ h => h) (by rfl) ?hyr16 (by with_reducible exact hHeld) ?restr16
      case hyr16 => (intro wS hSw; (try dsimp only at hSw); go_simp; try with_reducible rfl)
      try simp only [Act.put, List.setIfInBounds_toArray, List.set_cons_zero, List.set_cons_succ]
      refine take_on (i := 7) (some 36) (v := ?vr17) rfl rfl (by kernel_rfl) (by kernel_rfl) (by kernel_rfl) (fun _ _ _ h => h) (by rfl) ?hyr17 (by with_reducible exact hHeld) ?restr17
      case hyr17 => (intro wS hSw; (try dsimp only at hSw); go_simp; try with_reducible rfl)
      try simp only [Act.put, List.setIfInBounds_toArray, List.set_cons_zero, List.set_cons_succ]
      refine wpAnyH_ready (rs := [8]) (by kernel_rfl) (by simp) ?_
      refine AllReadyH.cons rfl (fun K hK => ?_) AllReadyH.nil
      go_simp
      with_reducible refine g2.out.mono ?_
      rintro e w2 ⟨rfl, hB2⟩
      have S2 := Lib.hid (S1d.out.below hB2)
      have HBel := Lib.hid (BL1.out.drew.trans (hB2.mono BL1.out.size))
      clear g2 hB2
      refine hK.out _ _ (⟨(CE.out _ S2.out.tab).1, (CE.out _ S2.out.tab).2, S2.out.req.cell 3⟩) (fun hHeld => ?_)
      clear hK K
      try simp only [Act.put, List.setIfInBounds_toArray, List.set_cons_zero, List.set_cons_succ]
      refine take_on (i := 9) (some 6) (v := ?vr18) rfl rfl (by kernel_rfl) (by kernel_rfl) (by kernel_rfl) (fun _ _ _ h => h) (by rfl) ?hyr18 (by with_reducible exact hHeld) ?restr18
      case hyr18 => (intro wS hSw; (try dsimp only at hSw); go_simp; try with_reducible rfl)
      try simp only [Act.put, List.setIfInBounds_toArray, List.set_cons_zero, List.set_cons_succ]
      refine wpAnyH_done (by kernel_rfl) ?_ _
      refine NoPanic.normal ?_
      obtain ⟨fj, hfj⟩ : ∃ fj, fj = findI (L (x * 2 + 1)) owner := ⟨_, rfl⟩
      rw [← hfj]
      have HFJ := Lib.hid hfj
      clear hfj
      by_cases c1 : 0 ≤ fj
      · obtain ⟨i, hfi, hil⟩ := findI_ge (l := L (x * 2 + 1)) (o := owner) (by rw [← HFJ.out]; exact c1)
        rw [← HFJ.out] at hfi
        obtain ⟨g, c', hv, hG, hbg⟩ := (S2.out.tab.own (x * 2 + 1) i1).pos (by omega)
        rw [ER.out] at hv
        injection hv with e1 e2 e3
        subst e1
        subst e3
        clear e2
        obtain ⟨m, hm⟩ : ∃ m, rn = m + 1 := ⟨rn - 1, by have := HRN.out; omega⟩
        have hil' : i < rn := by rw [HRN.out]; exact hil
        have gd := Lib.hid (delete_any g cr rn m i fj (fj + 1) (L (x * 2 + 1)) w2 HRN.out.symm hm hil' hfi (by rw [hfi]) hG)
        have hel : ((L (x * 2 + 1)).eraseIdx i).length = m := by rw [List.length_eraseIdx, if_pos hil]; have := HRN.out; omega
        have hex := Lib.hid S2.out.tab.ex
        have HFI2 := Lib.hid hfi
        have HM := Lib.hid hm
        have HEL := Lib.hid hel
        have wz : IntKind.i64.wrap (fj + 1) = fj + 1 := i64_in_ _ (by rw [hfi]; omega)
        have ct := CE.out _ S2.out.tab
        have ct1 := ct.1
        have ct2 := ct.2
        clear hG hfi hm hel ct
        go_wp2_with fail
        refine gd.out.mono ?_
        rintro e wd ⟨rfl, hGd, hCd⟩
        have exd := hCd.blk hex.out fun _ e => by obtain ⟨_, cs, hb⟩ := (S2.out.tab.own (x * 2 + 1) i1).blk (g := g) (by rw [ER.out]; rfl); exact blk_type_ne hb hex.out (by decide) e.symm
        have xd : wd.cell? ⟨E, x * 2 + 1, none⟩ = some (V (x * 2 + 1)) := ex_at exd i1
        have fd := exd.frozen (x * 2 + 1)
        have Sd := S2.out.put i1 hCd (fun k j e => by rw [ER.out, e]; rfl) (OwnP.mk hGd hbg) (fun k e => .inl (by rw [ER.out]; exact e))
        rw [HEL.out] at Sd
        have SD := Lib.hid Sd
        rw [ER.out] at xd
        clear gd hGd hCd exd Sd ct1 ct2 hex
        have tcd : (wd.setCell ⟨E, x * 2 + 1, none⟩ (.slice (some ⟨g, 0, none⟩) m cr)).cell? ⟨T, 4, none⟩ = some (.int .i64 wait) := SD.out.tab.tb.cell 4
        have tfd := SD.out.tab.tb.frozen 4
        have qcd : (wd.setCell ⟨E, x * 2 + 1, none⟩ (.slice (some ⟨g, 0, none⟩) m cr)).cell? ⟨Q, 0, none⟩ = some (.pointer (some ⟨T, 0, none⟩)) := SD.out.req.cell 0
        have ww : IntKind.i64.wrap (wait - 1) = wait - 1 := i64_in_ _ (by omega)
        obtain ⟨W2, hW2⟩ : ∃ W2, W2 = wd.setCell ⟨E, x * 2 + 1, none⟩ (.slice (some ⟨g, 0, none⟩) m cr) := ⟨_, rfl⟩
        have HW2 := Lib.hid hW2
        have SD2 := Lib.hid SD.out
        rw [← hW2] at tcd tfd qcd SD2
        clear SD hW2
        go_wp2_with (rw [← HW2.out])
        go_meet
        refine ⟨L (x * 2), (L (x * 2 + 1)).eraseIdx i, 1, upd V (x * 2 + 1) (.slice (some ⟨g, 0, none⟩) m cr), Lib.hid ?_, Lib.hid ⟨by have := HEL.out; have := HM.out; have := HRN.out; omega, by have := HEL.out; have := HM.out; have := HRN.out; omega, by omega⟩, ?_⟩
        · have h2 := HFJ.out
          unfold leaveL
          rw [if_neg (by rw [← HFI.out]; omega), if_pos (by rw [← h2]; exact c1), ← h2, HFI2.out]
          simp
        · have e1 : upd (upd L (x * 2) (L (x * 2))) (x * 2 + 1) ((L (x * 2 + 1)).eraseIdx i) = upd L (x * 2 + 1) ((L (x * 2 + 1)).eraseIdx i) := by rw [upd_self]
          rw [e1]
          exact SD2.out.waits _
      · have c1' : ¬ (0 : Int) ≤ fj := c1
        go_wp2
        go_ret
        have hl : leaveL (L (x * 2)) (L (x * 2 + 1)) owner = none := by
          unfold leaveL
          rw [if_neg (by rw [← HFI.out]; omega), if_neg (by rw [← HFJ.out]; omega)]
        unfold LvPost
        rw [hl]
        exact ⟨rfl, HBel.out⟩
  case rest =>
    obtain ⟨h1, r1, d, V1, hlv, hlen, hS1⟩ := hcut
    clear S1 BL1 S0 CE HFI HHN HRN EH ER RR HS
    go_wp2_with fail
    go_loopw [] (fun wr => ∃ (h r : List Pl) (o : List Int) (V' : Nat → Value) (gv' : Value), Hid (comeL h1 r1 = ((comeL h r).1, (comeL h r).2.1, o ++ (comeL h r).2.2)) ∧ Hid (h.length + r.length = h1.length + r1.length ∧ o.length + r.length = r1.length) ∧ LvS base w wr T E n Q most ex mode owner ok err V gv (wait - (d : Int) - (o.length : Int)) V' (upd (upd L (x * 2) h) (x * 2 + 1) r) gv' (gl ++ o)) (fun wr => cellLen wr ⟨E, x * 2 + 1, none⟩)
    case atStart => exact ⟨h1, r1, [], V1, gv, Lib.hid (by simp), Lib.hid ⟨rfl, by simp⟩, by simpa using hS1⟩
    case round =>
      obtain ⟨h, r, o, V', gv', hco, hle, hS⟩ := hrel
      clear hS1
      have own0 : OwnP wr base (V' (x * 2)) h := by
        have := hS.tab.own (x * 2) i0
        rwa [upd_ne _ _ (by omega), upd_same] at this
      have own1 : OwnP wr base (V' (x * 2 + 1)) r := by
        have := hS.tab.own (x * 2 + 1) i1
        rwa [upd_same] at this
      obtain ⟨Ah, ch, eh, hGh, hAh⟩ := own0
      obtain ⟨hn, hhn⟩ : ∃ k, k = h.length := ⟨_, rfl⟩
      rw [← hhn] at eh
      have HHN := Lib.hid hhn
      have EH := Lib.hid eh
      have HLE := Lib.hid hle.out
      have c0 : wr.cell? ⟨E, x * 2, none⟩ = some (.slice Ah hn ch) := by rw [hS.tab.cell i0, eh]
      clear eh hhn hle
      cases r with
      | nil =>
        obtain ⟨A1, cr1, er, _, _⟩ := own1
        have c1 : wr.cell? ⟨E, x * 2 + 1, none⟩ = some (.slice A1 0 cr1) := by rw [hS.tab.cell i1, er]; rfl
        have hlv2 := Lib.hid hlv.out
        clear er
        go_wp2
        go_ret
        unfold LvPost
        rw [hlv2.out, hco.out]
        refine ⟨rfl, V', gv', ?_⟩
        simpa [comeL] using hS
      | cons p q =>
        obtain ⟨g, cr, er, hGr, hbg⟩ := own1.pos (by simp)
        obtain ⟨rn, hrn⟩ : ∃ k, k = (p :: q).length := ⟨_, rfl⟩
        rw [← hrn] at er
        have hrp : 0 < rn := by rw [hrn]; simp
        have hrp' : (0 : Int) < (rn : Int) := by omega
        have c1 : wr.cell? ⟨E, x * 2 + 1, none⟩ = some (.slice (some ⟨g, 0, none⟩) rn cr) := by rw [hS.tab.cell i1, er]
        have x1 : wr.cell? ⟨g, 1, none⟩ = some (.int .i64 p.2) := by simpa using rng2 hGr 1 _ rfl
        have gG := Lib.hid (goes_any E (x * 2) Ah ch hn h p.2 wr HHN.out.symm (by have := HHN.out; have := HLE.out; have := hlen.out; omega) c0 hGh.rds)
        have HRN := Lib.hid hrn
        have ER := Lib.hid er
        have HCO := Lib.hid hco.out
        have HS := Lib.hid hS
        have HGH := Lib.hid hGh
        have HGR := Lib.hid hGr
        clear er hrn hco own1 hS hGh hGr c0
        cases hg : goesL h p.2 with
        | false =>
          rw [hg] at gG
          have hcome := Lib.hid (show comeL h (p :: q) = (h, p :: q, []) by rw [comeL, if_neg (by rw [hg]; decide)])
          clear hg
          go_wp2_with fail
          refine gG.out.mono ?_
          rintro e w' ⟨rfl, rfl⟩
          go_wp2
          go_ret
          unfold LvPost
          rw [hlv.out, HCO.out, hcome.out]
          refine ⟨rfl, V', gv', ?_⟩
          simpa using HS.out
        | true =>
          rw [hg] at gG
          have hcome := Lib.hid (show comeL h (p :: q) = ((comeL (h ++ [p]) q).1, (comeL (h ++ [p]) q).2.1, p.1 :: (comeL (h ++ [p]) q).2.2) by rw [comeL, if_pos hg])
          clear hg
          go_wp2_with fail
          refine gG.out.mono ?_
          rintro e w' ⟨rfl, rfl⟩
          clear gG x1
          go_wp2_with fail
          go_cut [] (fun wx => ∃ V2, LvS base w wx T E n Q most ex mode owner ok err V gv (wait - (d : Int) - (o.length : Int)) V2 (upd (upd L (x * 2) (h ++ [p])) (x * 2 + 1) (p :: q)) gv' (gl ++ o))
          case first =>
            have Sa := Lib.hid (HS.out.below (((Below.refl wr.heap.size wr).alloc (Nat.le_refl _) (.cells #[.int .i64 p.1, .int .i64 p.2] 96)).drew))
            have Ga := Lib.hid (show GSl encP 2 96 (wr.alloc (.cells #[.int .i64 p.1, .int .i64 p.2] 96)).drew Ah ch h from HGH.out.chg ((Chg.alloc (fun _ _ => False) wr (.cells #[.int .i64 p.1, .int .i64 p.2] 96)).drew) encP_len fun _ _ _ h => h)
            have Gr := Lib.hid (show GSl encP 2 96 (wr.alloc (.cells #[.int .i64 p.1, .int .i64 p.2] 96)).drew (some ⟨g, 0, none⟩) cr (p :: q) from HGR.out.chg ((Chg.alloc (fun _ _ => False) wr (.cells #[.int .i64 p.1, .int .i64 p.2] 96)).drew) encP_len fun _ _ _ h => h)
            have Rn := Lib.hid (show RdS encP 2 (wr.alloc (.cells #[.int .i64 p.1, .int .i64 p.2] 96)).drew (some ⟨wr.heap.size, 0, none⟩) [p] from (RdS.new1 encP 2 wr 96 p))
            have ch0 : wr.drew.cell? ⟨E, x * 2, none⟩ = some (.slice Ah hn ch) := by show wr.cell? _ = _; rw [HS.out.tab.cell i0, EH.out]
            have ch1 : (wr.alloc (.cells #[.int .i64 p.1, .int .i64 p.2] 96)).drew.cell? ⟨E, x * 2, none⟩ = some (.slice Ah hn ch) := by rw [Sa.out.tab.cell i0, EH.out]
            have SFa := Lib.hid (show (wr.alloc (.cells #[.int .i64 p.1, .int .i64 p.2] 96)).drew.cell? ⟨E, x * 2 + 1, none⟩ = some (.slice (some ⟨g, 0, none⟩) rn cr) ∧ (wr.alloc (.cells #[.int .i64 p.1, .int .i64 p.2] 96)).drew.rangeAt g 0 [.int .i64 p.1, .int .i64 p.2] from ⟨by rw [Sa.out.tab.cell i1, ER.out], rng2 Gr.out⟩)
            have hbd : hn + 1 ≤ 8000000000001 := by have := HHN.out; have := HLE.out; have := hlen.out; omega
            refine wp_region_noPanic ?_
            refine wp_region_held_drew (S := fun w' => w'.cell? ⟨E, x * 2 + 1, none⟩ = some (.slice (some ⟨g, 0, none⟩) rn cr) ∧ w'.rangeAt g 0 [.int .i64 p.1, .int .i64 p.2]) (by kernel_rfl) (⟨c1, rng2 HGR.out⟩) (fun hHeld => ?_)
            refine take_on (i := 0) (some 78) (v := ?vr19) rfl rfl (by kernel_rfl) (by kernel_rfl) (by kernel_rfl) (fun _ _ _ h => h) (by rfl) ?hyr19 (by with_reducible exact hHeld) ?restr19
            case hyr19 => (intro wS hSw; (try dsimp only at hSw); go_simp; try with_reducible rfl)
            try simp only [Act.put, List.setIfInBounds_toArray, List.set_cons_zero, List.set_cons_succ]
            refine take_on (i := 1) (some 79) (v := ?vr20) rfl rfl (by kernel_rfl) (by kernel_rfl) (by kernel_rfl) (fun _ _ _ h => h) (by rfl) ?hyr20 (by with_reducible exact hHeld) ?restr20
            case hyr20 => (intro wS hSw; (try dsimp only at hSw); go_simp; try with_reducible rfl)
            try simp only [Act.put, List.setIfInBounds_toArray, List.set_cons_zero, List.set_cons_succ]
            refine take_on (i := 2) (some 80) (v := ?vr21) rfl rfl (by kernel_rfl) (by kernel_rfl) (by kernel_rfl) (fun _ _ _ h => h) (by rfl) ?hyr21 (by with_reducible exact hHeld) ?restr21
            case hyr21 => (intro wS hSw; (try dsimp only at hSw); go_simp; try with_reducible rfl)
            try simp only [Act.put, List.setIfInBounds_toArray, List.set_cons_zero, List.set_cons_succ]
            refine take_on (i := 3) (some 81) (v := ?vr22) rfl rfl (by kernel_rfl) (by kernel_rfl) (by kernel_rfl) (fun _ _ _ h => h) (by rfl) ?hyr22 (by with_reducible exact hHeld) ?restr22
            case hyr22 => (intro wS hSw; (try dsimp only at hSw); go_simp; try with_reducible rfl)
            try simp only [Act.put, List.setIfInBounds_toArray, List.set_cons_zero, List.set_cons_succ]
            refine take_on (i := 5) (some 83) (v := ?vr23) rfl rfl (by kernel_rfl) (by kernel_rfl) (by kernel_rfl) (fun _ _ _ h => h) (by rfl) ?hyr23 (by with_reducible exact hHeld) ?restr23
            case hyr23 => (intro wS hSw; (try dsimp only at hSw); go_simp; try with_reducible rfl)
            try simp only [Act.put, List.setIfInBounds_toArray, List.set_cons_zero, List.set_cons_succ]
            refine take_on (i := 6) (some 84) (v := ?vr24) rfl rfl (by kernel_rfl) (by kernel_rfl) (by kernel_rfl) (fun _ _ _ h => h) (by rfl) ?hyr24 (by with_reducible exact hHeld) ?restr24
            case hyr24 => (intro wS hSw; (try dsimp only at hSw); go_simp; try with_reducible rfl)
            try simp only [Act.put, List.setIfInBounds_toArray, List.set_cons_zero, List.set_cons_succ]
            refine take_on (i := 7) (some 85) (v := ?vr25) rfl rfl (by kernel_rfl) (by kernel_rfl) (by kernel_rfl) (fun _ _ _ h => h) (by rfl) ?hyr25 (by with_reducible exact hHeld) ?restr25
            case hyr25 => (intro wS hSw; (try dsimp only at hSw); go_simp; try with_reducible rfl)
            try simp only [Act.put, List.setIfInBounds_toArray, List.set_cons_zero, List.set_cons_succ]
            refine take_on (i := 8) (some 86) (v := ?vr26) rfl rfl (by kernel_rfl) (by kernel_rfl) (by kernel_rfl) (fun _ _ _ h => h) (by rfl) ?hyr26 (by with_reducible exact hHeld) ?restr26
            case hyr26 => (intro wS hSw; (try dsimp only at hSw); go_simp; try with_reducible rfl)
            try simp only [Act.put, List.setIfInBounds_toArray, List.set_cons_zero, List.set_cons_succ]
            refine take_on (i := 9) (some 87) (v := ?vr27) rfl rfl (by kernel_rfl) (by kernel_rfl) (by kernel_rfl) (fun _ _ _ h => h) (by rfl) ?hyr27 (by with_reducible exact hHeld) ?restr27
            case hyr27 => (intro wS hSw; (try dsimp only at hSw); go_simp; try with_reducible rfl)
            try simp only [Act.put, List.setIfInBounds_toArray, List.set_cons_zero, List.set_cons_succ]
            refine take_on (i := 10) (some 88) (v := .agg ([.int .i64 p.1, .int .i64 p.2]).toArray) rfl rfl (by kernel_rfl) (by kernel_rfl) (by kernel_rfl) (fun _ _ _ h => h) (by rfl) ?hyr28 (by with_reducible exact hHeld) ?restr28
            case hyr28 => exact fun wS hSw => exec_load_mid _ _ rfl _ _ rfl _ _ (hSw.2) Try.underlying96 rfl (by kernel_rfl)
            try simp only [Act.put, List.setIfInBounds_toArray, List.set_cons_zero, List.set_cons_succ]
            refine wpAnyH_ready (rs := [4, 11]) (by kernel_rfl) (by simp) ?_
            refine AllReadyH.cons rfl (fun K hK => ?_) ?_
            · go_simp
              refine hK.out _ _ (⟨c1, rng2 HGR.out⟩) (fun hHeld => ?_)
              clear hK K
              try simp only [Act.put, List.setIfInBounds_toArray, List.set_cons_zero, List.set_cons_succ]
              refine wpAnyH_ready (rs := [11]) (by kernel_rfl) (by simp) ?_
              refine AllReadyH.cons rfl (fun K hK => ?_) AllReadyH.nil
              go_simp
              refine hK.out _ _ (SFa.out) (fun hHeld => ?_)
              clear hK K
              try simp only [Act.put, List.setIfInBounds_toArray, List.set_cons_zero, List.set_cons_succ]
              refine wpAnyH_ready (rs := [12]) (by kernel_rfl) (by simp) ?_
              refine AllReadyH.cons rfl (fun K hK => ?_) AllReadyH.nil
              refine step_appendG pTy (by decide) encP_len encP_one (by rfl) (.tmp 82) (.tmp 89) (by rfl) Ah ch h (by rw [← HHN.out]; rfl) Ga.out (some ⟨wr.heap.size, 0, none⟩) 1 [p] (by rfl) Rn.out (by rw [← HHN.out]; simp only [maxLen, List.length_singleton]; omega) (by rw [← HHN.out]; simp only [List.length_singleton]; omega) ?_
              intro A' c' w2 h4 k4 q4
              have hFk : ∀ k j, slFp 2 Ah h.length ch k j → (V' (x * 2)).ownBlock = some k := fun k j hf => by rw [EH.out]; exact slFp_own hf (by rcases hAh with h | ⟨g, h, _⟩; exact .inl h; exact .inr ⟨g, h⟩)
              have ex2 := k4.blk Sa.out.tab.ex fun j hf => by obtain ⟨_, cs, hb⟩ := (Sa.out.tab.own (x * 2) i0).blk (hFk _ _ hf); exact blk_type_ne hb Sa.out.tab.ex (by decide) rfl
              have gr2 := Gr.out.chg k4 encP_len fun g' j hs hf => by
                obtain ⟨_, e, _⟩ := hs
                cases e
                exact Sa.out.tab.sep (x * 2) (x * 2 + 1) i0 i1 (by omega) g (hFk _ _ hf) (by rw [ER.out]; rfl)
              have SF2 := Lib.hid (show w2.cell? ⟨E, x * 2 + 1, none⟩ = some (.slice (some ⟨g, 0, none⟩) rn cr) ∧ w2.rangeAt g 0 [.int .i64 p.1, .int .i64 p.2] from ⟨by rw [ex_at ex2 i1, ER.out], rng2 gr2⟩)
              have ca2 : w2.cell? ⟨E, x * 2, none⟩ = some (.slice Ah hn ch) := by rw [ex_at ex2 i0, EH.out]
              have fa2 := ex2.frozen (x * 2)
              have hlp : (h ++ [p]).length = hn + 1 := by rw [List.length_append, HHN.out]; rfl
              have ho2 : OwnP w2 base (.slice A' (h ++ [p]).length c') (h ++ [p]) := ⟨A', c', rfl, h4, by
                rcases q4 with ⟨e1, _⟩ | ⟨g', e1, hg'⟩
                · rw [e1]; exact hAh
                · refine .inr ⟨g', e1, ?_⟩
                  have h5 := HS.out.tab.fpLt (k := E) (.inr (.inl rfl))
                  have h6 : wr.heap.size ≤ g' := Nat.le_trans (by simp [World.drew]) hg'
                  omega⟩
              have SP := Sa.out.put i0 k4 hFk ho2 (fun k e => by
                rcases q4 with ⟨e1, _⟩ | ⟨g', e1, hg'⟩
                · subst e1
                  left
                  rw [EH.out]
                  rcases hAh with e2 | ⟨g2, e2, _⟩
                  · subst e2; cases e
                  · subst e2; exact e
                · subst e1
                  cases e
                  exact .inr hg')
              rw [hlp] at SP ⊢
              have eL : upd (upd (upd L (x * 2) h) (x * 2 + 1) (p :: q)) (x * 2) (h ++ [p]) = upd (upd L (x * 2) (h ++ [p])) (x * 2 + 1) (p :: q) := by rw [upd_comm _ _ _ (show x * 2 + 1 ≠ x * 2 by omega), upd_upd]
              rw [eL] at SP
              have HSP := Lib.hid SP
              have ex3 := HSP.out.tab.ex
              have SF3 := Lib.hid (show (w2.setCell ⟨E, x * 2, none⟩ (.slice A' (hn + 1) c')).cell? ⟨E, x * 2 + 1, none⟩ = some (.slice (some ⟨g, 0, none⟩) rn cr) ∧ (w2.setCell ⟨E, x * 2, none⟩ (.slice A' (hn + 1) c')).rangeAt g 0 [.int .i64 p.1, .int .i64 p.2] from ⟨by rw [ex_at ex3 i1, upd_ne _ _ (by omega), ER.out], fun j v hv => by
                have hgE : g ≠ E := by obtain ⟨_, cs, hb⟩ := (Sa.out.tab.own (x * 2 + 1) i1).blk (g := g) (by rw [ER.out]; rfl); exact blk_type_ne hb Sa.out.tab.ex (by decide)
                have := rng2 gr2 j v hv
                exact (World.cell?_setCell_other _ _ _ _ (fun e => hgE (congrArg Addr.block e).symm)).trans this⟩)
              clear h4 k4 q4 hFk ex2 gr2 ho2 SP hlp eL ex3
              refine hK.out _ _ SF2.out (fun hHeld => ?_)
              clear hK K
              try simp only [Act.put, List.setIfInBounds_toArray, List.set_cons_zero, List.set_cons_succ]
              refine take_on (i := 13) (some 91) (v := ?vr29) rfl rfl (by kernel_rfl) (by kernel_rfl) (by kernel_rfl) (fun _ _ _ h => h) (by rfl) ?hyr29 (by with_reducible exact hHeld) ?restr29
              case hyr29 => (intro wS hSw; (try dsimp only at hSw); go_simp; try with_reducible rfl)
              try simp only [Act.put, List.setIfInBounds_toArray, List.set_cons_zero, List.set_cons_succ]
              refine take_on (i := 14) (some 92) (v := ?vr30) rfl rfl (by kernel_rfl) (by kernel_rfl) (by kernel_rfl) (fun _ _ _ h => h) (by rfl) ?hyr30 (by with_reducible exact hHeld) ?restr30
              case hyr30 => (intro wS hSw; (try dsimp only at hSw); go_simp; try with_reducible rfl)
              try simp only [Act.put, List.setIfInBounds_toArray, List.set_cons_zero, List.set_cons_succ]
              refine wpAnyH_ready (rs := [15]) (by kernel_rfl) (by simp) ?_
              refine AllReadyH.cons rfl (fun K hK => ?_) AllReadyH.nil
              go_simp
              refine hK.out _ _ (SF3.out) (fun hHeld => ?_)
              clear hK K
              try simp only [Act.put, List.setIfInBounds_toArray, List.set_cons_zero, List.set_cons_succ]
              refine wpAnyH_done (by kernel_rfl) ?_ _
              refine NoPanic.normal ?_
              go_wp2
              go_meet
              exact ⟨_, HSP.out⟩
            · refine AllReadyH.cons rfl (fun K hK => ?_) AllReadyH.nil
              go_simp
              refine hK.out _ _ (SFa.out) (fun hHeld => ?_)
              clear hK K
              try simp only [Act.put, List.setIfInBounds_toArray, List.set_cons_zero, List.set_cons_succ]
              refine wpAnyH_ready (rs := [4]) (by kernel_rfl) (by simp) ?_
              refine AllReadyH.cons rfl (fun K hK => ?_) AllReadyH.nil
              go_simp
              refine hK.out _ _ (SFa.out) (fun hHeld => ?_)
              clear hK K
              try simp only [Act.put, List.setIfInBounds_toArray, List.set_cons_zero, List.set_cons_succ]
              refine wpAnyH_ready (rs := [12]) (by kernel_rfl) (by simp) ?_
              refine AllReadyH.cons rfl (fun K hK => ?_) AllReadyH.nil
              refine step_appendG pTy (by decide) encP_len encP_one (by rfl) (.tmp 82) (.tmp 89) (by rfl) Ah ch h (by rw [← HHN.out]; rfl) Ga.out (some ⟨wr.heap.size, 0, none⟩) 1 [p] (by rfl) Rn.out (by rw [← HHN.out]; simp only [maxLen, List.length_singleton]; omega) (by rw [← HHN.out]; simp only [List.length_singleton]; omega) ?_
              intro A' c' w2 h4 k4 q4
              have hFk : ∀ k j, slFp 2 Ah h.length ch k j → (V' (x * 2)).ownBlock = some k := fun k j hf => by rw [EH.out]; exact slFp_own hf (by rcases hAh with h | ⟨g, h, _⟩; exact .inl h; exact .inr ⟨g, h⟩)
              have ex2 := k4.blk Sa.out.tab.ex fun j hf => by obtain ⟨_, cs, hb⟩ := (Sa.out.tab.own (x * 2) i0).blk (hFk _ _ hf); exact blk_type_ne hb Sa.out.tab.ex (by decide) rfl
              have gr2 := Gr.out.chg k4 encP_len fun g' j hs hf => by
                obtain ⟨_, e, _⟩ := hs
                cases e
                exact Sa.out.tab.sep (x * 2) (x * 2 + 1) i0 i1 (by omega) g (hFk _ _ hf) (by rw [ER.out]; rfl)
              have SF2 := Lib.hid (show w2.cell? ⟨E, x * 2 + 1, none⟩ = some (.slice (some ⟨g, 0, none⟩) rn cr) ∧ w2.rangeAt g 0 [.int .i64 p.1, .int .i64 p.2] from ⟨by rw [ex_at ex2 i1, ER.out], rng2 gr2⟩)
              have ca2 : w2.cell? ⟨E, x * 2, none⟩ = some (.slice Ah hn ch) := by rw [ex_at ex2 i0, EH.out]
              have fa2 := ex2.frozen (x * 2)
              have hlp : (h ++ [p]).length = hn + 1 := by rw [List.length_append, HHN.out]; rfl
              have ho2 : OwnP w2 base (.slice A' (h ++ [p]).length c') (h ++ [p]) := ⟨A', c', rfl, h4, by
                rcases q4 with ⟨e1, _⟩ | ⟨g', e1, hg'⟩
                · rw [e1]; exact hAh
                · refine .inr ⟨g', e1, ?_⟩
                  have h5 := HS.out.tab.fpLt (k := E) (.inr (.inl rfl))
                  have h6 : wr.heap.size ≤ g' := Nat.le_trans (by simp [World.drew]) hg'
                  omega⟩
              have SP := Sa.out.put i0 k4 hFk ho2 (fun k e => by
                rcases q4 with ⟨e1, _⟩ | ⟨g', e1, hg'⟩
                · subst e1
                  left
                  rw [EH.out]
                  rcases hAh with e2 | ⟨g2, e2, _⟩
                  · subst e2; cases e
                  · subst e2; exact e
                · subst e1
                  cases e
                  exact .inr hg')
              rw [hlp] at SP ⊢
              have eL : upd (upd (upd L (x * 2) h) (x * 2 + 1) (p :: q)) (x * 2) (h ++ [p]) = upd (upd L (x * 2) (h ++ [p])) (x * 2 + 1) (p :: q) := by rw [upd_comm _ _ _ (show x * 2 + 1 ≠ x * 2 by omega), upd_upd]
              rw [eL] at SP
              have HSP := Lib.hid SP
              have ex3 := HSP.out.tab.ex
              have SF3 := Lib.hid (show (w2.setCell ⟨E, x * 2, none⟩ (.slice A' (hn + 1) c')).cell? ⟨E, x * 2 + 1, none⟩ = some (.slice (some ⟨g, 0, none⟩) rn cr) ∧ (w2.setCell ⟨E, x * 2, none⟩ (.slice A' (hn + 1) c')).rangeAt g 0 [.int .i64 p.1, .int .i64 p.2] from ⟨by rw [ex_at ex3 i1, upd_ne _ _ (by omega), ER.out], fun j v hv => by
                have hgE : g ≠ E := by obtain ⟨_, cs, hb⟩ := (Sa.out.tab.own (x * 2 + 1) i1).blk (g := g) (by rw [ER.out]; rfl); exact blk_type_ne hb Sa.out.tab.ex (by decide)
                have := rng2 gr2 j v hv
                exact (World.cell?_setCell_other _ _ _ _ (fun e => hgE (congrArg Addr.block e).symm)).trans this⟩)
              clear h4 k4 q4 hFk ex2 gr2 ho2 SP hlp eL ex3
              refine hK.out _ _ SF2.out (fun hHeld => ?_)
              clear hK K
              try simp only [Act.put, List.setIfInBounds_toArray, List.set_cons_zero, List.set_cons_succ]
              refine take_on (i := 13) (some 91) (v := ?vr31) rfl rfl (by kernel_rfl) (by kernel_rfl) (by kernel_rfl) (fun _ _ _ h => h) (by rfl) ?hyr31 (by with_reducible exact hHeld) ?restr31
              case hyr31 => (intro wS hSw; (try dsimp only at hSw); go_simp; try with_reducible rfl)
              try simp only [Act.put, List.setIfInBounds_toArray, List.set_cons_zero, List.set_cons_succ]
              refine take_on (i := 14) (some 92) (v := ?vr32) rfl rfl (by kernel_rfl) (by kernel_rfl) (by kernel_rfl) (fun _ _ _ h => h) (by rfl) ?hyr32 (by with_reducible exact hHeld) ?restr32
              case hyr32 => (intro wS hSw; (try dsimp only at hSw); go_simp; try with_reducible rfl)
              try simp only [Act.put, List.setIfInBounds_toArray, List.set_cons_zero, List.set_cons_succ]
              refine wpAnyH_ready (rs := [15]) (by kernel_rfl) (by simp) ?_
              refine AllReadyH.cons rfl (fun K hK => ?_) AllReadyH.nil
              go_simp
              refine hK.out _ _ (SF3.out) (fun hHeld => ?_)
              clear hK K
              try simp only [Act.put, List.setIfInBounds_toArray, List.set_cons_zero, List.set_cons_succ]
              refine wpAnyH_done (by kernel_rfl) ?_ _
              refine NoPanic.normal ?_
              go_wp2
              go_meet
              exact ⟨_, HSP.out⟩
          case rest =>
            obtain ⟨V2, hS2⟩ := hcut
            have c1r := c1
            clear HS HGH HGR EH ER hAh c1
            have own1 : OwnP wc base (V2 (x * 2 + 1)) (p :: q) := by
              have := hS2.tab.own (x * 2 + 1) i1
              rwa [upd_same] at this
            obtain ⟨g2, cr2, er2, hGr2, hbg2⟩ := own1.pos (by simp)
            obtain ⟨r2, hr2⟩ : ∃ k, k = (p :: q).length := ⟨_, rfl⟩
            rw [← hr2] at er2
            obtain ⟨Ag, cg, eg, hGg, hAg⟩ := hS2.own
            obtain ⟨gn, hgn⟩ : ∃ k, k = (gl ++ o).length := ⟨_, rfl⟩
            rw [← hgn] at eg
            subst eg
            have HR2 := Lib.hid hr2
            have HGN := Lib.hid hgn
            have HS2 := Lib.hid hS2
            have HG2 := Lib.hid hGr2
            have HGg := Lib.hid hGg
            have ER2 := Lib.hid er2
            clear own1 er2 hr2 hgn hS2 hGr2 hGg
            go_wp2_with fail
            go_cut [] (fun wx => ∃ gv3, LvS base w wx T E n Q most ex mode owner ok err V gv (wait - (d : Int) - (o.length : Int)) V2 (upd (upd L (x * 2) (h ++ [p])) (x * 2 + 1) (p :: q)) gv3 (gl ++ o ++ [p.1]))
            case first =>
              have hr2q : 0 < r2 := by have := HR2.out; simp at this; omega
              have hr2p : (0 : Int) < (r2 : Int) := by have := HR2.out; simp at this; omega
              have Sa := Lib.hid (HS2.out.below (((Below.refl wc.heap.size wc).alloc (Nat.le_refl _) (.cells #[.int .i64 p.1] 3)).drew))
              have Gg := Lib.hid (show GSl enc1 1 3 (wc.alloc (.cells #[.int .i64 p.1] 3)).drew Ag cg (gl ++ o) from HGg.out.chg ((Chg.alloc (fun _ _ => False) wc (.cells #[.int .i64 p.1] 3)).drew) enc1_len fun _ _ _ h => h)
              have Gr := Lib.hid (show GSl encP 2 96 (wc.alloc (.cells #[.int .i64 p.1] 3)).drew (some ⟨g2, 0, none⟩) cr2 (p :: q) from HG2.out.chg ((Chg.alloc (fun _ _ => False) wc (.cells #[.int .i64 p.1] 3)).drew) encP_len fun _ _ _ h => h)
              have Rn := Lib.hid (show RdS enc1 1 (wc.alloc (.cells #[.int .i64 p.1] 3)).drew (some ⟨wc.heap.size, 0, none⟩) [p.1] from (RdS.new1 enc1 1 wc 3 p.1))
              have cq0 : wc.drew.cell? ⟨Q, 4, none⟩ = some (.slice Ag gn cg) := HS2.out.req.cell 4
              have cq1 : (wc.alloc (.cells #[.int .i64 p.1] 3)).drew.cell? ⟨Q, 4, none⟩ = some (.slice Ag gn cg) := Sa.out.req.cell 4
              have SF0 := Lib.hid (show wc.drew.cell? ⟨E, x * 2 + 1, none⟩ = some (.slice (some ⟨g2, 0, none⟩) r2 cr2) ∧ wc.drew.cell? ⟨g2, 0, none⟩ = some (.int .i64 p.1) from ⟨by show wc.cell? _ = _; rw [HS2.out.tab.cell i1, ER2.out], by simpa using rng2 HG2.out 0 _ rfl⟩)
              have SFa := Lib.hid (show (wc.alloc (.cells #[.int .i64 p.1] 3)).drew.cell? ⟨E, x * 2 + 1, none⟩ = some (.slice (some ⟨g2, 0, none⟩) r2 cr2) ∧ (wc.alloc (.cells #[.int .i64 p.1] 3)).drew.cell? ⟨g2, 0, none⟩ = some (.int .i64 p.1) from ⟨by rw [Sa.out.tab.cell i1, ER2.out], by simpa using rng2 Gr.out 0 _ rfl⟩)
              have hbd : gn + 1 ≤ 8000001000001 := by have a1 := HGN.out; rw [List.length_append] at a1; have h2 := HLE.out; have h3 := hlen.out; simp at h2; omega
              refine wp_region_noPanic ?_
              refine wp_region_held_drew (S := fun w' => w'.cell? ⟨E, x * 2 + 1, none⟩ = some (.slice (some ⟨g2, 0, none⟩) r2 cr2) ∧ w'.cell? ⟨g2, 0, none⟩ = some (.int .i64 p.1)) (by kernel_rfl) (SF0.out) (fun hHeld => ?_)
              refine take_on (i := 0) (some 93) (v := ?vr33) rfl rfl (by kernel_rfl) (by kernel_rfl) (by kernel_rfl) (fun _ _ _ h => h) (by rfl) ?hyr33 (by with_reducible exact hHeld) ?restr33
              case hyr33 => (intro wS hSw; (try dsimp only at hSw); go_simp; try with_reducible rfl)
              try simp only [Act.put, List.setIfInBounds_toArray, List.set_cons_zero, List.set_cons_succ]
              refine take_on (i := 1) (some 94) (v := ?vr34) rfl rfl (by kernel_rfl) (by kernel_rfl) (by kernel_rfl) (fun _ _ _ h => h) (by rfl) ?hyr34 (by with_reducible exact hHeld) ?restr34
              case hyr34 => (intro wS hSw; (try dsimp only at hSw); go_simp; try with_reducible rfl)
              try simp only [Act.put, List.setIfInBounds_toArray, List.set_cons_zero, List.set_cons_succ]
              refine take_on (i := 2) (some 95) (v := ?vr35) rfl rfl (by kernel_rfl) (by kernel_rfl) (by kernel_rfl) (fun _ _ _ h => h) (by rfl) ?hyr35 (by with_reducible exact hHeld) ?restr35
              case hyr35 => (intro wS hSw; (try dsimp only at hSw); go_simp; try with_reducible rfl)
              try simp only [Act.put, List.setIfInBounds_toArray, List.set_cons_zero, List.set_cons_succ]
              refine take_on (i := 3) (some 96) (v := ?vr36) rfl rfl (by kernel_rfl) (by kernel_rfl) (by kernel_rfl) (fun _ _ _ h => h) (by rfl) ?hyr36 (by with_reducible exact hHeld) ?restr36
              case hyr36 => (intro wS hSw; (try dsimp only at hSw); go_simp; try with_reducible rfl)
              try simp only [Act.put, List.setIfInBounds_toArray, List.set_cons_zero, List.set_cons_succ]
              refine take_on (i := 5) (some 98) (v := ?vr37) rfl rfl (by kernel_rfl) (by kernel_rfl) (by kernel_rfl) (fun _ _ _ h => h) (by rfl) ?hyr37 (by with_reducible exact hHeld) ?restr37
              case hyr37 => (intro wS hSw; (try dsimp only at hSw); go_simp; try with_reducible rfl)
              try simp only [Act.put, List.setIfInBounds_toArray, List.set_cons_zero, List.set_cons_succ]
              refine take_on (i := 6) (some 99) (v := ?vr38) rfl rfl (by kernel_rfl) (by kernel_rfl) (by kernel_rfl) (fun _ _ _ h => h) (by rfl) ?hyr38 (by with_reducible exact hHeld) ?restr38
              case hyr38 => (intro wS hSw; (try dsimp only at hSw); go_simp; try with_reducible rfl)
              try simp only [Act.put, List.setIfInBounds_toArray, List.set_cons_zero, List.set_cons_succ]
              refine take_on (i := 7) (some 100) (v := ?vr39) rfl rfl (by kernel_rfl) (by kernel_rfl) (by kernel_rfl) (fun _ _ _ h => h) (by rfl) ?hyr39 (by with_reducible exact hHeld) ?restr39
              case hyr39 => (intro wS hSw; (try dsimp only at hSw); go_simp; try with_reducible rfl)
              try simp only [Act.put, List.setIfInBounds_toArray, List.set_cons_zero, List.set_cons_succ]
              refine take_on (i := 8) (some 101) (v := ?vr40) rfl rfl (by kernel_rfl) (by kernel_rfl) (by kernel_rfl) (fun _ _ _ h => h) (by rfl) ?hyr40 (by with_reducible exact hHeld) ?restr40
              case hyr40 => (intro wS hSw; (try dsimp only at hSw); go_simp; try with_reducible rfl)
              try simp only [Act.put, List.setIfInBounds_toArray, List.set_cons_zero, List.set_cons_succ]
              refine take_on (i := 9) (some 102) (v := ?vr41) rfl rfl (by kernel_rfl) (by kernel_rfl) (by kernel_rfl) (fun _ _ _ h => h) (by rfl) ?hyr41 (by with_reducible exact hHeld) ?restr41
              case hyr41 => (intro wS hSw; (try dsimp only at hSw); go_simp; try with_reducible rfl)
              try simp only [Act.put, List.setIfInBounds_toArray, List.set_cons_zero, List.set_cons_succ]
              refine take_on (i := 10) (some 103) (v := ?vr42) rfl rfl (by kernel_rfl) (by kernel_rfl) (by kernel_rfl) (fun _ _ _ h => h) (by rfl) ?hyr42 (by with_reducible exact hHeld) ?restr42
              case hyr42 => (intro wS hSw; (try dsimp only at hSw); go_simp; try with_reducible rfl)
              try simp only [Act.put, List.setIfInBounds_toArray, List.set_cons_zero, List.set_cons_succ]
              refine take_on (i := 11) (some 104) (v := ?vr43) rfl rfl (by kernel_rfl) (by kernel_rfl) (by kernel_rfl) (fun _ _ _ h => h) (by rfl) ?hyr43 (by with_reducible exact hHeld) ?restr43
              case hyr43 => (intro wS hSw; (try dsimp only at hSw); go_simp; try with_reducible rfl)
              try simp only [Act.put, List.setIfInBounds_toArray, List.set_cons_zero, List.set_cons_succ]
              refine wpAnyH_ready (rs := [4, 12]) (by kernel_rfl) (by simp) ?_
              refine AllReadyH.cons rfl (fun K hK => ?_) ?_
              · go_simp
                refine hK.out _ _ (SF0.out) (fun hHeld => ?_)
                clear hK K
                try simp only [Act.put, List.setIfInBounds_toArray, List.set_cons_zero, List.set_cons_succ]
                refine wpAnyH_ready (rs := [12]) (by kernel_rfl) (by simp) ?_
                refine AllReadyH.cons rfl (fun K hK => ?_) AllReadyH.nil
                go_simp
                refine hK.out _ _ (SFa.out) (fun hHeld => ?_)
                clear hK K
                try simp only [Act.put, List.setIfInBounds_toArray, List.set_cons_zero, List.set_cons_succ]
                refine wpAnyH_ready (rs := [13]) (by kernel_rfl) (by simp) ?_
                refine AllReadyH.cons rfl (fun K hK => ?_) AllReadyH.nil
                refine step_appendG intTy (by decide) enc1_len enc1_one (by rfl) (.tmp 97) (.tmp 105) (by rfl) Ag cg (gl ++ o) (by rw [← HGN.out]; rfl) Gg.out (some ⟨wc.heap.size, 0, none⟩) 1 [p.1] (by rfl) Rn.out (by rw [← HGN.out]; simp only [maxLen, List.length_singleton]; omega) (by rw [← HGN.out]; simp only [List.length_singleton]; omega) ?_
                intro A' c' w2 h4 k4 q4
                have hFk : ∀ k j, slFp 1 Ag (gl ++ o).length cg k j → (Value.slice Ag gn cg).ownBlock = some k := fun k j hf => by
                  obtain ⟨o', e, _⟩ := hf
                  rcases hAg with h | ⟨g, h, _⟩
                  · subst h; cases e
                  · subst h; cases e; rfl
                have hib : ∀ k j, slFp 1 Ag (gl ++ o).length cg k j → ∃ cs, Blk (wc.alloc (.cells #[.int .i64 p.1] 3)).drew k 3 cs := fun k j hf => (Sa.out.own.blk (hFk k j hf)).2
                have ex2 := k4.blk Sa.out.tab.ex fun j hf => by obtain ⟨cs, hb⟩ := hib _ _ hf; exact blk_type_ne hb Sa.out.tab.ex (by decide) rfl
                have rq2 := k4.blk Sa.out.req fun j hf => by obtain ⟨cs, hb⟩ := hib _ _ hf; exact blk_type_ne hb Sa.out.req (by decide) rfl
                have gr2 := Gr.out.chg k4 encP_len fun g' j hs hf => by
                  obtain ⟨_, e, _⟩ := hs
                  cases e
                  obtain ⟨cs, hb⟩ := hib _ _ hf
                  obtain ⟨_, cs2, hb2⟩ := (Sa.out.tab.own (x * 2 + 1) i1).blk (g := g2) (by rw [ER2.out]; rfl)
                  exact blk_type_ne hb hb2 (by decide) rfl
                have SF2 := Lib.hid (show w2.cell? ⟨E, x * 2 + 1, none⟩ = some (.slice (some ⟨g2, 0, none⟩) r2 cr2) ∧ w2.cell? ⟨g2, 0, none⟩ = some (.int .i64 p.1) from ⟨by rw [ex_at ex2 i1, ER2.out], by simpa using rng2 gr2 0 _ rfl⟩)
                have cq2 : w2.cell? ⟨Q, 4, none⟩ = some (.slice Ag gn cg) := rq2.cell 4
                have fq2 := rq2.frozen 4
                have hlp : (gl ++ o ++ [p.1]).length = gn + 1 := by rw [List.length_append, HGN.out]; rfl
                have ho2 : OwnI w2 base (.slice A' (gl ++ o ++ [p.1]).length c') (gl ++ o ++ [p.1]) := ⟨A', c', rfl, h4, by
                  rcases q4 with ⟨e1, _⟩ | ⟨g', e1, hg'⟩
                  · rw [e1]; exact hAg
                  · refine .inr ⟨g', e1, ?_⟩
                    have h5 := HS2.out.tab.fpLt (k := E) (.inr (.inl rfl))
                    have h6 : wc.heap.size ≤ g' := Nat.le_trans (by simp [World.drew]) hg'
                    omega⟩
                have SP := Sa.out.gput k4 hFk ho2 (fun k e => by
                  rcases q4 with ⟨e1, _⟩ | ⟨g', e1, hg'⟩
                  · subst e1
                    left
                    rcases hAg with e2 | ⟨g2, e2, _⟩
                    · subst e2; cases e
                    · subst e2; exact e
                  · subst e1
                    cases e
                    exact .inr hg')
                rw [hlp] at SP ⊢
                have HSP := Lib.hid SP
                have SF3 := Lib.hid (show (w2.setCell ⟨Q, 4, none⟩ (.slice A' (gn + 1) c')).cell? ⟨E, x * 2 + 1, none⟩ = some (.slice (some ⟨g2, 0, none⟩) r2 cr2) ∧ (w2.setCell ⟨Q, 4, none⟩ (.slice A' (gn + 1) c')).cell? ⟨g2, 0, none⟩ = some (.int .i64 p.1) from ⟨by rw [ex_at HSP.out.tab.ex i1, ER2.out], by
                  have hgQ : g2 ≠ Q := by obtain ⟨_, cs, hb⟩ := (Sa.out.tab.own (x * 2 + 1) i1).blk (g := g2) (by rw [ER2.out]; rfl); exact blk_type_ne hb Sa.out.req (by decide)
                  exact (World.cell?_setCell_other _ _ _ _ (fun e => hgQ (congrArg Addr.block e).symm)).trans SF2.out.2⟩)
                clear h4 k4 q4 hFk hib ex2 rq2 gr2 ho2 SP hlp
                refine hK.out _ _ SF2.out (fun hHeld => ?_)
                clear hK K
                try simp only [Act.put, List.setIfInBounds_toArray, List.set_cons_zero, List.set_cons_succ]
                refine take_on (i := 14) (some 107) (v := ?vr44) rfl rfl (by kernel_rfl) (by kernel_rfl) (by kernel_rfl) (fun _ _ _ h => h) (by rfl) ?hyr44 (by with_reducible exact hHeld) ?restr44
                case hyr44 => (intro wS hSw; (try dsimp only at hSw); go_simp; try with_reducible rfl)
                try simp only [Act.put, List.setIfInBounds_toArray, List.set_cons_zero, List.set_cons_succ]
                refine take_on (i := 15) (some 108) (v := ?vr45) rfl rfl (by kernel_rfl) (by kernel_rfl) (by kernel_rfl) (fun _ _ _ h => h) (by rfl) ?hyr45 (by with_reducible exact hHeld) ?restr45
                case hyr45 => (intro wS hSw; (try dsimp only at hSw); go_simp; try with_reducible rfl)
                try simp only [Act.put, List.setIfInBounds_toArray, List.set_cons_zero, List.set_cons_succ]
                refine wpAnyH_ready (rs := [16]) (by kernel_rfl) (by simp) ?_
                refine AllReadyH.cons rfl (fun K hK => ?_) AllReadyH.nil
                go_simp
                refine hK.out _ _ (SF3.out) (fun hHeld => ?_)
                clear hK K
                try simp only [Act.put, List.setIfInBounds_toArray, List.set_cons_zero, List.set_cons_succ]
                refine wpAnyH_done (by kernel_rfl) ?_ _
                refine NoPanic.normal ?_
                go_wp2
                go_meet
                exact ⟨_, HSP.out⟩
              · refine AllReadyH.cons rfl (fun K hK => ?_) AllReadyH.nil
                go_simp
                refine hK.out _ _ (SFa.out) (fun hHeld => ?_)
                clear hK K
                try simp only [Act.put, List.setIfInBounds_toArray, List.set_cons_zero, List.set_cons_succ]
                refine wpAnyH_ready (rs := [4]) (by kernel_rfl) (by simp) ?_
                refine AllReadyH.cons rfl (fun K hK => ?_) AllReadyH.nil
                go_simp
                refine hK.out _ _ (SFa.out) (fun hHeld => ?_)
                clear hK K
                try simp only [Act.put, List.setIfInBounds_toArray, List.set_cons_zero, List.set_cons_succ]
                refine wpAnyH_ready (rs := [13]) (by kernel_rfl) (by simp) ?_
                refine AllReadyH.cons rfl (fun K hK => ?_) AllReadyH.nil
                refine step_appendG intTy (by decide) enc1_len enc1_one (by rfl) (.tmp 97) (.tmp 105) (by rfl) Ag cg (gl ++ o) (by rw [← HGN.out]; rfl) Gg.out (some ⟨wc.heap.size, 0, none⟩) 1 [p.1] (by rfl) Rn.out (by rw [← HGN.out]; simp only [maxLen, List.length_singleton]; omega) (by rw [← HGN.out]; simp only [List.length_singleton]; omega) ?_
                intro A' c' w2 h4 k4 q4
                have hFk : ∀ k j, slFp 1 Ag (gl ++ o).length cg k j → (Value.slice Ag gn cg).ownBlock = some k := fun k j hf => by
                  obtain ⟨o', e, _⟩ := hf
                  rcases hAg with h | ⟨g, h, _⟩
                  · subst h; cases e
                  · subst h; cases e; rfl
                have hib : ∀ k j, slFp 1 Ag (gl ++ o).length cg k j → ∃ cs, Blk (wc.alloc (.cells #[.int .i64 p.1] 3)).drew k 3 cs := fun k j hf => (Sa.out.own.blk (hFk k j hf)).2
                have ex2 := k4.blk Sa.out.tab.ex fun j hf => by obtain ⟨cs, hb⟩ := hib _ _ hf; exact blk_type_ne hb Sa.out.tab.ex (by decide) rfl
                have rq2 := k4.blk Sa.out.req fun j hf => by obtain ⟨cs, hb⟩ := hib _ _ hf; exact blk_type_ne hb Sa.out.req (by decide) rfl
                have gr2 := Gr.out.chg k4 encP_len fun g' j hs hf => by
                  obtain ⟨_, e, _⟩ := hs
                  cases e
                  obtain ⟨cs, hb⟩ := hib _ _ hf
                  obtain ⟨_, cs2, hb2⟩ := (Sa.out.tab.own (x * 2 + 1) i1).blk (g := g2) (by rw [ER2.out]; rfl)
                  exact blk_type_ne hb hb2 (by decide) rfl
                have SF2 := Lib.hid (show w2.cell? ⟨E, x * 2 + 1, none⟩ = some (.slice (some ⟨g2, 0, none⟩) r2 cr2) ∧ w2.cell? ⟨g2, 0, none⟩ = some (.int .i64 p.1) from ⟨by rw [ex_at ex2 i1, ER2.out], by simpa using rng2 gr2 0 _ rfl⟩)
                have cq2 : w2.cell? ⟨Q, 4, none⟩ = some (.slice Ag gn cg) := rq2.cell 4
                have fq2 := rq2.frozen 4
                have hlp : (gl ++ o ++ [p.1]).length = gn + 1 := by rw [List.length_append, HGN.out]; rfl
                have ho2 : OwnI w2 base (.slice A' (gl ++ o ++ [p.1]).length c') (gl ++ o ++ [p.1]) := ⟨A', c', rfl, h4, by
                  rcases q4 with ⟨e1, _⟩ | ⟨g', e1, hg'⟩
                  · rw [e1]; exact hAg
                  · refine .inr ⟨g', e1, ?_⟩
                    have h5 := HS2.out.tab.fpLt (k := E) (.inr (.inl rfl))
                    have h6 : wc.heap.size ≤ g' := Nat.le_trans (by simp [World.drew]) hg'
                    omega⟩
                have SP := Sa.out.gput k4 hFk ho2 (fun k e => by
                  rcases q4 with ⟨e1, _⟩ | ⟨g', e1, hg'⟩
                  · subst e1
                    left
                    rcases hAg with e2 | ⟨g2, e2, _⟩
                    · subst e2; cases e
                    · subst e2; exact e
                  · subst e1
                    cases e
                    exact .inr hg')
                rw [hlp] at SP ⊢
                have HSP := Lib.hid SP
                have SF3 := Lib.hid (show (w2.setCell ⟨Q, 4, none⟩ (.slice A' (gn + 1) c')).cell? ⟨E, x * 2 + 1, none⟩ = some (.slice (some ⟨g2, 0, none⟩) r2 cr2) ∧ (w2.setCell ⟨Q, 4, none⟩ (.slice A' (gn + 1) c')).cell? ⟨g2, 0, none⟩ = some (.int .i64 p.1) from ⟨by rw [ex_at HSP.out.tab.ex i1, ER2.out], by
                  have hgQ : g2 ≠ Q := by obtain ⟨_, cs, hb⟩ := (Sa.out.tab.own (x * 2 + 1) i1).blk (g := g2) (by rw [ER2.out]; rfl); exact blk_type_ne hb Sa.out.req (by decide)
                  exact (World.cell?_setCell_other _ _ _ _ (fun e => hgQ (congrArg Addr.block e).symm)).trans SF2.out.2⟩)
                clear h4 k4 q4 hFk hib ex2 rq2 gr2 ho2 SP hlp
                refine hK.out _ _ SF2.out (fun hHeld => ?_)
                clear hK K
                try simp only [Act.put, List.setIfInBounds_toArray, List.set_cons_zero, List.set_cons_succ]
                refine take_on (i := 14) (some 107) (v := ?vr46) rfl rfl (by kernel_rfl) (by kernel_rfl) (by kernel_rfl) (fun _ _ _ h => h) (by rfl) ?hyr46 (by with_reducible exact hHeld) ?restr46
                case hyr46 => (intro wS hSw; (try dsimp only at hSw); go_simp; try with_reducible rfl)
                try simp only [Act.put, List.setIfInBounds_toArray, List.set_cons_zero, List.set_cons_succ]
                refine take_on (i := 15) (some 108) (v := ?vr47) rfl rfl (by kernel_rfl) (by kernel_rfl) (by kernel_rfl) (fun _ _ _ h => h) (by rfl) ?hyr47 (by with_reducible exact hHeld) ?restr47
                case hyr47 => (intro wS hSw; (try dsimp only at hSw); go_simp; try with_reducible rfl)
                try simp only [Act.put, List.setIfInBounds_toArray, List.set_cons_zero, List.set_cons_succ]
                refine wpAnyH_ready (rs := [16]) (by kernel_rfl) (by simp) ?_
                refine AllReadyH.cons rfl (fun K hK => ?_) AllReadyH.nil
                go_simp
                refine hK.out _ _ (SF3.out) (fun hHeld => ?_)
                clear hK K
                try simp only [Act.put, List.setIfInBounds_toArray, List.set_cons_zero, List.set_cons_succ]
                refine wpAnyH_done (by kernel_rfl) ?_ _
                refine NoPanic.normal ?_
                go_wp2
                go_meet
                exact ⟨_, HSP.out⟩
            case rest =>
              obtain ⟨gv3, hS3⟩ := hcut
              clear HS2 HGg HGN hAg HG2
              have own1 : OwnP wc base (V2 (x * 2 + 1)) (p :: q) := by
                have := hS3.tab.own (x * 2 + 1) i1
                rwa [upd_same] at this
              obtain ⟨g3, cr3, er3, hGr3, hbg3⟩ := own1.pos (by simp)
              rw [ER2.out] at er3
              injection er3 with e1 e2 e3
              cases e1
              subst e3
              clear e2
              obtain ⟨m, hm⟩ : ∃ m, r2 = m + 1 := ⟨q.length, by rw [HR2.out]; rfl⟩
              have hqm : q.length = m := by have := HR2.out; simp at this; omega
              have gd := Lib.hid (delete_any g2 cr2 r2 m 0 0 1 (p :: q) wc HR2.out.symm hm (by omega) rfl rfl hGr3)
              have hex := Lib.hid hS3.tab.ex
              have cw1 : wc.cell? ⟨E, x * 2 + 1, none⟩ = some (.slice (some ⟨g2, 0, none⟩) r2 cr2) := by rw [hS3.tab.cell i1, ER2.out]
              have HS3 := Lib.hid hS3
              have HQM := Lib.hid hqm
              have HM := Lib.hid hm
              clear own1 hGr3 hS3 hqm hm
              go_wp2_with fail
              refine gd.out.mono ?_
              rintro e wd ⟨rfl, hGd, hCd⟩
              have exd := hCd.blk hex.out fun _ e => by obtain ⟨_, cs, hb⟩ := (HS3.out.tab.own (x * 2 + 1) i1).blk (g := g2) (by rw [ER2.out]; rfl); exact blk_type_ne hb hex.out (by decide) e.symm
              have xd : wd.cell? ⟨E, x * 2 + 1, none⟩ = some (V2 (x * 2 + 1)) := ex_at exd i1
              have fd := exd.frozen (x * 2 + 1)
              have hGd2 : GSl encP 2 96 wd (some ⟨g2, 0, none⟩) cr2 q := hGd
              have Sd := HS3.out.put i1 hCd (fun k j e => by rw [ER2.out, e]; rfl) (OwnP.mk hGd2 hbg3) (fun k e => .inl (by rw [ER2.out]; exact e))
              rw [HQM.out, upd_upd] at Sd
              rw [ER2.out] at xd
              have tcd : (wd.setCell ⟨E, x * 2 + 1, none⟩ (.slice (some ⟨g2, 0, none⟩) m cr2)).cell? ⟨T, 4, none⟩ = some (.int .i64 (wait - (d : Int) - (o.length : Int))) := Sd.tab.tb.cell 4
              have tfd := Sd.tab.tb.frozen 4
              have qcd : (wd.setCell ⟨E, x * 2 + 1, none⟩ (.slice (some ⟨g2, 0, none⟩) m cr2)).cell? ⟨Q, 0, none⟩ = some (.pointer (some ⟨T, 0, none⟩)) := Sd.req.cell 0
              obtain ⟨wt, hwt⟩ : ∃ z, z = wait - (d : Int) - (o.length : Int) := ⟨_, rfl⟩
              rw [← hwt] at tcd
              have hob : o.length ≤ 1000000 := by have h2 := HLE.out; have := hlen.out; omega
              have hdb : d ≤ 1 := hlen.out.2.2
              have ww : IntKind.i64.wrap (wt - 1) = wt - 1 := i64_in_ _ (by omega)
              obtain ⟨W2, hW2⟩ : ∃ W2, W2 = wd.setCell ⟨E, x * 2 + 1, none⟩ (.slice (some ⟨g2, 0, none⟩) m cr2) := ⟨_, rfl⟩
              rw [← hW2] at tcd tfd qcd Sd
              have HW2 := Lib.hid hW2
              have SD := Lib.hid (Sd.waits (wt - 1))
              have HWT := Lib.hid hwt
              clear gd hGd hCd hGd2 exd Sd hex hW2 hwt HS3
              go_wp2_with (rw [← HW2.out])
              go_roundw
              case rel =>
                refine ⟨h ++ [p], q, o ++ [p.1], upd V2 (x * 2 + 1) (.slice (some ⟨g2, 0, none⟩) m cr2), gv3, Lib.hid ?_, Lib.hid ?_, ?_⟩
                · rw [HCO.out, hcome.out]; simp
                · have h2 := HLE.out; simp at h2 ⊢; omega
                · have e5 : wait - (d : Int) - ((o ++ [p.1]).length : Int) = wt - 1 := by rw [HWT.out, List.length_append]; simp; omega
                  rw [e5, ← List.append_assoc]
                  exact SD.out
              case measure =>
                rw [cellLen_of c1r, cellLen_of (n := m) (by rw [SD.out.tab.cell i1, upd_same])]
                have a1 := HR2.out
                have a2 := HM.out
                have a3 := HRN.out
                omega
end Go.Proofs.Ytkjbjfjgnponfaa
