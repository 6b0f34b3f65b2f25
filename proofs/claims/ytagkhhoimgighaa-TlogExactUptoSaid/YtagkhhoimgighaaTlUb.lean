/- The transfer log: Unacked, by contract. -/
import Derived.Test.YtagkhhoimgighaaTlUa
import Derived.Test.YtagkhhoimgighaaTlSim
import Derived.Test.YtagkhhoimgighaaLawT
namespace Go.Proofs.Ytagkhhoimgighaa
open Go.RowKit Go.Shelf Go.Lib Go.Sort
set_option linter.unusedVariables false
set_option linter.unusedSimpArgs false
shelf_lay_g SlLaysF.n6 Slsf 6 at Try 40 as Try.sortT
theorem below_sortW {α : Type} [Inhabited α] (enc : α → Value) {B : Nat} {w0 w : World} (blk off m : Nat) (d : Array α) (os : Array Obj) (hb : RowKit.Below B w0 w) (hB : B ≤ blk) (hs : B ≤ w.heap.size) : RowKit.Below B w0 (sortWorld enc w blk off m d os) := by
  refine ⟨hb.os, hb.tape, hb.output, ?_, fun k hk => ?_⟩
  · have := hb.size
    simp only [sortWorld, grow, putRow, mapBlock, Go.Sort.ahead, Array.size_append, Array.size_modify]
    omega
  · have h1 : k < w.heap.size := by omega
    have h2 : blk ≠ k := by omega
    rw [← hb.block k hk]
    simp only [sortWorld, grow, putRow, mapBlock, Go.Sort.ahead]
    rw [Array.getElem?_append_left (by simpa using h1), Array.getElem?_modify, if_neg h2]
def encPt (x : Wr) : Value := .pointer (some ⟨x.at_, 0, none⟩)
theorem encPt_one (x : Wr) : (encPt x).oneCell' = true := rfl
theorem ptTy : SlTy Try.prog 83 67 1 8 := SlTy.mk' (z := .pointer none) Try.underlying83 (by kernel_rfl) rfl
set_option maxRecDepth 20000 in
theorem cmp_any (x y : Wr) (W : World) (hx : W.cell? ⟨x.at_, 3, none⟩ = some (.int .u64 x.turn)) (hy : W.cell? ⟨y.at_, 3, none⟩ = some (.int .u64 y.turn)) :
    Calls Try.prog 41 #[encPt x, encPt y] W fun e w' => e = .returned (.int .i64 (turnC x y)) ∧ ∃ q, w' = W.drewN q := by
  show Calls Try.prog 41 #[.pointer (some ⟨x.at_, 0, none⟩), .pointer (some ⟨y.at_, 0, none⟩)] W _
  by_cases h : x.turn < y.turn
  · have h' : (x.turn : Int) < (y.turn : Int) := by omega
    have hc := Lib.hid (show turnC x y = -1 by unfold turnC; rw [if_pos h])
    go_enter Try.func41, Try.ntmps41
    go_wp2
    go_quiet (fail)
    go_wp2
    go_ret
    exact ⟨by rw [hc.out]; rfl, _, rfl⟩
  · have h' : ¬ (x.turn : Int) < (y.turn : Int) := by omega
    have hc := Lib.hid (show turnC x y = 1 by unfold turnC; rw [if_neg h])
    go_enter Try.func41, Try.ntmps41
    go_wp2
    go_quiet (fail)
    go_wp2
    go_ret
    exact ⟨by rw [hc.out]; rfl, _, rfl⟩
/-- the pointers sorted -/
theorem sort_any {ws picks : List Wr} {w0 w : World} {G n : Nat} {A : Option Addr} {c b : Nat} {s : LogS} (h : LogIn w0 G s A c b n) (hw : RowKit.Below w0.heap.size w0 w) (hws : s.ws = ws) (ht : ws.Pairwise fun x y => x.turn < y.turn) (hp : picks.Perm (unA ws)) {v : Value} {base : Nat} (hb : w0.heap.size ≤ base)
    (ho : Own encPt 67 w base v picks) (hl : picks.length < 4611686018427387904) :
    Calls Try.prog 40 #[v, .func (.func 41) #[] #[]] w fun e w' => e = .returned (.tuple #[]) ∧ RowKit.Below w0.heap.size w0 w' ∧ ∃ A' cv, v = .slice A' (unA ws).length cv ∧ Rd encPt w' A' (unA ws) := by
  have hlen := hp.length_eq
  rcases ho.form with ⟨rfl, rfl⟩ | ⟨g, cap, cs, rfl, hg, hB, hcap, hmax, hsz, hcs⟩
  · have hu : unA ws = [] := List.Perm.eq_nil hp.symm
    refine (AnyF.slices_SortFunc_none (P := Try.prog) { Try.sortT with } none 0 (.func (.func 41) #[] #[]) w).mono ?_
    rintro e w' ⟨rfl, rfl⟩
    exact ⟨rfl, hw, none, 0, (by rw [hu]; rfl), (by rw [hu]; exact Rd.nil_)⟩
  · by_cases h0 : picks = []
    · have hu : unA ws = [] := by rw [h0] at hp; exact List.Perm.eq_nil hp.symm
      subst h0
      refine (AnyF.slices_SortFunc_none (P := Try.prog) { Try.sortT with } (some ⟨g, 0, none⟩) cap (.func (.func 41) #[] #[]) w).mono ?_
      rintro e w' ⟨rfl, rfl⟩
      exact ⟨rfl, hw, some ⟨g, 0, none⟩, cap, (by rw [hu]), (by rw [hu]; exact Rd.nil_)⟩
    · have hmem : ∀ x ∈ picks, x ∈ s.ws := fun x hx => by rw [hws]; exact (unA_sub ws).subset (hp.mem_iff.1 hx)
      obtain ⟨z, hz⟩ := List.exists_mem_of_ne_nil picks h0
      letI : Inhabited { x : Wr // x ∈ s.ws } := ⟨⟨z, hmem z hz⟩⟩
      obtain ⟨dl, hdl⟩ : ∃ dl : List { x : Wr // x ∈ s.ws }, dl.map (·.1) = picks := ⟨picks.attach.map fun y => ⟨y.1, hmem y.1 y.2⟩, by rw [List.map_map]; exact List.attach_map_subtype_val picks⟩
      have hdl2 : dl.length = picks.length := by rw [← hdl, List.length_map]
      have hstd : ∀ (x : { x : Wr // x ∈ s.ws }) (W : World), RowKit.Below w0.heap.size w0 W → W.cell? ⟨x.1.at_, 3, none⟩ = some (.int .u64 x.1.turn) := fun x W hW => ((h.std x.1 x.2).below hW (h.std x.1 x.2).lt).cell 3
      have hcmp : CmpLays1 Try.prog 41 #[] (fun x : { x : Wr // x ∈ s.ws } => encPt x.1) (fun x y => turnC x.1 y.1) g 0 dl.toArray.size w := CmpReads.lays fun m os dk hdk x y => by
        have hW := below_sortW (fun x : { x : Wr // x ∈ s.ws } => encPt x.1) g 0 m dk os hw (by omega) hw.size
        exact cmp_any x.1 y.1 _ (hstd x _ hW) (hstd y _ hW)
      have hswo : SWO (ltOf fun x y : { x : Wr // x ∈ s.ws } => turnC x.1 y.1) := by
        have e : ∀ x y : { x : Wr // x ∈ s.ws }, ltOf (fun x y : { x : Wr // x ∈ s.ws } => turnC x.1 y.1) x y = decide (x.1.turn < y.1.turn) := fun x y => by
          unfold ltOf turnC
          by_cases h : x.1.turn < y.1.turn <;> simp [h]
        exact ⟨fun x => by rw [e]; simp, fun x y z h1 h2 => by rw [e] at *; simp at *; omega, fun x y z h1 h2 => by rw [e] at *; simp at *; omega⟩
      have hH : Holds (fun x : { x : Wr // x ∈ s.ws } => encPt x.1) w g 0 dl.toArray := fun j hj => by
        have hj' : j < dl.length := by simpa using hj
        have hjp : j < picks.length := by omega
        refine ⟨?_, hB.frozen _⟩
        rw [hB.cell, Nat.zero_add, getElem!_pos dl.toArray j hj]
        have h1 : (cs.toList.take picks.length)[j]? = (picks.map encPt)[j]? := by rw [hcs]
        rw [List.getElem?_take, if_pos hjp, List.getElem?_map, ← hdl, List.getElem?_map, List.getElem?_eq_getElem hj'] at h1
        simpa using h1
      have eg : ∀ args w, (callFunc 41 args).run Try.prog w = .ok (.enter 41 args) w := enters_of Try.func41 (by kernel_rfl) rfl
      have hcon := Any.slices_SortFunc Try.sortT (fun x : { x : Wr // x ∈ s.ws } => encPt x.1) (fun _ => rfl) (fun x y => turnC x.1 y.1) hswo 41 #[] g 0 cap dl.toArray w eg hcmp hH hB.lt (by simp; omega)
      change Calls Try.prog 40 _ _ _ at hcon
      rw [show dl.toArray.size = picks.length by simp [hdl2]] at hcon
      refine hcon.mono ?_
      rintro e w' ⟨rfl, d', m, os, ⟨hs', _, hpm⟩, hso, rfl⟩
      have hds : d'.size = picks.length := by rw [hs']; simp [hdl2]
      have hH' : Holds (fun x : { x : Wr // x ∈ s.ws } => encPt x.1) (sortWorld (fun x : { x : Wr // x ∈ s.ws } => encPt x.1) w g 0 m d' os) g 0 d' := holds_sortWorld _ w g 0 m dl.toArray d' os hB.lt hH hs'
      have hfin : d'.toList.map (·.1) = unA ws := by
        refine sorted_unA ht ?_ ?_
        · refine List.Perm.trans ?_ hp
          rw [← hdl]
          have e1 : d'.extract 0 picks.length = d' := by rw [← hds]; exact Array.extract_size
          have e2 : dl.toArray.extract 0 picks.length = dl.toArray := by rw [show picks.length = dl.toArray.size by simp [hdl2]]; exact Array.extract_size
          rw [e1, e2] at hpm
          exact (by simpa using hpm : d'.toList.Perm dl).map _
        · rw [List.pairwise_iff_getElem]
          intro i j hi hj hij
          rw [List.length_map, Array.length_toList] at hi hj
          have h1 := hso i j (Nat.zero_le _) hij (by omega)
          rw [getElem!_pos d' i hi, getElem!_pos d' j hj] at h1
          rw [List.getElem_map, List.getElem_map, Array.getElem_toList, Array.getElem_toList]
          intro h2
          have h3 : ltOf (fun x y : { x : Wr // x ∈ s.ws } => turnC x.1 y.1) d'[j] d'[i] = true := by
            show decide (turnC _ _ < 0) = true
            unfold turnC
            rw [if_pos h2]
            rfl
          rw [h3] at h1
          cases h1
      refine ⟨rfl, below_sortW _ g 0 m d' os hw (by omega) hw.size, some ⟨g, 0, none⟩, cap, by rw [hlen], fun i x hx => ⟨_, rfl, ?_⟩⟩
      rw [← hfin, List.getElem?_map] at hx
      obtain ⟨y, hy, rfl⟩ := Option.map_eq_some_iff.1 hx
      have hi := (List.getElem?_eq_some_iff.1 hy).1
      rw [Array.length_toList] at hi
      have := (hH' i hi).1
      rw [getElem!_pos d' i hi] at this
      rw [add_lit_]
      rw [this]
      rw [List.getElem?_eq_getElem (by simpa using hi)] at hy
      have := Option.some.inj hy
      rw [← this, Array.getElem_toList]
end Go.Proofs.Ytagkhhoimgighaa
