/- The document's log: Barrier that lets an epoch leave, by contract. -/
import Derived.Test.YtagkhhoimgighaaTlRf
namespace Go.Proofs.Ytagkhhoimgighaa
open Go.RowKit
set_option linter.unusedVariables false
set_option linter.unusedSimpArgs false
theorem freshL.next {B : Nat} {A A' : Option Addr} {W : World} {c c' : Nat} (h : freshL B A) (q : (A' = A ∧ c' = c) ∨ ∃ g, A' = some ⟨g, 0, none⟩ ∧ W.heap.size ≤ g) (hs : B ≤ W.heap.size) : freshL B A' := by
  rcases q with ⟨e, _⟩ | ⟨g, e, hg⟩
  · rw [e]; exact h
  · exact .inr ⟨g, e, Nat.le_trans hs hg⟩
theorem freshL.fp {B sz a b : Nat} {A : Option Addr} (h : freshL B A) {k i : Nat} (hs : slFp sz A a b k i) : B ≤ k := by
  obtain ⟨o, e2, _⟩ := hs
  rcases h with e | ⟨g, e, hg⟩
  · rw [e] at e2; cases e2
  · rw [e] at e2; cases e2; exact hg
theorem freshL.blk {B : Nat} {A : Option Addr} (h : freshL B A) {k : Nat} (hs : blkOf A k) : B ≤ k := by
  obtain ⟨a, e2, rfl⟩ := hs
  rcases h with e | ⟨g, e, hg⟩
  · rw [e] at e2; cases e2
  · rw [e] at e2; cases e2; exact hg
theorem ent_blk {wr : World} {A : Option Addr} {c : Nat} {l : List Ent3} {k : Nat} (h : GSl encE 3 36 wr A c l) (hk : blkOf A k) : ∃ cs, Blk wr k 36 cs := by
  obtain ⟨a, e, rfl⟩ := hk
  rcases h with ⟨h2, _⟩ | ⟨g2, o2, cs2, h2, _, _, h3, _⟩
  · rw [h2] at e; cases e
  · rw [h2] at e; cases e; exact ⟨cs2, h3⟩
section
variable {w w' : World} {R : Nat} {r : RefT} {F : Nat → Prop}
set_option maxRecDepth 20000 in
set_option maxHeartbeats 8000000 in
theorem rbar_yes (ep cnt : Int) (h : RefAt w R r F) (hl : r.lines.length ≤ 1024) (hok : rBarOk r ep cnt) :
    Calls Try.prog 37 #[.pointer (some ⟨R, 0, none⟩), .int .i64 ep, .int .i64 cnt] w fun e w' => ∃ Ag gc, e = .returned (.tuple #[.slice Ag (rBarO r ep).length gc, .int .i64 0]) ∧ RdS encE 3 w' Ag (rBarO r ep) ∧ (∃ F' : Nat → Prop, RefAt w' R (rBarT r ep) F' ∧ ∀ k, F' k → F k ∨ w.heap.size ≤ k) ∧ Chg (fun k _ => F k) w w' := by
  obtain ⟨A, c, h, hF⟩ := h
  obtain ⟨pn, hpn⟩ : ∃ pn, r.lines.length = pn := ⟨_, rfl⟩
  rw [hpn] at hl
  have c0 : w.cell? ⟨R, 0, none⟩ = some (.slice A pn c) := by rw [← hpn]; exact h.blk.cell 0
  have c1 : w.cell? ⟨R, 1, none⟩ = some (.int .i64 r.now) := h.blk.cell 1
  have GO := Lib.hid (rof_any R pn c A r.lines ep w.drew hpn (by omega) c0 h.row.rds)
  obtain ⟨x, l, hls, e1, e2, e3⟩ := hok
  have hp1 : 1 ≤ pn := by rw [← hpn, hls]; simp
  obtain ⟨g0, off0, y, hA, hg, hy, hcell⟩ := h.row.rds.at_ (k := 0) (by rw [hpn]; omega)
  have hyx : y = x := by rw [hls] at hy; cases hy; rfl
  subst hyx
  obtain ⟨yi, yb, ye, ya⟩ := y
  have e2 : ye = ep := e2
  have e1 : ye ≠ r.now := e1
  have x2 : w.cell? ⟨g0, off0 + 2, none⟩ = some (.int .i64 ye) := by simpa using hcell 2 _ rfl
  have n0 : ((pn : Int) == 0) = false := by rw [beq_eq_false_iff_ne]; omega
  have n1 : (0 : Int) < (pn : Int) := by omega
  have n2 : 0 < pn := hp1
  have m1 : (ye == r.now) = false := by rw [beq_eq_false_iff_ne]; exact e1
  obtain ⟨q, hq⟩ : ∃ q, ofR r.lines ep = q := ⟨_, rfl⟩
  rw [hq] at GO e3
  have m3 : ((q : Int) != cnt) = false := by rw [bne_eq_false_iff_eq]; exact e3
  subst e2
  have m2 : (ye != ye) = false := by simp
  have T0 : w.drew.cell? ⟨R, 0, none⟩ = some (.slice A pn c) ∧ w.drew.cell? ⟨R, 1, none⟩ = some (.int .i64 r.now) ∧ w.drew.cell? ⟨g0, off0 + 2, none⟩ = some (.int .i64 ye) := ⟨c0, c1, x2⟩
  have H := Lib.hid h
  have HF := Lib.hid hF
  have HPN := Lib.hid hpn
  have C0 := Lib.hid c0
  have hRlt := h.blk.lt
  have HA0 := Lib.hid hA
  rw [hA] at T0
  have HOF := Lib.hid (show (rBarO r ye).length = q by unfold rBarO; rw [List.length_map]; exact hq)
  clear h hF hcell hy hls e3 hq hpn c0 c1 x2 hA
  go_enter Try.func37, Try.ntmps37
  go_wp2_with fail
  go_region_held3 (fun w' => w'.cell? ⟨R, 0, none⟩ = some (.slice (some ⟨g0, off0, none⟩) pn c) ∧ w'.cell? ⟨R, 1, none⟩ = some (.int .i64 r.now) ∧ w'.cell? ⟨g0, off0 + 2, none⟩ = some (.int .i64 ye)) (exact T0) (first | (go_at_call 48; (with_reducible refine GO.out.mono ?_); rintro e w' ⟨rfl, rfl⟩))
  go_wp2_with fail
  go_loopw [8, 9, 10] (fun t8 t9 t10 wr => ∃ (k na nr : Nat) (Aa Ar : Option Addr) (ac rc : Nat), k ≤ pn ∧ t10 = .int .i64 (k : Int) ∧ t8 = .slice Aa na ac ∧ t9 = .slice Ar nr rc ∧ na ≤ k ∧ nr ≤ k ∧ Hid (GSl encE 3 36 wr Aa ac (((r.lines.take k).filter fun x => x.2.2.1 == ye).map entOf)) ∧ Hid (GSl encL 4 81 wr Ar rc ((r.lines.take k).filter fun x => !(x.2.2.1 == ye))) ∧ Hid ((((r.lines.take k).filter fun x => x.2.2.1 == ye).map entOf).length = na) ∧ Hid (((r.lines.take k).filter fun x => !(x.2.2.1 == ye)).length = nr) ∧ Hid (freshL w.heap.size Aa) ∧ Hid (freshL w.heap.size Ar) ∧ Hid (Below w.heap.size w wr)) (fun _ _ t10 _ => pn - (intOf t10).toNat)
  case atStart => exact ⟨0, 0, 0, none, none, 0, 0, Nat.zero_le _, rfl, rfl, rfl, Nat.le_refl _, Nat.le_refl _, Lib.hid GSl.nil_, Lib.hid GSl.nil_, Lib.hid rfl, Lib.hid rfl, Lib.hid (.inl rfl), Lib.hid (.inl rfl), Lib.hid (Below.refl _ _).drew⟩
  case round =>
    clear T0 GO
    obtain ⟨k, na, nr, Aa, Ar, ac, rc, hk, rfl, rfl, rfl, hnak, hnrk, hG, hGr, hna, hnr, hfr, hfr2, hB⟩ := hrel
    have c0 : wr.cell? ⟨R, 0, none⟩ = some (.slice A pn c) := (hB.out.cell (p := ⟨R, 0, none⟩) hRlt).trans C0.out
    by_cases hlk : k < pn
    · have hlk' : (k : Int) < (pn : Int) := by omega
      obtain ⟨g, off, x, hA, hg2, hx, hcell⟩ := (H.out.row.rds.below hB.out).at_ (show k < r.lines.length by rw [HPN.out]; exact hlk)
      obtain ⟨xi, xb, xe, xa⟩ := x
      rw [hA] at c0
      have x0 : wr.cell? ⟨g, off + k * 4, none⟩ = some (.int .i64 xi) := hcell 0 _ rfl
      have x1 : wr.cell? ⟨g, off + k * 4 + 1, none⟩ = some (.int .i64 xb) := hcell 1 _ rfl
      have x2 : wr.cell? ⟨g, off + k * 4 + 2, none⟩ = some (.int .i64 xe) := hcell 2 _ rfl
      have x3 : wr.cell? ⟨g, off + k * 4 + 3, none⟩ = some (.bool xa) := hcell 3 _ rfl
      have HX := Lib.hid hx
      clear hcell hx hA
      cases hxe : (xe == ye) with
      | true =>
        have HS1 := Lib.hid (show ((r.lines.take (k + 1)).filter fun x => x.2.2.1 == ye).map entOf = ((r.lines.take k).filter fun x => x.2.2.1 == ye).map entOf ++ [(xi, xb, xe)] by
          rw [List.take_add_one, HX.out, List.filter_append, List.map_append]
          congr 1
          show List.map entOf (List.filter _ [(xi, xb, xe, xa)]) = _
          rw [List.filter_cons_of_pos (by exact hxe)]
          rfl)
        have HS2 := Lib.hid (show ((r.lines.take (k + 1)).filter fun x => !(x.2.2.1 == ye)) = (r.lines.take k).filter fun x => !(x.2.2.1 == ye) by
          rw [List.take_add_one, HX.out, List.filter_append]
          show _ ++ List.filter _ [(xi, xb, xe, xa)] = _
          rw [List.filter_cons_of_neg (by simp [hxe])]
          simp)
        have GA := Lib.hid (hG.out.chg (Chg.alloc (fun _ _ => False) wr (.cells #[.int .i64 xi, .int .i64 xb, .int .i64 xe] 36)) encE_len fun _ _ _ h => h)
        have Rn := Lib.hid (show RdS encE 3 (wr.alloc (.cells #[.int .i64 xi, .int .i64 xb, .int .i64 xe] 36)) (some ⟨wr.heap.size, 0, none⟩) [(xi, xb, xe)] from RdS.new1 encE 3 wr 36 (xi, xb, xe))
        go_wp2_with (
          at_builtin
          refine wpList_appendG entTy (by decide) encE_len encE_one rfl (.tmp 71) (.tmp 80) rfl Aa ac (((r.lines.take k).filter fun x => x.2.2.1 == ye).map entOf) (by rw [hna.out]; rfl) GA.out (some ⟨wr.heap.size, 0, none⟩) 1 [(xi, xb, xe)] rfl Rn.out (by rw [hna.out]; simp only [maxLen, List.length_singleton]; omega) (by rw [hna.out]; simp only [List.length_singleton]; omega) ?_
          intro A6 c6 w8 h8 k8 q8
          have hlen8 : (((r.lines.take k).filter fun x => x.2.2.1 == ye).map entOf ++ [(xi, xb, xe)]).length = na + 1 := by rw [List.length_append, hna.out]; rfl
          rw [hlen8]
          have HL8 := Lib.hid hlen8
          have kk : Chg (slFp 3 Aa (((r.lines.take k).filter fun x => x.2.2.1 == ye).map entOf).length ac) wr w8 := (Chg.alloc _ wr (.cells #[.int .i64 xi, .int .i64 xb, .int .i64 xe] 36)).trans k8 fun _ _ _ h => h
          have B8 := Lib.hid (show Below w.heap.size w w8 from hB.out.trans (kk.below hB.out.size fun j i hj hs => by have := hfr.out.fp hs; omega))
          have F8 := Lib.hid (hfr.out.next q8 (by have := hB.out.size; simp; omega))
          have G8 := Lib.hid h8
          have Gr8 := Lib.hid (hGr.out.chg kk encL_len fun j i hs hf => by
            obtain ⟨cs, hb⟩ := line_blk hGr.out (slFp_blk hs)
            obtain ⟨cs2, hb2⟩ := ent_blk hG.out (slFp_blk hf)
            exact blk_type_ne hb hb2 (by decide) rfl)
          clear h8 k8 q8 kk hlen8
          )
        go_roundw
        case rel => exact ⟨k + 1, na + 1, nr, A6, Ar, c6, rc, by omega, by go_num, rfl, rfl, by omega, by omega, Lib.hid (by rw [HS1.out]; exact G8.out), Lib.hid (by rw [HS2.out]; exact Gr8.out), Lib.hid (by rw [HS1.out]; exact HL8.out), Lib.hid (by rw [HS2.out]; exact hnr.out), F8, hfr2, B8⟩
        case measure => simp [intOf]; omega
      | false =>
        have HS1 := Lib.hid (show ((r.lines.take (k + 1)).filter fun x => x.2.2.1 == ye).map entOf = ((r.lines.take k).filter fun x => x.2.2.1 == ye).map entOf by
          rw [List.take_add_one, HX.out, List.filter_append, List.map_append]
          show _ ++ List.map entOf (List.filter _ [(xi, xb, xe, xa)]) = _
          rw [List.filter_cons_of_neg (by simp [hxe])]
          simp)
        have HS2 := Lib.hid (show ((r.lines.take (k + 1)).filter fun x => !(x.2.2.1 == ye)) = ((r.lines.take k).filter fun x => !(x.2.2.1 == ye)) ++ [(xi, xb, xe, xa)] by
          rw [List.take_add_one, HX.out, List.filter_append]
          congr 1
          show List.filter _ [(xi, xb, xe, xa)] = _
          rw [List.filter_cons_of_pos (by simp [hxe])]
          rfl)
        have GA := Lib.hid (hGr.out.chg (Chg.alloc (fun _ _ => False) wr (.cells #[.int .i64 xi, .int .i64 xb, .int .i64 xe, .bool xa] 81)) encL_len fun _ _ _ h => h)
        have Rn := Lib.hid (show RdS encL 4 (wr.alloc (.cells #[.int .i64 xi, .int .i64 xb, .int .i64 xe, .bool xa] 81)) (some ⟨wr.heap.size, 0, none⟩) [(xi, xb, xe, xa)] from RdS.new1 encL 4 wr 81 (xi, xb, xe, xa))
        go_wp2_with (
          at_builtin
          refine wpList_appendG lnTy (by decide) encL_len encL_one rfl (.tmp 82) (.tmp 90) rfl Ar rc ((r.lines.take k).filter fun x => !(x.2.2.1 == ye)) (by rw [hnr.out]; rfl) GA.out (some ⟨wr.heap.size, 0, none⟩) 1 [(xi, xb, xe, xa)] rfl Rn.out (by rw [hnr.out]; simp only [maxLen, List.length_singleton]; omega) (by rw [hnr.out]; simp only [List.length_singleton]; omega) ?_
          intro A6 c6 w8 h8 k8 q8
          have hlen8 : (((r.lines.take k).filter fun x => !(x.2.2.1 == ye)) ++ [(xi, xb, xe, xa)]).length = nr + 1 := by rw [List.length_append, hnr.out]; rfl
          rw [hlen8]
          have HL8 := Lib.hid hlen8
          have kk : Chg (slFp 4 Ar ((r.lines.take k).filter fun x => !(x.2.2.1 == ye)).length rc) wr w8 := (Chg.alloc _ wr (.cells #[.int .i64 xi, .int .i64 xb, .int .i64 xe, .bool xa] 81)).trans k8 fun _ _ _ h => h
          have B8 := Lib.hid (show Below w.heap.size w w8 from hB.out.trans (kk.below hB.out.size fun j i hj hs => by have := hfr2.out.fp hs; omega))
          have F8 := Lib.hid (hfr2.out.next q8 (by have := hB.out.size; simp; omega))
          have G8 := Lib.hid h8
          have Gr8 := Lib.hid (hG.out.chg kk encE_len fun j i hs hf => by
            obtain ⟨cs, hb⟩ := ent_blk hG.out (slFp_blk hs)
            obtain ⟨cs2, hb2⟩ := line_blk hGr.out (slFp_blk hf)
            exact blk_type_ne hb hb2 (by decide) rfl)
          clear h8 k8 q8 kk hlen8
          )
        go_roundw
        case rel => exact ⟨k + 1, na, nr + 1, Aa, A6, ac, c6, by omega, by go_num, rfl, rfl, by omega, by omega, Lib.hid (by rw [HS1.out]; exact Gr8.out), Lib.hid (by rw [HS2.out]; exact G8.out), Lib.hid (by rw [HS1.out]; exact hna.out), Lib.hid (by rw [HS2.out]; exact HL8.out), hfr, F8, B8⟩
        case measure => simp [intOf]; omega
    · obtain rfl : k = pn := by omega
      have ht : r.lines.take k = r.lines := List.take_of_length_le (by rw [HPN.out]; exact Nat.le_refl _)
      rw [ht] at hG hGr hna hnr
      have Hr := H.out.below hB.out
      have fz0 := Hr.blk.frozen 0
      have hset : Chg (fun k _ => k = R) wr (wr.setCell ⟨R, 0, none⟩ (.slice Ar nr rc)) := Chg.setCell (fun k _ => k = R) wr (g := R) (i := 0) rfl _
      have HN := Lib.hid (show RefIn (wr.setCell ⟨R, 0, none⟩ (.slice Ar nr rc)) R (rBarT r ye) Ar rc from ⟨by
        have := Hr.blk.set_ 0 (.slice Ar nr rc)
        show Blk _ R _ #[.slice Ar (r.lines.filter fun x => !(x.2.2.1 == ye)).length rc, _, _, _]
        rw [hnr.out]
        exact this, hGr.out.chg hset encL_len (fun j i hs e => by
        obtain ⟨cs, hb⟩ := line_blk hGr.out (slFp_blk hs)
        exact blk_type_ne hb Hr.blk (by decide) e), by
        rcases hfr2.out with e | ⟨g2, e, _⟩
        · exact .inl e
        · exact .inr ⟨g2, e⟩⟩)
      have HE := Lib.hid (hG.out.chg hset encE_len fun j i hs e => by
        obtain ⟨cs, hb⟩ := ent_blk hG.out (slFp_blk hs)
        exact blk_type_ne hb Hr.blk (by decide) e)
      have HK := Lib.hid ((Chg.of_below (fun k _ => F k) hB.out).trans hset fun k i _ e => (HF.out k).2 (.inl e))
      have HNA := Lib.hid (show (rBarO r ye).length = na from hna.out)
      clear Hr hset ht hG hGr
      go_wp2
      go_ret2
      refine ⟨Aa, ac, by rw [HNA.out]; rfl, HE.out.rds, ⟨refFp R Ar, ⟨Ar, rc, HN.out, fun _ => Iff.rfl⟩, fun k hk => ?_⟩, HK.out⟩
      rcases hk with e | e
      · exact .inl ((HF.out k).2 (.inl e))
      · exact .inr (hfr2.out.blk e)
end
end Go.Proofs.Ytagkhhoimgighaa
