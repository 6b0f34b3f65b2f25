/- SHA-256: Write, by contract. -/
import Derived.Test.YtepikbmlhejobaaDoorShaH
namespace Go.Proofs.YtepikbmlhejobaaDoor
open Go.RowKit
set_option linter.unusedSimpArgs false

theorem Rd.chg {α : Type} {enc : α → Value} {F : Nat → Nat → Prop} {w w' : World} {A : Option Addr} {l : List α} (h : Rd enc w A l) (hc : Chg F w w') (hn : ∀ ad, A = some ad → ∀ i, ¬ F ad.block i) : Rd enc w' A l := h.keep fun ad e hl => hc.far _ hl (hn ad e)
/-- copy into the middle of a block that is known whole -/
theorem wpList_copyB {P : Program} {w : World} {ops : Array Oper} {rest : List Oper} {o : Oper} {a : Act} {Q : Exit → Act → World → Prop} (hgd : o.guard = none) (d s : Operand) (dT sT : TypeId)
    (ho : o.op = .call { callee := .builtin .copy, args := #[d, s], argTypes := #[dT, sT] }) (elem : TypeId) (hu : P.underlying dT = some (.slice elem)) (hsz : (P.info? elem).map (·.size) = some 1)
    (g off dLen dCap : Nat) (ad : Addr) (sLen sCap : Nat) (hd : a.eval d = .slice (some ⟨g, off, none⟩) dLen dCap) (hs : a.eval s = .slice (some ad) sLen sCap)
    (L : List Value) (t : TypeId) (hg : Blk w g t L.toArray) (cs : List Value) (hn : cs.length = Nat.min sLen dLen)
    (hsrc : ∀ j v, cs[j]? = some v → w.cell? (ad.add j) = some v) (hfit : off + cs.length ≤ L.length) (h1 : ∀ v ∈ cs, v.oneCell' = true)
    (h : ∀ w', Blk w' g t (splice L off cs).toArray → w.grownBy w' (some g) → w'.heap.size = w.heap.size → wpList P ops Q rest (a.put o.dst (goInt cs.length)) w') : wpList P ops Q (o :: rest) a w :=
  wpList_copy_own hgd d s dT sT ho elem hu hsz g off dLen dCap ad sLen sCap hd hs L.toArray t hg cs hn hsrc (by simpa using hfit) h1 (h _ (Blk.setRow hg) (setRow_only g _) (by simp [World.setRow]))
theorem u8Sz : (Tryd.prog.info? 5).map (·.size) = some 1 := by kernel_rfl
theorem rangeAt_below {w w' : World} {b o B : Nat} {cs : List Value} (h : w.rangeAt b o cs) (hB : Below B w w') (hb : b < B) : w'.rangeAt b o cs := fun j v hv => (hB.cell (p := ⟨b, o + j, none⟩) hb).trans (h j v hv)
theorem there_below {w w' : World} {b o n B : Nat} (h : w.there b o n) (hB : Below B w w') (hb : b < B) : w'.there b o n := fun j hj => ⟨by rw [hB.cell (p := ⟨b, o + j, none⟩) hb]; exact (h j hj).1, by rw [hB.frozen (p := ⟨b, o + j, none⟩) hb]; exact (h j hj).2⟩
theorem mix_L (ks : List UInt32) (hk : ks.length = 64) (s : S8) (c : List UInt8) (hc : c.length = 64) (w : World) (hT : Rd enc32 w (some ⟨3, 0, none⟩) ks) :
    Calls Tryd.prog 37 #[.agg (s.list.map enc32).toArray, .agg (c.map encB).toArray] w fun e w' => e = .returned (.agg ((mixL ks s c).list.map enc32).toArray) ∧ Below w.heap.size w w' := mix_any ks hk s c hc w hT
theorem mix_8 (ks : List UInt32) (hk : ks.length = 64) (s : S8) (c : List UInt8) (hc : c.length = 64) (w : World) (hT : Rd enc32 w (some ⟨3, 0, none⟩) ks) :
    Calls Tryd.prog 37 #[.agg #[enc32 s.a, enc32 s.b, enc32 s.c, enc32 s.d, enc32 s.e, enc32 s.f, enc32 s.g, enc32 s.h], .agg (c.map encB).toArray] w fun e w' => e = .returned (.agg #[enc32 (mixL ks s c).a, enc32 (mixL ks s c).b, enc32 (mixL ks s c).c, enc32 (mixL ks s c).d, enc32 (mixL ks s c).e, enc32 (mixL ks s c).f, enc32 (mixL ks s c).g, enc32 (mixL ks s c).h]) ∧ Below w.heap.size w w' := mix_any ks hk s c hc w hT
theorem wpStill_load {P : Program} {ops : Array Oper} {w : World} {Q : Act → Prop} {a : Act} {o : Oper} {rest : List Oper} (hgd : o.guard = none) (ty : TypeId) (x : Operand) (ho : o.op = .load ty x) (b off : Nat) (hx : a.eval x = .pointer (some ⟨b, off, none⟩)) (cs : List Value) (d : TypeDesc)
    (hc : w.rangeAt b off cs) (hu : P.underlying ty = some d) (hd : d.isRow = true) (hi : (P.info? ty).map (·.size) = some cs.length) (h : wpStill P ops w Q rest (a.put o.dst (.agg cs.toArray))) : wpStill P ops w Q (o :: rest) a := by
  unfold wpStill
  rw [if_pos (by simp [Region.wanted, hgd])]
  unfold Oper.still
  rw [exec_load_mid ty x ho b off hx cs d hc hu hd hi]
  exact ⟨rfl, h⟩
section
variable (ks : List UInt32) (hk : ks.length = 64) (s0 : S8) (H : Nat)
include hk
set_option maxRecDepth 20000 in
set_option maxHeartbeats 8000000 in
theorem write_any (l p : List UInt8) (cnt : Nat) (A : Option Addr) (c : Nat) (w : World) (hH : HashS w H ks s0 l cnt) (hp : Rd encB w A p) (hA : p ≠ [] → ∀ ad, A = some ad → ad.block ≠ H) (hc : p.length ≤ c) (hcm : c ≤ 9223372036854775807) (hcnt : cnt + p.length < 18446744073709551616)
    (hT : Rd enc32 w (some ⟨3, 0, none⟩) ks) (hH3 : H ≠ 3) :
    Calls Tryd.prog 16 #[.pointer (some ⟨H, 0, none⟩), .slice A p.length c] w fun e w' => e = .returned (.tuple #[]) ∧ HashS w' H ks s0 (l ++ p) (cnt + p.length) ∧ Chg (fun k _ => k = H) w w' := by
  obtain ⟨part, hpl, hb, hrest⟩ := hH
  have h73 : w.cell? ⟨H, 73, none⟩ = some (.int .u64 cnt) := (hb.cell 73).trans (hashC_cnt _ hpl _ _)
  have f73 := hb.frozen 73
  have hw1 : IntKind.u64.wrap ((cnt : Int) + (p.length : Int)) = (cnt : Int) + (p.length : Int) := by rw [IntKind.wrap_u64]; omega
  have hw2 : IntKind.u64.wrap (p.length : Int) = (p.length : Int) := by rw [IntKind.wrap_u64]; omega
  obtain ⟨W, hW⟩ : ∃ W, W = w.setCell ⟨H, 73, none⟩ (.int .u64 ((cnt : Int) + (p.length : Int))) := ⟨_, rfl⟩
  have hbW : Blk W H 62 (hashC (chainN ks (l.length / 64) s0 l) part (l.length % 64) (cnt + p.length)) := by
    have h2 := hb.set_ 73 (.int .u64 ((cnt + p.length : Nat) : Int))
    rw [hashC_set_cnt _ hpl] at h2
    rw [hW]
    simpa using h2
  have kW : Chg (fun k _ => k = H) w W := by rw [hW]; exact Chg.setCell (fun k _ => k = H) w rfl _
  have HS : HashS W H ks s0 (l ++ []) (cnt + p.length) := by rw [List.append_nil]; exact ⟨part, hpl, hbW, hrest⟩
  have HHS := Lib.hid HS
  have HkW := Lib.hid kW
  have HW := Lib.hid hW
  have Hp := Lib.hid hp
  have HT := Lib.hid hT
  have HA := Lib.hid hA
  clear hb hrest hbW kW hW HS hp hT hA hpl
  go_enter Tryd.func16, Tryd.ntmps16
  go_wp2_with fail
  rw [← HW.out]
  clear h73 f73
  go_loopw [1] (fun t1 wr => ∃ (dn q : List UInt8) (A' : Option Addr) (c' : Nat), p = dn ++ q ∧ t1 = .slice A' q.length c' ∧ q.length ≤ c' ∧ c' ≤ 9223372036854775807 ∧ Rd encB wr A' q ∧ (q ≠ [] → ∀ ad, A' = some ad → ad.block ≠ H) ∧ HashS wr H ks s0 (l ++ dn) (cnt + p.length) ∧ Chg (fun k _ => k = H) w wr) (fun t1 _ => match t1 with | .slice _ n _ => n | _ => 0)
  case atStart =>
    refine ⟨[], p, A, c, rfl, rfl, hc, hcm, ?_, HA.out, HHS.out, HkW.out⟩
    by_cases h0 : p = []
    · rw [h0]; exact Rd.nil_
    · exact Hp.out.chg HkW.out fun ad e i hF => HA.out h0 ad e hF
  case round =>
    obtain ⟨dn, q, A', c', hpq, rfl, hc', hcm', hr, hA', hS, hK⟩ := hrel
    clear HHS HkW HW hw1 hw2
    have HPQ := Lib.hid hpq
    have HS := Lib.hid hS
    have HK := Lib.hid hK
    have HR := Lib.hid hr
    have HA0 := Lib.hid hA'
    clear hpq hS hK hr hA'
    by_cases hq : q = []
    · subst hq
      go_wp2
      go_end0
      refine ⟨rfl, ?_, HK.out⟩
      rw [show l ++ p = l ++ dn from by have := HPQ.out; rw [List.append_nil] at this; rw [this]]
      exact HS.out
    have hq0 : 0 < q.length := List.length_pos_iff.2 hq
    have HA' := Lib.hid (HA0.out hq)
    have hqi : (0 : Int) < (q.length : Int) := by omega
    clear hq
    obtain ⟨part, hpl, hb, hrest⟩ := HS.out
    obtain ⟨ad, x, rfl, _, _⟩ := HR.out.at_ hq0
    obtain ⟨L0, hL0⟩ : ∃ L0, L0 = l ++ dn := ⟨_, rfl⟩
    rw [← hL0] at hb hrest
    obtain ⟨held, hheld⟩ : ∃ held, held = L0.length % 64 := ⟨_, rfl⟩
    rw [← hheld] at hb hrest
    have hh64 : held < 64 := by omega
    obtain ⟨s, hs⟩ : ∃ s, s = chainN ks (L0.length / 64) s0 L0 := ⟨_, rfl⟩
    rw [← hs] at hb
    obtain ⟨n, hn⟩ : ∃ n, n = Nat.min q.length (64 - held) := ⟨_, rfl⟩
    have hn1 : n ≤ q.length := by rw [hn]; exact Nat.min_le_left _ _
    have hn2 : held + n ≤ 64 := by have : n ≤ 64 - held := by rw [hn]; exact Nat.min_le_right _ _
                                   omega
    have hn3 : 0 < n := by rw [hn]; exact Nat.lt_min.2 ⟨hq0, by omega⟩
    obtain ⟨bs, hbs⟩ : ∃ bs, bs = (q.take n).map encB := ⟨_, rfl⟩
    have hbl : bs.length = n := by rw [hbs, List.length_map, List.length_take]; omega
    have hsrc : ∀ j v, bs[j]? = some v → (wr.drewN 1).cell? (ad.add j) = some v := by
      intro j v hv
      rw [hbs, List.getElem?_map] at hv
      obtain ⟨y, hy, rfl⟩ := Option.map_eq_some_iff.1 hv
      rw [List.getElem?_take] at hy
      split at hy
      · obtain ⟨ad', e, hc⟩ := HR.out j y hy
        cases e
        exact hc
      · cases hy
    have hone : ∀ v ∈ bs, v.oneCell' = true := by
      intro v hv
      rw [hbs] at hv
      obtain ⟨y, _, rfl⟩ := List.mem_map.1 hv
      rfl
    have h72 : wr.cell? ⟨H, 72, none⟩ = some (.int .i64 held) := (hb.cell 72).trans (hashC_held _ hpl _ _)
    have f72 := hb.frozen 72
    have i1 : (0 : Int) ≤ (held : Int) ∧ (held : Int) ≤ 64 := by omega
    have i2 : (held : Int) < 64 := by omega
    have i3 : ¬ (64 = held) := by omega
    have i4 : (n : Int) ≤ (q.length : Int) := by omega
    have i5 : (n : Int) ≤ (c' : Int) := by omega
    have i6 : (0 : Int) ≤ (n : Int) := by omega
    have i7 : (held : Int) + (n : Int) ≤ 64 := by omega
    have hfitL : 8 + held + bs.length ≤ (hashL s part held (cnt + p.length)).length := by rw [hashL_len s hpl, hbl]; omega
    have hnm : bs.length = Nat.min q.length (64 - held) := by rw [hbl, hn]
    have HBS := Lib.hid hbs
    have HBL := Lib.hid hbl
    have HN := Lib.hid hn
    have HSR := Lib.hid hsrc
    have HONE := Lib.hid hone
    have Hheld := Lib.hid hheld
    have Hs := Lib.hid hs
    have HL0 := Lib.hid hL0
    have HREST := Lib.hid hrest
    have HPL := Lib.hid hpl
    have HB := Lib.hid hb
    have HNM := Lib.hid hnm
    have HFL := Lib.hid hfitL
    clear hbs hbl hn hsrc hone hheld hs hL0 hrest hpl hb hnm hfitL
    go_wp2_with fail
    go_still_tail 9, (by kernel_rfl)
    refine wpList_copyB rfl (.tmp 25) (.tmp 26) 27 27 rfl 5 Tryd.underlying27 u8Sz H (8 + held) (64 - held) (64 - held) ad q.length c' rfl rfl (hashL s part held (cnt + p.length)) 62 (by exact HB.out) bs HNM.out (by exact HSR.out) HFL.out HONE.out ?_
    intro w2 hb2 hg2 hs2
    rw [HBL.out]
    obtain ⟨part', hpart'⟩ : ∃ part', part' = splice part held (q.take n) := ⟨_, rfl⟩
    have hql : (q.take n).length = n := by rw [List.length_take]; omega
    have hpl' : part'.length = 64 := by rw [hpart', splice_len (by rw [HPL.out]; omega), HPL.out]
    have hb2' : Blk w2 H 62 (hashC s part' held (cnt + p.length)) := by
      rw [HBS.out, splice_part s HPL.out held _ held _ (by omega), ← hpart'] at hb2
      exact hb2
    have k2 : Chg (fun k _ => k = H) wr w2 := ((Chg.refl _ wr).drewN 1).trans (Chg.of_row (F := fun k _ => k = H) hg2 HB.out hb2' (by rw [hashC_size _ hpl', hashC_size _ HPL.out]) fun _ => rfl) fun _ _ _ h => h
    have g72 : w2.cell? ⟨H, 72, none⟩ = some (.int .i64 held) := (hb2'.cell 72).trans (hashC_held _ hpl' _ _)
    have gf72 := hb2'.frozen 72
    obtain ⟨W3, hW3⟩ : ∃ W3, W3 = w2.setCell ⟨H, 72, none⟩ (.int .i64 ((held : Int) + (n : Int))) := ⟨_, rfl⟩
    have hb3 : Blk W3 H 62 (hashC s part' (held + n) (cnt + p.length)) := by
      have h2 := hb2'.set_ 72 (.int .i64 ((held + n : Nat) : Int))
      rw [hashC_set_held _ hpl'] at h2
      rw [hW3]
      simpa using h2
    have k3 : Chg (fun k _ => k = H) wr W3 := by rw [hW3]; exact k2.trans (Chg.setCell (fun k _ => k = H) w2 rfl _) fun _ _ _ h => h
    have m72 : W3.cell? ⟨H, 72, none⟩ = some (.int .i64 ((held : Int) + (n : Int))) := by have := (hb3.cell 72).trans (hashC_held _ hpl' _ _); simpa using this
    have HW3 := Lib.hid hW3
    have HPL' := Lib.hid hpl'
    have HPART := Lib.hid hpart'
    have HQL := Lib.hid hql
    have HB3 := Lib.hid hb3
    have HK3 := Lib.hid k3
    clear hb2 hg2 hs2 hb2' k2 hW3 hpl' hpart' hql hb3 k3 h72 f72
    have rd1 : c' = n → Rd encB W3 (some ad) (q.drop n) ∧ (∀ ad', some ad = some ad' → ad'.block ≠ H) := fun e => ⟨by
      have := (HR.out.drop (k := n) hc')
      rw [if_pos e] at this
      exact this.chg HK3.out fun ad' e' i hF => HA'.out ad' e' hF, HA'.out⟩
    have rd2 : ¬ c' = n → Rd encB W3 (some (ad.add n)) (q.drop n) ∧ (∀ ad', some (ad.add n) = some ad' → ad'.block ≠ H) := fun e => by
      have hne : ∀ ad', some (ad.add n) = some ad' → ad'.block ≠ H := fun ad' e' => by cases e'; rw [blk_add]; exact HA'.out ad rfl
      refine ⟨?_, hne⟩
      have := (HR.out.drop (k := n) hc')
      rw [if_neg e] at this
      exact this.chg HK3.out fun ad' e' i hF => hne ad' e' hF
    have RD1 := Lib.hid rd1
    have RD2 := Lib.hid rd2
    clear rd1 rd2
    go_upto_region 4 with fail
    rw [← HW3.out]
    clear g72 gf72
    go_cut [1] (fun t1 wx => ∃ (A2 : Option Addr) (c2 : Nat), t1 = .slice A2 (q.drop n).length c2 ∧ (q.drop n).length ≤ c2 ∧ c2 ≤ 9223372036854775807 ∧ Rd encB W3 A2 (q.drop n) ∧ (∀ ad', A2 = some ad' → ad'.block ≠ H) ∧ wx = W3)
    case first =>
      by_cases hcn : c' = n
      · have HCN := Lib.hid hcn
        go_wp2
        all_goals
          go_meet
          exact ⟨some ad, 0, by rw [List.length_drop], by rw [List.length_drop]; have := HCN.out; omega, by omega, (RD1.out HCN.out).1, (RD1.out HCN.out).2, rfl⟩
      · go_wp2
        all_goals
          go_meet
          exact ⟨some (ad.add n), c' - n, by first | (rw [List.length_drop]; done) | (rw [if_neg hcn, List.length_drop]; done), by rw [List.length_drop]; omega, by omega, (RD2.out hcn).1, (RD2.out hcn).2, rfl⟩
    case rest =>
      obtain ⟨A2, c2, ht1, hc2, hc2m, hr2, ha2, hwx⟩ := hcut
      rw [ht1, hwx]
      clear ht1 hwx
      have HR2 := Lib.hid hr2
      have HA2 := Lib.hid ha2
      have HC2 := Lib.hid hc2
      obtain ⟨q2, hq2⟩ : ∃ q2, q2 = q.drop n := ⟨_, rfl⟩
      rw [← hq2] at hc2 ⊢
      have HQ2 := Lib.hid hq2
      clear hr2 ha2 hq2 RD1 RD2
      have hrst : part'.take (held + n) = restOf L0 ++ q.take n := by
        have := splice_take (L := part) (o := held) (cs := q.take n) (by rw [HPL.out, HQL.out]; omega)
        rw [HQL.out, ← HPART.out, HREST.out] at this
        exact this
      have HRST := Lib.hid hrst
      clear hrst
      have hcat : l ++ (dn ++ q.take n) = L0 ++ q.take n := by rw [HL0.out, List.append_assoc]
      have HCAT := Lib.hid hcat
      have hpq2 : p = (dn ++ q.take n) ++ q2 := by rw [List.append_assoc, HQ2.out, List.take_append_drop]; exact HPQ.out
      have HPQ2 := Lib.hid hpq2
      clear hcat hpq2
      by_cases hfull : held + n = 64
      · have e1 : (((held : Int) + (n : Int)) == 64) = true := by rw [beq_iff_eq]; omega
        have HF := Lib.hid hfull
        clear hfull
        have R8d : W3.drew.rangeAt H 8 (part'.map encB) := fun j v hv => (HB3.out.cell _).trans (hashL_part s part' (held + n) (cnt + p.length) hv)
        have R0d : W3.drew.rangeAt H 0 (s.list.map enc32) := fun j v hv => (HB3.out.cell _).trans (hashL_words s part' (held + n) (cnt + p.length) hv)
        have RTd : W3.drew.there H 0 8 := fun j hj => ⟨by rw [HB3.out.drew.cell]; simp [hashC, hashL, S8.list]; omega, HB3.out.drew.frozen _⟩
        have HT3 := Lib.hid (HT.out.chg (HK.out.trans HK3.out fun _ _ _ h => h) fun ad e i hF => by cases e; exact hH3 hF.symm)
        have HLT : H < W3.drew.heap.size := HB3.out.lt
        go_wp2_with fail
        refine wp_region_noPanic ?_
        refine wp_region_held_drew (S := fun _ => True) (by kernel_rfl) trivial (fun _ => ?_)
        refine take_on (i := 0) (some 44) (v := ?vq1) rfl rfl (by kernel_rfl) (by kernel_rfl) (by kernel_rfl) (fun _ _ _ h => h) (by rfl) ?hyq1 trivial ?restq1
        case hyq1 => (intro wS _; go_simp; try with_reducible rfl)
        try simp only [Act.put, List.setIfInBounds_toArray, List.set_cons_zero, List.set_cons_succ]
        refine take_on (i := 1) (some 45) (v := ?vq2) rfl rfl (by kernel_rfl) (by kernel_rfl) (by kernel_rfl) (fun _ _ _ h => h) (by rfl) ?hyq2 trivial ?restq2
        case hyq2 => (intro wS _; go_simp; try with_reducible rfl)
        try simp only [Act.put, List.setIfInBounds_toArray, List.set_cons_zero, List.set_cons_succ]
        refine take_on (i := 2) (some 46) (v := ?vq3) rfl rfl (by kernel_rfl) (by kernel_rfl) (by kernel_rfl) (fun _ _ _ h => h) (by rfl) ?hyq3 trivial ?restq3
        case hyq3 => (intro wS _; go_simp; try with_reducible rfl)
        try simp only [Act.put, List.setIfInBounds_toArray, List.set_cons_zero, List.set_cons_succ]
        refine take_on (i := 3) (some 47) (v := ?vq4) rfl rfl (by kernel_rfl) (by kernel_rfl) (by kernel_rfl) (fun _ _ _ h => h) (by rfl) ?hyq4 trivial ?restq4
        case hyq4 => (intro wS _; go_simp; try with_reducible rfl)
        try simp only [Act.put, List.setIfInBounds_toArray, List.set_cons_zero, List.set_cons_succ]
        refine take_on (i := 5) (some 49) (v := ?vq5) rfl rfl (by kernel_rfl) (by kernel_rfl) (by kernel_rfl) (fun _ _ _ h => h) (by rfl) ?hyq5 trivial ?restq5
        case hyq5 => (intro wS _; go_simp; try with_reducible rfl)
        try simp only [Act.put, List.setIfInBounds_toArray, List.set_cons_zero, List.set_cons_succ]
        refine take_on (i := 6) (some 50) (v := ?vq6) rfl rfl (by kernel_rfl) (by kernel_rfl) (by kernel_rfl) (fun _ _ _ h => h) (by rfl) ?hyq6 trivial ?restq6
        case hyq6 => (intro wS _; go_simp; try with_reducible rfl)
        try simp only [Act.put, List.setIfInBounds_toArray, List.set_cons_zero, List.set_cons_succ]
        refine take_on (i := 7) (some 51) (v := ?vq7) rfl rfl (by kernel_rfl) (by kernel_rfl) (by kernel_rfl) (fun _ _ _ h => h) (by rfl) ?hyq7 trivial ?restq7
        case hyq7 => (intro wS _; go_simp; try with_reducible rfl)
        try simp only [Act.put, List.setIfInBounds_toArray, List.set_cons_zero, List.set_cons_succ]
        refine wpAnyH_ready (rs := [4, 8]) (by kernel_rfl) (by simp) ?_
        refine AllReadyH.cons rfl (fun K hK => ?_) ?_
        · rw [if_pos (by rfl)]
          refine wp_load_mid 58 (.tmp 47) rfl H 0 rfl (s.list.map enc32) _ (by exact R0d) sTy rfl sSz0 ?_
          refine hK.out _ _ trivial (fun _ => ?_)
          clear hK K
          try simp only [Act.put, List.setIfInBounds_toArray, List.set_cons_zero, List.set_cons_succ]
          refine wpAnyH_ready (rs := [8]) (by kernel_rfl) (by simp) ?_
          refine AllReadyH.cons rfl (fun K hK => ?_) AllReadyH.nil
          rw [if_pos (by rfl)]
          refine wp_load_mid 60 (.tmp 51) rfl H 8 rfl (part'.map encB) _ (by exact R8d) cTy rfl (by rw [List.length_map, HPL'.out]; exact cSz0) ?_
          refine hK.out _ _ trivial (fun _ => ?_)
          clear hK K
          try simp only [Act.put, List.setIfInBounds_toArray, List.set_cons_zero, List.set_cons_succ]
          refine wpAnyH_ready (rs := [9]) (by kernel_rfl) (by simp) ?_
          refine AllReadyH.cons rfl (fun K hK => ?_) AllReadyH.nil
          go_simp
          (go_at_call 37; refine (mix_L ks hk s part' HPL'.out _ ?hT).mono ?_; (case hT => exact HT3.out); rintro e w5 ⟨rfl, hB5⟩)
          refine hK.out _ _ trivial (fun _ => ?_)
          clear hK K
          try simp only [Act.put, List.setIfInBounds_toArray, List.set_cons_zero, List.set_cons_succ]
          refine take_on (i := 10) (some 54) (v := ?vq8) rfl rfl (by kernel_rfl) (by kernel_rfl) (by kernel_rfl) (fun _ _ _ h => h) (by rfl) ?hyq8 trivial ?restq8
          case hyq8 => (intro wS _; go_simp; try with_reducible rfl)
          try simp only [Act.put, List.setIfInBounds_toArray, List.set_cons_zero, List.set_cons_succ]
          refine take_on (i := 11) (some 55) (v := ?vq9) rfl rfl (by kernel_rfl) (by kernel_rfl) (by kernel_rfl) (fun _ _ _ h => h) (by rfl) ?hyq9 trivial ?restq9
          case hyq9 => (intro wS _; go_simp; try with_reducible rfl)
          try simp only [Act.put, List.setIfInBounds_toArray, List.set_cons_zero, List.set_cons_succ]
          refine wpAnyH_ready (rs := [12]) (by kernel_rfl) (by simp) ?_
          refine AllReadyH.cons rfl (fun K hK => ?_) AllReadyH.nil
          rw [if_pos (by rfl)]
          refine wp_store_mid 58 (.tmp 55) (.tmp 53) rfl H 0 ((mixL ks s part').list.map enc32).toArray rfl rfl (by exact there_below RTd hB5 HLT) sSz0 (arr_one enc32_one _) ?_
          refine hK.out _ _ trivial (fun _ => ?_)
          clear hK K
          try simp only [Act.put, List.setIfInBounds_toArray, List.set_cons_zero, List.set_cons_succ]
          refine wpAnyH_done (by kernel_rfl) ?_ _
          refine NoPanic.normal ?_
          have hb5 : Blk w5 H 62 (hashL s part' (held + n) (cnt + p.length)).toArray := HB3.out.drew.below hB5 HLT
          have hb6 := hb5.setCells (o := 0) ((mixL ks s part').list.map enc32) (by rw [hashL_len s HPL'.out]; simp [S8.list])
          rw [splice_words] at hb6
          have k6 : Chg (fun k _ => k = H) W3 (w5.setCells H 0 ((mixL ks s part').list.map enc32)) := (((Chg.refl _ W3).drew).trans (Chg.of_below (fun k _ => k = H) hB5) fun _ _ _ h => h).trans (setCells_chg (fun k _ => k = H) _ _ _ _ fun _ _ _ => rfl) fun _ _ _ h => h
          obtain ⟨W6, hW6⟩ : ∃ W6, W6 = w5.setCells H 0 (((mixL ks s part').list.map enc32).toArray).toList := ⟨_, rfl⟩
          rw [← hW6]
          have hb7 : Blk W6 H 62 (hashC (mixL ks s part') part' (held + n) (cnt + p.length)) := by rw [hW6]; exact hb6
          have k7 : Chg (fun k _ => k = H) W3 W6 := by rw [hW6]; exact k6
          have y72 := (hb7.cell 72).trans (hashC_held _ HPL'.out _ _)
          have yf72 := hb7.frozen 72
          have HB7 := Lib.hid hb7
          have HK7 := Lib.hid k7
          clear hW6 hb5 hb6 k6 hb7 k7 hB5
          go_wp2
          go_roundw
          case rel =>
            refine ⟨dn ++ q.take n, q2, A2, c2, HPQ2.out, rfl, hc2, hc2m, ?_, fun _ => HA2.out, ?_, (HK.out.trans HK3.out fun _ _ _ h => h).trans (HK7.out.trans (Chg.setCell (fun k _ => k = H) _ rfl _) fun _ _ _ h => h) fun _ _ _ h => h⟩
            · rw [HQ2.out]; exact HR2.out.chg (HK7.out.trans (Chg.setCell (fun k _ => k = H) _ rfl _) fun _ _ _ h => h) fun ad' e' i hF => HA2.out ad' e' hF
            · have hl64 : L0.length % 64 + (q.take n).length = 64 := by rw [← Hheld.out, HQL.out]; exact HF.out
              obtain ⟨e2, e3⟩ := rest_full L0 _ hl64
              refine ⟨part', HPL'.out, ?_, by rw [HCAT.out, e2, e3]; rfl⟩
              have h8 := HB7.out.set_ 72 (.int .i64 (0 : Nat))
              rw [hashC_set_held _ HPL'.out] at h8
              have e4 : part' = restOf L0 ++ q.take n := by rw [← HRST.out, List.take_of_length_le (by rw [HPL'.out]; have := HF.out; omega)]
              rw [HCAT.out, chain_full ks s0 L0 _ hl64, ← Hs.out, ← e4, e2]
              exact h8
          case measure =>
            show q2.length < q.length
            rw [HQ2.out, List.length_drop]
            omega
        · refine AllReadyH.cons rfl (fun K hK => ?_) AllReadyH.nil
          rw [if_pos (by rfl)]
          refine wp_load_mid 60 (.tmp 51) rfl H 8 rfl (part'.map encB) _ (by exact R8d) cTy rfl (by rw [List.length_map, HPL'.out]; exact cSz0) ?_
          refine hK.out _ _ trivial (fun _ => ?_)
          clear hK K
          try simp only [Act.put, List.setIfInBounds_toArray, List.set_cons_zero, List.set_cons_succ]
          refine wpAnyH_ready (rs := [4]) (by kernel_rfl) (by simp) ?_
          refine AllReadyH.cons rfl (fun K hK => ?_) AllReadyH.nil
          rw [if_pos (by rfl)]
          refine wp_load_mid 58 (.tmp 47) rfl H 0 rfl (s.list.map enc32) _ (by exact R0d) sTy rfl sSz0 ?_
          refine hK.out _ _ trivial (fun _ => ?_)
          clear hK K
          try simp only [Act.put, List.setIfInBounds_toArray, List.set_cons_zero, List.set_cons_succ]
          refine wpAnyH_ready (rs := [9]) (by kernel_rfl) (by simp) ?_
          refine AllReadyH.cons rfl (fun K hK => ?_) AllReadyH.nil
          go_simp
          (go_at_call 37; refine (mix_L ks hk s part' HPL'.out _ ?hT).mono ?_; (case hT => exact HT3.out); rintro e w5 ⟨rfl, hB5⟩)
          refine hK.out _ _ trivial (fun _ => ?_)
          clear hK K
          try simp only [Act.put, List.setIfInBounds_toArray, List.set_cons_zero, List.set_cons_succ]
          refine take_on (i := 10) (some 54) (v := ?vq10) rfl rfl (by kernel_rfl) (by kernel_rfl) (by kernel_rfl) (fun _ _ _ h => h) (by rfl) ?hyq10 trivial ?restq10
          case hyq10 => (intro wS _; go_simp; try with_reducible rfl)
          try simp only [Act.put, List.setIfInBounds_toArray, List.set_cons_zero, List.set_cons_succ]
          refine take_on (i := 11) (some 55) (v := ?vq11) rfl rfl (by kernel_rfl) (by kernel_rfl) (by kernel_rfl) (fun _ _ _ h => h) (by rfl) ?hyq11 trivial ?restq11
          case hyq11 => (intro wS _; go_simp; try with_reducible rfl)
          try simp only [Act.put, List.setIfInBounds_toArray, List.set_cons_zero, List.set_cons_succ]
          refine wpAnyH_ready (rs := [12]) (by kernel_rfl) (by simp) ?_
          refine AllReadyH.cons rfl (fun K hK => ?_) AllReadyH.nil
          rw [if_pos (by rfl)]
          refine wp_store_mid 58 (.tmp 55) (.tmp 53) rfl H 0 ((mixL ks s part').list.map enc32).toArray rfl rfl (by exact there_below RTd hB5 HLT) sSz0 (arr_one enc32_one _) ?_
          refine hK.out _ _ trivial (fun _ => ?_)
          clear hK K
          try simp only [Act.put, List.setIfInBounds_toArray, List.set_cons_zero, List.set_cons_succ]
          refine wpAnyH_done (by kernel_rfl) ?_ _
          refine NoPanic.normal ?_
          have hb5 : Blk w5 H 62 (hashL s part' (held + n) (cnt + p.length)).toArray := HB3.out.drew.below hB5 HLT
          have hb6 := hb5.setCells (o := 0) ((mixL ks s part').list.map enc32) (by rw [hashL_len s HPL'.out]; simp [S8.list])
          rw [splice_words] at hb6
          have k6 : Chg (fun k _ => k = H) W3 (w5.setCells H 0 ((mixL ks s part').list.map enc32)) := (((Chg.refl _ W3).drew).trans (Chg.of_below (fun k _ => k = H) hB5) fun _ _ _ h => h).trans (setCells_chg (fun k _ => k = H) _ _ _ _ fun _ _ _ => rfl) fun _ _ _ h => h
          obtain ⟨W6, hW6⟩ : ∃ W6, W6 = w5.setCells H 0 (((mixL ks s part').list.map enc32).toArray).toList := ⟨_, rfl⟩
          rw [← hW6]
          have hb7 : Blk W6 H 62 (hashC (mixL ks s part') part' (held + n) (cnt + p.length)) := by rw [hW6]; exact hb6
          have k7 : Chg (fun k _ => k = H) W3 W6 := by rw [hW6]; exact k6
          have y72 := (hb7.cell 72).trans (hashC_held _ HPL'.out _ _)
          have yf72 := hb7.frozen 72
          have HB7 := Lib.hid hb7
          have HK7 := Lib.hid k7
          clear hW6 hb5 hb6 k6 hb7 k7 hB5
          go_wp2
          go_roundw
          case rel =>
            refine ⟨dn ++ q.take n, q2, A2, c2, HPQ2.out, rfl, hc2, hc2m, ?_, fun _ => HA2.out, ?_, (HK.out.trans HK3.out fun _ _ _ h => h).trans (HK7.out.trans (Chg.setCell (fun k _ => k = H) _ rfl _) fun _ _ _ h => h) fun _ _ _ h => h⟩
            · rw [HQ2.out]; exact HR2.out.chg (HK7.out.trans (Chg.setCell (fun k _ => k = H) _ rfl _) fun _ _ _ h => h) fun ad' e' i hF => HA2.out ad' e' hF
            · have hl64 : L0.length % 64 + (q.take n).length = 64 := by rw [← Hheld.out, HQL.out]; exact HF.out
              obtain ⟨e2, e3⟩ := rest_full L0 _ hl64
              refine ⟨part', HPL'.out, ?_, by rw [HCAT.out, e2, e3]; rfl⟩
              have h8 := HB7.out.set_ 72 (.int .i64 (0 : Nat))
              rw [hashC_set_held _ HPL'.out] at h8
              have e4 : part' = restOf L0 ++ q.take n := by rw [← HRST.out, List.take_of_length_le (by rw [HPL'.out]; have := HF.out; omega)]
              rw [HCAT.out, chain_full ks s0 L0 _ hl64, ← Hs.out, ← e4, e2]
              exact h8
          case measure =>
            show q2.length < q.length
            rw [HQ2.out, List.length_drop]
            omega
      · have e1 : (((held : Int) + (n : Int)) == 64) = false := by rw [beq_eq_false_iff_ne]; omega
        have HF := Lib.hid hfull
        clear hfull
        go_wp2
        go_roundw
        case rel =>
          refine ⟨dn ++ q.take n, q2, A2, c2, HPQ2.out, rfl, hc2, hc2m, by rw [HQ2.out]; exact HR2.out, fun _ => HA2.out, ?_, HK.out.trans HK3.out fun _ _ _ h => h⟩
          have hlt : L0.length % 64 + (q.take n).length < 64 := by rw [← Hheld.out, HQL.out]; have := HF.out; omega
          refine ⟨part', HPL'.out, ?_, ?_⟩
          · rw [HCAT.out, chain_append ks s0 L0 _ hlt, ← Hs.out, show (L0 ++ q.take n).length % 64 = held + n from by rw [List.length_append, HQL.out]; have := Hheld.out; rw [HQL.out] at hlt; omega]
            exact HB3.out
          · rw [HCAT.out, rest_append L0 _ hlt, show (L0 ++ q.take n).length % 64 = held + n from by rw [List.length_append, HQL.out]; have := Hheld.out; rw [HQL.out] at hlt; omega]
            exact HRST.out
        case measure =>
          show q2.length < q.length
          rw [HQ2.out, List.length_drop]
          omega
end
end Go.Proofs.YtepikbmlhejobaaDoor
