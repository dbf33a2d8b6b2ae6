/- Texts that are built one behind the other: XKp1, XKp2. No condition. -/
import Derived.Test.YtekbmpjdombedaaNpP4
set_option maxRecDepth 100000
set_option linter.unusedVariables false
open List renaming setIfInBounds_toArray → sIB, set_cons_zero → sCZ, set_cons_succ → sCS
/- gavelkeep: comparisons of lists, certificates, promises, openings. -/
namespace Go.Proofs.Ytekbmpjdombedaa
open Go Go.RowKit Go.Gv

set_option maxHeartbeats 4000000 in
theorem EqL_St : EqsL StR 40 := by
 intro R R2 v v2 l m w hs ht hB hB2
 obtain ⟨ao, cap, rfl⟩ := hs.shape
 obtain ⟨bo, bcap, rfl⟩ := ht.shape
 have hlm : l.length ≤ maxLen := hs.bd
 rw [maxLen_val] at hlm
 have HS := Lib.hid hs
 have HT := Lib.hid ht
 have HBR := Lib.hid hB
 have HBT := Lib.hid hB2
 clear hs ht hB hB2
 go_enter Try.func40, Try.ntmps40
 go_upto_region 1 with (fail)
 have HM0 := hid (Mod.refl (fun _ => False) w)
 by_cases hl : l.length = m.length
 rotate_left
 ·skip
  go_upto_region 1 with (fail)
  refine wp_region_U 26 [6, 7, 8, 9, 10] [0, 1, 2, 3, 4] (fun a0 HA0 => ?_)
  have oe0 := ev HA0 0 rfl
  have oe1 := ev HA0 1 rfl
  refine QSeq.pure rfl _ (fun E => ex_move rfl (E.v oe0)) ?_
  refine QSeq.pure rfl (.int .i64 l.length) (fun E => ex_lenS rfl (E.d 0 0) Try.underlying39) ?_
  refine QSeq.pure rfl _ (fun E => ex_move rfl (E.v oe1)) ?_
  refine QSeq.pure rfl (.int .i64 m.length) (fun E => ex_lenS rfl (E.d 2 0) Try.underlying39) ?_
  refine QSeq.pure rfl (.bool true) (fun E => ex_binE rfl (E.d 1 2) (E.d 3 0) (guard_ints _ _ _ _ _ _) (run_neq_i _ _ _ Try.underlying3) (congrArg Value.bool (ne_tt (by omega)))) ?_
  refine QSeq.nil (t' := [_, _, _, _, _]) rfl ?_
  obtain rfl := HA0.out
  clear HA0 oe0 oe1
  simp only [pz, Act.put, sIB, sCZ, sCS]
  go_upto_region 2 with (fail)
  refine wp_region_U 26 [4] [0] (fun a0 HA0 => ?_)
  refine QSeq.pure rfl (.bool false) (fun E => ex_assign rfl rfl) ?_
  refine QSeq.nil (t' := [_]) rfl ?_
  obtain rfl := HA0.out
  clear HA0
  simp only [pz, Act.put, sIB, sCZ, sCS]
  go_wp2
  go_ret
  exact ⟨ret_bool (eqb_ne fun e => hl (by rw [e])).symm, HM0.out⟩
 ·skip
  go_upto_region 1 with (fail)
  refine wp_region_U 26 [6, 7, 8, 9, 10] [0, 1, 2, 3, 4] (fun a0 HA0 => ?_)
  have oe0 := ev HA0 0 rfl
  have oe1 := ev HA0 1 rfl
  refine QSeq.pure rfl _ (fun E => ex_move rfl (E.v oe0)) ?_
  refine QSeq.pure rfl (.int .i64 l.length) (fun E => ex_lenS rfl (E.d 0 0) Try.underlying39) ?_
  refine QSeq.pure rfl _ (fun E => ex_move rfl (E.v oe1)) ?_
  refine QSeq.pure rfl (.int .i64 m.length) (fun E => ex_lenS rfl (E.d 2 0) Try.underlying39) ?_
  refine QSeq.pure rfl (.bool false) (fun E => ex_binE rfl (E.d 1 2) (E.d 3 0) (guard_ints _ _ _ _ _ _) (run_neq_i _ _ _ Try.underlying3) (congrArg Value.bool (ne_ff (by omega)))) ?_
  refine QSeq.nil (t' := [_, _, _, _, _]) rfl ?_
  obtain rfl := HA0.out
  clear HA0 oe0 oe1
  simp only [pz, Act.put, sIB, sCZ, sCS]
  go_upto_region 3 with (fail)
  refine wp_region_U 26 [5] [0] (fun a0 HA0 => ?_)
  refine QSeq.pure rfl (.int .i64 0) (fun E => ex_assign rfl rfl) ?_
  refine QSeq.nil (t' := [_]) rfl ?_
  obtain rfl := HA0.out
  clear HA0
  simp only [pz, Act.put, sIB, sCZ, sCS]
  have HLE := Lib.hid hl
  clear hl
  go_wp2
  go_loopw [5] (fun ti wr => ∃ k : Nat, ti = .int .i64 (k : Int) ∧ k ≤ l.length ∧ l.take k = m.take k ∧ w.heap.size ≤ wr.heap.size ∧ RdS StR R wr (.slice ao l.length cap) l ∧ RdS StR R2 wr (.slice bo m.length bcap) m ∧ Mod (fun _ => False) w wr) (fun ti _ => l.length - (intOf ti).toNat)
  case atStart => exact ⟨0, rfl, Nat.zero_le _, rfl, Nat.le_refl _, HS.out, HT.out, HM0.out⟩
  case round =>
   obtain ⟨k, rfl, hk, htk, hz, hs, ht, hm⟩ := hrel
   obtain ⟨wl, rfl⟩ : ∃ x, x = wr := ⟨_, rfl⟩
   have HS2 := Lib.hid hs
   have HT2 := Lib.hid ht
   have HML := Lib.hid hm
   have HTK := Lib.hid htk
   clear hs ht hm htk HS HT HM0
   by_cases hlt : k < l.length
   ·have hlt2 : k < m.length := by have := HLE.out; omega
    go_upto_region 4 with (fail)
    refine wp_region_U 26 [11, 12, 13, 14] [0, 1, 2, 3] (fun a0 HA0 => ?_)
    have oe0 := ev HA0 0 rfl
    have oe5 := ev HA0 5 rfl
    refine QSeq.pure rfl _ (fun E => ex_move rfl (E.v oe5)) ?_
    refine QSeq.pure rfl _ (fun E => ex_move rfl (E.v oe0)) ?_
    refine QSeq.pure rfl (.int .i64 l.length) (fun E => ex_lenS rfl (E.d 1 0) Try.underlying39) ?_
    refine QSeq.pure rfl (.bool true) (fun E => ex_binE rfl (E.d 0 2) (E.d 2 0) (guard_ints _ _ _ _ _ _) (run_lss_i _ _ _ Try.underlying3) (congrArg Value.bool (decide_eq_true (by omega)))) ?_
    refine QSeq.nil (t' := [_, _, _, _]) rfl ?_
    obtain rfl := HA0.out
    clear HA0 oe0 oe5
    simp only [pz, Act.put, sIB, sCZ, sCS]
    have hat := HS2.out.at hlt
    obtain ⟨g1, o1, c1, eao, hrg, hrd, hcs⟩ := hat
    subst eao
    obtain ⟨x, hx⟩ : ∃ z, z = l[k] := ⟨_, rfl⟩
    rw [← hx] at hrd
    have HX1 := Lib.hid hx
    have hcl : c1.length = 38 := StR.len hrd
    have HCL1 := Lib.hid hcl
    have HAT1 := hid (show CellsAt R wl g1 (o1 + k * 38) c1 from ⟨hrg, hcs⟩)
    have HRD1 := Lib.hid hrd
    clear hcl hcs hrd hrg hx
    have hat := HT2.out.at hlt2
    obtain ⟨g2, o2, c2, eao, hrg, hrd, hcs⟩ := hat
    subst eao
    obtain ⟨y, hy⟩ : ∃ z, z = m[k] := ⟨_, rfl⟩
    rw [← hy] at hrd
    have HX2 := Lib.hid hy
    have hcl : c2.length = 38 := StR.len hrd
    have HCL2 := Lib.hid hcl
    have HAT2 := hid (show CellsAt R2 wl g2 (o2 + k * 38) c2 from ⟨hrg, hcs⟩)
    have HRD2 := Lib.hid hrd
    clear hcl hcs hrd hrg hy
    obtain ⟨b, hb⟩ : ∃ b, b = eqb x y := ⟨_, rfl⟩
    have HB := Lib.hid hb
    clear hb
    obtain ⟨rfl, hok1⟩ := HRD1.out
    obtain ⟨rfl, hok2⟩ := HRD2.out
    have HO1 := Lib.hid hok1
    have HO2 := Lib.hid hok2
    clear hok1 hok2
    clear HRD1
    clear HRD2
    go_upto_region 6 with (fail)
    generalize ha0 : Act.mk _ _ = a0
    have oe0 : a0.eval (.tmp 0) = .slice (some ⟨g1, o1, none⟩) l.length cap := by rw [← ha0]; rfl
    have oe1 : a0.eval (.tmp 1) = .slice (some ⟨g2, o2, none⟩) m.length bcap := by rw [← ha0]; rfl
    have oe5 : a0.eval (.tmp 5) = .int .i64 ((k : Nat) : Int) := by rw [← ha0]; rfl
    have hsz0 : a0.tmps.size = 26 := by rw [← ha0]; rfl
    have HA0 := hid ha0
    clear ha0
    refine wp_region_Q0 26 hsz0 [17, 18, 19, 20, 21, 22, 23, 24, 25] [qi (.slice (some ⟨g1, o1, none⟩) l.length cap), qi (.int .i64 ((k : Nat) : Int)), qi (.pointer (some ⟨g1, o1 + k * 38, none⟩)), qi (.agg x.cells.toArray), qi (.slice (some ⟨g2, o2, none⟩) m.length bcap), qi (.int .i64 ((k : Nat) : Int)), qi (.pointer (some ⟨g2, o2 + k * 38, none⟩)), qi (.agg y.cells.toArray), qi (.bool (!b))] ⟨qi_stable, qi_stable, qi_stable, qi_stable, qi_stable, qi_stable, qi_stable, qi_stable, qi_stable, trivial⟩ [] ⟨?_, ?_, ?_, ?_, ?_, ?_, ?_, ?_, ?_, trivial⟩ ?_
    ·exact stq (fun E => ex_move rfl (E.v oe0))
    ·exact stq (fun E => ex_move rfl (E.v oe5))
    ·exact stq (fun E => ex_idxS (i := k) (s := 38) rfl Try.underlying39 (by kernel_rfl) (E.d 0) (E.d 1) (by first | exact hlt | exact hlt2))
    ·exact stq (fun E => ex_loadA rfl Try.underlying38 rfl (off := o1 + k * 38) (cs := x.cells) (by rw [HCL1.out]; kernel_rfl) (E.d 2) (fun j u hu => ((HAT1.out.mod E.m.old (by intro k h1 h2; have hb := HBR.out k h1; omega))).2 j u hu))
    ·exact stq (fun E => ex_move rfl (E.v oe1))
    ·exact stq (fun E => ex_move rfl (E.v oe5))
    ·exact stq (fun E => ex_idxS (i := k) (s := 38) rfl Try.underlying39 (by kernel_rfl) (E.d 4) (E.d 5) (by first | exact hlt | exact hlt2))
    ·exact stq (fun E => ex_loadA rfl Try.underlying38 rfl (off := o2 + k * 38) (cs := y.cells) (by rw [HCL2.out]; kernel_rfl) (E.d 6) (fun j u hu => ((HAT2.out.mod E.m.old (by intro k h1 h2; have hb := HBT.out k h1; omega))).2 j u hu))
    ·exact stq (fun E => ex_binE rfl (E.d 3) (E.d 7) (agg_guardE _ _ _ _ _ _ (by kernel_rfl) _) (EqW.runN eqW_stamp (ki_st HO1.out) (ki_st HO2.out) (st_iff HO1.out HO2.out) _) (congrArg (fun z => Value.bool (!z)) HB.out.symm))
    intro u6_0 hr
    have zu6_0 := hr.size
    have Cx1 := hid (hr.new (S := (fun _ => False)))
    clear hr
    refine QChain.nil fun vs hl hzz hrows hne => ?_
    obtain ⟨Z, hYZ, hZb, hV⟩ := hzz
    have f0 := fvi hV hl 0
    have f1 := fvi hV hl 1
    have f4 := fvi hV hl 4
    have f5 := fvi hV hl 5
    have f8 := fvi hV hl 8
    rw [show vs = [gw vs 0, gw vs 1, gw vs 2, gw vs 3, gw vs 4, gw vs 5, gw vs 6, gw vs 7, gw vs 8] from (gw_eta hl).trans rfl]
    have ha0 := HA0.out
    subst ha0
    clear HA0 hV hYZ hZb hsz0 hrows hne oe0 oe1 oe5
    simp only [putAll, Act.put, sIB, sCZ, sCS, f0, f1, f4, f5, f8]
    clear hl f0 f1 f4 f5 f8
    cases b with
    | false =>
     go_upto_region 7 with (fail)
     refine wp_region_U 26 [4] [0] (fun a0 HA0 => ?_)
     refine QSeq.pure rfl (.bool false) (fun E => ex_assign rfl rfl) ?_
     refine QSeq.nil (t' := [_]) rfl ?_
     obtain rfl := HA0.out
     clear HA0
     simp only [pz, Act.put, sIB, sCZ, sCS]
     go_wp2
     go_ret
     exact ⟨ret_bool (take_ne hlt hlt2 (fun e => by have h := HB.out; rw [HX1.out, HX2.out, e, eqb_rfl] at h; cases h)).symm, (HML.out.trans Cx1.out (fun _ _ h => h.elim))⟩
    | true =>
     go_upto_region 5 with (fail)
     refine wp_region_U 26 [15, 16, 5] [0, 1, 2] (fun a0 HA0 => ?_)
     have oe5 := ev HA0 5 rfl
     refine QSeq.pure rfl _ (fun E => ex_move rfl (E.y 2 oe5)) ?_
     refine QSeq.pure rfl (.int .i64 (((k : Nat) : Int) + 1)) (fun E => ex_binE rfl (E.d 0 0) rfl (guard_ints _ _ _ _ _ _) (run_add_i _ _ Try.underlying3) (congrArg (Value.int .i64) (IntWalk.i64_in _ (by omega)))) ?_
     refine QSeq.pure rfl _ (fun E => ex_assign rfl (E.d 1 0)) ?_
     refine QSeq.nil (t' := [_, _, _]) rfl ?_
     obtain rfl := HA0.out
     clear HA0 oe5
     simp only [pz, Act.put, sIB, sCZ, sCS]
     go_wp2
     go_roundw
     case rel => exact ⟨k + 1, by go_num, by omega, take_succ2 hlt hlt2 HTK.out (by have h := eqb_iff.1 HB.out.symm; rw [HX1.out, HX2.out] at h; exact h), by omega, (HS2.out.mod Cx1.out (fun _ _ h => h)), (HT2.out.mod Cx1.out (fun _ _ h => h)), (HML.out.trans Cx1.out (fun _ _ h => h.elim))⟩
     case measure => simp [intOf] <;> omega
   ·skip
    go_upto_region 4 with (fail)
    refine wp_region_U 26 [11, 12, 13, 14] [0, 1, 2, 3] (fun a0 HA0 => ?_)
    have oe0 := ev HA0 0 rfl
    have oe5 := ev HA0 5 rfl
    refine QSeq.pure rfl _ (fun E => ex_move rfl (E.v oe5)) ?_
    refine QSeq.pure rfl _ (fun E => ex_move rfl (E.v oe0)) ?_
    refine QSeq.pure rfl (.int .i64 l.length) (fun E => ex_lenS rfl (E.d 1 0) Try.underlying39) ?_
    refine QSeq.pure rfl (.bool false) (fun E => ex_binE rfl (E.d 0 2) (E.d 2 0) (guard_ints _ _ _ _ _ _) (run_lss_i _ _ _ Try.underlying3) (congrArg Value.bool (decide_eq_false (by omega)))) ?_
    refine QSeq.nil (t' := [_, _, _, _]) rfl ?_
    obtain rfl := HA0.out
    clear HA0 oe0 oe5
    simp only [pz, Act.put, sIB, sCZ, sCS]
    go_upto_region 8 with (fail)
    refine wp_region_U 26 [4] [0] (fun a0 HA0 => ?_)
    refine QSeq.pure rfl (.bool true) (fun E => ex_assign rfl rfl) ?_
    refine QSeq.nil (t' := [_]) rfl ?_
    obtain rfl := HA0.out
    clear HA0
    simp only [pz, Act.put, sIB, sCZ, sCS]
    go_wp2
    go_ret
    exact ⟨ret_bool (take_all (by omega) (by have := HLE.out; omega) HTK.out).symm, HML.out⟩
set_option maxHeartbeats 4000000 in
theorem EqL_Dn : EqsL DnR 57 := by
 intro R R2 v v2 l m w hs ht hB hB2
 obtain ⟨ao, cap, rfl⟩ := hs.shape
 obtain ⟨bo, bcap, rfl⟩ := ht.shape
 have hlm : l.length ≤ maxLen := hs.bd
 rw [maxLen_val] at hlm
 have HS := Lib.hid hs
 have HT := Lib.hid ht
 have HBR := Lib.hid hB
 have HBT := Lib.hid hB2
 clear hs ht hB hB2
 go_enter Try.func57, Try.ntmps57
 go_upto_region 1 with (fail)
 have HM0 := hid (Mod.refl (fun _ => False) w)
 by_cases hl : l.length = m.length
 rotate_left
 ·skip
  go_upto_region 1 with (fail)
  refine wp_region_U 26 [6, 7, 8, 9, 10] [0, 1, 2, 3, 4] (fun a0 HA0 => ?_)
  have oe0 := ev HA0 0 rfl
  have oe1 := ev HA0 1 rfl
  refine QSeq.pure rfl _ (fun E => ex_move rfl (E.v oe0)) ?_
  refine QSeq.pure rfl (.int .i64 l.length) (fun E => ex_lenS rfl (E.d 0 0) Try.underlying119) ?_
  refine QSeq.pure rfl _ (fun E => ex_move rfl (E.v oe1)) ?_
  refine QSeq.pure rfl (.int .i64 m.length) (fun E => ex_lenS rfl (E.d 2 0) Try.underlying119) ?_
  refine QSeq.pure rfl (.bool true) (fun E => ex_binE rfl (E.d 1 2) (E.d 3 0) (guard_ints _ _ _ _ _ _) (run_neq_i _ _ _ Try.underlying3) (congrArg Value.bool (ne_tt (by omega)))) ?_
  refine QSeq.nil (t' := [_, _, _, _, _]) rfl ?_
  obtain rfl := HA0.out
  clear HA0 oe0 oe1
  simp only [pz, Act.put, sIB, sCZ, sCS]
  go_upto_region 2 with (fail)
  refine wp_region_U 26 [4] [0] (fun a0 HA0 => ?_)
  refine QSeq.pure rfl (.bool false) (fun E => ex_assign rfl rfl) ?_
  refine QSeq.nil (t' := [_]) rfl ?_
  obtain rfl := HA0.out
  clear HA0
  simp only [pz, Act.put, sIB, sCZ, sCS]
  go_wp2
  go_ret
  exact ⟨ret_bool (eqb_ne fun e => hl (by rw [e])).symm, HM0.out⟩
 ·skip
  go_upto_region 1 with (fail)
  refine wp_region_U 26 [6, 7, 8, 9, 10] [0, 1, 2, 3, 4] (fun a0 HA0 => ?_)
  have oe0 := ev HA0 0 rfl
  have oe1 := ev HA0 1 rfl
  refine QSeq.pure rfl _ (fun E => ex_move rfl (E.v oe0)) ?_
  refine QSeq.pure rfl (.int .i64 l.length) (fun E => ex_lenS rfl (E.d 0 0) Try.underlying119) ?_
  refine QSeq.pure rfl _ (fun E => ex_move rfl (E.v oe1)) ?_
  refine QSeq.pure rfl (.int .i64 m.length) (fun E => ex_lenS rfl (E.d 2 0) Try.underlying119) ?_
  refine QSeq.pure rfl (.bool false) (fun E => ex_binE rfl (E.d 1 2) (E.d 3 0) (guard_ints _ _ _ _ _ _) (run_neq_i _ _ _ Try.underlying3) (congrArg Value.bool (ne_ff (by omega)))) ?_
  refine QSeq.nil (t' := [_, _, _, _, _]) rfl ?_
  obtain rfl := HA0.out
  clear HA0 oe0 oe1
  simp only [pz, Act.put, sIB, sCZ, sCS]
  go_upto_region 3 with (fail)
  refine wp_region_U 26 [5] [0] (fun a0 HA0 => ?_)
  refine QSeq.pure rfl (.int .i64 0) (fun E => ex_assign rfl rfl) ?_
  refine QSeq.nil (t' := [_]) rfl ?_
  obtain rfl := HA0.out
  clear HA0
  simp only [pz, Act.put, sIB, sCZ, sCS]
  have HLE := Lib.hid hl
  clear hl
  go_wp2
  go_loopw [5] (fun ti wr => ∃ k : Nat, ti = .int .i64 (k : Int) ∧ k ≤ l.length ∧ l.take k = m.take k ∧ w.heap.size ≤ wr.heap.size ∧ RdS DnR R wr (.slice ao l.length cap) l ∧ RdS DnR R2 wr (.slice bo m.length bcap) m ∧ Mod (fun _ => False) w wr) (fun ti _ => l.length - (intOf ti).toNat)
  case atStart => exact ⟨0, rfl, Nat.zero_le _, rfl, Nat.le_refl _, HS.out, HT.out, HM0.out⟩
  case round =>
   obtain ⟨k, rfl, hk, htk, hz, hs, ht, hm⟩ := hrel
   obtain ⟨wl, rfl⟩ : ∃ x, x = wr := ⟨_, rfl⟩
   have HS2 := Lib.hid hs
   have HT2 := Lib.hid ht
   have HML := Lib.hid hm
   have HTK := Lib.hid htk
   clear hs ht hm htk HS HT HM0
   by_cases hlt : k < l.length
   ·have hlt2 : k < m.length := by have := HLE.out; omega
    go_upto_region 4 with (fail)
    refine wp_region_U 26 [11, 12, 13, 14] [0, 1, 2, 3] (fun a0 HA0 => ?_)
    have oe0 := ev HA0 0 rfl
    have oe5 := ev HA0 5 rfl
    refine QSeq.pure rfl _ (fun E => ex_move rfl (E.v oe5)) ?_
    refine QSeq.pure rfl _ (fun E => ex_move rfl (E.v oe0)) ?_
    refine QSeq.pure rfl (.int .i64 l.length) (fun E => ex_lenS rfl (E.d 1 0) Try.underlying119) ?_
    refine QSeq.pure rfl (.bool true) (fun E => ex_binE rfl (E.d 0 2) (E.d 2 0) (guard_ints _ _ _ _ _ _) (run_lss_i _ _ _ Try.underlying3) (congrArg Value.bool (decide_eq_true (by omega)))) ?_
    refine QSeq.nil (t' := [_, _, _, _]) rfl ?_
    obtain rfl := HA0.out
    clear HA0 oe0 oe5
    simp only [pz, Act.put, sIB, sCZ, sCS]
    have hat := HS2.out.at hlt
    obtain ⟨g1, o1, c1, eao, hrg, hrd, hcs⟩ := hat
    subst eao
    obtain ⟨x, hx⟩ : ∃ z, z = l[k] := ⟨_, rfl⟩
    rw [← hx] at hrd
    have HX1 := Lib.hid hx
    have hcl : c1.length = 4 := DnR.len hrd
    have HCL1 := Lib.hid hcl
    have HAT1 := hid (show CellsAt R wl g1 (o1 + k * 4) c1 from ⟨hrg, hcs⟩)
    have HRD1 := Lib.hid hrd
    clear hcl hcs hrd hrg hx
    have hat := HT2.out.at hlt2
    obtain ⟨g2, o2, c2, eao, hrg, hrd, hcs⟩ := hat
    subst eao
    obtain ⟨y, hy⟩ : ∃ z, z = m[k] := ⟨_, rfl⟩
    rw [← hy] at hrd
    have HX2 := Lib.hid hy
    have hcl : c2.length = 4 := DnR.len hrd
    have HCL2 := Lib.hid hcl
    have HAT2 := hid (show CellsAt R2 wl g2 (o2 + k * 4) c2 from ⟨hrg, hcs⟩)
    have HRD2 := Lib.hid hrd
    clear hcl hcs hrd hrg hy
    obtain ⟨b, hb⟩ : ∃ b, b = eqb x y := ⟨_, rfl⟩
    have HB := Lib.hid hb
    clear hb
    obtain ⟨rfl, hok1⟩ := HRD1.out
    obtain ⟨rfl, hok2⟩ := HRD2.out
    have HO1 := Lib.hid hok1
    have HO2 := Lib.hid hok2
    clear hok1 hok2
    clear HRD1
    clear HRD2
    go_upto_region 6 with (fail)
    generalize ha0 : Act.mk _ _ = a0
    have oe0 : a0.eval (.tmp 0) = .slice (some ⟨g1, o1, none⟩) l.length cap := by rw [← ha0]; rfl
    have oe1 : a0.eval (.tmp 1) = .slice (some ⟨g2, o2, none⟩) m.length bcap := by rw [← ha0]; rfl
    have oe5 : a0.eval (.tmp 5) = .int .i64 ((k : Nat) : Int) := by rw [← ha0]; rfl
    have hsz0 : a0.tmps.size = 26 := by rw [← ha0]; rfl
    have HA0 := hid ha0
    clear ha0
    refine wp_region_Q0 26 hsz0 [17, 18, 19, 20, 21, 22, 23, 24, 25] [qi (.slice (some ⟨g1, o1, none⟩) l.length cap), qi (.int .i64 ((k : Nat) : Int)), qi (.pointer (some ⟨g1, o1 + k * 4, none⟩)), qi (.agg x.cells.toArray), qi (.slice (some ⟨g2, o2, none⟩) m.length bcap), qi (.int .i64 ((k : Nat) : Int)), qi (.pointer (some ⟨g2, o2 + k * 4, none⟩)), qi (.agg y.cells.toArray), qi (.bool (!b))] ⟨qi_stable, qi_stable, qi_stable, qi_stable, qi_stable, qi_stable, qi_stable, qi_stable, qi_stable, trivial⟩ [] ⟨?_, ?_, ?_, ?_, ?_, ?_, ?_, ?_, ?_, trivial⟩ ?_
    ·exact stq (fun E => ex_move rfl (E.v oe0))
    ·exact stq (fun E => ex_move rfl (E.v oe5))
    ·exact stq (fun E => ex_idxS (i := k) (s := 4) rfl Try.underlying119 (by kernel_rfl) (E.d 0) (E.d 1) (by first | exact hlt | exact hlt2))
    ·exact stq (fun E => ex_loadA rfl Try.underlying62 rfl (off := o1 + k * 4) (cs := x.cells) (by rw [HCL1.out]; kernel_rfl) (E.d 2) (fun j u hu => ((HAT1.out.mod E.m.old (by intro k h1 h2; have hb := HBR.out k h1; omega))).2 j u hu))
    ·exact stq (fun E => ex_move rfl (E.v oe1))
    ·exact stq (fun E => ex_move rfl (E.v oe5))
    ·exact stq (fun E => ex_idxS (i := k) (s := 4) rfl Try.underlying119 (by kernel_rfl) (E.d 4) (E.d 5) (by first | exact hlt | exact hlt2))
    ·exact stq (fun E => ex_loadA rfl Try.underlying62 rfl (off := o2 + k * 4) (cs := y.cells) (by rw [HCL2.out]; kernel_rfl) (E.d 6) (fun j u hu => ((HAT2.out.mod E.m.old (by intro k h1 h2; have hb := HBT.out k h1; omega))).2 j u hu))
    ·exact stq (fun E => ex_binE rfl (E.d 3) (E.d 7) (agg_guardE _ _ _ _ _ _ (by kernel_rfl) _) (EqW.runN eqW_deny (ki_dn _) (ki_dn _) (dn_iff HO1.out HO2.out) _) (congrArg (fun z => Value.bool (!z)) HB.out.symm))
    intro u6_0 hr
    have zu6_0 := hr.size
    have Cx1 := hid (hr.new (S := (fun _ => False)))
    clear hr
    refine QChain.nil fun vs hl hzz hrows hne => ?_
    obtain ⟨Z, hYZ, hZb, hV⟩ := hzz
    have f0 := fvi hV hl 0
    have f1 := fvi hV hl 1
    have f4 := fvi hV hl 4
    have f5 := fvi hV hl 5
    have f8 := fvi hV hl 8
    rw [show vs = [gw vs 0, gw vs 1, gw vs 2, gw vs 3, gw vs 4, gw vs 5, gw vs 6, gw vs 7, gw vs 8] from (gw_eta hl).trans rfl]
    have ha0 := HA0.out
    subst ha0
    clear HA0 hV hYZ hZb hsz0 hrows hne oe0 oe1 oe5
    simp only [putAll, Act.put, sIB, sCZ, sCS, f0, f1, f4, f5, f8]
    clear hl f0 f1 f4 f5 f8
    cases b with
    | false =>
     go_upto_region 7 with (fail)
     refine wp_region_U 26 [4] [0] (fun a0 HA0 => ?_)
     refine QSeq.pure rfl (.bool false) (fun E => ex_assign rfl rfl) ?_
     refine QSeq.nil (t' := [_]) rfl ?_
     obtain rfl := HA0.out
     clear HA0
     simp only [pz, Act.put, sIB, sCZ, sCS]
     go_wp2
     go_ret
     exact ⟨ret_bool (take_ne hlt hlt2 (fun e => by have h := HB.out; rw [HX1.out, HX2.out, e, eqb_rfl] at h; cases h)).symm, (HML.out.trans Cx1.out (fun _ _ h => h.elim))⟩
    | true =>
     go_upto_region 5 with (fail)
     refine wp_region_U 26 [15, 16, 5] [0, 1, 2] (fun a0 HA0 => ?_)
     have oe5 := ev HA0 5 rfl
     refine QSeq.pure rfl _ (fun E => ex_move rfl (E.y 2 oe5)) ?_
     refine QSeq.pure rfl (.int .i64 (((k : Nat) : Int) + 1)) (fun E => ex_binE rfl (E.d 0 0) rfl (guard_ints _ _ _ _ _ _) (run_add_i _ _ Try.underlying3) (congrArg (Value.int .i64) (IntWalk.i64_in _ (by omega)))) ?_
     refine QSeq.pure rfl _ (fun E => ex_assign rfl (E.d 1 0)) ?_
     refine QSeq.nil (t' := [_, _, _]) rfl ?_
     obtain rfl := HA0.out
     clear HA0 oe5
     simp only [pz, Act.put, sIB, sCZ, sCS]
     go_wp2
     go_roundw
     case rel => exact ⟨k + 1, by go_num, by omega, take_succ2 hlt hlt2 HTK.out (by have h := eqb_iff.1 HB.out.symm; rw [HX1.out, HX2.out] at h; exact h), by omega, (HS2.out.mod Cx1.out (fun _ _ h => h)), (HT2.out.mod Cx1.out (fun _ _ h => h)), (HML.out.trans Cx1.out (fun _ _ h => h.elim))⟩
     case measure => simp [intOf] <;> omega
   ·skip
    go_upto_region 4 with (fail)
    refine wp_region_U 26 [11, 12, 13, 14] [0, 1, 2, 3] (fun a0 HA0 => ?_)
    have oe0 := ev HA0 0 rfl
    have oe5 := ev HA0 5 rfl
    refine QSeq.pure rfl _ (fun E => ex_move rfl (E.v oe5)) ?_
    refine QSeq.pure rfl _ (fun E => ex_move rfl (E.v oe0)) ?_
    refine QSeq.pure rfl (.int .i64 l.length) (fun E => ex_lenS rfl (E.d 1 0) Try.underlying119) ?_
    refine QSeq.pure rfl (.bool false) (fun E => ex_binE rfl (E.d 0 2) (E.d 2 0) (guard_ints _ _ _ _ _ _) (run_lss_i _ _ _ Try.underlying3) (congrArg Value.bool (decide_eq_false (by omega)))) ?_
    refine QSeq.nil (t' := [_, _, _, _]) rfl ?_
    obtain rfl := HA0.out
    clear HA0 oe0 oe5
    simp only [pz, Act.put, sIB, sCZ, sCS]
    go_upto_region 8 with (fail)
    refine wp_region_U 26 [4] [0] (fun a0 HA0 => ?_)
    refine QSeq.pure rfl (.bool true) (fun E => ex_assign rfl rfl) ?_
    refine QSeq.nil (t' := [_]) rfl ?_
    obtain rfl := HA0.out
    clear HA0
    simp only [pz, Act.put, sIB, sCZ, sCS]
    go_wp2
    go_ret
    exact ⟨ret_bool (take_all (by omega) (by have := HLE.out; omega) HTK.out).symm, HML.out⟩
set_option maxHeartbeats 4000000 in
theorem Eq_Ce : Eqs CeR 23 := by
 intro R R2 cs ds x y w hx hy hB hB2
 obtain ⟨vx_l, rfl, hokx, hx_l⟩ := hx
 obtain ⟨ax_l, kx_l, rfl⟩ := hx_l.shape
 have Hx_l := Lib.hid hx_l
 clear hx_l
 have HOKx := Lib.hid hokx
 clear hokx
 obtain ⟨vy_l, rfl, hoky, hy_l⟩ := hy
 obtain ⟨ay_l, ky_l, rfl⟩ := hy_l.shape
 have Hy_l := Lib.hid hy_l
 clear hy_l
 have HOKy := Lib.hid hoky
 clear hoky
 have HBR := Lib.hid hB
 have HBT := Lib.hid hB2
 clear hB hB2
 go_enter Try.func23, Try.ntmps23
 go_upto_region 1 with (fail)
 obtain ⟨w1, hw1⟩ : ∃ zz, zz = ((w.alloc (.cells (x.cells (.slice ax_l x.l.length kx_l) : List Value).toArray 41)).alloc (.cells (y.cells (.slice ay_l y.l.length ky_l) : List Value).toArray 41)) := ⟨_, rfl⟩
 change Code.wp _ _ _ _ ((w.alloc (.cells (x.cells (.slice ax_l x.l.length kx_l) : List Value).toArray 41)).alloc (.cells (y.cells (.slice ay_l y.l.length ky_l) : List Value).toArray 41))
 rw [← hw1]
 have HB2 := hid (show Cs w1 (w.heap.size) (x.cells (.slice ax_l x.l.length kx_l) : List Value).toArray 41 by rw [hw1]; exact (Cs.new _ _ _).alloc _)
 have HB3 := hid (show Cs w1 (w.heap.size + 1) (y.cells (.slice ay_l y.l.length ky_l) : List Value).toArray 41 by rw [hw1]; exact Cs_newN _ _ _ (by simp))
 have hm : Mod (fun _ => False) w w1 := by rw [hw1]; exact ((Mod.refl _ _).alloc _).alloc _
 have HM0 := hid (show Mod (fun _ => False) w w1 from hm.mono (fun _ _ h => h.elim))
 have hs1 : w1.heap.size = w.heap.size + 2 := by rw [hw1]; simp
 have Hx1 := hid (Hx_l.out.mod hm (fun _ _ h => h))
 clear Hx_l
 have Hx2 := hid (Hy_l.out.mod hm (fun _ _ h => h))
 clear Hy_l
 clear hw1 hm
 go_upto_region 1 with (fail)
 refine wp_region_U 17 [5, 6, 7, 8, 9, 10, 11, 12, 13, 14, 15, 16, 4] [0, 1, 2, 3, 4, 5, 6, 7, 8, 9, 10, 11, 12] (fun a0 HA0 => ?_)
 have oe2 := ev HA0 2 rfl
 have oe3 := ev HA0 3 rfl
 refine QSeq.pure rfl (.pointer (some ⟨w.heap.size, 0, none⟩)) (fun E => ex_field rfl Try.underlying41 rfl (by kernel_rfl) (E.v oe2)) ?_
 refine QSeq.pure rfl _ (fun E => ex_loadA rfl Try.underlying35 rfl (off := 0) (cs := x.c.cells) (by rw [Cm.len HOKx.out.2.1]; exact size_commit) (E.d 0 0) (Cs.midA (pre := []) (mid := x.c.cells) (post := [.slice ax_l x.l.length kx_l]) HB2.out rfl)) ?_
 refine QSeq.pure rfl (.pointer (some ⟨w.heap.size + 1, 0, none⟩)) (fun E => ex_field rfl Try.underlying41 rfl (by kernel_rfl) (E.v oe3)) ?_
 refine QSeq.pure rfl _ (fun E => ex_loadA rfl Try.underlying35 rfl (off := 0) (cs := y.c.cells) (by rw [Cm.len HOKy.out.2.1]; exact size_commit) (E.d 2 0) (Cs.midA (pre := []) (mid := y.c.cells) (post := [.slice ay_l y.l.length ky_l]) HB3.out rfl)) ?_
 refine QSeq.pure rfl (.bool (eqb x.c y.c)) (fun E => ex_binE rfl (E.d 1 2) (E.d 3 0) (agg_guardE _ _ _ _ _ _ (by kernel_rfl) _) (EqW.run eqW_commit (ki_cm HOKx.out.2.1) (ki_cm HOKy.out.2.1) (cm_iff HOKx.out HOKy.out) _) rfl) ?_
 refine QSeq.pure rfl _ (fun E => ex_move rfl (E.d 4 0)) ?_
 refine QSeq.may (b := (eqb x.c y.c)) rfl (.pointer (some ⟨w.heap.size, 37, none⟩)) (fun E => ((wanted_of rfl rfl (E.sz 10 (by decide)) (E.d 5 0)).trans (beq_t _))) (fun E hb => ex_field rfl Try.underlying41 rfl (by kernel_rfl) (E.v oe2)) ?_
 intro v1_6 hw
 have hv1_6 := hid hw
 clear hw
 refine QSeq.may (b := (eqb x.c y.c)) rfl (.slice ax_l x.l.length kx_l) (fun E => ((wanted_of rfl rfl (E.sz 10 (by decide)) (E.d 5 1)).trans (beq_t _))) (fun E hb => ex_load1 rfl Try.underlying39 rfl ((E.q 6 0 hv1_6.out).1 hb) (Cs.post1 (pre := []) (mid := x.c.cells) (post := [.slice ax_l x.l.length kx_l]) (m := 37) (k := 0) HB2.out (Cm.len HOKx.out.2.1) rfl rfl)) ?_
 intro v1_7 hw
 have hv1_7 := hid hw
 clear hw
 refine QSeq.may (b := (eqb x.c y.c)) rfl (.pointer (some ⟨w.heap.size + 1, 37, none⟩)) (fun E => ((wanted_of rfl rfl (E.sz 10 (by decide)) (E.d 5 2)).trans (beq_t _))) (fun E hb => ex_field rfl Try.underlying41 rfl (by kernel_rfl) (E.v oe3)) ?_
 intro v1_8 hw
 have hv1_8 := hid hw
 clear hw
 refine QSeq.may (b := (eqb x.c y.c)) rfl (.slice ay_l y.l.length ky_l) (fun E => ((wanted_of rfl rfl (E.sz 10 (by decide)) (E.d 5 3)).trans (beq_t _))) (fun E hb => ex_load1 rfl Try.underlying39 rfl ((E.q 8 0 hv1_8.out).1 hb) (Cs.post1 (pre := []) (mid := y.c.cells) (post := [.slice ay_l y.l.length ky_l]) (m := 37) (k := 0) HB3.out (Cm.len HOKy.out.2.1) rfl rfl)) ?_
 intro v1_9 hw
 have hv1_9 := hid hw
 clear hw
 refine QSeq.mayCall (b := (eqb x.c y.c)) rfl (.bool (eqb x.l y.l)) (args := #[.slice ax_l x.l.length kx_l, .slice ay_l y.l.length ky_l]) (fun E => ((wanted_of rfl rfl (E.sz 10 (by decide)) (E.d 5 4)).trans (beq_t _))) rfl Try.func40 (fun E hb => args2 ((E.q 7 2 hv1_7.out).1 hb) ((E.q 9 0 hv1_9.out).1 hb)) (fun hb => EqL_St _ _ _ _ _ _ _ Hx1.out Hx2.out (by intro k h1; have hb := HBR.out k h1; (try have := hm.size); omega) (by intro k h1; have hb := HBT.out k h1; (try have := hm.size); omega)) ?_
 intro v1_10 u1_10 hw hm
 have hv1_10 := hid hw
 clear hw
 have zu1_10 := hm.size
 have Cx3 := hid (show Mod (fun _ => False) w1 u1_10 from hm)
 clear hm
 refine QSeq.pure rfl (.bool ((eqb x.c y.c) && (eqb x.l y.l))) (fun E => ex_pickE rfl (E.d 5 5) rfl rfl (and_val fun hb => (E.q 10 0 hv1_10.out).1 hb)) ?_
 refine QSeq.pure rfl _ (fun E => ex_assign rfl (E.d 11 0)) ?_
 clear hv1_6 hv1_7 hv1_8 hv1_9 hv1_10
 refine QSeq.nil (t' := [_, _, _, _, _, _, _, _, _, _, _, _, _]) rfl ?_
 obtain rfl := HA0.out
 clear HA0 oe2 oe3
 simp only [pz, Act.put, sIB, sCZ, sCS]
 go_wp2
 go_ret
 exact ⟨ret_bool (ce_eqb x y), (HM0.out.trans Cx3.out (fun _ _ h => h.elim))⟩
set_option maxHeartbeats 4000000 in
theorem EqL_Ce : EqsL CeR 41 := by
 intro R R2 v v2 l m w hs ht hB hB2
 obtain ⟨ao, cap, rfl⟩ := hs.shape
 obtain ⟨bo, bcap, rfl⟩ := ht.shape
 have hlm : l.length ≤ maxLen := hs.bd
 rw [maxLen_val] at hlm
 have HS := Lib.hid hs
 have HT := Lib.hid ht
 have HBR := Lib.hid hB
 have HBT := Lib.hid hB2
 clear hs ht hB hB2
 go_enter Try.func41, Try.ntmps41
 go_upto_region 1 with (fail)
 have HM0 := hid (Mod.refl (fun _ => False) w)
 by_cases hl : l.length = m.length
 rotate_left
 ·skip
  go_upto_region 1 with (fail)
  refine wp_region_U 27 [6, 7, 8, 9, 10] [0, 1, 2, 3, 4] (fun a0 HA0 => ?_)
  have oe0 := ev HA0 0 rfl
  have oe1 := ev HA0 1 rfl
  refine QSeq.pure rfl _ (fun E => ex_move rfl (E.v oe0)) ?_
  refine QSeq.pure rfl (.int .i64 l.length) (fun E => ex_lenS rfl (E.d 0 0) Try.underlying44) ?_
  refine QSeq.pure rfl _ (fun E => ex_move rfl (E.v oe1)) ?_
  refine QSeq.pure rfl (.int .i64 m.length) (fun E => ex_lenS rfl (E.d 2 0) Try.underlying44) ?_
  refine QSeq.pure rfl (.bool true) (fun E => ex_binE rfl (E.d 1 2) (E.d 3 0) (guard_ints _ _ _ _ _ _) (run_neq_i _ _ _ Try.underlying3) (congrArg Value.bool (ne_tt (by omega)))) ?_
  refine QSeq.nil (t' := [_, _, _, _, _]) rfl ?_
  obtain rfl := HA0.out
  clear HA0 oe0 oe1
  simp only [pz, Act.put, sIB, sCZ, sCS]
  go_upto_region 2 with (fail)
  refine wp_region_U 27 [4] [0] (fun a0 HA0 => ?_)
  refine QSeq.pure rfl (.bool false) (fun E => ex_assign rfl rfl) ?_
  refine QSeq.nil (t' := [_]) rfl ?_
  obtain rfl := HA0.out
  clear HA0
  simp only [pz, Act.put, sIB, sCZ, sCS]
  go_wp2
  go_ret
  exact ⟨ret_bool (eqb_ne fun e => hl (by rw [e])).symm, HM0.out⟩
 ·skip
  go_upto_region 1 with (fail)
  refine wp_region_U 27 [6, 7, 8, 9, 10] [0, 1, 2, 3, 4] (fun a0 HA0 => ?_)
  have oe0 := ev HA0 0 rfl
  have oe1 := ev HA0 1 rfl
  refine QSeq.pure rfl _ (fun E => ex_move rfl (E.v oe0)) ?_
  refine QSeq.pure rfl (.int .i64 l.length) (fun E => ex_lenS rfl (E.d 0 0) Try.underlying44) ?_
  refine QSeq.pure rfl _ (fun E => ex_move rfl (E.v oe1)) ?_
  refine QSeq.pure rfl (.int .i64 m.length) (fun E => ex_lenS rfl (E.d 2 0) Try.underlying44) ?_
  refine QSeq.pure rfl (.bool false) (fun E => ex_binE rfl (E.d 1 2) (E.d 3 0) (guard_ints _ _ _ _ _ _) (run_neq_i _ _ _ Try.underlying3) (congrArg Value.bool (ne_ff (by omega)))) ?_
  refine QSeq.nil (t' := [_, _, _, _, _]) rfl ?_
  obtain rfl := HA0.out
  clear HA0 oe0 oe1
  simp only [pz, Act.put, sIB, sCZ, sCS]
  go_upto_region 3 with (fail)
  refine wp_region_U 27 [11, 12, 13] [0, 1, 2] (fun a0 HA0 => ?_)
  have oe0 := ev HA0 0 rfl
  refine QSeq.pure rfl _ (fun E => ex_move rfl (E.v oe0)) ?_
  refine QSeq.pure rfl (.int .i64 l.length) (fun E => ex_lenS rfl (E.d 0 0) Try.underlying44) ?_
  refine QSeq.pure rfl (.int .i64 0) (fun E => ex_move rfl rfl) ?_
  refine QSeq.nil (t' := [_, _, _]) rfl ?_
  obtain rfl := HA0.out
  clear HA0 oe0
  simp only [pz, Act.put, sIB, sCZ, sCS]
  have HLE := Lib.hid hl
  clear hl
  go_wp2
  go_loopw [13, 5] (fun ti t5 wr => ∃ k : Nat, ti = .int .i64 (k : Int) ∧ k ≤ l.length ∧ l.take k = m.take k ∧ w.heap.size ≤ wr.heap.size ∧ RdS CeR R wr (.slice ao l.length cap) l ∧ RdS CeR R2 wr (.slice bo m.length bcap) m ∧ Mod (fun _ => False) w wr) (fun ti t5 _ => l.length - (intOf ti).toNat)
  case atStart => exact ⟨0, rfl, Nat.zero_le _, rfl, Nat.le_refl _, HS.out, HT.out, HM0.out⟩
  case round =>
   obtain ⟨k, rfl, hk, htk, hz, hs, ht, hm⟩ := hrel
   obtain ⟨wl, rfl⟩ : ∃ x, x = wr := ⟨_, rfl⟩
   have HS2 := Lib.hid hs
   have HT2 := Lib.hid ht
   have HML := Lib.hid hm
   have HTK := Lib.hid htk
   clear hs ht hm htk HS HT HM0
   by_cases hlt : k < l.length
   ·have hlt2 : k < m.length := by have := HLE.out; omega
    go_upto_region 4 with (fail)
    refine wp_region_U 27 [14] [0] (fun a0 HA0 => ?_)
    have oe12 := ev HA0 12 rfl
    have oe13 := ev HA0 13 rfl
    refine QSeq.pure rfl (.bool true) (fun E => ex_binE rfl (E.v oe13) (E.v oe12) (guard_ints _ _ _ _ _ _) (run_lss_i _ _ _ Try.underlying3) (congrArg Value.bool (decide_eq_true (by omega)))) ?_
    refine QSeq.nil (t' := [_]) rfl ?_
    obtain rfl := HA0.out
    clear HA0 oe12 oe13
    simp only [pz, Act.put, sIB, sCZ, sCS]
    go_upto_region 5 with (fail)
    refine wp_region_U 27 [15, 5] [0, 1] (fun a0 HA0 => ?_)
    have oe13 := ev HA0 13 rfl
    refine QSeq.pure rfl _ (fun E => ex_move rfl (E.v oe13)) ?_
    refine QSeq.pure rfl _ (fun E => ex_assign rfl (E.d 0 0)) ?_
    refine QSeq.nil (t' := [_, _]) rfl ?_
    obtain rfl := HA0.out
    clear HA0 oe13
    simp only [pz, Act.put, sIB, sCZ, sCS]
    have hat := HS2.out.at hlt
    obtain ⟨g1, o1, c1, eao, hrg, hrd, hcs⟩ := hat
    subst eao
    obtain ⟨x, hx⟩ : ∃ z, z = l[k] := ⟨_, rfl⟩
    rw [← hx] at hrd
    have HX1 := Lib.hid hx
    have hcl : c1.length = 38 := CeR.len hrd
    have HCL1 := Lib.hid hcl
    have HAT1 := hid (show CellsAt R wl g1 (o1 + k * 38) c1 from ⟨hrg, hcs⟩)
    have HRD1 := Lib.hid hrd
    clear hcl hcs hrd hrg hx
    have hat := HT2.out.at hlt2
    obtain ⟨g2, o2, c2, eao, hrg, hrd, hcs⟩ := hat
    subst eao
    obtain ⟨y, hy⟩ : ∃ z, z = m[k] := ⟨_, rfl⟩
    rw [← hy] at hrd
    have HX2 := Lib.hid hy
    have hcl : c2.length = 38 := CeR.len hrd
    have HCL2 := Lib.hid hcl
    have HAT2 := hid (show CellsAt R2 wl g2 (o2 + k * 38) c2 from ⟨hrg, hcs⟩)
    have HRD2 := Lib.hid hrd
    clear hcl hcs hrd hrg hy
    obtain ⟨b, hb⟩ : ∃ b, b = eqb x y := ⟨_, rfl⟩
    have HB := Lib.hid hb
    clear hb
    go_upto_region 6 with (fail)
    generalize ha0 : Act.mk _ _ = a0
    have oe0 : a0.eval (.tmp 0) = .slice (some ⟨g1, o1, none⟩) l.length cap := by rw [← ha0]; rfl
    have oe1 : a0.eval (.tmp 1) = .slice (some ⟨g2, o2, none⟩) m.length bcap := by rw [← ha0]; rfl
    have oe5 : a0.eval (.tmp 5) = .int .i64 ((k : Nat) : Int) := by rw [← ha0]; rfl
    have hsz0 : a0.tmps.size = 27 := by rw [← ha0]; rfl
    have HA0 := hid ha0
    clear ha0
    refine wp_region_Q0 27 hsz0 [16, 17, 18, 19, 20, 21, 22, 23, 24, 25] [qi (.slice (some ⟨g1, o1, none⟩) l.length cap), qi (.int .i64 ((k : Nat) : Int)), qi (.pointer (some ⟨g1, o1 + k * 38, none⟩)), qi (.agg c1.toArray), qi (.slice (some ⟨g2, o2, none⟩) m.length bcap), qi (.int .i64 ((k : Nat) : Int)), qi (.pointer (some ⟨g2, o2 + k * 38, none⟩)), qi (.agg c2.toArray), qi (.bool b), qi (.bool (!b))] ⟨qi_stable, qi_stable, qi_stable, qi_stable, qi_stable, qi_stable, qi_stable, qi_stable, qi_stable, qi_stable, trivial⟩ [8] ⟨?_, ?_, ?_, ?_, ?_, ?_, ?_, ?_, ?_, ?_, trivial⟩ ?_
    ·exact stq (fun E => ex_move rfl (E.v oe0))
    ·exact stq (fun E => ex_move rfl (E.v oe5))
    ·exact stq (fun E => ex_idxS (i := k) (s := 38) rfl Try.underlying44 (by kernel_rfl) (E.d 0) (E.d 1) (by first | exact hlt | exact hlt2))
    ·exact stq (fun E => ex_loadA rfl Try.underlying41 rfl (off := o1 + k * 38) (cs := c1) (by rw [HCL1.out]; kernel_rfl) (E.d 2) (fun j u hu => ((HAT1.out.mod E.m.old (by intro k h1 h2; have hb := HBR.out k h1; omega))).2 j u hu))
    ·exact stq (fun E => ex_move rfl (E.v oe1))
    ·exact stq (fun E => ex_move rfl (E.v oe5))
    ·exact stq (fun E => ex_idxS (i := k) (s := 38) rfl Try.underlying44 (by kernel_rfl) (E.d 4) (E.d 5) (by first | exact hlt | exact hlt2))
    ·exact stq (fun E => ex_loadA rfl Try.underlying41 rfl (off := o2 + k * 38) (cs := c2) (by rw [HCL2.out]; kernel_rfl) (E.d 6) (fun j u hu => ((HAT2.out.mod E.m.old (by intro k h1 h2; have hb := HBT.out k h1; omega))).2 j u hu))
    ·exact stepq_chain rfl
    ·exact stq (fun E => ex_not rfl (E.d 8))
    intro u6_0 hr
    have zu6_0 := hr.size
    have Cx1 := hid (hr.new (S := (fun _ => False)))
    clear hr
    refine QChain.go fun Z act E => ?_
    refine qc_callF (args := #[.agg c1.toArray, .agg c2.toArray]) rfl (wanted_none rfl) rfl Try.func23 (args2 (E.d 3) (E.d 7)) (HB.out.symm ▸ Eq_Ce _ _ _ _ _ _ _ (HRD1.out.mod Cx1.out (fun _ _ h => h)) (HRD2.out.mod Cx1.out (fun _ _ h => h)) (by intro k h1; have hb := HBR.out k h1; omega) (by intro k h1; have hb := HBT.out k h1; omega)) ?_
    rintro e u6_1a ⟨rfl, hm⟩
    have zu6_1a := hm.size
    refine ⟨_, rfl, hm.mono (fun _ _ h => h.elim), (fun _ => rfl), ?_⟩
    intro u6_1 hr
    have zu6_1 := hr.size
    have Cx2 := hid (Cx1.out.go hm hr)
    clear Cx1 hm hr Z act E
    refine QChain.nil fun vs hl hzz hrows hne => ?_
    obtain ⟨Z, hYZ, hZb, hV⟩ := hzz
    have f0 := fvi hV hl 0
    have f1 := fvi hV hl 1
    have f4 := fvi hV hl 4
    have f5 := fvi hV hl 5
    have f8 := fvi hV hl 8
    have f9 := fvi hV hl 9
    rw [show vs = [gw vs 0, gw vs 1, gw vs 2, gw vs 3, gw vs 4, gw vs 5, gw vs 6, gw vs 7, gw vs 8, gw vs 9] from (gw_eta hl).trans rfl]
    have ha0 := HA0.out
    subst ha0
    clear HA0 hV hYZ hZb hsz0 hrows hne oe0 oe1 oe5
    simp only [putAll, Act.put, sIB, sCZ, sCS, f0, f1, f4, f5, f8, f9]
    clear hl f0 f1 f4 f5 f8 f9
    cases b with
    | false =>
     go_upto_region 7 with (fail)
     refine wp_region_U 27 [4] [0] (fun a0 HA0 => ?_)
     refine QSeq.pure rfl (.bool false) (fun E => ex_assign rfl rfl) ?_
     refine QSeq.nil (t' := [_]) rfl ?_
     obtain rfl := HA0.out
     clear HA0
     simp only [pz, Act.put, sIB, sCZ, sCS]
     go_wp2
     go_ret
     exact ⟨ret_bool (take_ne hlt hlt2 (fun e => by have h := HB.out; rw [HX1.out, HX2.out, e, eqb_rfl] at h; cases h)).symm, (HML.out.trans Cx2.out (fun _ _ h => h.elim))⟩
    | true =>
     go_upto_region 8 with (fail)
     refine wp_region_U 27 [26, 13] [0, 1] (fun a0 HA0 => ?_)
     have oe13 := ev HA0 13 rfl
     refine QSeq.pure rfl (.int .i64 (((k : Nat) : Int) + 1)) (fun E => ex_binE rfl (E.y 1 oe13) rfl (guard_ints _ _ _ _ _ _) (run_add_i _ _ Try.underlying3) (congrArg (Value.int .i64) (IntWalk.i64_in _ (by omega)))) ?_
     refine QSeq.pure rfl _ (fun E => ex_move rfl (E.d 0 0)) ?_
     refine QSeq.nil (t' := [_, _]) rfl ?_
     obtain rfl := HA0.out
     clear HA0 oe13
     simp only [pz, Act.put, sIB, sCZ, sCS]
     go_wp2
     go_roundw
     case rel => exact ⟨k + 1, by go_num, by omega, take_succ2 hlt hlt2 HTK.out (by have h := eqb_iff.1 HB.out.symm; rw [HX1.out, HX2.out] at h; exact h), by omega, (HS2.out.mod Cx2.out (fun _ _ h => h)), (HT2.out.mod Cx2.out (fun _ _ h => h)), (HML.out.trans Cx2.out (fun _ _ h => h.elim))⟩
     case measure => simp [intOf] <;> omega
   ·skip
    go_upto_region 4 with (fail)
    refine wp_region_U 27 [14] [0] (fun a0 HA0 => ?_)
    have oe12 := ev HA0 12 rfl
    have oe13 := ev HA0 13 rfl
    refine QSeq.pure rfl (.bool false) (fun E => ex_binE rfl (E.v oe13) (E.v oe12) (guard_ints _ _ _ _ _ _) (run_lss_i _ _ _ Try.underlying3) (congrArg Value.bool (decide_eq_false (by omega)))) ?_
    refine QSeq.nil (t' := [_]) rfl ?_
    obtain rfl := HA0.out
    clear HA0 oe12 oe13
    simp only [pz, Act.put, sIB, sCZ, sCS]
    go_upto_region 9 with (fail)
    refine wp_region_U 27 [4] [0] (fun a0 HA0 => ?_)
    refine QSeq.pure rfl (.bool true) (fun E => ex_assign rfl rfl) ?_
    refine QSeq.nil (t' := [_]) rfl ?_
    obtain rfl := HA0.out
    clear HA0
    simp only [pz, Act.put, sIB, sCZ, sCS]
    go_wp2
    go_ret
    exact ⟨ret_bool (take_all (by omega) (by have := HLE.out; omega) HTK.out).symm, HML.out⟩
set_option maxHeartbeats 4000000 in
theorem Eq_Pm : Eqs PmR 24 := by
 intro R R2 cs ds x y w hx hy hB hB2
 obtain ⟨vx_l, rfl, hokx, hx_l⟩ := hx
 obtain ⟨ax_l, kx_l, rfl⟩ := hx_l.shape
 have Hx_l := Lib.hid hx_l
 clear hx_l
 have HOKx := Lib.hid hokx
 clear hokx
 obtain ⟨vy_l, rfl, hoky, hy_l⟩ := hy
 obtain ⟨ay_l, ky_l, rfl⟩ := hy_l.shape
 have Hy_l := Lib.hid hy_l
 clear hy_l
 have HOKy := Lib.hid hoky
 clear hoky
 have HBR := Lib.hid hB
 have HBT := Lib.hid hB2
 clear hB hB2
 go_enter Try.func24, Try.ntmps24
 go_upto_region 1 with (fail)
 obtain ⟨w1, hw1⟩ : ∃ zz, zz = ((w.alloc (.cells (x.cells (.slice ax_l x.l.length kx_l) : List Value).toArray 46)).alloc (.cells (y.cells (.slice ay_l y.l.length ky_l) : List Value).toArray 46)) := ⟨_, rfl⟩
 change Code.wp _ _ _ _ ((w.alloc (.cells (x.cells (.slice ax_l x.l.length kx_l) : List Value).toArray 46)).alloc (.cells (y.cells (.slice ay_l y.l.length ky_l) : List Value).toArray 46))
 rw [← hw1]
 have HB2 := hid (show Cs w1 (w.heap.size) (x.cells (.slice ax_l x.l.length kx_l) : List Value).toArray 46 by rw [hw1]; exact (Cs.new _ _ _).alloc _)
 have HB3 := hid (show Cs w1 (w.heap.size + 1) (y.cells (.slice ay_l y.l.length ky_l) : List Value).toArray 46 by rw [hw1]; exact Cs_newN _ _ _ (by simp))
 have hm : Mod (fun _ => False) w w1 := by rw [hw1]; exact ((Mod.refl _ _).alloc _).alloc _
 have HM0 := hid (show Mod (fun _ => False) w w1 from hm.mono (fun _ _ h => h.elim))
 have hs1 : w1.heap.size = w.heap.size + 2 := by rw [hw1]; simp
 have Hx1 := hid (Hx_l.out.mod hm (fun _ _ h => h))
 clear Hx_l
 have Hx2 := hid (Hy_l.out.mod hm (fun _ _ h => h))
 clear Hy_l
 clear hw1 hm
 go_upto_region 1 with (fail)
 refine wp_region_U 38 [5, 6, 7, 8, 9, 10, 11, 12, 13, 14, 15, 16, 17, 18, 19, 20, 21, 22, 23, 24, 25, 26, 27, 28, 29, 30, 31, 32, 33, 34, 35, 36, 37, 4] [0, 1, 2, 3, 4, 5, 6, 7, 8, 9, 10, 11, 12, 13, 14, 15, 16, 17, 18, 19, 20, 21, 22, 23, 24, 25, 26, 27, 28, 29, 30, 31, 32, 33] (fun a0 HA0 => ?_)
 have oe2 := ev HA0 2 rfl
 have oe3 := ev HA0 3 rfl
 refine QSeq.pure rfl (.pointer (some ⟨w.heap.size, 0, none⟩)) (fun E => ex_field rfl Try.underlying46 rfl (by kernel_rfl) (E.v oe2)) ?_
 refine QSeq.pure rfl _ (fun E => ex_load1 rfl Try.underlying3 rfl (E.d 0 0) (Cs.lit1 HB2.out rfl)) ?_
 refine QSeq.pure rfl (.pointer (some ⟨w.heap.size + 1, 0, none⟩)) (fun E => ex_field rfl Try.underlying46 rfl (by kernel_rfl) (E.v oe3)) ?_
 refine QSeq.pure rfl _ (fun E => ex_load1 rfl Try.underlying3 rfl (E.d 2 0) (Cs.lit1 HB3.out rfl)) ?_
 refine QSeq.pure rfl (.bool (x.rp == y.rp)) (fun E => ex_bin rfl (E.d 1 2) (E.d 3 0) (guard_ints _ _ _ _ _ _) (run_eql_i _ _ _ Try.underlying3)) ?_
 refine QSeq.pure rfl _ (fun E => ex_move rfl (E.d 4 0)) ?_
 refine QSeq.may (b := (x.rp == y.rp)) rfl (.pointer (some ⟨w.heap.size, 1, none⟩)) (fun E => ((wanted_of rfl rfl (E.sz 10 (by decide)) (E.d 5 0)).trans (beq_t _))) (fun E hb => ex_field rfl Try.underlying46 rfl (by kernel_rfl) (E.v oe2)) ?_
 intro v1_6 hw
 have hv1_6 := hid hw
 clear hw
 refine QSeq.may (b := (x.rp == y.rp)) rfl (.int .i64 x.ep) (fun E => ((wanted_of rfl rfl (E.sz 10 (by decide)) (E.d 5 1)).trans (beq_t _))) (fun E hb => ex_load1 rfl Try.underlying3 rfl ((E.q 6 0 hv1_6.out).1 hb) (Cs.lit1 HB2.out rfl)) ?_
 intro v1_7 hw
 have hv1_7 := hid hw
 clear hw
 refine QSeq.may (b := (x.rp == y.rp)) rfl (.pointer (some ⟨w.heap.size + 1, 1, none⟩)) (fun E => ((wanted_of rfl rfl (E.sz 10 (by decide)) (E.d 5 2)).trans (beq_t _))) (fun E hb => ex_field rfl Try.underlying46 rfl (by kernel_rfl) (E.v oe3)) ?_
 intro v1_8 hw
 have hv1_8 := hid hw
 clear hw
 refine QSeq.may (b := (x.rp == y.rp)) rfl (.int .i64 y.ep) (fun E => ((wanted_of rfl rfl (E.sz 10 (by decide)) (E.d 5 3)).trans (beq_t _))) (fun E hb => ex_load1 rfl Try.underlying3 rfl ((E.q 8 0 hv1_8.out).1 hb) (Cs.lit1 HB3.out rfl)) ?_
 intro v1_9 hw
 have hv1_9 := hid hw
 clear hw
 refine QSeq.may (b := (x.rp == y.rp)) rfl (.bool (x.ep == y.ep)) (fun E => ((wanted_of rfl rfl (E.sz 10 (by decide)) (E.d 5 4)).trans (beq_t _))) (fun E hb => ex_bin rfl ((E.q 7 2 hv1_7.out).1 hb) ((E.q 9 0 hv1_9.out).1 hb) (guard_ints _ _ _ _ _ _) (run_eql_i _ _ _ Try.underlying3)) ?_
 intro v1_10 hw
 have hv1_10 := hid hw
 clear hw
 refine QSeq.pure rfl (.bool ((x.rp == y.rp) && (x.ep == y.ep))) (fun E => ex_pickE rfl (E.d 5 5) rfl rfl (and_val fun hb => (E.q 10 0 hv1_10.out).1 hb)) ?_
 refine QSeq.pure rfl _ (fun E => ex_move rfl (E.d 11 0)) ?_
 refine QSeq.may (b := ((x.rp == y.rp) && (x.ep == y.ep))) rfl (.pointer (some ⟨w.heap.size, 2, none⟩)) (fun E => ((wanted_of rfl rfl (E.sz 17 (by decide)) (E.d 12 0)).trans (beq_t _))) (fun E hb => ex_field rfl Try.underlying46 rfl (by kernel_rfl) (E.v oe2)) ?_
 intro v1_13 hw
 have hv1_13 := hid hw
 clear hw
 refine QSeq.may (b := ((x.rp == y.rp) && (x.ep == y.ep))) rfl (.int .u64 (x.fl : Nat)) (fun E => ((wanted_of rfl rfl (E.sz 17 (by decide)) (E.d 12 1)).trans (beq_t _))) (fun E hb => ex_load1 rfl Try.underlying36 rfl ((E.q 13 0 hv1_13.out).1 hb) (Cs.lit1 HB2.out rfl)) ?_
 intro v1_14 hw
 have hv1_14 := hid hw
 clear hw
 refine QSeq.may (b := ((x.rp == y.rp) && (x.ep == y.ep))) rfl (.pointer (some ⟨w.heap.size + 1, 2, none⟩)) (fun E => ((wanted_of rfl rfl (E.sz 17 (by decide)) (E.d 12 2)).trans (beq_t _))) (fun E hb => ex_field rfl Try.underlying46 rfl (by kernel_rfl) (E.v oe3)) ?_
 intro v1_15 hw
 have hv1_15 := hid hw
 clear hw
 refine QSeq.may (b := ((x.rp == y.rp) && (x.ep == y.ep))) rfl (.int .u64 (y.fl : Nat)) (fun E => ((wanted_of rfl rfl (E.sz 17 (by decide)) (E.d 12 3)).trans (beq_t _))) (fun E hb => ex_load1 rfl Try.underlying36 rfl ((E.q 15 0 hv1_15.out).1 hb) (Cs.lit1 HB3.out rfl)) ?_
 intro v1_16 hw
 have hv1_16 := hid hw
 clear hw
 refine QSeq.may (b := ((x.rp == y.rp) && (x.ep == y.ep))) rfl (.bool (((x.fl : Nat) : Int) == ((y.fl : Nat) : Int))) (fun E => ((wanted_of rfl rfl (E.sz 17 (by decide)) (E.d 12 4)).trans (beq_t _))) (fun E hb => ex_bin rfl ((E.q 14 2 hv1_14.out).1 hb) ((E.q 16 0 hv1_16.out).1 hb) (guard_ints _ _ _ _ _ _) (run_eql_i _ _ _ Try.underlying36)) ?_
 intro v1_17 hw
 have hv1_17 := hid hw
 clear hw
 refine QSeq.pure rfl (.bool (((x.rp == y.rp) && (x.ep == y.ep)) && (((x.fl : Nat) : Int) == ((y.fl : Nat) : Int)))) (fun E => ex_pickE rfl (E.d 12 5) rfl rfl (and_val fun hb => (E.q 17 0 hv1_17.out).1 hb)) ?_
 refine QSeq.pure rfl _ (fun E => ex_move rfl (E.d 18 0)) ?_
 refine QSeq.may (b := (((x.rp == y.rp) && (x.ep == y.ep)) && (((x.fl : Nat) : Int) == ((y.fl : Nat) : Int)))) rfl (.pointer (some ⟨w.heap.size, 4, none⟩)) (fun E => ((wanted_of rfl rfl (E.sz 24 (by decide)) (E.d 19 0)).trans (beq_t _))) (fun E hb => ex_field rfl Try.underlying46 rfl (by kernel_rfl) (E.v oe2)) ?_
 intro v1_20 hw
 have hv1_20 := hid hw
 clear hw
 refine QSeq.may (b := (((x.rp == y.rp) && (x.ep == y.ep)) && (((x.fl : Nat) : Int) == ((y.fl : Nat) : Int)))) rfl (.agg #[.int .i64 x.sb, .int .i64 x.mr]) (fun E => ((wanted_of rfl rfl (E.sz 24 (by decide)) (E.d 19 1)).trans (beq_t _))) (fun E hb => ex_loadA rfl Try.underlying33 rfl (off := 4) (cs := [.int .i64 x.sb, .int .i64 x.mr]) (by kernel_rfl) ((E.q 20 0 hv1_20.out).1 hb) (Cs.litA HB2.out rfl)) ?_
 intro v1_21 hw
 have hv1_21 := hid hw
 clear hw
 refine QSeq.may (b := (((x.rp == y.rp) && (x.ep == y.ep)) && (((x.fl : Nat) : Int) == ((y.fl : Nat) : Int)))) rfl (.pointer (some ⟨w.heap.size + 1, 4, none⟩)) (fun E => ((wanted_of rfl rfl (E.sz 24 (by decide)) (E.d 19 2)).trans (beq_t _))) (fun E hb => ex_field rfl Try.underlying46 rfl (by kernel_rfl) (E.v oe3)) ?_
 intro v1_22 hw
 have hv1_22 := hid hw
 clear hw
 refine QSeq.may (b := (((x.rp == y.rp) && (x.ep == y.ep)) && (((x.fl : Nat) : Int) == ((y.fl : Nat) : Int)))) rfl (.agg #[.int .i64 y.sb, .int .i64 y.mr]) (fun E => ((wanted_of rfl rfl (E.sz 24 (by decide)) (E.d 19 3)).trans (beq_t _))) (fun E hb => ex_loadA rfl Try.underlying33 rfl (off := 4) (cs := [.int .i64 y.sb, .int .i64 y.mr]) (by kernel_rfl) ((E.q 22 0 hv1_22.out).1 hb) (Cs.litA HB3.out rfl)) ?_
 intro v1_23 hw
 have hv1_23 := hid hw
 clear hw
 refine QSeq.may (b := (((x.rp == y.rp) && (x.ep == y.ep)) && (((x.fl : Nat) : Int) == ((y.fl : Nat) : Int)))) rfl (.bool (eqb (x.sb, x.mr) (y.sb, y.mr))) (fun E => ((wanted_of rfl rfl (E.sz 24 (by decide)) (E.d 19 4)).trans (beq_t _))) (fun E hb => ex_binE rfl ((E.q 21 2 hv1_21.out).1 hb) ((E.q 23 0 hv1_23.out).1 hb) (agg_guardE _ _ _ _ _ _ (by kernel_rfl) _) (EqW.run eqW_sig (ki_2 x.sb x.mr) (ki_2 y.sb y.mr) (two_iff x.sb x.mr y.sb y.mr) _) rfl) ?_
 intro v1_24 hw
 have hv1_24 := hid hw
 clear hw
 refine QSeq.pure rfl (.bool ((((x.rp == y.rp) && (x.ep == y.ep)) && (((x.fl : Nat) : Int) == ((y.fl : Nat) : Int))) && (eqb (x.sb, x.mr) (y.sb, y.mr)))) (fun E => ex_pickE rfl (E.d 19 5) rfl rfl (and_val fun hb => (E.q 24 0 hv1_24.out).1 hb)) ?_
 refine QSeq.pure rfl _ (fun E => ex_move rfl (E.d 25 0)) ?_
 refine QSeq.may (b := ((((x.rp == y.rp) && (x.ep == y.ep)) && (((x.fl : Nat) : Int) == ((y.fl : Nat) : Int))) && (eqb (x.sb, x.mr) (y.sb, y.mr)))) rfl (.pointer (some ⟨w.heap.size, 3, none⟩)) (fun E => ((wanted_of rfl rfl (E.sz 31 (by decide)) (E.d 26 0)).trans (beq_t _))) (fun E hb => ex_field rfl Try.underlying46 rfl (by kernel_rfl) (E.v oe2)) ?_
 intro v1_27 hw
 have hv1_27 := hid hw
 clear hw
 refine QSeq.may (b := ((((x.rp == y.rp) && (x.ep == y.ep)) && (((x.fl : Nat) : Int) == ((y.fl : Nat) : Int))) && (eqb (x.sb, x.mr) (y.sb, y.mr)))) rfl (.slice ax_l x.l.length kx_l) (fun E => ((wanted_of rfl rfl (E.sz 31 (by decide)) (E.d 26 1)).trans (beq_t _))) (fun E hb => ex_load1 rfl Try.underlying44 rfl ((E.q 27 0 hv1_27.out).1 hb) (Cs.lit1 HB2.out rfl)) ?_
 intro v1_28 hw
 have hv1_28 := hid hw
 clear hw
 refine QSeq.may (b := ((((x.rp == y.rp) && (x.ep == y.ep)) && (((x.fl : Nat) : Int) == ((y.fl : Nat) : Int))) && (eqb (x.sb, x.mr) (y.sb, y.mr)))) rfl (.pointer (some ⟨w.heap.size + 1, 3, none⟩)) (fun E => ((wanted_of rfl rfl (E.sz 31 (by decide)) (E.d 26 2)).trans (beq_t _))) (fun E hb => ex_field rfl Try.underlying46 rfl (by kernel_rfl) (E.v oe3)) ?_
 intro v1_29 hw
 have hv1_29 := hid hw
 clear hw
 refine QSeq.may (b := ((((x.rp == y.rp) && (x.ep == y.ep)) && (((x.fl : Nat) : Int) == ((y.fl : Nat) : Int))) && (eqb (x.sb, x.mr) (y.sb, y.mr)))) rfl (.slice ay_l y.l.length ky_l) (fun E => ((wanted_of rfl rfl (E.sz 31 (by decide)) (E.d 26 3)).trans (beq_t _))) (fun E hb => ex_load1 rfl Try.underlying44 rfl ((E.q 29 0 hv1_29.out).1 hb) (Cs.lit1 HB3.out rfl)) ?_
 intro v1_30 hw
 have hv1_30 := hid hw
 clear hw
 refine QSeq.mayCall (b := ((((x.rp == y.rp) && (x.ep == y.ep)) && (((x.fl : Nat) : Int) == ((y.fl : Nat) : Int))) && (eqb (x.sb, x.mr) (y.sb, y.mr)))) rfl (.bool (eqb x.l y.l)) (args := #[.slice ax_l x.l.length kx_l, .slice ay_l y.l.length ky_l]) (fun E => ((wanted_of rfl rfl (E.sz 31 (by decide)) (E.d 26 4)).trans (beq_t _))) rfl Try.func41 (fun E hb => args2 ((E.q 28 2 hv1_28.out).1 hb) ((E.q 30 0 hv1_30.out).1 hb)) (fun hb => EqL_Ce _ _ _ _ _ _ _ Hx1.out Hx2.out (by intro k h1; have hb := HBR.out k h1; (try have := hm.size); omega) (by intro k h1; have hb := HBT.out k h1; (try have := hm.size); omega)) ?_
 intro v1_31 u1_31 hw hm
 have hv1_31 := hid hw
 clear hw
 have zu1_31 := hm.size
 have Cx3 := hid (show Mod (fun _ => False) w1 u1_31 from hm)
 clear hm
 refine QSeq.pure rfl (.bool (((((x.rp == y.rp) && (x.ep == y.ep)) && (((x.fl : Nat) : Int) == ((y.fl : Nat) : Int))) && (eqb (x.sb, x.mr) (y.sb, y.mr))) && (eqb x.l y.l))) (fun E => ex_pickE rfl (E.d 26 5) rfl rfl (and_val fun hb => (E.q 31 0 hv1_31.out).1 hb)) ?_
 refine QSeq.pure rfl _ (fun E => ex_assign rfl (E.d 32 0)) ?_
 clear hv1_6 hv1_7 hv1_8 hv1_9 hv1_10 hv1_13 hv1_14 hv1_15 hv1_16 hv1_17 hv1_20 hv1_21 hv1_22 hv1_23 hv1_24 hv1_27 hv1_28 hv1_29 hv1_30 hv1_31
 refine QSeq.nil (t' := [_, _, _, _, _, _, _, _, _, _, _, _, _, _, _, _, _, _, _, _, _, _, _, _, _, _, _, _, _, _, _, _, _, _]) rfl ?_
 obtain rfl := HA0.out
 clear HA0 oe2 oe3
 simp only [pz, Act.put, sIB, sCZ, sCS]
 go_wp2
 go_ret
 exact ⟨ret_bool (pm_eqb x y), (HM0.out.trans Cx3.out (fun _ _ h => h.elim))⟩
set_option maxHeartbeats 4000000 in
theorem Eq_Op : Eqs OpR 26 := by
 intro R R2 cs ds x y w hx hy hB hB2
 obtain ⟨vx_pl, rfl, hokx, hx_pl⟩ := hx
 obtain ⟨ax_pl, kx_pl, rfl⟩ := hx_pl.shape
 have Hx_pl := Lib.hid hx_pl
 clear hx_pl
 have HOKx := Lib.hid hokx
 clear hokx
 obtain ⟨vy_pl, rfl, hoky, hy_pl⟩ := hy
 obtain ⟨ay_pl, ky_pl, rfl⟩ := hy_pl.shape
 have Hy_pl := Lib.hid hy_pl
 clear hy_pl
 have HOKy := Lib.hid hoky
 clear hoky
 have HBR := Lib.hid hB
 have HBT := Lib.hid hB2
 clear hB hB2
 go_enter Try.func26, Try.ntmps26
 go_upto_region 1 with (fail)
 obtain ⟨w1, hw1⟩ : ∃ zz, zz = ((w.alloc (.cells (x.cells (.slice ax_pl x.pl.length kx_pl) : List Value).toArray 60)).alloc (.cells (y.cells (.slice ay_pl y.pl.length ky_pl) : List Value).toArray 60)) := ⟨_, rfl⟩
 change Code.wp _ _ _ _ ((w.alloc (.cells (x.cells (.slice ax_pl x.pl.length kx_pl) : List Value).toArray 60)).alloc (.cells (y.cells (.slice ay_pl y.pl.length ky_pl) : List Value).toArray 60))
 rw [← hw1]
 have HB2 := hid (show Cs w1 (w.heap.size) (x.cells (.slice ax_pl x.pl.length kx_pl) : List Value).toArray 60 by rw [hw1]; exact (Cs.new _ _ _).alloc _)
 have HB3 := hid (show Cs w1 (w.heap.size + 1) (y.cells (.slice ay_pl y.pl.length ky_pl) : List Value).toArray 60 by rw [hw1]; exact Cs_newN _ _ _ (by simp))
 have hm : Mod (fun _ => False) w w1 := by rw [hw1]; exact ((Mod.refl _ _).alloc _).alloc _
 have HM0 := hid (show Mod (fun _ => False) w w1 from hm.mono (fun _ _ h => h.elim))
 have hs1 : w1.heap.size = w.heap.size + 2 := by rw [hw1]; simp
 have Hx1 := hid (Hx_pl.out.mod hm (fun _ _ h => h))
 clear Hx_pl
 have Hx2 := hid (Hy_pl.out.mod hm (fun _ _ h => h))
 clear Hy_pl
 clear hw1 hm
 go_upto_region 1 with (fail)
 refine wp_region_U 24 [5, 6, 7, 8, 9, 10, 11, 12, 13, 14, 15, 16, 17, 18, 19, 20, 21, 22, 23, 4] [0, 1, 2, 3, 4, 5, 6, 7, 8, 9, 10, 11, 12, 13, 14, 15, 16, 17, 18, 19] (fun a0 HA0 => ?_)
 have oe2 := ev HA0 2 rfl
 have oe3 := ev HA0 3 rfl
 refine QSeq.pure rfl (.pointer (some ⟨w.heap.size, 0, none⟩)) (fun E => ex_field rfl Try.underlying60 rfl (by kernel_rfl) (E.v oe2)) ?_
 refine QSeq.pure rfl _ (fun E => ex_load1 rfl Try.underlying3 rfl (E.d 0 0) (Cs.hd1 HB2.out rfl)) ?_
 refine QSeq.pure rfl (.pointer (some ⟨w.heap.size + 1, 0, none⟩)) (fun E => ex_field rfl Try.underlying60 rfl (by kernel_rfl) (E.v oe3)) ?_
 refine QSeq.pure rfl _ (fun E => ex_load1 rfl Try.underlying3 rfl (E.d 2 0) (Cs.hd1 HB3.out rfl)) ?_
 refine QSeq.pure rfl (.bool (x.ix == y.ix)) (fun E => ex_bin rfl (E.d 1 2) (E.d 3 0) (guard_ints _ _ _ _ _ _) (run_eql_i _ _ _ Try.underlying3)) ?_
 refine QSeq.pure rfl _ (fun E => ex_move rfl (E.d 4 0)) ?_
 refine QSeq.may (b := (x.ix == y.ix)) rfl (.pointer (some ⟨w.heap.size, 2, none⟩)) (fun E => ((wanted_of rfl rfl (E.sz 10 (by decide)) (E.d 5 0)).trans (beq_t _))) (fun E hb => ex_field rfl Try.underlying60 rfl (by kernel_rfl) (E.v oe2)) ?_
 intro v1_6 hw
 have hv1_6 := hid hw
 clear hw
 refine QSeq.may (b := (x.ix == y.ix)) rfl (hv x.nc) (fun E => ((wanted_of rfl rfl (E.sz 10 (by decide)) (E.d 5 1)).trans (beq_t _))) (fun E hb => ex_loadA rfl Try.underlying31 rfl (off := 2) (cs := x.nc.map bv) (by rw [List.length_map, HOKx.out.2.1]; exact size_hash) ((E.q 6 0 hv1_6.out).1 hb) (Cs.tlA HB2.out rfl)) ?_
 intro v1_7 hw
 have hv1_7 := hid hw
 clear hw
 refine QSeq.may (b := (x.ix == y.ix)) rfl (.pointer (some ⟨w.heap.size + 1, 2, none⟩)) (fun E => ((wanted_of rfl rfl (E.sz 10 (by decide)) (E.d 5 2)).trans (beq_t _))) (fun E hb => ex_field rfl Try.underlying60 rfl (by kernel_rfl) (E.v oe3)) ?_
 intro v1_8 hw
 have hv1_8 := hid hw
 clear hw
 refine QSeq.may (b := (x.ix == y.ix)) rfl (hv y.nc) (fun E => ((wanted_of rfl rfl (E.sz 10 (by decide)) (E.d 5 3)).trans (beq_t _))) (fun E hb => ex_loadA rfl Try.underlying31 rfl (off := 2) (cs := y.nc.map bv) (by rw [List.length_map, HOKy.out.2.1]; exact size_hash) ((E.q 8 0 hv1_8.out).1 hb) (Cs.tlA HB3.out rfl)) ?_
 intro v1_9 hw
 have hv1_9 := hid hw
 clear hw
 refine QSeq.may (b := (x.ix == y.ix)) rfl (.bool (eqb x.nc y.nc)) (fun E => ((wanted_of rfl rfl (E.sz 10 (by decide)) (E.d 5 4)).trans (beq_t _))) (fun E hb => ex_binE rfl ((E.q 7 2 hv1_7.out).1 hb) ((E.q 9 0 hv1_9.out).1 hb) (hv_guard2 _ _ _ _ _ _) (hv_eql HOKx.out.2.1 HOKy.out.2.1 _) (congrArg Value.bool (dec_eqb _ _))) ?_
 intro v1_10 hw
 have hv1_10 := hid hw
 clear hw
 refine QSeq.pure rfl (.bool ((x.ix == y.ix) && (eqb x.nc y.nc))) (fun E => ex_pickE rfl (E.d 5 5) rfl rfl (and_val fun hb => (E.q 10 0 hv1_10.out).1 hb)) ?_
 refine QSeq.pure rfl _ (fun E => ex_move rfl (E.d 11 0)) ?_
 refine QSeq.may (b := ((x.ix == y.ix) && (eqb x.nc y.nc))) rfl (.pointer (some ⟨w.heap.size, 1, none⟩)) (fun E => ((wanted_of rfl rfl (E.sz 17 (by decide)) (E.d 12 0)).trans (beq_t _))) (fun E hb => ex_field rfl Try.underlying60 rfl (by kernel_rfl) (E.v oe2)) ?_
 intro v1_13 hw
 have hv1_13 := hid hw
 clear hw
 refine QSeq.may (b := ((x.ix == y.ix) && (eqb x.nc y.nc))) rfl (.slice ax_pl x.pl.length kx_pl) (fun E => ((wanted_of rfl rfl (E.sz 17 (by decide)) (E.d 12 1)).trans (beq_t _))) (fun E hb => ex_load1 rfl Try.underlying58 rfl ((E.q 13 0 hv1_13.out).1 hb) (Cs.hd1 HB2.out rfl)) ?_
 intro v1_14 hw
 have hv1_14 := hid hw
 clear hw
 refine QSeq.may (b := ((x.ix == y.ix) && (eqb x.nc y.nc))) rfl (.pointer (some ⟨w.heap.size + 1, 1, none⟩)) (fun E => ((wanted_of rfl rfl (E.sz 17 (by decide)) (E.d 12 2)).trans (beq_t _))) (fun E hb => ex_field rfl Try.underlying60 rfl (by kernel_rfl) (E.v oe3)) ?_
 intro v1_15 hw
 have hv1_15 := hid hw
 clear hw
 refine QSeq.may (b := ((x.ix == y.ix) && (eqb x.nc y.nc))) rfl (.slice ay_pl y.pl.length ky_pl) (fun E => ((wanted_of rfl rfl (E.sz 17 (by decide)) (E.d 12 3)).trans (beq_t _))) (fun E hb => ex_load1 rfl Try.underlying58 rfl ((E.q 15 0 hv1_15.out).1 hb) (Cs.hd1 HB3.out rfl)) ?_
 intro v1_16 hw
 have hv1_16 := hid hw
 clear hw
 refine QSeq.mayCall (b := ((x.ix == y.ix) && (eqb x.nc y.nc))) rfl (.bool (eqb x.pl y.pl)) (args := #[.slice ax_pl x.pl.length kx_pl, .slice ay_pl y.pl.length ky_pl]) (fun E => ((wanted_of rfl rfl (E.sz 17 (by decide)) (E.d 12 4)).trans (beq_t _))) rfl Try.func42 (fun E hb => args2 ((E.q 14 2 hv1_14.out).1 hb) ((E.q 16 0 hv1_16.out).1 hb)) (fun hb => Same_B Hx1.out Hx2.out) ?_
 intro v1_17 u1_17 hw hm
 have hv1_17 := hid hw
 clear hw
 have zu1_17 := hm.size
 have Cx3 := hid (show Mod (fun _ => False) w1 u1_17 from hm)
 clear hm
 refine QSeq.pure rfl (.bool (((x.ix == y.ix) && (eqb x.nc y.nc)) && (eqb x.pl y.pl))) (fun E => ex_pickE rfl (E.d 12 5) rfl rfl (and_val fun hb => (E.q 17 0 hv1_17.out).1 hb)) ?_
 refine QSeq.pure rfl _ (fun E => ex_assign rfl (E.d 18 0)) ?_
 clear hv1_6 hv1_7 hv1_8 hv1_9 hv1_10 hv1_13 hv1_14 hv1_15 hv1_16 hv1_17
 refine QSeq.nil (t' := [_, _, _, _, _, _, _, _, _, _, _, _, _, _, _, _, _, _, _, _]) rfl ?_
 obtain rfl := HA0.out
 clear HA0 oe2 oe3
 simp only [pz, Act.put, sIB, sCZ, sCS]
 go_wp2
 go_ret
 exact ⟨ret_bool (op_eqb x y), (HM0.out.trans Cx3.out (fun _ _ h => h.elim))⟩
set_option maxHeartbeats 4000000 in
theorem EqL_Op : EqsL OpR 43 := by
 intro R R2 v v2 l m w hs ht hB hB2
 obtain ⟨ao, cap, rfl⟩ := hs.shape
 obtain ⟨bo, bcap, rfl⟩ := ht.shape
 have hlm : l.length ≤ maxLen := hs.bd
 rw [maxLen_val] at hlm
 have HS := Lib.hid hs
 have HT := Lib.hid ht
 have HBR := Lib.hid hB
 have HBT := Lib.hid hB2
 clear hs ht hB hB2
 go_enter Try.func43, Try.ntmps43
 go_upto_region 1 with (fail)
 have HM0 := hid (Mod.refl (fun _ => False) w)
 by_cases hl : l.length = m.length
 rotate_left
 ·skip
  go_upto_region 1 with (fail)
  refine wp_region_U 27 [6, 7, 8, 9, 10] [0, 1, 2, 3, 4] (fun a0 HA0 => ?_)
  have oe0 := ev HA0 0 rfl
  have oe1 := ev HA0 1 rfl
  refine QSeq.pure rfl _ (fun E => ex_move rfl (E.v oe0)) ?_
  refine QSeq.pure rfl (.int .i64 l.length) (fun E => ex_lenS rfl (E.d 0 0) Try.underlying48) ?_
  refine QSeq.pure rfl _ (fun E => ex_move rfl (E.v oe1)) ?_
  refine QSeq.pure rfl (.int .i64 m.length) (fun E => ex_lenS rfl (E.d 2 0) Try.underlying48) ?_
  refine QSeq.pure rfl (.bool true) (fun E => ex_binE rfl (E.d 1 2) (E.d 3 0) (guard_ints _ _ _ _ _ _) (run_neq_i _ _ _ Try.underlying3) (congrArg Value.bool (ne_tt (by omega)))) ?_
  refine QSeq.nil (t' := [_, _, _, _, _]) rfl ?_
  obtain rfl := HA0.out
  clear HA0 oe0 oe1
  simp only [pz, Act.put, sIB, sCZ, sCS]
  go_upto_region 2 with (fail)
  refine wp_region_U 27 [4] [0] (fun a0 HA0 => ?_)
  refine QSeq.pure rfl (.bool false) (fun E => ex_assign rfl rfl) ?_
  refine QSeq.nil (t' := [_]) rfl ?_
  obtain rfl := HA0.out
  clear HA0
  simp only [pz, Act.put, sIB, sCZ, sCS]
  go_wp2
  go_ret
  exact ⟨ret_bool (eqb_ne fun e => hl (by rw [e])).symm, HM0.out⟩
 ·skip
  go_upto_region 1 with (fail)
  refine wp_region_U 27 [6, 7, 8, 9, 10] [0, 1, 2, 3, 4] (fun a0 HA0 => ?_)
  have oe0 := ev HA0 0 rfl
  have oe1 := ev HA0 1 rfl
  refine QSeq.pure rfl _ (fun E => ex_move rfl (E.v oe0)) ?_
  refine QSeq.pure rfl (.int .i64 l.length) (fun E => ex_lenS rfl (E.d 0 0) Try.underlying48) ?_
  refine QSeq.pure rfl _ (fun E => ex_move rfl (E.v oe1)) ?_
  refine QSeq.pure rfl (.int .i64 m.length) (fun E => ex_lenS rfl (E.d 2 0) Try.underlying48) ?_
  refine QSeq.pure rfl (.bool false) (fun E => ex_binE rfl (E.d 1 2) (E.d 3 0) (guard_ints _ _ _ _ _ _) (run_neq_i _ _ _ Try.underlying3) (congrArg Value.bool (ne_ff (by omega)))) ?_
  refine QSeq.nil (t' := [_, _, _, _, _]) rfl ?_
  obtain rfl := HA0.out
  clear HA0 oe0 oe1
  simp only [pz, Act.put, sIB, sCZ, sCS]
  go_upto_region 3 with (fail)
  refine wp_region_U 27 [11, 12, 13] [0, 1, 2] (fun a0 HA0 => ?_)
  have oe0 := ev HA0 0 rfl
  refine QSeq.pure rfl _ (fun E => ex_move rfl (E.v oe0)) ?_
  refine QSeq.pure rfl (.int .i64 l.length) (fun E => ex_lenS rfl (E.d 0 0) Try.underlying48) ?_
  refine QSeq.pure rfl (.int .i64 0) (fun E => ex_move rfl rfl) ?_
  refine QSeq.nil (t' := [_, _, _]) rfl ?_
  obtain rfl := HA0.out
  clear HA0 oe0
  simp only [pz, Act.put, sIB, sCZ, sCS]
  have HLE := Lib.hid hl
  clear hl
  go_wp2
  go_loopw [13, 5] (fun ti t5 wr => ∃ k : Nat, ti = .int .i64 (k : Int) ∧ k ≤ l.length ∧ l.take k = m.take k ∧ w.heap.size ≤ wr.heap.size ∧ RdS OpR R wr (.slice ao l.length cap) l ∧ RdS OpR R2 wr (.slice bo m.length bcap) m ∧ Mod (fun _ => False) w wr) (fun ti t5 _ => l.length - (intOf ti).toNat)
  case atStart => exact ⟨0, rfl, Nat.zero_le _, rfl, Nat.le_refl _, HS.out, HT.out, HM0.out⟩
  case round =>
   obtain ⟨k, rfl, hk, htk, hz, hs, ht, hm⟩ := hrel
   obtain ⟨wl, rfl⟩ : ∃ x, x = wr := ⟨_, rfl⟩
   have HS2 := Lib.hid hs
   have HT2 := Lib.hid ht
   have HML := Lib.hid hm
   have HTK := Lib.hid htk
   clear hs ht hm htk HS HT HM0
   by_cases hlt : k < l.length
   ·have hlt2 : k < m.length := by have := HLE.out; omega
    go_upto_region 4 with (fail)
    refine wp_region_U 27 [14] [0] (fun a0 HA0 => ?_)
    have oe12 := ev HA0 12 rfl
    have oe13 := ev HA0 13 rfl
    refine QSeq.pure rfl (.bool true) (fun E => ex_binE rfl (E.v oe13) (E.v oe12) (guard_ints _ _ _ _ _ _) (run_lss_i _ _ _ Try.underlying3) (congrArg Value.bool (decide_eq_true (by omega)))) ?_
    refine QSeq.nil (t' := [_]) rfl ?_
    obtain rfl := HA0.out
    clear HA0 oe12 oe13
    simp only [pz, Act.put, sIB, sCZ, sCS]
    go_upto_region 5 with (fail)
    refine wp_region_U 27 [15, 5] [0, 1] (fun a0 HA0 => ?_)
    have oe13 := ev HA0 13 rfl
    refine QSeq.pure rfl _ (fun E => ex_move rfl (E.v oe13)) ?_
    refine QSeq.pure rfl _ (fun E => ex_assign rfl (E.d 0 0)) ?_
    refine QSeq.nil (t' := [_, _]) rfl ?_
    obtain rfl := HA0.out
    clear HA0 oe13
    simp only [pz, Act.put, sIB, sCZ, sCS]
    have hat := HS2.out.at hlt
    obtain ⟨g1, o1, c1, eao, hrg, hrd, hcs⟩ := hat
    subst eao
    obtain ⟨x, hx⟩ : ∃ z, z = l[k] := ⟨_, rfl⟩
    rw [← hx] at hrd
    have HX1 := Lib.hid hx
    have hcl : c1.length = 34 := OpR.len hrd
    have HCL1 := Lib.hid hcl
    have HAT1 := hid (show CellsAt R wl g1 (o1 + k * 34) c1 from ⟨hrg, hcs⟩)
    have HRD1 := Lib.hid hrd
    clear hcl hcs hrd hrg hx
    have hat := HT2.out.at hlt2
    obtain ⟨g2, o2, c2, eao, hrg, hrd, hcs⟩ := hat
    subst eao
    obtain ⟨y, hy⟩ : ∃ z, z = m[k] := ⟨_, rfl⟩
    rw [← hy] at hrd
    have HX2 := Lib.hid hy
    have hcl : c2.length = 34 := OpR.len hrd
    have HCL2 := Lib.hid hcl
    have HAT2 := hid (show CellsAt R2 wl g2 (o2 + k * 34) c2 from ⟨hrg, hcs⟩)
    have HRD2 := Lib.hid hrd
    clear hcl hcs hrd hrg hy
    obtain ⟨b, hb⟩ : ∃ b, b = eqb x y := ⟨_, rfl⟩
    have HB := Lib.hid hb
    clear hb
    go_upto_region 6 with (fail)
    generalize ha0 : Act.mk _ _ = a0
    have oe0 : a0.eval (.tmp 0) = .slice (some ⟨g1, o1, none⟩) l.length cap := by rw [← ha0]; rfl
    have oe1 : a0.eval (.tmp 1) = .slice (some ⟨g2, o2, none⟩) m.length bcap := by rw [← ha0]; rfl
    have oe5 : a0.eval (.tmp 5) = .int .i64 ((k : Nat) : Int) := by rw [← ha0]; rfl
    have hsz0 : a0.tmps.size = 27 := by rw [← ha0]; rfl
    have HA0 := hid ha0
    clear ha0
    refine wp_region_Q0 27 hsz0 [16, 17, 18, 19, 20, 21, 22, 23, 24, 25] [qi (.slice (some ⟨g1, o1, none⟩) l.length cap), qi (.int .i64 ((k : Nat) : Int)), qi (.pointer (some ⟨g1, o1 + k * 34, none⟩)), qi (.agg c1.toArray), qi (.slice (some ⟨g2, o2, none⟩) m.length bcap), qi (.int .i64 ((k : Nat) : Int)), qi (.pointer (some ⟨g2, o2 + k * 34, none⟩)), qi (.agg c2.toArray), qi (.bool b), qi (.bool (!b))] ⟨qi_stable, qi_stable, qi_stable, qi_stable, qi_stable, qi_stable, qi_stable, qi_stable, qi_stable, qi_stable, trivial⟩ [8] ⟨?_, ?_, ?_, ?_, ?_, ?_, ?_, ?_, ?_, ?_, trivial⟩ ?_
    ·exact stq (fun E => ex_move rfl (E.v oe0))
    ·exact stq (fun E => ex_move rfl (E.v oe5))
    ·exact stq (fun E => ex_idxS (i := k) (s := 34) rfl Try.underlying48 (by kernel_rfl) (E.d 0) (E.d 1) (by first | exact hlt | exact hlt2))
    ·exact stq (fun E => ex_loadA rfl Try.underlying60 rfl (off := o1 + k * 34) (cs := c1) (by rw [HCL1.out]; kernel_rfl) (E.d 2) (fun j u hu => ((HAT1.out.mod E.m.old (by intro k h1 h2; have hb := HBR.out k h1; omega))).2 j u hu))
    ·exact stq (fun E => ex_move rfl (E.v oe1))
    ·exact stq (fun E => ex_move rfl (E.v oe5))
    ·exact stq (fun E => ex_idxS (i := k) (s := 34) rfl Try.underlying48 (by kernel_rfl) (E.d 4) (E.d 5) (by first | exact hlt | exact hlt2))
    ·exact stq (fun E => ex_loadA rfl Try.underlying60 rfl (off := o2 + k * 34) (cs := c2) (by rw [HCL2.out]; kernel_rfl) (E.d 6) (fun j u hu => ((HAT2.out.mod E.m.old (by intro k h1 h2; have hb := HBT.out k h1; omega))).2 j u hu))
    ·exact stepq_chain rfl
    ·exact stq (fun E => ex_not rfl (E.d 8))
    intro u6_0 hr
    have zu6_0 := hr.size
    have Cx1 := hid (hr.new (S := (fun _ => False)))
    clear hr
    refine QChain.go fun Z act E => ?_
    refine qc_callF (args := #[.agg c1.toArray, .agg c2.toArray]) rfl (wanted_none rfl) rfl Try.func26 (args2 (E.d 3) (E.d 7)) (HB.out.symm ▸ Eq_Op _ _ _ _ _ _ _ (HRD1.out.mod Cx1.out (fun _ _ h => h)) (HRD2.out.mod Cx1.out (fun _ _ h => h)) (by intro k h1; have hb := HBR.out k h1; omega) (by intro k h1; have hb := HBT.out k h1; omega)) ?_
    rintro e u6_1a ⟨rfl, hm⟩
    have zu6_1a := hm.size
    refine ⟨_, rfl, hm.mono (fun _ _ h => h.elim), (fun _ => rfl), ?_⟩
    intro u6_1 hr
    have zu6_1 := hr.size
    have Cx2 := hid (Cx1.out.go hm hr)
    clear Cx1 hm hr Z act E
    refine QChain.nil fun vs hl hzz hrows hne => ?_
    obtain ⟨Z, hYZ, hZb, hV⟩ := hzz
    have f0 := fvi hV hl 0
    have f1 := fvi hV hl 1
    have f4 := fvi hV hl 4
    have f5 := fvi hV hl 5
    have f8 := fvi hV hl 8
    have f9 := fvi hV hl 9
    rw [show vs = [gw vs 0, gw vs 1, gw vs 2, gw vs 3, gw vs 4, gw vs 5, gw vs 6, gw vs 7, gw vs 8, gw vs 9] from (gw_eta hl).trans rfl]
    have ha0 := HA0.out
    subst ha0
    clear HA0 hV hYZ hZb hsz0 hrows hne oe0 oe1 oe5
    simp only [putAll, Act.put, sIB, sCZ, sCS, f0, f1, f4, f5, f8, f9]
    clear hl f0 f1 f4 f5 f8 f9
    cases b with
    | false =>
     go_upto_region 7 with (fail)
     refine wp_region_U 27 [4] [0] (fun a0 HA0 => ?_)
     refine QSeq.pure rfl (.bool false) (fun E => ex_assign rfl rfl) ?_
     refine QSeq.nil (t' := [_]) rfl ?_
     obtain rfl := HA0.out
     clear HA0
     simp only [pz, Act.put, sIB, sCZ, sCS]
     go_wp2
     go_ret
     exact ⟨ret_bool (take_ne hlt hlt2 (fun e => by have h := HB.out; rw [HX1.out, HX2.out, e, eqb_rfl] at h; cases h)).symm, (HML.out.trans Cx2.out (fun _ _ h => h.elim))⟩
    | true =>
     go_upto_region 8 with (fail)
     refine wp_region_U 27 [26, 13] [0, 1] (fun a0 HA0 => ?_)
     have oe13 := ev HA0 13 rfl
     refine QSeq.pure rfl (.int .i64 (((k : Nat) : Int) + 1)) (fun E => ex_binE rfl (E.y 1 oe13) rfl (guard_ints _ _ _ _ _ _) (run_add_i _ _ Try.underlying3) (congrArg (Value.int .i64) (IntWalk.i64_in _ (by omega)))) ?_
     refine QSeq.pure rfl _ (fun E => ex_move rfl (E.d 0 0)) ?_
     refine QSeq.nil (t' := [_, _]) rfl ?_
     obtain rfl := HA0.out
     clear HA0 oe13
     simp only [pz, Act.put, sIB, sCZ, sCS]
     go_wp2
     go_roundw
     case rel => exact ⟨k + 1, by go_num, by omega, take_succ2 hlt hlt2 HTK.out (by have h := eqb_iff.1 HB.out.symm; rw [HX1.out, HX2.out] at h; exact h), by omega, (HS2.out.mod Cx2.out (fun _ _ h => h)), (HT2.out.mod Cx2.out (fun _ _ h => h)), (HML.out.trans Cx2.out (fun _ _ h => h.elim))⟩
     case measure => simp [intOf] <;> omega
   ·skip
    go_upto_region 4 with (fail)
    refine wp_region_U 27 [14] [0] (fun a0 HA0 => ?_)
    have oe12 := ev HA0 12 rfl
    have oe13 := ev HA0 13 rfl
    refine QSeq.pure rfl (.bool false) (fun E => ex_binE rfl (E.v oe13) (E.v oe12) (guard_ints _ _ _ _ _ _) (run_lss_i _ _ _ Try.underlying3) (congrArg Value.bool (decide_eq_false (by omega)))) ?_
    refine QSeq.nil (t' := [_]) rfl ?_
    obtain rfl := HA0.out
    clear HA0 oe12 oe13
    simp only [pz, Act.put, sIB, sCZ, sCS]
    go_upto_region 9 with (fail)
    refine wp_region_U 27 [4] [0] (fun a0 HA0 => ?_)
    refine QSeq.pure rfl (.bool true) (fun E => ex_assign rfl rfl) ?_
    refine QSeq.nil (t' := [_]) rfl ?_
    obtain rfl := HA0.out
    clear HA0
    simp only [pz, Act.put, sIB, sCZ, sCS]
    go_wp2
    go_ret
    exact ⟨ret_bool (take_all (by omega) (by have := HLE.out; omega) HTK.out).symm, HML.out⟩
end Go.Proofs.Ytekbmpjdombedaa

/- gavelkeep: comparisons of tombstones, batches. -/
namespace Go.Proofs.Ytekbmpjdombedaa
open Go Go.RowKit Go.Gv

set_option maxHeartbeats 4000000 in
theorem EqL_Tb : EqsL TbR 44 := by
 intro R R2 v v2 l m w hs ht hB hB2
 obtain ⟨ao, cap, rfl⟩ := hs.shape
 obtain ⟨bo, bcap, rfl⟩ := ht.shape
 have hlm : l.length ≤ maxLen := hs.bd
 rw [maxLen_val] at hlm
 have HS := Lib.hid hs
 have HT := Lib.hid ht
 have HBR := Lib.hid hB
 have HBT := Lib.hid hB2
 clear hs ht hB hB2
 go_enter Try.func44, Try.ntmps44
 go_upto_region 1 with (fail)
 have HM0 := hid (Mod.refl (fun _ => False) w)
 by_cases hl : l.length = m.length
 rotate_left
 ·skip
  go_upto_region 1 with (fail)
  refine wp_region_U 42 [6, 7, 8, 9, 10] [0, 1, 2, 3, 4] (fun a0 HA0 => ?_)
  have oe0 := ev HA0 0 rfl
  have oe1 := ev HA0 1 rfl
  refine QSeq.pure rfl _ (fun E => ex_move rfl (E.v oe0)) ?_
  refine QSeq.pure rfl (.int .i64 l.length) (fun E => ex_lenS rfl (E.d 0 0) Try.underlying49) ?_
  refine QSeq.pure rfl _ (fun E => ex_move rfl (E.v oe1)) ?_
  refine QSeq.pure rfl (.int .i64 m.length) (fun E => ex_lenS rfl (E.d 2 0) Try.underlying49) ?_
  refine QSeq.pure rfl (.bool true) (fun E => ex_binE rfl (E.d 1 2) (E.d 3 0) (guard_ints _ _ _ _ _ _) (run_neq_i _ _ _ Try.underlying3) (congrArg Value.bool (ne_tt (by omega)))) ?_
  refine QSeq.nil (t' := [_, _, _, _, _]) rfl ?_
  obtain rfl := HA0.out
  clear HA0 oe0 oe1
  simp only [pz, Act.put, sIB, sCZ, sCS]
  go_upto_region 2 with (fail)
  refine wp_region_U 42 [4] [0] (fun a0 HA0 => ?_)
  refine QSeq.pure rfl (.bool false) (fun E => ex_assign rfl rfl) ?_
  refine QSeq.nil (t' := [_]) rfl ?_
  obtain rfl := HA0.out
  clear HA0
  simp only [pz, Act.put, sIB, sCZ, sCS]
  go_wp2
  go_ret
  exact ⟨ret_bool (eqb_ne fun e => hl (by rw [e])).symm, HM0.out⟩
 ·skip
  go_upto_region 1 with (fail)
  refine wp_region_U 42 [6, 7, 8, 9, 10] [0, 1, 2, 3, 4] (fun a0 HA0 => ?_)
  have oe0 := ev HA0 0 rfl
  have oe1 := ev HA0 1 rfl
  refine QSeq.pure rfl _ (fun E => ex_move rfl (E.v oe0)) ?_
  refine QSeq.pure rfl (.int .i64 l.length) (fun E => ex_lenS rfl (E.d 0 0) Try.underlying49) ?_
  refine QSeq.pure rfl _ (fun E => ex_move rfl (E.v oe1)) ?_
  refine QSeq.pure rfl (.int .i64 m.length) (fun E => ex_lenS rfl (E.d 2 0) Try.underlying49) ?_
  refine QSeq.pure rfl (.bool false) (fun E => ex_binE rfl (E.d 1 2) (E.d 3 0) (guard_ints _ _ _ _ _ _) (run_neq_i _ _ _ Try.underlying3) (congrArg Value.bool (ne_ff (by omega)))) ?_
  refine QSeq.nil (t' := [_, _, _, _, _]) rfl ?_
  obtain rfl := HA0.out
  clear HA0 oe0 oe1
  simp only [pz, Act.put, sIB, sCZ, sCS]
  go_upto_region 3 with (fail)
  refine wp_region_U 42 [11, 12, 13] [0, 1, 2] (fun a0 HA0 => ?_)
  have oe0 := ev HA0 0 rfl
  refine QSeq.pure rfl _ (fun E => ex_move rfl (E.v oe0)) ?_
  refine QSeq.pure rfl (.int .i64 l.length) (fun E => ex_lenS rfl (E.d 0 0) Try.underlying49) ?_
  refine QSeq.pure rfl (.int .i64 0) (fun E => ex_move rfl rfl) ?_
  refine QSeq.nil (t' := [_, _, _]) rfl ?_
  obtain rfl := HA0.out
  clear HA0 oe0
  simp only [pz, Act.put, sIB, sCZ, sCS]
  have HLE := Lib.hid hl
  clear hl
  go_wp2
  go_loopw [13, 5] (fun ti t5 wr => ∃ k : Nat, ti = .int .i64 (k : Int) ∧ k ≤ l.length ∧ l.take k = m.take k ∧ w.heap.size ≤ wr.heap.size ∧ RdS TbR R wr (.slice ao l.length cap) l ∧ RdS TbR R2 wr (.slice bo m.length bcap) m ∧ Mod (fun _ => False) w wr) (fun ti t5 _ => l.length - (intOf ti).toNat)
  case atStart => exact ⟨0, rfl, Nat.zero_le _, rfl, Nat.le_refl _, HS.out, HT.out, HM0.out⟩
  case round =>
   obtain ⟨k, rfl, hk, htk, hz, hs, ht, hm⟩ := hrel
   obtain ⟨wl, rfl⟩ : ∃ x, x = wr := ⟨_, rfl⟩
   have HS2 := Lib.hid hs
   have HT2 := Lib.hid ht
   have HML := Lib.hid hm
   have HTK := Lib.hid htk
   clear hs ht hm htk HS HT HM0
   by_cases hlt : k < l.length
   ·have hlt2 : k < m.length := by have := HLE.out; omega
    go_upto_region 4 with (fail)
    refine wp_region_U 42 [14] [0] (fun a0 HA0 => ?_)
    have oe12 := ev HA0 12 rfl
    have oe13 := ev HA0 13 rfl
    refine QSeq.pure rfl (.bool true) (fun E => ex_binE rfl (E.v oe13) (E.v oe12) (guard_ints _ _ _ _ _ _) (run_lss_i _ _ _ Try.underlying3) (congrArg Value.bool (decide_eq_true (by omega)))) ?_
    refine QSeq.nil (t' := [_]) rfl ?_
    obtain rfl := HA0.out
    clear HA0 oe12 oe13
    simp only [pz, Act.put, sIB, sCZ, sCS]
    go_upto_region 5 with (fail)
    refine wp_region_U 42 [15, 5] [0, 1] (fun a0 HA0 => ?_)
    have oe13 := ev HA0 13 rfl
    refine QSeq.pure rfl _ (fun E => ex_move rfl (E.v oe13)) ?_
    refine QSeq.pure rfl _ (fun E => ex_assign rfl (E.d 0 0)) ?_
    refine QSeq.nil (t' := [_, _]) rfl ?_
    obtain rfl := HA0.out
    clear HA0 oe13
    simp only [pz, Act.put, sIB, sCZ, sCS]
    have hat := HS2.out.at hlt
    obtain ⟨g1, o1, c1, eao, hrg, hrd, hcs⟩ := hat
    subst eao
    obtain ⟨x, hx⟩ : ∃ z, z = l[k] := ⟨_, rfl⟩
    rw [← hx] at hrd
    have HX1 := Lib.hid hx
    have hcl : c1.length = 2 := TbR.len hrd
    have HCL1 := Lib.hid hcl
    have HAT1 := hid (show CellsAt R wl g1 (o1 + k * 2) c1 from ⟨hrg, hcs⟩)
    have HRD1 := Lib.hid hrd
    clear hcl hcs hrd hrg hx
    have hat := HT2.out.at hlt2
    obtain ⟨g2, o2, c2, eao, hrg, hrd, hcs⟩ := hat
    subst eao
    obtain ⟨y, hy⟩ : ∃ z, z = m[k] := ⟨_, rfl⟩
    rw [← hy] at hrd
    have HX2 := Lib.hid hy
    have hcl : c2.length = 2 := TbR.len hrd
    have HCL2 := Lib.hid hcl
    have HAT2 := hid (show CellsAt R2 wl g2 (o2 + k * 2) c2 from ⟨hrg, hcs⟩)
    have HRD2 := Lib.hid hrd
    clear hcl hcs hrd hrg hy
    obtain ⟨b, hb⟩ : ∃ b, b = eqb x y := ⟨_, rfl⟩
    have HB := Lib.hid hb
    clear hb
    obtain ⟨v_l1, rfl, hok1, hsl1⟩ := HRD1.out
    obtain ⟨al1, kl1, rfl⟩ := hsl1.shape
    have HSL1 := Lib.hid hsl1
    clear hok1 hsl1
    clear HRD1
    obtain ⟨v_l2, rfl, hok2, hsl2⟩ := HRD2.out
    obtain ⟨al2, kl2, rfl⟩ := hsl2.shape
    have HSL2 := Lib.hid hsl2
    clear hok2 hsl2
    clear HRD2
    go_upto_region 6 with (fail)
    generalize ha0 : Act.mk _ _ = a0
    have oe0 : a0.eval (.tmp 0) = .slice (some ⟨g1, o1, none⟩) l.length cap := by rw [← ha0]; rfl
    have oe1 : a0.eval (.tmp 1) = .slice (some ⟨g2, o2, none⟩) m.length bcap := by rw [← ha0]; rfl
    have oe5 : a0.eval (.tmp 5) = .int .i64 ((k : Nat) : Int) := by rw [← ha0]; rfl
    have hsz0 : a0.tmps.size = 42 := by rw [← ha0]; rfl
    have HA0 := hid ha0
    clear ha0
    refine wp_region_Q0 42 hsz0 [16, 17, 18, 19, 20, 21, 22, 23, 24, 25, 26, 27, 28, 29, 30, 31, 32, 33, 34, 35, 36, 37, 38, 39, 40] [qi (.slice (some ⟨g1, o1, none⟩) l.length cap), qi (.int .i64 ((k : Nat) : Int)), qi (.pointer (some ⟨g1, o1 + k * 2, none⟩)), qi (.pointer (some ⟨g1, o1 + k * 2, none⟩)), qi (.int .i64 x.ix), qi (.slice (some ⟨g2, o2, none⟩) m.length bcap), qi (.int .i64 ((k : Nat) : Int)), qi (.pointer (some ⟨g2, o2 + k * 2, none⟩)), qi (.pointer (some ⟨g2, o2 + k * 2, none⟩)), qi (.int .i64 y.ix), qi (.bool (!(x.ix == y.ix))), qi (.bool (!(x.ix == y.ix))), qc (!(!(x.ix == y.ix))) (qi (.slice (some ⟨g1, o1, none⟩) l.length cap)), qc (!(!(x.ix == y.ix))) (qi (.int .i64 ((k : Nat) : Int))), qc (!(!(x.ix == y.ix))) (qi (.pointer (some ⟨g1, o1 + k * 2, none⟩))), qc (!(!(x.ix == y.ix))) (qi (.pointer (some ⟨g1, o1 + k * 2 + 1, none⟩))), qc (!(!(x.ix == y.ix))) (qi (.slice al1 x.l.length kl1)), qc (!(!(x.ix == y.ix))) (qi (.slice (some ⟨g2, o2, none⟩) m.length bcap)), qc (!(!(x.ix == y.ix))) (qi (.int .i64 ((k : Nat) : Int))), qc (!(!(x.ix == y.ix))) (qi (.pointer (some ⟨g2, o2 + k * 2, none⟩))), qc (!(!(x.ix == y.ix))) (qi (.pointer (some ⟨g2, o2 + k * 2 + 1, none⟩))), qc (!(!(x.ix == y.ix))) (qi (.slice al2 y.l.length kl2)), qc (!(!(x.ix == y.ix))) (qi (.bool (eqb x.l y.l))), qc (!(!(x.ix == y.ix))) (qi (.bool (!(eqb x.l y.l)))), qi (.bool ((!(x.ix == y.ix)) || (!(eqb x.l y.l))))] ⟨qi_stable, qi_stable, qi_stable, qi_stable, qi_stable, qi_stable, qi_stable, qi_stable, qi_stable, qi_stable, qi_stable, qi_stable, (qc_stable qi_stable), (qc_stable qi_stable), (qc_stable qi_stable), (qc_stable qi_stable), (qc_stable qi_stable), (qc_stable qi_stable), (qc_stable qi_stable), (qc_stable qi_stable), (qc_stable qi_stable), (qc_stable qi_stable), (qc_stable qi_stable), (qc_stable qi_stable), qi_stable, trivial⟩ [] ⟨?_, ?_, ?_, ?_, ?_, ?_, ?_, ?_, ?_, ?_, ?_, ?_, ?_, ?_, ?_, ?_, ?_, ?_, ?_, ?_, ?_, ?_, ?_, ?_, ?_, trivial⟩ ?_
    ·exact stq (fun E => ex_move rfl (E.v oe0))
    ·exact stq (fun E => ex_move rfl (E.v oe5))
    ·exact stq (fun E => ex_idxS (i := k) (s := 2) rfl Try.underlying49 (by kernel_rfl) (E.d 0) (E.d 1) (by first | exact hlt | exact hlt2))
    ·exact stq (fun E => ex_field rfl Try.underlying121 rfl (by kernel_rfl) (E.d 2))
    ·exact stq (fun E => ex_load1 rfl Try.underlying3 rfl (E.d 3) ((HAT1.out.mod E.m.old (by intro k h1 h2; have hb := HBR.out k h1; omega)).2 0 _ rfl))
    ·exact stq (fun E => ex_move rfl (E.v oe1))
    ·exact stq (fun E => ex_move rfl (E.v oe5))
    ·exact stq (fun E => ex_idxS (i := k) (s := 2) rfl Try.underlying49 (by kernel_rfl) (E.d 5) (E.d 6) (by first | exact hlt | exact hlt2))
    ·exact stq (fun E => ex_field rfl Try.underlying121 rfl (by kernel_rfl) (E.d 7))
    ·exact stq (fun E => ex_load1 rfl Try.underlying3 rfl (E.d 8) ((HAT2.out.mod E.m.old (by intro k h1 h2; have hb := HBT.out k h1; omega)).2 0 _ rfl))
    ·exact stq (fun E => ex_bin rfl (E.d 4) (E.d 9) (guard_ints _ _ _ _ _ _) (run_neq_i _ _ _ Try.underlying3))
    ·exact stq (fun E => ex_move rfl (E.d 10))
    ·refine stepq_env rfl rfl rfl fun _ _ _ _ _ _ _ hout hsz hd _ _ => ?_
     have h11 := hd ⟨11, .guard⟩ (by simp) rfl _ rfl
     refine qe_guard rfl (b := (!(!(x.ix == y.ix)))) ((wanted_of rfl rfl (hsz 27 (by decide)) h11).trans (by simp)) rfl (fun hb l' hl' => ?_)
     have hb0 := hb
     have hb : (!(x.ix == y.ix)) = false := by simpa using hb
     refine qe_run rfl ((wanted_of rfl rfl (hsz 27 (by decide)) h11).trans (by rw [hb]; rfl)) (ex_move rfl ((hout 0 (by decide)).trans oe0)) QE.refl ?_
     rw [hl']; rfl
    ·refine stepq_env rfl rfl rfl fun _ _ _ _ _ _ _ hout hsz hd _ _ => ?_
     have h11 := hd ⟨11, .guard⟩ (by simp) rfl _ rfl
     refine qe_guard rfl (b := (!(!(x.ix == y.ix)))) ((wanted_of rfl rfl (hsz 27 (by decide)) h11).trans (by simp)) rfl (fun hb l' hl' => ?_)
     have hb0 := hb
     have hb : (!(x.ix == y.ix)) = false := by simpa using hb
     refine qe_run rfl ((wanted_of rfl rfl (hsz 27 (by decide)) h11).trans (by rw [hb]; rfl)) (ex_move rfl ((hout 5 (by decide)).trans oe5)) QE.refl ?_
     rw [hl']; rfl
    ·refine stepq_env rfl rfl rfl fun _ _ _ _ _ _ _ _ hsz hd _ _ => ?_
     have h11 := hd ⟨11, .guard⟩ (by simp) rfl _ rfl
     have h12 := hd ⟨12, .data⟩ (by simp) rfl _ rfl
     have h13 := hd ⟨13, .data⟩ (by simp) rfl _ rfl
     refine qe_guard rfl (b := (!(!(x.ix == y.ix)))) ((wanted_of rfl rfl (hsz 27 (by decide)) h11).trans (by simp)) rfl (fun hb l' hl' => ?_)
     have hb0 := hb
     have hb : (!(x.ix == y.ix)) = false := by simpa using hb
     refine qe_run rfl ((wanted_of rfl rfl (hsz 27 (by decide)) h11).trans (by rw [hb]; rfl)) (ex_idxS (i := k) (s := 2) rfl Try.underlying49 (by kernel_rfl) (h12.1 hb0) (h13.1 hb0) (by first | exact hlt | exact hlt2)) QE.refl ?_
     rw [hl']; rfl
    ·refine stepq_env rfl rfl rfl fun _ _ _ _ _ _ _ _ hsz hd _ _ => ?_
     have h11 := hd ⟨11, .guard⟩ (by simp) rfl _ rfl
     have h14 := hd ⟨14, .data⟩ (by simp) rfl _ rfl
     refine qe_guard rfl (b := (!(!(x.ix == y.ix)))) ((wanted_of rfl rfl (hsz 27 (by decide)) h11).trans (by simp)) rfl (fun hb l' hl' => ?_)
     have hb0 := hb
     have hb : (!(x.ix == y.ix)) = false := by simpa using hb
     refine qe_run rfl ((wanted_of rfl rfl (hsz 27 (by decide)) h11).trans (by rw [hb]; rfl)) (ex_field rfl Try.underlying121 rfl (by kernel_rfl) (h14.1 hb0)) QE.refl ?_
     rw [hl']; rfl
    ·refine stepq_env rfl rfl rfl fun _ _ _ _ _ hm _ _ hsz hd _ _ => ?_
     have h11 := hd ⟨11, .guard⟩ (by simp) rfl _ rfl
     have h15 := hd ⟨15, .data⟩ (by simp) rfl _ rfl
     refine qe_guard rfl (b := (!(!(x.ix == y.ix)))) ((wanted_of rfl rfl (hsz 27 (by decide)) h11).trans (by simp)) rfl (fun hb l' hl' => ?_)
     have hb0 := hb
     have hb : (!(x.ix == y.ix)) = false := by simpa using hb
     refine qe_run rfl ((wanted_of rfl rfl (hsz 27 (by decide)) h11).trans (by rw [hb]; rfl)) (ex_load1 rfl Try.underlying119 rfl (h15.1 hb0) ((HAT1.out.mod hm.old (by intro k h1 h2; have hb := HBR.out k h1; omega)).2 1 _ rfl)) QE.refl ?_
     rw [hl']; rfl
    ·refine stepq_env rfl rfl rfl fun _ _ _ _ _ _ _ hout hsz hd _ _ => ?_
     have h11 := hd ⟨11, .guard⟩ (by simp) rfl _ rfl
     refine qe_guard rfl (b := (!(!(x.ix == y.ix)))) ((wanted_of rfl rfl (hsz 27 (by decide)) h11).trans (by simp)) rfl (fun hb l' hl' => ?_)
     have hb0 := hb
     have hb : (!(x.ix == y.ix)) = false := by simpa using hb
     refine qe_run rfl ((wanted_of rfl rfl (hsz 27 (by decide)) h11).trans (by rw [hb]; rfl)) (ex_move rfl ((hout 1 (by decide)).trans oe1)) QE.refl ?_
     rw [hl']; rfl
    ·refine stepq_env rfl rfl rfl fun _ _ _ _ _ _ _ hout hsz hd _ _ => ?_
     have h11 := hd ⟨11, .guard⟩ (by simp) rfl _ rfl
     refine qe_guard rfl (b := (!(!(x.ix == y.ix)))) ((wanted_of rfl rfl (hsz 27 (by decide)) h11).trans (by simp)) rfl (fun hb l' hl' => ?_)
     have hb0 := hb
     have hb : (!(x.ix == y.ix)) = false := by simpa using hb
     refine qe_run rfl ((wanted_of rfl rfl (hsz 27 (by decide)) h11).trans (by rw [hb]; rfl)) (ex_move rfl ((hout 5 (by decide)).trans oe5)) QE.refl ?_
     rw [hl']; rfl
    ·refine stepq_env rfl rfl rfl fun _ _ _ _ _ _ _ _ hsz hd _ _ => ?_
     have h11 := hd ⟨11, .guard⟩ (by simp) rfl _ rfl
     have h17 := hd ⟨17, .data⟩ (by simp) rfl _ rfl
     have h18 := hd ⟨18, .data⟩ (by simp) rfl _ rfl
     refine qe_guard rfl (b := (!(!(x.ix == y.ix)))) ((wanted_of rfl rfl (hsz 27 (by decide)) h11).trans (by simp)) rfl (fun hb l' hl' => ?_)
     have hb0 := hb
     have hb : (!(x.ix == y.ix)) = false := by simpa using hb
     refine qe_run rfl ((wanted_of rfl rfl (hsz 27 (by decide)) h11).trans (by rw [hb]; rfl)) (ex_idxS (i := k) (s := 2) rfl Try.underlying49 (by kernel_rfl) (h17.1 hb0) (h18.1 hb0) (by first | exact hlt | exact hlt2)) QE.refl ?_
     rw [hl']; rfl
    ·refine stepq_env rfl rfl rfl fun _ _ _ _ _ _ _ _ hsz hd _ _ => ?_
     have h11 := hd ⟨11, .guard⟩ (by simp) rfl _ rfl
     have h19 := hd ⟨19, .data⟩ (by simp) rfl _ rfl
     refine qe_guard rfl (b := (!(!(x.ix == y.ix)))) ((wanted_of rfl rfl (hsz 27 (by decide)) h11).trans (by simp)) rfl (fun hb l' hl' => ?_)
     have hb0 := hb
     have hb : (!(x.ix == y.ix)) = false := by simpa using hb
     refine qe_run rfl ((wanted_of rfl rfl (hsz 27 (by decide)) h11).trans (by rw [hb]; rfl)) (ex_field rfl Try.underlying121 rfl (by kernel_rfl) (h19.1 hb0)) QE.refl ?_
     rw [hl']; rfl
    ·refine stepq_env rfl rfl rfl fun _ _ _ _ _ hm _ _ hsz hd _ _ => ?_
     have h11 := hd ⟨11, .guard⟩ (by simp) rfl _ rfl
     have h20 := hd ⟨20, .data⟩ (by simp) rfl _ rfl
     refine qe_guard rfl (b := (!(!(x.ix == y.ix)))) ((wanted_of rfl rfl (hsz 27 (by decide)) h11).trans (by simp)) rfl (fun hb l' hl' => ?_)
     have hb0 := hb
     have hb : (!(x.ix == y.ix)) = false := by simpa using hb
     refine qe_run rfl ((wanted_of rfl rfl (hsz 27 (by decide)) h11).trans (by rw [hb]; rfl)) (ex_load1 rfl Try.underlying119 rfl (h20.1 hb0) ((HAT2.out.mod hm.old (by intro k h1 h2; have hb := HBT.out k h1; omega)).2 1 _ rfl)) QE.refl ?_
     rw [hl']; rfl
    ·refine stepq_env rfl rfl rfl fun _ _ _ _ _ hm _ _ hsz hd _ _ => ?_
     have h11 := hd ⟨11, .chain⟩ (by simp) rfl _ rfl
     have h16 := hd ⟨16, .data⟩ (by simp) rfl _ rfl
     have h21 := hd ⟨21, .data⟩ (by simp) rfl _ rfl
     refine qe_guard rfl (b := (!(!(x.ix == y.ix)))) ((wanted_of rfl rfl (hsz 27 (by decide)) h11).trans (by simp)) rfl (fun hb l' hl' => ?_)
     have hb0 := hb
     have hb : (!(x.ix == y.ix)) = false := by simpa using hb
     refine qe_callF (args := #[.slice al1 x.l.length kl1, .slice al2 y.l.length kl2]) rfl ((wanted_of rfl rfl (hsz 27 (by decide)) h11).trans (by rw [hb]; rfl)) rfl Try.func57 (args2 (h16.1 hb0) (h21.1 hb0)) (EqL_Dn _ _ _ _ _ _ _ (HSL1.out.mod hm.old (by intro k h1 h2; have hb := HBR.out k h1; omega)) (HSL2.out.mod hm.old (by intro k h1 h2; have hb := HBT.out k h1; omega)) (by intro k h1; have hb := HBR.out k h1; (try have := hm.size); omega) (by intro k h1; have hb := HBT.out k h1; (try have := hm.size); omega)) ?_
     rintro e w2 ⟨rfl, hm2⟩
     exact ⟨_, rfl, QE.still hm2, (by rw [hl']; rfl)⟩
    ·refine stepq_env rfl rfl rfl fun _ _ _ _ _ _ _ _ hsz hd _ _ => ?_
     have h11 := hd ⟨11, .guard⟩ (by simp) rfl _ rfl
     have h22 := hd ⟨22, .data⟩ (by simp) rfl _ rfl
     refine qe_guard rfl (b := (!(!(x.ix == y.ix)))) ((wanted_of rfl rfl (hsz 27 (by decide)) h11).trans (by simp)) rfl (fun hb l' hl' => ?_)
     have hb0 := hb
     have hb : (!(x.ix == y.ix)) = false := by simpa using hb
     refine qe_run rfl ((wanted_of rfl rfl (hsz 27 (by decide)) h11).trans (by rw [hb]; rfl)) (ex_not rfl (h22.1 hb0)) QE.refl ?_
     rw [hl']; rfl
    ·exact stq (fun E => ex_pickE rfl (E.d 11) rfl rfl (or_val fun hb => (E.d 23).1 (by rw [hb]; rfl)))
    intro u6_0 hr
    have zu6_0 := hr.size
    have Cx1 := hid (hr.new (S := (fun _ => False)))
    clear hr
    refine QChain.nil fun vs hl hzz hrows hne => ?_
    obtain ⟨Z, hYZ, hZb, hV⟩ := hzz
    have f0 := fvi hV hl 0
    have f1 := fvi hV hl 1
    have f5 := fvi hV hl 5
    have f6 := fvi hV hl 6
    have f11 := fvi hV hl 11
    have f24 := fvi hV hl 24
    rw [show vs = [gw vs 0, gw vs 1, gw vs 2, gw vs 3, gw vs 4, gw vs 5, gw vs 6, gw vs 7, gw vs 8, gw vs 9, gw vs 10, gw vs 11, gw vs 12, gw vs 13, gw vs 14, gw vs 15, gw vs 16, gw vs 17, gw vs 18, gw vs 19, gw vs 20, gw vs 21, gw vs 22, gw vs 23, gw vs 24] from (gw_eta hl).trans rfl]
    have ha0 := HA0.out
    subst ha0
    clear HA0 hV hYZ hZb hsz0 hrows hne oe0 oe1 oe5
    simp only [putAll, Act.put, sIB, sCZ, sCS, f0, f1, f5, f6, f11, f24]
    clear hl f0 f1 f5 f6 f11 f24
    rw [tb_eqb, ← HB.out]
    cases b with
    | false =>
     go_upto_region 7 with (fail)
     refine wp_region_U 42 [4] [0] (fun a0 HA0 => ?_)
     refine QSeq.pure rfl (.bool false) (fun E => ex_assign rfl rfl) ?_
     refine QSeq.nil (t' := [_]) rfl ?_
     obtain rfl := HA0.out
     clear HA0
     simp only [pz, Act.put, sIB, sCZ, sCS]
     go_wp2
     go_ret
     exact ⟨ret_bool (take_ne hlt hlt2 (fun e => by have h := HB.out; rw [HX1.out, HX2.out, e, eqb_rfl] at h; cases h)).symm, (HML.out.trans Cx1.out (fun _ _ h => h.elim))⟩
    | true =>
     go_upto_region 8 with (fail)
     refine wp_region_U 42 [41, 13] [0, 1] (fun a0 HA0 => ?_)
     have oe13 := ev HA0 13 rfl
     refine QSeq.pure rfl (.int .i64 (((k : Nat) : Int) + 1)) (fun E => ex_binE rfl (E.y 1 oe13) rfl (guard_ints _ _ _ _ _ _) (run_add_i _ _ Try.underlying3) (congrArg (Value.int .i64) (IntWalk.i64_in _ (by omega)))) ?_
     refine QSeq.pure rfl _ (fun E => ex_move rfl (E.d 0 0)) ?_
     refine QSeq.nil (t' := [_, _]) rfl ?_
     obtain rfl := HA0.out
     clear HA0 oe13
     simp only [pz, Act.put, sIB, sCZ, sCS]
     go_wp2
     go_roundw
     case rel => exact ⟨k + 1, by go_num, by omega, take_succ2 hlt hlt2 HTK.out (by have h := eqb_iff.1 HB.out.symm; rw [HX1.out, HX2.out] at h; exact h), by omega, (HS2.out.mod Cx1.out (fun _ _ h => h)), (HT2.out.mod Cx1.out (fun _ _ h => h)), (HML.out.trans Cx1.out (fun _ _ h => h.elim))⟩
     case measure => simp [intOf] <;> omega
   ·skip
    go_upto_region 4 with (fail)
    refine wp_region_U 42 [14] [0] (fun a0 HA0 => ?_)
    have oe12 := ev HA0 12 rfl
    have oe13 := ev HA0 13 rfl
    refine QSeq.pure rfl (.bool false) (fun E => ex_binE rfl (E.v oe13) (E.v oe12) (guard_ints _ _ _ _ _ _) (run_lss_i _ _ _ Try.underlying3) (congrArg Value.bool (decide_eq_false (by omega)))) ?_
    refine QSeq.nil (t' := [_]) rfl ?_
    obtain rfl := HA0.out
    clear HA0 oe12 oe13
    simp only [pz, Act.put, sIB, sCZ, sCS]
    go_upto_region 9 with (fail)
    refine wp_region_U 42 [4] [0] (fun a0 HA0 => ?_)
    refine QSeq.pure rfl (.bool true) (fun E => ex_assign rfl rfl) ?_
    refine QSeq.nil (t' := [_]) rfl ?_
    obtain rfl := HA0.out
    clear HA0
    simp only [pz, Act.put, sIB, sCZ, sCS]
    go_wp2
    go_ret
    exact ⟨ret_bool (take_all (by omega) (by have := HLE.out; omega) HTK.out).symm, HML.out⟩
set_option maxHeartbeats 8000000 in
theorem Eq_Ba : Eqs BaR 27 := by
 intro R R2 cs ds x y w hx hy hB hB2
 obtain ⟨vx_ps, vx_os, vx_ts, rfl, hokx, hx_ps, hx_os, hx_ts⟩ := hx
 obtain ⟨ax_ps, kx_ps, rfl⟩ := hx_ps.shape
 have Hx_ps := Lib.hid hx_ps
 clear hx_ps
 obtain ⟨ax_os, kx_os, rfl⟩ := hx_os.shape
 have Hx_os := Lib.hid hx_os
 clear hx_os
 obtain ⟨ax_ts, kx_ts, rfl⟩ := hx_ts.shape
 have Hx_ts := Lib.hid hx_ts
 clear hx_ts
 have HOKx := Lib.hid hokx
 clear hokx
 obtain ⟨vy_ps, vy_os, vy_ts, rfl, hoky, hy_ps, hy_os, hy_ts⟩ := hy
 obtain ⟨ay_ps, ky_ps, rfl⟩ := hy_ps.shape
 have Hy_ps := Lib.hid hy_ps
 clear hy_ps
 obtain ⟨ay_os, ky_os, rfl⟩ := hy_os.shape
 have Hy_os := Lib.hid hy_os
 clear hy_os
 obtain ⟨ay_ts, ky_ts, rfl⟩ := hy_ts.shape
 have Hy_ts := Lib.hid hy_ts
 clear hy_ts
 have HOKy := Lib.hid hoky
 clear hoky
 have HBR := Lib.hid hB
 have HBT := Lib.hid hB2
 clear hB hB2
 go_enter Try.func27, Try.ntmps27
 go_upto_region 1 with (fail)
 obtain ⟨w1, hw1⟩ : ∃ zz, zz = ((w.alloc (.cells (x.cells (.slice ax_ps x.ps.length kx_ps) (.slice ax_os x.os.length kx_os) (.slice ax_ts x.ts.length kx_ts) : List Value).toArray 51)).alloc (.cells (y.cells (.slice ay_ps y.ps.length ky_ps) (.slice ay_os y.os.length ky_os) (.slice ay_ts y.ts.length ky_ts) : List Value).toArray 51)) := ⟨_, rfl⟩
 change Code.wp _ _ _ _ ((w.alloc (.cells (x.cells (.slice ax_ps x.ps.length kx_ps) (.slice ax_os x.os.length kx_os) (.slice ax_ts x.ts.length kx_ts) : List Value).toArray 51)).alloc (.cells (y.cells (.slice ay_ps y.ps.length ky_ps) (.slice ay_os y.os.length ky_os) (.slice ay_ts y.ts.length ky_ts) : List Value).toArray 51))
 rw [← hw1]
 have HB2 := hid (show Cs w1 (w.heap.size) (x.cells (.slice ax_ps x.ps.length kx_ps) (.slice ax_os x.os.length kx_os) (.slice ax_ts x.ts.length kx_ts) : List Value).toArray 51 by rw [hw1]; exact (Cs.new _ _ _).alloc _)
 have HB3 := hid (show Cs w1 (w.heap.size + 1) (y.cells (.slice ay_ps y.ps.length ky_ps) (.slice ay_os y.os.length ky_os) (.slice ay_ts y.ts.length ky_ts) : List Value).toArray 51 by rw [hw1]; exact Cs_newN _ _ _ (by simp))
 have hm : Mod (fun _ => False) w w1 := by rw [hw1]; exact ((Mod.refl _ _).alloc _).alloc _
 have HM0 := hid (show Mod (fun _ => False) w w1 from hm.mono (fun _ _ h => h.elim))
 have hs1 : w1.heap.size = w.heap.size + 2 := by rw [hw1]; simp
 have Hx1 := hid (Hx_ps.out.mod hm (fun _ _ h => h))
 clear Hx_ps
 have Hx2 := hid (Hx_os.out.mod hm (fun _ _ h => h))
 clear Hx_os
 have Hx3 := hid (Hx_ts.out.mod hm (fun _ _ h => h))
 clear Hx_ts
 have Hx4 := hid (Hy_ps.out.mod hm (fun _ _ h => h))
 clear Hy_ps
 have Hx5 := hid (Hy_os.out.mod hm (fun _ _ h => h))
 clear Hy_os
 have Hx6 := hid (Hy_ts.out.mod hm (fun _ _ h => h))
 clear Hy_ts
 clear hw1 hm
 have hlx : x.ps.length ≤ maxLen := Hx1.out.bd
 have hly : y.ps.length ≤ maxLen := Hx4.out.bd
 rw [maxLen_val] at hlx hly
 go_upto_region 1 with (fail)
 refine wp_region_U 62 [6, 7, 8, 9, 10, 11, 12, 13, 14, 15, 16, 17, 18, 19, 20, 21, 22, 23, 24, 25, 26, 27, 28, 29, 30, 31, 32, 33, 34, 35, 36, 37, 38, 39, 40, 41, 42] [0, 1, 2, 3, 4, 5, 6, 7, 8, 9, 10, 11, 12, 13, 14, 15, 16, 17, 18, 19, 20, 21, 22, 23, 24, 25, 26, 27, 28, 29, 30, 31, 32, 33, 34, 35, 36] (fun a0 HA0 => ?_)
 have oe2 := ev HA0 2 rfl
 have oe3 := ev HA0 3 rfl
 refine QSeq.pure rfl (.pointer (some ⟨w.heap.size, 0, none⟩)) (fun E => ex_field rfl Try.underlying51 rfl (by kernel_rfl) (E.v oe2)) ?_
 refine QSeq.pure rfl _ (fun E => ex_load1 rfl Try.underlying3 rfl (E.d 0 0) (Cs.lit1 HB2.out rfl)) ?_
 refine QSeq.pure rfl (.pointer (some ⟨w.heap.size + 1, 0, none⟩)) (fun E => ex_field rfl Try.underlying51 rfl (by kernel_rfl) (E.v oe3)) ?_
 refine QSeq.pure rfl _ (fun E => ex_load1 rfl Try.underlying3 rfl (E.d 2 0) (Cs.lit1 HB3.out rfl)) ?_
 refine QSeq.pure rfl (.bool (!(x.ep == y.ep))) (fun E => ex_bin rfl (E.d 1 2) (E.d 3 0) (guard_ints _ _ _ _ _ _) (run_neq_i _ _ _ Try.underlying3)) ?_
 refine QSeq.pure rfl _ (fun E => ex_move rfl (E.d 4 0)) ?_
 refine QSeq.may (b := (!(!(x.ep == y.ep)))) rfl (.pointer (some ⟨w.heap.size, 1, none⟩)) (fun E => ((wanted_of rfl rfl (E.sz 11 (by decide)) (E.d 5 0)).trans (beq_f _))) (fun E hb0 => (by have hb : (!(x.ep == y.ep)) = false := (by simpa using hb0); exact ex_field rfl Try.underlying51 rfl (by kernel_rfl) (E.v oe2))) ?_
 intro v1_6 hw
 have hv1_6 := hid hw
 clear hw
 refine QSeq.may (b := (!(!(x.ep == y.ep)))) rfl (.int .u64 (x.tm : Nat)) (fun E => ((wanted_of rfl rfl (E.sz 11 (by decide)) (E.d 5 1)).trans (beq_f _))) (fun E hb0 => (by have hb : (!(x.ep == y.ep)) = false := (by simpa using hb0); exact ex_load1 rfl Try.underlying36 rfl ((E.q 6 0 hv1_6.out).1 hb0) (Cs.lit1 HB2.out rfl))) ?_
 intro v1_7 hw
 have hv1_7 := hid hw
 clear hw
 refine QSeq.may (b := (!(!(x.ep == y.ep)))) rfl (.pointer (some ⟨w.heap.size + 1, 1, none⟩)) (fun E => ((wanted_of rfl rfl (E.sz 11 (by decide)) (E.d 5 2)).trans (beq_f _))) (fun E hb0 => (by have hb : (!(x.ep == y.ep)) = false := (by simpa using hb0); exact ex_field rfl Try.underlying51 rfl (by kernel_rfl) (E.v oe3))) ?_
 intro v1_8 hw
 have hv1_8 := hid hw
 clear hw
 refine QSeq.may (b := (!(!(x.ep == y.ep)))) rfl (.int .u64 (y.tm : Nat)) (fun E => ((wanted_of rfl rfl (E.sz 11 (by decide)) (E.d 5 3)).trans (beq_f _))) (fun E hb0 => (by have hb : (!(x.ep == y.ep)) = false := (by simpa using hb0); exact ex_load1 rfl Try.underlying36 rfl ((E.q 8 0 hv1_8.out).1 hb0) (Cs.lit1 HB3.out rfl))) ?_
 intro v1_9 hw
 have hv1_9 := hid hw
 clear hw
 refine QSeq.may (b := (!(!(x.ep == y.ep)))) rfl (.bool (!(((x.tm : Nat) : Int) == ((y.tm : Nat) : Int)))) (fun E => ((wanted_of rfl rfl (E.sz 11 (by decide)) (E.d 5 4)).trans (beq_f _))) (fun E hb0 => (by have hb : (!(x.ep == y.ep)) = false := (by simpa using hb0); exact ex_bin rfl ((E.q 7 2 hv1_7.out).1 hb0) ((E.q 9 0 hv1_9.out).1 hb0) (guard_ints _ _ _ _ _ _) (run_neq_i _ _ _ Try.underlying36))) ?_
 intro v1_10 hw
 have hv1_10 := hid hw
 clear hw
 refine QSeq.pure rfl (.bool ((!(x.ep == y.ep)) || (!(((x.tm : Nat) : Int) == ((y.tm : Nat) : Int))))) (fun E => ex_pickE rfl (E.d 5 5) rfl rfl (or_val fun hb => (E.q 10 0 hv1_10.out).1 (by rw [hb]; rfl))) ?_
 refine QSeq.pure rfl _ (fun E => ex_move rfl (E.d 11 0)) ?_
 refine QSeq.may (b := (!((!(x.ep == y.ep)) || (!(((x.tm : Nat) : Int) == ((y.tm : Nat) : Int)))))) rfl (.pointer (some ⟨w.heap.size, 2, none⟩)) (fun E => ((wanted_of rfl rfl (E.sz 18 (by decide)) (E.d 12 0)).trans (beq_f _))) (fun E hb0 => (by have hb : ((!(x.ep == y.ep)) || (!(((x.tm : Nat) : Int) == ((y.tm : Nat) : Int)))) = false := (by simpa using hb0); exact ex_field rfl Try.underlying51 rfl (by kernel_rfl) (E.v oe2))) ?_
 intro v1_13 hw
 have hv1_13 := hid hw
 clear hw
 refine QSeq.may (b := (!((!(x.ep == y.ep)) || (!(((x.tm : Nat) : Int) == ((y.tm : Nat) : Int)))))) rfl (.slice ax_ps x.ps.length kx_ps) (fun E => ((wanted_of rfl rfl (E.sz 18 (by decide)) (E.d 12 1)).trans (beq_f _))) (fun E hb0 => (by have hb : ((!(x.ep == y.ep)) || (!(((x.tm : Nat) : Int) == ((y.tm : Nat) : Int)))) = false := (by simpa using hb0); exact ex_load1 rfl Try.underlying47 rfl ((E.q 13 0 hv1_13.out).1 hb0) (Cs.lit1 HB2.out rfl))) ?_
 intro v1_14 hw
 have hv1_14 := hid hw
 clear hw
 refine QSeq.may (b := (!((!(x.ep == y.ep)) || (!(((x.tm : Nat) : Int) == ((y.tm : Nat) : Int)))))) rfl (.int .i64 x.ps.length) (fun E => ((wanted_of rfl rfl (E.sz 18 (by decide)) (E.d 12 2)).trans (beq_f _))) (fun E hb0 => (by have hb : ((!(x.ep == y.ep)) || (!(((x.tm : Nat) : Int) == ((y.tm : Nat) : Int)))) = false := (by simpa using hb0); exact ex_lenS rfl ((E.q 14 0 hv1_14.out).1 hb0) Try.underlying47)) ?_
 intro v1_15 hw
 have hv1_15 := hid hw
 clear hw
 refine QSeq.may (b := (!((!(x.ep == y.ep)) || (!(((x.tm : Nat) : Int) == ((y.tm : Nat) : Int)))))) rfl (.pointer (some ⟨w.heap.size + 1, 2, none⟩)) (fun E => ((wanted_of rfl rfl (E.sz 18 (by decide)) (E.d 12 3)).trans (beq_f _))) (fun E hb0 => (by have hb : ((!(x.ep == y.ep)) || (!(((x.tm : Nat) : Int) == ((y.tm : Nat) : Int)))) = false := (by simpa using hb0); exact ex_field rfl Try.underlying51 rfl (by kernel_rfl) (E.v oe3))) ?_
 intro v1_16 hw
 have hv1_16 := hid hw
 clear hw
 refine QSeq.may (b := (!((!(x.ep == y.ep)) || (!(((x.tm : Nat) : Int) == ((y.tm : Nat) : Int)))))) rfl (.slice ay_ps y.ps.length ky_ps) (fun E => ((wanted_of rfl rfl (E.sz 18 (by decide)) (E.d 12 4)).trans (beq_f _))) (fun E hb0 => (by have hb : ((!(x.ep == y.ep)) || (!(((x.tm : Nat) : Int) == ((y.tm : Nat) : Int)))) = false := (by simpa using hb0); exact ex_load1 rfl Try.underlying47 rfl ((E.q 16 0 hv1_16.out).1 hb0) (Cs.lit1 HB3.out rfl))) ?_
 intro v1_17 hw
 have hv1_17 := hid hw
 clear hw
 refine QSeq.may (b := (!((!(x.ep == y.ep)) || (!(((x.tm : Nat) : Int) == ((y.tm : Nat) : Int)))))) rfl (.int .i64 y.ps.length) (fun E => ((wanted_of rfl rfl (E.sz 18 (by decide)) (E.d 12 5)).trans (beq_f _))) (fun E hb0 => (by have hb : ((!(x.ep == y.ep)) || (!(((x.tm : Nat) : Int) == ((y.tm : Nat) : Int)))) = false := (by simpa using hb0); exact ex_lenS rfl ((E.q 17 0 hv1_17.out).1 hb0) Try.underlying47)) ?_
 intro v1_18 hw
 have hv1_18 := hid hw
 clear hw
 refine QSeq.may (b := (!((!(x.ep == y.ep)) || (!(((x.tm : Nat) : Int) == ((y.tm : Nat) : Int)))))) rfl (.bool (!(((x.ps.length : Nat) : Int) == ((y.ps.length : Nat) : Int)))) (fun E => ((wanted_of rfl rfl (E.sz 18 (by decide)) (E.d 12 6)).trans (beq_f _))) (fun E hb0 => (by have hb : ((!(x.ep == y.ep)) || (!(((x.tm : Nat) : Int) == ((y.tm : Nat) : Int)))) = false := (by simpa using hb0); exact ex_bin rfl ((E.q 15 3 hv1_15.out).1 hb0) ((E.q 18 0 hv1_18.out).1 hb0) (guard_ints _ _ _ _ _ _) (run_neq_i _ _ _ Try.underlying3))) ?_
 intro v1_19 hw
 have hv1_19 := hid hw
 clear hw
 refine QSeq.pure rfl (.bool (((!(x.ep == y.ep)) || (!(((x.tm : Nat) : Int) == ((y.tm : Nat) : Int)))) || (!(((x.ps.length : Nat) : Int) == ((y.ps.length : Nat) : Int))))) (fun E => ex_pickE rfl (E.d 12 7) rfl rfl (or_val fun hb => (E.q 19 0 hv1_19.out).1 (by rw [hb]; rfl))) ?_
 refine QSeq.pure rfl _ (fun E => ex_move rfl (E.d 20 0)) ?_
 refine QSeq.may (b := (!(((!(x.ep == y.ep)) || (!(((x.tm : Nat) : Int) == ((y.tm : Nat) : Int)))) || (!(((x.ps.length : Nat) : Int) == ((y.ps.length : Nat) : Int)))))) rfl (.pointer (some ⟨w.heap.size, 3, none⟩)) (fun E => ((wanted_of rfl rfl (E.sz 27 (by decide)) (E.d 21 0)).trans (beq_f _))) (fun E hb0 => (by have hb : (((!(x.ep == y.ep)) || (!(((x.tm : Nat) : Int) == ((y.tm : Nat) : Int)))) || (!(((x.ps.length : Nat) : Int) == ((y.ps.length : Nat) : Int)))) = false := (by simpa using hb0); exact ex_field rfl Try.underlying51 rfl (by kernel_rfl) (E.v oe2))) ?_
 intro v1_22 hw
 have hv1_22 := hid hw
 clear hw
 refine QSeq.may (b := (!(((!(x.ep == y.ep)) || (!(((x.tm : Nat) : Int) == ((y.tm : Nat) : Int)))) || (!(((x.ps.length : Nat) : Int) == ((y.ps.length : Nat) : Int)))))) rfl (.slice ax_os x.os.length kx_os) (fun E => ((wanted_of rfl rfl (E.sz 27 (by decide)) (E.d 21 1)).trans (beq_f _))) (fun E hb0 => (by have hb : (((!(x.ep == y.ep)) || (!(((x.tm : Nat) : Int) == ((y.tm : Nat) : Int)))) || (!(((x.ps.length : Nat) : Int) == ((y.ps.length : Nat) : Int)))) = false := (by simpa using hb0); exact ex_load1 rfl Try.underlying48 rfl ((E.q 22 0 hv1_22.out).1 hb0) (Cs.lit1 HB2.out rfl))) ?_
 intro v1_23 hw
 have hv1_23 := hid hw
 clear hw
 refine QSeq.may (b := (!(((!(x.ep == y.ep)) || (!(((x.tm : Nat) : Int) == ((y.tm : Nat) : Int)))) || (!(((x.ps.length : Nat) : Int) == ((y.ps.length : Nat) : Int)))))) rfl (.pointer (some ⟨w.heap.size + 1, 3, none⟩)) (fun E => ((wanted_of rfl rfl (E.sz 27 (by decide)) (E.d 21 2)).trans (beq_f _))) (fun E hb0 => (by have hb : (((!(x.ep == y.ep)) || (!(((x.tm : Nat) : Int) == ((y.tm : Nat) : Int)))) || (!(((x.ps.length : Nat) : Int) == ((y.ps.length : Nat) : Int)))) = false := (by simpa using hb0); exact ex_field rfl Try.underlying51 rfl (by kernel_rfl) (E.v oe3))) ?_
 intro v1_24 hw
 have hv1_24 := hid hw
 clear hw
 refine QSeq.may (b := (!(((!(x.ep == y.ep)) || (!(((x.tm : Nat) : Int) == ((y.tm : Nat) : Int)))) || (!(((x.ps.length : Nat) : Int) == ((y.ps.length : Nat) : Int)))))) rfl (.slice ay_os y.os.length ky_os) (fun E => ((wanted_of rfl rfl (E.sz 27 (by decide)) (E.d 21 3)).trans (beq_f _))) (fun E hb0 => (by have hb : (((!(x.ep == y.ep)) || (!(((x.tm : Nat) : Int) == ((y.tm : Nat) : Int)))) || (!(((x.ps.length : Nat) : Int) == ((y.ps.length : Nat) : Int)))) = false := (by simpa using hb0); exact ex_load1 rfl Try.underlying48 rfl ((E.q 24 0 hv1_24.out).1 hb0) (Cs.lit1 HB3.out rfl))) ?_
 intro v1_25 hw
 have hv1_25 := hid hw
 clear hw
 refine QSeq.mayCall (b := (!(((!(x.ep == y.ep)) || (!(((x.tm : Nat) : Int) == ((y.tm : Nat) : Int)))) || (!(((x.ps.length : Nat) : Int) == ((y.ps.length : Nat) : Int)))))) rfl (.bool (eqb x.os y.os)) (args := #[.slice ax_os x.os.length kx_os, .slice ay_os y.os.length ky_os]) (fun E => ((wanted_of rfl rfl (E.sz 27 (by decide)) (E.d 21 4)).trans (beq_f _))) rfl Try.func43 (fun E hb0 => (by have hb : (((!(x.ep == y.ep)) || (!(((x.tm : Nat) : Int) == ((y.tm : Nat) : Int)))) || (!(((x.ps.length : Nat) : Int) == ((y.ps.length : Nat) : Int)))) = false := (by simpa using hb0); exact args2 ((E.q 23 2 hv1_23.out).1 hb0) ((E.q 25 0 hv1_25.out).1 hb0))) (fun hb0 => (by have hb : (((!(x.ep == y.ep)) || (!(((x.tm : Nat) : Int) == ((y.tm : Nat) : Int)))) || (!(((x.ps.length : Nat) : Int) == ((y.ps.length : Nat) : Int)))) = false := (by simpa using hb0); exact EqL_Op _ _ _ _ _ _ _ Hx2.out Hx5.out (by intro k h1; have hb := HBR.out k h1; (try have := hm.size); omega) (by intro k h1; have hb := HBT.out k h1; (try have := hm.size); omega))) ?_
 intro v1_26 u1_26 hw hm
 have hv1_26 := hid hw
 clear hw
 have zu1_26 := hm.size
 have Cx7 := hid (show Mod (fun _ => False) w1 u1_26 from hm)
 clear hm
 refine QSeq.may (b := (!(((!(x.ep == y.ep)) || (!(((x.tm : Nat) : Int) == ((y.tm : Nat) : Int)))) || (!(((x.ps.length : Nat) : Int) == ((y.ps.length : Nat) : Int)))))) rfl (.bool (!(eqb x.os y.os))) (fun E => ((wanted_of rfl rfl (E.sz 27 (by decide)) (E.d 21 5)).trans (beq_f _))) (fun E hb0 => (by have hb : (((!(x.ep == y.ep)) || (!(((x.tm : Nat) : Int) == ((y.tm : Nat) : Int)))) || (!(((x.ps.length : Nat) : Int) == ((y.ps.length : Nat) : Int)))) = false := (by simpa using hb0); exact ex_not rfl ((E.q 26 0 hv1_26.out).1 hb0))) ?_
 intro v1_27 hw
 have hv1_27 := hid hw
 clear hw
 refine QSeq.pure rfl (.bool ((((!(x.ep == y.ep)) || (!(((x.tm : Nat) : Int) == ((y.tm : Nat) : Int)))) || (!(((x.ps.length : Nat) : Int) == ((y.ps.length : Nat) : Int)))) || (!(eqb x.os y.os)))) (fun E => ex_pickE rfl (E.d 21 6) rfl rfl (or_val fun hb => (E.q 27 0 hv1_27.out).1 (by rw [hb]; rfl))) ?_
 refine QSeq.pure rfl _ (fun E => ex_move rfl (E.d 28 0)) ?_
 refine QSeq.may (b := (!((((!(x.ep == y.ep)) || (!(((x.tm : Nat) : Int) == ((y.tm : Nat) : Int)))) || (!(((x.ps.length : Nat) : Int) == ((y.ps.length : Nat) : Int)))) || (!(eqb x.os y.os))))) rfl (.pointer (some ⟨w.heap.size, 4, none⟩)) (fun E => ((wanted_of rfl rfl (E.sz 35 (by decide)) (E.d 29 0)).trans (beq_f _))) (fun E hb0 => (by have hb : ((((!(x.ep == y.ep)) || (!(((x.tm : Nat) : Int) == ((y.tm : Nat) : Int)))) || (!(((x.ps.length : Nat) : Int) == ((y.ps.length : Nat) : Int)))) || (!(eqb x.os y.os))) = false := (by simpa using hb0); exact ex_field rfl Try.underlying51 rfl (by kernel_rfl) (E.v oe2))) ?_
 intro v1_30 hw
 have hv1_30 := hid hw
 clear hw
 refine QSeq.may (b := (!((((!(x.ep == y.ep)) || (!(((x.tm : Nat) : Int) == ((y.tm : Nat) : Int)))) || (!(((x.ps.length : Nat) : Int) == ((y.ps.length : Nat) : Int)))) || (!(eqb x.os y.os))))) rfl (.slice ax_ts x.ts.length kx_ts) (fun E => ((wanted_of rfl rfl (E.sz 35 (by decide)) (E.d 29 1)).trans (beq_f _))) (fun E hb0 => (by have hb : ((((!(x.ep == y.ep)) || (!(((x.tm : Nat) : Int) == ((y.tm : Nat) : Int)))) || (!(((x.ps.length : Nat) : Int) == ((y.ps.length : Nat) : Int)))) || (!(eqb x.os y.os))) = false := (by simpa using hb0); exact ex_load1 rfl Try.underlying49 rfl ((E.q 30 0 hv1_30.out).1 hb0) (Cs.lit1 (HB2.out.mod Cx7.out (fun h => h)) rfl))) ?_
 intro v1_31 hw
 have hv1_31 := hid hw
 clear hw
 refine QSeq.may (b := (!((((!(x.ep == y.ep)) || (!(((x.tm : Nat) : Int) == ((y.tm : Nat) : Int)))) || (!(((x.ps.length : Nat) : Int) == ((y.ps.length : Nat) : Int)))) || (!(eqb x.os y.os))))) rfl (.pointer (some ⟨w.heap.size + 1, 4, none⟩)) (fun E => ((wanted_of rfl rfl (E.sz 35 (by decide)) (E.d 29 2)).trans (beq_f _))) (fun E hb0 => (by have hb : ((((!(x.ep == y.ep)) || (!(((x.tm : Nat) : Int) == ((y.tm : Nat) : Int)))) || (!(((x.ps.length : Nat) : Int) == ((y.ps.length : Nat) : Int)))) || (!(eqb x.os y.os))) = false := (by simpa using hb0); exact ex_field rfl Try.underlying51 rfl (by kernel_rfl) (E.v oe3))) ?_
 intro v1_32 hw
 have hv1_32 := hid hw
 clear hw
 refine QSeq.may (b := (!((((!(x.ep == y.ep)) || (!(((x.tm : Nat) : Int) == ((y.tm : Nat) : Int)))) || (!(((x.ps.length : Nat) : Int) == ((y.ps.length : Nat) : Int)))) || (!(eqb x.os y.os))))) rfl (.slice ay_ts y.ts.length ky_ts) (fun E => ((wanted_of rfl rfl (E.sz 35 (by decide)) (E.d 29 3)).trans (beq_f _))) (fun E hb0 => (by have hb : ((((!(x.ep == y.ep)) || (!(((x.tm : Nat) : Int) == ((y.tm : Nat) : Int)))) || (!(((x.ps.length : Nat) : Int) == ((y.ps.length : Nat) : Int)))) || (!(eqb x.os y.os))) = false := (by simpa using hb0); exact ex_load1 rfl Try.underlying49 rfl ((E.q 32 0 hv1_32.out).1 hb0) (Cs.lit1 (HB3.out.mod Cx7.out (fun h => h)) rfl))) ?_
 intro v1_33 hw
 have hv1_33 := hid hw
 clear hw
 refine QSeq.mayCall (b := (!((((!(x.ep == y.ep)) || (!(((x.tm : Nat) : Int) == ((y.tm : Nat) : Int)))) || (!(((x.ps.length : Nat) : Int) == ((y.ps.length : Nat) : Int)))) || (!(eqb x.os y.os))))) rfl (.bool (eqb x.ts y.ts)) (args := #[.slice ax_ts x.ts.length kx_ts, .slice ay_ts y.ts.length ky_ts]) (fun E => ((wanted_of rfl rfl (E.sz 35 (by decide)) (E.d 29 4)).trans (beq_f _))) rfl Try.func44 (fun E hb0 => (by have hb : ((((!(x.ep == y.ep)) || (!(((x.tm : Nat) : Int) == ((y.tm : Nat) : Int)))) || (!(((x.ps.length : Nat) : Int) == ((y.ps.length : Nat) : Int)))) || (!(eqb x.os y.os))) = false := (by simpa using hb0); exact args2 ((E.q 31 2 hv1_31.out).1 hb0) ((E.q 33 0 hv1_33.out).1 hb0))) (fun hb0 => (by have hb : ((((!(x.ep == y.ep)) || (!(((x.tm : Nat) : Int) == ((y.tm : Nat) : Int)))) || (!(((x.ps.length : Nat) : Int) == ((y.ps.length : Nat) : Int)))) || (!(eqb x.os y.os))) = false := (by simpa using hb0); exact EqL_Tb _ _ _ _ _ _ _ (Hx3.out.mod Cx7.out (fun _ _ h => h)) (Hx6.out.mod Cx7.out (fun _ _ h => h)) (by intro k h1; have hb := HBR.out k h1; (try have := hm.size); omega) (by intro k h1; have hb := HBT.out k h1; (try have := hm.size); omega))) ?_
 intro v1_34 u1_34 hw hm
 have hv1_34 := hid hw
 clear hw
 have zu1_34 := hm.size
 have HMu1_34 := hid hm
 have Cx8 := hid (Cx7.out.goE hm)
 clear hm Cx7
 refine QSeq.may (b := (!((((!(x.ep == y.ep)) || (!(((x.tm : Nat) : Int) == ((y.tm : Nat) : Int)))) || (!(((x.ps.length : Nat) : Int) == ((y.ps.length : Nat) : Int)))) || (!(eqb x.os y.os))))) rfl (.bool (!(eqb x.ts y.ts))) (fun E => ((wanted_of rfl rfl (E.sz 35 (by decide)) (E.d 29 5)).trans (beq_f _))) (fun E hb0 => (by have hb : ((((!(x.ep == y.ep)) || (!(((x.tm : Nat) : Int) == ((y.tm : Nat) : Int)))) || (!(((x.ps.length : Nat) : Int) == ((y.ps.length : Nat) : Int)))) || (!(eqb x.os y.os))) = false := (by simpa using hb0); exact ex_not rfl ((E.q 34 0 hv1_34.out).1 hb0))) ?_
 intro v1_35 hw
 have hv1_35 := hid hw
 clear hw
 refine QSeq.pure rfl (.bool (((((!(x.ep == y.ep)) || (!(((x.tm : Nat) : Int) == ((y.tm : Nat) : Int)))) || (!(((x.ps.length : Nat) : Int) == ((y.ps.length : Nat) : Int)))) || (!(eqb x.os y.os))) || (!(eqb x.ts y.ts)))) (fun E => ex_pickE rfl (E.d 29 6) rfl rfl (or_val fun hb => (E.q 35 0 hv1_35.out).1 (by rw [hb]; rfl))) ?_
 clear HMu1_34 hv1_6 hv1_7 hv1_8 hv1_9 hv1_10 hv1_13 hv1_14 hv1_15 hv1_16 hv1_17 hv1_18 hv1_19 hv1_22 hv1_23 hv1_24 hv1_25 hv1_26 hv1_27 hv1_30 hv1_31 hv1_32 hv1_33 hv1_34 hv1_35
 refine QSeq.nil (t' := [_, _, _, _, _, _, _, _, _, _, _, _, _, _, _, _, _, _, _, _, _, _, _, _, _, _, _, _, _, _, _, _, _, _, _, _, _]) rfl ?_
 obtain rfl := HA0.out
 clear HA0 oe2 oe3
 simp only [pz, Act.put, sIB, sCZ, sCS]
 obtain ⟨b0, hb0⟩ : ∃ b0, b0 = (((((!(x.ep == y.ep)) || (!(((x.tm : Nat) : Int) == ((y.tm : Nat) : Int)))) || (!(((x.ps.length : Nat) : Int) == ((y.ps.length : Nat) : Int)))) || (!(eqb x.os y.os))) || (!(eqb x.ts y.ts))) := ⟨_, rfl⟩
 rw [← hb0]
 cases b0 with
 | true =>
  go_upto_region 2 with (fail)
  refine wp_region_U 62 [4] [0] (fun a0 HA0 => ?_)
  refine QSeq.pure rfl (.bool false) (fun E => ex_assign rfl rfl) ?_
  refine QSeq.nil (t' := [_]) rfl ?_
  obtain rfl := HA0.out
  clear HA0
  simp only [pz, Act.put, sIB, sCZ, sCS]
  go_wp2
  go_ret
  exact ⟨ret_bool (ba_neb x y hb0.symm).symm, (HM0.out.trans Cx8.out (fun _ _ h => h.elim))⟩
 | false =>
  have HEQ := hid (ba_eqb x y hb0.symm)
  have HLE := hid (show x.ps.length = y.ps.length by have h := hb0.symm; simp only [Bool.or_eq_false_iff, Bool.not_eq_false', beq_I, Int.ofNat_inj] at h; exact h.1.1.2)
  clear hb0
  go_upto_region 3 with (fail)
  refine wp_region_U 62 [43, 44, 45, 46] [0, 1, 2, 3] (fun a0 HA0 => ?_)
  have oe2 := ev HA0 2 rfl
  refine QSeq.pure rfl (.pointer (some ⟨w.heap.size, 2, none⟩)) (fun E => ex_field rfl Try.underlying51 rfl (by kernel_rfl) (E.v oe2)) ?_
  refine QSeq.pure rfl _ (fun E => ex_load1 rfl Try.underlying47 rfl (E.d 0 0) (Cs.lit1 (HB2.out.mod Cx8.out (fun h => h)) rfl)) ?_
  refine QSeq.pure rfl (.int .i64 x.ps.length) (fun E => ex_lenS rfl (E.d 1 0) Try.underlying47) ?_
  refine QSeq.pure rfl (.int .i64 0) (fun E => ex_move rfl rfl) ?_
  refine QSeq.nil (t' := [_, _, _, _]) rfl ?_
  obtain rfl := HA0.out
  clear HA0 oe2
  simp only [pz, Act.put, sIB, sCZ, sCS]
  go_wp2
  go_loopw [46, 5] (fun ti t5 wr => ∃ k : Nat, ti = .int .i64 (k : Int) ∧ k ≤ x.ps.length ∧ x.ps.take k = y.ps.take k ∧ u1_34.heap.size ≤ wr.heap.size ∧ RdS PmR R wr (.slice ax_ps x.ps.length kx_ps) x.ps ∧ RdS PmR R2 wr (.slice ay_ps y.ps.length ky_ps) y.ps ∧ Cs wr (w.heap.size) (x.cells (.slice ax_ps x.ps.length kx_ps) (.slice ax_os x.os.length kx_os) (.slice ax_ts x.ts.length kx_ts) : List Value).toArray 51 ∧ Cs wr (w.heap.size + 1) (y.cells (.slice ay_ps y.ps.length ky_ps) (.slice ay_os y.os.length ky_os) (.slice ay_ts y.ts.length ky_ts) : List Value).toArray 51 ∧ Mod (fun _ => False) w wr) (fun ti t5 _ => x.ps.length - (intOf ti).toNat)
  case atStart => exact ⟨0, rfl, Nat.zero_le _, rfl, Nat.le_refl _, (Hx1.out.mod Cx8.out (fun _ _ h => h)), (Hx4.out.mod Cx8.out (fun _ _ h => h)), (HB2.out.mod Cx8.out (fun h => h)), (HB3.out.mod Cx8.out (fun h => h)), (HM0.out.trans Cx8.out (fun _ _ h => h.elim))⟩
  case round =>
   obtain ⟨k, rfl, hk, htk, hz, hs, ht, hb2, hb3, hm⟩ := hrel
   obtain ⟨wl, rfl⟩ : ∃ x, x = wr := ⟨_, rfl⟩
   have HS2 := Lib.hid hs
   have HT2 := Lib.hid ht
   have HML := Lib.hid hm
   have HTK := Lib.hid htk
   have HBX := Lib.hid hb2
   have HBY := Lib.hid hb3
   clear hs ht hm htk hb2 hb3 Hx1 Hx2 Hx3 Hx4 Hx5 Hx6 HB2 HB3 HM0
   by_cases hlt : k < x.ps.length
   ·have hlt2 : k < y.ps.length := by have := HLE.out; omega
    go_upto_region 4 with (fail)
    refine wp_region_U 62 [47] [0] (fun a0 HA0 => ?_)
    have oe45 := ev HA0 45 rfl
    have oe46 := ev HA0 46 rfl
    refine QSeq.pure rfl (.bool true) (fun E => ex_binE rfl (E.v oe46) (E.v oe45) (guard_ints _ _ _ _ _ _) (run_lss_i _ _ _ Try.underlying3) (congrArg Value.bool (decide_eq_true (by omega)))) ?_
    refine QSeq.nil (t' := [_]) rfl ?_
    obtain rfl := HA0.out
    clear HA0 oe45 oe46
    simp only [pz, Act.put, sIB, sCZ, sCS]
    go_upto_region 5 with (fail)
    refine wp_region_U 62 [48, 5] [0, 1] (fun a0 HA0 => ?_)
    have oe46 := ev HA0 46 rfl
    refine QSeq.pure rfl _ (fun E => ex_move rfl (E.v oe46)) ?_
    refine QSeq.pure rfl _ (fun E => ex_assign rfl (E.d 0 0)) ?_
    refine QSeq.nil (t' := [_, _]) rfl ?_
    obtain rfl := HA0.out
    clear HA0 oe46
    simp only [pz, Act.put, sIB, sCZ, sCS]
    have hat := HS2.out.at hlt
    obtain ⟨g1, o1, c1, eao, hrg, hrd, hcs⟩ := hat
    subst eao
    obtain ⟨p, hp⟩ : ∃ z, z = x.ps[k] := ⟨_, rfl⟩
    rw [← hp] at hrd
    have HX1 := Lib.hid hp
    have hcl : c1.length = 6 := PmR.len hrd
    have HCL1 := Lib.hid hcl
    have HAT1 := hid (show CellsAt R wl g1 (o1 + k * 6) c1 from ⟨hrg, hcs⟩)
    have HRD1 := Lib.hid hrd
    clear hcl hcs hrd hrg hp
    have hat := HT2.out.at hlt2
    obtain ⟨g2, o2, c2, eao, hrg, hrd, hcs⟩ := hat
    subst eao
    obtain ⟨q, hq⟩ : ∃ z, z = y.ps[k] := ⟨_, rfl⟩
    rw [← hq] at hrd
    have HX2 := Lib.hid hq
    have hcl : c2.length = 6 := PmR.len hrd
    have HCL2 := Lib.hid hcl
    have HAT2 := hid (show CellsAt R2 wl g2 (o2 + k * 6) c2 from ⟨hrg, hcs⟩)
    have HRD2 := Lib.hid hrd
    clear hcl hcs hrd hrg hq
    obtain ⟨b, hb⟩ : ∃ b, b = eqb p q := ⟨_, rfl⟩
    have HB := Lib.hid hb
    clear hb
    go_upto_region 6 with (fail)
    generalize ha0 : Act.mk _ _ = a0
    have oe2 : a0.eval (.tmp 2) = .pointer (some ⟨w.heap.size, 0, none⟩) := by rw [← ha0]; rfl
    have oe3 : a0.eval (.tmp 3) = .pointer (some ⟨w.heap.size + 1, 0, none⟩) := by rw [← ha0]; rfl
    have oe5 : a0.eval (.tmp 5) = .int .i64 ((k : Nat) : Int) := by rw [← ha0]; rfl
    have hsz0 : a0.tmps.size = 62 := by rw [← ha0]; rfl
    have HA0 := hid ha0
    clear ha0
    refine wp_region_Q0 62 hsz0 [49, 50, 51, 52, 53, 54, 55, 56, 57, 58, 59, 60] [qi (.pointer (some ⟨w.heap.size, 2, none⟩)), qi (.slice (some ⟨g1, o1, none⟩) x.ps.length kx_ps), qi (.int .i64 ((k : Nat) : Int)), qi (.pointer (some ⟨g1, o1 + k * 6, none⟩)), qi (.agg c1.toArray), qi (.pointer (some ⟨w.heap.size + 1, 2, none⟩)), qi (.slice (some ⟨g2, o2, none⟩) y.ps.length ky_ps), qi (.int .i64 ((k : Nat) : Int)), qi (.pointer (some ⟨g2, o2 + k * 6, none⟩)), qi (.agg c2.toArray), qi (.bool b), qi (.bool (!b))] ⟨qi_stable, qi_stable, qi_stable, qi_stable, qi_stable, qi_stable, qi_stable, qi_stable, qi_stable, qi_stable, qi_stable, qi_stable, trivial⟩ [10] ⟨?_, ?_, ?_, ?_, ?_, ?_, ?_, ?_, ?_, ?_, ?_, ?_, trivial⟩ ?_
    ·exact stq (fun E => ex_field rfl Try.underlying51 rfl (by kernel_rfl) (E.v oe2))
    ·exact stq (fun E => ex_load1 rfl Try.underlying47 rfl (E.d 0) (Cs.lit1 (HBX.out.mod E.m.old (by intro h2; omega)) rfl))
    ·exact stq (fun E => ex_move rfl (E.v oe5))
    ·exact stq (fun E => ex_idxS (i := k) (s := 6) rfl Try.underlying47 (by kernel_rfl) (E.d 1) (E.d 2) (by first | exact hlt | exact hlt2))
    ·exact stq (fun E => ex_loadA rfl Try.underlying46 rfl (off := o1 + k * 6) (cs := c1) (by rw [HCL1.out]; kernel_rfl) (E.d 3) (fun j u hu => ((HAT1.out.mod E.m.old (by intro k h1 h2; have hb := HBR.out k h1; omega))).2 j u hu))
    ·exact stq (fun E => ex_field rfl Try.underlying51 rfl (by kernel_rfl) (E.v oe3))
    ·exact stq (fun E => ex_load1 rfl Try.underlying47 rfl (E.d 5) (Cs.lit1 (HBY.out.mod E.m.old (by intro h2; omega)) rfl))
    ·exact stq (fun E => ex_move rfl (E.v oe5))
    ·exact stq (fun E => ex_idxS (i := k) (s := 6) rfl Try.underlying47 (by kernel_rfl) (E.d 6) (E.d 7) (by first | exact hlt | exact hlt2))
    ·exact stq (fun E => ex_loadA rfl Try.underlying46 rfl (off := o2 + k * 6) (cs := c2) (by rw [HCL2.out]; kernel_rfl) (E.d 8) (fun j u hu => ((HAT2.out.mod E.m.old (by intro k h1 h2; have hb := HBT.out k h1; omega))).2 j u hu))
    ·exact stepq_chain rfl
    ·exact stq (fun E => ex_not rfl (E.d 10))
    intro u6_0 hr
    have zu6_0 := hr.size
    have Cx9 := hid (hr.new (S := (fun _ => False)))
    clear hr
    refine QChain.go fun Z act E => ?_
    refine qc_callF (args := #[.agg c1.toArray, .agg c2.toArray]) rfl (wanted_none rfl) rfl Try.func24 (args2 (E.d 4) (E.d 9)) (HB.out.symm ▸ Eq_Pm _ _ _ _ _ _ _ (HRD1.out.mod Cx9.out (fun _ _ h => h)) (HRD2.out.mod Cx9.out (fun _ _ h => h)) (by intro k h1; have hb := HBR.out k h1; omega) (by intro k h1; have hb := HBT.out k h1; omega)) ?_
    rintro e u6_1a ⟨rfl, hm⟩
    have zu6_1a := hm.size
    refine ⟨_, rfl, hm.mono (fun _ _ h => h.elim), (fun _ => rfl), ?_⟩
    intro u6_1 hr
    have zu6_1 := hr.size
    have Cx10 := hid (Cx9.out.go hm hr)
    clear Cx9 hm hr Z act E
    refine QChain.nil fun vs hl hzz hrows hne => ?_
    obtain ⟨Z, hYZ, hZb, hV⟩ := hzz
    have f2 := fvi hV hl 2
    have f7 := fvi hV hl 7
    have f10 := fvi hV hl 10
    have f11 := fvi hV hl 11
    rw [show vs = [gw vs 0, gw vs 1, gw vs 2, gw vs 3, gw vs 4, gw vs 5, gw vs 6, gw vs 7, gw vs 8, gw vs 9, gw vs 10, gw vs 11] from (gw_eta hl).trans rfl]
    have ha0 := HA0.out
    subst ha0
    clear HA0 hV hYZ hZb hsz0 hrows hne oe2 oe3 oe5
    simp only [putAll, Act.put, sIB, sCZ, sCS, f2, f7, f10, f11]
    clear hl f2 f7 f10 f11
    cases b with
    | false =>
     go_upto_region 7 with (fail)
     refine wp_region_U 62 [4] [0] (fun a0 HA0 => ?_)
     refine QSeq.pure rfl (.bool false) (fun E => ex_assign rfl rfl) ?_
     refine QSeq.nil (t' := [_]) rfl ?_
     obtain rfl := HA0.out
     clear HA0
     simp only [pz, Act.put, sIB, sCZ, sCS]
     go_wp2
     go_ret
     exact ⟨ret_bool (HEQ.out.symm.trans (take_ne hlt hlt2 (fun e => by have h := HB.out; rw [HX1.out, HX2.out, e, eqb_rfl] at h; cases h))).symm, (HML.out.trans Cx10.out (fun _ _ h => h.elim))⟩
    | true =>
     go_upto_region 8 with (fail)
     refine wp_region_U 62 [61, 46] [0, 1] (fun a0 HA0 => ?_)
     have oe46 := ev HA0 46 rfl
     refine QSeq.pure rfl (.int .i64 (((k : Nat) : Int) + 1)) (fun E => ex_binE rfl (E.y 1 oe46) rfl (guard_ints _ _ _ _ _ _) (run_add_i _ _ Try.underlying3) (congrArg (Value.int .i64) (IntWalk.i64_in _ (by omega)))) ?_
     refine QSeq.pure rfl _ (fun E => ex_move rfl (E.d 0 0)) ?_
     refine QSeq.nil (t' := [_, _]) rfl ?_
     obtain rfl := HA0.out
     clear HA0 oe46
     simp only [pz, Act.put, sIB, sCZ, sCS]
     go_wp2
     go_roundw
     case rel => exact ⟨k + 1, by go_num, by omega, take_succ2 hlt hlt2 HTK.out (by have h := eqb_iff.1 HB.out.symm; rw [HX1.out, HX2.out] at h; exact h), by omega, (HS2.out.mod Cx10.out (fun _ _ h => h)), (HT2.out.mod Cx10.out (fun _ _ h => h)), (HBX.out.mod Cx10.out (fun h => h)), (HBY.out.mod Cx10.out (fun h => h)), (HML.out.trans Cx10.out (fun _ _ h => h.elim))⟩
     case measure => simp [intOf] <;> omega
   ·skip
    go_upto_region 4 with (fail)
    refine wp_region_U 62 [47] [0] (fun a0 HA0 => ?_)
    have oe45 := ev HA0 45 rfl
    have oe46 := ev HA0 46 rfl
    refine QSeq.pure rfl (.bool false) (fun E => ex_binE rfl (E.v oe46) (E.v oe45) (guard_ints _ _ _ _ _ _) (run_lss_i _ _ _ Try.underlying3) (congrArg Value.bool (decide_eq_false (by omega)))) ?_
    refine QSeq.nil (t' := [_]) rfl ?_
    obtain rfl := HA0.out
    clear HA0 oe45 oe46
    simp only [pz, Act.put, sIB, sCZ, sCS]
    go_upto_region 9 with (fail)
    refine wp_region_U 62 [4] [0] (fun a0 HA0 => ?_)
    refine QSeq.pure rfl (.bool true) (fun E => ex_assign rfl rfl) ?_
    refine QSeq.nil (t' := [_]) rfl ?_
    obtain rfl := HA0.out
    clear HA0
    simp only [pz, Act.put, sIB, sCZ, sCS]
    go_wp2
    go_ret
    exact ⟨ret_bool (HEQ.out.symm.trans (take_all (by omega) (by have := HLE.out; omega) HTK.out)).symm, HML.out⟩
end Go.Proofs.Ytekbmpjdombedaa
