/- Texts that are built one behind the other: XNd, XPt2, XWt1. No condition. -/
import Derived.Test.YtknpapcfhnhheaaMh4
set_option maxRecDepth 100000
set_option linter.unusedVariables false
/- Batches not too great: gavellaw05's niceBatch. -/
namespace Go.Proofs.Ytknpapcfhnhheaa
open Go Go.RowKit Go.Gv


def fewBa (x : Ba) : Prop := x.ps.length ≤ 1000 ∧ (∀ y ∈ x.ps, fewPm y) ∧ x.os.length ≤ 1000 ∧ x.ts.length ≤ 1000 ∧ ∀ y ∈ x.ts, y.l.length ≤ 1000
theorem lay_oix (x : Op) (v : Value) (a : Int) : lay (x.cells v).toArray 0 [.int .i64 a] = (Op.cells { x with ix := a } v).toArray := by simp [lay]
theorem op_mk (x : Op) (a : Int) (v : Value) (h : x.nc.length = 32) : (Op.cells { x with ix := a } v).length = 34 := op_len _ _ h
set_option maxHeartbeats 8000000 in
theorem niceBatch_c : NicR BaR fewBa 41 nicBa := by
 intro R2 x cs w hx hB2 hP
 obtain ⟨v_ps, v_os, v_ts, rfl, hok, hs0, hs1, hs2⟩ := hx
 obtain ⟨ao_ps, cap_ps, rfl⟩ := hs0.shape
 obtain ⟨ao_os, cap_os, rfl⟩ := hs1.shape
 obtain ⟨ao_ts, cap_ts, rfl⟩ := hs2.shape
 have HS0 := Lib.hid hs0
 have HS1 := Lib.hid hs1
 have HS2 := Lib.hid hs2
 have HBT := Lib.hid hB2
 have HOK := Lib.hid hok
 have HP := Lib.hid hP
 clear hs0 hs1 hs2 hB2 hok hP
 go_enter Try.func41, Try.ntmps41
 go_upto_region 1 with (fail)
 obtain ⟨w1, hw1⟩ : ∃ zz, zz = ((w.alloc (.cells (x.cells (.slice ao_ps x.ps.length cap_ps) (.slice ao_os x.os.length cap_os) (.slice ao_ts x.ts.length cap_ts) : List Value).toArray 60)).alloc (.cells #[.int .i64 0, .int .u64 0, .slice none 0 0, .slice none 0 0, .slice none 0 0] 60)) := ⟨_, rfl⟩
 change Code.wp _ _ _ _ ((w.alloc (.cells (x.cells (.slice ao_ps x.ps.length cap_ps) (.slice ao_os x.os.length cap_os) (.slice ao_ts x.ts.length cap_ts) : List Value).toArray 60)).alloc (.cells #[.int .i64 0, .int .u64 0, .slice none 0 0, .slice none 0 0, .slice none 0 0] 60))
 rw [← hw1]
 have HB1 := hid (show Cs w1 (w.heap.size) (x.cells (.slice ao_ps x.ps.length cap_ps) (.slice ao_os x.os.length cap_os) (.slice ao_ts x.ts.length cap_ts) : List Value).toArray 60 by rw [hw1]; exact (Cs.new _ _ _).alloc _)
 have HB2 := hid (show Cs w1 (w.heap.size + 1) #[.int .i64 0, .int .u64 0, .slice none 0 0, .slice none 0 0, .slice none 0 0] 60 by rw [hw1]; exact Cs_newN _ _ _ (by simp))
 have hm : Mod (fun _ => False) w w1 := by rw [hw1]; exact ((Mod.refl _ _).alloc _).alloc _
 have HM0 := hid (show Mod (fun _ => False) w w1 from hm.mono (fun _ _ h => h.elim))
 have hs1 : w1.heap.size = w.heap.size + 2 := by rw [hw1]; simp
 have Hx1 := hid (HS0.out.mod hm (fun _ _ h => h))
 clear HS0
 have Hx2 := hid (HS1.out.mod hm (fun _ _ h => h))
 clear HS1
 have Hx3 := hid (HS2.out.mod hm (fun _ _ h => h))
 clear HS2
 clear hw1 hm
 go_upto_region 1 with (fail)
 refine wp_region_U 120 [10, 11, 12, 13, 124] [0, 1, 2, 3, 4] (fun a0 HA0 => ?_)
 have oe1 := ev HA0 1 rfl
 refine QSeq.pure rfl (.pointer (some ⟨w.heap.size, 0, none⟩)) (fun E => ex_field rfl Try.underlying60 rfl (by kernel_rfl) (E.v oe1)) ?_
 refine QSeq.pure rfl _ (fun E => ex_load1 rfl Try.underlying3 rfl (E.d 0 0) (Cs.lit1 HB1.out rfl)) ?_
 refine QSeq.go fun act E => ?_
 refine qc_callF (args := #[.int .i64 x.ep]) rfl (wanted_none rfl) rfl Try.func92 (args1 (E.d 1 0)) (up_any x.ep _ HOK.out.1) ?_
 rintro e w2 ⟨rfl, hw2⟩
 obtain rfl : w1 = w2 := by first | exact hw2 | exact hw2.symm
 refine ⟨_, rfl, ?_⟩
 clear act E
 refine QSeq.pure rfl (.pointer (some ⟨w.heap.size, 0, none⟩)) (fun E => ex_field rfl Try.underlying60 rfl (by kernel_rfl) (E.v oe1)) ?_
 refine QSeq.go fun act E => ?_
 refine qc_store rfl (wanted_none rfl) rfl HB1.out (off := 0) (vs := [.int .i64 (upn x.ep)]) (by kernel_rfl) one1 (by show 0 + 1 ≤ 5; decide) (E.d 3 0) (ec (E.d 2 1)) ?_
 intro u1_4 qc0 hm
 have qB1 := qc0.eqv (b := #[.int .i64 (upn x.ep), .int .u64 (x.tm : Nat), Value.slice ao_ps x.ps.length cap_ps, Value.slice ao_os x.os.length cap_os, Value.slice ao_ts x.ts.length cap_ts]) rfl
 clear qc0
 have Hx4 := hid qB1
 have zu1_4 := hm.size
 have Cx5 := hid (show Mod (fun k => (k = w.heap.size)) w1 u1_4 from hm)
 clear hm
 clear act E qB1 HB1
 refine QSeq.nil (t' := [_, _, _, _, _]) rfl ?_
 obtain rfl := HA0.out
 clear HA0 oe1
 simp only [pz, Act.put, List.setIfInBounds_toArray, List.set_cons_zero, List.set_cons_succ, List.set_nil]
 go_upto_region 2 with (fail)
 refine wp_region_U 120 [14, 15, 16, 17, 124] [0, 1, 2, 3, 4] (fun a0 HA0 => ?_)
 have oe1 := ev HA0 1 rfl
 refine QSeq.pure rfl (.pointer (some ⟨w.heap.size, 2, none⟩)) (fun E => ex_field rfl Try.underlying60 rfl (by kernel_rfl) (E.v oe1)) ?_
 refine QSeq.pure rfl _ (fun E => ex_load1 rfl Try.underlying56 rfl (E.d 0 0) (Cs.lit1 Hx4.out rfl)) ?_
 refine QSeq.go fun act E => ?_
 refine qc_appS (A := PmR) (e := 55) rfl (wanted_none rfl) rfl (.agg #[.int .i64 0, .int .i64 0, .int .u64 0, .slice none 0 0, .int .i64 0, .int .i64 0]) 64 Try.underlying56 info_Pm (by rfl) (of_decide_eq_true (by kernel_rfl)) rfl (E.d 1 0) (OwS.nil _ _ (fun _ => False) (fun _ => False) _) ((Hx1.out.mod Cx5.out (sB HBT))) (fun _ _ h => h) (by have h9 := (show x.ps.length ≤ 1000 from HP.out.1); simp only [List.length_nil]; omega) (by have h9 := (show x.ps.length ≤ 1000 from HP.out.1); simp only [List.length_nil]; rw [maxLen_val]; omega) ?_
 intro ao2 cap2 u2_2 qacc1 hm
 rw [show ([] : List Pm).length + x.ps.length = x.ps.length from Nat.zero_add _] at qacc1 ⊢
 rw [List.nil_append] at qacc1
 have Hx6 := hid (qacc1.widen (R' := (fun k => (New u1_4 u2_2 k))) (E' := (fun k => (R2 k))) (fun _ h => h.elim (fun h => h.elim) (fun h => h)) (by intro k h1; rcases h1 with h1 | h1 <;> first | omega | exact h1.elim | exact h1))
 have zu2_2 := hm.size
 have Cx7 := hid (show Mod (fun _ => False) u1_4 u2_2 from hm)
 clear hm
 clear act E qacc1
 refine QSeq.pure rfl (.pointer (some ⟨w.heap.size, 2, none⟩)) (fun E => ex_field rfl Try.underlying60 rfl (by kernel_rfl) (E.v oe1)) ?_
 refine QSeq.go fun act E => ?_
 refine qc_store rfl (wanted_none rfl) rfl (Hx4.out.mod Cx7.out (fun h => h)) (off := 2) (vs := [Value.slice ao2 (x.ps.length) cap2]) (by kernel_rfl) one1 (by show 2 + 1 ≤ 5; decide) (E.d 3 0) (ec (E.d 2 1)) ?_
 intro u2_4 qc0 hm
 have qB1 := qc0.eqv (b := #[.int .i64 (upn x.ep), .int .u64 (x.tm : Nat), .slice ao2 (x.ps.length) cap2, Value.slice ao_os x.os.length cap_os, Value.slice ao_ts x.ts.length cap_ts]) rfl
 clear qc0
 have Hx8 := hid qB1
 have zu2_4 := hm.size
 have HMu2_4 := hid hm
 have Cx9 := hid (Mod.goS (S' := (fun k => (k = w.heap.size))) Cx7.out hm (fun _ h => h.elim) (by intro k h0 h2; exact h2))
 clear hm Cx7
 clear act E qB1 Hx4
 have Hx10 := hid (Hx6.out.mod HMu2_4.out (by intro k h1 h2; omega) (sB HBT))
 clear Hx6 HMu2_4
 refine QSeq.nil (t' := [_, _, _, _, _]) rfl ?_
 obtain rfl := HA0.out
 clear HA0 oe1
 simp only [pz, Act.put, List.setIfInBounds_toArray, List.set_cons_zero, List.set_cons_succ, List.set_nil]
 clear Hx1
 go_upto_region 3 with (fail)
 refine wp_region_U 120 [18, 19, 20, 21] [0, 1, 2, 3] (fun a0 HA0 => ?_)
 have oe1 := ev HA0 1 rfl
 refine QSeq.pure rfl (.pointer (some ⟨w.heap.size, 2, none⟩)) (fun E => ex_field rfl Try.underlying60 rfl (by kernel_rfl) (E.v oe1)) ?_
 refine QSeq.pure rfl _ (fun E => ex_load1 rfl Try.underlying56 rfl (E.d 0 0) (Cs.lit1 Hx8.out rfl)) ?_
 refine QSeq.pure rfl (.int .i64 (x.ps.length)) (fun E => ex_lenS rfl (E.d 1 0) Try.underlying56) ?_
 refine QSeq.pure rfl (.int .i64 0) (fun E => ex_move rfl rfl) ?_
 refine QSeq.nil (t' := [_, _, _, _]) rfl ?_
 obtain rfl := HA0.out
 clear HA0 oe1
 simp only [pz, Act.put, List.setIfInBounds_toArray, List.set_cons_zero, List.set_cons_succ]
 go_wp2
 go_loopw [21] (fun ti wr => ∃ k : Nat, ti = .int .i64 (k : Int) ∧ k ≤ x.ps.length ∧ u2_4.heap.size ≤ wr.heap.size ∧ OwS PmR 55 (fun k => (New u1_4 u2_2 k)) (fun k => (R2 k) ∨ (u2_4.heap.size ≤ k ∧ k < wr.heap.size)) wr (.slice ao2 (x.ps.length) cap2) (upto nicPm k x.ps) ∧ RdS OpR R2 wr (.slice ao_os x.os.length cap_os) x.os ∧ RdS TbR R2 wr (.slice ao_ts x.ts.length cap_ts) x.ts ∧ Cs wr (w.heap.size) #[.int .i64 (upn x.ep), .int .u64 (x.tm : Nat), Value.slice ao2 (x.ps.length) cap2, Value.slice ao_os x.os.length cap_os, Value.slice ao_ts x.ts.length cap_ts] 60 ∧ Cs wr (w.heap.size + 1) #[.int .i64 0, .int .u64 0, .slice none 0 0, .slice none 0 0, .slice none 0 0] 60 ∧ Mod (fun _ => False) w wr) (fun ti _ => x.ps.length - (intOf ti).toNat)
 case atStart => exact ⟨0, rfl, Nat.zero_le _, Nat.le_refl _, by rw [upto_zero]; exact Hx10.out.widen (fun _ h => h) (by intro k h1; first | omega | exact h1.elim | exact Or.inl h1 | exact Or.inr (h1)), ((Hx2.out.mod Cx5.out (sB HBT)).mod Cx9.out (sB HBT)), ((Hx3.out.mod Cx5.out (sB HBT)).mod Cx9.out (sB HBT)), Hx8.out, ((HB2.out.mod Cx5.out (by intro h2; omega)).mod Cx9.out (by intro h2; omega)), ((HM0.out.trans Cx5.out (by intro k h1 h2; omega)).trans Cx9.out (by intro k h1 h2; omega))⟩
 case round =>
  obtain ⟨k1, rfl, hk, hz, ha, hk_0, hk_1, hk_2, hk_3, hm⟩ := hrel
  obtain ⟨wl1, rfl⟩ : ∃ x, x = wr := ⟨_, rfl⟩
  have HAL1 := Lib.hid ha
  have HKP1_0 := Lib.hid hk_0
  have HKP1_1 := Lib.hid hk_1
  have HKP1_2 := Lib.hid hk_2
  have HKP1_3 := Lib.hid hk_3
  have HML1 := Lib.hid hm
  clear ha hm hk_0 hk_1 hk_2 hk_3 Hx2 Hx3 Hx8 HB2 HM0 Hx10
  by_cases hlt1 : k1 < x.ps.length
  ·skip
   go_upto_region 4 with (fail)
   refine wp_region_U 120 [22] [0] (fun a0 HA0 => ?_)
   have oe20 := ev HA0 20 rfl
   have oe21 := ev HA0 21 rfl
   refine QSeq.pure rfl (.bool true) (fun E => ex_binE rfl (E.v oe21) (E.v oe20) (guard_ints _ _ _ _ _ _) (run_lss_i _ _ _ Try.underlying3) (congrArg Value.bool (decide_eq_true (by omega)))) ?_
   refine QSeq.nil (t' := [_]) rfl ?_
   obtain rfl := HA0.out
   clear HA0 oe20 oe21
   simp only [pz, Act.put, List.setIfInBounds_toArray, List.set_cons_zero, List.set_cons_succ]
   obtain ⟨y1, hy1⟩ : ∃ y, x.ps[k1]? = some y := ⟨_, List.getElem?_eq_getElem hlt1⟩
   have HY1 := Lib.hid hy1
   clear hy1
   obtain ⟨g1, cs1, cur1, eao, hrg, hrd, hcs, -, -⟩ := HAL1.out.at (upto_getE (f := nicPm) HY1.out)
   subst eao
   have HRD1 := hid hrd
   have hcl : cs1.length = 6 := PmR.len hrd
   have HCL1 := Lib.hid hcl
   have HAT1 := hid (show CellsAt (fun k => (New u1_4 u2_2 k)) wl1 g1 (0 + k1 * 6) cs1 from ⟨hrg, hcs⟩)
   clear hrg hcs hrd hcl
   go_upto_region 5 with (fail)
   refine wp_region_U 120 [23, 3] [0, 1] (fun a0 HA0 => ?_)
   have oe21 := ev HA0 21 rfl
   refine QSeq.pure rfl _ (fun E => ex_move rfl (E.v oe21)) ?_
   refine QSeq.pure rfl _ (fun E => ex_assign rfl (E.d 0 0)) ?_
   refine QSeq.nil (t' := [_, _]) rfl ?_
   obtain rfl := HA0.out
   clear HA0 oe21
   simp only [pz, Act.put, List.setIfInBounds_toArray, List.set_cons_zero, List.set_cons_succ]
   go_upto_region 6 with (fail)
   generalize ha0 : Act.mk _ _ = a0
   have oe1 : a0.eval (.tmp 1) = .pointer (some ⟨w.heap.size, 0, none⟩) := by rw [← ha0]; rfl
   have oe3 : a0.eval (.tmp 3) = .int .i64 ((k1 : Nat) : Int) := by rw [← ha0]; rfl
   have hsz0 : a0.tmps.size = 120 := by rw [← ha0]; rfl
   have HA0 := hid ha0
   clear ha0
   refine wp_region_Q1 120 hsz0 [24, 25, 26, 27, 28, 29, 30, 31, 32, 33, 130] (fun k => (New u1_4 u2_2 k)) (fun k j => (k = 1 ∧ ((New u1_4 u2_2 j)))) (fun _ _ h => h.2) [qi (.pointer (some ⟨w.heap.size, 2, none⟩)), qi (.slice (some ⟨g1, 0, none⟩) (x.ps.length) cap2), qi (.int .i64 ((k1 : Nat) : Int)), qi (.pointer (some ⟨w.heap.size, 2, none⟩)), qi (.slice (some ⟨g1, 0, none⟩) (x.ps.length) cap2), qi (.int .i64 ((k1 : Nat) : Int)), qi (.pointer (some ⟨g1, 0 + k1 * 6, none⟩)), qi (.agg cs1.toArray), qv 0, qi (.pointer (some ⟨g1, 0 + k1 * 6, none⟩)), qv 1] ⟨qi_stable, qi_stable, qi_stable, qi_stable, qi_stable, qi_stable, qi_stable, qi_stable, qv_stable, qi_stable, qv_stable, trivial⟩ [8, 10] ⟨?_, ?_, ?_, ?_, ?_, ?_, ?_, ?_, ?_, ?_, ?_, trivial⟩ ?_
   ·exact stq (fun E => ex_field rfl Try.underlying60 rfl (by kernel_rfl) (E.v oe1))
   ·exact stq (fun E => ex_load1 rfl Try.underlying56 rfl (E.d 0) (Cs.lit1 (HKP1_2.out.mod E.m (by intro h2; omega)) rfl))
   ·exact stq (fun E => ex_move rfl (E.v oe3))
   ·exact stq (fun E => ex_field rfl Try.underlying60 rfl (by kernel_rfl) (E.v oe1))
   ·exact stq (fun E => ex_load1 rfl Try.underlying56 rfl (E.d 3) (Cs.lit1 (HKP1_2.out.mod E.m (by intro h2; omega)) rfl))
   ·exact stq (fun E => ex_move rfl (E.v oe3))
   ·exact stq (fun E => ex_idxS (i := k1) (s := 6) rfl Try.underlying56 (by kernel_rfl) (E.d 4) (E.d 5) (by omega))
   ·refine stepq_env rfl rfl rfl fun _ _ _ _ _ _ hm0 _ _ hd hub _ => ?_
    have h6 := hd ⟨6, .data⟩ (by simp) rfl _ rfl
    refine qe_run rfl (wanted_none rfl) (ex_loadA rfl Try.underlying55 rfl (off := 0 + k1 * 6) (cs := cs1) (by rw [HCL1.out]; kernel_rfl) h6 (fun j u hu => ((HAT1.out.mod hm0 (by intro k h1 h2; have hu := hub 1 10 rfl (by kernel_rfl); rcases h2 with ⟨h0, kk, hk, h2⟩ | h2 <;> first | omega | (first | omega | (have hb := HBT.out k h1; omega) | (have hb := HBT.out k h2; omega))))).2 j u hu)) QE.refl ?_
    rfl
   ·exact stepq_chain rfl
   ·exact stq (fun E => ex_idxS (i := k1) (s := 6) rfl Try.underlying56 (by kernel_rfl) (E.d 1) (E.d 2) (by omega))
   ·exact stepq_chain rfl
   intro u6_0 hr
   have zu6_0 := hr.size
   clear HAT1
   have Cx11 := hid (hr.new (S := (fun k => (New u1_4 u2_2 k))))
   have Hx12 := hid (HAL1.out.mod hr (by intro k h1 h2; omega) (by intro k h1 h2; rcases h1 with h1 | h1 <;> first | omega | (have hb := HBT.out k h1; omega)))
   clear HAL1
   clear hr
   refine QChain.go fun Z act E => ?_
   refine qc_callF (args := #[.agg cs1.toArray]) rfl (wanted_none rfl) rfl Try.func54 (args1 (E.d 7)) (nicePromise_c _ _ _ _ (HRD1.out.mod Cx11.out (by intro k h1 h2; rcases h1 with h1 | h1 <;> first | omega | (have hb := HBT.out k h1; omega))) (by intro k h1; rcases h1 with h1 | h1 <;> first | omega | (have hb := HBT.out k h1; omega)) (HP.out.2.1 _ (List.mem_of_getElem? HY1.out))) ?_
   rintro e u6_1a ⟨cz1, rfl, qel1, hm⟩
   have zu6_1a := hm.size
   refine ⟨_, rfl, hm.mono (fun _ _ h => h.elim), (fun _ => rfl), ?_⟩
   intro u6_1 hr
   have zu6_1 := hr.size
   have Hx13 := hid ((qel1.widen (R' := (fun k => (R2 k) ∨ (New u2_4 wl1 k) ∨ (New u6_0 u6_1a k))) (by intro k h1; simp only [or_assoc] at h1 ⊢; exact h1)).mod hr (by intro k h1 h2; rcases h1 with h1 | h1 | h1 <;> first | omega | (have hb := HBT.out k h1; omega)))
   have hmr := Mod.after hm hr
   have Hx14 := hid (Hx12.out.mod hmr (by intro k h1 h2; omega) (by intro k h1 h2; rcases h1 with h1 | h1 <;> first | omega | (have hb := HBT.out k h1; omega)))
   clear Hx12
   clear hmr
   have Cx15 := hid (Cx11.out.go hm hr)
   clear Cx11 hm hr Z act E qel1 HRD1
   refine QChain.go fun Z act E => ?_
   refine qc_putS (A := PmR) (off := 0 + k1 * 6) (cs := cz1) (z := (nicPm y1)) rfl (wanted_none rfl) rfl (Hx14.out.widen (E' := (fun k => (R2 k) ∨ (New u2_4 wl1 k) ∨ (New u6_0 u6_1a k))) (fun _ h => h) (by intro k h1; rcases h1 with h1 | h1 <;> first | omega | exact h1.elim | exact Or.inl h1 | exact Or.inr (Or.inl h1) | exact Or.inr (Or.inr (h1)))) (by rw [upto_len]; exact hlt1) (Nat.zero_add _) Hx13.out (by intro k h1; (try dsimp only at h1 ⊢); rcases h1 with h1 | h1 | h1 <;> first | (have hb := HBT.out k h1; exact ⟨Or.inl h1, by omega⟩) | exact ⟨Or.inr (by omega), by omega⟩) (by intro k h1 h2; (try dsimp only at h1 h2); rcases h1 with h1 | h1 | h1 <;> first | omega | (have := HBT.out k h1; omega)) (by kernel_rfl) (E.d 9) (by rw [show act.eval (.tmp 32) = _ from (chv (v := .agg cz1.toArray) (E.d 8))]; rfl) ?_
   intro u6_2a q0 hm
   have qacc1 := q0
   rw [upto_setE HY1.out] at qacc1
   clear q0
   have zu6_2a := hm.size
   refine ⟨hm.mono (by intro k hk h; omega), (fun _ => rfl), ?_⟩
   intro u6_2 hr
   have zu6_2 := hr.size
   have Hx16 := hid (qacc1.mod hr (by intro k h1 h2; omega) (by intro k h1 h2; rcases h1 with h1 | h1 | h1 <;> first | omega | (have hb := HBT.out k h1; omega)))
   have hmr := hm.two hr
   have Hx17 := hid (Hx13.out.mod hmr (by intro k h1 h2; rcases h1 with h1 | h1 | h1 <;> first | omega | (have hb := HBT.out k h1; omega)))
   clear Hx13
   clear hmr
   have Cx18 := hid (Cx15.out.goM hm hr (fun _ _ h => h))
   clear Cx15 hm hr Z act E qacc1 Hx14
   refine QChain.nil fun vs hl hzz hrows hne => ?_
   obtain ⟨Z, hYZ, hZb, hV⟩ := hzz
   have f2 := fvi hV hl 2
   have f5 := fvi hV hl 5
   have f8 := fvc hV hl 8
   rw [show vs = [gw vs 0, gw vs 1, gw vs 2, gw vs 3, gw vs 4, gw vs 5, gw vs 6, gw vs 7, gw vs 8, gw vs 9, gw vs 10] from (gw_eta hl).trans rfl]
   have ha0 := HA0.out
   subst ha0
   clear HA0 hV hYZ hZb hsz0 hrows hne oe1 oe3
   simp only [putAll, Act.put, List.setIfInBounds_toArray, List.set_cons_zero, List.set_cons_succ, List.set_nil, f2, f5, f8]
   clear hl f2 f5 f8
   clear Hx17
   go_upto_region 7 with (fail)
   refine wp_region_U 120 [34, 21] [0, 1] (fun a0 HA0 => ?_)
   have oe21 := ev HA0 21 rfl
   refine QSeq.pure rfl (.int .i64 (((k1 : Nat) : Int) + 1)) (fun E => ex_binE rfl (E.y 1 oe21) rfl (guard_ints _ _ _ _ _ _) (run_add_i _ _ Try.underlying3) (congrArg (Value.int .i64) (IntWalk.i64_in _ (by have h9 := (show x.ps.length ≤ 1000 from HP.out.1); omega)))) ?_
   refine QSeq.pure rfl _ (fun E => ex_move rfl (E.d 0 0)) ?_
   refine QSeq.nil (t' := [_, _]) rfl ?_
   obtain rfl := HA0.out
   clear HA0 oe21
   simp only [pz, Act.put, List.setIfInBounds_toArray, List.set_cons_zero, List.set_cons_succ]
   go_wp2
   go_roundw
   case rel => exact ⟨k1 + 1, by go_num, by omega, by omega, (Hx16.out.widen (fun _ h => h) (by intro k h1; rcases h1 with h1 | h1 | h1 <;> first | omega | exact h1.elim | exact Or.inl h1 | exact Or.inr (h1))), (HKP1_0.out.mod Cx18.out (sN HBT)), (HKP1_1.out.mod Cx18.out (sN HBT)), (HKP1_2.out.mod Cx18.out (by intro h2; omega)), (HKP1_3.out.mod Cx18.out (by intro h2; omega)), (HML1.out.trans Cx18.out (by intro k h1 h2; omega))⟩
   case measure => simp [intOf]; omega
  ·skip
   go_upto_region 4 with (fail)
   refine wp_region_U 120 [22] [0] (fun a0 HA0 => ?_)
   have oe20 := ev HA0 20 rfl
   have oe21 := ev HA0 21 rfl
   refine QSeq.pure rfl (.bool false) (fun E => ex_binE rfl (E.v oe21) (E.v oe20) (guard_ints _ _ _ _ _ _) (run_lss_i _ _ _ Try.underlying3) (congrArg Value.bool (decide_eq_false (by omega)))) ?_
   refine QSeq.nil (t' := [_]) rfl ?_
   obtain rfl := HA0.out
   clear HA0 oe20 oe21
   simp only [pz, Act.put, List.setIfInBounds_toArray, List.set_cons_zero, List.set_cons_succ]
   have hq := HAL1.out
   rw [upto_all (by omega)] at hq
   have HQ1 := Lib.hid hq
   clear hq
   go_upto_region 8 with (fail)
   refine wp_region_U 120 [35, 36, 37, 38, 124] [0, 1, 2, 3, 4] (fun a0 HA0 => ?_)
   have oe1 := ev HA0 1 rfl
   refine QSeq.pure rfl (.pointer (some ⟨w.heap.size, 3, none⟩)) (fun E => ex_field rfl Try.underlying60 rfl (by kernel_rfl) (E.v oe1)) ?_
   refine QSeq.pure rfl _ (fun E => ex_load1 rfl Try.underlying57 rfl (E.d 0 0) (Cs.lit1 HKP1_2.out rfl)) ?_
   refine QSeq.go fun act E => ?_
   refine qc_appS (A := OpR) (e := 87) rfl (wanted_none rfl) rfl (.agg #[.int .i64 0, .slice none 0 0, .int .u8 0, .int .u8 0, .int .u8 0, .int .u8 0, .int .u8 0, .int .u8 0, .int .u8 0, .int .u8 0, .int .u8 0, .int .u8 0, .int .u8 0, .int .u8 0, .int .u8 0, .int .u8 0, .int .u8 0, .int .u8 0, .int .u8 0, .int .u8 0, .int .u8 0, .int .u8 0, .int .u8 0, .int .u8 0, .int .u8 0, .int .u8 0, .int .u8 0, .int .u8 0, .int .u8 0, .int .u8 0, .int .u8 0, .int .u8 0, .int .u8 0, .int .u8 0]) 64 Try.underlying57 info_Op (by rfl) (of_decide_eq_true (by kernel_rfl)) rfl (E.d 1 0) (OwS.nil _ _ (fun _ => False) (fun _ => False) _) (HKP1_0.out) (fun _ _ h => h) (by have h9 := (show x.os.length ≤ 1000 from HP.out.2.2.1); simp only [List.length_nil]; omega) (by have h9 := (show x.os.length ≤ 1000 from HP.out.2.2.1); simp only [List.length_nil]; rw [maxLen_val]; omega) ?_
   intro ao5 cap5 u8_2 qacc2 hm
   rw [show ([] : List Op).length + x.os.length = x.os.length from Nat.zero_add _] at qacc2 ⊢
   rw [List.nil_append] at qacc2
   have Hx19 := hid (qacc2.widen (R' := (fun k => (New wl1 u8_2 k))) (E' := (fun k => (R2 k))) (fun _ h => h.elim (fun h => h.elim) (fun h => h)) (by intro k h1; rcases h1 with h1 | h1 <;> first | omega | exact h1.elim | exact h1))
   have zu8_2 := hm.size
   have Cx20 := hid (show Mod (fun _ => False) wl1 u8_2 from hm)
   clear hm
   clear act E qacc2
   refine QSeq.pure rfl (.pointer (some ⟨w.heap.size, 3, none⟩)) (fun E => ex_field rfl Try.underlying60 rfl (by kernel_rfl) (E.v oe1)) ?_
   refine QSeq.go fun act E => ?_
   refine qc_store rfl (wanted_none rfl) rfl (HKP1_2.out.mod Cx20.out (fun h => h)) (off := 3) (vs := [Value.slice ao5 (x.os.length) cap5]) (by kernel_rfl) one1 (by show 3 + 1 ≤ 5; decide) (E.d 3 0) (ec (E.d 2 1)) ?_
   intro u8_4 qc0 hm
   have qB1 := qc0.eqv (b := #[.int .i64 (upn x.ep), .int .u64 (x.tm : Nat), Value.slice ao2 (x.ps.length) cap2, .slice ao5 (x.os.length) cap5, Value.slice ao_ts x.ts.length cap_ts]) rfl
   clear qc0
   have Hx21 := hid qB1
   have zu8_4 := hm.size
   have HMu8_4 := hid hm
   have Cx22 := hid (Mod.goS (S' := (fun k => (k = w.heap.size))) Cx20.out hm (fun _ h => h.elim) (by intro k h0 h2; exact h2))
   clear hm Cx20
   clear act E qB1 HKP1_2
   have Hx23 := hid (Hx19.out.mod HMu8_4.out (by intro k h1 h2; omega) (sB HBT))
   clear Hx19 HMu8_4
   refine QSeq.nil (t' := [_, _, _, _, _]) rfl ?_
   obtain rfl := HA0.out
   clear HA0 oe1
   simp only [pz, Act.put, List.setIfInBounds_toArray, List.set_cons_zero, List.set_cons_succ, List.set_nil]
   clear HKP1_0
   go_upto_region 9 with (fail)
   refine wp_region_U 120 [39, 40, 41, 42] [0, 1, 2, 3] (fun a0 HA0 => ?_)
   have oe1 := ev HA0 1 rfl
   refine QSeq.pure rfl (.pointer (some ⟨w.heap.size, 3, none⟩)) (fun E => ex_field rfl Try.underlying60 rfl (by kernel_rfl) (E.v oe1)) ?_
   refine QSeq.pure rfl _ (fun E => ex_load1 rfl Try.underlying57 rfl (E.d 0 0) (Cs.lit1 Hx21.out rfl)) ?_
   refine QSeq.pure rfl (.int .i64 (x.os.length)) (fun E => ex_lenS rfl (E.d 1 0) Try.underlying57) ?_
   refine QSeq.pure rfl (.int .i64 0) (fun E => ex_move rfl rfl) ?_
   refine QSeq.nil (t' := [_, _, _, _]) rfl ?_
   obtain rfl := HA0.out
   clear HA0 oe1
   simp only [pz, Act.put, List.setIfInBounds_toArray, List.set_cons_zero, List.set_cons_succ]
   go_wp2
   go_loopw [42] (fun ti wr => ∃ k : Nat, ti = .int .i64 (k : Int) ∧ k ≤ x.os.length ∧ u8_4.heap.size ≤ wr.heap.size ∧ OwS OpR 87 (fun k => (New wl1 u8_2 k)) (fun k => (R2 k) ∨ (u8_4.heap.size ≤ k ∧ k < wr.heap.size)) wr (.slice ao5 (x.os.length) cap5) (upto nicOp k x.os) ∧ OwS PmR 55 (fun k => (New u1_4 u2_2 k)) (fun k => (R2 k) ∨ (u2_4.heap.size ≤ k ∧ k < wl1.heap.size)) wr (.slice ao2 (x.ps.length) cap2) (x.ps.map nicPm) ∧ RdS TbR R2 wr (.slice ao_ts x.ts.length cap_ts) x.ts ∧ Cs wr (w.heap.size) #[.int .i64 (upn x.ep), .int .u64 (x.tm : Nat), Value.slice ao2 (x.ps.length) cap2, Value.slice ao5 (x.os.length) cap5, Value.slice ao_ts x.ts.length cap_ts] 60 ∧ Cs wr (w.heap.size + 1) #[.int .i64 0, .int .u64 0, .slice none 0 0, .slice none 0 0, .slice none 0 0] 60 ∧ Mod (fun _ => False) w wr) (fun ti _ => x.os.length - (intOf ti).toNat)
   case atStart => exact ⟨0, rfl, Nat.zero_le _, Nat.le_refl _, by rw [upto_zero]; exact Hx23.out.widen (fun _ h => h) (by intro k h1; first | omega | exact h1.elim | exact Or.inl h1 | exact Or.inr (h1)), (HQ1.out.mod Cx22.out (by intro k h1 h2; omega) (by intro k h1 h2; rcases h1 with h1 | h1 <;> first | omega | (have hb := HBT.out k h1; omega))), (HKP1_1.out.mod Cx22.out (sB HBT)), Hx21.out, (HKP1_3.out.mod Cx22.out (by intro h2; omega)), (HML1.out.trans Cx22.out (by intro k h1 h2; omega))⟩
   case round =>
    obtain ⟨k2, rfl, hk, hz, ha, hk_0, hk_1, hk_2, hk_3, hm⟩ := hrel
    obtain ⟨wl2, rfl⟩ : ∃ x, x = wr := ⟨_, rfl⟩
    have HAL2 := Lib.hid ha
    have HKP2_0 := Lib.hid hk_0
    have HKP2_1 := Lib.hid hk_1
    have HKP2_2 := Lib.hid hk_2
    have HKP2_3 := Lib.hid hk_3
    have HML2 := Lib.hid hm
    clear ha hm hk_0 hk_1 hk_2 hk_3 HQ1 HML1 HKP1_1 Hx21 HKP1_3 Hx23
    by_cases hlt2 : k2 < x.os.length
    ·skip
     go_upto_region 10 with (fail)
     refine wp_region_U 120 [43] [0] (fun a0 HA0 => ?_)
     have oe41 := ev HA0 41 rfl
     have oe42 := ev HA0 42 rfl
     refine QSeq.pure rfl (.bool true) (fun E => ex_binE rfl (E.v oe42) (E.v oe41) (guard_ints _ _ _ _ _ _) (run_lss_i _ _ _ Try.underlying3) (congrArg Value.bool (decide_eq_true (by omega)))) ?_
     refine QSeq.nil (t' := [_]) rfl ?_
     obtain rfl := HA0.out
     clear HA0 oe41 oe42
     simp only [pz, Act.put, List.setIfInBounds_toArray, List.set_cons_zero, List.set_cons_succ]
     obtain ⟨y2, hy2⟩ : ∃ y, x.os[k2]? = some y := ⟨_, List.getElem?_eq_getElem hlt2⟩
     have HY2 := Lib.hid hy2
     clear hy2
     obtain ⟨g2, cs2, cur2, eao, hrg, hrd, hcs, -, -⟩ := HAL2.out.at (upto_getE (f := nicOp) HY2.out)
     subst eao
     have hcl : cs2.length = 34 := OpR.len hrd
     have hc1 := OpR.one hrd
     obtain ⟨v_e, rfl, hoke, hse⟩ := hrd
     obtain ⟨aoe2, cape2, rfl⟩ := hse.shape
     have HOK2 := Lib.hid hoke
     have HSE2 := Lib.hid hse
     have HCL2 := Lib.hid hcl
     have HOC2 := Lib.hid hc1
     have HAT2 := hid (show CellsAt (fun k => (New wl1 u8_2 k)) wl2 g2 (0 + k2 * 34) (y2.cells (.slice aoe2 y2.pl.length cape2)) from ⟨hrg, hcs⟩)
     clear hrg hcs hoke hse hcl hc1
     go_upto_region 11 with (fail)
     refine wp_region_U 120 [44, 4] [0, 1] (fun a0 HA0 => ?_)
     have oe42 := ev HA0 42 rfl
     refine QSeq.pure rfl _ (fun E => ex_move rfl (E.v oe42)) ?_
     refine QSeq.pure rfl _ (fun E => ex_assign rfl (E.d 0 0)) ?_
     refine QSeq.nil (t' := [_, _]) rfl ?_
     obtain rfl := HA0.out
     clear HA0 oe42
     simp only [pz, Act.put, List.setIfInBounds_toArray, List.set_cons_zero, List.set_cons_succ]
     go_upto_region 12 with (fail)
     refine wp_region_U 120 [45, 46, 47, 48, 49, 5, 126] [0, 1, 2, 3, 4, 5, 6] (fun a0 HA0 => ?_)
     have oe1 := ev HA0 1 rfl
     have oe4 := ev HA0 4 rfl
     refine QSeq.pure rfl (.pointer (some ⟨w.heap.size, 3, none⟩)) (fun E => ex_field rfl Try.underlying60 rfl (by kernel_rfl) (E.v oe1)) ?_
     refine QSeq.pure rfl _ (fun E => ex_load1 rfl Try.underlying57 rfl (E.d 0 0) (Cs.lit1 HKP2_2.out rfl)) ?_
     refine QSeq.pure rfl _ (fun E => ex_move rfl (E.v oe4)) ?_
     refine QSeq.pure rfl (.pointer (some ⟨g2, 0 + k2 * 34, none⟩)) (fun E => ex_idxS (i := k2) (s := 34) rfl Try.underlying57 (by kernel_rfl) (E.d 1 1) (E.d 2 0) (by omega)) ?_
     refine QSeq.pure rfl _ (fun E => ex_loadA rfl Try.underlying87 rfl (off := 0 + k2 * 34) (cs := (y2.cells (.slice aoe2 y2.pl.length cape2))) (by rw [HCL2.out]; kernel_rfl) (E.d 3 0) (fun j u hu => (HAT2.out).2 j u hu)) ?_
     refine QSeq.go fun act E => ?_
     refine qc_alloc rfl (wanted_none rfl) rfl (z := [.int .i64 0, .slice none 0 0, .int .u8 0, .int .u8 0, .int .u8 0, .int .u8 0, .int .u8 0, .int .u8 0, .int .u8 0, .int .u8 0, .int .u8 0, .int .u8 0, .int .u8 0, .int .u8 0, .int .u8 0, .int .u8 0, .int .u8 0, .int .u8 0, .int .u8 0, .int .u8 0, .int .u8 0, .int .u8 0, .int .u8 0, .int .u8 0, .int .u8 0, .int .u8 0, .int .u8 0, .int .u8 0, .int .u8 0, .int .u8 0, .int .u8 0, .int .u8 0, .int .u8 0, .int .u8 0]) (by kernel_rfl) ?_
     intro u12_5 qB5 hm
     have zl12_5 := qB5.lt
     have Hx24 := hid qB5
     have zu12_5 := hm.size
     have Cx25 := hid (show Mod (fun _ => False) wl2 u12_5 from hm)
     clear hm
     clear act E qB5
     refine QSeq.go fun act E => ?_
     refine qc_store rfl (wanted_none rfl) rfl Hx24.out (off := 0) (vs := (y2.cells (.slice aoe2 y2.pl.length cape2))) (by rw [HCL2.out]; kernel_rfl) HOC2.out (by rw [HCL2.out]; decide) (E.d 5 0) (ec (E.d 4 1)) ?_
     intro u12_6 qc0 hm
     have qB5 := qc0.eqv (b := ((y2.cells (.slice aoe2 y2.pl.length cape2)) : List Value).toArray) (lay_whole _ _ (by rw [HCL2.out]; rfl))
     clear qc0
     have Hx26 := hid qB5
     have zu12_6 := hm.size
     have HMu12_6 := hid hm
     have Cx27 := hid (Mod.goS (S' := (fun _ => False)) Cx25.out hm (fun _ h => h) (by intro k h0 h2; omega))
     clear hm Cx25
     clear act E qB5 Hx24
     clear HMu12_6
     refine QSeq.nil (t' := [_, _, _, _, _, _, _]) rfl ?_
     obtain rfl := HA0.out
     clear HA0 oe1 oe4
     simp only [pz, Act.put, List.setIfInBounds_toArray, List.set_cons_zero, List.set_cons_succ, List.set_nil]
     clear HAT2
     go_upto_region 13 with (fail)
     generalize ha0 : Act.mk _ _ = a0
     have oe5 : a0.eval (.tmp 5) = .pointer (some ⟨wl2.heap.size, 0, none⟩) := by rw [← ha0]; rfl
     have hsz0 : a0.tmps.size = 120 := by rw [← ha0]; rfl
     have HA0 := hid ha0
     clear ha0
     refine wp_region_Q1 120 hsz0 [50, 51, 52, 53, 54, 55, 56, 127, 57, 129] (fun k => (k = wl2.heap.size)) (fun k j => (k = 1 ∧ ((j = wl2.heap.size))) ∨ (k = 2 ∧ ((j = wl2.heap.size)))) (by intro k j h; (try dsimp only at h ⊢); omega) [qi (.pointer (some ⟨wl2.heap.size, 0, none⟩)), qi (.int .i64 y2.ix), qi (.int .i64 (upn y2.ix)), qi (.pointer (some ⟨wl2.heap.size, 1, none⟩)), qi (.slice aoe2 y2.pl.length cape2), qv 0, qi (.pointer (some ⟨wl2.heap.size, 0, none⟩)), qv 1, qi (.pointer (some ⟨wl2.heap.size, 1, none⟩)), qv 2] ⟨qi_stable, qi_stable, qi_stable, qi_stable, qi_stable, qv_stable, qi_stable, qv_stable, qi_stable, qv_stable, trivial⟩ [5, 7, 9] ⟨?_, ?_, ?_, ?_, ?_, ?_, ?_, ?_, ?_, ?_, trivial⟩ ?_
     ·exact stq (fun E => ex_field rfl Try.underlying87 rfl (by kernel_rfl) (E.v oe5))
     ·refine stepq_env rfl rfl rfl fun _ _ _ _ _ _ hm0 _ _ hd hub _ => ?_
      have h0 := hd ⟨0, .data⟩ (by simp) rfl _ rfl
      refine qe_run rfl (wanted_none rfl) (ex_load1 rfl Try.underlying3 rfl h0 (Cs.hd1 (Hx26.out.mod hm0 (by intro h2; have hu := hub 1 7 rfl (by kernel_rfl); rcases h2 with ⟨h0, kk, hk, h2⟩ | h2 <;> omega)) rfl)) QE.refl ?_
      rfl
     ·refine stepq_env rfl rfl rfl fun _ _ _ _ _ _ _ _ _ hd _ _ => ?_
      have h1 := hd ⟨1, .data⟩ (by simp) rfl _ rfl
      refine qe_callF (args := #[.int .i64 y2.ix]) rfl (wanted_none rfl) rfl Try.func92 (args1 h1) (up_any y2.ix _ HOK2.out.1) ?_
      rintro e w2 ⟨rfl, rfl⟩
      exact ⟨_, rfl, QE.refl, rfl⟩
     ·exact stq (fun E => ex_field rfl Try.underlying87 rfl (by kernel_rfl) (E.v oe5))
     ·refine stepq_env rfl rfl rfl fun _ _ _ _ _ _ hm0 _ _ hd hub _ => ?_
      have h3 := hd ⟨3, .data⟩ (by simp) rfl _ rfl
      refine qe_run rfl (wanted_none rfl) (ex_load1 rfl Try.underlying38 rfl h3 (Cs.hd1 (Hx26.out.mod hm0 (by intro h2; have hu := hub 1 7 rfl (by kernel_rfl); rcases h2 with ⟨h0, kk, hk, h2⟩ | h2 <;> omega)) rfl)) QE.refl ?_
      rfl
     ·exact stepq_chain rfl
     ·exact stq (fun E => ex_field rfl Try.underlying87 rfl (by kernel_rfl) (E.v oe5))
     ·exact stepq_chain rfl
     ·exact stq (fun E => ex_field rfl Try.underlying87 rfl (by kernel_rfl) (E.v oe5))
     ·exact stepq_chain rfl
     intro u13_0 hr
     have zu13_0 := hr.size
     have Cx28 := hid (hr.new (S := (fun k => (k = wl2.heap.size))))
     have Hx29 := hid (Hx26.out.mod hr (by intro h2; omega))
     clear Hx26
     clear hr
     refine QChain.go fun Z act E => ?_
     refine qc_callF (args := #[.slice aoe2 y2.pl.length cape2, .int .i64 256]) rfl (wanted_none rfl) rfl Try.func26 (args2 (E.d 4) rfl) (Cut_R 256 ((HSE2.out.mod Cx27.out (fun _ _ h => h)).mod Cx28.out (by intro k h1 h2; rcases h1 with h1 | h1 <;> first | omega | (have hb := HBT.out k h1; omega))) (by decide)) ?_
     rintro e u13_1a ⟨v', rfl, qpc, hm⟩
     obtain ⟨aop2, capp2, rfl⟩ := qpc.shape
     have zu13_1a := hm.size
     refine ⟨_, rfl, hm.mono (fun _ _ h => h.elim), (fun _ => rfl), ?_⟩
     intro u13_1 hr
     have zu13_1 := hr.size
     have Hx30 := hid ((qpc.widen (R' := (fun k => (New u13_0 u13_1a k))) (fun _ h => h) (Nat.le_refl _)).mod hr (by intro k h1 h2; omega))
     have hmr := Mod.after hm hr
     have Hx31 := hid (Hx29.out.mod hmr (by intro h2; omega))
     clear Hx29
     clear hmr
     have Cx32 := hid (Cx28.out.go hm hr)
     clear Cx28 hm hr Z act E qpc
     refine QChain.go fun Z act E => ?_
     refine qc_store rfl (wanted_none rfl) rfl Hx31.out (off := 0) (vs := [.int .i64 (upn y2.ix)]) (by kernel_rfl) (by intro u hu; simp at hu; subst hu; rfl) (by rw [List.size_toArray, op_len _ _ HOK2.out.2.1]; show 0 + 1 ≤ 34; decide) (E.d 6) (by rw [show act.eval ((.tmp 52)) = _ from (E.d 2)]; rfl) ?_
     intro u13_2a qc0 hm
     have qB5 : Cs u13_2a (wl2.heap.size) ((({ y2 with ix := upn y2.ix } : Op).cells (.slice aoe2 y2.pl.length cape2)) : List Value).toArray 87 := by rw [show lay _ 0 _ = ((({ y2 with ix := upn y2.ix } : Op).cells (.slice aoe2 y2.pl.length cape2)) : List Value).toArray from lay_oix y2 _ _] at qc0; exact qc0
     clear qc0
     have zu13_2a := hm.size
     refine ⟨hm.mono (by intro k hk h; omega), (fun _ => rfl), ?_⟩
     intro u13_2 hr
     have zu13_2 := hr.size
     have Hx33 := hid (qB5.mod hr (by intro h2; omega))
     have hmr := hm.two hr
     have Hx34 := hid (Hx30.out.mod hmr (by intro k h1 h2; omega))
     clear Hx30
     clear hmr
     have Cx35 := hid (Cx32.out.goM hm hr (fun _ _ h => h))
     clear Cx32 hm hr Z act E qB5 Hx31
     refine QChain.go fun Z act E => ?_
     refine qc_store rfl (wanted_none rfl) rfl Hx33.out (off := 1) (vs := [Value.slice aop2 (y2.pl.take 256).length capp2]) (by kernel_rfl) (by intro u hu; simp at hu; subst hu; rfl) (by rw [List.size_toArray, op_mk y2 _ _ HOK2.out.2.1]; show 1 + 1 ≤ 34; decide) (E.d 8) (by rw [show act.eval ((.tmp 55)) = _ from (chv (v := .slice aop2 (y2.pl.take 256).length capp2) (E.d 5))]; rfl) ?_
     intro u13_3a qc0 hm
     have qB5 : Cs u13_3a (wl2.heap.size) (((nicOp y2).cells (.slice aop2 (y2.pl.take 256).length capp2)) : List Value).toArray 87 := by rw [show lay _ 1 _ = (((nicOp y2).cells (.slice aop2 (y2.pl.take 256).length capp2)) : List Value).toArray from lay_pl ({ y2 with ix := upn y2.ix } : Op) (nicOp y2) _ _ ⟨rfl, rfl⟩] at qc0; exact qc0
     clear qc0
     have zu13_3a := hm.size
     refine ⟨hm.mono (by intro k hk h; omega), (fun _ => rfl), ?_⟩
     intro u13_3 hr
     have zu13_3 := hr.size
     have Hx36 := hid (qB5.mod hr (by intro h2; omega))
     have hmr := hm.two hr
     have Hx37 := hid (Hx34.out.mod hmr (by intro k h1 h2; omega))
     clear Hx34
     clear hmr
     have Cx38 := hid (Cx35.out.goM hm hr (fun _ _ h => h))
     clear Cx35 hm hr Z act E qB5 Hx33
     refine QChain.nil fun vs hl hzz hrows hne => ?_
     obtain ⟨Z, hYZ, hZb, hV⟩ := hzz
     have f2 := fvi hV hl 2
     have f5 := fvc hV hl 5
     rw [show vs = [gw vs 0, gw vs 1, gw vs 2, gw vs 3, gw vs 4, gw vs 5, gw vs 6, gw vs 7, gw vs 8, gw vs 9] from (gw_eta hl).trans rfl]
     have ha0 := HA0.out
     subst ha0
     clear HA0 hV hYZ hZb hsz0 hrows hne oe5
     simp only [putAll, Act.put, List.setIfInBounds_toArray, List.set_cons_zero, List.set_cons_succ, List.set_nil, f2, f5]
     clear hl f2 f5
     have HEL2 := hid (show OpR.rd (fun k => (New u13_0 u13_1a k)) u13_3 ((nicOp y2).cells (.slice aop2 (y2.pl.take 256).length capp2)) (nicOp y2) from ⟨_, rfl, ⟨upn_I _, HOK2.out.2⟩, RdR_len Hx37.out.rd⟩)
     clear Hx37
     clear HSE2
     go_upto_region 14 with (fail)
     refine wp_region_U 120 [58, 59, 60, 61, 62, 125] [0, 1, 2, 3, 4, 5] (fun a0 HA0 => ?_)
     have oe1 := ev HA0 1 rfl
     have oe4 := ev HA0 4 rfl
     have oe5 := ev HA0 5 rfl
     refine QSeq.pure rfl (.pointer (some ⟨w.heap.size, 3, none⟩)) (fun E => ex_field rfl Try.underlying60 rfl (by kernel_rfl) (E.v oe1)) ?_
     refine QSeq.pure rfl _ (fun E => ex_load1 rfl Try.underlying57 rfl (E.d 0 0) (Cs.lit1 ((HKP2_2.out.mod Cx27.out (fun h => h)).mod Cx38.out (by intro h2; omega)) rfl)) ?_
     refine QSeq.pure rfl _ (fun E => ex_move rfl (E.v oe4)) ?_
     refine QSeq.pure rfl _ (fun E => ex_loadA rfl Try.underlying87 rfl (off := 0) (cs := ((nicOp y2).cells (.slice aop2 (y2.pl.take 256).length capp2))) (by rw [op_len (nicOp y2) _ HOK2.out.2.1]; kernel_rfl) (E.v oe5) (Cs.whole Hx36.out)) ?_
     refine QSeq.pure rfl (.pointer (some ⟨g2, 0 + k2 * 34, none⟩)) (fun E => ex_idxS (i := k2) (s := 34) rfl Try.underlying57 (by kernel_rfl) (E.d 1 2) (E.d 2 1) (by omega)) ?_
     refine QSeq.go fun act E => ?_
     refine qc_putS (A := OpR) (off := 0 + k2 * 34) (cs := ((nicOp y2).cells (.slice aop2 (y2.pl.take 256).length capp2))) (z := (nicOp y2)) rfl (wanted_none rfl) rfl (((HAL2.out.mod Cx27.out (fun _ _ h => h) (fun _ _ h => h)).mod Cx38.out (by intro k h1 h2; omega) (by intro k h1 h2; rcases h1 with h1 | h1 <;> first | omega | (have hb := HBT.out k h1; omega))).widen (E' := (fun k => (R2 k) ∨ (New u8_4 wl2 k) ∨ (New u13_0 u13_1a k))) (fun _ h => h) (by intro k h1; rcases h1 with h1 | h1 <;> first | omega | exact h1.elim | exact Or.inl h1 | exact Or.inr (Or.inl h1) | exact Or.inr (Or.inr (h1)))) (by rw [upto_len]; exact hlt2) (Nat.zero_add _) HEL2.out (by intro k h1; (try dsimp only at h1 ⊢); first | (have hb := HBT.out k h1; exact ⟨Or.inl h1, by omega⟩) | exact ⟨Or.inr (by omega), by omega⟩) (by intro k h1 h2; (try dsimp only at h1 h2); rcases h1 with h1 | h1 | h1 <;> first | omega | (have := HBT.out k h1; omega)) (by kernel_rfl) (E.d 4 0) (by rw [show act.eval (.tmp 61) = _ from (E.d 3 1)]; rfl) ?_
     intro u14_5 q0 hm
     have qacc2 := q0
     rw [upto_setE HY2.out] at qacc2
     clear q0
     have Hx39 := hid qacc2
     have zu14_5 := hm.size
     have Cx40 := hid (show Mod (fun k => (New wl1 u8_2 k)) u13_3 u14_5 from hm)
     clear hm
     clear act E qacc2 HAL2
     refine QSeq.nil (t' := [_, _, _, _, _, _]) rfl ?_
     obtain rfl := HA0.out
     clear HA0 oe1 oe4 oe5
     simp only [pz, Act.put, List.setIfInBounds_toArray, List.set_cons_zero, List.set_cons_succ, List.set_nil]
     clear Hx36
     clear HEL2
     go_upto_region 15 with (fail)
     refine wp_region_U 120 [63, 42] [0, 1] (fun a0 HA0 => ?_)
     have oe42 := ev HA0 42 rfl
     refine QSeq.pure rfl (.int .i64 (((k2 : Nat) : Int) + 1)) (fun E => ex_binE rfl (E.y 1 oe42) rfl (guard_ints _ _ _ _ _ _) (run_add_i _ _ Try.underlying3) (congrArg (Value.int .i64) (IntWalk.i64_in _ (by have h9 := (show x.os.length ≤ 1000 from HP.out.2.2.1); omega)))) ?_
     refine QSeq.pure rfl _ (fun E => ex_move rfl (E.d 0 0)) ?_
     refine QSeq.nil (t' := [_, _]) rfl ?_
     obtain rfl := HA0.out
     clear HA0 oe42
     simp only [pz, Act.put, List.setIfInBounds_toArray, List.set_cons_zero, List.set_cons_succ]
     go_wp2
     go_roundw
     case rel => exact ⟨k2 + 1, by go_num, by omega, by omega, (Hx39.out.widen (fun _ h => h) (by intro k h1; rcases h1 with h1 | h1 | h1 <;> first | omega | exact h1.elim | exact Or.inl h1 | exact Or.inr (h1))), (((HKP2_0.out.mod Cx27.out (fun _ _ h => h) (fun _ _ h => h)).mod Cx38.out (by intro k h1 h2; omega) (by intro k h1 h2; rcases h1 with h1 | h1 <;> first | omega | (have hb := HBT.out k h1; omega))).mod Cx40.out (by intro k h1 h2; omega) (by intro k h1 h2; rcases h1 with h1 | h1 <;> first | omega | (have hb := HBT.out k h1; omega))), (((HKP2_1.out.mod Cx27.out (fun _ _ h => h)).mod Cx38.out (sB HBT)).mod Cx40.out (sN HBT)), (((HKP2_2.out.mod Cx27.out (fun h => h)).mod Cx38.out (by intro h2; omega)).mod Cx40.out (by intro h2; omega)), (((HKP2_3.out.mod Cx27.out (fun h => h)).mod Cx38.out (by intro h2; omega)).mod Cx40.out (by intro h2; omega)), (((HML2.out.trans Cx27.out (fun _ _ h => h.elim)).trans Cx38.out (by intro k h1 h2; omega)).trans Cx40.out (by intro k h1 h2; omega))⟩
     case measure => simp [intOf]; omega
    ·skip
     go_upto_region 10 with (fail)
     refine wp_region_U 120 [43] [0] (fun a0 HA0 => ?_)
     have oe41 := ev HA0 41 rfl
     have oe42 := ev HA0 42 rfl
     refine QSeq.pure rfl (.bool false) (fun E => ex_binE rfl (E.v oe42) (E.v oe41) (guard_ints _ _ _ _ _ _) (run_lss_i _ _ _ Try.underlying3) (congrArg Value.bool (decide_eq_false (by omega)))) ?_
     refine QSeq.nil (t' := [_]) rfl ?_
     obtain rfl := HA0.out
     clear HA0 oe41 oe42
     simp only [pz, Act.put, List.setIfInBounds_toArray, List.set_cons_zero, List.set_cons_succ]
     have hq := HAL2.out
     rw [upto_all (by omega)] at hq
     have HQ2 := Lib.hid hq
     clear hq
     go_upto_region 16 with (fail)
     refine wp_region_U 120 [64, 65, 66, 67, 124] [0, 1, 2, 3, 4] (fun a0 HA0 => ?_)
     have oe1 := ev HA0 1 rfl
     refine QSeq.pure rfl (.pointer (some ⟨w.heap.size, 4, none⟩)) (fun E => ex_field rfl Try.underlying60 rfl (by kernel_rfl) (E.v oe1)) ?_
     refine QSeq.pure rfl _ (fun E => ex_load1 rfl Try.underlying58 rfl (E.d 0 0) (Cs.lit1 HKP2_2.out rfl)) ?_
     refine QSeq.go fun act E => ?_
     refine qc_appS (A := TbR) (e := 90) rfl (wanted_none rfl) rfl (.agg #[.int .i64 0, .slice none 0 0]) 32 Try.underlying58 info_Tb (by rfl) (of_decide_eq_true (by kernel_rfl)) rfl (E.d 1 0) (OwS.nil _ _ (fun _ => False) (fun _ => False) _) (HKP2_1.out) (fun _ _ h => h) (by have h9 := (show x.ts.length ≤ 1000 from HP.out.2.2.2.1); simp only [List.length_nil]; omega) (by have h9 := (show x.ts.length ≤ 1000 from HP.out.2.2.2.1); simp only [List.length_nil]; rw [maxLen_val]; omega) ?_
     intro ao8 cap8 u16_2 qacc3 hm
     rw [show ([] : List Tb).length + x.ts.length = x.ts.length from Nat.zero_add _] at qacc3 ⊢
     rw [List.nil_append] at qacc3
     have Hx41 := hid (qacc3.widen (R' := (fun k => (New wl2 u16_2 k))) (E' := (fun k => (R2 k))) (fun _ h => h.elim (fun h => h.elim) (fun h => h)) (by intro k h1; rcases h1 with h1 | h1 <;> first | omega | exact h1.elim | exact h1))
     have zu16_2 := hm.size
     have Cx42 := hid (show Mod (fun _ => False) wl2 u16_2 from hm)
     clear hm
     clear act E qacc3
     refine QSeq.pure rfl (.pointer (some ⟨w.heap.size, 4, none⟩)) (fun E => ex_field rfl Try.underlying60 rfl (by kernel_rfl) (E.v oe1)) ?_
     refine QSeq.go fun act E => ?_
     refine qc_store rfl (wanted_none rfl) rfl (HKP2_2.out.mod Cx42.out (fun h => h)) (off := 4) (vs := [Value.slice ao8 (x.ts.length) cap8]) (by kernel_rfl) one1 (by show 4 + 1 ≤ 5; decide) (E.d 3 0) (ec (E.d 2 1)) ?_
     intro u16_4 qc0 hm
     have qB1 := qc0.eqv (b := #[.int .i64 (upn x.ep), .int .u64 (x.tm : Nat), Value.slice ao2 (x.ps.length) cap2, Value.slice ao5 (x.os.length) cap5, .slice ao8 (x.ts.length) cap8]) rfl
     clear qc0
     have Hx43 := hid qB1
     have zu16_4 := hm.size
     have HMu16_4 := hid hm
     have Cx44 := hid (Mod.goS (S' := (fun k => (k = w.heap.size))) Cx42.out hm (fun _ h => h.elim) (by intro k h0 h2; exact h2))
     clear hm Cx42
     clear act E qB1 HKP2_2
     have Hx45 := hid (Hx41.out.mod HMu16_4.out (by intro k h1 h2; omega) (sB HBT))
     clear Hx41 HMu16_4
     refine QSeq.nil (t' := [_, _, _, _, _]) rfl ?_
     obtain rfl := HA0.out
     clear HA0 oe1
     simp only [pz, Act.put, List.setIfInBounds_toArray, List.set_cons_zero, List.set_cons_succ, List.set_nil]
     clear HKP2_1
     go_upto_region 17 with (fail)
     refine wp_region_U 120 [68, 69, 70, 71] [0, 1, 2, 3] (fun a0 HA0 => ?_)
     have oe1 := ev HA0 1 rfl
     refine QSeq.pure rfl (.pointer (some ⟨w.heap.size, 4, none⟩)) (fun E => ex_field rfl Try.underlying60 rfl (by kernel_rfl) (E.v oe1)) ?_
     refine QSeq.pure rfl _ (fun E => ex_load1 rfl Try.underlying58 rfl (E.d 0 0) (Cs.lit1 Hx43.out rfl)) ?_
     refine QSeq.pure rfl (.int .i64 (x.ts.length)) (fun E => ex_lenS rfl (E.d 1 0) Try.underlying58) ?_
     refine QSeq.pure rfl (.int .i64 0) (fun E => ex_move rfl rfl) ?_
     refine QSeq.nil (t' := [_, _, _, _]) rfl ?_
     obtain rfl := HA0.out
     clear HA0 oe1
     simp only [pz, Act.put, List.setIfInBounds_toArray, List.set_cons_zero, List.set_cons_succ]
     go_wp2
     go_loopw [71] (fun ti wr => ∃ k : Nat, ti = .int .i64 (k : Int) ∧ k ≤ x.ts.length ∧ u16_4.heap.size ≤ wr.heap.size ∧ OwS TbR 90 (fun k => (New wl2 u16_2 k)) (fun k => (R2 k) ∨ (u16_4.heap.size ≤ k ∧ k < wr.heap.size)) wr (.slice ao8 (x.ts.length) cap8) (upto nicTb k x.ts) ∧ OwS OpR 87 (fun k => (New wl1 u8_2 k)) (fun k => (R2 k) ∨ (u8_4.heap.size ≤ k ∧ k < wl2.heap.size)) wr (.slice ao5 (x.os.length) cap5) (x.os.map nicOp) ∧ OwS PmR 55 (fun k => (New u1_4 u2_2 k)) (fun k => (R2 k) ∨ (u2_4.heap.size ≤ k ∧ k < wl1.heap.size)) wr (.slice ao2 (x.ps.length) cap2) (x.ps.map nicPm) ∧ Cs wr (w.heap.size) #[.int .i64 (upn x.ep), .int .u64 (x.tm : Nat), Value.slice ao2 (x.ps.length) cap2, Value.slice ao5 (x.os.length) cap5, Value.slice ao8 (x.ts.length) cap8] 60 ∧ Cs wr (w.heap.size + 1) #[.int .i64 0, .int .u64 0, .slice none 0 0, .slice none 0 0, .slice none 0 0] 60 ∧ Mod (fun _ => False) w wr) (fun ti _ => x.ts.length - (intOf ti).toNat)
     case atStart => exact ⟨0, rfl, Nat.zero_le _, Nat.le_refl _, by rw [upto_zero]; exact Hx45.out.widen (fun _ h => h) (by intro k h1; first | omega | exact h1.elim | exact Or.inl h1 | exact Or.inr (h1)), (HQ2.out.mod Cx44.out (by intro k h1 h2; omega) (by intro k h1 h2; rcases h1 with h1 | h1 <;> first | omega | (have hb := HBT.out k h1; omega))), (HKP2_0.out.mod Cx44.out (by intro k h1 h2; omega) (by intro k h1 h2; rcases h1 with h1 | h1 <;> first | omega | (have hb := HBT.out k h1; omega))), Hx43.out, (HKP2_3.out.mod Cx44.out (by intro h2; omega)), (HML2.out.trans Cx44.out (by intro k h1 h2; omega))⟩
     case round =>
      obtain ⟨k3, rfl, hk, hz, ha, hk_0, hk_1, hk_2, hk_3, hm⟩ := hrel
      obtain ⟨wl3, rfl⟩ : ∃ x, x = wr := ⟨_, rfl⟩
      have HAL3 := Lib.hid ha
      have HKP3_0 := Lib.hid hk_0
      have HKP3_1 := Lib.hid hk_1
      have HKP3_2 := Lib.hid hk_2
      have HKP3_3 := Lib.hid hk_3
      have HML3 := Lib.hid hm
      clear ha hm hk_0 hk_1 hk_2 hk_3 HQ2 HML2 HKP2_0 Hx43 HKP2_3 Hx45
      by_cases hlt3 : k3 < x.ts.length
      ·skip
       go_upto_region 18 with (fail)
       refine wp_region_U 120 [72] [0] (fun a0 HA0 => ?_)
       have oe70 := ev HA0 70 rfl
       have oe71 := ev HA0 71 rfl
       refine QSeq.pure rfl (.bool true) (fun E => ex_binE rfl (E.v oe71) (E.v oe70) (guard_ints _ _ _ _ _ _) (run_lss_i _ _ _ Try.underlying3) (congrArg Value.bool (decide_eq_true (by omega)))) ?_
       refine QSeq.nil (t' := [_]) rfl ?_
       obtain rfl := HA0.out
       clear HA0 oe70 oe71
       simp only [pz, Act.put, List.setIfInBounds_toArray, List.set_cons_zero, List.set_cons_succ]
       obtain ⟨y3, hy3⟩ : ∃ y, x.ts[k3]? = some y := ⟨_, List.getElem?_eq_getElem hlt3⟩
       have HY3 := Lib.hid hy3
       clear hy3
       obtain ⟨g3, cs3, cur3, eao, hrg, hrd, hcs, -, -⟩ := HAL3.out.at (upto_getE (f := nicTb) HY3.out)
       subst eao
       have hcl : cs3.length = 2 := TbR.len hrd
       have hc1 := TbR.one hrd
       obtain ⟨v_e, rfl, hoke, hse⟩ := hrd
       obtain ⟨aoe3, cape3, rfl⟩ := hse.shape
       have HOK3 := Lib.hid hoke
       have HSE3 := Lib.hid hse
       have HCL3 := Lib.hid hcl
       have HOC3 := Lib.hid hc1
       have HAT3 := hid (show CellsAt (fun k => (New wl2 u16_2 k)) wl3 g3 (0 + k3 * 2) (y3.cells (.slice aoe3 y3.l.length cape3)) from ⟨hrg, hcs⟩)
       clear hrg hcs hoke hse hcl hc1
       go_upto_region 19 with (fail)
       refine wp_region_U 120 [73, 6] [0, 1] (fun a0 HA0 => ?_)
       have oe71 := ev HA0 71 rfl
       refine QSeq.pure rfl _ (fun E => ex_move rfl (E.v oe71)) ?_
       refine QSeq.pure rfl _ (fun E => ex_assign rfl (E.d 0 0)) ?_
       refine QSeq.nil (t' := [_, _]) rfl ?_
       obtain rfl := HA0.out
       clear HA0 oe71
       simp only [pz, Act.put, List.setIfInBounds_toArray, List.set_cons_zero, List.set_cons_succ]
       go_upto_region 20 with (fail)
       refine wp_region_U 120 [74, 75, 76, 77, 78, 7, 126] [0, 1, 2, 3, 4, 5, 6] (fun a0 HA0 => ?_)
       have oe1 := ev HA0 1 rfl
       have oe6 := ev HA0 6 rfl
       refine QSeq.pure rfl (.pointer (some ⟨w.heap.size, 4, none⟩)) (fun E => ex_field rfl Try.underlying60 rfl (by kernel_rfl) (E.v oe1)) ?_
       refine QSeq.pure rfl _ (fun E => ex_load1 rfl Try.underlying58 rfl (E.d 0 0) (Cs.lit1 HKP3_2.out rfl)) ?_
       refine QSeq.pure rfl _ (fun E => ex_move rfl (E.v oe6)) ?_
       refine QSeq.pure rfl (.pointer (some ⟨g3, 0 + k3 * 2, none⟩)) (fun E => ex_idxS (i := k3) (s := 2) rfl Try.underlying58 (by kernel_rfl) (E.d 1 1) (E.d 2 0) (by omega)) ?_
       refine QSeq.pure rfl _ (fun E => ex_loadA rfl Try.underlying90 rfl (off := 0 + k3 * 2) (cs := (y3.cells (.slice aoe3 y3.l.length cape3))) (by rw [HCL3.out]; kernel_rfl) (E.d 3 0) (fun j u hu => (HAT3.out).2 j u hu)) ?_
       refine QSeq.go fun act E => ?_
       refine qc_alloc rfl (wanted_none rfl) rfl (z := [.int .i64 0, .slice none 0 0]) (by kernel_rfl) ?_
       intro u20_5 qB7 hm
       have zl20_5 := qB7.lt
       have Hx46 := hid qB7
       have zu20_5 := hm.size
       have Cx47 := hid (show Mod (fun _ => False) wl3 u20_5 from hm)
       clear hm
       clear act E qB7
       refine QSeq.go fun act E => ?_
       refine qc_store rfl (wanted_none rfl) rfl Hx46.out (off := 0) (vs := (y3.cells (.slice aoe3 y3.l.length cape3))) (by kernel_rfl) HOC3.out (by show 0 + 2 ≤ 2; decide) (E.d 5 0) (ec (E.d 4 1)) ?_
       intro u20_6 qc0 hm
       have qB7 := qc0.eqv (b := ((y3.cells (.slice aoe3 y3.l.length cape3)) : List Value).toArray) (lay_whole _ _ (by rw [HCL3.out]; rfl))
       clear qc0
       have Hx48 := hid qB7
       have zu20_6 := hm.size
       have HMu20_6 := hid hm
       have Cx49 := hid (Mod.goS (S' := (fun _ => False)) Cx47.out hm (fun _ h => h) (by intro k h0 h2; omega))
       clear hm Cx47
       clear act E qB7 Hx46
       clear HMu20_6
       refine QSeq.nil (t' := [_, _, _, _, _, _, _]) rfl ?_
       obtain rfl := HA0.out
       clear HA0 oe1 oe6
       simp only [pz, Act.put, List.setIfInBounds_toArray, List.set_cons_zero, List.set_cons_succ, List.set_nil]
       clear HAT3
       go_upto_region 21 with (fail)
       refine wp_region_U 120 [79, 80, 81, 82, 124] [0, 1, 2, 3, 4] (fun a0 HA0 => ?_)
       have oe7 := ev HA0 7 rfl
       refine QSeq.pure rfl (.pointer (some ⟨wl3.heap.size, 0, none⟩)) (fun E => ex_field rfl Try.underlying90 rfl (by kernel_rfl) (E.v oe7)) ?_
       refine QSeq.pure rfl _ (fun E => ex_load1 rfl Try.underlying3 rfl (E.d 0 0) (Cs.lit1 Hx48.out rfl)) ?_
       refine QSeq.go fun act E => ?_
       refine qc_callF (args := #[.int .i64 y3.ix]) rfl (wanted_none rfl) rfl Try.func92 (args1 (E.d 1 0)) (up_any y3.ix _ HOK3.out) ?_
       rintro e w2 ⟨rfl, hw2⟩
       obtain rfl : u20_6 = w2 := by first | exact hw2 | exact hw2.symm
       refine ⟨_, rfl, ?_⟩
       clear act E
       refine QSeq.pure rfl (.pointer (some ⟨wl3.heap.size, 0, none⟩)) (fun E => ex_field rfl Try.underlying90 rfl (by kernel_rfl) (E.v oe7)) ?_
       refine QSeq.go fun act E => ?_
       refine qc_store rfl (wanted_none rfl) rfl Hx48.out (off := 0) (vs := [.int .i64 (upn y3.ix)]) (by kernel_rfl) one1 (by show 0 + 1 ≤ 2; decide) (E.d 3 0) (ec (E.d 2 1)) ?_
       intro u21_4 qc0 hm
       have qB7 := qc0.eqv (b := (((Tb.mk (upn y3.ix) y3.l).cells (.slice aoe3 y3.l.length cape3)) : List Value).toArray) rfl
       clear qc0
       have Hx50 := hid qB7
       have zu21_4 := hm.size
       have Cx51 := hid (show Mod (fun k => (k = wl3.heap.size)) u20_6 u21_4 from hm)
       clear hm
       clear act E qB7 Hx48
       refine QSeq.nil (t' := [_, _, _, _, _]) rfl ?_
       obtain rfl := HA0.out
       clear HA0 oe7
       simp only [pz, Act.put, List.setIfInBounds_toArray, List.set_cons_zero, List.set_cons_succ, List.set_nil]
       go_upto_region 22 with (fail)
       refine wp_region_U 120 [83, 84, 85, 86, 124] [0, 1, 2, 3, 4] (fun a0 HA0 => ?_)
       have oe7 := ev HA0 7 rfl
       refine QSeq.pure rfl (.pointer (some ⟨wl3.heap.size, 1, none⟩)) (fun E => ex_field rfl Try.underlying90 rfl (by kernel_rfl) (E.v oe7)) ?_
       refine QSeq.pure rfl _ (fun E => ex_load1 rfl Try.underlying88 rfl (E.d 0 0) (Cs.lit1 Hx50.out rfl)) ?_
       refine QSeq.call rfl rfl Try.func93 (Copy_Dn _ _ _ _ ((HSE3.out.mod Cx49.out (fun _ _ h => h)).mod Cx51.out (by intro k h1 h2; rcases h1 with h1 | h1 <;> first | omega | (have hb := HBT.out k h1; omega))) (by intro k h1; rcases h1 with h1 | h1 <;> first | omega | (have hb := HBT.out k h1; omega)) (Nat.le_trans (show y3.l.length ≤ 1000 from HP.out.2.2.2.2 _ (List.mem_of_getElem? HY3.out)) (by decide))) (fun E => args1 (E.d 1 0)) ?_
       rintro e u22_2 ⟨v', rfl, qacc4, hm⟩
       obtain ⟨aod, capd, rfl⟩ := qacc4.shape
       refine ⟨_, rfl, ?_⟩
       have Hx52 := hid (qacc4.widen (R' := (fun k => (New u21_4 u22_2 k))) (E' := (fun k => (R2 k) ∨ (New u16_4 wl3 k))) (fun _ h => h) (fun _ h => h))
       have zu22_2 := hm.size
       have Cx53 := hid (show Mod (fun _ => False) u21_4 u22_2 from hm)
       clear hm
       clear qacc4
       refine QSeq.pure rfl (.pointer (some ⟨wl3.heap.size, 1, none⟩)) (fun E => ex_field rfl Try.underlying90 rfl (by kernel_rfl) (E.v oe7)) ?_
       refine QSeq.go fun act E => ?_
       refine qc_store rfl (wanted_none rfl) rfl (Hx50.out.mod Cx53.out (fun h => h)) (off := 1) (vs := [Value.slice aod y3.l.length capd]) (by kernel_rfl) one1 (by show 1 + 1 ≤ 2; decide) (E.d 3 0) (ec (E.d 2 1)) ?_
       intro u22_4 qc0 hm
       have qB7 := qc0.eqv (b := (((Tb.mk (upn y3.ix) y3.l).cells (.slice aod y3.l.length capd)) : List Value).toArray) (lay_tl (Tb.mk (upn y3.ix) y3.l) (Tb.mk (upn y3.ix) y3.l) _ _ rfl)
       clear qc0
       have Hx54 := hid qB7
       have zu22_4 := hm.size
       have HMu22_4 := hid hm
       have Cx55 := hid (Mod.goS (S' := (fun k => (k = wl3.heap.size))) Cx53.out hm (fun _ h => h.elim) (by intro k h0 h2; exact h2))
       clear hm Cx53
       clear act E qB7 Hx50
       have Hx56 := hid (Hx52.out.mod HMu22_4.out (by intro k h1 h2; omega) (by intro k h1 h2; rcases h1 with h1 | h1 <;> first | omega | (have hb := HBT.out k h1; omega)))
       clear Hx52 HMu22_4
       refine QSeq.nil (t' := [_, _, _, _, _]) rfl ?_
       obtain rfl := HA0.out
       clear HA0 oe7
       simp only [pz, Act.put, List.setIfInBounds_toArray, List.set_cons_zero, List.set_cons_succ, List.set_nil]
       clear HSE3
       go_upto_region 23 with (fail)
       refine wp_region_U 120 [87, 88, 89, 90] [0, 1, 2, 3] (fun a0 HA0 => ?_)
       have oe7 := ev HA0 7 rfl
       refine QSeq.pure rfl (.pointer (some ⟨wl3.heap.size, 1, none⟩)) (fun E => ex_field rfl Try.underlying90 rfl (by kernel_rfl) (E.v oe7)) ?_
       refine QSeq.pure rfl _ (fun E => ex_load1 rfl Try.underlying88 rfl (E.d 0 0) (Cs.lit1 Hx54.out rfl)) ?_
       refine QSeq.pure rfl (.int .i64 y3.l.length) (fun E => ex_lenS rfl (E.d 1 0) Try.underlying88) ?_
       refine QSeq.pure rfl (.int .i64 0) (fun E => ex_move rfl rfl) ?_
       refine QSeq.nil (t' := [_, _, _, _]) rfl ?_
       obtain rfl := HA0.out
       clear HA0 oe7
       simp only [pz, Act.put, List.setIfInBounds_toArray, List.set_cons_zero, List.set_cons_succ]
       go_wp2
       go_loopw [90] (fun ti wr => ∃ k : Nat, ti = .int .i64 (k : Int) ∧ k ≤ y3.l.length ∧ u22_4.heap.size ≤ wr.heap.size ∧ OwS DnR 34 (fun k => (New u21_4 u22_2 k)) (fun k => (R2 k) ∨ (New u16_4 wl3 k) ∨ (u22_4.heap.size ≤ k ∧ k < wr.heap.size)) wr (.slice aod y3.l.length capd) (upto nicDn k y3.l) ∧ OwS TbR 90 (fun k => (New wl2 u16_2 k)) (fun k => (R2 k) ∨ (New u16_4 wl3 k)) wr (.slice (some ⟨g3, 0, none⟩) (x.ts.length) cap8) (upto nicTb k3 x.ts) ∧ OwS OpR 87 (fun k => (New wl1 u8_2 k)) (fun k => (R2 k) ∨ (u8_4.heap.size ≤ k ∧ k < wl2.heap.size)) wr (.slice ao5 (x.os.length) cap5) (x.os.map nicOp) ∧ OwS PmR 55 (fun k => (New u1_4 u2_2 k)) (fun k => (R2 k) ∨ (u2_4.heap.size ≤ k ∧ k < wl1.heap.size)) wr (.slice ao2 (x.ps.length) cap2) (x.ps.map nicPm) ∧ Cs wr (w.heap.size) #[.int .i64 (upn x.ep), .int .u64 (x.tm : Nat), Value.slice ao2 (x.ps.length) cap2, Value.slice ao5 (x.os.length) cap5, Value.slice (some ⟨g3, 0, none⟩) (x.ts.length) cap8] 60 ∧ Cs wr (w.heap.size + 1) #[.int .i64 0, .int .u64 0, .slice none 0 0, .slice none 0 0, .slice none 0 0] 60 ∧ Cs wr (wl3.heap.size) (((Tb.mk (upn y3.ix) y3.l).cells (.slice aod y3.l.length capd)) : List Value).toArray 90 ∧ Mod (fun _ => False) w wr) (fun ti _ => y3.l.length - (intOf ti).toNat)
       case atStart => exact ⟨0, rfl, Nat.zero_le _, Nat.le_refl _, by rw [upto_zero]; exact Hx56.out.widen (fun _ h => h) (by intro k h1; rcases h1 with h1 | h1 <;> first | omega | exact h1.elim | exact Or.inl h1 | exact Or.inr (Or.inl h1) | exact Or.inr (Or.inr (h1))), (((HAL3.out.mod Cx49.out (fun _ _ h => h) (fun _ _ h => h)).mod Cx51.out (by intro k h1 h2; omega) (by intro k h1 h2; rcases h1 with h1 | h1 <;> first | omega | (have hb := HBT.out k h1; omega))).mod Cx55.out (by intro k h1 h2; omega) (by intro k h1 h2; rcases h1 with h1 | h1 <;> first | omega | (have hb := HBT.out k h1; omega))), (((HKP3_0.out.mod Cx49.out (fun _ _ h => h) (fun _ _ h => h)).mod Cx51.out (by intro k h1 h2; omega) (by intro k h1 h2; rcases h1 with h1 | h1 <;> first | omega | (have hb := HBT.out k h1; omega))).mod Cx55.out (by intro k h1 h2; omega) (by intro k h1 h2; rcases h1 with h1 | h1 <;> first | omega | (have hb := HBT.out k h1; omega))), (((HKP3_1.out.mod Cx49.out (fun _ _ h => h) (fun _ _ h => h)).mod Cx51.out (by intro k h1 h2; omega) (by intro k h1 h2; rcases h1 with h1 | h1 <;> first | omega | (have hb := HBT.out k h1; omega))).mod Cx55.out (by intro k h1 h2; omega) (by intro k h1 h2; rcases h1 with h1 | h1 <;> first | omega | (have hb := HBT.out k h1; omega))), (((HKP3_2.out.mod Cx49.out (fun h => h)).mod Cx51.out (by intro h2; omega)).mod Cx55.out (by intro h2; omega)), (((HKP3_3.out.mod Cx49.out (fun h => h)).mod Cx51.out (by intro h2; omega)).mod Cx55.out (by intro h2; omega)), Hx54.out, (((HML3.out.trans Cx49.out (fun _ _ h => h.elim)).trans Cx51.out (by intro k h1 h2; omega)).trans Cx55.out (by intro k h1 h2; omega))⟩
       case round =>
        obtain ⟨k4, rfl, hk, hz, ha, hk_0, hk_1, hk_2, hk_3, hk_4, hk_5, hm⟩ := hrel
        obtain ⟨wl4, rfl⟩ : ∃ x, x = wr := ⟨_, rfl⟩
        have HAL4 := Lib.hid ha
        have HKP4_0 := Lib.hid hk_0
        have HKP4_1 := Lib.hid hk_1
        have HKP4_2 := Lib.hid hk_2
        have HKP4_3 := Lib.hid hk_3
        have HKP4_4 := Lib.hid hk_4
        have HKP4_5 := Lib.hid hk_5
        have HML4 := Lib.hid hm
        clear ha hm hk_0 hk_1 hk_2 hk_3 hk_4 hk_5 HAL3 HML3 HKP3_0 HKP3_1 HKP3_2 HKP3_3 Hx54 Hx56
        by_cases hlt4 : k4 < y3.l.length
        ·skip
         go_upto_region 24 with (fail)
         refine wp_region_U 120 [91] [0] (fun a0 HA0 => ?_)
         have oe89 := ev HA0 89 rfl
         have oe90 := ev HA0 90 rfl
         refine QSeq.pure rfl (.bool true) (fun E => ex_binE rfl (E.v oe90) (E.v oe89) (guard_ints _ _ _ _ _ _) (run_lss_i _ _ _ Try.underlying3) (congrArg Value.bool (decide_eq_true (by omega)))) ?_
         refine QSeq.nil (t' := [_]) rfl ?_
         obtain rfl := HA0.out
         clear HA0 oe89 oe90
         simp only [pz, Act.put, List.setIfInBounds_toArray, List.set_cons_zero, List.set_cons_succ]
         obtain ⟨y4, hy4⟩ : ∃ y, y3.l[k4]? = some y := ⟨_, List.getElem?_eq_getElem hlt4⟩
         have HY4 := Lib.hid hy4
         clear hy4
         obtain ⟨g4, cs4, cur4, eao, hrg, hrd, hcs, -, -⟩ := HAL4.out.at (upto_getE (f := nicDn) HY4.out)
         subst eao
         obtain ⟨rfl, hok4⟩ := hrd
         have HOK4 := Lib.hid hok4
         clear hok4
         have HAT4 := hid (show CellsAt (fun k => (New u21_4 u22_2 k)) wl4 g4 (0 + k4 * 4) y4.cells from ⟨hrg, hcs⟩)
         clear hrg hcs
         go_upto_region 25 with (fail)
         refine wp_region_U 120 [92, 8] [0, 1] (fun a0 HA0 => ?_)
         have oe90 := ev HA0 90 rfl
         refine QSeq.pure rfl _ (fun E => ex_move rfl (E.v oe90)) ?_
         refine QSeq.pure rfl _ (fun E => ex_assign rfl (E.d 0 0)) ?_
         refine QSeq.nil (t' := [_, _]) rfl ?_
         obtain rfl := HA0.out
         clear HA0 oe90
         simp only [pz, Act.put, List.setIfInBounds_toArray, List.set_cons_zero, List.set_cons_succ]
         go_upto_region 26 with (fail)
         refine wp_region_U 120 [93, 94, 95, 96, 97, 9, 126] [0, 1, 2, 3, 4, 5, 6] (fun a0 HA0 => ?_)
         have oe7 := ev HA0 7 rfl
         have oe8 := ev HA0 8 rfl
         refine QSeq.pure rfl (.pointer (some ⟨wl3.heap.size, 1, none⟩)) (fun E => ex_field rfl Try.underlying90 rfl (by kernel_rfl) (E.v oe7)) ?_
         refine QSeq.pure rfl _ (fun E => ex_load1 rfl Try.underlying88 rfl (E.d 0 0) (Cs.lit1 HKP4_5.out rfl)) ?_
         refine QSeq.pure rfl _ (fun E => ex_move rfl (E.v oe8)) ?_
         refine QSeq.pure rfl (.pointer (some ⟨g4, 0 + k4 * 4, none⟩)) (fun E => ex_idxS (i := k4) (s := 4) rfl Try.underlying88 (by kernel_rfl) (E.d 1 1) (E.d 2 0) (by omega)) ?_
         refine QSeq.pure rfl _ (fun E => ex_loadA rfl Try.underlying34 rfl (off := 0 + k4 * 4) (cs := y4.cells) (by rw [Dn.len HOK4.out]; kernel_rfl) (E.d 3 0) (fun j u hu => (HAT4.out).2 j u hu)) ?_
         refine QSeq.go fun act E => ?_
         refine qc_alloc rfl (wanted_none rfl) rfl (z := [.int .i64 0, .int .i64 0, .int .i64 0, .int .i64 0]) (by kernel_rfl) ?_
         intro u26_5 qB9 hm
         have zl26_5 := qB9.lt
         have Hx57 := hid qB9
         have zu26_5 := hm.size
         have Cx58 := hid (show Mod (fun _ => False) wl4 u26_5 from hm)
         clear hm
         clear act E qB9
         refine QSeq.go fun act E => ?_
         refine qc_store rfl (wanted_none rfl) rfl Hx57.out (off := 0) (vs := y4.cells) (by kernel_rfl) (Dn.one _) (by show 0 + 4 ≤ 4; decide) (E.d 5 0) (ec (E.d 4 1)) ?_
         intro u26_6 qc0 hm
         have qB9 := qc0.eqv (b := (y4.cells : List Value).toArray) (lay_whole #[.int .i64 0, .int .i64 0, .int .i64 0, .int .i64 0] _ rfl)
         clear qc0
         have Hx59 := hid qB9
         have zu26_6 := hm.size
         have HMu26_6 := hid hm
         have Cx60 := hid (Mod.goS (S' := (fun _ => False)) Cx58.out hm (fun _ h => h) (by intro k h0 h2; omega))
         clear hm Cx58
         clear act E qB9 Hx57
         clear HMu26_6
         refine QSeq.nil (t' := [_, _, _, _, _, _, _]) rfl ?_
         obtain rfl := HA0.out
         clear HA0 oe7 oe8
         simp only [pz, Act.put, List.setIfInBounds_toArray, List.set_cons_zero, List.set_cons_succ, List.set_nil]
         clear HAT4
         go_upto_region 27 with (fail)
         generalize ha0 : Act.mk _ _ = a0
         have oe7 : a0.eval (.tmp 7) = .pointer (some ⟨wl3.heap.size, 0, none⟩) := by rw [← ha0]; rfl
         have oe8 : a0.eval (.tmp 8) = .int .i64 ((k4 : Nat) : Int) := by rw [← ha0]; rfl
         have oe9 : a0.eval (.tmp 9) = .pointer (some ⟨wl4.heap.size, 0, none⟩) := by rw [← ha0]; rfl
         have hsz0 : a0.tmps.size = 120 := by rw [← ha0]; rfl
         have HA0 := hid ha0
         clear ha0
         refine wp_region_Q1 120 hsz0 [98, 99, 100, 101, 102, 103, 104, 105, 106, 107, 108, 109, 110, 111, 134] (fun k => (New u21_4 u22_2 k)) (fun k j => (k = 0 ∧ ((New u21_4 u22_2 j)))) (fun _ _ h => h.2) [qi (.pointer (some ⟨wl3.heap.size, 1, none⟩)), qi (.slice (some ⟨g4, 0, none⟩) y3.l.length capd), qi (.int .i64 ((k4 : Nat) : Int)), qi (.pointer (some ⟨wl4.heap.size, 0, none⟩)), qi (.int .i64 y4.rp), qi (.int .i64 (upn y4.rp)), qi (.pointer (some ⟨wl4.heap.size, 1, none⟩)), qi (.int .i64 y4.ix), qi (.int .i64 (upn y4.ix)), qi (.pointer (some ⟨wl4.heap.size, 2, none⟩)), qi (.agg #[.int .i64 y4.sb, .int .i64 y4.mr]), qi (.agg #[.int .i64 (upn y4.sb), .int .i64 (upn y4.mr)]), qi (.agg #[.int .i64 (upn y4.rp), .int .i64 (upn y4.ix), .int .i64 (upn y4.sb), .int .i64 (upn y4.mr)]), qi (.pointer (some ⟨g4, 0 + k4 * 4, none⟩)), qv 0] ⟨qi_stable, qi_stable, qi_stable, qi_stable, qi_stable, qi_stable, qi_stable, qi_stable, qi_stable, qi_stable, qi_stable, qi_stable, qi_stable, qi_stable, qv_stable, trivial⟩ [14] ⟨?_, ?_, ?_, ?_, ?_, ?_, ?_, ?_, ?_, ?_, ?_, ?_, ?_, ?_, ?_, trivial⟩ ?_
         ·exact stq (fun E => ex_field rfl Try.underlying90 rfl (by kernel_rfl) (E.v oe7))
         ·exact stq (fun E => ex_load1 rfl Try.underlying88 rfl (E.d 0) (Cs.lit1 ((HKP4_5.out.mod Cx60.out (fun h => h)).mod E.m (by intro h2; omega)) rfl))
         ·exact stq (fun E => ex_move rfl (E.v oe8))
         ·exact stq (fun E => ex_field rfl Try.underlying34 rfl (by kernel_rfl) (E.v oe9))
         ·exact stq (fun E => ex_load1 rfl Try.underlying3 rfl (E.d 3) (Cs.lit1 (Hx59.out.mod E.m (by intro h2; omega)) rfl))
         ·refine stepq_env rfl rfl rfl fun _ _ _ _ _ _ _ _ _ hd _ _ => ?_
          have h4 := hd ⟨4, .data⟩ (by simp) rfl _ rfl
          refine qe_callF (args := #[.int .i64 y4.rp]) rfl (wanted_none rfl) rfl Try.func92 (args1 h4) (up_any y4.rp _ HOK4.out.rp) ?_
          rintro e w2 ⟨rfl, rfl⟩
          exact ⟨_, rfl, QE.refl, rfl⟩
         ·exact stq (fun E => ex_field rfl Try.underlying34 rfl (by kernel_rfl) (E.v oe9))
         ·exact stq (fun E => ex_load1 rfl Try.underlying3 rfl (E.d 6) (Cs.lit1 (Hx59.out.mod E.m (by intro h2; omega)) rfl))
         ·refine stepq_env rfl rfl rfl fun _ _ _ _ _ _ _ _ _ hd _ _ => ?_
          have h7 := hd ⟨7, .data⟩ (by simp) rfl _ rfl
          refine qe_callF (args := #[.int .i64 y4.ix]) rfl (wanted_none rfl) rfl Try.func92 (args1 h7) (up_any y4.ix _ HOK4.out.ix) ?_
          rintro e w2 ⟨rfl, rfl⟩
          exact ⟨_, rfl, QE.refl, rfl⟩
         ·exact stq (fun E => ex_field rfl Try.underlying34 rfl (by kernel_rfl) (E.v oe9))
         ·exact stq (fun E => ex_loadA rfl Try.underlying28 rfl (off := 2) (cs := [.int .i64 y4.sb, .int .i64 y4.mr]) (by kernel_rfl) (E.d 9) (Cs.litA (Hx59.out.mod E.m (by intro h2; omega)) rfl))
         ·refine stepq_env rfl rfl rfl fun _ _ _ _ _ _ _ _ _ hd _ _ => ?_
          have h10 := hd ⟨10, .data⟩ (by simp) rfl _ rfl
          refine qe_callF (args := #[.agg #[.int .i64 y4.sb, .int .i64 y4.mr]]) rfl (wanted_none rfl) rfl Try.func94 (args1 h10) (niceSig_any y4.sb y4.mr _ HOK4.out.sb HOK4.out.mr) ?_
          rintro e w2 ⟨rfl, hm2⟩
          exact ⟨_, rfl, QE.still hm2, rfl⟩
         ·refine stepq_env rfl rfl rfl fun _ _ act _ _ _ _ _ _ hd _ _ => ?_
          have h5 := hd ⟨5, .data⟩ (by simp) rfl _ rfl
          have h8 := hd ⟨8, .data⟩ (by simp) rfl _ rfl
          have h11 := hd ⟨11, .data⟩ (by simp) rfl _ rfl
          refine qe_run rfl (wanted_none rfl) (ex_build rfl (z := [.int .i64 0, .int .i64 0, .int .i64 0, .int .i64 0]) (places := [(0, 1), (1, 1), (2, 2)]) (by kernel_rfl) (parts := [(0, .int .i64 (upn y4.rp)), (1, .int .i64 (upn y4.ix)), (2, .agg #[.int .i64 (upn y4.sb), .int .i64 (upn y4.mr)])]) (by simp only [List.map_toArray, List.map_cons, List.map_nil, show act.eval (.tmp 103) = _ from h5, show act.eval (.tmp 106) = _ from h8, show act.eval (.tmp 109) = _ from h11]; try rfl) (r := [.int .i64 (upn y4.rp), .int .i64 (upn y4.ix), .int .i64 (upn y4.sb), .int .i64 (upn y4.mr)]) (by rfl)) QE.refl ?_
          rfl
         ·exact stq (fun E => ex_idxS (i := k4) (s := 4) rfl Try.underlying88 (by kernel_rfl) (E.d 1) (E.d 2) (by omega))
         ·exact stepq_chain rfl
         intro u27_0 hr
         have zu27_0 := hr.size
         have Cx61 := hid (hr.new (S := (fun k => (New u21_4 u22_2 k))))
         have Hx62 := hid ((HAL4.out.mod Cx60.out (fun _ _ h => h) (fun _ _ h => h)).mod hr (by intro k h1 h2; omega) (by intro k h1 h2; rcases h1 with h1 | h1 | h1 <;> first | omega | (have hb := HBT.out k h1; omega)))
         clear HAL4
         clear hr
         refine QChain.go fun Z act E => ?_
         refine qc_putS (A := DnR) (off := 0 + k4 * 4) (cs := [.int .i64 (upn y4.rp), .int .i64 (upn y4.ix), .int .i64 (upn y4.sb), .int .i64 (upn y4.mr)]) (z := (nicDn y4)) rfl (wanted_none rfl) rfl Hx62.out (by rw [upto_len]; exact hlt4) (Nat.zero_add _) (show DnR.rd (fun _ => False) _ _ _ from ⟨rfl, nicDn_ok y4⟩) (fun _ h => h.elim) (by intro k h1 h2; (try dsimp only at h1 h2); rcases h1 with h1 | h1 | h1 <;> first | omega | (have := HBT.out k h1; omega)) (by kernel_rfl) (E.d 13) (by rw [show act.eval (.tmp 110) = _ from (E.d 12)]; rfl) ?_
         intro u27_1a q0 hm
         have qacc4 := q0
         rw [upto_setE HY4.out] at qacc4
         clear q0
         have zu27_1a := hm.size
         refine ⟨hm.mono (by intro k hk h; omega), (fun _ => rfl), ?_⟩
         intro u27_1 hr
         have zu27_1 := hr.size
         have Hx63 := hid (qacc4.mod hr (by intro k h1 h2; omega) (by intro k h1 h2; rcases h1 with h1 | h1 | h1 <;> first | omega | (have hb := HBT.out k h1; omega)))
         have Cx64 := hid (Cx61.out.goM hm hr (fun _ _ h => h))
         clear Cx61 hm hr Z act E qacc4 Hx62
         refine QChain.nil fun vs hl hzz hrows hne => ?_
         obtain ⟨Z, hYZ, hZb, hV⟩ := hzz
         have f2 := fvi hV hl 2
         have f5 := fvi hV hl 5
         have f8 := fvi hV hl 8
         have f11 := fvi hV hl 11
         rw [show vs = [gw vs 0, gw vs 1, gw vs 2, gw vs 3, gw vs 4, gw vs 5, gw vs 6, gw vs 7, gw vs 8, gw vs 9, gw vs 10, gw vs 11, gw vs 12, gw vs 13, gw vs 14] from (gw_eta hl).trans rfl]
         have ha0 := HA0.out
         subst ha0
         clear HA0 hV hYZ hZb hsz0 hrows hne oe7 oe8 oe9
         simp only [putAll, Act.put, List.setIfInBounds_toArray, List.set_cons_zero, List.set_cons_succ, List.set_nil, f2, f5, f8, f11]
         clear hl f2 f5 f8 f11
         clear Hx59
         go_upto_region 28 with (fail)
         refine wp_region_U 120 [112, 90] [0, 1] (fun a0 HA0 => ?_)
         have oe90 := ev HA0 90 rfl
         refine QSeq.pure rfl (.int .i64 (((k4 : Nat) : Int) + 1)) (fun E => ex_binE rfl (E.y 1 oe90) rfl (guard_ints _ _ _ _ _ _) (run_add_i _ _ Try.underlying3) (congrArg (Value.int .i64) (IntWalk.i64_in _ (by have h9 := (show y3.l.length ≤ 1000 from HP.out.2.2.2.2 _ (List.mem_of_getElem? HY3.out)); omega)))) ?_
         refine QSeq.pure rfl _ (fun E => ex_move rfl (E.d 0 0)) ?_
         refine QSeq.nil (t' := [_, _]) rfl ?_
         obtain rfl := HA0.out
         clear HA0 oe90
         simp only [pz, Act.put, List.setIfInBounds_toArray, List.set_cons_zero, List.set_cons_succ]
         go_wp2
         go_roundw
         case rel => exact ⟨k4 + 1, by go_num, by omega, by omega, (Hx63.out.widen (fun _ h => h) (by intro k h1; rcases h1 with h1 | h1 | h1 <;> first | omega | exact h1.elim | exact Or.inl h1 | exact Or.inr (Or.inl h1) | exact Or.inr (Or.inr (h1)))), ((HKP4_0.out.mod Cx60.out (fun _ _ h => h) (fun _ _ h => h)).mod Cx64.out (by intro k h1 h2; omega) (by intro k h1 h2; rcases h1 with h1 | h1 <;> first | omega | (have hb := HBT.out k h1; omega))), ((HKP4_1.out.mod Cx60.out (fun _ _ h => h) (fun _ _ h => h)).mod Cx64.out (by intro k h1 h2; omega) (by intro k h1 h2; rcases h1 with h1 | h1 <;> first | omega | (have hb := HBT.out k h1; omega))), ((HKP4_2.out.mod Cx60.out (fun _ _ h => h) (fun _ _ h => h)).mod Cx64.out (by intro k h1 h2; omega) (by intro k h1 h2; rcases h1 with h1 | h1 <;> first | omega | (have hb := HBT.out k h1; omega))), ((HKP4_3.out.mod Cx60.out (fun h => h)).mod Cx64.out (by intro h2; omega)), ((HKP4_4.out.mod Cx60.out (fun h => h)).mod Cx64.out (by intro h2; omega)), ((HKP4_5.out.mod Cx60.out (fun h => h)).mod Cx64.out (by intro h2; omega)), ((HML4.out.trans Cx60.out (fun _ _ h => h.elim)).trans Cx64.out (by intro k h1 h2; omega))⟩
         case measure => simp [intOf]; omega
        ·skip
         go_upto_region 24 with (fail)
         refine wp_region_U 120 [91] [0] (fun a0 HA0 => ?_)
         have oe89 := ev HA0 89 rfl
         have oe90 := ev HA0 90 rfl
         refine QSeq.pure rfl (.bool false) (fun E => ex_binE rfl (E.v oe90) (E.v oe89) (guard_ints _ _ _ _ _ _) (run_lss_i _ _ _ Try.underlying3) (congrArg Value.bool (decide_eq_false (by omega)))) ?_
         refine QSeq.nil (t' := [_]) rfl ?_
         obtain rfl := HA0.out
         clear HA0 oe89 oe90
         simp only [pz, Act.put, List.setIfInBounds_toArray, List.set_cons_zero, List.set_cons_succ]
         have hq := HAL4.out
         rw [upto_all (by omega)] at hq
         have HQ4 := Lib.hid hq
         clear hq
         have HEL3 := hid (show TbR.rd (fun k => (New u21_4 u22_2 k) ∨ (R2 k) ∨ (New u16_4 wl3 k) ∨ (New u22_4 wl4 k)) wl4 ((Tb.mk (upn y3.ix) y3.l).cells (.slice aod y3.l.length capd)) (nicTb y3) from ⟨_, rfl, upn_I _, RdS.widen (show RdS DnR _ _ _ (nicTb y3).l from HQ4.out.rd) (by intro k h1; (try dsimp only at h1 ⊢); rcases h1 with h1 | h1 <;> first | exact Or.inl h1 | exact Or.inr h1)⟩)
         clear HQ4
         go_upto_region 29 with (fail)
         refine wp_region_U 120 [113, 114, 115, 116, 117, 125] [0, 1, 2, 3, 4, 5] (fun a0 HA0 => ?_)
         have oe1 := ev HA0 1 rfl
         have oe6 := ev HA0 6 rfl
         have oe7 := ev HA0 7 rfl
         refine QSeq.pure rfl (.pointer (some ⟨w.heap.size, 4, none⟩)) (fun E => ex_field rfl Try.underlying60 rfl (by kernel_rfl) (E.v oe1)) ?_
         refine QSeq.pure rfl _ (fun E => ex_load1 rfl Try.underlying58 rfl (E.d 0 0) (Cs.lit1 HKP4_3.out rfl)) ?_
         refine QSeq.pure rfl _ (fun E => ex_move rfl (E.v oe6)) ?_
         refine QSeq.pure rfl _ (fun E => ex_loadA rfl Try.underlying90 rfl (off := 0) (cs := ((Tb.mk (upn y3.ix) y3.l).cells (.slice aod y3.l.length capd))) (by kernel_rfl) (E.v oe7) (Cs.whole HKP4_5.out)) ?_
         refine QSeq.pure rfl (.pointer (some ⟨g3, 0 + k3 * 2, none⟩)) (fun E => ex_idxS (i := k3) (s := 2) rfl Try.underlying58 (by kernel_rfl) (E.d 1 2) (E.d 2 1) (by omega)) ?_
         refine QSeq.go fun act E => ?_
         refine qc_putS (A := TbR) (off := 0 + k3 * 2) (cs := ((Tb.mk (upn y3.ix) y3.l).cells (.slice aod y3.l.length capd))) (z := (nicTb y3)) rfl (wanted_none rfl) rfl (HKP4_0.out.widen (E' := (fun k => (R2 k) ∨ (New u16_4 wl3 k) ∨ (New u21_4 u22_2 k) ∨ (New u22_4 wl4 k))) (fun _ h => h) (by intro k h1; rcases h1 with h1 | h1 <;> first | omega | exact h1.elim | exact Or.inl h1 | exact Or.inr (Or.inl h1) | exact Or.inr (Or.inr (Or.inl h1)) | exact Or.inr (Or.inr (Or.inr (h1))))) (by rw [upto_len]; exact hlt3) (Nat.zero_add _) HEL3.out (by intro k h1; (try dsimp only at h1 ⊢); rcases h1 with h1 | h1 | h1 | h1 <;> first | (have hb := HBT.out k h1; exact ⟨Or.inl h1, by omega⟩) | exact ⟨Or.inr (by omega), by omega⟩) (by intro k h1 h2; (try dsimp only at h1 h2); rcases h1 with h1 | h1 | h1 | h1 <;> first | omega | (have := HBT.out k h1; omega)) (by kernel_rfl) (E.d 4 0) (by rw [show act.eval (.tmp 116) = _ from (E.d 3 1)]; rfl) ?_
         intro u29_5 q0 hm
         have qacc3 := q0
         rw [upto_setE HY3.out] at qacc3
         clear q0
         have Hx65 := hid qacc3
         have zu29_5 := hm.size
         have Cx66 := hid (show Mod (fun k => (New wl2 u16_2 k)) wl4 u29_5 from hm)
         clear hm
         clear act E qacc3 HKP4_0
         refine QSeq.nil (t' := [_, _, _, _, _, _]) rfl ?_
         obtain rfl := HA0.out
         clear HA0 oe1 oe6 oe7
         simp only [pz, Act.put, List.setIfInBounds_toArray, List.set_cons_zero, List.set_cons_succ, List.set_nil]
         clear HKP4_5
         clear HEL3
         go_upto_region 30 with (fail)
         refine wp_region_U 120 [118, 71] [0, 1] (fun a0 HA0 => ?_)
         have oe71 := ev HA0 71 rfl
         refine QSeq.pure rfl (.int .i64 (((k3 : Nat) : Int) + 1)) (fun E => ex_binE rfl (E.y 1 oe71) rfl (guard_ints _ _ _ _ _ _) (run_add_i _ _ Try.underlying3) (congrArg (Value.int .i64) (IntWalk.i64_in _ (by have h9 := (show x.ts.length ≤ 1000 from HP.out.2.2.2.1); omega)))) ?_
         refine QSeq.pure rfl _ (fun E => ex_move rfl (E.d 0 0)) ?_
         refine QSeq.nil (t' := [_, _]) rfl ?_
         obtain rfl := HA0.out
         clear HA0 oe71
         simp only [pz, Act.put, List.setIfInBounds_toArray, List.set_cons_zero, List.set_cons_succ]
         go_wp2
         go_roundw
         case rel => exact ⟨k3 + 1, by go_num, by omega, by omega, (Hx65.out.widen (fun _ h => h) (by intro k h1; rcases h1 with h1 | h1 | h1 | h1 <;> first | omega | exact h1.elim | exact Or.inl h1 | exact Or.inr (h1))), (HKP4_1.out.mod Cx66.out (by intro k h1 h2; omega) (by intro k h1 h2; rcases h1 with h1 | h1 <;> first | omega | (have hb := HBT.out k h1; omega))), (HKP4_2.out.mod Cx66.out (by intro k h1 h2; omega) (by intro k h1 h2; rcases h1 with h1 | h1 <;> first | omega | (have hb := HBT.out k h1; omega))), (HKP4_3.out.mod Cx66.out (by intro h2; omega)), (HKP4_4.out.mod Cx66.out (by intro h2; omega)), (HML4.out.trans Cx66.out (by intro k h1 h2; omega))⟩
         case measure => simp [intOf]; omega
      ·skip
       go_upto_region 18 with (fail)
       refine wp_region_U 120 [72] [0] (fun a0 HA0 => ?_)
       have oe70 := ev HA0 70 rfl
       have oe71 := ev HA0 71 rfl
       refine QSeq.pure rfl (.bool false) (fun E => ex_binE rfl (E.v oe71) (E.v oe70) (guard_ints _ _ _ _ _ _) (run_lss_i _ _ _ Try.underlying3) (congrArg Value.bool (decide_eq_false (by omega)))) ?_
       refine QSeq.nil (t' := [_]) rfl ?_
       obtain rfl := HA0.out
       clear HA0 oe70 oe71
       simp only [pz, Act.put, List.setIfInBounds_toArray, List.set_cons_zero, List.set_cons_succ]
       have hq := HAL3.out
       rw [upto_all (by omega)] at hq
       have HQ3 := Lib.hid hq
       clear hq
       go_upto_region 31 with (fail)
       refine wp_region_U 120 [119, 121] [0, 1] (fun a0 HA0 => ?_)
       have oe1 := ev HA0 1 rfl
       have oe2 := ev HA0 2 rfl
       refine QSeq.pure rfl _ (fun E => ex_loadA rfl Try.underlying60 rfl (off := 0) (cs := [.int .i64 (upn x.ep), .int .u64 (x.tm : Nat), Value.slice ao2 (x.ps.length) cap2, Value.slice ao5 (x.os.length) cap5, .slice ao8 (x.ts.length) cap8]) (by kernel_rfl) (E.v oe1) (Cs.whole HKP3_2.out)) ?_
       refine QSeq.go fun act E => ?_
       refine qc_store rfl (wanted_none rfl) rfl HKP3_3.out (off := 0) (vs := [.int .i64 (upn x.ep), .int .u64 (x.tm : Nat), Value.slice ao2 (x.ps.length) cap2, Value.slice ao5 (x.os.length) cap5, Value.slice ao8 (x.ts.length) cap8]) (by kernel_rfl) (by intro u hu; simp at hu; rcases hu with rfl | rfl | rfl | rfl | rfl <;> rfl) (by show 0 + 5 ≤ 5; decide) (E.v oe2) (ec (E.d 0 0)) ?_
       intro u31_1 qc0 hm
       have qB2 := qc0.eqv (b := #[.int .i64 (upn x.ep), .int .u64 (x.tm : Nat), Value.slice ao2 (x.ps.length) cap2, Value.slice ao5 (x.os.length) cap5, Value.slice ao8 (x.ts.length) cap8]) rfl
       clear qc0
       have Hx67 := hid qB2
       have zu31_1 := hm.size
       have Cx68 := hid (show Mod (fun k => (k = w.heap.size + 1)) wl3 u31_1 from hm)
       clear hm
       clear act E qB2 HKP3_3
       refine QSeq.nil (t' := [_, _]) rfl ?_
       obtain rfl := HA0.out
       clear HA0 oe1 oe2
       simp only [pz, Act.put, List.setIfInBounds_toArray, List.set_cons_zero, List.set_cons_succ, List.set_nil]
       go_wp2
       refine bodyPost_ret (results_cellA rfl _ _ (w.heap.size + 1) ([.int .i64 (upn x.ep), .int .u64 (x.tm : Nat), Value.slice ao2 (x.ps.length) cap2, Value.slice ao5 (x.os.length) cap5, Value.slice ao8 (x.ts.length) cap8]) rfl (fun k u hu => by rw [Hx67.out.cell]; simpa using hu) Try.underlying60 rfl (by kernel_rfl)) rfl ⟨_, rfl, ⟨_, _, _, rfl, ⟨upn_I _, HOK.out.2⟩, ?_, ?_, ?_⟩, (HML3.out.trans Cx68.out (by intro k h1 h2; omega))⟩
       ·refine RdS.widen (show RdS PmR _ _ _ (nicBa x).ps from (HKP3_1.out.mod Cx68.out (by intro k h1 h2; omega) (by intro k h1 h2; rcases h1 with h1 | h1 <;> first | omega | (have hb := HBT.out k h1; omega))).rd) ?_
        intro k h
        (try dsimp only at h ⊢)
        rcases h with h | h | h
        ·right; omega
        ·exact Or.inl h
        ·right; omega
       ·refine RdS.widen (show RdS OpR _ _ _ (nicBa x).os from (HKP3_0.out.mod Cx68.out (by intro k h1 h2; omega) (by intro k h1 h2; rcases h1 with h1 | h1 <;> first | omega | (have hb := HBT.out k h1; omega))).rd) ?_
        intro k h
        (try dsimp only at h ⊢)
        rcases h with h | h | h
        ·right; omega
        ·exact Or.inl h
        ·right; omega
       ·refine RdS.widen (show RdS TbR _ _ _ (nicBa x).ts from (HQ3.out.mod Cx68.out (by intro k h1 h2; omega) (by intro k h1 h2; rcases h1 with h1 | h1 <;> first | omega | (have hb := HBT.out k h1; omega))).rd) ?_
        intro k h
        (try dsimp only at h ⊢)
        rcases h with h | h | h
        ·right; omega
        ·exact Or.inl h
        ·right; omega
end Go.Proofs.Ytknpapcfhnhheaa

/- Parts of messages, put as bytes. -/
namespace Go.Proofs.Ytknpapcfhnhheaa
open Go Go.RowKit Go.Gv

set_option maxHeartbeats 4000000 in
theorem PutDn_Q : Puts DnR 154 dnB := by
 intro R R2 g bs cs x w hW hB hx hB2 hD hl
 obtain ⟨rfl, hok⟩ := hx
 have HW := Lib.hid hW
 have HBR := Lib.hid hB
 have HBT := Lib.hid hB2
 have HDJ := Lib.hid hD
 have HOK := Lib.hid hok
 have HL := Lib.hid hl
 clear hW hB hB2 hD hl hok
 unfold dnB at HL
 go_enter Try.func154, Try.ntmps154
 go_upto_region 1 with (fail)
 obtain ⟨w1, hw1⟩ : ∃ zz, zz = (w.alloc (.cells (x.cells : List Value).toArray 34)) := ⟨_, rfl⟩
 change Code.wp _ _ _ _ (w.alloc (.cells (x.cells : List Value).toArray 34))
 rw [← hw1]
 have HB3 := hid (show Cs w1 (w.heap.size) (x.cells : List Value).toArray 34 by rw [hw1]; exact Cs.new _ _ _)
 have hm : Mod (fun _ => False) w w1 := by rw [hw1]; exact (Mod.refl _ _).alloc _
 have HM0 := hid (show Mod (fun k => (R k)) w w1 from hm.mono (fun _ _ h => h.elim))
 have hs1 : w1.heap.size = w.heap.size + 1 := by rw [hw1]; simp
 have Hx1 := hid (HW.out.mod hm (fun _ _ h => h))
 clear HW
 clear hw1 hm
 go_upto_region 1 with (fail)
 generalize ha0 : Act.mk _ _ = a0
 have oe0 : a0.eval (.tmp 0) = .pointer (some ⟨g, 0, none⟩) := by rw [← ha0]; rfl
 have oe3 : a0.eval (.tmp 3) = .pointer (some ⟨w.heap.size, 0, none⟩) := by rw [← ha0]; rfl
 have hsz0 : a0.tmps.size = 15 := by rw [← ha0]; rfl
 have HA0 := hid ha0
 clear ha0
 refine wp_region_Q1 15 hsz0 [4, 5, 6, 7, 8, 9, 10] (fun k => (R k)) (fun k j => (k = 0 ∧ ((R j))) ∨ (k = 1 ∧ ((R j)))) (by intro k j h; (try dsimp only at h ⊢); rcases h with ⟨-, h⟩ | ⟨-, h⟩; (exact h); (exact h)) [qi (.pointer (some ⟨g, 0, none⟩)), qi (.pointer (some ⟨w.heap.size, 0, none⟩)), qi (.int .i64 x.rp), qi (.pointer (some ⟨g, 0, none⟩)), qi (.pointer (some ⟨w.heap.size, 1, none⟩)), qi (.int .i64 x.ix), qi (.pointer (some ⟨g, 0, none⟩))] ⟨qi_stable, qi_stable, qi_stable, qi_stable, qi_stable, qi_stable, qi_stable, trivial⟩ [3, 6] ⟨?_, ?_, ?_, ?_, ?_, ?_, ?_, trivial⟩ ?_
 ·exact stq (fun E => ex_move rfl (E.v oe0))
 ·exact stq (fun E => ex_field rfl Try.underlying34 rfl (by kernel_rfl) (E.v oe3))
 ·exact stq (fun E => ex_load1 rfl Try.underlying3 rfl (E.d 1) (Cs.lit1 (HB3.out.mod E.m (by intro h2; rcases h2 with ⟨h0, h2⟩ | h2 <;> first | omega | (have hb := HBR.out _ h2; omega))) rfl))
 ·exact stepq_chain rfl
 ·exact stq (fun E => ex_field rfl Try.underlying34 rfl (by kernel_rfl) (E.v oe3))
 ·exact stq (fun E => ex_load1 rfl Try.underlying3 rfl (E.d 4) (Cs.lit1 (HB3.out.mod E.m (by intro h2; rcases h2 with ⟨h0, h2⟩ | h2 <;> first | omega | (have hb := HBR.out _ h2; omega))) rfl))
 ·exact stepq_chain rfl
 intro u1_0 hr
 have zu1_0 := hr.size
 have Cx2 := hid (hr.new (S := (fun k => (R k))))
 have Hx3 := hid (Hx1.out.mod hr (by intro k h1 h2; have hb := HBR.out k h1; omega))
 clear Hx1
 clear hr
 refine QChain.go fun Z act E => ?_
 refine qc_callF (args := #[.pointer (some ⟨g, 0, none⟩), .int .i64 x.rp]) rfl (wanted_none rfl) rfl Try.func64 (args2 (E.d 0) (E.d 2)) (WInt_Q Hx3.out HOK.out.rp (by have := HL.out; simp only [List.length_append] at this ⊢; omega)) ?_
 rintro e u1_1a ⟨rfl, qwr, hm⟩
 have zu1_1a := hm.size
 refine ⟨_, rfl, hm.mono (by intro k hk h; first | omega | exact Or.inl ⟨(by have hb := HBR.out k h; omega), Or.inl ⟨rfl, h⟩⟩), (fun _ => rfl), ?_⟩
 intro u1_1 hr
 have zu1_1 := hr.size
 have Hx4 := hid ((qwr.widen (R' := (fun k => (R k) ∨ (New u1_0 u1_1a k))) (fun _ h => h) (Nat.le_refl _)).mod hr (by intro k h1 h2; rcases h1 with h1 | h1 <;> first | omega | (have hb := HBR.out k h1; omega)))
 have Cx5 := hid (Cx2.out.goM hm hr (fun _ _ h => h))
 clear Cx2 hm hr Z act E qwr Hx3
 refine QChain.go fun Z act E => ?_
 refine qc_callF (args := #[.pointer (some ⟨g, 0, none⟩), .int .i64 x.ix]) rfl (wanted_none rfl) rfl Try.func64 (args2 (E.d 3) (E.d 5)) (WInt_Q Hx4.out HOK.out.ix (by have := HL.out; simp only [List.length_append] at this ⊢; omega)) ?_
 rintro e u1_2a ⟨rfl, qwr, hm⟩
 have zu1_2a := hm.size
 refine ⟨_, rfl, hm.mono (by intro k hk h; rcases h with h | h <;> first | omega | exact Or.inl ⟨(by have hb := HBR.out k h; omega), Or.inr (⟨rfl, h⟩)⟩), (fun _ => rfl), ?_⟩
 intro u1_2 hr
 have zu1_2 := hr.size
 have Hx6 := hid ((qwr.widen (R' := (fun k => (R k) ∨ (New u1_0 u1_1a k) ∨ (New u1_1 u1_2a k))) (by intro k h1; simp only [or_assoc] at h1 ⊢; exact h1) (Nat.le_refl _)).mod hr (by intro k h1 h2; rcases h1 with h1 | h1 | h1 <;> first | omega | (have hb := HBR.out k h1; omega)))
 have Cx7 := hid (Cx5.out.goM hm hr (by intro k h0 h2; rcases h2 with h2 | h2 <;> first | omega | exact h2))
 clear Cx5 hm hr Z act E qwr Hx4
 refine QChain.nil fun vs hl hzz hrows hne => ?_
 obtain ⟨Z, hYZ, hZb, hV⟩ := hzz
 have f0 := fvi hV hl 0
 have f3 := fvi hV hl 3
 have f6 := fvi hV hl 6
 rw [show vs = [gw vs 0, gw vs 1, gw vs 2, gw vs 3, gw vs 4, gw vs 5, gw vs 6] from (gw_eta hl).trans rfl]
 have ha0 := HA0.out
 subst ha0
 clear HA0 hV hYZ hZb hsz0 hrows hne oe0 oe3
 simp only [putAll, Act.put, List.setIfInBounds_toArray, List.set_cons_zero, List.set_cons_succ, f0, f3, f6]
 clear hl f0 f3 f6
 go_upto_region 2 with (fail)
 refine wp_region_U 15 [11, 12, 13, 14] [0, 1, 2, 3] (fun a0 HA0 => ?_)
 have oe0 := ev HA0 0 rfl
 have oe3 := ev HA0 3 rfl
 refine QSeq.pure rfl _ (fun E => ex_move rfl (E.v oe0)) ?_
 refine QSeq.pure rfl (.pointer (some ⟨w.heap.size, 2, none⟩)) (fun E => ex_field rfl Try.underlying34 rfl (by kernel_rfl) (E.v oe3)) ?_
 refine QSeq.pure rfl _ (fun E => ex_loadA rfl Try.underlying28 rfl (off := 2) (cs := [.int .i64 x.sb, .int .i64 x.mr]) (by kernel_rfl) (E.d 1 0) (Cs.litA (HB3.out.mod Cx7.out (by intro h2; first | omega | (have hb := HBR.out _ h2; omega))) rfl)) ?_
 refine QSeq.call rfl rfl Try.func142 (PutSig_Q Hx6.out (by intro k h1; rcases h1 with h1 | h1 | h1 <;> first | omega | (have hb := HBR.out k h1; omega)) HOK.out.sb HOK.out.mr (by have := HL.out; simp only [List.length_append] at this ⊢; omega)) (fun E => args2 (E.d 0 2) (E.d 2 0)) ?_
 rintro e u2_3 ⟨rfl, qwr, hm⟩
 refine ⟨_, rfl, ?_⟩
 have Hx8 := hid (qwr.widen (R' := (fun k => (R k) ∨ (New u1_0 u1_1a k) ∨ (New u1_1 u1_2a k) ∨ (New u1_2 u2_3 k))) (by intro k h1; simp only [or_assoc] at h1 ⊢; exact h1) (Nat.le_refl _))
 have zu2_3 := hm.size
 have Cx9 := hid (show Mod (fun k => (R k) ∨ (New u1_0 u1_1a k) ∨ (New u1_1 u1_2a k)) u1_2 u2_3 from hm)
 clear hm
 clear qwr Hx6
 refine QSeq.nil (t' := [_, _, _, _]) rfl ?_
 obtain rfl := HA0.out
 clear HA0 oe0 oe3
 simp only [pz, Act.put, List.setIfInBounds_toArray, List.set_cons_zero, List.set_cons_succ]
 go_wp2
 go_end0
 have hq := (Hx8.out.widen (R' := (fun k => R k ∨ New w u2_3 k)) (by intro k h1; rcases h1 with h1 | h1 | h1 | h1 <;> first | exact Or.inl h1 | (right; omega)) (Nat.le_refl _))
 simp only [List.append_assoc] at hq
 exact ⟨rfl, by simpa only [dnB, List.append_assoc] using hq, ((HM0.out.trans Cx7.out (fun _ _ h => h)).trans Cx9.out (by intro k h1 h2; rcases h2 with h2 | h2 | h2 <;> first | exact h2 | omega | (have hb := HBR.out k h2; omega)))⟩
set_option maxHeartbeats 4000000 in
theorem PutList_Dn : PutsL DnR 153 154 dnB := by
 intro R R2 g bs v l w hW hB hs hB2 hD hl
 obtain ⟨ao, cap, rfl⟩ := hs.shape
 have hb64 : l.length ≤ maxLen := hs.bd
 rw [maxLen_val] at hb64
 have HI64 := hid (show I64 (l.length : Int) by unfold I64; omega)
 have HW := Lib.hid hW
 have HS := Lib.hid hs
 have HBR := Lib.hid hB
 have HBT := Lib.hid hB2
 have HDJ := Lib.hid hD
 have HL := Lib.hid hl
 clear hW hB hs hB2 hD hl
 unfold listB at HL
 go_enter Try.func153, Try.ntmps153
 go_upto_region 0 with (fail)
 have HM0 := hid (Mod.refl (fun k => (R k)) w)
 go_upto_region 0 with (fail)
 refine wp_region_U 23 [8, 9, 10, 11] [0, 1, 2, 3] (fun a0 HA0 => ?_)
 have oe0 := ev HA0 0 rfl
 have oe1 := ev HA0 1 rfl
 refine QSeq.pure rfl _ (fun E => ex_move rfl (E.v oe0)) ?_
 refine QSeq.pure rfl _ (fun E => ex_move rfl (E.v oe1)) ?_
 refine QSeq.pure rfl (.int .i64 l.length) (fun E => ex_lenS rfl (E.d 1 0) Try.underlying88) ?_
 refine QSeq.call rfl rfl Try.func64 (WInt_Q HW.out HI64.out (by have := HL.out; simp only [List.length_append] at this ⊢; omega)) (fun E => args2 (E.d 0 2) (E.d 2 0)) ?_
 rintro e u0_3 ⟨rfl, qwr, hm⟩
 refine ⟨_, rfl, ?_⟩
 have Hx1 := hid (qwr.widen (R' := (fun k => (R k) ∨ (New w u0_3 k))) (fun _ h => h) (Nat.le_refl _))
 have zu0_3 := hm.size
 have Cx2 := hid (show Mod (fun k => (R k)) w u0_3 from hm)
 clear hm
 clear qwr HW
 refine QSeq.nil (t' := [_, _, _, _]) rfl ?_
 obtain rfl := HA0.out
 clear HA0 oe0 oe1
 simp only [pz, Act.put, List.setIfInBounds_toArray, List.set_cons_zero, List.set_cons_succ]
 go_wp2
 go_loopw [14] (fun t wr => ∃ k : Nat, t = .int .i64 (k : Int) ∧ k ≤ l.length ∧ u0_3.heap.size ≤ wr.heap.size ∧ WrR (fun b => R b ∨ (w.heap.size ≤ b ∧ b < wr.heap.size)) 900000 wr g (bs ++ (encI l.length ++ ((l.take k).map dnB).flatten)) ∧ RdS DnR R2 wr (.slice ao l.length cap) l ∧ Mod R w wr) (fun t _ => l.length - (intOf t).toNat)
 case atStart => exact ⟨0, rfl, Nat.zero_le _, Nat.le_refl _, by have hq := (Hx1.out.widen (R' := (fun k => R k ∨ (w.heap.size ≤ k ∧ k < u0_3.heap.size))) (by intro k h1; rcases h1 with h1 | h1 <;> first | exact Or.inl h1 | (right; omega)) (Nat.le_refl _)); simpa only [List.take_zero, List.map_nil, List.flatten_nil, List.append_nil] using hq, (HS.out.mod Cx2.out (by intro k h1 h2; first | omega | (have hb := HBT.out k h1; omega) | (have hb := HBR.out k h2; omega) | exact HDJ.out k h1 h2 | exact HDJ.out k h2 h1 | (have hb := HBT.out k h1; have hb2 := HBR.out k h2; omega))), (HM0.out.trans Cx2.out (fun _ _ h => h))⟩
 case round =>
  obtain ⟨k, rfl, hk, hz, hw, hs, hm⟩ := hrel
  have HW2 := Lib.hid hw
  have HS2 := Lib.hid hs
  have HM2 := Lib.hid hm
  clear hw hs hm Hx1 HS HM0
  obtain ⟨wo, rfl⟩ : ∃ x, x = wr := ⟨_, rfl⟩
  by_cases hlt : k < l.length
  ·skip
   obtain ⟨g0, o0, cs, rfl, hrg, hrd, hcs⟩ := HS2.out.at hlt
   have hcl : cs.length = 4 := DnR.len hrd
   have HCL := Lib.hid hcl
   have HAT := hid (show CellsAt R2 wo g0 (o0 + k * 4) cs from ⟨hrg, hcs⟩)
   have HRD := Lib.hid hrd
   have HOC := hid (DnR.one hrd)
   clear hcl hcs hrd hrg
   have HE : Hid (bs ++ (encI l.length ++ ((l.take k).map dnB).flatten) ++ dnB l[k] = bs ++ (encI l.length ++ ((l.take (k + 1)).map dnB).flatten)) := hid (by rw [List.take_succ_eq_append_getElem hlt, List.map_append, List.flatten_append]; simp [List.append_assoc])
   have HLk := hid (show (bs ++ (encI l.length ++ ((l.take k).map dnB).flatten) ++ dnB l[k]).length ≤ 900000 by rw [HE.out]; exact Nat.le_trans (put_len _ _ _ _ _) HL.out)
   go_upto_region 3 with (fail)
   refine wp_region_U 23 [16, 17, 7, 26] [0, 1, 2, 3] (fun a0 HA0 => ?_)
   have oe12 := ev HA0 12 rfl
   have oe14 := ev HA0 14 rfl
   refine QSeq.pure rfl (.pointer (some ⟨g0, o0 + k * 4, none⟩)) (fun E => ex_idxS (i := k) (s := 4) rfl Try.underlying88 (by kernel_rfl) (E.v oe12) (E.v oe14) (by omega)) ?_
   refine QSeq.pure rfl _ (fun E => ex_loadA rfl Try.underlying34 rfl (off := o0 + k * 4) (cs := cs) (by rw [HCL.out]; kernel_rfl) (E.d 0 0) (fun j u hu => (HAT.out).2 j u hu)) ?_
   refine QSeq.go fun act E => ?_
   refine qc_alloc rfl (wanted_none rfl) rfl (z := [.int .i64 0, .int .i64 0, .int .i64 0, .int .i64 0]) (by kernel_rfl) ?_
   intro u3_2 qq hm
   have zl3_2 := qq.lt
   have Hx3 := hid qq
   have zu3_2 := hm.size
   have Cx4 := hid (show Mod (fun _ => False) wo u3_2 from hm)
   clear hm
   clear act E qq
   refine QSeq.go fun act E => ?_
   have hlz : (cs).length = List.length ([.int .i64 0, .int .i64 0, .int .i64 0, .int .i64 0] : List Value) := (by rw [HCL.out]; rfl)
   refine qc_store rfl (wanted_none rfl) rfl Hx3.out (off := 0) (vs := cs) (by rw [hlz]; kernel_rfl) HOC.out (by rw [hlz]; exact Nat.le_of_eq (Nat.zero_add _)) (E.d 2 0) (ec (E.d 1 1)) ?_
   intro u3_3 qc0 hm
   have qq := qc0.eqv (b := (cs : List Value).toArray) (lay_whole #[.int .i64 0, .int .i64 0, .int .i64 0, .int .i64 0] _ (by rw [hlz]; rfl))
   clear qc0 hlz
   have Hx5 := hid qq
   have zu3_3 := hm.size
   have HMu3_3 := hid hm
   have Cx6 := hid (Mod.goS (S' := (fun _ => False)) Cx4.out hm (fun _ h => h) (by intro k h0 h2; omega))
   clear hm Cx4
   clear act E qq Hx3
   clear HMu3_3
   refine QSeq.nil (t' := [_, _, _, _]) rfl ?_
   obtain rfl := HA0.out
   clear HA0 oe12 oe14
   simp only [pz, Act.put, List.setIfInBounds_toArray, List.set_cons_zero, List.set_cons_succ, List.set_nil]
   go_upto_region 4 with (fail)
   refine wp_region_U 23 [18, 19, 20, 21] [0, 1, 2, 3] (fun a0 HA0 => ?_)
   have oe0 := ev HA0 0 rfl
   have oe2 := ev HA0 2 rfl
   have oe7 := ev HA0 7 rfl
   refine QSeq.pure rfl _ (fun E => ex_move rfl (E.v oe2)) ?_
   refine QSeq.pure rfl _ (fun E => ex_move rfl (E.v oe0)) ?_
   refine QSeq.pure rfl _ (fun E => ex_loadA rfl Try.underlying34 rfl (off := 0) (cs := cs) (by rw [HCL.out]; kernel_rfl) (E.v oe7) (Cs.whole Hx5.out)) ?_
   refine QSeq.go fun act E => ?_
   have ea19 : act.eval (.tmp 19) = .pointer (some ⟨g, 0, none⟩) := (E.d 1 1)
   have ea20 : act.eval (.tmp 20) = .agg cs.toArray := (E.d 2 0)
   refine qc_call (args := #[.pointer (some ⟨g, 0, none⟩), .agg cs.toArray]) rfl (wanted_none rfl) (by rw [ex_callV rfl (E.d 0 2) Try.func154 (by kernel_rfl) (by kernel_rfl)]; exact congrArg (fun z => Result.ok (Next.enter _ z) _) (by simp only [List.map_toArray, List.map_cons, List.map_nil, ea19, ea20]; try rfl)) (PutDn_Q _ _ _ _ _ _ _ (HW2.out.mod Cx6.out (fun _ _ h => h)) (by intro k h1; rcases h1 with h1 | h1 <;> first | omega | (have hb := HBR.out k h1; omega)) (HRD.out.mod Cx6.out (fun _ _ h => h)) (by intro k h1; have hb := HBT.out k h1; omega) (by intro k h1 h2; rcases h1 with h1 | h1 <;> first | omega | (have hb := HBR.out k h1; omega) | (have hb := HBT.out k h2; omega) | exact HDJ.out k h1 h2 | exact HDJ.out k h2 h1 | (have hb := HBR.out k h1; have hb2 := HBT.out k h2; omega)) HLk.out) ?_
   rintro e u4_3 ⟨rfl, qwr, hm⟩
   refine ⟨_, rfl, ?_⟩
   have Hx7 := hid (qwr.widen (R' := (fun k => (R k) ∨ (New w wo k) ∨ (New u3_3 u4_3 k))) (by intro k h1; simp only [or_assoc] at h1 ⊢; exact h1) (Nat.le_refl _))
   have zu4_3 := hm.size
   have Cx8 := hid (show Mod (fun k => (R k) ∨ (New w wo k)) u3_3 u4_3 from hm)
   clear hm
   clear act E qwr HW2 ea19 ea20
   refine QSeq.nil (t' := [_, _, _, _]) rfl ?_
   obtain rfl := HA0.out
   clear HA0 oe0 oe2 oe7
   simp only [pz, Act.put, List.setIfInBounds_toArray, List.set_cons_zero, List.set_cons_succ]
   have hq := Hx7.out
   rw [HE.out] at hq
   have HQ := Lib.hid hq
   clear hq
   go_wp2
   go_roundw
   case rel => exact ⟨k + 1, by go_num, by omega, by omega, (HQ.out.widen (by intro b h1; rcases h1 with h1 | h1 | h1 <;> first | exact Or.inl h1 | (right; omega)) (Nat.le_refl _)), ((HS2.out.mod Cx6.out (fun _ _ h => h)).mod Cx8.out (by intro k h1 h2; rcases h2 with h2 | h2 <;> first | omega | (have hb := HBT.out k h1; omega) | (have hb := HBR.out k h2; omega) | exact HDJ.out k h1 h2 | exact HDJ.out k h2 h1 | (have hb := HBT.out k h1; have hb2 := HBR.out k h2; omega))), ((HM2.out.trans Cx6.out (fun _ _ h => h.elim)).trans Cx8.out (by intro k h1 h2; rcases h2 with h2 | h2 <;> first | exact h2 | omega | (have hb := HBR.out k h2; omega)))⟩
   case measure => simp [intOf]; omega
  ·have hkk : k = l.length := by omega
   subst hkk
   go_wp2
   go_end0
   have hq := HW2.out
   rw [List.take_length] at hq
   exact ⟨rfl, hq, HM2.out⟩
set_option maxHeartbeats 4000000 in
theorem PutTb_Q : Puts TbR 134 tbB := by
 intro R R2 g bs cs x w hW hB hx hB2 hD hl
 obtain ⟨v_l, rfl, hok, hs0⟩ := hx
 have HS0 := Lib.hid hs0
 clear hs0
 have HW := Lib.hid hW
 have HBR := Lib.hid hB
 have HBT := Lib.hid hB2
 have HDJ := Lib.hid hD
 have HOK := Lib.hid hok
 have HL := Lib.hid hl
 clear hW hB hB2 hD hl hok
 unfold tbB at HL
 go_enter Try.func134, Try.ntmps134
 go_upto_region 1 with (fail)
 obtain ⟨w1, hw1⟩ : ∃ zz, zz = (w.alloc (.cells (x.cells v_l : List Value).toArray 90)) := ⟨_, rfl⟩
 change Code.wp _ _ _ _ (w.alloc (.cells (x.cells v_l : List Value).toArray 90))
 rw [← hw1]
 have HB3 := hid (show Cs w1 (w.heap.size) (x.cells v_l : List Value).toArray 90 by rw [hw1]; exact Cs.new _ _ _)
 have hm : Mod (fun _ => False) w w1 := by rw [hw1]; exact (Mod.refl _ _).alloc _
 have HM0 := hid (show Mod (fun k => (R k)) w w1 from hm.mono (fun _ _ h => h.elim))
 have hs1 : w1.heap.size = w.heap.size + 1 := by rw [hw1]; simp
 have Hx1 := hid (HW.out.mod hm (fun _ _ h => h))
 clear HW
 have Hx2 := hid (HS0.out.mod hm (fun _ _ h => h))
 clear HS0
 clear hw1 hm
 go_upto_region 1 with (fail)
 refine wp_region_U 12 [4, 5, 6, 7] [0, 1, 2, 3] (fun a0 HA0 => ?_)
 have oe0 := ev HA0 0 rfl
 have oe3 := ev HA0 3 rfl
 refine QSeq.pure rfl _ (fun E => ex_move rfl (E.v oe0)) ?_
 refine QSeq.pure rfl (.pointer (some ⟨w.heap.size, 0, none⟩)) (fun E => ex_field rfl Try.underlying90 rfl (by kernel_rfl) (E.v oe3)) ?_
 refine QSeq.pure rfl _ (fun E => ex_load1 rfl Try.underlying3 rfl (E.d 1 0) (Cs.lit1 HB3.out rfl)) ?_
 refine QSeq.call rfl rfl Try.func64 (WInt_Q Hx1.out HOK.out (by have := HL.out; simp only [List.length_append] at this ⊢; omega)) (fun E => args2 (E.d 0 2) (E.d 2 0)) ?_
 rintro e u1_3 ⟨rfl, qwr, hm⟩
 refine ⟨_, rfl, ?_⟩
 have Hx3 := hid (qwr.widen (R' := (fun k => (R k) ∨ (New w1 u1_3 k))) (fun _ h => h) (Nat.le_refl _))
 have zu1_3 := hm.size
 have Cx4 := hid (show Mod (fun k => (R k)) w1 u1_3 from hm)
 clear hm
 clear qwr Hx1
 refine QSeq.nil (t' := [_, _, _, _]) rfl ?_
 obtain rfl := HA0.out
 clear HA0 oe0 oe3
 simp only [pz, Act.put, List.setIfInBounds_toArray, List.set_cons_zero, List.set_cons_succ]
 go_upto_region 2 with (fail)
 refine wp_region_U 12 [8, 9, 10, 11] [0, 1, 2, 3] (fun a0 HA0 => ?_)
 have oe0 := ev HA0 0 rfl
 have oe3 := ev HA0 3 rfl
 refine QSeq.pure rfl _ (fun E => ex_move rfl (E.v oe0)) ?_
 refine QSeq.pure rfl (.pointer (some ⟨w.heap.size, 1, none⟩)) (fun E => ex_field rfl Try.underlying90 rfl (by kernel_rfl) (E.v oe3)) ?_
 refine QSeq.pure rfl _ (fun E => ex_load1 rfl Try.underlying88 rfl (E.d 1 0) (Cs.lit1 (HB3.out.mod Cx4.out (by intro h2; first | omega | (have hb := HBR.out _ h2; omega))) rfl)) ?_
 refine QSeq.call rfl rfl Try.func153 (PutList_Dn _ _ _ _ _ _ _ Hx3.out (by intro k h1; rcases h1 with h1 | h1 <;> first | omega | (have hb := HBR.out k h1; omega)) (Hx2.out.mod Cx4.out (by intro k h1 h2; first | omega | (have hb := HBT.out k h1; omega) | (have hb := HBR.out k h2; omega) | exact HDJ.out k h1 h2 | exact HDJ.out k h2 h1 | (have hb := HBT.out k h1; have hb2 := HBR.out k h2; omega))) (by intro k h1; have hb := HBT.out k h1; omega) (by intro k h1 h2; rcases h1 with h1 | h1 <;> first | omega | (have hb := HBR.out k h1; omega) | (have hb := HBT.out k h2; omega) | exact HDJ.out k h1 h2 | exact HDJ.out k h2 h1 | (have hb := HBR.out k h1; have hb2 := HBT.out k h2; omega)) (by have := HL.out; simp only [List.length_append] at this ⊢; omega)) (fun E => args3 (E.d 0 2) (E.d 2 0) rfl) ?_
 rintro e u2_3 ⟨rfl, qwr, hm⟩
 refine ⟨_, rfl, ?_⟩
 have Hx5 := hid (qwr.widen (R' := (fun k => (R k) ∨ (New w1 u1_3 k) ∨ (New u1_3 u2_3 k))) (by intro k h1; simp only [or_assoc] at h1 ⊢; exact h1) (Nat.le_refl _))
 have zu2_3 := hm.size
 have Cx6 := hid (show Mod (fun k => (R k) ∨ (New w1 u1_3 k)) u1_3 u2_3 from hm)
 clear hm
 clear qwr Hx3
 refine QSeq.nil (t' := [_, _, _, _]) rfl ?_
 obtain rfl := HA0.out
 clear HA0 oe0 oe3
 simp only [pz, Act.put, List.setIfInBounds_toArray, List.set_cons_zero, List.set_cons_succ]
 go_wp2
 go_end0
 have hq := (Hx5.out.widen (R' := (fun k => R k ∨ New w u2_3 k)) (by intro k h1; rcases h1 with h1 | h1 | h1 <;> first | exact Or.inl h1 | (right; omega)) (Nat.le_refl _))
 simp only [List.append_assoc] at hq
 exact ⟨rfl, by simpa only [tbB, List.append_assoc] using hq, ((HM0.out.trans Cx4.out (fun _ _ h => h)).trans Cx6.out (by intro k h1 h2; rcases h2 with h2 | h2 <;> first | exact h2 | omega | (have hb := HBR.out k h2; omega)))⟩
set_option maxHeartbeats 4000000 in
theorem PutList_Tb : PutsL TbR 133 134 tbB := by
 intro R R2 g bs v l w hW hB hs hB2 hD hl
 obtain ⟨ao, cap, rfl⟩ := hs.shape
 have hb64 : l.length ≤ maxLen := hs.bd
 rw [maxLen_val] at hb64
 have HI64 := hid (show I64 (l.length : Int) by unfold I64; omega)
 have HW := Lib.hid hW
 have HS := Lib.hid hs
 have HBR := Lib.hid hB
 have HBT := Lib.hid hB2
 have HDJ := Lib.hid hD
 have HL := Lib.hid hl
 clear hW hB hs hB2 hD hl
 unfold listB at HL
 go_enter Try.func133, Try.ntmps133
 go_upto_region 0 with (fail)
 have HM0 := hid (Mod.refl (fun k => (R k)) w)
 go_upto_region 0 with (fail)
 refine wp_region_U 23 [8, 9, 10, 11] [0, 1, 2, 3] (fun a0 HA0 => ?_)
 have oe0 := ev HA0 0 rfl
 have oe1 := ev HA0 1 rfl
 refine QSeq.pure rfl _ (fun E => ex_move rfl (E.v oe0)) ?_
 refine QSeq.pure rfl _ (fun E => ex_move rfl (E.v oe1)) ?_
 refine QSeq.pure rfl (.int .i64 l.length) (fun E => ex_lenS rfl (E.d 1 0) Try.underlying58) ?_
 refine QSeq.call rfl rfl Try.func64 (WInt_Q HW.out HI64.out (by have := HL.out; simp only [List.length_append] at this ⊢; omega)) (fun E => args2 (E.d 0 2) (E.d 2 0)) ?_
 rintro e u0_3 ⟨rfl, qwr, hm⟩
 refine ⟨_, rfl, ?_⟩
 have Hx1 := hid (qwr.widen (R' := (fun k => (R k) ∨ (New w u0_3 k))) (fun _ h => h) (Nat.le_refl _))
 have zu0_3 := hm.size
 have Cx2 := hid (show Mod (fun k => (R k)) w u0_3 from hm)
 clear hm
 clear qwr HW
 refine QSeq.nil (t' := [_, _, _, _]) rfl ?_
 obtain rfl := HA0.out
 clear HA0 oe0 oe1
 simp only [pz, Act.put, List.setIfInBounds_toArray, List.set_cons_zero, List.set_cons_succ]
 go_wp2
 go_loopw [14] (fun t wr => ∃ k : Nat, t = .int .i64 (k : Int) ∧ k ≤ l.length ∧ u0_3.heap.size ≤ wr.heap.size ∧ WrR (fun b => R b ∨ (w.heap.size ≤ b ∧ b < wr.heap.size)) 900000 wr g (bs ++ (encI l.length ++ ((l.take k).map tbB).flatten)) ∧ RdS TbR R2 wr (.slice ao l.length cap) l ∧ Mod R w wr) (fun t _ => l.length - (intOf t).toNat)
 case atStart => exact ⟨0, rfl, Nat.zero_le _, Nat.le_refl _, by have hq := (Hx1.out.widen (R' := (fun k => R k ∨ (w.heap.size ≤ k ∧ k < u0_3.heap.size))) (by intro k h1; rcases h1 with h1 | h1 <;> first | exact Or.inl h1 | (right; omega)) (Nat.le_refl _)); simpa only [List.take_zero, List.map_nil, List.flatten_nil, List.append_nil] using hq, (HS.out.mod Cx2.out (by intro k h1 h2; first | omega | (have hb := HBT.out k h1; omega) | (have hb := HBR.out k h2; omega) | exact HDJ.out k h1 h2 | exact HDJ.out k h2 h1 | (have hb := HBT.out k h1; have hb2 := HBR.out k h2; omega))), (HM0.out.trans Cx2.out (fun _ _ h => h))⟩
 case round =>
  obtain ⟨k, rfl, hk, hz, hw, hs, hm⟩ := hrel
  have HW2 := Lib.hid hw
  have HS2 := Lib.hid hs
  have HM2 := Lib.hid hm
  clear hw hs hm Hx1 HS HM0
  obtain ⟨wo, rfl⟩ : ∃ x, x = wr := ⟨_, rfl⟩
  by_cases hlt : k < l.length
  ·skip
   obtain ⟨g0, o0, cs, rfl, hrg, hrd, hcs⟩ := HS2.out.at hlt
   have hcl : cs.length = 2 := TbR.len hrd
   have HCL := Lib.hid hcl
   have HAT := hid (show CellsAt R2 wo g0 (o0 + k * 2) cs from ⟨hrg, hcs⟩)
   have HRD := Lib.hid hrd
   have HOC := hid (TbR.one hrd)
   clear hcl hcs hrd hrg
   have HE : Hid (bs ++ (encI l.length ++ ((l.take k).map tbB).flatten) ++ tbB l[k] = bs ++ (encI l.length ++ ((l.take (k + 1)).map tbB).flatten)) := hid (by rw [List.take_succ_eq_append_getElem hlt, List.map_append, List.flatten_append]; simp [List.append_assoc])
   have HLk := hid (show (bs ++ (encI l.length ++ ((l.take k).map tbB).flatten) ++ tbB l[k]).length ≤ 900000 by rw [HE.out]; exact Nat.le_trans (put_len _ _ _ _ _) HL.out)
   go_upto_region 3 with (fail)
   refine wp_region_U 23 [16, 17, 7, 26] [0, 1, 2, 3] (fun a0 HA0 => ?_)
   have oe12 := ev HA0 12 rfl
   have oe14 := ev HA0 14 rfl
   refine QSeq.pure rfl (.pointer (some ⟨g0, o0 + k * 2, none⟩)) (fun E => ex_idxS (i := k) (s := 2) rfl Try.underlying58 (by kernel_rfl) (E.v oe12) (E.v oe14) (by omega)) ?_
   refine QSeq.pure rfl _ (fun E => ex_loadA rfl Try.underlying90 rfl (off := o0 + k * 2) (cs := cs) (by rw [HCL.out]; kernel_rfl) (E.d 0 0) (fun j u hu => (HAT.out).2 j u hu)) ?_
   refine QSeq.go fun act E => ?_
   refine qc_alloc rfl (wanted_none rfl) rfl (z := [.int .i64 0, .slice none 0 0]) (by kernel_rfl) ?_
   intro u3_2 qq hm
   have zl3_2 := qq.lt
   have Hx3 := hid qq
   have zu3_2 := hm.size
   have Cx4 := hid (show Mod (fun _ => False) wo u3_2 from hm)
   clear hm
   clear act E qq
   refine QSeq.go fun act E => ?_
   have hlz : (cs).length = List.length ([.int .i64 0, .slice none 0 0] : List Value) := (by rw [HCL.out]; rfl)
   refine qc_store rfl (wanted_none rfl) rfl Hx3.out (off := 0) (vs := cs) (by rw [hlz]; kernel_rfl) HOC.out (by rw [hlz]; exact Nat.le_of_eq (Nat.zero_add _)) (E.d 2 0) (ec (E.d 1 1)) ?_
   intro u3_3 qc0 hm
   have qq := qc0.eqv (b := (cs : List Value).toArray) (lay_whole #[.int .i64 0, .slice none 0 0] _ (by rw [hlz]; rfl))
   clear qc0 hlz
   have Hx5 := hid qq
   have zu3_3 := hm.size
   have HMu3_3 := hid hm
   have Cx6 := hid (Mod.goS (S' := (fun _ => False)) Cx4.out hm (fun _ h => h) (by intro k h0 h2; omega))
   clear hm Cx4
   clear act E qq Hx3
   clear HMu3_3
   refine QSeq.nil (t' := [_, _, _, _]) rfl ?_
   obtain rfl := HA0.out
   clear HA0 oe12 oe14
   simp only [pz, Act.put, List.setIfInBounds_toArray, List.set_cons_zero, List.set_cons_succ, List.set_nil]
   go_upto_region 4 with (fail)
   refine wp_region_U 23 [18, 19, 20, 21] [0, 1, 2, 3] (fun a0 HA0 => ?_)
   have oe0 := ev HA0 0 rfl
   have oe2 := ev HA0 2 rfl
   have oe7 := ev HA0 7 rfl
   refine QSeq.pure rfl _ (fun E => ex_move rfl (E.v oe2)) ?_
   refine QSeq.pure rfl _ (fun E => ex_move rfl (E.v oe0)) ?_
   refine QSeq.pure rfl _ (fun E => ex_loadA rfl Try.underlying90 rfl (off := 0) (cs := cs) (by rw [HCL.out]; kernel_rfl) (E.v oe7) (Cs.whole Hx5.out)) ?_
   refine QSeq.go fun act E => ?_
   have ea19 : act.eval (.tmp 19) = .pointer (some ⟨g, 0, none⟩) := (E.d 1 1)
   have ea20 : act.eval (.tmp 20) = .agg cs.toArray := (E.d 2 0)
   refine qc_call (args := #[.pointer (some ⟨g, 0, none⟩), .agg cs.toArray]) rfl (wanted_none rfl) (by rw [ex_callV rfl (E.d 0 2) Try.func134 (by kernel_rfl) (by kernel_rfl)]; exact congrArg (fun z => Result.ok (Next.enter _ z) _) (by simp only [List.map_toArray, List.map_cons, List.map_nil, ea19, ea20]; try rfl)) (PutTb_Q _ _ _ _ _ _ _ (HW2.out.mod Cx6.out (fun _ _ h => h)) (by intro k h1; rcases h1 with h1 | h1 <;> first | omega | (have hb := HBR.out k h1; omega)) (HRD.out.mod Cx6.out (fun _ _ h => h)) (by intro k h1; have hb := HBT.out k h1; omega) (by intro k h1 h2; rcases h1 with h1 | h1 <;> first | omega | (have hb := HBR.out k h1; omega) | (have hb := HBT.out k h2; omega) | exact HDJ.out k h1 h2 | exact HDJ.out k h2 h1 | (have hb := HBR.out k h1; have hb2 := HBT.out k h2; omega)) HLk.out) ?_
   rintro e u4_3 ⟨rfl, qwr, hm⟩
   refine ⟨_, rfl, ?_⟩
   have Hx7 := hid (qwr.widen (R' := (fun k => (R k) ∨ (New w wo k) ∨ (New u3_3 u4_3 k))) (by intro k h1; simp only [or_assoc] at h1 ⊢; exact h1) (Nat.le_refl _))
   have zu4_3 := hm.size
   have Cx8 := hid (show Mod (fun k => (R k) ∨ (New w wo k)) u3_3 u4_3 from hm)
   clear hm
   clear act E qwr HW2 ea19 ea20
   refine QSeq.nil (t' := [_, _, _, _]) rfl ?_
   obtain rfl := HA0.out
   clear HA0 oe0 oe2 oe7
   simp only [pz, Act.put, List.setIfInBounds_toArray, List.set_cons_zero, List.set_cons_succ]
   have hq := Hx7.out
   rw [HE.out] at hq
   have HQ := Lib.hid hq
   clear hq
   go_wp2
   go_roundw
   case rel => exact ⟨k + 1, by go_num, by omega, by omega, (HQ.out.widen (by intro b h1; rcases h1 with h1 | h1 | h1 <;> first | exact Or.inl h1 | (right; omega)) (Nat.le_refl _)), ((HS2.out.mod Cx6.out (fun _ _ h => h)).mod Cx8.out (by intro k h1 h2; rcases h2 with h2 | h2 <;> first | omega | (have hb := HBT.out k h1; omega) | (have hb := HBR.out k h2; omega) | exact HDJ.out k h1 h2 | exact HDJ.out k h2 h1 | (have hb := HBT.out k h1; have hb2 := HBR.out k h2; omega))), ((HM2.out.trans Cx6.out (fun _ _ h => h.elim)).trans Cx8.out (by intro k h1 h2; rcases h2 with h2 | h2 <;> first | exact h2 | omega | (have hb := HBR.out k h2; omega)))⟩
   case measure => simp [intOf]; omega
  ·have hkk : k = l.length := by omega
   subst hkk
   go_wp2
   go_end0
   have hq := HW2.out
   rw [List.take_length] at hq
   exact ⟨rfl, hq, HM2.out⟩
set_option maxHeartbeats 4000000 in
theorem PutOp_Q : Puts OpR 132 opB := by
 intro R R2 g bs cs x w hW hB hx hB2 hD hl
 obtain ⟨v_pl, rfl, hok, hs0⟩ := hx
 have HS0 := Lib.hid hs0
 clear hs0
 have HW := Lib.hid hW
 have HBR := Lib.hid hB
 have HBT := Lib.hid hB2
 have HDJ := Lib.hid hD
 have HOK := Lib.hid hok
 have HL := Lib.hid hl
 clear hW hB hB2 hD hl hok
 unfold opB at HL
 go_enter Try.func132, Try.ntmps132
 go_upto_region 1 with (fail)
 obtain ⟨w1, hw1⟩ : ∃ zz, zz = (w.alloc (.cells (x.cells v_pl : List Value).toArray 87)) := ⟨_, rfl⟩
 change Code.wp _ _ _ _ (w.alloc (.cells (x.cells v_pl : List Value).toArray 87))
 rw [← hw1]
 have HB3 := hid (show Cs w1 (w.heap.size) (x.cells v_pl : List Value).toArray 87 by rw [hw1]; exact Cs.new _ _ _)
 have hm : Mod (fun _ => False) w w1 := by rw [hw1]; exact (Mod.refl _ _).alloc _
 have HM0 := hid (show Mod (fun k => (R k)) w w1 from hm.mono (fun _ _ h => h.elim))
 have hs1 : w1.heap.size = w.heap.size + 1 := by rw [hw1]; simp
 have Hx1 := hid (HW.out.mod hm (fun _ _ h => h))
 clear HW
 have Hx2 := hid (HS0.out.mod hm (fun _ _ h => h))
 clear HS0
 clear hw1 hm
 go_upto_region 1 with (fail)
 generalize ha0 : Act.mk _ _ = a0
 have oe0 : a0.eval (.tmp 0) = .pointer (some ⟨g, 0, none⟩) := by rw [← ha0]; rfl
 have oe3 : a0.eval (.tmp 3) = .pointer (some ⟨w.heap.size, 0, none⟩) := by rw [← ha0]; rfl
 have hsz0 : a0.tmps.size = 14 := by rw [← ha0]; rfl
 have HA0 := hid ha0
 clear ha0
 refine wp_region_Q1 14 hsz0 [4, 5, 6, 7, 8, 9, 10, 11, 12, 13] (fun k => (R k)) (fun k j => (k = 0 ∧ ((R j))) ∨ (k = 1 ∧ ((R j))) ∨ (k = 2 ∧ ((R j)))) (by intro k j h; (try dsimp only at h ⊢); rcases h with ⟨-, h⟩ | ⟨-, h⟩ | ⟨-, h⟩; (exact h); (exact h); (exact h)) [qi (.pointer (some ⟨g, 0, none⟩)), qi (.pointer (some ⟨w.heap.size, 0, none⟩)), qi (.int .i64 x.ix), qi (.pointer (some ⟨g, 0, none⟩)), qi (.pointer (some ⟨w.heap.size, 1, none⟩)), qi (v_pl), qi (.pointer (some ⟨g, 0, none⟩)), qi (.pointer (some ⟨w.heap.size, 2, none⟩)), qi (hv x.nc), qi (.pointer (some ⟨g, 0, none⟩))] ⟨qi_stable, qi_stable, qi_stable, qi_stable, qi_stable, qi_stable, qi_stable, qi_stable, qi_stable, qi_stable, trivial⟩ [3, 6, 9] ⟨?_, ?_, ?_, ?_, ?_, ?_, ?_, ?_, ?_, ?_, trivial⟩ ?_
 ·exact stq (fun E => ex_move rfl (E.v oe0))
 ·exact stq (fun E => ex_field rfl Try.underlying87 rfl (by kernel_rfl) (E.v oe3))
 ·exact stq (fun E => ex_load1 rfl Try.underlying3 rfl (E.d 1) (Cs.hd1 (HB3.out.mod E.m (by intro h2; rcases h2 with ⟨h0, h2⟩ | h2 <;> first | omega | (have hb := HBR.out _ h2; omega))) rfl))
 ·exact stepq_chain rfl
 ·exact stq (fun E => ex_field rfl Try.underlying87 rfl (by kernel_rfl) (E.v oe3))
 ·exact stq (fun E => ex_load1 rfl Try.underlying38 rfl (E.d 4) (Cs.hd1 (HB3.out.mod E.m (by intro h2; rcases h2 with ⟨h0, h2⟩ | h2 <;> first | omega | (have hb := HBR.out _ h2; omega))) rfl))
 ·exact stepq_chain rfl
 ·exact stq (fun E => ex_field rfl Try.underlying87 rfl (by kernel_rfl) (E.v oe3))
 ·exact stq (fun E => ex_loadA rfl Try.underlying25 rfl (off := 2) (cs := x.nc.map bv) (by rw [List.length_map, HOK.out.2.1]; exact size_hash) (E.d 7) (Cs.tlA (HB3.out.mod E.m (by intro h2; rcases h2 with ⟨h0, h2⟩ | h2 <;> first | omega | (have hb := HBR.out _ h2; omega))) rfl))
 ·exact stepq_chain rfl
 intro u1_0 hr
 have zu1_0 := hr.size
 have Cx3 := hid (hr.new (S := (fun k => (R k))))
 have Hx4 := hid (Hx1.out.mod hr (by intro k h1 h2; have hb := HBR.out k h1; omega))
 clear Hx1
 clear hr
 refine QChain.go fun Z act E => ?_
 refine qc_callF (args := #[.pointer (some ⟨g, 0, none⟩), .int .i64 x.ix]) rfl (wanted_none rfl) rfl Try.func64 (args2 (E.d 0) (E.d 2)) (WInt_Q Hx4.out HOK.out.1 (by have := HL.out; simp only [List.length_append] at this ⊢; omega)) ?_
 rintro e u1_1a ⟨rfl, qwr, hm⟩
 have zu1_1a := hm.size
 refine ⟨_, rfl, hm.mono (by intro k hk h; first | omega | exact Or.inl ⟨(by have hb := HBR.out k h; omega), Or.inl ⟨rfl, h⟩⟩), (fun _ => rfl), ?_⟩
 intro u1_1 hr
 have zu1_1 := hr.size
 have Hx5 := hid ((qwr.widen (R' := (fun k => (R k) ∨ (New u1_0 u1_1a k))) (fun _ h => h) (Nat.le_refl _)).mod hr (by intro k h1 h2; rcases h1 with h1 | h1 <;> first | omega | (have hb := HBR.out k h1; omega)))
 have Cx6 := hid (Cx3.out.goM hm hr (fun _ _ h => h))
 clear Cx3 hm hr Z act E qwr Hx4
 refine QChain.go fun Z act E => ?_
 refine qc_callF (args := #[.pointer (some ⟨g, 0, none⟩), v_pl]) rfl (wanted_none rfl) rfl Try.func107 (args2 (E.d 3) (E.d 5)) (WRow_Q Hx5.out (Hx2.out.mod Cx6.out (by intro k h1 h2; first | omega | (have hb := HBT.out k h1; omega) | (have hb := HBR.out k h2; omega) | exact HDJ.out k h1 h2 | exact HDJ.out k h2 h1 | (have hb := HBT.out k h1; have hb2 := HBR.out k h2; omega))) (by intro k h1 h2; rcases h2 with h2 | h2 <;> first | omega | (have hb := HBT.out k h1; omega) | (have hb := HBR.out k h2; omega) | exact HDJ.out k h1 h2 | exact HDJ.out k h2 h1 | (have hb := HBT.out k h1; have hb2 := HBR.out k h2; omega)) (by have := HL.out; simp only [List.length_append] at this ⊢; omega)) ?_
 rintro e u1_2a ⟨rfl, qwr, hm⟩
 have zu1_2a := hm.size
 refine ⟨_, rfl, hm.mono (by intro k hk h; rcases h with h | h <;> first | omega | exact Or.inl ⟨(by have hb := HBR.out k h; omega), Or.inr (Or.inl ⟨rfl, h⟩)⟩), (fun _ => rfl), ?_⟩
 intro u1_2 hr
 have zu1_2 := hr.size
 have Hx7 := hid ((qwr.widen (R' := (fun k => (R k) ∨ (New u1_0 u1_1a k) ∨ (New u1_1 u1_2a k))) (by intro k h1; simp only [or_assoc] at h1 ⊢; exact h1) (Nat.le_refl _)).mod hr (by intro k h1 h2; rcases h1 with h1 | h1 | h1 <;> first | omega | (have hb := HBR.out k h1; omega)))
 have Cx8 := hid (Cx6.out.goM hm hr (by intro k h0 h2; rcases h2 with h2 | h2 <;> first | omega | exact h2))
 clear Cx6 hm hr Z act E qwr Hx5
 refine QChain.go fun Z act E => ?_
 refine qc_callF (args := #[.pointer (some ⟨g, 0, none⟩), hv x.nc]) rfl (wanted_none rfl) rfl Try.func66 (args2 (E.d 6) (E.d 8)) (WHash_Q Hx7.out HOK.out.2 (by have := HL.out; simp only [List.length_append] at this ⊢; omega)) ?_
 rintro e u1_3a ⟨rfl, qwr, hm⟩
 have zu1_3a := hm.size
 refine ⟨_, rfl, hm.mono (by intro k hk h; rcases h with h | h | h <;> first | omega | exact Or.inl ⟨(by have hb := HBR.out k h; omega), Or.inr (Or.inr (⟨rfl, h⟩))⟩), (fun _ => rfl), ?_⟩
 intro u1_3 hr
 have zu1_3 := hr.size
 have Hx9 := hid ((qwr.widen (R' := (fun k => (R k) ∨ (New u1_0 u1_1a k) ∨ (New u1_1 u1_2a k) ∨ (New u1_2 u1_3a k))) (by intro k h1; simp only [or_assoc] at h1 ⊢; exact h1) (Nat.le_refl _)).mod hr (by intro k h1 h2; rcases h1 with h1 | h1 | h1 | h1 <;> first | omega | (have hb := HBR.out k h1; omega)))
 have Cx10 := hid (Cx8.out.goM hm hr (by intro k h0 h2; rcases h2 with h2 | h2 | h2 <;> first | omega | exact h2))
 clear Cx8 hm hr Z act E qwr Hx7
 refine QChain.nil fun vs hl hzz hrows hne => ?_
 obtain ⟨Z, hYZ, hZb, hV⟩ := hzz
 have f0 := fvi hV hl 0
 have f3 := fvi hV hl 3
 have f6 := fvi hV hl 6
 have f9 := fvi hV hl 9
 rw [show vs = [gw vs 0, gw vs 1, gw vs 2, gw vs 3, gw vs 4, gw vs 5, gw vs 6, gw vs 7, gw vs 8, gw vs 9] from (gw_eta hl).trans rfl]
 have ha0 := HA0.out
 subst ha0
 clear HA0 hV hYZ hZb hsz0 hrows hne oe0 oe3
 simp only [putAll, Act.put, List.setIfInBounds_toArray, List.set_cons_zero, List.set_cons_succ, f0, f3, f6, f9]
 clear hl f0 f3 f6 f9
 go_wp2
 go_end0
 have hq := (Hx9.out.widen (R' := (fun k => R k ∨ New w u1_3 k)) (by intro k h1; rcases h1 with h1 | h1 | h1 | h1 <;> first | exact Or.inl h1 | (right; omega)) (Nat.le_refl _))
 simp only [List.append_assoc] at hq
 exact ⟨rfl, by simpa only [opB, List.append_assoc] using hq, (HM0.out.trans Cx10.out (fun _ _ h => h))⟩
set_option maxHeartbeats 4000000 in
theorem PutList_Op : PutsL OpR 131 132 opB := by
 intro R R2 g bs v l w hW hB hs hB2 hD hl
 obtain ⟨ao, cap, rfl⟩ := hs.shape
 have hb64 : l.length ≤ maxLen := hs.bd
 rw [maxLen_val] at hb64
 have HI64 := hid (show I64 (l.length : Int) by unfold I64; omega)
 have HW := Lib.hid hW
 have HS := Lib.hid hs
 have HBR := Lib.hid hB
 have HBT := Lib.hid hB2
 have HDJ := Lib.hid hD
 have HL := Lib.hid hl
 clear hW hB hs hB2 hD hl
 unfold listB at HL
 go_enter Try.func131, Try.ntmps131
 go_upto_region 0 with (fail)
 have HM0 := hid (Mod.refl (fun k => (R k)) w)
 go_upto_region 0 with (fail)
 refine wp_region_U 23 [8, 9, 10, 11] [0, 1, 2, 3] (fun a0 HA0 => ?_)
 have oe0 := ev HA0 0 rfl
 have oe1 := ev HA0 1 rfl
 refine QSeq.pure rfl _ (fun E => ex_move rfl (E.v oe0)) ?_
 refine QSeq.pure rfl _ (fun E => ex_move rfl (E.v oe1)) ?_
 refine QSeq.pure rfl (.int .i64 l.length) (fun E => ex_lenS rfl (E.d 1 0) Try.underlying57) ?_
 refine QSeq.call rfl rfl Try.func64 (WInt_Q HW.out HI64.out (by have := HL.out; simp only [List.length_append] at this ⊢; omega)) (fun E => args2 (E.d 0 2) (E.d 2 0)) ?_
 rintro e u0_3 ⟨rfl, qwr, hm⟩
 refine ⟨_, rfl, ?_⟩
 have Hx1 := hid (qwr.widen (R' := (fun k => (R k) ∨ (New w u0_3 k))) (fun _ h => h) (Nat.le_refl _))
 have zu0_3 := hm.size
 have Cx2 := hid (show Mod (fun k => (R k)) w u0_3 from hm)
 clear hm
 clear qwr HW
 refine QSeq.nil (t' := [_, _, _, _]) rfl ?_
 obtain rfl := HA0.out
 clear HA0 oe0 oe1
 simp only [pz, Act.put, List.setIfInBounds_toArray, List.set_cons_zero, List.set_cons_succ]
 go_wp2
 go_loopw [14] (fun t wr => ∃ k : Nat, t = .int .i64 (k : Int) ∧ k ≤ l.length ∧ u0_3.heap.size ≤ wr.heap.size ∧ WrR (fun b => R b ∨ (w.heap.size ≤ b ∧ b < wr.heap.size)) 900000 wr g (bs ++ (encI l.length ++ ((l.take k).map opB).flatten)) ∧ RdS OpR R2 wr (.slice ao l.length cap) l ∧ Mod R w wr) (fun t _ => l.length - (intOf t).toNat)
 case atStart => exact ⟨0, rfl, Nat.zero_le _, Nat.le_refl _, by have hq := (Hx1.out.widen (R' := (fun k => R k ∨ (w.heap.size ≤ k ∧ k < u0_3.heap.size))) (by intro k h1; rcases h1 with h1 | h1 <;> first | exact Or.inl h1 | (right; omega)) (Nat.le_refl _)); simpa only [List.take_zero, List.map_nil, List.flatten_nil, List.append_nil] using hq, (HS.out.mod Cx2.out (by intro k h1 h2; first | omega | (have hb := HBT.out k h1; omega) | (have hb := HBR.out k h2; omega) | exact HDJ.out k h1 h2 | exact HDJ.out k h2 h1 | (have hb := HBT.out k h1; have hb2 := HBR.out k h2; omega))), (HM0.out.trans Cx2.out (fun _ _ h => h))⟩
 case round =>
  obtain ⟨k, rfl, hk, hz, hw, hs, hm⟩ := hrel
  have HW2 := Lib.hid hw
  have HS2 := Lib.hid hs
  have HM2 := Lib.hid hm
  clear hw hs hm Hx1 HS HM0
  obtain ⟨wo, rfl⟩ : ∃ x, x = wr := ⟨_, rfl⟩
  by_cases hlt : k < l.length
  ·skip
   obtain ⟨g0, o0, cs, rfl, hrg, hrd, hcs⟩ := HS2.out.at hlt
   have hcl : cs.length = 34 := OpR.len hrd
   have HCL := Lib.hid hcl
   have HAT := hid (show CellsAt R2 wo g0 (o0 + k * 34) cs from ⟨hrg, hcs⟩)
   have HRD := Lib.hid hrd
   have HOC := hid (OpR.one hrd)
   clear hcl hcs hrd hrg
   have HE : Hid (bs ++ (encI l.length ++ ((l.take k).map opB).flatten) ++ opB l[k] = bs ++ (encI l.length ++ ((l.take (k + 1)).map opB).flatten)) := hid (by rw [List.take_succ_eq_append_getElem hlt, List.map_append, List.flatten_append]; simp [List.append_assoc])
   have HLk := hid (show (bs ++ (encI l.length ++ ((l.take k).map opB).flatten) ++ opB l[k]).length ≤ 900000 by rw [HE.out]; exact Nat.le_trans (put_len _ _ _ _ _) HL.out)
   go_upto_region 3 with (fail)
   refine wp_region_U 23 [16, 17, 7, 26] [0, 1, 2, 3] (fun a0 HA0 => ?_)
   have oe12 := ev HA0 12 rfl
   have oe14 := ev HA0 14 rfl
   refine QSeq.pure rfl (.pointer (some ⟨g0, o0 + k * 34, none⟩)) (fun E => ex_idxS (i := k) (s := 34) rfl Try.underlying57 (by kernel_rfl) (E.v oe12) (E.v oe14) (by omega)) ?_
   refine QSeq.pure rfl _ (fun E => ex_loadA rfl Try.underlying87 rfl (off := o0 + k * 34) (cs := cs) (by rw [HCL.out]; kernel_rfl) (E.d 0 0) (fun j u hu => (HAT.out).2 j u hu)) ?_
   refine QSeq.go fun act E => ?_
   refine qc_alloc rfl (wanted_none rfl) rfl (z := [.int .i64 0, .slice none 0 0, .int .u8 0, .int .u8 0, .int .u8 0, .int .u8 0, .int .u8 0, .int .u8 0, .int .u8 0, .int .u8 0, .int .u8 0, .int .u8 0, .int .u8 0, .int .u8 0, .int .u8 0, .int .u8 0, .int .u8 0, .int .u8 0, .int .u8 0, .int .u8 0, .int .u8 0, .int .u8 0, .int .u8 0, .int .u8 0, .int .u8 0, .int .u8 0, .int .u8 0, .int .u8 0, .int .u8 0, .int .u8 0, .int .u8 0, .int .u8 0, .int .u8 0, .int .u8 0]) (by kernel_rfl) ?_
   intro u3_2 qq hm
   have zl3_2 := qq.lt
   have Hx3 := hid qq
   have zu3_2 := hm.size
   have Cx4 := hid (show Mod (fun _ => False) wo u3_2 from hm)
   clear hm
   clear act E qq
   refine QSeq.go fun act E => ?_
   have hlz : (cs).length = List.length ([.int .i64 0, .slice none 0 0, .int .u8 0, .int .u8 0, .int .u8 0, .int .u8 0, .int .u8 0, .int .u8 0, .int .u8 0, .int .u8 0, .int .u8 0, .int .u8 0, .int .u8 0, .int .u8 0, .int .u8 0, .int .u8 0, .int .u8 0, .int .u8 0, .int .u8 0, .int .u8 0, .int .u8 0, .int .u8 0, .int .u8 0, .int .u8 0, .int .u8 0, .int .u8 0, .int .u8 0, .int .u8 0, .int .u8 0, .int .u8 0, .int .u8 0, .int .u8 0, .int .u8 0, .int .u8 0] : List Value) := (by rw [HCL.out]; rfl)
   refine qc_store rfl (wanted_none rfl) rfl Hx3.out (off := 0) (vs := cs) (by rw [hlz]; kernel_rfl) HOC.out (by rw [hlz]; exact Nat.le_of_eq (Nat.zero_add _)) (E.d 2 0) (ec (E.d 1 1)) ?_
   intro u3_3 qc0 hm
   have qq := qc0.eqv (b := (cs : List Value).toArray) (lay_whole #[.int .i64 0, .slice none 0 0, .int .u8 0, .int .u8 0, .int .u8 0, .int .u8 0, .int .u8 0, .int .u8 0, .int .u8 0, .int .u8 0, .int .u8 0, .int .u8 0, .int .u8 0, .int .u8 0, .int .u8 0, .int .u8 0, .int .u8 0, .int .u8 0, .int .u8 0, .int .u8 0, .int .u8 0, .int .u8 0, .int .u8 0, .int .u8 0, .int .u8 0, .int .u8 0, .int .u8 0, .int .u8 0, .int .u8 0, .int .u8 0, .int .u8 0, .int .u8 0, .int .u8 0, .int .u8 0] _ (by rw [hlz]; rfl))
   clear qc0 hlz
   have Hx5 := hid qq
   have zu3_3 := hm.size
   have HMu3_3 := hid hm
   have Cx6 := hid (Mod.goS (S' := (fun _ => False)) Cx4.out hm (fun _ h => h) (by intro k h0 h2; omega))
   clear hm Cx4
   clear act E qq Hx3
   clear HMu3_3
   refine QSeq.nil (t' := [_, _, _, _]) rfl ?_
   obtain rfl := HA0.out
   clear HA0 oe12 oe14
   simp only [pz, Act.put, List.setIfInBounds_toArray, List.set_cons_zero, List.set_cons_succ, List.set_nil]
   go_upto_region 4 with (fail)
   refine wp_region_U 23 [18, 19, 20, 21] [0, 1, 2, 3] (fun a0 HA0 => ?_)
   have oe0 := ev HA0 0 rfl
   have oe2 := ev HA0 2 rfl
   have oe7 := ev HA0 7 rfl
   refine QSeq.pure rfl _ (fun E => ex_move rfl (E.v oe2)) ?_
   refine QSeq.pure rfl _ (fun E => ex_move rfl (E.v oe0)) ?_
   refine QSeq.pure rfl _ (fun E => ex_loadA rfl Try.underlying87 rfl (off := 0) (cs := cs) (by rw [HCL.out]; kernel_rfl) (E.v oe7) (Cs.whole Hx5.out)) ?_
   refine QSeq.go fun act E => ?_
   have ea19 : act.eval (.tmp 19) = .pointer (some ⟨g, 0, none⟩) := (E.d 1 1)
   have ea20 : act.eval (.tmp 20) = .agg cs.toArray := (E.d 2 0)
   refine qc_call (args := #[.pointer (some ⟨g, 0, none⟩), .agg cs.toArray]) rfl (wanted_none rfl) (by rw [ex_callV rfl (E.d 0 2) Try.func132 (by kernel_rfl) (by kernel_rfl)]; exact congrArg (fun z => Result.ok (Next.enter _ z) _) (by simp only [List.map_toArray, List.map_cons, List.map_nil, ea19, ea20]; try rfl)) (PutOp_Q _ _ _ _ _ _ _ (HW2.out.mod Cx6.out (fun _ _ h => h)) (by intro k h1; rcases h1 with h1 | h1 <;> first | omega | (have hb := HBR.out k h1; omega)) (HRD.out.mod Cx6.out (fun _ _ h => h)) (by intro k h1; have hb := HBT.out k h1; omega) (by intro k h1 h2; rcases h1 with h1 | h1 <;> first | omega | (have hb := HBR.out k h1; omega) | (have hb := HBT.out k h2; omega) | exact HDJ.out k h1 h2 | exact HDJ.out k h2 h1 | (have hb := HBR.out k h1; have hb2 := HBT.out k h2; omega)) HLk.out) ?_
   rintro e u4_3 ⟨rfl, qwr, hm⟩
   refine ⟨_, rfl, ?_⟩
   have Hx7 := hid (qwr.widen (R' := (fun k => (R k) ∨ (New w wo k) ∨ (New u3_3 u4_3 k))) (by intro k h1; simp only [or_assoc] at h1 ⊢; exact h1) (Nat.le_refl _))
   have zu4_3 := hm.size
   have Cx8 := hid (show Mod (fun k => (R k) ∨ (New w wo k)) u3_3 u4_3 from hm)
   clear hm
   clear act E qwr HW2 ea19 ea20
   refine QSeq.nil (t' := [_, _, _, _]) rfl ?_
   obtain rfl := HA0.out
   clear HA0 oe0 oe2 oe7
   simp only [pz, Act.put, List.setIfInBounds_toArray, List.set_cons_zero, List.set_cons_succ]
   have hq := Hx7.out
   rw [HE.out] at hq
   have HQ := Lib.hid hq
   clear hq
   go_wp2
   go_roundw
   case rel => exact ⟨k + 1, by go_num, by omega, by omega, (HQ.out.widen (by intro b h1; rcases h1 with h1 | h1 | h1 <;> first | exact Or.inl h1 | (right; omega)) (Nat.le_refl _)), ((HS2.out.mod Cx6.out (fun _ _ h => h)).mod Cx8.out (by intro k h1 h2; rcases h2 with h2 | h2 <;> first | omega | (have hb := HBT.out k h1; omega) | (have hb := HBR.out k h2; omega) | exact HDJ.out k h1 h2 | exact HDJ.out k h2 h1 | (have hb := HBT.out k h1; have hb2 := HBR.out k h2; omega))), ((HM2.out.trans Cx6.out (fun _ _ h => h.elim)).trans Cx8.out (by intro k h1 h2; rcases h2 with h2 | h2 <;> first | exact h2 | omega | (have hb := HBR.out k h2; omega)))⟩
   case measure => simp [intOf]; omega
  ·have hkk : k = l.length := by omega
   subst hkk
   go_wp2
   go_end0
   have hq := HW2.out
   rw [List.take_length] at hq
   exact ⟨rfl, hq, HM2.out⟩
set_option maxHeartbeats 4000000 in
theorem PutList_Ce : PutsL CeR 105 98 ceB := by
 intro R R2 g bs v l w hW hB hs hB2 hD hl
 obtain ⟨ao, cap, rfl⟩ := hs.shape
 have hb64 : l.length ≤ maxLen := hs.bd
 rw [maxLen_val] at hb64
 have HI64 := hid (show I64 (l.length : Int) by unfold I64; omega)
 have HW := Lib.hid hW
 have HS := Lib.hid hs
 have HBR := Lib.hid hB
 have HBT := Lib.hid hB2
 have HDJ := Lib.hid hD
 have HL := Lib.hid hl
 clear hW hB hs hB2 hD hl
 unfold listB at HL
 go_enter Try.func105, Try.ntmps105
 go_upto_region 0 with (fail)
 have HM0 := hid (Mod.refl (fun k => (R k)) w)
 go_upto_region 0 with (fail)
 refine wp_region_U 23 [8, 9, 10, 11] [0, 1, 2, 3] (fun a0 HA0 => ?_)
 have oe0 := ev HA0 0 rfl
 have oe1 := ev HA0 1 rfl
 refine QSeq.pure rfl _ (fun E => ex_move rfl (E.v oe0)) ?_
 refine QSeq.pure rfl _ (fun E => ex_move rfl (E.v oe1)) ?_
 refine QSeq.pure rfl (.int .i64 l.length) (fun E => ex_lenS rfl (E.d 1 0) Try.underlying53) ?_
 refine QSeq.call rfl rfl Try.func64 (WInt_Q HW.out HI64.out (by have := HL.out; simp only [List.length_append] at this ⊢; omega)) (fun E => args2 (E.d 0 2) (E.d 2 0)) ?_
 rintro e u0_3 ⟨rfl, qwr, hm⟩
 refine ⟨_, rfl, ?_⟩
 have Hx1 := hid (qwr.widen (R' := (fun k => (R k) ∨ (New w u0_3 k))) (fun _ h => h) (Nat.le_refl _))
 have zu0_3 := hm.size
 have Cx2 := hid (show Mod (fun k => (R k)) w u0_3 from hm)
 clear hm
 clear qwr HW
 refine QSeq.nil (t' := [_, _, _, _]) rfl ?_
 obtain rfl := HA0.out
 clear HA0 oe0 oe1
 simp only [pz, Act.put, List.setIfInBounds_toArray, List.set_cons_zero, List.set_cons_succ]
 go_wp2
 go_loopw [14] (fun t wr => ∃ k : Nat, t = .int .i64 (k : Int) ∧ k ≤ l.length ∧ u0_3.heap.size ≤ wr.heap.size ∧ WrR (fun b => R b ∨ (w.heap.size ≤ b ∧ b < wr.heap.size)) 900000 wr g (bs ++ (encI l.length ++ ((l.take k).map ceB).flatten)) ∧ RdS CeR R2 wr (.slice ao l.length cap) l ∧ Mod R w wr) (fun t _ => l.length - (intOf t).toNat)
 case atStart => exact ⟨0, rfl, Nat.zero_le _, Nat.le_refl _, by have hq := (Hx1.out.widen (R' := (fun k => R k ∨ (w.heap.size ≤ k ∧ k < u0_3.heap.size))) (by intro k h1; rcases h1 with h1 | h1 <;> first | exact Or.inl h1 | (right; omega)) (Nat.le_refl _)); simpa only [List.take_zero, List.map_nil, List.flatten_nil, List.append_nil] using hq, (HS.out.mod Cx2.out (by intro k h1 h2; first | omega | (have hb := HBT.out k h1; omega) | (have hb := HBR.out k h2; omega) | exact HDJ.out k h1 h2 | exact HDJ.out k h2 h1 | (have hb := HBT.out k h1; have hb2 := HBR.out k h2; omega))), (HM0.out.trans Cx2.out (fun _ _ h => h))⟩
 case round =>
  obtain ⟨k, rfl, hk, hz, hw, hs, hm⟩ := hrel
  have HW2 := Lib.hid hw
  have HS2 := Lib.hid hs
  have HM2 := Lib.hid hm
  clear hw hs hm Hx1 HS HM0
  obtain ⟨wo, rfl⟩ : ∃ x, x = wr := ⟨_, rfl⟩
  by_cases hlt : k < l.length
  ·skip
   obtain ⟨g0, o0, cs, rfl, hrg, hrd, hcs⟩ := HS2.out.at hlt
   have hcl : cs.length = 38 := CeR.len hrd
   have HCL := Lib.hid hcl
   have HAT := hid (show CellsAt R2 wo g0 (o0 + k * 38) cs from ⟨hrg, hcs⟩)
   have HRD := Lib.hid hrd
   have HOC := hid (CeR.one hrd)
   clear hcl hcs hrd hrg
   have HE : Hid (bs ++ (encI l.length ++ ((l.take k).map ceB).flatten) ++ ceB l[k] = bs ++ (encI l.length ++ ((l.take (k + 1)).map ceB).flatten)) := hid (by rw [List.take_succ_eq_append_getElem hlt, List.map_append, List.flatten_append]; simp [List.append_assoc])
   have HLk := hid (show (bs ++ (encI l.length ++ ((l.take k).map ceB).flatten) ++ ceB l[k]).length ≤ 900000 by rw [HE.out]; exact Nat.le_trans (put_len _ _ _ _ _) HL.out)
   go_upto_region 3 with (fail)
   refine wp_region_U 23 [16, 17, 7, 26] [0, 1, 2, 3] (fun a0 HA0 => ?_)
   have oe12 := ev HA0 12 rfl
   have oe14 := ev HA0 14 rfl
   refine QSeq.pure rfl (.pointer (some ⟨g0, o0 + k * 38, none⟩)) (fun E => ex_idxS (i := k) (s := 38) rfl Try.underlying53 (by kernel_rfl) (E.v oe12) (E.v oe14) (by omega)) ?_
   refine QSeq.pure rfl _ (fun E => ex_loadA rfl Try.underlying52 rfl (off := o0 + k * 38) (cs := cs) (by rw [HCL.out]; kernel_rfl) (E.d 0 0) (fun j u hu => (HAT.out).2 j u hu)) ?_
   refine QSeq.go fun act E => ?_
   refine qc_alloc rfl (wanted_none rfl) rfl (z := [.int .i64 0, .int .i64 0, .int .u8 0, .int .u8 0, .int .u8 0, .int .u8 0, .int .u8 0, .int .u8 0, .int .u8 0, .int .u8 0, .int .u8 0, .int .u8 0, .int .u8 0, .int .u8 0, .int .u8 0, .int .u8 0, .int .u8 0, .int .u8 0, .int .u8 0, .int .u8 0, .int .u8 0, .int .u8 0, .int .u8 0, .int .u8 0, .int .u8 0, .int .u8 0, .int .u8 0, .int .u8 0, .int .u8 0, .int .u8 0, .int .u8 0, .int .u8 0, .int .u8 0, .int .u8 0, .int .i64 0, .int .i64 0, .int .i64 0, .slice none 0 0]) (by kernel_rfl) ?_
   intro u3_2 qq hm
   have zl3_2 := qq.lt
   have Hx3 := hid qq
   have zu3_2 := hm.size
   have Cx4 := hid (show Mod (fun _ => False) wo u3_2 from hm)
   clear hm
   clear act E qq
   refine QSeq.go fun act E => ?_
   have hlz : (cs).length = List.length ([.int .i64 0, .int .i64 0, .int .u8 0, .int .u8 0, .int .u8 0, .int .u8 0, .int .u8 0, .int .u8 0, .int .u8 0, .int .u8 0, .int .u8 0, .int .u8 0, .int .u8 0, .int .u8 0, .int .u8 0, .int .u8 0, .int .u8 0, .int .u8 0, .int .u8 0, .int .u8 0, .int .u8 0, .int .u8 0, .int .u8 0, .int .u8 0, .int .u8 0, .int .u8 0, .int .u8 0, .int .u8 0, .int .u8 0, .int .u8 0, .int .u8 0, .int .u8 0, .int .u8 0, .int .u8 0, .int .i64 0, .int .i64 0, .int .i64 0, .slice none 0 0] : List Value) := (by rw [HCL.out]; rfl)
   refine qc_store rfl (wanted_none rfl) rfl Hx3.out (off := 0) (vs := cs) (by rw [hlz]; kernel_rfl) HOC.out (by rw [hlz]; exact Nat.le_of_eq (Nat.zero_add _)) (E.d 2 0) (ec (E.d 1 1)) ?_
   intro u3_3 qc0 hm
   have qq := qc0.eqv (b := (cs : List Value).toArray) (lay_whole #[.int .i64 0, .int .i64 0, .int .u8 0, .int .u8 0, .int .u8 0, .int .u8 0, .int .u8 0, .int .u8 0, .int .u8 0, .int .u8 0, .int .u8 0, .int .u8 0, .int .u8 0, .int .u8 0, .int .u8 0, .int .u8 0, .int .u8 0, .int .u8 0, .int .u8 0, .int .u8 0, .int .u8 0, .int .u8 0, .int .u8 0, .int .u8 0, .int .u8 0, .int .u8 0, .int .u8 0, .int .u8 0, .int .u8 0, .int .u8 0, .int .u8 0, .int .u8 0, .int .u8 0, .int .u8 0, .int .i64 0, .int .i64 0, .int .i64 0, .slice none 0 0] _ (by rw [hlz]; rfl))
   clear qc0 hlz
   have Hx5 := hid qq
   have zu3_3 := hm.size
   have HMu3_3 := hid hm
   have Cx6 := hid (Mod.goS (S' := (fun _ => False)) Cx4.out hm (fun _ h => h) (by intro k h0 h2; omega))
   clear hm Cx4
   clear act E qq Hx3
   clear HMu3_3
   refine QSeq.nil (t' := [_, _, _, _]) rfl ?_
   obtain rfl := HA0.out
   clear HA0 oe12 oe14
   simp only [pz, Act.put, List.setIfInBounds_toArray, List.set_cons_zero, List.set_cons_succ, List.set_nil]
   go_upto_region 4 with (fail)
   refine wp_region_U 23 [18, 19, 20, 21] [0, 1, 2, 3] (fun a0 HA0 => ?_)
   have oe0 := ev HA0 0 rfl
   have oe2 := ev HA0 2 rfl
   have oe7 := ev HA0 7 rfl
   refine QSeq.pure rfl _ (fun E => ex_move rfl (E.v oe2)) ?_
   refine QSeq.pure rfl _ (fun E => ex_move rfl (E.v oe0)) ?_
   refine QSeq.pure rfl _ (fun E => ex_loadA rfl Try.underlying52 rfl (off := 0) (cs := cs) (by rw [HCL.out]; kernel_rfl) (E.v oe7) (Cs.whole Hx5.out)) ?_
   refine QSeq.go fun act E => ?_
   have ea19 : act.eval (.tmp 19) = .pointer (some ⟨g, 0, none⟩) := (E.d 1 1)
   have ea20 : act.eval (.tmp 20) = .agg cs.toArray := (E.d 2 0)
   refine qc_call (args := #[.pointer (some ⟨g, 0, none⟩), .agg cs.toArray]) rfl (wanted_none rfl) (by rw [ex_callV rfl (E.d 0 2) Try.func98 (by kernel_rfl) (by kernel_rfl)]; exact congrArg (fun z => Result.ok (Next.enter _ z) _) (by simp only [List.map_toArray, List.map_cons, List.map_nil, ea19, ea20]; try rfl)) (PutCe_Q _ _ _ _ _ _ _ (HW2.out.mod Cx6.out (fun _ _ h => h)) (by intro k h1; rcases h1 with h1 | h1 <;> first | omega | (have hb := HBR.out k h1; omega)) (HRD.out.mod Cx6.out (fun _ _ h => h)) (by intro k h1; have hb := HBT.out k h1; omega) (by intro k h1 h2; rcases h1 with h1 | h1 <;> first | omega | (have hb := HBR.out k h1; omega) | (have hb := HBT.out k h2; omega) | exact HDJ.out k h1 h2 | exact HDJ.out k h2 h1 | (have hb := HBR.out k h1; have hb2 := HBT.out k h2; omega)) HLk.out) ?_
   rintro e u4_3 ⟨rfl, qwr, hm⟩
   refine ⟨_, rfl, ?_⟩
   have Hx7 := hid (qwr.widen (R' := (fun k => (R k) ∨ (New w wo k) ∨ (New u3_3 u4_3 k))) (by intro k h1; simp only [or_assoc] at h1 ⊢; exact h1) (Nat.le_refl _))
   have zu4_3 := hm.size
   have Cx8 := hid (show Mod (fun k => (R k) ∨ (New w wo k)) u3_3 u4_3 from hm)
   clear hm
   clear act E qwr HW2 ea19 ea20
   refine QSeq.nil (t' := [_, _, _, _]) rfl ?_
   obtain rfl := HA0.out
   clear HA0 oe0 oe2 oe7
   simp only [pz, Act.put, List.setIfInBounds_toArray, List.set_cons_zero, List.set_cons_succ]
   have hq := Hx7.out
   rw [HE.out] at hq
   have HQ := Lib.hid hq
   clear hq
   go_wp2
   go_roundw
   case rel => exact ⟨k + 1, by go_num, by omega, by omega, (HQ.out.widen (by intro b h1; rcases h1 with h1 | h1 | h1 <;> first | exact Or.inl h1 | (right; omega)) (Nat.le_refl _)), ((HS2.out.mod Cx6.out (fun _ _ h => h)).mod Cx8.out (by intro k h1 h2; rcases h2 with h2 | h2 <;> first | omega | (have hb := HBT.out k h1; omega) | (have hb := HBR.out k h2; omega) | exact HDJ.out k h1 h2 | exact HDJ.out k h2 h1 | (have hb := HBT.out k h1; have hb2 := HBR.out k h2; omega))), ((HM2.out.trans Cx6.out (fun _ _ h => h.elim)).trans Cx8.out (by intro k h1 h2; rcases h2 with h2 | h2 <;> first | exact h2 | omega | (have hb := HBR.out k h2; omega)))⟩
   case measure => simp [intOf]; omega
  ·have hkk : k = l.length := by omega
   subst hkk
   go_wp2
   go_end0
   have hq := HW2.out
   rw [List.take_length] at hq
   exact ⟨rfl, hq, HM2.out⟩
set_option maxHeartbeats 4000000 in
theorem PutPm_Q : Puts PmR 99 pmB := by
 intro R R2 g bs cs x w hW hB hx hB2 hD hl
 obtain ⟨v_l, rfl, hok, hs0⟩ := hx
 have HS0 := Lib.hid hs0
 clear hs0
 have HW := Lib.hid hW
 have HBR := Lib.hid hB
 have HBT := Lib.hid hB2
 have HDJ := Lib.hid hD
 have HOK := Lib.hid hok
 have HL := Lib.hid hl
 clear hW hB hB2 hD hl hok
 unfold pmB at HL
 go_enter Try.func99, Try.ntmps99
 go_upto_region 1 with (fail)
 obtain ⟨w1, hw1⟩ : ∃ zz, zz = (w.alloc (.cells (x.cells v_l : List Value).toArray 55)) := ⟨_, rfl⟩
 change Code.wp _ _ _ _ (w.alloc (.cells (x.cells v_l : List Value).toArray 55))
 rw [← hw1]
 have HB3 := hid (show Cs w1 (w.heap.size) (x.cells v_l : List Value).toArray 55 by rw [hw1]; exact Cs.new _ _ _)
 have hm : Mod (fun _ => False) w w1 := by rw [hw1]; exact (Mod.refl _ _).alloc _
 have HM0 := hid (show Mod (fun k => (R k)) w w1 from hm.mono (fun _ _ h => h.elim))
 have hs1 : w1.heap.size = w.heap.size + 1 := by rw [hw1]; simp
 have Hx1 := hid (HW.out.mod hm (fun _ _ h => h))
 clear HW
 have Hx2 := hid (HS0.out.mod hm (fun _ _ h => h))
 clear HS0
 clear hw1 hm
 go_upto_region 1 with (fail)
 generalize ha0 : Act.mk _ _ = a0
 have oe0 : a0.eval (.tmp 0) = .pointer (some ⟨g, 0, none⟩) := by rw [← ha0]; rfl
 have oe3 : a0.eval (.tmp 3) = .pointer (some ⟨w.heap.size, 0, none⟩) := by rw [← ha0]; rfl
 have hsz0 : a0.tmps.size = 22 := by rw [← ha0]; rfl
 have HA0 := hid ha0
 clear ha0
 refine wp_region_Q1 22 hsz0 [4, 5, 6, 7, 8, 9, 10, 11, 12, 13] (fun k => (R k)) (fun k j => (k = 0 ∧ ((R j))) ∨ (k = 1 ∧ ((R j))) ∨ (k = 2 ∧ ((R j)))) (by intro k j h; (try dsimp only at h ⊢); rcases h with ⟨-, h⟩ | ⟨-, h⟩ | ⟨-, h⟩; (exact h); (exact h); (exact h)) [qi (.pointer (some ⟨g, 0, none⟩)), qi (.pointer (some ⟨w.heap.size, 0, none⟩)), qi (.int .i64 x.rp), qi (.pointer (some ⟨g, 0, none⟩)), qi (.pointer (some ⟨w.heap.size, 1, none⟩)), qi (.int .i64 x.ep), qi (.pointer (some ⟨g, 0, none⟩)), qi (.pointer (some ⟨w.heap.size, 2, none⟩)), qi (.int .u64 (x.fl : Nat)), qi (.pointer (some ⟨g, 0, none⟩))] ⟨qi_stable, qi_stable, qi_stable, qi_stable, qi_stable, qi_stable, qi_stable, qi_stable, qi_stable, qi_stable, trivial⟩ [3, 6, 9] ⟨?_, ?_, ?_, ?_, ?_, ?_, ?_, ?_, ?_, ?_, trivial⟩ ?_
 ·exact stq (fun E => ex_move rfl (E.v oe0))
 ·exact stq (fun E => ex_field rfl Try.underlying55 rfl (by kernel_rfl) (E.v oe3))
 ·exact stq (fun E => ex_load1 rfl Try.underlying3 rfl (E.d 1) (Cs.lit1 (HB3.out.mod E.m (by intro h2; rcases h2 with ⟨h0, h2⟩ | h2 <;> first | omega | (have hb := HBR.out _ h2; omega))) rfl))
 ·exact stepq_chain rfl
 ·exact stq (fun E => ex_field rfl Try.underlying55 rfl (by kernel_rfl) (E.v oe3))
 ·exact stq (fun E => ex_load1 rfl Try.underlying3 rfl (E.d 4) (Cs.lit1 (HB3.out.mod E.m (by intro h2; rcases h2 with ⟨h0, h2⟩ | h2 <;> first | omega | (have hb := HBR.out _ h2; omega))) rfl))
 ·exact stepq_chain rfl
 ·exact stq (fun E => ex_field rfl Try.underlying55 rfl (by kernel_rfl) (E.v oe3))
 ·exact stq (fun E => ex_load1 rfl Try.underlying26 rfl (E.d 7) (Cs.lit1 (HB3.out.mod E.m (by intro h2; rcases h2 with ⟨h0, h2⟩ | h2 <;> first | omega | (have hb := HBR.out _ h2; omega))) rfl))
 ·exact stepq_chain rfl
 intro u1_0 hr
 have zu1_0 := hr.size
 have Cx3 := hid (hr.new (S := (fun k => (R k))))
 have Hx4 := hid (Hx1.out.mod hr (by intro k h1 h2; have hb := HBR.out k h1; omega))
 clear Hx1
 clear hr
 refine QChain.go fun Z act E => ?_
 refine qc_callF (args := #[.pointer (some ⟨g, 0, none⟩), .int .i64 x.rp]) rfl (wanted_none rfl) rfl Try.func64 (args2 (E.d 0) (E.d 2)) (WInt_Q Hx4.out HOK.out.1 (by have := HL.out; simp only [List.length_append] at this ⊢; omega)) ?_
 rintro e u1_1a ⟨rfl, qwr, hm⟩
 have zu1_1a := hm.size
 refine ⟨_, rfl, hm.mono (by intro k hk h; first | omega | exact Or.inl ⟨(by have hb := HBR.out k h; omega), Or.inl ⟨rfl, h⟩⟩), (fun _ => rfl), ?_⟩
 intro u1_1 hr
 have zu1_1 := hr.size
 have Hx5 := hid ((qwr.widen (R' := (fun k => (R k) ∨ (New u1_0 u1_1a k))) (fun _ h => h) (Nat.le_refl _)).mod hr (by intro k h1 h2; rcases h1 with h1 | h1 <;> first | omega | (have hb := HBR.out k h1; omega)))
 have Cx6 := hid (Cx3.out.goM hm hr (fun _ _ h => h))
 clear Cx3 hm hr Z act E qwr Hx4
 refine QChain.go fun Z act E => ?_
 refine qc_callF (args := #[.pointer (some ⟨g, 0, none⟩), .int .i64 x.ep]) rfl (wanted_none rfl) rfl Try.func64 (args2 (E.d 3) (E.d 5)) (WInt_Q Hx5.out HOK.out.2.1 (by have := HL.out; simp only [List.length_append] at this ⊢; omega)) ?_
 rintro e u1_2a ⟨rfl, qwr, hm⟩
 have zu1_2a := hm.size
 refine ⟨_, rfl, hm.mono (by intro k hk h; rcases h with h | h <;> first | omega | exact Or.inl ⟨(by have hb := HBR.out k h; omega), Or.inr (Or.inl ⟨rfl, h⟩)⟩), (fun _ => rfl), ?_⟩
 intro u1_2 hr
 have zu1_2 := hr.size
 have Hx7 := hid ((qwr.widen (R' := (fun k => (R k) ∨ (New u1_0 u1_1a k) ∨ (New u1_1 u1_2a k))) (by intro k h1; simp only [or_assoc] at h1 ⊢; exact h1) (Nat.le_refl _)).mod hr (by intro k h1 h2; rcases h1 with h1 | h1 | h1 <;> first | omega | (have hb := HBR.out k h1; omega)))
 have Cx8 := hid (Cx6.out.goM hm hr (by intro k h0 h2; rcases h2 with h2 | h2 <;> first | omega | exact h2))
 clear Cx6 hm hr Z act E qwr Hx5
 refine QChain.go fun Z act E => ?_
 refine qc_callF (args := #[.pointer (some ⟨g, 0, none⟩), .int .u64 (x.fl : Nat)]) rfl (wanted_none rfl) rfl Try.func67 (args2 (E.d 6) (E.d 8)) (WNum_Q Hx7.out HOK.out.2.2.1 (by have := HL.out; simp only [List.length_append] at this ⊢; omega)) ?_
 rintro e u1_3a ⟨rfl, qwr, hm⟩
 have zu1_3a := hm.size
 refine ⟨_, rfl, hm.mono (by intro k hk h; rcases h with h | h | h <;> first | omega | exact Or.inl ⟨(by have hb := HBR.out k h; omega), Or.inr (Or.inr (⟨rfl, h⟩))⟩), (fun _ => rfl), ?_⟩
 intro u1_3 hr
 have zu1_3 := hr.size
 have Hx9 := hid ((qwr.widen (R' := (fun k => (R k) ∨ (New u1_0 u1_1a k) ∨ (New u1_1 u1_2a k) ∨ (New u1_2 u1_3a k))) (by intro k h1; simp only [or_assoc] at h1 ⊢; exact h1) (Nat.le_refl _)).mod hr (by intro k h1 h2; rcases h1 with h1 | h1 | h1 | h1 <;> first | omega | (have hb := HBR.out k h1; omega)))
 have Cx10 := hid (Cx8.out.goM hm hr (by intro k h0 h2; rcases h2 with h2 | h2 | h2 <;> first | omega | exact h2))
 clear Cx8 hm hr Z act E qwr Hx7
 refine QChain.nil fun vs hl hzz hrows hne => ?_
 obtain ⟨Z, hYZ, hZb, hV⟩ := hzz
 have f0 := fvi hV hl 0
 have f3 := fvi hV hl 3
 have f6 := fvi hV hl 6
 have f9 := fvi hV hl 9
 rw [show vs = [gw vs 0, gw vs 1, gw vs 2, gw vs 3, gw vs 4, gw vs 5, gw vs 6, gw vs 7, gw vs 8, gw vs 9] from (gw_eta hl).trans rfl]
 have ha0 := HA0.out
 subst ha0
 clear HA0 hV hYZ hZb hsz0 hrows hne oe0 oe3
 simp only [putAll, Act.put, List.setIfInBounds_toArray, List.set_cons_zero, List.set_cons_succ, f0, f3, f6, f9]
 clear hl f0 f3 f6 f9
 go_upto_region 2 with (fail)
 refine wp_region_U 22 [14, 15, 16, 17] [0, 1, 2, 3] (fun a0 HA0 => ?_)
 have oe0 := ev HA0 0 rfl
 have oe3 := ev HA0 3 rfl
 refine QSeq.pure rfl _ (fun E => ex_move rfl (E.v oe0)) ?_
 refine QSeq.pure rfl (.pointer (some ⟨w.heap.size, 3, none⟩)) (fun E => ex_field rfl Try.underlying55 rfl (by kernel_rfl) (E.v oe3)) ?_
 refine QSeq.pure rfl _ (fun E => ex_load1 rfl Try.underlying53 rfl (E.d 1 0) (Cs.lit1 (HB3.out.mod Cx10.out (by intro h2; first | omega | (have hb := HBR.out _ h2; omega))) rfl)) ?_
 refine QSeq.call rfl rfl Try.func105 (PutList_Ce _ _ _ _ _ _ _ Hx9.out (by intro k h1; rcases h1 with h1 | h1 | h1 | h1 <;> first | omega | (have hb := HBR.out k h1; omega)) (Hx2.out.mod Cx10.out (by intro k h1 h2; first | omega | (have hb := HBT.out k h1; omega) | (have hb := HBR.out k h2; omega) | exact HDJ.out k h1 h2 | exact HDJ.out k h2 h1 | (have hb := HBT.out k h1; have hb2 := HBR.out k h2; omega))) (by intro k h1; have hb := HBT.out k h1; omega) (by intro k h1 h2; rcases h1 with h1 | h1 | h1 | h1 <;> first | omega | (have hb := HBR.out k h1; omega) | (have hb := HBT.out k h2; omega) | exact HDJ.out k h1 h2 | exact HDJ.out k h2 h1 | (have hb := HBR.out k h1; have hb2 := HBT.out k h2; omega)) (by have := HL.out; simp only [List.length_append] at this ⊢; omega)) (fun E => args3 (E.d 0 2) (E.d 2 0) rfl) ?_
 rintro e u2_3 ⟨rfl, qwr, hm⟩
 refine ⟨_, rfl, ?_⟩
 have Hx11 := hid (qwr.widen (R' := (fun k => (R k) ∨ (New u1_0 u1_1a k) ∨ (New u1_1 u1_2a k) ∨ (New u1_2 u1_3a k) ∨ (New u1_3 u2_3 k))) (by intro k h1; simp only [or_assoc] at h1 ⊢; exact h1) (Nat.le_refl _))
 have zu2_3 := hm.size
 have Cx12 := hid (show Mod (fun k => (R k) ∨ (New u1_0 u1_1a k) ∨ (New u1_1 u1_2a k) ∨ (New u1_2 u1_3a k)) u1_3 u2_3 from hm)
 clear hm
 clear qwr Hx9
 refine QSeq.nil (t' := [_, _, _, _]) rfl ?_
 obtain rfl := HA0.out
 clear HA0 oe0 oe3
 simp only [pz, Act.put, List.setIfInBounds_toArray, List.set_cons_zero, List.set_cons_succ]
 go_upto_region 3 with (fail)
 refine wp_region_U 22 [18, 19, 20, 21] [0, 1, 2, 3] (fun a0 HA0 => ?_)
 have oe0 := ev HA0 0 rfl
 have oe3 := ev HA0 3 rfl
 refine QSeq.pure rfl _ (fun E => ex_move rfl (E.v oe0)) ?_
 refine QSeq.pure rfl (.pointer (some ⟨w.heap.size, 4, none⟩)) (fun E => ex_field rfl Try.underlying55 rfl (by kernel_rfl) (E.v oe3)) ?_
 refine QSeq.pure rfl _ (fun E => ex_loadA rfl Try.underlying28 rfl (off := 4) (cs := [.int .i64 x.sb, .int .i64 x.mr]) (by kernel_rfl) (E.d 1 0) (Cs.litA ((HB3.out.mod Cx10.out (by intro h2; first | omega | (have hb := HBR.out _ h2; omega))).mod Cx12.out (by intro h2; rcases h2 with h2 | h2 | h2 | h2 <;> first | omega | (have hb := HBR.out _ h2; omega))) rfl)) ?_
 refine QSeq.call rfl rfl Try.func142 (PutSig_Q Hx11.out (by intro k h1; rcases h1 with h1 | h1 | h1 | h1 | h1 <;> first | omega | (have hb := HBR.out k h1; omega)) HOK.out.2.2.2.1 HOK.out.2.2.2.2 (by have := HL.out; simp only [List.length_append] at this ⊢; omega)) (fun E => args2 (E.d 0 2) (E.d 2 0)) ?_
 rintro e u3_3 ⟨rfl, qwr, hm⟩
 refine ⟨_, rfl, ?_⟩
 have Hx13 := hid (qwr.widen (R' := (fun k => (R k) ∨ (New u1_0 u1_1a k) ∨ (New u1_1 u1_2a k) ∨ (New u1_2 u1_3a k) ∨ (New u1_3 u2_3 k) ∨ (New u2_3 u3_3 k))) (by intro k h1; simp only [or_assoc] at h1 ⊢; exact h1) (Nat.le_refl _))
 have zu3_3 := hm.size
 have Cx14 := hid (show Mod (fun k => (R k) ∨ (New u1_0 u1_1a k) ∨ (New u1_1 u1_2a k) ∨ (New u1_2 u1_3a k) ∨ (New u1_3 u2_3 k)) u2_3 u3_3 from hm)
 clear hm
 clear qwr Hx11
 refine QSeq.nil (t' := [_, _, _, _]) rfl ?_
 obtain rfl := HA0.out
 clear HA0 oe0 oe3
 simp only [pz, Act.put, List.setIfInBounds_toArray, List.set_cons_zero, List.set_cons_succ]
 go_wp2
 go_end0
 have hq := (Hx13.out.widen (R' := (fun k => R k ∨ New w u3_3 k)) (by intro k h1; rcases h1 with h1 | h1 | h1 | h1 | h1 | h1 <;> first | exact Or.inl h1 | (right; omega)) (Nat.le_refl _))
 simp only [List.append_assoc] at hq
 exact ⟨rfl, by simpa only [pmB, List.append_assoc] using hq, (((HM0.out.trans Cx10.out (fun _ _ h => h)).trans Cx12.out (by intro k h1 h2; rcases h2 with h2 | h2 | h2 | h2 <;> first | exact h2 | omega | (have hb := HBR.out k h2; omega))).trans Cx14.out (by intro k h1 h2; rcases h2 with h2 | h2 | h2 | h2 | h2 <;> first | exact h2 | omega | (have hb := HBR.out k h2; omega)))⟩
set_option maxHeartbeats 4000000 in
theorem PutList_Pm : PutsL PmR 130 99 pmB := by
 intro R R2 g bs v l w hW hB hs hB2 hD hl
 obtain ⟨ao, cap, rfl⟩ := hs.shape
 have hb64 : l.length ≤ maxLen := hs.bd
 rw [maxLen_val] at hb64
 have HI64 := hid (show I64 (l.length : Int) by unfold I64; omega)
 have HW := Lib.hid hW
 have HS := Lib.hid hs
 have HBR := Lib.hid hB
 have HBT := Lib.hid hB2
 have HDJ := Lib.hid hD
 have HL := Lib.hid hl
 clear hW hB hs hB2 hD hl
 unfold listB at HL
 go_enter Try.func130, Try.ntmps130
 go_upto_region 0 with (fail)
 have HM0 := hid (Mod.refl (fun k => (R k)) w)
 go_upto_region 0 with (fail)
 refine wp_region_U 23 [8, 9, 10, 11] [0, 1, 2, 3] (fun a0 HA0 => ?_)
 have oe0 := ev HA0 0 rfl
 have oe1 := ev HA0 1 rfl
 refine QSeq.pure rfl _ (fun E => ex_move rfl (E.v oe0)) ?_
 refine QSeq.pure rfl _ (fun E => ex_move rfl (E.v oe1)) ?_
 refine QSeq.pure rfl (.int .i64 l.length) (fun E => ex_lenS rfl (E.d 1 0) Try.underlying56) ?_
 refine QSeq.call rfl rfl Try.func64 (WInt_Q HW.out HI64.out (by have := HL.out; simp only [List.length_append] at this ⊢; omega)) (fun E => args2 (E.d 0 2) (E.d 2 0)) ?_
 rintro e u0_3 ⟨rfl, qwr, hm⟩
 refine ⟨_, rfl, ?_⟩
 have Hx1 := hid (qwr.widen (R' := (fun k => (R k) ∨ (New w u0_3 k))) (fun _ h => h) (Nat.le_refl _))
 have zu0_3 := hm.size
 have Cx2 := hid (show Mod (fun k => (R k)) w u0_3 from hm)
 clear hm
 clear qwr HW
 refine QSeq.nil (t' := [_, _, _, _]) rfl ?_
 obtain rfl := HA0.out
 clear HA0 oe0 oe1
 simp only [pz, Act.put, List.setIfInBounds_toArray, List.set_cons_zero, List.set_cons_succ]
 go_wp2
 go_loopw [14] (fun t wr => ∃ k : Nat, t = .int .i64 (k : Int) ∧ k ≤ l.length ∧ u0_3.heap.size ≤ wr.heap.size ∧ WrR (fun b => R b ∨ (w.heap.size ≤ b ∧ b < wr.heap.size)) 900000 wr g (bs ++ (encI l.length ++ ((l.take k).map pmB).flatten)) ∧ RdS PmR R2 wr (.slice ao l.length cap) l ∧ Mod R w wr) (fun t _ => l.length - (intOf t).toNat)
 case atStart => exact ⟨0, rfl, Nat.zero_le _, Nat.le_refl _, by have hq := (Hx1.out.widen (R' := (fun k => R k ∨ (w.heap.size ≤ k ∧ k < u0_3.heap.size))) (by intro k h1; rcases h1 with h1 | h1 <;> first | exact Or.inl h1 | (right; omega)) (Nat.le_refl _)); simpa only [List.take_zero, List.map_nil, List.flatten_nil, List.append_nil] using hq, (HS.out.mod Cx2.out (by intro k h1 h2; first | omega | (have hb := HBT.out k h1; omega) | (have hb := HBR.out k h2; omega) | exact HDJ.out k h1 h2 | exact HDJ.out k h2 h1 | (have hb := HBT.out k h1; have hb2 := HBR.out k h2; omega))), (HM0.out.trans Cx2.out (fun _ _ h => h))⟩
 case round =>
  obtain ⟨k, rfl, hk, hz, hw, hs, hm⟩ := hrel
  have HW2 := Lib.hid hw
  have HS2 := Lib.hid hs
  have HM2 := Lib.hid hm
  clear hw hs hm Hx1 HS HM0
  obtain ⟨wo, rfl⟩ : ∃ x, x = wr := ⟨_, rfl⟩
  by_cases hlt : k < l.length
  ·skip
   obtain ⟨g0, o0, cs, rfl, hrg, hrd, hcs⟩ := HS2.out.at hlt
   have hcl : cs.length = 6 := PmR.len hrd
   have HCL := Lib.hid hcl
   have HAT := hid (show CellsAt R2 wo g0 (o0 + k * 6) cs from ⟨hrg, hcs⟩)
   have HRD := Lib.hid hrd
   have HOC := hid (PmR.one hrd)
   clear hcl hcs hrd hrg
   have HE : Hid (bs ++ (encI l.length ++ ((l.take k).map pmB).flatten) ++ pmB l[k] = bs ++ (encI l.length ++ ((l.take (k + 1)).map pmB).flatten)) := hid (by rw [List.take_succ_eq_append_getElem hlt, List.map_append, List.flatten_append]; simp [List.append_assoc])
   have HLk := hid (show (bs ++ (encI l.length ++ ((l.take k).map pmB).flatten) ++ pmB l[k]).length ≤ 900000 by rw [HE.out]; exact Nat.le_trans (put_len _ _ _ _ _) HL.out)
   go_upto_region 3 with (fail)
   refine wp_region_U 23 [16, 17, 7, 26] [0, 1, 2, 3] (fun a0 HA0 => ?_)
   have oe12 := ev HA0 12 rfl
   have oe14 := ev HA0 14 rfl
   refine QSeq.pure rfl (.pointer (some ⟨g0, o0 + k * 6, none⟩)) (fun E => ex_idxS (i := k) (s := 6) rfl Try.underlying56 (by kernel_rfl) (E.v oe12) (E.v oe14) (by omega)) ?_
   refine QSeq.pure rfl _ (fun E => ex_loadA rfl Try.underlying55 rfl (off := o0 + k * 6) (cs := cs) (by rw [HCL.out]; kernel_rfl) (E.d 0 0) (fun j u hu => (HAT.out).2 j u hu)) ?_
   refine QSeq.go fun act E => ?_
   refine qc_alloc rfl (wanted_none rfl) rfl (z := [.int .i64 0, .int .i64 0, .int .u64 0, .slice none 0 0, .int .i64 0, .int .i64 0]) (by kernel_rfl) ?_
   intro u3_2 qq hm
   have zl3_2 := qq.lt
   have Hx3 := hid qq
   have zu3_2 := hm.size
   have Cx4 := hid (show Mod (fun _ => False) wo u3_2 from hm)
   clear hm
   clear act E qq
   refine QSeq.go fun act E => ?_
   have hlz : (cs).length = List.length ([.int .i64 0, .int .i64 0, .int .u64 0, .slice none 0 0, .int .i64 0, .int .i64 0] : List Value) := (by rw [HCL.out]; rfl)
   refine qc_store rfl (wanted_none rfl) rfl Hx3.out (off := 0) (vs := cs) (by rw [hlz]; kernel_rfl) HOC.out (by rw [hlz]; exact Nat.le_of_eq (Nat.zero_add _)) (E.d 2 0) (ec (E.d 1 1)) ?_
   intro u3_3 qc0 hm
   have qq := qc0.eqv (b := (cs : List Value).toArray) (lay_whole #[.int .i64 0, .int .i64 0, .int .u64 0, .slice none 0 0, .int .i64 0, .int .i64 0] _ (by rw [hlz]; rfl))
   clear qc0 hlz
   have Hx5 := hid qq
   have zu3_3 := hm.size
   have HMu3_3 := hid hm
   have Cx6 := hid (Mod.goS (S' := (fun _ => False)) Cx4.out hm (fun _ h => h) (by intro k h0 h2; omega))
   clear hm Cx4
   clear act E qq Hx3
   clear HMu3_3
   refine QSeq.nil (t' := [_, _, _, _]) rfl ?_
   obtain rfl := HA0.out
   clear HA0 oe12 oe14
   simp only [pz, Act.put, List.setIfInBounds_toArray, List.set_cons_zero, List.set_cons_succ, List.set_nil]
   go_upto_region 4 with (fail)
   refine wp_region_U 23 [18, 19, 20, 21] [0, 1, 2, 3] (fun a0 HA0 => ?_)
   have oe0 := ev HA0 0 rfl
   have oe2 := ev HA0 2 rfl
   have oe7 := ev HA0 7 rfl
   refine QSeq.pure rfl _ (fun E => ex_move rfl (E.v oe2)) ?_
   refine QSeq.pure rfl _ (fun E => ex_move rfl (E.v oe0)) ?_
   refine QSeq.pure rfl _ (fun E => ex_loadA rfl Try.underlying55 rfl (off := 0) (cs := cs) (by rw [HCL.out]; kernel_rfl) (E.v oe7) (Cs.whole Hx5.out)) ?_
   refine QSeq.go fun act E => ?_
   have ea19 : act.eval (.tmp 19) = .pointer (some ⟨g, 0, none⟩) := (E.d 1 1)
   have ea20 : act.eval (.tmp 20) = .agg cs.toArray := (E.d 2 0)
   refine qc_call (args := #[.pointer (some ⟨g, 0, none⟩), .agg cs.toArray]) rfl (wanted_none rfl) (by rw [ex_callV rfl (E.d 0 2) Try.func99 (by kernel_rfl) (by kernel_rfl)]; exact congrArg (fun z => Result.ok (Next.enter _ z) _) (by simp only [List.map_toArray, List.map_cons, List.map_nil, ea19, ea20]; try rfl)) (PutPm_Q _ _ _ _ _ _ _ (HW2.out.mod Cx6.out (fun _ _ h => h)) (by intro k h1; rcases h1 with h1 | h1 <;> first | omega | (have hb := HBR.out k h1; omega)) (HRD.out.mod Cx6.out (fun _ _ h => h)) (by intro k h1; have hb := HBT.out k h1; omega) (by intro k h1 h2; rcases h1 with h1 | h1 <;> first | omega | (have hb := HBR.out k h1; omega) | (have hb := HBT.out k h2; omega) | exact HDJ.out k h1 h2 | exact HDJ.out k h2 h1 | (have hb := HBR.out k h1; have hb2 := HBT.out k h2; omega)) HLk.out) ?_
   rintro e u4_3 ⟨rfl, qwr, hm⟩
   refine ⟨_, rfl, ?_⟩
   have Hx7 := hid (qwr.widen (R' := (fun k => (R k) ∨ (New w wo k) ∨ (New u3_3 u4_3 k))) (by intro k h1; simp only [or_assoc] at h1 ⊢; exact h1) (Nat.le_refl _))
   have zu4_3 := hm.size
   have Cx8 := hid (show Mod (fun k => (R k) ∨ (New w wo k)) u3_3 u4_3 from hm)
   clear hm
   clear act E qwr HW2 ea19 ea20
   refine QSeq.nil (t' := [_, _, _, _]) rfl ?_
   obtain rfl := HA0.out
   clear HA0 oe0 oe2 oe7
   simp only [pz, Act.put, List.setIfInBounds_toArray, List.set_cons_zero, List.set_cons_succ]
   have hq := Hx7.out
   rw [HE.out] at hq
   have HQ := Lib.hid hq
   clear hq
   go_wp2
   go_roundw
   case rel => exact ⟨k + 1, by go_num, by omega, by omega, (HQ.out.widen (by intro b h1; rcases h1 with h1 | h1 | h1 <;> first | exact Or.inl h1 | (right; omega)) (Nat.le_refl _)), ((HS2.out.mod Cx6.out (fun _ _ h => h)).mod Cx8.out (by intro k h1 h2; rcases h2 with h2 | h2 <;> first | omega | (have hb := HBT.out k h1; omega) | (have hb := HBR.out k h2; omega) | exact HDJ.out k h1 h2 | exact HDJ.out k h2 h1 | (have hb := HBT.out k h1; have hb2 := HBR.out k h2; omega))), ((HM2.out.trans Cx6.out (fun _ _ h => h.elim)).trans Cx8.out (by intro k h1 h2; rcases h2 with h2 | h2 <;> first | exact h2 | omega | (have hb := HBR.out k h2; omega)))⟩
   case measure => simp [intOf]; omega
  ·have hkk : k = l.length := by omega
   subst hkk
   go_wp2
   go_end0
   have hq := HW2.out
   rw [List.take_length] at hq
   exact ⟨rfl, hq, HM2.out⟩
set_option maxHeartbeats 4000000 in
theorem PutBa_Q : Puts BaR 95 baB := by
 intro R R2 g bs cs x w hW hB hx hB2 hD hl
 obtain ⟨v_ps, v_os, v_ts, rfl, hok, hs0, hs1, hs2⟩ := hx
 have HS0 := Lib.hid hs0
 clear hs0
 have HS1 := Lib.hid hs1
 clear hs1
 have HS2 := Lib.hid hs2
 clear hs2
 have HW := Lib.hid hW
 have HBR := Lib.hid hB
 have HBT := Lib.hid hB2
 have HDJ := Lib.hid hD
 have HOK := Lib.hid hok
 have HL := Lib.hid hl
 clear hW hB hB2 hD hl hok
 unfold baB at HL
 go_enter Try.func95, Try.ntmps95
 go_upto_region 1 with (fail)
 obtain ⟨w1, hw1⟩ : ∃ zz, zz = (w.alloc (.cells (x.cells v_ps v_os v_ts : List Value).toArray 60)) := ⟨_, rfl⟩
 change Code.wp _ _ _ _ (w.alloc (.cells (x.cells v_ps v_os v_ts : List Value).toArray 60))
 rw [← hw1]
 have HB3 := hid (show Cs w1 (w.heap.size) (x.cells v_ps v_os v_ts : List Value).toArray 60 by rw [hw1]; exact Cs.new _ _ _)
 have hm : Mod (fun _ => False) w w1 := by rw [hw1]; exact (Mod.refl _ _).alloc _
 have HM0 := hid (show Mod (fun k => (R k)) w w1 from hm.mono (fun _ _ h => h.elim))
 have hs1 : w1.heap.size = w.heap.size + 1 := by rw [hw1]; simp
 have Hx1 := hid (HW.out.mod hm (fun _ _ h => h))
 clear HW
 have Hx2 := hid (HS0.out.mod hm (fun _ _ h => h))
 clear HS0
 have Hx3 := hid (HS1.out.mod hm (fun _ _ h => h))
 clear HS1
 have Hx4 := hid (HS2.out.mod hm (fun _ _ h => h))
 clear HS2
 clear hw1 hm
 go_upto_region 1 with (fail)
 generalize ha0 : Act.mk _ _ = a0
 have oe0 : a0.eval (.tmp 0) = .pointer (some ⟨g, 0, none⟩) := by rw [← ha0]; rfl
 have oe3 : a0.eval (.tmp 3) = .pointer (some ⟨w.heap.size, 0, none⟩) := by rw [← ha0]; rfl
 have hsz0 : a0.tmps.size = 23 := by rw [← ha0]; rfl
 have HA0 := hid ha0
 clear ha0
 refine wp_region_Q1 23 hsz0 [4, 5, 6, 7, 8, 9, 10] (fun k => (R k)) (fun k j => (k = 0 ∧ ((R j))) ∨ (k = 1 ∧ ((R j)))) (by intro k j h; (try dsimp only at h ⊢); rcases h with ⟨-, h⟩ | ⟨-, h⟩; (exact h); (exact h)) [qi (.pointer (some ⟨g, 0, none⟩)), qi (.pointer (some ⟨w.heap.size, 0, none⟩)), qi (.int .i64 x.ep), qi (.pointer (some ⟨g, 0, none⟩)), qi (.pointer (some ⟨w.heap.size, 1, none⟩)), qi (.int .u64 (x.tm : Nat)), qi (.pointer (some ⟨g, 0, none⟩))] ⟨qi_stable, qi_stable, qi_stable, qi_stable, qi_stable, qi_stable, qi_stable, trivial⟩ [3, 6] ⟨?_, ?_, ?_, ?_, ?_, ?_, ?_, trivial⟩ ?_
 ·exact stq (fun E => ex_move rfl (E.v oe0))
 ·exact stq (fun E => ex_field rfl Try.underlying60 rfl (by kernel_rfl) (E.v oe3))
 ·exact stq (fun E => ex_load1 rfl Try.underlying3 rfl (E.d 1) (Cs.lit1 (HB3.out.mod E.m (by intro h2; rcases h2 with ⟨h0, h2⟩ | h2 <;> first | omega | (have hb := HBR.out _ h2; omega))) rfl))
 ·exact stepq_chain rfl
 ·exact stq (fun E => ex_field rfl Try.underlying60 rfl (by kernel_rfl) (E.v oe3))
 ·exact stq (fun E => ex_load1 rfl Try.underlying26 rfl (E.d 4) (Cs.lit1 (HB3.out.mod E.m (by intro h2; rcases h2 with ⟨h0, h2⟩ | h2 <;> first | omega | (have hb := HBR.out _ h2; omega))) rfl))
 ·exact stepq_chain rfl
 intro u1_0 hr
 have zu1_0 := hr.size
 have Cx5 := hid (hr.new (S := (fun k => (R k))))
 have Hx6 := hid (Hx1.out.mod hr (by intro k h1 h2; have hb := HBR.out k h1; omega))
 clear Hx1
 clear hr
 refine QChain.go fun Z act E => ?_
 refine qc_callF (args := #[.pointer (some ⟨g, 0, none⟩), .int .i64 x.ep]) rfl (wanted_none rfl) rfl Try.func64 (args2 (E.d 0) (E.d 2)) (WInt_Q Hx6.out HOK.out.1 (by have := HL.out; simp only [List.length_append] at this ⊢; omega)) ?_
 rintro e u1_1a ⟨rfl, qwr, hm⟩
 have zu1_1a := hm.size
 refine ⟨_, rfl, hm.mono (by intro k hk h; first | omega | exact Or.inl ⟨(by have hb := HBR.out k h; omega), Or.inl ⟨rfl, h⟩⟩), (fun _ => rfl), ?_⟩
 intro u1_1 hr
 have zu1_1 := hr.size
 have Hx7 := hid ((qwr.widen (R' := (fun k => (R k) ∨ (New u1_0 u1_1a k))) (fun _ h => h) (Nat.le_refl _)).mod hr (by intro k h1 h2; rcases h1 with h1 | h1 <;> first | omega | (have hb := HBR.out k h1; omega)))
 have Cx8 := hid (Cx5.out.goM hm hr (fun _ _ h => h))
 clear Cx5 hm hr Z act E qwr Hx6
 refine QChain.go fun Z act E => ?_
 refine qc_callF (args := #[.pointer (some ⟨g, 0, none⟩), .int .u64 (x.tm : Nat)]) rfl (wanted_none rfl) rfl Try.func67 (args2 (E.d 3) (E.d 5)) (WNum_Q Hx7.out HOK.out.2 (by have := HL.out; simp only [List.length_append] at this ⊢; omega)) ?_
 rintro e u1_2a ⟨rfl, qwr, hm⟩
 have zu1_2a := hm.size
 refine ⟨_, rfl, hm.mono (by intro k hk h; rcases h with h | h <;> first | omega | exact Or.inl ⟨(by have hb := HBR.out k h; omega), Or.inr (⟨rfl, h⟩)⟩), (fun _ => rfl), ?_⟩
 intro u1_2 hr
 have zu1_2 := hr.size
 have Hx9 := hid ((qwr.widen (R' := (fun k => (R k) ∨ (New u1_0 u1_1a k) ∨ (New u1_1 u1_2a k))) (by intro k h1; simp only [or_assoc] at h1 ⊢; exact h1) (Nat.le_refl _)).mod hr (by intro k h1 h2; rcases h1 with h1 | h1 | h1 <;> first | omega | (have hb := HBR.out k h1; omega)))
 have Cx10 := hid (Cx8.out.goM hm hr (by intro k h0 h2; rcases h2 with h2 | h2 <;> first | omega | exact h2))
 clear Cx8 hm hr Z act E qwr Hx7
 refine QChain.nil fun vs hl hzz hrows hne => ?_
 obtain ⟨Z, hYZ, hZb, hV⟩ := hzz
 have f0 := fvi hV hl 0
 have f3 := fvi hV hl 3
 have f6 := fvi hV hl 6
 rw [show vs = [gw vs 0, gw vs 1, gw vs 2, gw vs 3, gw vs 4, gw vs 5, gw vs 6] from (gw_eta hl).trans rfl]
 have ha0 := HA0.out
 subst ha0
 clear HA0 hV hYZ hZb hsz0 hrows hne oe0 oe3
 simp only [putAll, Act.put, List.setIfInBounds_toArray, List.set_cons_zero, List.set_cons_succ, f0, f3, f6]
 clear hl f0 f3 f6
 go_upto_region 2 with (fail)
 refine wp_region_U 23 [11, 12, 13, 14] [0, 1, 2, 3] (fun a0 HA0 => ?_)
 have oe0 := ev HA0 0 rfl
 have oe3 := ev HA0 3 rfl
 refine QSeq.pure rfl _ (fun E => ex_move rfl (E.v oe0)) ?_
 refine QSeq.pure rfl (.pointer (some ⟨w.heap.size, 2, none⟩)) (fun E => ex_field rfl Try.underlying60 rfl (by kernel_rfl) (E.v oe3)) ?_
 refine QSeq.pure rfl _ (fun E => ex_load1 rfl Try.underlying56 rfl (E.d 1 0) (Cs.lit1 (HB3.out.mod Cx10.out (by intro h2; first | omega | (have hb := HBR.out _ h2; omega))) rfl)) ?_
 refine QSeq.call rfl rfl Try.func130 (PutList_Pm _ _ _ _ _ _ _ Hx9.out (by intro k h1; rcases h1 with h1 | h1 | h1 <;> first | omega | (have hb := HBR.out k h1; omega)) (Hx2.out.mod Cx10.out (by intro k h1 h2; first | omega | (have hb := HBT.out k h1; omega) | (have hb := HBR.out k h2; omega) | exact HDJ.out k h1 h2 | exact HDJ.out k h2 h1 | (have hb := HBT.out k h1; have hb2 := HBR.out k h2; omega))) (by intro k h1; have hb := HBT.out k h1; omega) (by intro k h1 h2; rcases h1 with h1 | h1 | h1 <;> first | omega | (have hb := HBR.out k h1; omega) | (have hb := HBT.out k h2; omega) | exact HDJ.out k h1 h2 | exact HDJ.out k h2 h1 | (have hb := HBR.out k h1; have hb2 := HBT.out k h2; omega)) (by have := HL.out; simp only [List.length_append] at this ⊢; omega)) (fun E => args3 (E.d 0 2) (E.d 2 0) rfl) ?_
 rintro e u2_3 ⟨rfl, qwr, hm⟩
 refine ⟨_, rfl, ?_⟩
 have Hx11 := hid (qwr.widen (R' := (fun k => (R k) ∨ (New u1_0 u1_1a k) ∨ (New u1_1 u1_2a k) ∨ (New u1_2 u2_3 k))) (by intro k h1; simp only [or_assoc] at h1 ⊢; exact h1) (Nat.le_refl _))
 have zu2_3 := hm.size
 have Cx12 := hid (show Mod (fun k => (R k) ∨ (New u1_0 u1_1a k) ∨ (New u1_1 u1_2a k)) u1_2 u2_3 from hm)
 clear hm
 clear qwr Hx9
 refine QSeq.nil (t' := [_, _, _, _]) rfl ?_
 obtain rfl := HA0.out
 clear HA0 oe0 oe3
 simp only [pz, Act.put, List.setIfInBounds_toArray, List.set_cons_zero, List.set_cons_succ]
 go_upto_region 3 with (fail)
 refine wp_region_U 23 [15, 16, 17, 18] [0, 1, 2, 3] (fun a0 HA0 => ?_)
 have oe0 := ev HA0 0 rfl
 have oe3 := ev HA0 3 rfl
 refine QSeq.pure rfl _ (fun E => ex_move rfl (E.v oe0)) ?_
 refine QSeq.pure rfl (.pointer (some ⟨w.heap.size, 3, none⟩)) (fun E => ex_field rfl Try.underlying60 rfl (by kernel_rfl) (E.v oe3)) ?_
 refine QSeq.pure rfl _ (fun E => ex_load1 rfl Try.underlying57 rfl (E.d 1 0) (Cs.lit1 ((HB3.out.mod Cx10.out (by intro h2; first | omega | (have hb := HBR.out _ h2; omega))).mod Cx12.out (by intro h2; rcases h2 with h2 | h2 | h2 <;> first | omega | (have hb := HBR.out _ h2; omega))) rfl)) ?_
 refine QSeq.call rfl rfl Try.func131 (PutList_Op _ _ _ _ _ _ _ Hx11.out (by intro k h1; rcases h1 with h1 | h1 | h1 | h1 <;> first | omega | (have hb := HBR.out k h1; omega)) ((Hx3.out.mod Cx10.out (by intro k h1 h2; first | omega | (have hb := HBT.out k h1; omega) | (have hb := HBR.out k h2; omega) | exact HDJ.out k h1 h2 | exact HDJ.out k h2 h1 | (have hb := HBT.out k h1; have hb2 := HBR.out k h2; omega))).mod Cx12.out (by intro k h1 h2; rcases h2 with h2 | h2 | h2 <;> first | omega | (have hb := HBT.out k h1; omega) | (have hb := HBR.out k h2; omega) | exact HDJ.out k h1 h2 | exact HDJ.out k h2 h1 | (have hb := HBT.out k h1; have hb2 := HBR.out k h2; omega))) (by intro k h1; have hb := HBT.out k h1; omega) (by intro k h1 h2; rcases h1 with h1 | h1 | h1 | h1 <;> first | omega | (have hb := HBR.out k h1; omega) | (have hb := HBT.out k h2; omega) | exact HDJ.out k h1 h2 | exact HDJ.out k h2 h1 | (have hb := HBR.out k h1; have hb2 := HBT.out k h2; omega)) (by have := HL.out; simp only [List.length_append] at this ⊢; omega)) (fun E => args3 (E.d 0 2) (E.d 2 0) rfl) ?_
 rintro e u3_3 ⟨rfl, qwr, hm⟩
 refine ⟨_, rfl, ?_⟩
 have Hx13 := hid (qwr.widen (R' := (fun k => (R k) ∨ (New u1_0 u1_1a k) ∨ (New u1_1 u1_2a k) ∨ (New u1_2 u2_3 k) ∨ (New u2_3 u3_3 k))) (by intro k h1; simp only [or_assoc] at h1 ⊢; exact h1) (Nat.le_refl _))
 have zu3_3 := hm.size
 have Cx14 := hid (show Mod (fun k => (R k) ∨ (New u1_0 u1_1a k) ∨ (New u1_1 u1_2a k) ∨ (New u1_2 u2_3 k)) u2_3 u3_3 from hm)
 clear hm
 clear qwr Hx11
 refine QSeq.nil (t' := [_, _, _, _]) rfl ?_
 obtain rfl := HA0.out
 clear HA0 oe0 oe3
 simp only [pz, Act.put, List.setIfInBounds_toArray, List.set_cons_zero, List.set_cons_succ]
 go_upto_region 4 with (fail)
 refine wp_region_U 23 [19, 20, 21, 22] [0, 1, 2, 3] (fun a0 HA0 => ?_)
 have oe0 := ev HA0 0 rfl
 have oe3 := ev HA0 3 rfl
 refine QSeq.pure rfl _ (fun E => ex_move rfl (E.v oe0)) ?_
 refine QSeq.pure rfl (.pointer (some ⟨w.heap.size, 4, none⟩)) (fun E => ex_field rfl Try.underlying60 rfl (by kernel_rfl) (E.v oe3)) ?_
 refine QSeq.pure rfl _ (fun E => ex_load1 rfl Try.underlying58 rfl (E.d 1 0) (Cs.lit1 (((HB3.out.mod Cx10.out (by intro h2; first | omega | (have hb := HBR.out _ h2; omega))).mod Cx12.out (by intro h2; rcases h2 with h2 | h2 | h2 <;> first | omega | (have hb := HBR.out _ h2; omega))).mod Cx14.out (by intro h2; rcases h2 with h2 | h2 | h2 | h2 <;> first | omega | (have hb := HBR.out _ h2; omega))) rfl)) ?_
 refine QSeq.call rfl rfl Try.func133 (PutList_Tb _ _ _ _ _ _ _ Hx13.out (by intro k h1; rcases h1 with h1 | h1 | h1 | h1 | h1 <;> first | omega | (have hb := HBR.out k h1; omega)) (((Hx4.out.mod Cx10.out (by intro k h1 h2; first | omega | (have hb := HBT.out k h1; omega) | (have hb := HBR.out k h2; omega) | exact HDJ.out k h1 h2 | exact HDJ.out k h2 h1 | (have hb := HBT.out k h1; have hb2 := HBR.out k h2; omega))).mod Cx12.out (by intro k h1 h2; rcases h2 with h2 | h2 | h2 <;> first | omega | (have hb := HBT.out k h1; omega) | (have hb := HBR.out k h2; omega) | exact HDJ.out k h1 h2 | exact HDJ.out k h2 h1 | (have hb := HBT.out k h1; have hb2 := HBR.out k h2; omega))).mod Cx14.out (by intro k h1 h2; rcases h2 with h2 | h2 | h2 | h2 <;> first | omega | (have hb := HBT.out k h1; omega) | (have hb := HBR.out k h2; omega) | exact HDJ.out k h1 h2 | exact HDJ.out k h2 h1 | (have hb := HBT.out k h1; have hb2 := HBR.out k h2; omega))) (by intro k h1; have hb := HBT.out k h1; omega) (by intro k h1 h2; rcases h1 with h1 | h1 | h1 | h1 | h1 <;> first | omega | (have hb := HBR.out k h1; omega) | (have hb := HBT.out k h2; omega) | exact HDJ.out k h1 h2 | exact HDJ.out k h2 h1 | (have hb := HBR.out k h1; have hb2 := HBT.out k h2; omega)) (by have := HL.out; simp only [List.length_append] at this ⊢; omega)) (fun E => args3 (E.d 0 2) (E.d 2 0) rfl) ?_
 rintro e u4_3 ⟨rfl, qwr, hm⟩
 refine ⟨_, rfl, ?_⟩
 have Hx15 := hid (qwr.widen (R' := (fun k => (R k) ∨ (New u1_0 u1_1a k) ∨ (New u1_1 u1_2a k) ∨ (New u1_2 u2_3 k) ∨ (New u2_3 u3_3 k) ∨ (New u3_3 u4_3 k))) (by intro k h1; simp only [or_assoc] at h1 ⊢; exact h1) (Nat.le_refl _))
 have zu4_3 := hm.size
 have Cx16 := hid (show Mod (fun k => (R k) ∨ (New u1_0 u1_1a k) ∨ (New u1_1 u1_2a k) ∨ (New u1_2 u2_3 k) ∨ (New u2_3 u3_3 k)) u3_3 u4_3 from hm)
 clear hm
 clear qwr Hx13
 refine QSeq.nil (t' := [_, _, _, _]) rfl ?_
 obtain rfl := HA0.out
 clear HA0 oe0 oe3
 simp only [pz, Act.put, List.setIfInBounds_toArray, List.set_cons_zero, List.set_cons_succ]
 go_wp2
 go_end0
 have hq := (Hx15.out.widen (R' := (fun k => R k ∨ New w u4_3 k)) (by intro k h1; rcases h1 with h1 | h1 | h1 | h1 | h1 | h1 <;> first | exact Or.inl h1 | (right; omega)) (Nat.le_refl _))
 simp only [List.append_assoc] at hq
 exact ⟨rfl, by simpa only [baB, List.append_assoc] using hq, ((((HM0.out.trans Cx10.out (fun _ _ h => h)).trans Cx12.out (by intro k h1 h2; rcases h2 with h2 | h2 | h2 <;> first | exact h2 | omega | (have hb := HBR.out k h2; omega))).trans Cx14.out (by intro k h1 h2; rcases h2 with h2 | h2 | h2 | h2 <;> first | exact h2 | omega | (have hb := HBR.out k h2; omega))).trans Cx16.out (by intro k h1 h2; rcases h2 with h2 | h2 | h2 | h2 | h2 <;> first | exact h2 | omega | (have hb := HBR.out k h2; omega)))⟩
end Go.Proofs.Ytknpapcfhnhheaa

/- Package wire: the texts that are signed, a batch's hash. -/
namespace Go.Proofs.Ytknpapcfhnhheaa
open Go Go.RowKit Go.Gv


/-- a function from a thing to bytes; to a hash -/
def Makes {α : Type} (A : Rep α) (F : FuncId) (f : α → List Int) : Prop := ∀ (R2 : Nat → Prop) (cs : List Value) (x : α) (w : World), A.rd R2 w cs x → (∀ k, R2 k → k < w.heap.size) → (f x).length ≤ 900000 →
 Calls Try.prog F #[.agg cs.toArray] w fun e w' => ∃ v', e = .returned v' ∧ OwR (New w w') 900000 w' v' (f x) ∧ Mod (fun _ => False) w w'
def Hashes {α : Type} (A : Rep α) (F : FuncId) (f : α → List Int) : Prop := ∀ (R2 : Nat → Prop) (cs : List Value) (x : α) (w : World), A.rd R2 w cs x → (∀ k, R2 k → k < w.heap.size) → (f x).length ≤ 900000 →
 Calls Try.prog F #[.agg cs.toArray] w fun e w' => e = .returned (hv (shaF (f x))) ∧ Mod (fun _ => False) w w'
set_option maxHeartbeats 4000000 in
theorem BatchHash_Q : Hashes BaR 42 baB := by
 intro R2 cs x w hx hB2 hl
 obtain ⟨v_ps, v_os, v_ts, rfl, hok, hs0, hs1, hs2⟩ := hx
 have HS0 := Lib.hid hs0
 clear hs0
 have HS1 := Lib.hid hs1
 clear hs1
 have HS2 := Lib.hid hs2
 clear hs2
 have HBT := Lib.hid hB2
 have HOK := Lib.hid hok
 have HL := Lib.hid hl
 clear hB2 hl hok
 have HLN := hid (show ([] ++ baB x).length ≤ 900000 by rw [List.nil_append]; exact HL.out)
 go_enter Try.func42, Try.ntmps42
 go_upto_region 1 with (fail)
 obtain ⟨w1, hw1⟩ : ∃ zz, zz = ((w.alloc (.cells (x.cells v_ps v_os v_ts : List Value).toArray 60)).alloc (.cells #[.int .u8 0, .int .u8 0, .int .u8 0, .int .u8 0, .int .u8 0, .int .u8 0, .int .u8 0, .int .u8 0, .int .u8 0, .int .u8 0, .int .u8 0, .int .u8 0, .int .u8 0, .int .u8 0, .int .u8 0, .int .u8 0, .int .u8 0, .int .u8 0, .int .u8 0, .int .u8 0, .int .u8 0, .int .u8 0, .int .u8 0, .int .u8 0, .int .u8 0, .int .u8 0, .int .u8 0, .int .u8 0, .int .u8 0, .int .u8 0, .int .u8 0, .int .u8 0] 25)) := ⟨_, rfl⟩
 change Code.wp _ _ _ _ ((w.alloc (.cells (x.cells v_ps v_os v_ts : List Value).toArray 60)).alloc (.cells #[.int .u8 0, .int .u8 0, .int .u8 0, .int .u8 0, .int .u8 0, .int .u8 0, .int .u8 0, .int .u8 0, .int .u8 0, .int .u8 0, .int .u8 0, .int .u8 0, .int .u8 0, .int .u8 0, .int .u8 0, .int .u8 0, .int .u8 0, .int .u8 0, .int .u8 0, .int .u8 0, .int .u8 0, .int .u8 0, .int .u8 0, .int .u8 0, .int .u8 0, .int .u8 0, .int .u8 0, .int .u8 0, .int .u8 0, .int .u8 0, .int .u8 0, .int .u8 0] 25))
 rw [← hw1]
 have HB1 := hid (show Cs w1 (w.heap.size) (x.cells v_ps v_os v_ts : List Value).toArray 60 by rw [hw1]; exact (Cs.new _ _ _).alloc _)
 have HB2 := hid (show Cs w1 (w.heap.size + 1) #[.int .u8 0, .int .u8 0, .int .u8 0, .int .u8 0, .int .u8 0, .int .u8 0, .int .u8 0, .int .u8 0, .int .u8 0, .int .u8 0, .int .u8 0, .int .u8 0, .int .u8 0, .int .u8 0, .int .u8 0, .int .u8 0, .int .u8 0, .int .u8 0, .int .u8 0, .int .u8 0, .int .u8 0, .int .u8 0, .int .u8 0, .int .u8 0, .int .u8 0, .int .u8 0, .int .u8 0, .int .u8 0, .int .u8 0, .int .u8 0, .int .u8 0, .int .u8 0] 25 by rw [hw1]; exact Cs_newN _ _ _ (by simp))
 have hm : Mod (fun _ => False) w w1 := by rw [hw1]; exact ((Mod.refl _ _).alloc _).alloc _
 have HM0 := hid (show Mod (fun _ => False) w w1 from hm.mono (fun _ _ h => h.elim))
 have hs1 : w1.heap.size = w.heap.size + 2 := by rw [hw1]; simp
 have Hx1 := hid (HS0.out.mod hm (fun _ _ h => h))
 clear HS0
 have Hx2 := hid (HS1.out.mod hm (fun _ _ h => h))
 clear HS1
 have Hx3 := hid (HS2.out.mod hm (fun _ _ h => h))
 clear HS2
 clear hw1 hm
 go_upto_region 1 with (fail)
 generalize ha0 : Act.mk _ _ = a0
 have hsz0 : a0.tmps.size = 11 := by rw [← ha0]; rfl
 have HA0 := hid ha0
 clear ha0
 refine wp_region_Q0 11 hsz0 [4, 3] [qv 0, qv 0] ⟨qv_stable, qv_stable, trivial⟩ [0] ⟨?_, ?_, trivial⟩ ?_
 ·exact stepq_chain rfl
 ·refine stepq_env rfl rfl rfl fun _ _ _ _ _ _ _ _ _ hd _ _ => ?_
  have h0 := hd ⟨0, .data⟩ (by simp) rfl _ rfl
  exact qe_run rfl (wanted_none rfl) (ex_assign rfl rfl) QE.refl h0
 intro u1_0 hr
 have zu1_0 := hr.size
 have Cx4 := hid (hr.new (S := (fun _ => False)))
 clear hr
 refine QChain.go fun Z act E => ?_
 refine qc_callF (args := #[]) rfl (wanted_none rfl) rfl Try.func44 args0 (NewWriter_Q _) ?_
 rintro e u1_1a ⟨g, rfl, qwr, hm⟩
 have zu1_1a := hm.size
 refine ⟨_, rfl, hm.mono (fun _ _ h => h.elim), (fun _ => rfl), ?_⟩
 intro u1_1 hr
 have zu1_1 := hr.size
 have Hx5 := hid ((qwr.widen (R' := (fun k => (New u1_0 u1_1a k))) (fun _ h => h) (Nat.le_refl _)).mod hr (by intro k h1 h2; omega))
 have Cx6 := hid (Cx4.out.go hm hr)
 clear Cx4 hm hr Z act E qwr
 refine QChain.nil fun vs hl hzz hrows hne => ?_
 obtain ⟨Z, hYZ, hZb, hV⟩ := hzz
 have f0 := fvc hV hl 0
 have f1 := fvc hV hl 1
 rw [show vs = [gw vs 0, gw vs 1] from (gw_eta hl).trans rfl]
 have ha0 := HA0.out
 subst ha0
 clear HA0 hV hYZ hZb hsz0 hrows hne
 simp only [putAll, Act.put, List.setIfInBounds_toArray, List.set_cons_zero, List.set_cons_succ, f0, f1]
 clear hl f0 f1
 go_upto_region 2 with (fail)
 generalize ha0 : Act.mk _ _ = a0
 have oe1 : a0.eval (.tmp 1) = .pointer (some ⟨w.heap.size, 0, none⟩) := by rw [← ha0]; rfl
 have oe3 : a0.eval (.tmp 3) = .pointer (some ⟨g, 0, none⟩) := by rw [← ha0]; rfl
 have hsz0 : a0.tmps.size = 11 := by rw [← ha0]; rfl
 have HA0 := hid ha0
 clear ha0
 refine wp_region_Q1 11 hsz0 [5, 6, 7] (fun k => (New u1_0 u1_1a k)) (fun k j => (k = 0 ∧ ((New u1_0 u1_1a j)))) (fun _ _ h => h.2) [qi (.pointer (some ⟨g, 0, none⟩)), qi (.agg (x.cells v_ps v_os v_ts).toArray), qi (.tuple #[])] ⟨qi_stable, qi_stable, qi_stable, trivial⟩ [2] ⟨?_, ?_, ?_, trivial⟩ ?_
 ·exact stq (fun E => ex_move rfl (E.v oe3))
 ·exact stq (fun E => ex_loadA rfl Try.underlying60 rfl (off := 0) (cs := x.cells v_ps v_os v_ts) (by kernel_rfl) (E.v oe1) (Cs.whole ((HB1.out.mod Cx6.out (fun h => h)).mod E.m (by intro h2; omega))))
 ·exact stepq_chain rfl
 intro u2_0 hr
 have zu2_0 := hr.size
 have Cx7 := hid (hr.new (S := (fun k => (New u1_0 u1_1a k))))
 have Hx8 := hid (Hx5.out.mod hr (by intro k h1 h2; omega))
 clear Hx5
 clear hr
 refine QChain.go fun Z act E => ?_
 refine qc_callF (args := #[.pointer (some ⟨g, 0, none⟩), .agg (x.cells v_ps v_os v_ts).toArray]) rfl (wanted_none rfl) rfl Try.func95 (args2 (E.d 0) (E.d 1)) (PutBa_Q _ _ _ _ _ _ _ Hx8.out (by intro k h1; omega) ⟨_, _, _, rfl, HOK.out, ((Hx1.out.mod Cx6.out (fun _ _ h => h)).mod Cx7.out (by intro k h1 h2; have hb := HBT.out k h1; omega)), ((Hx2.out.mod Cx6.out (fun _ _ h => h)).mod Cx7.out (by intro k h1 h2; have hb := HBT.out k h1; omega)), ((Hx3.out.mod Cx6.out (fun _ _ h => h)).mod Cx7.out (by intro k h1 h2; have hb := HBT.out k h1; omega))⟩ (by intro k h1; have hb := HBT.out k h1; omega) (by intro k h1 h2; have hb := HBT.out k h2; omega) HLN.out) ?_
 rintro e u2_1a ⟨rfl, qwr, hm⟩
 have zu2_1a := hm.size
 refine ⟨_, rfl, hm.mono (by intro k hk h; omega), (fun _ => rfl), ?_⟩
 intro u2_1 hr
 have zu2_1 := hr.size
 have Hx9 := hid ((qwr.widen (R' := (fun k => (New u1_0 u1_1a k) ∨ (New u2_0 u2_1a k))) (fun _ h => h) (Nat.le_refl _)).mod hr (by intro k h1 h2; omega))
 have Cx10 := hid (Cx7.out.goM hm hr (fun _ _ h => h))
 clear Cx7 hm hr Z act E qwr Hx8
 refine QChain.nil fun vs hl hzz hrows hne => ?_
 obtain ⟨Z, hYZ, hZb, hV⟩ := hzz
 have f0 := fvi hV hl 0
 have f2 := fvi hV hl 2
 rw [show vs = [gw vs 0, gw vs 1, gw vs 2] from (gw_eta hl).trans rfl]
 have ha0 := HA0.out
 subst ha0
 clear HA0 hV hYZ hZb hsz0 hrows hne oe1 oe3
 simp only [putAll, Act.put, List.setIfInBounds_toArray, List.set_cons_zero, List.set_cons_succ, f0, f2]
 clear hl f0 f2
 go_upto_region 3 with (fail)
 generalize ha0 : Act.mk _ _ = a0
 have oe2 : a0.eval (.tmp 2) = .pointer (some ⟨w.heap.size + 1, 0, none⟩) := by rw [← ha0]; rfl
 have oe3 : a0.eval (.tmp 3) = .pointer (some ⟨g, 0, none⟩) := by rw [← ha0]; rfl
 have hsz0 : a0.tmps.size = 11 := by rw [← ha0]; rfl
 have HA0 := hid ha0
 clear ha0
 refine wp_region_Q1 11 hsz0 [8, 9, 10, 14] (fun k => (k = w.heap.size + 1)) (fun k j => (k = 2 ∧ ((j = w.heap.size + 1)))) (fun _ _ h => h.2) [qi (.pointer (some ⟨g, 0, none⟩)), qv 0, qi (hv (shaF ([] ++ baB x))), qv 2] ⟨qi_stable, qv_stable, qi_stable, qv_stable, trivial⟩ [1, 2, 3] ⟨?_, ?_, ?_, ?_, trivial⟩ ?_
 ·exact stq (fun E => ex_move rfl (E.v oe3))
 ·exact stepq_chain rfl
 ·exact stepq_chain rfl
 ·exact stepq_chain rfl
 intro u3_0 hr
 have zu3_0 := hr.size
 have Cx11 := hid (hr.new (S := (fun k => (k = w.heap.size + 1))))
 have Hx12 := hid (((HB2.out.mod Cx6.out (fun h => h)).mod Cx10.out (by intro h2; omega)).mod hr (by intro h2; omega))
 clear HB2
 clear hr
 refine QChain.go fun Z act E => ?_
 refine qc_callF (args := #[.pointer (some ⟨g, 0, none⟩)]) rfl (wanted_none rfl) rfl Try.func50 (args1 (E.d 0)) (WBytes_Q (Hx9.out.mod Cx11.out (by intro k h1 h2; omega))) ?_
 rintro e u3_1a ⟨vb, rfl, qout, hm⟩
 have zu3_1a := hm.size
 refine ⟨_, rfl, hm.mono (fun _ _ h => h.elim), (fun _ => rfl), ?_⟩
 intro u3_1 hr
 have zu3_1 := hr.size
 have Hx13 := hid ((qout.widen (R' := (fun k => (New u3_0 u3_1a k))) (fun _ h => h) (Nat.le_refl _)).mod hr (by intro k h1 h2; omega))
 have hmr := Mod.after hm hr
 have Hx14 := hid (Hx12.out.mod hmr (by intro h2; omega))
 clear Hx12
 clear hmr
 have Cx15 := hid (Cx11.out.go hm hr)
 clear Cx11 hm hr Z act E qout
 refine QChain.go fun Z act E => ?_
 refine qc_callF (args := #[vb]) rfl (wanted_none rfl) rfl Try.func96 (args1 (chv (v := vb) (E.d 1))) (Sum_any vb ([] ++ baB x) _ Hx13.out.rd.1 HLN.out) ?_
 rintro e u3_2a ⟨rfl, hm⟩
 have zu3_2a := hm.size
 refine ⟨_, rfl, hm.mono (fun _ _ h => h.elim), (fun _ => rfl), ?_⟩
 intro u3_2 hr
 have zu3_2 := hr.size
 have hmr := Mod.after hm hr
 have Hx16 := hid (Hx14.out.mod hmr (by intro h2; omega))
 have Hx17 := hid (Hx13.out.mod hmr (by intro k h1 h2; omega))
 clear Hx14 Hx13
 clear hmr
 have Cx18 := hid (Cx15.out.go hm hr)
 clear Cx15 hm hr Z act E
 refine QChain.go fun Z act E => ?_
 refine qc_store rfl (wanted_none rfl) rfl Hx16.out (off := 0) (vs := (shaF ([] ++ baB x)).map bv) (by rw [List.length_map, shaF_len]; exact size_hash) (ints_oneCell .u8 _) (by rw [List.length_map, shaF_len]; decide) (E.v oe2) (by rw [show act.eval ((.tmp 10)) = _ from (E.d 2)]; rfl) ?_
 intro u3_3a qc0 hm
 have qB2 : Cs u3_3a (w.heap.size + 1) ((shaF ([] ++ baB x)).map bv : List Value).toArray 25 := by rw [show lay _ 0 _ = ((shaF ([] ++ baB x)).map bv : List Value).toArray from lay_whole _ _ (by rw [List.length_map, shaF_len]; rfl)] at qc0; exact qc0
 clear qc0
 have zu3_3a := hm.size
 refine ⟨hm.mono (by intro k hk h; omega), (fun _ => rfl), ?_⟩
 intro u3_3 hr
 have zu3_3 := hr.size
 have Hx19 := hid (qB2.mod hr (by intro h2; omega))
 have hmr := hm.two hr
 have Hx20 := hid (Hx17.out.mod hmr (by intro k h1 h2; omega))
 clear Hx17
 clear hmr
 have Cx21 := hid (Cx18.out.goM hm hr (fun _ _ h => h))
 clear Cx18 hm hr Z act E qB2 Hx16
 refine QChain.nil fun vs hl hzz hrows hne => ?_
 obtain ⟨Z, hYZ, hZb, hV⟩ := hzz
 have f0 := fvi hV hl 0
 have f1 := fvc hV hl 1
 have f2 := fvi hV hl 2
 rw [show vs = [gw vs 0, gw vs 1, gw vs 2, gw vs 3] from (gw_eta hl).trans rfl]
 have ha0 := HA0.out
 subst ha0
 clear HA0 hV hYZ hZb hsz0 hrows hne oe2 oe3
 simp only [putAll, Act.put, List.setIfInBounds_toArray, List.set_cons_zero, List.set_cons_succ, List.set_nil, f0, f1, f2]
 clear hl f0 f1 f2
 go_wp2
 have hs := Hx19.out
 rw [List.nil_append] at hs
 have hsz : (Try.prog.info? 25).map (·.size) = some ((shaF (baB x)).map bv).length := by rw [List.length_map, shaF_len]; exact size_hash
 exact bodyPost_ret (results_cellA rfl _ _ (w.heap.size + 1) ((shaF (baB x)).map bv) rfl (fun k u hu => by rw [Cs.cell hs]; simpa using hu) Try.underlying25 rfl hsz) rfl ⟨rfl, (((HM0.out.trans Cx6.out (fun _ _ h => h.elim)).trans Cx10.out (by intro k h1 h2; omega)).trans Cx21.out (by intro k h1 h2; omega))⟩
end Go.Proofs.Ytknpapcfhnhheaa
