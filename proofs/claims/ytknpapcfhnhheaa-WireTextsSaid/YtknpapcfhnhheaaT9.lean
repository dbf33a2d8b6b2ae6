/- WireTexts: for every six readings the law returns true. No condition. -/
import Derived.Test.YtknpapcfhnhheaaT8
import Derived.Deep.RegionWith
import Derived.ProofKit
import Derived.OpenShut
import Derived.ChangeOld
/- The reference's hash of a batch, text of a proposal. -/
set_option maxRecDepth 100000
set_option linter.unusedVariables false
namespace Go.Proofs.Ytknpapcfhnhheaa
open Go Go.RowKit Go.Gv

set_option maxHeartbeats 4000000 in
theorem RefBatchHash_Q : Hashes BaR 43 baB := by
  intro R2 cs x w hx hB2 hl
  obtain ⟨v_ps, v_os, v_ts, rfl, hok, hs0, hs1, hs2⟩ := hx
  obtain ⟨ao_sl_ps, cap_sl_ps, rfl⟩ := hs0.shape
  have hb0 : x.ps.length ≤ maxLen := hs0.bd
  rw [maxLen_val] at hb0
  have HI0 := hid (show I64 (x.ps.length : Int) by unfold I64; omega)
  have HS0 := Lib.hid hs0
  clear hs0
  obtain ⟨ao_sl_os, cap_sl_os, rfl⟩ := hs1.shape
  have hb1 : x.os.length ≤ maxLen := hs1.bd
  rw [maxLen_val] at hb1
  have HI1 := hid (show I64 (x.os.length : Int) by unfold I64; omega)
  have HS1 := Lib.hid hs1
  clear hs1
  obtain ⟨ao_sl_ts, cap_sl_ts, rfl⟩ := hs2.shape
  have hb2 : x.ts.length ≤ maxLen := hs2.bd
  rw [maxLen_val] at hb2
  have HI2 := hid (show I64 (x.ts.length : Int) by unfold I64; omega)
  have HS2 := Lib.hid hs2
  clear hs2
  have HBT := Lib.hid hB2
  have HOK := Lib.hid hok
  have HL := Lib.hid hl
  clear hB2 hl hok
  skip
  go_enter Try.func43, Try.ntmps43
  go_upto_region 1 with (fail)
  obtain ⟨w1, hw1⟩ : ∃ zz, zz = ((w.alloc (.cells (x.cells (.slice ao_sl_ps x.ps.length cap_sl_ps) (.slice ao_sl_os x.os.length cap_sl_os) (.slice ao_sl_ts x.ts.length cap_sl_ts) : List Value).toArray 60)).alloc (.cells #[.int .u8 0, .int .u8 0, .int .u8 0, .int .u8 0, .int .u8 0, .int .u8 0, .int .u8 0, .int .u8 0, .int .u8 0, .int .u8 0, .int .u8 0, .int .u8 0, .int .u8 0, .int .u8 0, .int .u8 0, .int .u8 0, .int .u8 0, .int .u8 0, .int .u8 0, .int .u8 0, .int .u8 0, .int .u8 0, .int .u8 0, .int .u8 0, .int .u8 0, .int .u8 0, .int .u8 0, .int .u8 0, .int .u8 0, .int .u8 0, .int .u8 0, .int .u8 0] 25)) := ⟨_, rfl⟩
  change Code.wp _ _ _ _ ((w.alloc (.cells (x.cells (.slice ao_sl_ps x.ps.length cap_sl_ps) (.slice ao_sl_os x.os.length cap_sl_os) (.slice ao_sl_ts x.ts.length cap_sl_ts) : List Value).toArray 60)).alloc (.cells #[.int .u8 0, .int .u8 0, .int .u8 0, .int .u8 0, .int .u8 0, .int .u8 0, .int .u8 0, .int .u8 0, .int .u8 0, .int .u8 0, .int .u8 0, .int .u8 0, .int .u8 0, .int .u8 0, .int .u8 0, .int .u8 0, .int .u8 0, .int .u8 0, .int .u8 0, .int .u8 0, .int .u8 0, .int .u8 0, .int .u8 0, .int .u8 0, .int .u8 0, .int .u8 0, .int .u8 0, .int .u8 0, .int .u8 0, .int .u8 0, .int .u8 0, .int .u8 0] 25))
  rw [← hw1]
  have HB1 := hid (show Cs w1 (w.heap.size) (x.cells (.slice ao_sl_ps x.ps.length cap_sl_ps) (.slice ao_sl_os x.os.length cap_sl_os) (.slice ao_sl_ts x.ts.length cap_sl_ts) : List Value).toArray 60 by rw [hw1]; exact (Cs.new _ _ _).alloc _)
  have HB2 := hid (show Cs w1 (w.heap.size + 1) #[.int .u8 0, .int .u8 0, .int .u8 0, .int .u8 0, .int .u8 0, .int .u8 0, .int .u8 0, .int .u8 0, .int .u8 0, .int .u8 0, .int .u8 0, .int .u8 0, .int .u8 0, .int .u8 0, .int .u8 0, .int .u8 0, .int .u8 0, .int .u8 0, .int .u8 0, .int .u8 0, .int .u8 0, .int .u8 0, .int .u8 0, .int .u8 0, .int .u8 0, .int .u8 0, .int .u8 0, .int .u8 0, .int .u8 0, .int .u8 0, .int .u8 0, .int .u8 0] 25 by rw [hw1]; exact Cs_newN _ _ _ (by simp))
  have hm : Mod (fun _ => False) w w1 := by rw [hw1]; exact ((Mod.refl _ _).alloc _).alloc _
  have HM0 := hid (show Mod (fun _ => False) w w1 from hm.mono (fun _ _ h => h.elim))
  have hs1 : w1.heap.size = w.heap.size + 2 := by rw [hw1]; simp
  have Hx1 := hid (HS0.out.mod hm (fun _ _ h => h))
  clear HS0
  have Hx2 := hid (HS1.out.mod hm (fun _ _ h => h))
  clear HS1
  have Hx3 := hid (HS2.out.mod hm (fun _ _ h => h))
  clear HS2
  clear hw1 hm
  go_upto_region 1 with (fail)
  generalize ha0 : Act.mk _ _ = a0
  have oe1 : a0.eval (.tmp 1) = .pointer (some ⟨w.heap.size, 0, none⟩) := by rw [← ha0]; rfl
  have oe2 : a0.eval (.tmp 2) = .pointer (some ⟨w.heap.size + 1, 0, none⟩) := by rw [← ha0]; rfl
  have hsz0 : a0.tmps.size = 6 := by rw [← ha0]; rfl
  have HA0 := hid ha0
  clear ha0
  refine wp_region_Q1 6 hsz0 [3, 4, 5, 9] (fun k => (k = w.heap.size + 1)) (fun k j => (k = 2 ∧ ((j = w.heap.size + 1)))) (fun _ _ h => h.2) [qi (.agg (x.cells (.slice ao_sl_ps x.ps.length cap_sl_ps) (.slice ao_sl_os x.os.length cap_sl_os) (.slice ao_sl_ts x.ts.length cap_sl_ts)).toArray), qv 0, qi (hv (shaF (baB x))), qv 2] ⟨qi_stable, qv_stable, qi_stable, qv_stable, trivial⟩ [1, 2, 3] ⟨?_, ?_, ?_, ?_, trivial⟩ ?_
  · exact stq (fun E => ex_loadA rfl Try.underlying60 rfl (off := 0) (cs := x.cells (.slice ao_sl_ps x.ps.length cap_sl_ps) (.slice ao_sl_os x.os.length cap_sl_os) (.slice ao_sl_ts x.ts.length cap_sl_ts)) (by kernel_rfl) (E.v oe1) (Cs.whole (HB1.out.mod E.m (by intro h2; omega))))
  · exact stepq_chain rfl
  · exact stepq_chain rfl
  · exact stepq_chain rfl
  intro u1_0 hr
  have zu1_0 := hr.size
  have Cx4 := hid (hr.new (S := (fun k => (k = w.heap.size + 1))))
  have Hx5 := hid (HB2.out.mod hr (by intro h2; omega))
  clear HB2
  clear hr
  refine QChain.go fun Z act E => ?_
  refine qc_callF (args := #[.agg (x.cells (.slice ao_sl_ps x.ps.length cap_sl_ps) (.slice ao_sl_os x.os.length cap_sl_os) (.slice ao_sl_ts x.ts.length cap_sl_ts)).toArray]) rfl (wanted_none rfl) rfl Try.func24 (args1 (E.d 0)) (RefBa_Q _ _ x _ ⟨_, _, _, rfl, HOK.out, (Hx1.out.mod Cx4.out (by intro k h1 h2; have hb := HBT.out k h1; omega)), (Hx2.out.mod Cx4.out (by intro k h1 h2; have hb := HBT.out k h1; omega)), (Hx3.out.mod Cx4.out (by intro k h1 h2; have hb := HBT.out k h1; omega))⟩ (by intro k h1; have hb := HBT.out k h1; omega) HL.out) ?_
  rintro e u1_1a ⟨v_a1, rfl, qa1, hm⟩
  obtain ⟨ao_a1, cap_a1, rfl⟩ := qa1.shape
  have zu1_1a := hm.size
  refine ⟨_, rfl, hm.mono (fun _ _ h => h.elim), (fun _ => rfl), ?_⟩
  intro u1_1 hr
  have zu1_1 := hr.size
  have Hx6 := hid ((qa1.widen (R' := (fun k => (New u1_0 u1_1a k))) (fun _ h => h) (Nat.le_refl _)).mod hr (by intro k h1 h2; omega))
  have hmr := Mod.after hm hr
  have Hx7 := hid (Hx5.out.mod hmr (by intro h2; omega))
  clear Hx5
  clear hmr
  have Cx8 := hid (Cx4.out.go hm hr)
  clear Cx4 hm hr Z act E qa1
  refine QChain.go fun Z act E => ?_
  refine qc_callF (args := #[.slice ao_a1 ((baB x).length) cap_a1]) rfl (wanted_none rfl) rfl Try.func97 (args1 (chv (v := .slice ao_a1 ((baB x).length) cap_a1) (E.d 1))) (RefSum_any _ (baB x) _ Hx6.out.rd.1 HL.out) ?_
  rintro e u1_2a ⟨rfl, hm⟩
  have zu1_2a := hm.size
  refine ⟨_, rfl, hm.mono (fun _ _ h => h.elim), (fun _ => rfl), ?_⟩
  intro u1_2 hr
  have zu1_2 := hr.size
  have hmr := Mod.after hm hr
  have Hx9 := hid (Hx7.out.mod hmr (by intro h2; omega))
  have Hx10 := hid (Hx6.out.mod hmr (by intro k h1 h2; omega))
  clear Hx7 Hx6
  clear hmr
  have Cx11 := hid (Cx8.out.go hm hr)
  clear Cx8 hm hr Z act E
  refine QChain.go fun Z act E => ?_
  refine qc_store rfl (wanted_none rfl) rfl Hx9.out (off := 0) (vs := (shaF (baB x)).map bv) (by rw [List.length_map, shaF_len]; exact size_hash) (ints_oneCell .u8 _) (by rw [List.length_map, shaF_len]; decide) (E.v oe2) (by rw [show act.eval ((.tmp 5)) = _ from (E.d 2)]; rfl) ?_
  intro u1_3a qc0 hm
  have qB2 : Cs u1_3a (w.heap.size + 1) ((shaF (baB x)).map bv : List Value).toArray 25 := by rw [show lay _ 0 _ = ((shaF (baB x)).map bv : List Value).toArray from lay_whole _ _ (by rw [List.length_map, shaF_len]; rfl)] at qc0; exact qc0
  clear qc0
  have zu1_3a := hm.size
  refine ⟨hm.mono (by intro k hk h; omega), (fun _ => rfl), ?_⟩
  intro u1_3 hr
  have zu1_3 := hr.size
  have Hx12 := hid (qB2.mod hr (by intro h2; omega))
  have hmr := hm.two hr
  have Hx13 := hid (Hx10.out.mod hmr (by intro k h1 h2; omega))
  clear Hx10
  clear hmr
  have Cx14 := hid (Cx11.out.goM hm hr (fun _ _ h => h))
  clear Cx11 hm hr Z act E qB2 Hx9
  refine QChain.nil fun vs hl hzz hrows hne => ?_
  obtain ⟨Z, hYZ, hZb, hV⟩ := hzz
  have f1 := fvc hV hl 1
  have f2 := fvi hV hl 2
  rw [show vs = [gw vs 0, gw vs 1, gw vs 2, gw vs 3] from (gw_eta hl).trans rfl]
  have ha0 := HA0.out
  subst ha0
  clear HA0 hV hYZ hZb hsz0 hrows hne oe1 oe2
  simp only [putAll, Act.put, List.setIfInBounds_toArray, List.set_cons_zero, List.set_cons_succ, List.set_nil, f1, f2]
  clear hl f1 f2
  go_wp2
  have hs := Hx12.out
  have hsz : (Try.prog.info? 25).map (·.size) = some ((shaF (baB x)).map bv).length := by rw [List.length_map, shaF_len]; exact size_hash
  exact bodyPost_ret (results_cellA rfl _ _ (w.heap.size + 1) ((shaF (baB x)).map bv) rfl (fun k u hu => by rw [Cs.cell hs]; simpa using hu) Try.underlying25 rfl hsz) rfl ⟨rfl, (HM0.out.trans Cx14.out (by intro k h1 h2; omega))⟩
set_option maxHeartbeats 4000000 in
theorem RefPropT_Q : ∀ (R2 : Nat → Prop) (cs : List Value) (x : Pr) (w : World), PrR.rd R2 w cs x → (∀ k, R2 k → k < w.heap.size) → ((propT x).length ≤ 900000 ∧ x.vl < 9223372036854775807) ∧ (baB x.ba).length ≤ 900000 → Calls Try.prog 61 #[.agg cs.toArray] w fun e w' => ∃ v', e = .returned v' ∧ OwR (New w w') 900000 w' v' (propT x) ∧ Mod (fun _ => False) w w' := by
  intro R2 cs x w hx hB2 hl
  obtain ⟨v_ps, v_os, v_ts, rfl, hok, hs0, hs1, hs2⟩ := hx
  have HS0 := Lib.hid hs0
  clear hs0
  have HS1 := Lib.hid hs1
  clear hs1
  have HS2 := Lib.hid hs2
  clear hs2
  have HBT := Lib.hid hB2
  have HOK := Lib.hid hok
  have HL := Lib.hid hl
  clear hB2 hl hok
  have HLB := hid (show (baB x.ba).length ≤ 900000 from HL.out.2)
  have HV := hid (show x.vl < 9223372036854775807 from HL.out.1.2)
  replace HL := Lib.hid HL.out.1.1
  unfold propT at HL
  go_enter Try.func61, Try.ntmps61
  go_upto_region 1 with (fail)
  obtain ⟨w1, hw1⟩ : ∃ zz, zz = (w.alloc (.cells (x.cells v_ps v_os v_ts : List Value).toArray 107)) := ⟨_, rfl⟩
  change Code.wp _ _ _ _ (w.alloc (.cells (x.cells v_ps v_os v_ts : List Value).toArray 107))
  rw [← hw1]
  have HB1 := hid (show Cs w1 (w.heap.size) (x.cells v_ps v_os v_ts : List Value).toArray 107 by rw [hw1]; exact Cs.new _ _ _)
  have hm : Mod (fun _ => False) w w1 := by rw [hw1]; exact (Mod.refl _ _).alloc _
  have HM0 := hid (show Mod (fun _ => False) w w1 from hm.mono (fun _ _ h => h.elim))
  have hs1 : w1.heap.size = w.heap.size + 1 := by rw [hw1]; simp
  have Hx1 := hid (HS0.out.mod hm (fun _ _ h => h))
  clear HS0
  have Hx2 := hid (HS1.out.mod hm (fun _ _ h => h))
  clear HS1
  have Hx3 := hid (HS2.out.mod hm (fun _ _ h => h))
  clear HS2
  clear hw1 hm
  go_upto_region 1 with (fail)
  generalize ha0 : Act.mk _ _ = a0
  have oe1 : a0.eval (.tmp 1) = .pointer (some ⟨w.heap.size, 0, none⟩) := by rw [← ha0]; rfl
  have hsz0 : a0.tmps.size = 26 := by rw [← ha0]; rfl
  have HA0 := hid ha0
  clear ha0
  refine wp_region_Q 26 hsz0 (by kernel_rfl) (by kernel_rfl) [4, 5, 6, 3, 30] (by kernel_rfl) (by decide) (fun _ => False) (fun _ _ => False) (fun _ _ h => h) [qi (.pointer (some ⟨w.heap.size, 4, none⟩)), qi (.agg #[.int .i64 x.ba.ep, .int .u64 (x.ba.tm : Nat), v_ps, v_os, v_ts]), qi (hv (shaF (baB x.ba))), qa, qa] ⟨qi_stable, qi_stable, qi_stable, qa_stable, qa_stable, trivial⟩ [2] (by kernel_rfl) (by decide) (by kernel_rfl) [⟨3, 4, 25, [.int .u8 0, .int .u8 0, .int .u8 0, .int .u8 0, .int .u8 0, .int .u8 0, .int .u8 0, .int .u8 0, .int .u8 0, .int .u8 0, .int .u8 0, .int .u8 0, .int .u8 0, .int .u8 0, .int .u8 0, .int .u8 0, .int .u8 0, .int .u8 0, .int .u8 0, .int .u8 0, .int .u8 0, .int .u8 0, .int .u8 0, .int .u8 0, .int .u8 0, .int .u8 0, .int .u8 0, .int .u8 0, .int .u8 0, .int .u8 0, .int .u8 0, .int .u8 0], 0, (fun t => ((shaF (baB x.ba)).map bv))⟩] (by kernel_rfl) (by intro r hr; simp only [List.mem_cons, List.not_mem_nil, or_false] at hr; rcases hr with rfl <;> exact ⟨by kernel_rfl, by kernel_rfl⟩) (by intro r hr; simp only [List.mem_cons, List.not_mem_nil, or_false] at hr; rcases hr with rfl <;> exact ⟨of_decide_eq_true (by kernel_rfl), of_decide_eq_true (by kernel_rfl)⟩) (by intro r hr; simp only [List.mem_cons, List.not_mem_nil, or_false] at hr; rcases hr with rfl <;> exact fun _ _ _ _ => ⟨trivial, trivial⟩) ⟨?_, ?_, ?_, ?_, ?_, trivial⟩ ?_
  · exact stq (fun E => ex_field rfl Try.underlying107 rfl (by kernel_rfl) (E.v oe1))
  · exact stq (fun E => ex_loadA rfl Try.underlying60 rfl (off := 4) (cs := [.int .i64 x.ba.ep, .int .u64 (x.ba.tm : Nat), v_ps, v_os, v_ts]) (by kernel_rfl) (E.d 0) (Cs.litA (HB1.out.mod E.m.old (by intro h2; omega)) rfl))
  · exact stepq_chain rfl
  · exact stepq_make rfl rfl ⟨rfl, rfl, by kernel_rfl, by kernel_rfl⟩
  · refine stepq_write rfl rfl rfl ⟨rfl, 3, (.tmp 6), rfl, by decide, rfl, by kernel_rfl, fun Z tr act w' hm hout hsz hd hpre => ?_⟩
    have h2 := hd ⟨2, .data⟩ (by simp) rfl _ rfl
    exact ⟨Nat.zero_le _, (by rw [show act.eval ((.tmp 6)) = _ from h2]; rfl), (by rw [List.length_map, shaF_len]; rfl), (ints_oneCell .u8 _)⟩
  intro u1_0 hr
  have zu1_0 := hr.size
  have Cx4 := hid (hr.new (S := (fun _ => False)))
  clear hr
  refine QChain.go fun Z act E => ?_
  refine qc_callF (args := #[.agg #[.int .i64 x.ba.ep, .int .u64 (x.ba.tm : Nat), v_ps, v_os, v_ts]]) rfl (wanted_none rfl) rfl Try.func43 (args1 (E.d 1)) (RefBatchHash_Q _ _ x.ba _ ⟨_, _, _, rfl, HOK.out.2.2.2.2.1, (Hx1.out.mod Cx4.out (fun _ _ h => h)), (Hx2.out.mod Cx4.out (fun _ _ h => h)), (Hx3.out.mod Cx4.out (fun _ _ h => h))⟩ (by intro k h1; have hb := HBT.out k h1; omega) HLB.out) ?_
  rintro e u1_1a ⟨rfl, hm⟩
  have zu1_1a := hm.size
  refine ⟨_, rfl, hm.mono (fun _ _ h => h.elim), (fun _ => rfl), ?_⟩
  intro u1_1 hr
  have zu1_1 := hr.size
  have Cx5 := hid (Cx4.out.go hm hr)
  clear Cx4 hm hr Z act E
  refine QChain.nil fun vs hl hzz hrows hne => ?_
  obtain ⟨Z, hYZ, hZb, hV⟩ := hzz
  obtain ⟨h, g3, hBh, hYh, hCh⟩ := hrows _ (by simp only [List.mem_cons, List.not_mem_nil, or_false]; trivial)
  have f3 : gw vs 3 = _ := getv g3
  (try dsimp only at hBh hYh); (try simp only [false_or] at hBh hYh)
  have zqh := hCh.lt
  have Hx6 := hid (show Cs u1_1 h (((shaF (baB x.ba)).map bv) : List Value).toArray 25 from hCh)
  have f2 := fvi hV hl 2
  rw [show vs = [gw vs 0, gw vs 1, gw vs 2, gw vs 3, gw vs 4] from (gw_eta hl).trans rfl]
  have ha0 := HA0.out
  subst ha0
  clear HA0 hV hYZ hZb hsz0 hrows hne oe1 hCh g3
  simp only [putAll, Act.put, List.setIfInBounds_toArray, List.set_cons_zero, List.set_cons_succ, List.set_nil, f3, f2]
  clear hl f3 f2
  go_upto_region 2 with (fail)
  generalize ha0 : Act.mk _ _ = a0
  have oe1 : a0.eval (.tmp 1) = .pointer (some ⟨w.heap.size, 0, none⟩) := by rw [← ha0]; rfl
  have oe3 : a0.eval (.tmp 3) = .pointer (some ⟨h, 0, none⟩) := by rw [← ha0]; rfl
  have hsz0 : a0.tmps.size = 26 := by rw [← ha0]; rfl
  have HA0 := hid ha0
  clear ha0
  refine wp_region_Q0 26 hsz0 [7, 8, 9, 10, 11, 12, 13, 14, 15, 16, 17, 18, 19, 20, 21, 22, 23, 24, 25, 2] [ql u1_1.heap.size 5 ([112, 114, 111, 112, 111, 115, 97, 108].map bv).toArray, ql u1_1.heap.size 5 ([112, 114, 111, 112, 111, 115, 97, 108].map bv).toArray, qv 0, qi (.pointer (some ⟨w.heap.size, 0, none⟩)), qi (.int .i64 x.ep), qv 1, qi (.pointer (some ⟨w.heap.size, 1, none⟩)), qi (.int .i64 x.rn), qv 2, qi (.pointer (some ⟨w.heap.size, 2, none⟩)), qi (.int .i64 x.vl), qi (.int .i64 (x.vl + 1)), qv 3, qi (.pointer (some ⟨w.heap.size, 3, none⟩)), qi (.int .i64 x.rp), qv 4, qi (.slice (some ⟨h, 0, none⟩) 32 32), qv 5, qv 6, qv 6] ⟨ql_stable, ql_stable, qv_stable, qi_stable, qi_stable, qv_stable, qi_stable, qi_stable, qv_stable, qi_stable, qi_stable, qi_stable, qv_stable, qi_stable, qi_stable, qv_stable, qi_stable, qv_stable, qv_stable, qv_stable, trivial⟩ [2, 5, 8, 12, 15, 17, 18] ⟨?_, ?_, ?_, ?_, ?_, ?_, ?_, ?_, ?_, ?_, ?_, ?_, ?_, ?_, ?_, ?_, ?_, ?_, ?_, ?_, trivial⟩ ?_
  · refine stepq_env rfl rfl rfl fun _ tr _ _ hZ hm _ _ _ _ _ _ => ?_
    exact qe_run rfl (wanted_none rfl) (ex_lit rfl Try.underlying38 (by kernel_rfl) (by decide) (C := ([112, 114, 111, 112, 111, 115, 97, 108].map bv).toArray) (by simp only [List.map_toArray, List.map_cons, List.map_nil, Act.eval]; kernel_rfl)) (QE.still ((Mod.refl _ _).alloc _)) (ql_new (t := tr) (C := ([112, 114, 111, 112, 111, 115, 97, 108].map bv).toArray) hm.size hZ)
  · refine stepq_env rfl rfl rfl fun _ _ _ _ _ _ _ _ _ hd _ _ => ?_
    have h0 := hd ⟨0, .data⟩ (by simp) rfl _ rfl
    exact qe_mark rfl (wanted_none rfl) rfl Try.underlying38 Try.underlying5 h0 (fun _ _ h => h)
  · exact stepq_chain rfl
  · exact stq (fun E => ex_field rfl Try.underlying107 rfl (by kernel_rfl) (E.v oe1))
  · exact stq (fun E => ex_load1 rfl Try.underlying3 rfl (E.d 3) (Cs.lit1 ((HB1.out.mod Cx5.out (fun h => h)).mod E.m.old (by intro h2; omega)) rfl))
  · exact stepq_chain rfl
  · exact stq (fun E => ex_field rfl Try.underlying107 rfl (by kernel_rfl) (E.v oe1))
  · exact stq (fun E => ex_load1 rfl Try.underlying3 rfl (E.d 6) (Cs.lit1 ((HB1.out.mod Cx5.out (fun h => h)).mod E.m.old (by intro h2; omega)) rfl))
  · exact stepq_chain rfl
  · exact stq (fun E => ex_field rfl Try.underlying107 rfl (by kernel_rfl) (E.v oe1))
  · exact stq (fun E => ex_load1 rfl Try.underlying3 rfl (E.d 9) (Cs.lit1 ((HB1.out.mod Cx5.out (fun h => h)).mod E.m.old (by intro h2; omega)) rfl))
  · exact stq (fun E => ex_binE rfl (E.d 10) rfl (guard_ints _ _ _ _ _ _) (run_add_i _ _ Try.underlying3) (congrArg (Value.int .i64) (IntWalk.i64_in _ (by have h := HOK.out.2.2.1; have h2 := HV.out; unfold I64 at h; omega))))
  · exact stepq_chain rfl
  · exact stq (fun E => ex_field rfl Try.underlying107 rfl (by kernel_rfl) (E.v oe1))
  · exact stq (fun E => ex_load1 rfl Try.underlying3 rfl (E.d 13) (Cs.lit1 ((HB1.out.mod Cx5.out (fun h => h)).mod E.m.old (by intro h2; omega)) rfl))
  · exact stepq_chain rfl
  · exact stq (fun E => ex_sliceArr rfl Try.underlying25 (by kernel_rfl) (E.v oe3) (by decide))
  · exact stepq_chain rfl
  · exact stepq_chain rfl
  · refine stepq_env rfl rfl rfl fun _ _ _ _ _ _ _ _ _ hd _ _ => ?_
    have h18 := hd ⟨18, .data⟩ (by simp) rfl _ rfl
    exact qe_run rfl (wanted_none rfl) (ex_assign rfl rfl) QE.refl h18
  intro u2_0 hr
  have zu2_0 := hr.size
  have Cx7 := hid (hr.new (S := (fun _ => False)))
  clear hr
  refine QChain.go fun Z act E => ?_
  have hq2 : ql u1_1.heap.size 5 ([112, 114, 111, 112, 111, 115, 97, 108].map bv).toArray Z [] (act.eval (.tmp 8)) u2_0 := (E.d 1)
  obtain ⟨R3, hR3, hrd2⟩ := ql.rd (by unfold Bytes; decide) hq2 (by decide)
  refine qc_callF (args := #[act.eval (.tmp 8)]) rfl (wanted_none rfl) rfl Try.func102 (args1 rfl) (RefRow_W wProp rfl hrd2 (by have := HL.out; simp only [List.length_append] at this ⊢; omega)) ?_
  rintro e u2_1a ⟨v_a1, rfl, qa1, hm⟩
  obtain ⟨ao_a1, cap_a1, rfl⟩ := qa1.shape
  have zu2_1a := hm.size
  refine ⟨_, rfl, hm.mono (fun _ _ h => h.elim), (fun _ => rfl), ?_⟩
  intro u2_1 hr
  have zu2_1 := hr.size
  have Hx8 := hid ((qa1.widen (R' := (fun k => (New u2_0 u2_1a k))) (fun _ h => h) (Nat.le_refl _)).mod hr (by intro k h1 h2; omega))
  have Cx9 := hid (Cx7.out.go hm hr)
  clear Cx7 hm hr qa1
  refine QChain.go fun Z act E => ?_
  refine qc_callF (args := #[.int .i64 x.ep]) rfl (wanted_none rfl) rfl Try.func70 (args1 (E.d 4)) (RefInt_Q _ HOK.out.1 _) ?_
  rintro e u2_2a ⟨v_a2, rfl, qa2, hm⟩
  obtain ⟨ao_a2, cap_a2, rfl⟩ := qa2.shape
  have zu2_2a := hm.size
  refine ⟨_, rfl, hm.mono (fun _ _ h => h.elim), (fun _ => rfl), ?_⟩
  intro u2_2 hr
  have zu2_2 := hr.size
  have Hx10 := hid ((qa2.widen (R' := (fun k => (New u2_1 u2_2a k))) (fun _ h => h) (Nat.le_refl _)).mod hr (by intro k h1 h2; omega))
  have hmr := Mod.after hm hr
  have Hx11 := hid (Hx8.out.mod hmr (by intro k h1 h2; omega))
  clear Hx8
  clear hmr
  have Cx12 := hid (Cx9.out.go hm hr)
  clear Cx9 hm hr Z act E qa2
  refine QChain.go fun Z act E => ?_
  refine qc_callF (args := #[.int .i64 x.rn]) rfl (wanted_none rfl) rfl Try.func70 (args1 (E.d 7)) (RefInt_Q _ HOK.out.2.1 _) ?_
  rintro e u2_3a ⟨v_a3, rfl, qa3, hm⟩
  obtain ⟨ao_a3, cap_a3, rfl⟩ := qa3.shape
  have zu2_3a := hm.size
  refine ⟨_, rfl, hm.mono (fun _ _ h => h.elim), (fun _ => rfl), ?_⟩
  intro u2_3 hr
  have zu2_3 := hr.size
  have Hx13 := hid ((qa3.widen (R' := (fun k => (New u2_2 u2_3a k))) (fun _ h => h) (Nat.le_refl _)).mod hr (by intro k h1 h2; omega))
  have hmr := Mod.after hm hr
  have Hx14 := hid (Hx11.out.mod hmr (by intro k h1 h2; omega))
  have Hx15 := hid (Hx10.out.mod hmr (by intro k h1 h2; omega))
  clear Hx11 Hx10
  clear hmr
  have Cx16 := hid (Cx12.out.go hm hr)
  clear Cx12 hm hr Z act E qa3
  refine QChain.go fun Z act E => ?_
  refine qc_callF (args := #[.int .i64 (x.vl + 1)]) rfl (wanted_none rfl) rfl Try.func70 (args1 (E.d 11)) (RefInt_Q _ (by have h := HOK.out.2.2.1; have h2 := HV.out; unfold I64 at h ⊢; omega) _) ?_
  rintro e u2_4a ⟨v_a4, rfl, qa4, hm⟩
  obtain ⟨ao_a4, cap_a4, rfl⟩ := qa4.shape
  have zu2_4a := hm.size
  refine ⟨_, rfl, hm.mono (fun _ _ h => h.elim), (fun _ => rfl), ?_⟩
  intro u2_4 hr
  have zu2_4 := hr.size
  have Hx17 := hid ((qa4.widen (R' := (fun k => (New u2_3 u2_4a k))) (fun _ h => h) (Nat.le_refl _)).mod hr (by intro k h1 h2; omega))
  have hmr := Mod.after hm hr
  have Hx18 := hid (Hx14.out.mod hmr (by intro k h1 h2; omega))
  have Hx19 := hid (Hx15.out.mod hmr (by intro k h1 h2; omega))
  have Hx20 := hid (Hx13.out.mod hmr (by intro k h1 h2; omega))
  clear Hx14 Hx15 Hx13
  clear hmr
  have Cx21 := hid (Cx16.out.go hm hr)
  clear Cx16 hm hr Z act E qa4
  refine QChain.go fun Z act E => ?_
  refine qc_callF (args := #[.int .i64 x.rp]) rfl (wanted_none rfl) rfl Try.func70 (args1 (E.d 14)) (RefInt_Q _ HOK.out.2.2.2.1 _) ?_
  rintro e u2_5a ⟨v_a5, rfl, qa5, hm⟩
  obtain ⟨ao_a5, cap_a5, rfl⟩ := qa5.shape
  have zu2_5a := hm.size
  refine ⟨_, rfl, hm.mono (fun _ _ h => h.elim), (fun _ => rfl), ?_⟩
  intro u2_5 hr
  have zu2_5 := hr.size
  have Hx22 := hid ((qa5.widen (R' := (fun k => (New u2_4 u2_5a k))) (fun _ h => h) (Nat.le_refl _)).mod hr (by intro k h1 h2; omega))
  have hmr := Mod.after hm hr
  have Hx23 := hid (Hx18.out.mod hmr (by intro k h1 h2; omega))
  have Hx24 := hid (Hx19.out.mod hmr (by intro k h1 h2; omega))
  have Hx25 := hid (Hx20.out.mod hmr (by intro k h1 h2; omega))
  have Hx26 := hid (Hx17.out.mod hmr (by intro k h1 h2; omega))
  clear Hx18 Hx19 Hx20 Hx17
  clear hmr
  have Cx27 := hid (Cx21.out.go hm hr)
  clear Cx21 hm hr Z act E qa5
  refine QChain.go fun Z act E => ?_
  have ea9 : act.eval (.tmp 9) = .slice ao_a1 ((wordB wProp).length) cap_a1 := (chv (v := .slice ao_a1 ((wordB wProp).length) cap_a1) (E.d 2))
  have ea12 : act.eval (.tmp 12) = .slice ao_a2 ((encI x.ep).length) cap_a2 := (chv (v := .slice ao_a2 ((encI x.ep).length) cap_a2) (E.d 5))
  have ea15 : act.eval (.tmp 15) = .slice ao_a3 ((encI x.rn).length) cap_a3 := (chv (v := .slice ao_a3 ((encI x.rn).length) cap_a3) (E.d 8))
  have ea19 : act.eval (.tmp 19) = .slice ao_a4 ((encI (x.vl + 1)).length) cap_a4 := (chv (v := .slice ao_a4 ((encI (x.vl + 1)).length) cap_a4) (E.d 12))
  have ea22 : act.eval (.tmp 22) = .slice ao_a5 ((encI x.rp).length) cap_a5 := (chv (v := .slice ao_a5 ((encI x.rp).length) cap_a5) (E.d 15))
  have ea23 : act.eval (.tmp 23) = .slice (some ⟨h, 0, none⟩) 32 32 := (E.d 16)
  refine qc_rows rfl (wanted_none rfl) rfl Try.underlying144 (by decide) (C := #[.slice ao_a1 ((wordB wProp).length) cap_a1, .slice ao_a2 ((encI x.ep).length) cap_a2, .slice ao_a3 ((encI x.rn).length) cap_a3, .slice ao_a4 ((encI (x.vl + 1)).length) cap_a4, .slice ao_a5 ((encI x.rp).length) cap_a5, .slice (some ⟨h, 0, none⟩) 32 32]) (by simp only [List.map_toArray, List.map_cons, List.map_nil, ea9, ea12, ea15, ea19, ea22, ea23]; kernel_rfl) ?_
  intro u2_6a qrow17 hm
  have zl2_17 := qrow17.lt
  have zu2_6a := hm.size
  refine ⟨hm.mono (fun _ _ h => h.elim), (fun _ => rfl), ?_⟩
  intro u2_6 hr
  have zu2_6 := hr.size
  have Hx28 := hid (qrow17.mod hr (by intro h2; omega))
  have hmr := Mod.after hm hr
  have Hx29 := hid (Hx23.out.mod hmr (by intro k h1 h2; omega))
  have Hx30 := hid (Hx24.out.mod hmr (by intro k h1 h2; omega))
  have Hx31 := hid (Hx25.out.mod hmr (by intro k h1 h2; omega))
  have Hx32 := hid (Hx26.out.mod hmr (by intro k h1 h2; omega))
  have Hx33 := hid (Hx22.out.mod hmr (by intro k h1 h2; omega))
  clear Hx23 Hx24 Hx25 Hx26 Hx22
  clear hmr
  have Cx34 := hid (Cx27.out.go hm hr)
  clear Cx27 hm hr Z act E qrow17 ea9 ea12 ea15 ea19 ea22 ea23
  refine QChain.go fun Z act E => ?_
  refine qc_callF (args := #[.slice (some ⟨u2_5.heap.size, 0, none⟩) 6 6]) rfl (wanted_none rfl) rfl Try.func68 (args1 (chv (v := .slice (some ⟨u2_5.heap.size, 0, none⟩) 6 6) (E.d 17))) (Join_Q (n := 6)  Hx28.out [(.slice ao_a1 ((wordB wProp).length) cap_a1, wordB wProp), (.slice ao_a2 ((encI x.ep).length) cap_a2, encI x.ep), (.slice ao_a3 ((encI x.rn).length) cap_a3, encI x.rn), (.slice ao_a4 ((encI (x.vl + 1)).length) cap_a4, encI (x.vl + 1)), (.slice ao_a5 ((encI x.rp).length) cap_a5, encI x.rp), (.slice (some ⟨h, 0, none⟩) 32 32, (shaF (baB x.ba)))] rfl rfl (by intro p hp; simp only [List.mem_cons, List.not_mem_nil, or_false] at hp; rcases hp with rfl | rfl | rfl | rfl | rfl | rfl <;> first | exact Hx29.out.rd.1 | exact Hx30.out.rd.1 | exact Hx31.out.rd.1 | exact Hx32.out.rd.1 | exact Hx33.out.rd.1 | exact RdB_arr3 (Cs.whole (Hx6.out.mod Cx34.out (fun h => h))) (show HK _ from ⟨shaF_len _, shaF_bytes _⟩)) (by simp) (show flat _ = wordB wProp ++ (encI x.ep ++ (encI x.rn ++ (encI (x.vl + 1) ++ (encI x.rp ++ (shaF (baB x.ba)))))) from by simp only [flat, List.map_cons, List.map_nil, List.flatten_cons, List.flatten_nil, List.append_nil]) (by have := HL.out; simp only [List.length_append] at this ⊢; omega)) ?_
  rintro e u2_7a ⟨v_join1, rfl, qjoin1, hm⟩
  have zu2_7a := hm.size
  refine ⟨_, rfl, hm.mono (fun _ _ h => h.elim), (fun _ => rfl), ?_⟩
  intro u2_7 hr
  have zu2_7 := hr.size
  have Hx35 := hid ((qjoin1.widen (R' := (fun k => (New u2_6 u2_7a k))) (fun _ h => h) (Nat.le_refl _)).mod hr (by intro k h1 h2; omega))
  have hmr := Mod.after hm hr
  have Hx36 := hid (Hx29.out.mod hmr (by intro k h1 h2; omega))
  have Hx37 := hid (Hx30.out.mod hmr (by intro k h1 h2; omega))
  have Hx38 := hid (Hx31.out.mod hmr (by intro k h1 h2; omega))
  have Hx39 := hid (Hx32.out.mod hmr (by intro k h1 h2; omega))
  have Hx40 := hid (Hx33.out.mod hmr (by intro k h1 h2; omega))
  have Hx41 := hid (Hx28.out.mod hmr (by intro h2; omega))
  clear Hx29 Hx30 Hx31 Hx32 Hx33 Hx28
  clear hmr
  have Cx42 := hid (Cx34.out.go hm hr)
  clear Cx34 hm hr Z act E qjoin1
  refine QChain.nil fun vs hl hzz hrows hne => ?_
  obtain ⟨Z, hYZ, hZb, hV⟩ := hzz
  have f2 := fvc hV hl 2
  have f5 := fvc hV hl 5
  have f8 := fvc hV hl 8
  have f12 := fvc hV hl 12
  have f15 := fvc hV hl 15
  have f17 := fvc hV hl 17
  have f18 := fvc hV hl 18
  have f19 := fvc hV hl 19
  rw [show vs = [gw vs 0, gw vs 1, gw vs 2, gw vs 3, gw vs 4, gw vs 5, gw vs 6, gw vs 7, gw vs 8, gw vs 9, gw vs 10, gw vs 11, gw vs 12, gw vs 13, gw vs 14, gw vs 15, gw vs 16, gw vs 17, gw vs 18, gw vs 19] from (gw_eta hl).trans rfl]
  have ha0 := HA0.out
  subst ha0
  clear HA0 hV hYZ hZb hsz0 hrows hne oe1 oe3
  simp only [putAll, Act.put, List.setIfInBounds_toArray, List.set_cons_zero, List.set_cons_succ, f2, f5, f8, f12, f15, f17, f18, f19]
  clear hl f2 f5 f8 f12 f15 f17 f18 f19
  go_wp2
  go_ret
  have hq := (Hx35.out.widen (R' := (fun k => New w u2_7 k)) (by intro k h1; omega) (Nat.le_refl _))
  (try simp only [List.append_assoc, List.nil_append] at hq)
  exact ⟨v_join1, rfl, by simpa only [propT, List.append_assoc] using hq, ((HM0.out.trans Cx5.out (fun _ _ h => h.elim)).trans Cx42.out (fun _ _ h => h.elim))⟩
end Go.Proofs.Ytknpapcfhnhheaa

/- How long bytes are; lists of values. -/
set_option maxRecDepth 100000
set_option linter.unusedVariables false
namespace Go.Proofs.Ytknpapcfhnhheaa
open Go Go.RowKit Go.Gv


theorem wordB_len (s : ByteArray) (h : s.size ≤ 100) : (wordB s).length ≤ 110 := by
  have hb : (bytesOf s).length = s.size := by simp [bytesOf]
  have := (encN_len10 (n := (bytesOf s).length) (by unfold U64; omega)).2
  simp only [wordB, List.length_append]
  omega
theorem RdS_mem {α : Type} {A : Rep α} {R : Nat → Prop} {w : World} {v : Value} {l : List α} (h : RdS A R w v l) : ∀ a ∈ l, ∃ cs, A.rd R w cs a := by
  obtain ⟨css, h1, h2, -⟩ := h
  intro a ha
  obtain ⟨i, hi, rfl⟩ := List.getElem_of_mem ha
  exact ⟨css[i], h2 i _ _ (List.getElem?_eq_getElem (by omega)) (List.getElem?_eq_getElem hi)⟩
theorem flatB_le {α : Type} (f : α → List Int) (N : Nat) : ∀ l : List α, (∀ a ∈ l, (f a).length ≤ N) → ((l.map f).flatten).length ≤ l.length * N
  | [], _ => by simp
  | a :: r, h => by
    have h1 := h a (by simp)
    have h2 := flatB_le f N r (fun b hb => h b (by simp [hb]))
    simp only [List.map_cons, List.flatten_cons, List.length_append, List.length_cons, Nat.add_mul]
    omega
theorem listB_len {α : Type} (f : α → List Int) {N M : Nat} {l : List α} (hl : l.length ≤ M) (hM : M ≤ 1000000) (h : ∀ a ∈ l, (f a).length ≤ N) : (listB f l).length ≤ 10 + M * N := by
  have h1 := flatB_le f N l h
  have h2 := encI_len0 (l.length : Int) (by unfold I64; omega)
  have h3 := Nat.mul_le_mul_right N hl
  simp only [listB, List.length_append]
  omega
theorem stB_len {x : St} (h : x.OK) : (stB x).length ≤ 92 := by
  have h1 := encI_len0 _ h.rp; have h2 := encI_len0 _ h.cl; have h3 := encI_len0 _ h.sq; have h4 := (encN_len10 h.tm).2; have h5 := encI_len0 _ h.sb; have h6 := encI_len0 _ h.mr; have h7 := h.h.1
  simp only [stB, nameB, sigB, List.length_append]; omega
theorem cmB_len {x : Cm} (h : x.OK) : (cmB x).length ≤ 82 := by
  obtain ⟨⟨a, b, c, d, e⟩, f⟩ := h
  have h1 := encI_len0 _ a; have h2 := encI_len0 _ b; have h3 := encI_len0 _ c; have h4 := encI_len0 _ d; have h5 := encI_len0 _ e; have h7 := f.1
  simp only [cmB, nameB, sigB, List.length_append]; omega
theorem ceB_len {R : Nat → Prop} {w : World} {cs : List Value} {x : Ce} (h : CeR.rd R w cs x) (hl : x.l.length ≤ 5) : (ceB x).length ≤ 552 := by
  obtain ⟨_, rfl, hok, hs⟩ := h
  have h1 := listB_len stB hl (by decide) (fun a ha => by obtain ⟨cs, e, hk⟩ := RdS_mem hs a ha; exact stB_len hk)
  have h2 := cmB_len hok
  simp only [ceB, List.length_append]; omega
theorem promT_len {R : Nat → Prop} {w : World} {cs : List Value} {x : Pm} (h : PmR.rd R w cs (cutPm x)) : (promT (cutPm x)).length ≤ 900000 := by
  obtain ⟨_, rfl, ⟨a, b, c, d, e⟩, hs⟩ := h
  have h1 := encI_len0 _ a; have h2 := encI_len0 _ b; have h3 := (encN_len10 c).2
  have h4 := listB_len ceB (M := 3) (show (cutPm x).l.length ≤ 3 by simp [cutPm]; omega) (by decide) (fun y hy => by
    obtain ⟨cs, hc⟩ := RdS_mem hs y hy
    refine ceB_len hc ?_
    obtain ⟨z, -, rfl⟩ := List.mem_map.1 hy
    simp [cutCe]; omega)
  have h5 := wordB_len wProm (by decide)
  simp only [promT, List.length_append]; omega
theorem stampT_len {x : St} (h : x.OK) : (stampT x).length ≤ 900000 := by
  have h1 := encI_len0 _ h.rp; have h2 := encI_len0 _ h.cl; have h3 := encI_len0 _ h.sq; have h4 := (encN_len10 h.tm).2; have h7 := h.h.1; have h5 := wordB_len wStamp (by decide)
  simp only [stampT, nameB, List.length_append]; omega
theorem ackT_len {x : St} (h : x.OK) : (ackT x).length ≤ 900000 := by
  have h1 := encI_len0 _ h.rp; have h2 := encI_len0 _ h.cl; have h3 := encI_len0 _ h.sq; have h4 := (encN_len10 h.tm).2; have h7 := h.h.1; have h5 := wordB_len wAck (by decide)
  simp only [ackT, nameB, List.length_append]; omega
theorem denyT_len {x : Dn} (h : x.OK) : (denyT x).length ≤ 900000 := by
  have h1 := encI_len0 _ h.rp; have h2 := encI_len0 _ h.ix; have h5 := wordB_len wDeny (by decide)
  simp only [denyT, List.length_append]; omega
theorem voteT_len {x : Vt} (h : x.OK) : (voteT x).length ≤ 900000 := by
  have h1 := encI_len0 _ h.kd; have h2 := encI_len0 _ h.ep; have h3 := encI_len0 _ h.rd; have h4 := encI_len0 _ h.rp; have h7 := h.h.1; have h5 := wordB_len wVote (by decide)
  simp only [voteT, List.length_append]; omega
theorem Same_true {R R' : Nat → Prop} {N N' : Nat} {va vb : Value} {a b : List Int} {w : World} (ha : RdR R N w va a) (hb : RdR R' N' w vb b) (h : a = b) :
    Calls Try.prog 18 #[va, vb] w fun e w' => e = .returned (.bool true) ∧ Mod (fun _ => False) w w' :=
  (Same_R ha hb).mono fun _ _ ⟨he, hm⟩ => ⟨he.trans (by rw [decide_eq_true h]), hm⟩
theorem pmB_len {R : Nat → Prop} {w : World} {cs : List Value} {x : Pm} (h : PmR.rd R w cs x) (hl : ∃ y, x = cutPm y) : (pmB x).length ≤ 1800 := by
  obtain ⟨y, rfl⟩ := hl
  obtain ⟨_, rfl, ⟨a, b, c, d, e⟩, hs⟩ := h
  have h1 := encI_len0 _ a; have h2 := encI_len0 _ b; have h3 := (encN_len10 c).2; have h4 := encI_len0 _ d; have h5 := encI_len0 _ e
  have h6 := listB_len ceB (M := 3) (show (cutPm y).l.length ≤ 3 by simp [cutPm]; omega) (by decide) (fun z hz => by
    obtain ⟨cs, hc⟩ := RdS_mem hs z hz
    refine ceB_len hc ?_
    obtain ⟨u, -, rfl⟩ := List.mem_map.1 hz
    simp [cutCe]; omega)
  simp only [pmB, sigB, List.length_append]; omega
theorem opB_len {R : Nat → Prop} {w : World} {cs : List Value} {x : Op} (h : OpR.rd R w cs x) (hl : x.pl.length ≤ 260) : (opB x).length ≤ 312 := by
  obtain ⟨_, rfl, ⟨a, b⟩, hs⟩ := h
  have h1 := encI_len0 _ a; have h2 := (encN_len10 (n := x.pl.length) (by unfold U64; omega)).2; have h3 := b.1
  simp only [opB, List.length_append]; omega
theorem dnB_len {x : Dn} (h : x.OK) : (dnB x).length ≤ 40 := by
  have h1 := encI_len0 _ h.rp; have h2 := encI_len0 _ h.ix; have h5 := encI_len0 _ h.sb; have h6 := encI_len0 _ h.mr
  simp only [dnB, sigB, List.length_append]; omega
theorem tbB_len {R : Nat → Prop} {w : World} {cs : List Value} {x : Tb} (h : TbR.rd R w cs x) (hl : x.l.length ≤ 5) : (tbB x).length ≤ 220 := by
  obtain ⟨_, rfl, a, hs⟩ := h
  have h1 := encI_len0 _ a
  have h2 := listB_len dnB hl (by decide) (fun z hz => by obtain ⟨cs, e, hk⟩ := RdS_mem hs z hz; exact dnB_len hk)
  simp only [tbB, List.length_append]; omega
theorem baB_len {R : Nat → Prop} {w : World} {x : Ba} {vp vo vt : Value} (hok : x.OK) (hp : RdS PmR R w vp (cutBa x).ps) (ho : RdS OpR R w vo (cutBa x).os) (ht : RdS TbR R w vt (cutBa x).ts) : (baB (cutBa x)).length ≤ 100000 := by
  have h1 := encI_len0 _ hok.1; have h2 := (encN_len10 hok.2).2
  have h3 := listB_len pmB (M := 4) (l := (cutBa x).ps) (by simp [cutBa]; omega) (by decide) (fun z hz => by
    obtain ⟨cs, hc⟩ := RdS_mem hp z hz
    obtain ⟨u, -, rfl⟩ := List.mem_map.1 hz
    exact pmB_len hc ⟨u, rfl⟩)
  have h4 := listB_len opB (M := 4) (l := (cutBa x).os) (by simp [cutBa]; omega) (by decide) (fun z hz => by
    obtain ⟨cs, hc⟩ := RdS_mem ho z hz
    obtain ⟨u, -, rfl⟩ := List.mem_map.1 hz
    exact opB_len hc (by simp [cutOp]; omega))
  have h5 := listB_len tbB (M := 4) (l := (cutBa x).ts) (by simp [cutBa]; omega) (by decide) (fun z hz => by
    obtain ⟨cs, hc⟩ := RdS_mem ht z hz
    obtain ⟨u, -, rfl⟩ := List.mem_map.1 hz
    exact tbB_len hc (by simp [cutTb]; omega))
  have e1 : (encI (cutBa x).ep).length ≤ 10 := h1
  have e2 : (encN (cutBa x).tm).length ≤ 10 := h2
  simp only [baB, List.length_append]; omega
theorem propT_len {x : Pr} (h : x.OK) (hv : x.vl < 9223372036854775807) : (propT x).length ≤ 900000 := by
  obtain ⟨a, b, c, d, ⟨e, f⟩, g, k⟩ := h
  have hv' : I64 (x.vl + 1) := by unfold I64 at c ⊢; omega
  have i0 := encI_len0 _ a; have i1 := encI_len0 _ b; have i2 := encI_len0 _ hv'; have i3 := encI_len0 _ d
  have h5 := wordB_len wProp (by decide)
  simp only [propT, List.length_append, shaF_len]; omega
end Go.Proofs.Ytknpapcfhnhheaa

/- wire.ValidConf, N, Quorum, and the statement WireConfs. -/
set_option maxRecDepth 100000
namespace Go.Proofs.Ytknpapcfhnhheaa
open Go Go.RowKit Go.Gv

theorem N_any (F C : Int) (h : -1000 ≤ F ∧ F ≤ 1000) (w : World) : Calls Try.prog 48 #[.agg #[.int .i64 F, .int .i64 C]] w fun e w' => e = .returned (.int .i64 (3 * F + 1)) ∧ Mod (fun _ => False) w w' := by
  obtain ⟨h1, h2⟩ := h
  go_enter Try.func48, Try.ntmps48
  go_wp2
  go_ret
  exact ⟨rfl, (Mod.refl _ _).alloc _⟩
theorem Quorum_any (F C : Int) (h : -1000 ≤ F ∧ F ≤ 1000) (w : World) : Calls Try.prog 49 #[.agg #[.int .i64 F, .int .i64 C]] w fun e w' => e = .returned (.int .i64 (2 * F + 1)) ∧ Mod (fun _ => False) w w' := by
  obtain ⟨h1, h2⟩ := h
  go_enter Try.func49, Try.ntmps49
  go_wp2
  go_ret
  exact ⟨rfl, (Mod.refl _ _).alloc _⟩

theorem wakes05 (w : World) : Calls Try.prog 19 #[] w fun e w' => e = .returned (.bool true) ∧ Mod (fun _ => False) w w' := by
  go_enter Try.func19, Try.ntmps19
  go_wp2_with fail
  refine (N_any 1 0 (by omega) _).mono ?_
  rintro e w1 ⟨rfl, hm1⟩
  have HM1 := Lib.hid hm1
  clear hm1
  go_wp2_with fail
  refine (Quorum_any 1 0 (by omega) _).mono ?_
  rintro e w2 ⟨rfl, hm2⟩
  have HM2 := Lib.hid hm2
  clear hm2
  go_wp2
  go_ret
  exact ⟨rfl, HM1.out.trans HM2.out (fun _ _ h => h)⟩

end Go.Proofs.Ytknpapcfhnhheaa

/- WireTexts: the walk. -/
set_option maxRecDepth 100000
set_option linter.unusedVariables false
namespace Go.Proofs.Ytknpapcfhnhheaa
open Go Go.RowKit Go.Gv

set_option maxHeartbeats 8000000 in
theorem LTx_any (R2 : Nat → Prop) (xs xa : St) (xc : Pm) (cs : List Value) (xd : Dn) (xo : Pr) (cs' : List Value) (xv : Vt) (w : World) (hs : xs.OK) (ha : xa.OK) (hc : PmR.rd R2 w cs xc) (hd0 : xd.OK) (ho : PrR.rd R2 w cs' xo) (hv0 : xv.OK) (hB2 : ∀ k, R2 k → k < w.heap.size) :
    Calls Try.prog 9 #[.agg xs.cells.toArray, .agg xa.cells.toArray, .agg cs.toArray, .agg xd.cells.toArray, .agg cs'.toArray, .agg xv.cells.toArray] w fun e w' => e = .returned (.bool true) ∧ Mod (fun _ => False) w w' := by
  obtain ⟨v_l, rfl, hokc, hs0⟩ := hc
  obtain ⟨aoc, capc, rfl⟩ := hs0.shape
  obtain ⟨v1, v2, v3, rfl, hoko, hs1, hs2, hs3⟩ := ho
  obtain ⟨ao1, cap1, rfl⟩ := hs1.shape
  obtain ⟨ao2, cap2, rfl⟩ := hs2.shape
  obtain ⟨ao3, cap3, rfl⟩ := hs3.shape
  have HS0 := Lib.hid hs0
  have HS1 := Lib.hid hs1
  have HS2 := Lib.hid hs2
  have HS3 := Lib.hid hs3
  have HBT := Lib.hid hB2
  have HOA := Lib.hid hs
  have HOB := Lib.hid ha
  have HOC := Lib.hid hokc
  have HOD := Lib.hid hd0
  have HOE := Lib.hid hoko
  have HOF := Lib.hid hv0
  clear hs0 hs1 hs2 hs3 hB2 hs ha hokc hd0 hoko hv0
  go_enter Try.func9, Try.ntmps9
  go_upto_region 1 with (fail)
  obtain ⟨w1, hw1⟩ : ∃ zz, zz = ((((((w.alloc (.cells (xs.cells : List Value).toArray 30)).alloc (.cells (xa.cells : List Value).toArray 44)).alloc (.cells (xc.cells (.slice aoc xc.l.length capc) : List Value).toArray 55)).alloc (.cells (xd.cells : List Value).toArray 34)).alloc (.cells (xo.cells (.slice ao1 xo.ba.ps.length cap1) (.slice ao2 xo.ba.os.length cap2) (.slice ao3 xo.ba.ts.length cap3) : List Value).toArray 107)).alloc (.cells (xv.cells : List Value).toArray 32)) := ⟨_, rfl⟩
  change Code.wp _ _ _ _ ((((((w.alloc (.cells (xs.cells : List Value).toArray 30)).alloc (.cells (xa.cells : List Value).toArray 44)).alloc (.cells (xc.cells (.slice aoc xc.l.length capc) : List Value).toArray 55)).alloc (.cells (xd.cells : List Value).toArray 34)).alloc (.cells (xo.cells (.slice ao1 xo.ba.ps.length cap1) (.slice ao2 xo.ba.os.length cap2) (.slice ao3 xo.ba.ts.length cap3) : List Value).toArray 107)).alloc (.cells (xv.cells : List Value).toArray 32))
  rw [← hw1]
  have HB6 := hid (show Cs w1 (w.heap.size) (xs.cells : List Value).toArray 30 by rw [hw1]; exact (((((Cs.new _ _ _).alloc _).alloc _).alloc _).alloc _).alloc _)
  have HB7 := hid (show Cs w1 (w.heap.size + 1) (xa.cells : List Value).toArray 44 by rw [hw1]; exact ((((Cs_newN _ _ _ (by simp)).alloc _).alloc _).alloc _).alloc _)
  have HB8 := hid (show Cs w1 (w.heap.size + 2) (xc.cells (.slice aoc xc.l.length capc) : List Value).toArray 55 by rw [hw1]; exact (((Cs_newN _ _ _ (by simp)).alloc _).alloc _).alloc _)
  have HB9 := hid (show Cs w1 (w.heap.size + 3) (xd.cells : List Value).toArray 34 by rw [hw1]; exact ((Cs_newN _ _ _ (by simp)).alloc _).alloc _)
  have HB10 := hid (show Cs w1 (w.heap.size + 4) (xo.cells (.slice ao1 xo.ba.ps.length cap1) (.slice ao2 xo.ba.os.length cap2) (.slice ao3 xo.ba.ts.length cap3) : List Value).toArray 107 by rw [hw1]; exact (Cs_newN _ _ _ (by simp)).alloc _)
  have HB11 := hid (show Cs w1 (w.heap.size + 5) (xv.cells : List Value).toArray 32 by rw [hw1]; exact Cs_newN _ _ _ (by simp))
  have hm : Mod (fun _ => False) w w1 := by rw [hw1]; exact ((((((Mod.refl _ _).alloc _).alloc _).alloc _).alloc _).alloc _).alloc _
  have HM0 := hid (show Mod (fun _ => False) w w1 from hm.mono (fun _ _ h => h.elim))
  have hs1 : w1.heap.size = w.heap.size + 6 := by rw [hw1]; simp
  have Hx1 := hid (HS0.out.mod hm (fun _ _ h => h))
  clear HS0
  have Hx2 := hid (HS1.out.mod hm (fun _ _ h => h))
  clear HS1
  have Hx3 := hid (HS2.out.mod hm (fun _ _ h => h))
  clear HS2
  have Hx4 := hid (HS3.out.mod hm (fun _ _ h => h))
  clear HS3
  clear hw1 hm
  go_upto_region 1 with (fail)
  generalize ha0 : Act.mk _ _ = a0
  have oe8 : a0.eval (.tmp 8) = .pointer (some ⟨w.heap.size + 2, 0, none⟩) := by rw [← ha0]; rfl
  have oe10 : a0.eval (.tmp 10) = .pointer (some ⟨w.heap.size + 4, 0, none⟩) := by rw [← ha0]; rfl
  have hsz0 : a0.tmps.size = 66 := by rw [← ha0]; rfl
  have HA0 := hid ha0
  clear ha0
  refine wp_region_Q1 66 hsz0 [13, 14, 15, 16, 17, 71, 18, 73] (fun k => (k = w.heap.size + 2) ∨ (k = w.heap.size + 4)) (fun k j => (k = 2 ∧ ((j = w.heap.size + 2))) ∨ (k = 3 ∧ ((j = w.heap.size + 4)))) (by intro k j h; (try dsimp only at h ⊢); omega) [qi (.agg (xc.cells (.slice aoc xc.l.length capc)).toArray), qv 0, qi (.pointer (some ⟨w.heap.size + 4, 4, none⟩)), qi (.agg #[.int .i64 xo.ba.ep, .int .u64 (xo.ba.tm : Nat), .slice ao1 xo.ba.ps.length cap1, .slice ao2 xo.ba.os.length cap2, .slice ao3 xo.ba.ts.length cap3]), qv 1, qv 2, qi (.pointer (some ⟨w.heap.size + 4, 4, none⟩)), qv 3] ⟨qi_stable, qv_stable, qi_stable, qi_stable, qv_stable, qv_stable, qi_stable, qv_stable, trivial⟩ [1, 4, 5, 7] ⟨?_, ?_, ?_, ?_, ?_, ?_, ?_, ?_, trivial⟩ ?_
  · refine stepq_env rfl rfl rfl fun _ _ _ _ _ _ hm0 hout _ _ hub _ => ?_
    refine qe_run rfl (wanted_none rfl) (ex_loadA rfl Try.underlying55 rfl (off := 0) (cs := (xc.cells (.slice aoc xc.l.length capc))) (by kernel_rfl) ((hout 8 (by decide)).trans oe8) (Cs.whole (HB8.out.mod hm0 (by intro h2; have hu := hub 2 5 rfl (by kernel_rfl); rcases h2 with ⟨h0, kk, hk, h2⟩ | h2 <;> omega)))) QE.refl ?_
    rfl
  · exact stepq_chain rfl
  · exact stq (fun E => ex_field rfl Try.underlying107 rfl (by kernel_rfl) (E.v oe10))
  · refine stepq_env rfl rfl rfl fun _ _ _ _ _ _ hm0 _ _ hd hub _ => ?_
    have h2 := hd ⟨2, .data⟩ (by simp) rfl _ rfl
    refine qe_run rfl (wanted_none rfl) (ex_loadA rfl Try.underlying60 rfl (off := 4) (cs := [.int .i64 xo.ba.ep, .int .u64 (xo.ba.tm : Nat), .slice ao1 xo.ba.ps.length cap1, .slice ao2 xo.ba.os.length cap2, .slice ao3 xo.ba.ts.length cap3]) (by kernel_rfl) h2 (Cs.litA (HB10.out.mod hm0 (by intro h2; have hu := hub 3 7 rfl (by kernel_rfl); rcases h2 with ⟨h0, kk, hk, h2⟩ | h2 <;> omega)) rfl)) QE.refl ?_
    rfl
  · exact stepq_chain rfl
  · exact stepq_chain rfl
  · exact stq (fun E => ex_field rfl Try.underlying107 rfl (by kernel_rfl) (E.v oe10))
  · exact stepq_chain rfl
  intro u1_0 hr
  have zu1_0 := hr.size
  have Cx5 := hid (hr.new (S := (fun k => (k = w.heap.size + 2) ∨ (k = w.heap.size + 4))))
  have Hx6 := hid (HB8.out.mod hr (by intro h2; omega))
  clear HB8
  have Hx7 := hid (HB10.out.mod hr (by intro h2; omega))
  clear HB10
  clear hr
  refine QChain.go fun Z act E => ?_
  refine qc_callF (args := #[.agg (xc.cells (.slice aoc xc.l.length capc)).toArray]) rfl (wanted_none rfl) rfl Try.func23 (args1 (E.d 0)) (LPromise_c _ xc _ _ ⟨_, rfl, HOC.out, (Hx1.out.mod Cx5.out (by intro k h1 h2; have hb := HBT.out k h1; omega))⟩ (by intro k h1; have hb := HBT.out k h1; omega)) ?_
  rintro e u1_1a ⟨cs', rfl, qsl, hm⟩
  obtain ⟨v_l', rfl, hok', qsl⟩ := qsl
  obtain ⟨aop, capp, rfl⟩ := qsl.shape
  have HOKp := Lib.hid hok'
  clear hok'
  have zu1_1a := hm.size
  refine ⟨_, rfl, hm.mono (fun _ _ h => h.elim), (fun _ => rfl), ?_⟩
  intro u1_1 hr
  have zu1_1 := hr.size
  have Hx8 := hid ((qsl.widen (R' := (fun k => (R2 k) ∨ (New u1_0 u1_1a k))) (fun _ h => h)).mod hr (by intro k h1 h2; rcases h1 with h1 | h1 <;> first | omega | (have hb := HBT.out k h1; omega)))
  have hmr := Mod.after hm hr
  have Hx9 := hid (Hx6.out.mod hmr (by intro h2; omega))
  have Hx10 := hid (Hx7.out.mod hmr (by intro h2; omega))
  clear Hx6 Hx7
  clear hmr
  have Cx11 := hid (Cx5.out.go hm hr)
  clear Cx5 hm hr Z act E qsl Hx1
  refine QChain.go fun Z act E => ?_
  refine qc_callF (args := #[.agg #[.int .i64 xo.ba.ep, .int .u64 (xo.ba.tm : Nat), .slice ao1 xo.ba.ps.length cap1, .slice ao2 xo.ba.os.length cap2, .slice ao3 xo.ba.ts.length cap3]]) rfl (wanted_none rfl) rfl Try.func25 (args1 (E.d 3)) (LBatch_c _ xo.ba _ _ ⟨_, _, _, rfl, HOE.out.2.2.2.2.1, (Hx2.out.mod Cx11.out (by intro k h1 h2; have hb := HBT.out k h1; omega)), (Hx3.out.mod Cx11.out (by intro k h1 h2; have hb := HBT.out k h1; omega)), (Hx4.out.mod Cx11.out (by intro k h1 h2; have hb := HBT.out k h1; omega))⟩ (by intro k h1; have hb := HBT.out k h1; omega)) ?_
  rintro e u1_2a ⟨cs', rfl, qo_ps, hm⟩
  obtain ⟨vb1, vb2, vb3, rfl, hokb, qq1, qq2, qq3⟩ := qo_ps
  obtain ⟨aob0, capb0, rfl⟩ := qq1.shape
  obtain ⟨aob1, capb1, rfl⟩ := qq2.shape
  obtain ⟨aob2, capb2, rfl⟩ := qq3.shape
  have qo_ps := qq1
  have qo_os := qq2
  have qo_ts := qq3
  have HOKb := Lib.hid hokb
  clear hokb qq1 qq2 qq3
  have zu1_2a := hm.size
  refine ⟨_, rfl, hm.mono (fun _ _ h => h.elim), (fun _ => rfl), ?_⟩
  intro u1_2 hr
  have zu1_2 := hr.size
  have Hx12 := hid ((qo_ps.widen (R' := (fun k => (R2 k) ∨ (New u1_1 u1_2a k))) (fun _ h => h)).mod hr (by intro k h1 h2; rcases h1 with h1 | h1 <;> first | omega | (have hb := HBT.out k h1; omega)))
  have Hx13 := hid ((qo_os.widen (R' := (fun k => (R2 k) ∨ (New u1_1 u1_2a k))) (fun _ h => h)).mod hr (by intro k h1 h2; rcases h1 with h1 | h1 <;> first | omega | (have hb := HBT.out k h1; omega)))
  have Hx14 := hid ((qo_ts.widen (R' := (fun k => (R2 k) ∨ (New u1_1 u1_2a k))) (fun _ h => h)).mod hr (by intro k h1 h2; rcases h1 with h1 | h1 <;> first | omega | (have hb := HBT.out k h1; omega)))
  have hmr := Mod.after hm hr
  have Hx15 := hid (Hx8.out.mod hmr (by intro k h1 h2; rcases h1 with h1 | h1 <;> first | omega | (have hb := HBT.out k h1; omega)))
  have Hx16 := hid (Hx9.out.mod hmr (by intro h2; omega))
  have Hx17 := hid (Hx10.out.mod hmr (by intro h2; omega))
  clear Hx8 Hx9 Hx10
  clear hmr
  have Cx18 := hid (Cx11.out.go hm hr)
  clear Cx11 hm hr Z act E qo_ps qo_os qo_ts Hx2 Hx3 Hx4
  refine QChain.go fun Z act E => ?_
  refine qc_store rfl (wanted_none rfl) rfl Hx16.out (off := 0) (vs := ((cutPm xc).cells (Value.slice aop (cutPm xc).l.length capp))) (by kernel_rfl) (by intro u hu; simp only [Pm.cells, List.mem_cons, List.not_mem_nil, or_false] at hu; rcases hu with rfl | rfl | rfl | rfl | rfl | rfl <;> rfl) (by simp) (E.v oe8) (by rw [show act.eval ((.tmp 14)) = _ from (chv (v := .agg ((cutPm xc).cells (Value.slice aop (cutPm xc).l.length capp)).toArray) (E.d 1))]; rfl) ?_
  intro u1_3a qc0 hm
  have qB8 : Cs u1_3a (w.heap.size + 2) (((cutPm xc).cells (Value.slice aop (cutPm xc).l.length capp)) : List Value).toArray 55 := by rw [show lay _ 0 _ = (((cutPm xc).cells (Value.slice aop (cutPm xc).l.length capp)) : List Value).toArray from lay_whole (xc.cells (.slice aoc xc.l.length capc)).toArray _ rfl] at qc0; exact qc0
  clear qc0
  have zu1_3a := hm.size
  refine ⟨hm.mono (by intro k hk h; omega), (fun _ => rfl), ?_⟩
  intro u1_3 hr
  have zu1_3 := hr.size
  have Hx19 := hid (qB8.mod hr (by intro h2; omega))
  have hmr := hm.two hr
  have Hx20 := hid (Hx15.out.mod hmr (by intro k h1 h2; rcases h1 with h1 | h1 <;> first | omega | (have hb := HBT.out k h1; omega)))
  have Hx21 := hid (Hx12.out.mod hmr (by intro k h1 h2; rcases h1 with h1 | h1 <;> first | omega | (have hb := HBT.out k h1; omega)))
  have Hx22 := hid (Hx13.out.mod hmr (by intro k h1 h2; rcases h1 with h1 | h1 <;> first | omega | (have hb := HBT.out k h1; omega)))
  have Hx23 := hid (Hx14.out.mod hmr (by intro k h1 h2; rcases h1 with h1 | h1 <;> first | omega | (have hb := HBT.out k h1; omega)))
  have Hx24 := hid (Hx17.out.mod hmr (by intro h2; omega))
  clear Hx15 Hx12 Hx13 Hx14 Hx17
  clear hmr
  have Cx25 := hid (Cx18.out.goM hm hr (by intro k h0 h2; omega))
  clear Cx18 hm hr Z act E qB8 Hx16
  refine QChain.go fun Z act E => ?_
  refine qc_store rfl (wanted_none rfl) rfl Hx24.out (off := 4) (vs := [.int .i64 (cutBa xo.ba).ep, .int .u64 ((cutBa xo.ba).tm : Nat), Value.slice aob0 (cutBa xo.ba).ps.length capb0, Value.slice aob1 (cutBa xo.ba).os.length capb1, Value.slice aob2 (cutBa xo.ba).ts.length capb2]) (by kernel_rfl) (by intro u hu; simp only [List.mem_cons, List.not_mem_nil, or_false] at hu; rcases hu with rfl | rfl | rfl | rfl | rfl <;> rfl) (by show 4 + 5 ≤ 11; decide) (E.d 6) (by rw [show act.eval ((.tmp 17)) = _ from (chv (v := .agg #[.int .i64 (cutBa xo.ba).ep, .int .u64 ((cutBa xo.ba).tm : Nat), Value.slice aob0 (cutBa xo.ba).ps.length capb0, Value.slice aob1 (cutBa xo.ba).os.length capb1, Value.slice aob2 (cutBa xo.ba).ts.length capb2]) (E.d 4))]; rfl) ?_
  intro u1_4a qc0 hm
  have qB10 : Cs u1_4a (w.heap.size + 4) #[.int .i64 xo.ep, .int .i64 xo.rn, .int .i64 xo.vl, .int .i64 xo.rp, .int .i64 (cutBa xo.ba).ep, .int .u64 ((cutBa xo.ba).tm : Nat), Value.slice aob0 (cutBa xo.ba).ps.length capb0, Value.slice aob1 (cutBa xo.ba).os.length capb1, Value.slice aob2 (cutBa xo.ba).ts.length capb2, .int .i64 xo.sb, .int .i64 xo.mr] 107 := by rw [show lay _ 4 _ = #[.int .i64 xo.ep, .int .i64 xo.rn, .int .i64 xo.vl, .int .i64 xo.rp, .int .i64 (cutBa xo.ba).ep, .int .u64 ((cutBa xo.ba).tm : Nat), Value.slice aob0 (cutBa xo.ba).ps.length capb0, Value.slice aob1 (cutBa xo.ba).os.length capb1, Value.slice aob2 (cutBa xo.ba).ts.length capb2, .int .i64 xo.sb, .int .i64 xo.mr] from rfl] at qc0; exact qc0
  clear qc0
  have zu1_4a := hm.size
  refine ⟨hm.mono (by intro k hk h; omega), (fun _ => rfl), ?_⟩
  intro u1_4 hr
  have zu1_4 := hr.size
  have Hx26 := hid (qB10.mod hr (by intro h2; omega))
  have hmr := hm.two hr
  have Hx27 := hid (Hx20.out.mod hmr (by intro k h1 h2; rcases h1 with h1 | h1 <;> first | omega | (have hb := HBT.out k h1; omega)))
  have Hx28 := hid (Hx21.out.mod hmr (by intro k h1 h2; rcases h1 with h1 | h1 <;> first | omega | (have hb := HBT.out k h1; omega)))
  have Hx29 := hid (Hx22.out.mod hmr (by intro k h1 h2; rcases h1 with h1 | h1 <;> first | omega | (have hb := HBT.out k h1; omega)))
  have Hx30 := hid (Hx23.out.mod hmr (by intro k h1 h2; rcases h1 with h1 | h1 <;> first | omega | (have hb := HBT.out k h1; omega)))
  have Hx31 := hid (Hx19.out.mod hmr (by intro h2; omega))
  clear Hx20 Hx21 Hx22 Hx23 Hx19
  clear hmr
  have Cx32 := hid (Cx25.out.goM hm hr (by intro k h0 h2; omega))
  clear Cx25 hm hr Z act E qB10 Hx24
  refine QChain.nil fun vs hl hzz hrows hne => ?_
  obtain ⟨Z, hYZ, hZb, hV⟩ := hzz
  have f1 := fvc hV hl 1
  have f4 := fvc hV hl 4
  rw [show vs = [gw vs 0, gw vs 1, gw vs 2, gw vs 3, gw vs 4, gw vs 5, gw vs 6, gw vs 7] from (gw_eta hl).trans rfl]
  have ha0 := HA0.out
  subst ha0
  clear HA0 hV hYZ hZb hsz0 hrows hne oe8 oe10
  simp only [putAll, Act.put, List.setIfInBounds_toArray, List.set_cons_zero, List.set_cons_succ, List.set_nil, f1, f4]
  clear hl f1 f4
  obtain ⟨bq, hbq⟩ : ∃ b : Bool, b = (xo.vl == 9223372036854775807) := ⟨_, rfl⟩
  go_upto_region 2 with (fail)
  generalize ha0 : Act.mk _ _ = a0
  have oe10 : a0.eval (.tmp 10) = .pointer (some ⟨w.heap.size + 4, 0, none⟩) := by rw [← ha0]; rfl
  have hsz0 : a0.tmps.size = 66 := by rw [← ha0]; rfl
  have HA0 := hid ha0
  clear ha0
  refine wp_region_Q0 66 hsz0 [19, 20, 21] [qi (.pointer (some ⟨w.heap.size + 4, 2, none⟩)), qi (.int .i64 xo.vl), qi (.bool bq)] ⟨qi_stable, qi_stable, qi_stable, trivial⟩ [] ⟨?_, ?_, ?_, trivial⟩ ?_
  · exact stq (fun E => ex_field rfl Try.underlying107 rfl (by kernel_rfl) (E.v oe10))
  · exact stq (fun E => ex_load1 rfl Try.underlying3 rfl (E.d 0) (Cs.lit1 (Hx26.out.mod E.m.old (by intro h2; omega)) rfl))
  · exact stq (fun E => ex_binE rfl (E.d 1) rfl (guard_ints _ _ _ _ _ _) (run_eql_i _ _ _ Try.underlying3) (congrArg Value.bool hbq.symm))
  intro u2_0 hr
  have zu2_0 := hr.size
  have Cx33 := hid (hr.new (S := (fun _ => False)))
  clear hr
  refine QChain.nil fun vs hl hzz hrows hne => ?_
  obtain ⟨Z, hYZ, hZb, hV⟩ := hzz
  have f2 := fvi hV hl 2
  rw [show vs = [gw vs 0, gw vs 1, gw vs 2] from (gw_eta hl).trans rfl]
  have ha0 := HA0.out
  subst ha0
  clear HA0 hV hYZ hZb hsz0 hrows hne oe10
  simp only [putAll, Act.put, List.setIfInBounds_toArray, List.set_cons_zero, List.set_cons_succ, f2]
  clear hl f2
  go_upto_if 21 with (fail)
  go_cut [] from 21 (fun w' => ∃ vl : Int, I64 vl ∧ vl < 9223372036854775807 ∧ Cs w' (w.heap.size + 4) #[.int .i64 xo.ep, .int .i64 xo.rn, .int .i64 vl, .int .i64 xo.rp, .int .i64 (cutBa xo.ba).ep, .int .u64 ((cutBa xo.ba).tm : Nat), Value.slice aob0 (cutBa xo.ba).ps.length capb0, Value.slice aob1 (cutBa xo.ba).os.length capb1, Value.slice aob2 (cutBa xo.ba).ts.length capb2, .int .i64 xo.sb, .int .i64 xo.mr] 107 ∧ Mod (fun k => k = w.heap.size + 4) u2_0 w')
  case first =>
    have hvl := HOE.out.2.2.1
    cases hq : bq with
    | false =>
      have hne : xo.vl ≠ 9223372036854775807 := by intro h; rw [h] at hbq; rw [hq] at hbq; exact absurd hbq (by decide)
      have HNE := hid (show xo.vl < 9223372036854775807 by unfold I64 at hvl; omega)
      clear hne hq hbq
      go_wp2_with fail
      go_meet
      case rel => exact ⟨xo.vl, hvl, HNE.out, (Hx26.out.mod Cx33.out (fun h => h)), Mod.refl _ _⟩
    | true =>
      clear hq hbq
      have HMM := hid (Mod.refl (fun k => k = w.heap.size + 4) u2_0)
      go_upto_region 3 with (fail)
      generalize ha0 : Act.mk _ _ = a0
      have oe10 : a0.eval (.tmp 10) = .pointer (some ⟨w.heap.size + 4, 0, none⟩) := by rw [← ha0]; rfl
      have hsz0 : a0.tmps.size = 66 := by rw [← ha0]; rfl
      have HA0 := hid ha0
      clear ha0
      refine wp_region_Q1 66 hsz0 [22, 67] (fun k => (k = w.heap.size + 4)) (fun k j => (k = 0 ∧ ((j = w.heap.size + 4)))) (fun _ _ h => h.2) [qi (.pointer (some ⟨w.heap.size + 4, 2, none⟩)), qv 0] ⟨qi_stable, qv_stable, trivial⟩ [1] ⟨?_, ?_, trivial⟩ ?_
      · exact stq (fun E => ex_field rfl Try.underlying107 rfl (by kernel_rfl) (E.v oe10))
      · exact stepq_chain rfl
      intro u3_0 hr
      have zu3_0 := hr.size
      have Cx34 := hid (hr.new (S := (fun k => (k = w.heap.size + 4))))
      have Hx35 := hid ((Hx26.out.mod Cx33.out (fun h => h)).mod hr (by intro h2; omega))
      clear Hx26
      clear hr
      refine QChain.go fun Z act E => ?_
      refine qc_store rfl (wanted_none rfl) rfl Hx35.out (off := 2) (vs := [.int .i64 0]) (by kernel_rfl) (by intro u hu; simp at hu; subst hu; rfl) (by simp) (E.d 0) (by rw [show act.eval ((.const (Value.int IntKind.i64 0))) = _ from rfl]; rfl) ?_
      intro u3_1a qc0 hm
      have qB10 : Cs u3_1a (w.heap.size + 4) #[.int .i64 xo.ep, .int .i64 xo.rn, .int .i64 0, .int .i64 xo.rp, .int .i64 (cutBa xo.ba).ep, .int .u64 ((cutBa xo.ba).tm : Nat), Value.slice aob0 (cutBa xo.ba).ps.length capb0, Value.slice aob1 (cutBa xo.ba).os.length capb1, Value.slice aob2 (cutBa xo.ba).ts.length capb2, .int .i64 xo.sb, .int .i64 xo.mr] 107 := by rw [show lay _ 2 _ = #[.int .i64 xo.ep, .int .i64 xo.rn, .int .i64 0, .int .i64 xo.rp, .int .i64 (cutBa xo.ba).ep, .int .u64 ((cutBa xo.ba).tm : Nat), Value.slice aob0 (cutBa xo.ba).ps.length capb0, Value.slice aob1 (cutBa xo.ba).os.length capb1, Value.slice aob2 (cutBa xo.ba).ts.length capb2, .int .i64 xo.sb, .int .i64 xo.mr] from rfl] at qc0; exact qc0
      clear qc0
      have zu3_1a := hm.size
      refine ⟨hm.mono (by intro k hk h; omega), (fun _ => rfl), ?_⟩
      intro u3_1 hr
      have zu3_1 := hr.size
      have Hx36 := hid (qB10.mod hr (by intro h2; omega))
      have Cx37 := hid (Cx34.out.goM hm hr (fun _ _ h => h))
      clear Cx34 hm hr Z act E qB10 Hx35
      refine QChain.nil fun vs hl hzz hrows hne => ?_
      obtain ⟨Z, hYZ, hZb, hV⟩ := hzz
      rw [show vs = [gw vs 0, gw vs 1] from (gw_eta hl).trans rfl]
      have ha0 := HA0.out
      subst ha0
      clear HA0 hV hYZ hZb hsz0 hrows hne oe10
      simp only [putAll, Act.put, List.setIfInBounds_toArray, List.set_cons_zero, List.set_cons_succ, List.set_nil]
      clear hl
      go_wp2_with fail
      go_meet
      case rel => exact ⟨0, (by unfold I64; decide), (by decide), Hx36.out, (HMM.out.trans Cx37.out (by intro k h1 h2; omega))⟩
  case rest =>
    obtain ⟨wq, rfl⟩ : ∃ x, x = wc := ⟨_, rfl⟩
    obtain ⟨vl, hvl1, hvl2, hcb, hm⟩ := hcut
    have HVI := Lib.hid hvl1
    have HVL := Lib.hid hvl2
    have HCB := Lib.hid hcb
    clear hvl1 hvl2 hcb hbq
    have zwq := hm.size
    have Hx38 := hid ((Hx27.out.mod Cx33.out (fun _ _ h => h)).mod hm (by intro k h1 h2; rcases h1 with h1 | h1 <;> first | omega | (have hb := HBT.out k h1; omega)))
    have Hx39 := hid ((Hx28.out.mod Cx33.out (fun _ _ h => h)).mod hm (by intro k h1 h2; rcases h1 with h1 | h1 <;> first | omega | (have hb := HBT.out k h1; omega)))
    have Hx40 := hid ((Hx29.out.mod Cx33.out (fun _ _ h => h)).mod hm (by intro k h1 h2; rcases h1 with h1 | h1 <;> first | omega | (have hb := HBT.out k h1; omega)))
    have Hx41 := hid ((Hx30.out.mod Cx33.out (fun _ _ h => h)).mod hm (by intro k h1 h2; rcases h1 with h1 | h1 <;> first | omega | (have hb := HBT.out k h1; omega)))
    have Hx42 := hid (((HB6.out.mod Cx32.out (by intro h2; omega)).mod Cx33.out (fun h => h)).mod hm (by intro h2; omega))
    have Hx43 := hid (((HB7.out.mod Cx32.out (by intro h2; omega)).mod Cx33.out (fun h => h)).mod hm (by intro h2; omega))
    have Hx44 := hid ((Hx31.out.mod Cx33.out (fun h => h)).mod hm (by intro h2; omega))
    have Hx45 := hid (((HB9.out.mod Cx32.out (by intro h2; omega)).mod Cx33.out (fun h => h)).mod hm (by intro h2; omega))
    have Hx46 := hid (((HB11.out.mod Cx32.out (by intro h2; omega)).mod Cx33.out (fun h => h)).mod hm (by intro h2; omega))
    have Hx47 := hid (((HM0.out.trans Cx32.out (by intro k h1 h2; omega)).trans Cx33.out (fun _ _ h => h.elim)).trans hm (by intro k h1 h2; omega))
    clear Hx27 Hx28 Hx29 Hx30 HB6 HB7 Hx31 HB9 HB11 HM0
    clear hm
    have HPL := hid (promT_len (x := xc) ⟨_, rfl, HOKp.out, Hx38.out⟩)
    have HBL := hid (baB_len HOE.out.2.2.2.2.1 Hx39.out Hx40.out Hx41.out)
    have HPO := hid (show (({ xo with vl := vl, ba := cutBa xo.ba } : Pr)).OK from ⟨HOE.out.1, HOE.out.2.1, HVI.out, HOE.out.2.2.2.1, HOKb.out, HOE.out.2.2.2.2.2⟩)
    go_upto_region 4 with (fail)
    generalize ha0 : Act.mk _ _ = a0
    have oe6 : a0.eval (.tmp 6) = .pointer (some ⟨w.heap.size, 0, none⟩) := by rw [← ha0]; rfl
    have oe7 : a0.eval (.tmp 7) = .pointer (some ⟨w.heap.size + 1, 0, none⟩) := by rw [← ha0]; rfl
    have oe8 : a0.eval (.tmp 8) = .pointer (some ⟨w.heap.size + 2, 0, none⟩) := by rw [← ha0]; rfl
    have oe9 : a0.eval (.tmp 9) = .pointer (some ⟨w.heap.size + 3, 0, none⟩) := by rw [← ha0]; rfl
    have oe10 : a0.eval (.tmp 10) = .pointer (some ⟨w.heap.size + 4, 0, none⟩) := by rw [← ha0]; rfl
    have oe11 : a0.eval (.tmp 11) = .pointer (some ⟨w.heap.size + 5, 0, none⟩) := by rw [← ha0]; rfl
    have hsz0 : a0.tmps.size = 66 := by rw [← ha0]; rfl
    have HA0 := hid ha0
    clear ha0
    refine wp_region_Q0 66 hsz0 [23, 24, 25, 26, 27, 28, 29, 30, 31, 32, 33, 34, 35, 36, 37, 38, 39, 40, 41, 42, 43, 44, 45, 46, 47, 48, 49, 50, 51, 52, 53, 54, 55, 56, 57, 58, 59, 60, 61, 62, 63, 64, 65, 12] [qi (.agg (xs.cells).toArray), qv 0, qi (.agg (xs.cells).toArray), qv 1, qi (.bool true), qi (.bool true), qi (.agg (xa.cells).toArray), qv 3, qi (.agg (xa.cells).toArray), qv 4, qi (.bool true), qi (.bool true), qi (.bool true), qi (.agg ((cutPm xc).cells (Value.slice aop (cutPm xc).l.length capp)).toArray), qv 6, qi (.agg ((cutPm xc).cells (Value.slice aop (cutPm xc).l.length capp)).toArray), qv 7, qi (.bool true), qi (.bool true), qi (.bool true), qi (.agg (xd.cells).toArray), qv 9, qi (.agg (xd.cells).toArray), qv 10, qi (.bool true), qi (.bool true), qi (.bool true), qi (.agg ([.int .i64 xo.ep, .int .i64 xo.rn, .int .i64 vl, .int .i64 xo.rp, .int .i64 (cutBa xo.ba).ep, .int .u64 ((cutBa xo.ba).tm : Nat), Value.slice aob0 (cutBa xo.ba).ps.length capb0, Value.slice aob1 (cutBa xo.ba).os.length capb1, Value.slice aob2 (cutBa xo.ba).ts.length capb2, .int .i64 xo.sb, .int .i64 xo.mr]).toArray), qv 12, qi (.agg ([.int .i64 xo.ep, .int .i64 xo.rn, .int .i64 vl, .int .i64 xo.rp, .int .i64 (cutBa xo.ba).ep, .int .u64 ((cutBa xo.ba).tm : Nat), Value.slice aob0 (cutBa xo.ba).ps.length capb0, Value.slice aob1 (cutBa xo.ba).os.length capb1, Value.slice aob2 (cutBa xo.ba).ts.length capb2, .int .i64 xo.sb, .int .i64 xo.mr]).toArray), qv 13, qi (.bool true), qi (.bool true), qi (.bool true), qi (.agg (xv.cells).toArray), qv 15, qi (.agg (xv.cells).toArray), qv 16, qi (.bool true), qi (.bool true), qi (.bool true), qi (.bool true), qi (.bool true), qi (.bool true)] ⟨qi_stable, qv_stable, qi_stable, qv_stable, qi_stable, qi_stable, qi_stable, qv_stable, qi_stable, qv_stable, qi_stable, qi_stable, qi_stable, qi_stable, qv_stable, qi_stable, qv_stable, qi_stable, qi_stable, qi_stable, qi_stable, qv_stable, qi_stable, qv_stable, qi_stable, qi_stable, qi_stable, qi_stable, qv_stable, qi_stable, qv_stable, qi_stable, qi_stable, qi_stable, qi_stable, qv_stable, qi_stable, qv_stable, qi_stable, qi_stable, qi_stable, qi_stable, qi_stable, qi_stable, trivial⟩ [1, 3, 4, 7, 9, 10, 14, 16, 17, 21, 23, 24, 28, 30, 31, 35, 37, 38, 41] ⟨?_, ?_, ?_, ?_, ?_, ?_, ?_, ?_, ?_, ?_, ?_, ?_, ?_, ?_, ?_, ?_, ?_, ?_, ?_, ?_, ?_, ?_, ?_, ?_, ?_, ?_, ?_, ?_, ?_, ?_, ?_, ?_, ?_, ?_, ?_, ?_, ?_, ?_, ?_, ?_, ?_, ?_, ?_, ?_, trivial⟩ ?_
    · exact stq (fun E => ex_loadA rfl Try.underlying30 rfl (off := 0) (cs := (xs.cells)) (by rw [St.len HOA.out]; kernel_rfl) (E.v oe6) (Cs.whole (Hx42.out.mod E.m.old (by intro h2; omega))))
    · exact stepq_chain rfl
    · exact stq (fun E => ex_loadA rfl Try.underlying30 rfl (off := 0) (cs := (xs.cells)) (by rw [St.len HOA.out]; kernel_rfl) (E.v oe6) (Cs.whole (Hx42.out.mod E.m.old (by intro h2; omega))))
    · exact stepq_chain rfl
    · exact stepq_chain rfl
    · exact stq (fun E => ex_move rfl (E.d 4))
    · refine stepq_env rfl rfl rfl fun _ _ _ _ _ hm _ hout hsz hd _ _ => ?_
      have h5 := hd ⟨5, .guard⟩ (by simp) rfl _ rfl
      refine qe_run rfl ((wanted_of rfl rfl (hsz 28 (by decide)) h5).trans rfl) (ex_loadA rfl Try.underlying44 rfl (off := 0) (cs := (xa.cells)) (by rw [St.len HOB.out]; kernel_rfl) ((hout 7 (by decide)).trans oe7) (Cs.whole (Hx43.out.mod hm.old (by intro h2; omega)))) QE.refl ?_
      rfl
    · exact stepq_chain rfl
    · refine stepq_env rfl rfl rfl fun _ _ _ _ _ hm _ hout hsz hd _ _ => ?_
      have h5 := hd ⟨5, .guard⟩ (by simp) rfl _ rfl
      refine qe_run rfl ((wanted_of rfl rfl (hsz 28 (by decide)) h5).trans rfl) (ex_loadA rfl Try.underlying44 rfl (off := 0) (cs := (xa.cells)) (by rw [St.len HOB.out]; kernel_rfl) ((hout 7 (by decide)).trans oe7) (Cs.whole (Hx43.out.mod hm.old (by intro h2; omega)))) QE.refl ?_
      rfl
    · exact stepq_chain rfl
    · exact stepq_chain rfl
    · exact stq (fun E => ex_pick rfl (E.d 5) (E.d 10) rfl)
    · exact stq (fun E => ex_move rfl (E.d 11))
    · refine stepq_env rfl rfl rfl fun _ _ _ _ _ hm _ hout hsz hd _ _ => ?_
      have h12 := hd ⟨12, .guard⟩ (by simp) rfl _ rfl
      refine qe_run rfl ((wanted_of rfl rfl (hsz 35 (by decide)) h12).trans rfl) (ex_loadA rfl Try.underlying55 rfl (off := 0) (cs := ((cutPm xc).cells (Value.slice aop (cutPm xc).l.length capp))) (by kernel_rfl) ((hout 8 (by decide)).trans oe8) (Cs.whole (Hx44.out.mod hm.old (by intro h2; omega)))) QE.refl ?_
      rfl
    · exact stepq_chain rfl
    · refine stepq_env rfl rfl rfl fun _ _ _ _ _ hm _ hout hsz hd _ _ => ?_
      have h12 := hd ⟨12, .guard⟩ (by simp) rfl _ rfl
      refine qe_run rfl ((wanted_of rfl rfl (hsz 35 (by decide)) h12).trans rfl) (ex_loadA rfl Try.underlying55 rfl (off := 0) (cs := ((cutPm xc).cells (Value.slice aop (cutPm xc).l.length capp))) (by kernel_rfl) ((hout 8 (by decide)).trans oe8) (Cs.whole (Hx44.out.mod hm.old (by intro h2; omega)))) QE.refl ?_
      rfl
    · exact stepq_chain rfl
    · exact stepq_chain rfl
    · exact stq (fun E => ex_pick rfl (E.d 12) (E.d 17) rfl)
    · exact stq (fun E => ex_move rfl (E.d 18))
    · refine stepq_env rfl rfl rfl fun _ _ _ _ _ hm _ hout hsz hd _ _ => ?_
      have h19 := hd ⟨19, .guard⟩ (by simp) rfl _ rfl
      refine qe_run rfl ((wanted_of rfl rfl (hsz 42 (by decide)) h19).trans rfl) (ex_loadA rfl Try.underlying34 rfl (off := 0) (cs := (xd.cells)) (by kernel_rfl) ((hout 9 (by decide)).trans oe9) (Cs.whole (Hx45.out.mod hm.old (by intro h2; omega)))) QE.refl ?_
      rfl
    · exact stepq_chain rfl
    · refine stepq_env rfl rfl rfl fun _ _ _ _ _ hm _ hout hsz hd _ _ => ?_
      have h19 := hd ⟨19, .guard⟩ (by simp) rfl _ rfl
      refine qe_run rfl ((wanted_of rfl rfl (hsz 42 (by decide)) h19).trans rfl) (ex_loadA rfl Try.underlying34 rfl (off := 0) (cs := (xd.cells)) (by kernel_rfl) ((hout 9 (by decide)).trans oe9) (Cs.whole (Hx45.out.mod hm.old (by intro h2; omega)))) QE.refl ?_
      rfl
    · exact stepq_chain rfl
    · exact stepq_chain rfl
    · exact stq (fun E => ex_pick rfl (E.d 19) (E.d 24) rfl)
    · exact stq (fun E => ex_move rfl (E.d 25))
    · refine stepq_env rfl rfl rfl fun _ _ _ _ _ hm _ hout hsz hd _ _ => ?_
      have h26 := hd ⟨26, .guard⟩ (by simp) rfl _ rfl
      refine qe_run rfl ((wanted_of rfl rfl (hsz 49 (by decide)) h26).trans rfl) (ex_loadA rfl Try.underlying107 rfl (off := 0) (cs := ([.int .i64 xo.ep, .int .i64 xo.rn, .int .i64 vl, .int .i64 xo.rp, .int .i64 (cutBa xo.ba).ep, .int .u64 ((cutBa xo.ba).tm : Nat), Value.slice aob0 (cutBa xo.ba).ps.length capb0, Value.slice aob1 (cutBa xo.ba).os.length capb1, Value.slice aob2 (cutBa xo.ba).ts.length capb2, .int .i64 xo.sb, .int .i64 xo.mr])) (by kernel_rfl) ((hout 10 (by decide)).trans oe10) (Cs.whole (HCB.out.mod hm.old (by intro h2; omega)))) QE.refl ?_
      rfl
    · exact stepq_chain rfl
    · refine stepq_env rfl rfl rfl fun _ _ _ _ _ hm _ hout hsz hd _ _ => ?_
      have h26 := hd ⟨26, .guard⟩ (by simp) rfl _ rfl
      refine qe_run rfl ((wanted_of rfl rfl (hsz 49 (by decide)) h26).trans rfl) (ex_loadA rfl Try.underlying107 rfl (off := 0) (cs := ([.int .i64 xo.ep, .int .i64 xo.rn, .int .i64 vl, .int .i64 xo.rp, .int .i64 (cutBa xo.ba).ep, .int .u64 ((cutBa xo.ba).tm : Nat), Value.slice aob0 (cutBa xo.ba).ps.length capb0, Value.slice aob1 (cutBa xo.ba).os.length capb1, Value.slice aob2 (cutBa xo.ba).ts.length capb2, .int .i64 xo.sb, .int .i64 xo.mr])) (by kernel_rfl) ((hout 10 (by decide)).trans oe10) (Cs.whole (HCB.out.mod hm.old (by intro h2; omega)))) QE.refl ?_
      rfl
    · exact stepq_chain rfl
    · exact stepq_chain rfl
    · exact stq (fun E => ex_pick rfl (E.d 26) (E.d 31) rfl)
    · exact stq (fun E => ex_move rfl (E.d 32))
    · refine stepq_env rfl rfl rfl fun _ _ _ _ _ hm _ hout hsz hd _ _ => ?_
      have h33 := hd ⟨33, .guard⟩ (by simp) rfl _ rfl
      refine qe_run rfl ((wanted_of rfl rfl (hsz 56 (by decide)) h33).trans rfl) (ex_loadA rfl Try.underlying32 rfl (off := 0) (cs := (xv.cells)) (by rw [Vt.len HOF.out]; kernel_rfl) ((hout 11 (by decide)).trans oe11) (Cs.whole (Hx46.out.mod hm.old (by intro h2; omega)))) QE.refl ?_
      rfl
    · exact stepq_chain rfl
    · refine stepq_env rfl rfl rfl fun _ _ _ _ _ hm _ hout hsz hd _ _ => ?_
      have h33 := hd ⟨33, .guard⟩ (by simp) rfl _ rfl
      refine qe_run rfl ((wanted_of rfl rfl (hsz 56 (by decide)) h33).trans rfl) (ex_loadA rfl Try.underlying32 rfl (off := 0) (cs := (xv.cells)) (by rw [Vt.len HOF.out]; kernel_rfl) ((hout 11 (by decide)).trans oe11) (Cs.whole (Hx46.out.mod hm.old (by intro h2; omega)))) QE.refl ?_
      rfl
    · exact stepq_chain rfl
    · exact stepq_chain rfl
    · exact stq (fun E => ex_pick rfl (E.d 33) (E.d 38) rfl)
    · exact stq (fun E => ex_move rfl (E.d 39))
    · exact stepq_chain rfl
    · exact stq (fun E => ex_pick rfl (E.d 40) (E.d 41) rfl)
    · exact stq (fun E => ex_assign rfl (E.d 42))
    intro u4_0 hr
    have zu4_0 := hr.size
    clear Hx42
    clear Hx43
    clear Hx44
    clear Hx45
    clear HCB
    clear Hx46
    have Cx48 := hid (hr.new (S := (fun _ => False)))
    clear hr
    refine QChain.go fun Z act E => ?_
    refine qc_callF (args := #[.agg (xs.cells).toArray]) rfl (wanted_none rfl) rfl Try.func14 (args1 (E.d 0)) (StampText_Q (fun _ => False) _ xs _ ⟨rfl, HOA.out⟩ (fun _ h => h.elim) (stampT_len HOA.out)) ?_
    rintro e u4_1a ⟨v_a1, rfl, qa1, hm⟩
    obtain ⟨ao_a1, cap_a1, rfl⟩ := qa1.shape
    have zu4_1a := hm.size
    refine ⟨_, rfl, hm.mono (fun _ _ h => h.elim), (fun _ => rfl), ?_⟩
    intro u4_1 hr
    have zu4_1 := hr.size
    have Hx49 := hid ((qa1.widen (R' := (fun k => (New u4_0 u4_1a k))) (fun _ h => h) (Nat.le_refl _)).mod hr (by intro k h1 h2; omega))
    have Cx50 := hid (Cx48.out.go hm hr)
    clear Cx48 hm hr Z act E qa1
    refine QChain.go fun Z act E => ?_
    refine qc_callF (args := #[.agg (xs.cells).toArray]) rfl (wanted_none rfl) rfl Try.func55 (args1 (E.d 2)) (RefStampT_Q (fun _ => False) _ xs _ ⟨rfl, HOA.out⟩ (fun _ h => h.elim) (stampT_len HOA.out)) ?_
    rintro e u4_2a ⟨v_a2, rfl, qa2, hm⟩
    obtain ⟨ao_a2, cap_a2, rfl⟩ := qa2.shape
    have zu4_2a := hm.size
    refine ⟨_, rfl, hm.mono (fun _ _ h => h.elim), (fun _ => rfl), ?_⟩
    intro u4_2 hr
    have zu4_2 := hr.size
    have Hx51 := hid ((qa2.widen (R' := (fun k => (New u4_1 u4_2a k))) (fun _ h => h) (Nat.le_refl _)).mod hr (by intro k h1 h2; omega))
    have hmr := Mod.after hm hr
    have Hx52 := hid (Hx49.out.mod hmr (by intro k h1 h2; omega))
    clear Hx49
    clear hmr
    have Cx53 := hid (Cx50.out.go hm hr)
    clear Cx50 hm hr Z act E qa2
    refine QChain.go fun Z act E => ?_
    refine qc_callF (args := #[.slice ao_a1 ((stampT xs).length) cap_a1, .slice ao_a2 ((stampT xs).length) cap_a2]) rfl (wanted_none rfl) rfl Try.func18 (args2 (chv (v := .slice ao_a1 ((stampT xs).length) cap_a1) (E.d 1)) (chv (v := .slice ao_a2 ((stampT xs).length) cap_a2) (E.d 3))) (Same_true Hx52.out.rd Hx51.out.rd rfl) ?_
    rintro e u4_3a ⟨rfl, hm⟩
    have zu4_3a := hm.size
    refine ⟨_, rfl, hm.mono (fun _ _ h => h.elim), (fun _ => rfl), ?_⟩
    intro u4_3 hr
    have zu4_3 := hr.size
    have hmr := Mod.after hm hr
    have Hx54 := hid (Hx52.out.mod hmr (by intro k h1 h2; omega))
    have Hx55 := hid (Hx51.out.mod hmr (by intro k h1 h2; omega))
    clear Hx52 Hx51
    clear hmr
    have Cx56 := hid (Cx53.out.go hm hr)
    clear Cx53 hm hr Z act E
    clear Hx54
    clear Hx55
    refine QChain.go fun Z act E => ?_
    refine qc_callF (args := #[.agg (xa.cells).toArray]) rfl ((wanted_of rfl rfl (E.sz 28 (by decide)) (E.e 5 .chain)).trans rfl) rfl Try.func17 (args1 (E.d 6)) (AckText_Q (fun _ => False) _ xa _ ⟨rfl, HOB.out⟩ (fun _ h => h.elim) (ackT_len HOB.out)) ?_
    rintro e u4_4a ⟨v_a3, rfl, qa3, hm⟩
    obtain ⟨ao_a3, cap_a3, rfl⟩ := qa3.shape
    have zu4_4a := hm.size
    refine ⟨_, rfl, hm.mono (fun _ _ h => h.elim), (fun _ => rfl), ?_⟩
    intro u4_4 hr
    have zu4_4 := hr.size
    have Hx57 := hid ((qa3.widen (R' := (fun k => (New u4_3 u4_4a k))) (fun _ h => h) (Nat.le_refl _)).mod hr (by intro k h1 h2; omega))
    have Cx58 := hid (Cx56.out.go hm hr)
    clear Cx56 hm hr Z act E qa3
    refine QChain.go fun Z act E => ?_
    refine qc_callF (args := #[.agg (xa.cells).toArray]) rfl ((wanted_of rfl rfl (E.sz 28 (by decide)) (E.e 5 .guard)).trans rfl) rfl Try.func56 (args1 (E.d 8)) (RefAckT_Q (fun _ => False) _ xa _ ⟨rfl, HOB.out⟩ (fun _ h => h.elim) (ackT_len HOB.out)) ?_
    rintro e u4_5a ⟨v_a4, rfl, qa4, hm⟩
    obtain ⟨ao_a4, cap_a4, rfl⟩ := qa4.shape
    have zu4_5a := hm.size
    refine ⟨_, rfl, hm.mono (fun _ _ h => h.elim), (fun _ => rfl), ?_⟩
    intro u4_5 hr
    have zu4_5 := hr.size
    have Hx59 := hid ((qa4.widen (R' := (fun k => (New u4_4 u4_5a k))) (fun _ h => h) (Nat.le_refl _)).mod hr (by intro k h1 h2; omega))
    have hmr := Mod.after hm hr
    have Hx60 := hid (Hx57.out.mod hmr (by intro k h1 h2; omega))
    clear Hx57
    clear hmr
    have Cx61 := hid (Cx58.out.go hm hr)
    clear Cx58 hm hr Z act E qa4
    refine QChain.go fun Z act E => ?_
    refine qc_callF (args := #[.slice ao_a3 ((ackT xa).length) cap_a3, .slice ao_a4 ((ackT xa).length) cap_a4]) rfl ((wanted_of rfl rfl (E.sz 28 (by decide)) (E.e 5 .guard)).trans rfl) rfl Try.func18 (args2 (chv (v := .slice ao_a3 ((ackT xa).length) cap_a3) (E.d 7)) (chv (v := .slice ao_a4 ((ackT xa).length) cap_a4) (E.d 9))) (Same_true Hx60.out.rd Hx59.out.rd rfl) ?_
    rintro e u4_6a ⟨rfl, hm⟩
    have zu4_6a := hm.size
    refine ⟨_, rfl, hm.mono (fun _ _ h => h.elim), (fun _ => rfl), ?_⟩
    intro u4_6 hr
    have zu4_6 := hr.size
    have hmr := Mod.after hm hr
    have Hx62 := hid (Hx60.out.mod hmr (by intro k h1 h2; omega))
    have Hx63 := hid (Hx59.out.mod hmr (by intro k h1 h2; omega))
    clear Hx60 Hx59
    clear hmr
    have Cx64 := hid (Cx61.out.go hm hr)
    clear Cx61 hm hr Z act E
    clear Hx62
    clear Hx63
    refine QChain.go fun Z act E => ?_
    refine qc_callF (args := #[.agg ((cutPm xc).cells (Value.slice aop (cutPm xc).l.length capp)).toArray]) rfl ((wanted_of rfl rfl (E.sz 35 (by decide)) (E.e 12 .chain)).trans rfl) rfl Try.func57 (args1 (E.d 13)) (PromiseText_Q _ _ (cutPm xc) _ ⟨_, rfl, HOKp.out, (Hx38.out.mod Cx64.out (fun _ _ h => h))⟩ (by intro k h1; rcases h1 with h1 | h1 <;> first | omega | (have hb := HBT.out k h1; omega)) HPL.out) ?_
    rintro e u4_7a ⟨v_a5, rfl, qa5, hm⟩
    obtain ⟨ao_a5, cap_a5, rfl⟩ := qa5.shape
    have zu4_7a := hm.size
    refine ⟨_, rfl, hm.mono (fun _ _ h => h.elim), (fun _ => rfl), ?_⟩
    intro u4_7 hr
    have zu4_7 := hr.size
    have Hx65 := hid ((qa5.widen (R' := (fun k => (New u4_6 u4_7a k))) (fun _ h => h) (Nat.le_refl _)).mod hr (by intro k h1 h2; omega))
    have Cx66 := hid (Cx64.out.go hm hr)
    clear Cx64 hm hr Z act E qa5
    refine QChain.go fun Z act E => ?_
    refine qc_callF (args := #[.agg ((cutPm xc).cells (Value.slice aop (cutPm xc).l.length capp)).toArray]) rfl ((wanted_of rfl rfl (E.sz 35 (by decide)) (E.e 12 .guard)).trans rfl) rfl Try.func58 (args1 (E.d 15)) (RefPromT_Q _ _ (cutPm xc) _ ⟨_, rfl, HOKp.out, (Hx38.out.mod Cx66.out (fun _ _ h => h))⟩ (by intro k h1; rcases h1 with h1 | h1 <;> first | omega | (have hb := HBT.out k h1; omega)) HPL.out) ?_
    rintro e u4_8a ⟨v_a6, rfl, qa6, hm⟩
    obtain ⟨ao_a6, cap_a6, rfl⟩ := qa6.shape
    have zu4_8a := hm.size
    refine ⟨_, rfl, hm.mono (fun _ _ h => h.elim), (fun _ => rfl), ?_⟩
    intro u4_8 hr
    have zu4_8 := hr.size
    have Hx67 := hid ((qa6.widen (R' := (fun k => (New u4_7 u4_8a k))) (fun _ h => h) (Nat.le_refl _)).mod hr (by intro k h1 h2; omega))
    have hmr := Mod.after hm hr
    have Hx68 := hid (Hx65.out.mod hmr (by intro k h1 h2; omega))
    clear Hx65
    clear hmr
    have Cx69 := hid (Cx66.out.go hm hr)
    clear Cx66 hm hr Z act E qa6
    refine QChain.go fun Z act E => ?_
    refine qc_callF (args := #[.slice ao_a5 ((promT (cutPm xc)).length) cap_a5, .slice ao_a6 ((promT (cutPm xc)).length) cap_a6]) rfl ((wanted_of rfl rfl (E.sz 35 (by decide)) (E.e 12 .guard)).trans rfl) rfl Try.func18 (args2 (chv (v := .slice ao_a5 ((promT (cutPm xc)).length) cap_a5) (E.d 14)) (chv (v := .slice ao_a6 ((promT (cutPm xc)).length) cap_a6) (E.d 16))) (Same_true Hx68.out.rd Hx67.out.rd rfl) ?_
    rintro e u4_9a ⟨rfl, hm⟩
    have zu4_9a := hm.size
    refine ⟨_, rfl, hm.mono (fun _ _ h => h.elim), (fun _ => rfl), ?_⟩
    intro u4_9 hr
    have zu4_9 := hr.size
    have hmr := Mod.after hm hr
    have Hx70 := hid (Hx68.out.mod hmr (by intro k h1 h2; omega))
    have Hx71 := hid (Hx67.out.mod hmr (by intro k h1 h2; omega))
    clear Hx68 Hx67
    clear hmr
    have Cx72 := hid (Cx69.out.go hm hr)
    clear Cx69 hm hr Z act E
    clear Hx70
    clear Hx71
    clear Hx38
    refine QChain.go fun Z act E => ?_
    refine qc_callF (args := #[.agg (xd.cells).toArray]) rfl ((wanted_of rfl rfl (E.sz 42 (by decide)) (E.e 19 .chain)).trans rfl) rfl Try.func16 (args1 (E.d 20)) (DenyText_Q (fun _ => False) _ xd _ ⟨rfl, HOD.out⟩ (fun _ h => h.elim) (denyT_len HOD.out)) ?_
    rintro e u4_10a ⟨v_a7, rfl, qa7, hm⟩
    obtain ⟨ao_a7, cap_a7, rfl⟩ := qa7.shape
    have zu4_10a := hm.size
    refine ⟨_, rfl, hm.mono (fun _ _ h => h.elim), (fun _ => rfl), ?_⟩
    intro u4_10 hr
    have zu4_10 := hr.size
    have Hx73 := hid ((qa7.widen (R' := (fun k => (New u4_9 u4_10a k))) (fun _ h => h) (Nat.le_refl _)).mod hr (by intro k h1 h2; omega))
    have Cx74 := hid (Cx72.out.go hm hr)
    clear Cx72 hm hr Z act E qa7
    refine QChain.go fun Z act E => ?_
    refine qc_callF (args := #[.agg (xd.cells).toArray]) rfl ((wanted_of rfl rfl (E.sz 42 (by decide)) (E.e 19 .guard)).trans rfl) rfl Try.func59 (args1 (E.d 22)) (RefDenyT_Q (fun _ => False) _ xd _ ⟨rfl, HOD.out⟩ (fun _ h => h.elim) (denyT_len HOD.out)) ?_
    rintro e u4_11a ⟨v_a8, rfl, qa8, hm⟩
    obtain ⟨ao_a8, cap_a8, rfl⟩ := qa8.shape
    have zu4_11a := hm.size
    refine ⟨_, rfl, hm.mono (fun _ _ h => h.elim), (fun _ => rfl), ?_⟩
    intro u4_11 hr
    have zu4_11 := hr.size
    have Hx75 := hid ((qa8.widen (R' := (fun k => (New u4_10 u4_11a k))) (fun _ h => h) (Nat.le_refl _)).mod hr (by intro k h1 h2; omega))
    have hmr := Mod.after hm hr
    have Hx76 := hid (Hx73.out.mod hmr (by intro k h1 h2; omega))
    clear Hx73
    clear hmr
    have Cx77 := hid (Cx74.out.go hm hr)
    clear Cx74 hm hr Z act E qa8
    refine QChain.go fun Z act E => ?_
    refine qc_callF (args := #[.slice ao_a7 ((denyT xd).length) cap_a7, .slice ao_a8 ((denyT xd).length) cap_a8]) rfl ((wanted_of rfl rfl (E.sz 42 (by decide)) (E.e 19 .guard)).trans rfl) rfl Try.func18 (args2 (chv (v := .slice ao_a7 ((denyT xd).length) cap_a7) (E.d 21)) (chv (v := .slice ao_a8 ((denyT xd).length) cap_a8) (E.d 23))) (Same_true Hx76.out.rd Hx75.out.rd rfl) ?_
    rintro e u4_12a ⟨rfl, hm⟩
    have zu4_12a := hm.size
    refine ⟨_, rfl, hm.mono (fun _ _ h => h.elim), (fun _ => rfl), ?_⟩
    intro u4_12 hr
    have zu4_12 := hr.size
    have hmr := Mod.after hm hr
    have Hx78 := hid (Hx76.out.mod hmr (by intro k h1 h2; omega))
    have Hx79 := hid (Hx75.out.mod hmr (by intro k h1 h2; omega))
    clear Hx76 Hx75
    clear hmr
    have Cx80 := hid (Cx77.out.go hm hr)
    clear Cx77 hm hr Z act E
    clear Hx78
    clear Hx79
    refine QChain.go fun Z act E => ?_
    refine qc_callF (args := #[.agg #[.int .i64 xo.ep, .int .i64 xo.rn, .int .i64 vl, .int .i64 xo.rp, .int .i64 (cutBa xo.ba).ep, .int .u64 ((cutBa xo.ba).tm : Nat), Value.slice aob0 (cutBa xo.ba).ps.length capb0, Value.slice aob1 (cutBa xo.ba).os.length capb1, Value.slice aob2 (cutBa xo.ba).ts.length capb2, .int .i64 xo.sb, .int .i64 xo.mr]]) rfl ((wanted_of rfl rfl (E.sz 49 (by decide)) (E.e 26 .chain)).trans rfl) rfl Try.func60 (args1 (E.d 27)) (ProposalText_Q _ _ ({ xo with vl := vl, ba := cutBa xo.ba } : Pr) _ ⟨_, _, _, rfl, HPO.out, (Hx39.out.mod Cx80.out (fun _ _ h => h)), (Hx40.out.mod Cx80.out (fun _ _ h => h)), (Hx41.out.mod Cx80.out (fun _ _ h => h))⟩ (by intro k h1; rcases h1 with h1 | h1 <;> first | omega | (have hb := HBT.out k h1; omega)) ⟨⟨propT_len HPO.out HVL.out, HVL.out⟩, Nat.le_trans HBL.out (by decide)⟩) ?_
    rintro e u4_13a ⟨v_a9, rfl, qa9, hm⟩
    obtain ⟨ao_a9, cap_a9, rfl⟩ := qa9.shape
    have zu4_13a := hm.size
    refine ⟨_, rfl, hm.mono (fun _ _ h => h.elim), (fun _ => rfl), ?_⟩
    intro u4_13 hr
    have zu4_13 := hr.size
    have Hx81 := hid ((qa9.widen (R' := (fun k => (New u4_12 u4_13a k))) (fun _ h => h) (Nat.le_refl _)).mod hr (by intro k h1 h2; omega))
    have Cx82 := hid (Cx80.out.go hm hr)
    clear Cx80 hm hr Z act E qa9
    refine QChain.go fun Z act E => ?_
    refine qc_callF (args := #[.agg #[.int .i64 xo.ep, .int .i64 xo.rn, .int .i64 vl, .int .i64 xo.rp, .int .i64 (cutBa xo.ba).ep, .int .u64 ((cutBa xo.ba).tm : Nat), Value.slice aob0 (cutBa xo.ba).ps.length capb0, Value.slice aob1 (cutBa xo.ba).os.length capb1, Value.slice aob2 (cutBa xo.ba).ts.length capb2, .int .i64 xo.sb, .int .i64 xo.mr]]) rfl ((wanted_of rfl rfl (E.sz 49 (by decide)) (E.e 26 .guard)).trans rfl) rfl Try.func61 (args1 (E.d 29)) (RefPropT_Q _ _ ({ xo with vl := vl, ba := cutBa xo.ba } : Pr) _ ⟨_, _, _, rfl, HPO.out, (Hx39.out.mod Cx82.out (fun _ _ h => h)), (Hx40.out.mod Cx82.out (fun _ _ h => h)), (Hx41.out.mod Cx82.out (fun _ _ h => h))⟩ (by intro k h1; rcases h1 with h1 | h1 <;> first | omega | (have hb := HBT.out k h1; omega)) ⟨⟨propT_len HPO.out HVL.out, HVL.out⟩, Nat.le_trans HBL.out (by decide)⟩) ?_
    rintro e u4_14a ⟨v_a10, rfl, qa10, hm⟩
    obtain ⟨ao_a10, cap_a10, rfl⟩ := qa10.shape
    have zu4_14a := hm.size
    refine ⟨_, rfl, hm.mono (fun _ _ h => h.elim), (fun _ => rfl), ?_⟩
    intro u4_14 hr
    have zu4_14 := hr.size
    have Hx83 := hid ((qa10.widen (R' := (fun k => (New u4_13 u4_14a k))) (fun _ h => h) (Nat.le_refl _)).mod hr (by intro k h1 h2; omega))
    have hmr := Mod.after hm hr
    have Hx84 := hid (Hx81.out.mod hmr (by intro k h1 h2; omega))
    clear Hx81
    clear hmr
    have Cx85 := hid (Cx82.out.go hm hr)
    clear Cx82 hm hr Z act E qa10
    refine QChain.go fun Z act E => ?_
    refine qc_callF (args := #[.slice ao_a9 ((propT ({ xo with vl := vl, ba := cutBa xo.ba } : Pr)).length) cap_a9, .slice ao_a10 ((propT ({ xo with vl := vl, ba := cutBa xo.ba } : Pr)).length) cap_a10]) rfl ((wanted_of rfl rfl (E.sz 49 (by decide)) (E.e 26 .guard)).trans rfl) rfl Try.func18 (args2 (chv (v := .slice ao_a9 ((propT ({ xo with vl := vl, ba := cutBa xo.ba } : Pr)).length) cap_a9) (E.d 28)) (chv (v := .slice ao_a10 ((propT ({ xo with vl := vl, ba := cutBa xo.ba } : Pr)).length) cap_a10) (E.d 30))) (Same_true Hx84.out.rd Hx83.out.rd rfl) ?_
    rintro e u4_15a ⟨rfl, hm⟩
    have zu4_15a := hm.size
    refine ⟨_, rfl, hm.mono (fun _ _ h => h.elim), (fun _ => rfl), ?_⟩
    intro u4_15 hr
    have zu4_15 := hr.size
    have hmr := Mod.after hm hr
    have Hx86 := hid (Hx84.out.mod hmr (by intro k h1 h2; omega))
    have Hx87 := hid (Hx83.out.mod hmr (by intro k h1 h2; omega))
    clear Hx84 Hx83
    clear hmr
    have Cx88 := hid (Cx85.out.go hm hr)
    clear Cx85 hm hr Z act E
    clear Hx86
    clear Hx87
    clear Hx39
    clear Hx40
    clear Hx41
    refine QChain.go fun Z act E => ?_
    refine qc_callF (args := #[.agg (xv.cells).toArray]) rfl ((wanted_of rfl rfl (E.sz 56 (by decide)) (E.e 33 .chain)).trans rfl) rfl Try.func15 (args1 (E.d 34)) (VoteText_Q (fun _ => False) _ xv _ ⟨rfl, HOF.out⟩ (fun _ h => h.elim) (voteT_len HOF.out)) ?_
    rintro e u4_16a ⟨v_a11, rfl, qa11, hm⟩
    obtain ⟨ao_a11, cap_a11, rfl⟩ := qa11.shape
    have zu4_16a := hm.size
    refine ⟨_, rfl, hm.mono (fun _ _ h => h.elim), (fun _ => rfl), ?_⟩
    intro u4_16 hr
    have zu4_16 := hr.size
    have Hx89 := hid ((qa11.widen (R' := (fun k => (New u4_15 u4_16a k))) (fun _ h => h) (Nat.le_refl _)).mod hr (by intro k h1 h2; omega))
    have Cx90 := hid (Cx88.out.go hm hr)
    clear Cx88 hm hr Z act E qa11
    refine QChain.go fun Z act E => ?_
    refine qc_callF (args := #[.agg (xv.cells).toArray]) rfl ((wanted_of rfl rfl (E.sz 56 (by decide)) (E.e 33 .guard)).trans rfl) rfl Try.func62 (args1 (E.d 36)) (RefVoteT_Q (fun _ => False) _ xv _ ⟨rfl, HOF.out⟩ (fun _ h => h.elim) (voteT_len HOF.out)) ?_
    rintro e u4_17a ⟨v_a12, rfl, qa12, hm⟩
    obtain ⟨ao_a12, cap_a12, rfl⟩ := qa12.shape
    have zu4_17a := hm.size
    refine ⟨_, rfl, hm.mono (fun _ _ h => h.elim), (fun _ => rfl), ?_⟩
    intro u4_17 hr
    have zu4_17 := hr.size
    have Hx91 := hid ((qa12.widen (R' := (fun k => (New u4_16 u4_17a k))) (fun _ h => h) (Nat.le_refl _)).mod hr (by intro k h1 h2; omega))
    have hmr := Mod.after hm hr
    have Hx92 := hid (Hx89.out.mod hmr (by intro k h1 h2; omega))
    clear Hx89
    clear hmr
    have Cx93 := hid (Cx90.out.go hm hr)
    clear Cx90 hm hr Z act E qa12
    refine QChain.go fun Z act E => ?_
    refine qc_callF (args := #[.slice ao_a11 ((voteT xv).length) cap_a11, .slice ao_a12 ((voteT xv).length) cap_a12]) rfl ((wanted_of rfl rfl (E.sz 56 (by decide)) (E.e 33 .guard)).trans rfl) rfl Try.func18 (args2 (chv (v := .slice ao_a11 ((voteT xv).length) cap_a11) (E.d 35)) (chv (v := .slice ao_a12 ((voteT xv).length) cap_a12) (E.d 37))) (Same_true Hx92.out.rd Hx91.out.rd rfl) ?_
    rintro e u4_18a ⟨rfl, hm⟩
    have zu4_18a := hm.size
    refine ⟨_, rfl, hm.mono (fun _ _ h => h.elim), (fun _ => rfl), ?_⟩
    intro u4_18 hr
    have zu4_18 := hr.size
    have hmr := Mod.after hm hr
    have Hx94 := hid (Hx92.out.mod hmr (by intro k h1 h2; omega))
    have Hx95 := hid (Hx91.out.mod hmr (by intro k h1 h2; omega))
    clear Hx92 Hx91
    clear hmr
    have Cx96 := hid (Cx93.out.go hm hr)
    clear Cx93 hm hr Z act E
    clear Hx94
    clear Hx95
    refine QChain.go fun Z act E => ?_
    refine qc_callF (args := #[]) rfl ((wanted_of rfl rfl (E.sz 63 (by decide)) (E.e 40 .chain)).trans rfl) rfl Try.func19 args0 (wakes05 _) ?_
    rintro e u4_19a ⟨rfl, hm⟩
    have zu4_19a := hm.size
    refine ⟨_, rfl, hm.mono (fun _ _ h => h.elim), (fun _ => rfl), ?_⟩
    intro u4_19 hr
    have zu4_19 := hr.size
    have Cx97 := hid (Cx96.out.go hm hr)
    clear Cx96 hm hr Z act E
    refine QChain.nil fun vs hl hzz hrows hne => ?_
    obtain ⟨Z, hYZ, hZb, hV⟩ := hzz
    have f43 := fvi hV hl 43
    rw [show vs = [gw vs 0, gw vs 1, gw vs 2, gw vs 3, gw vs 4, gw vs 5, gw vs 6, gw vs 7, gw vs 8, gw vs 9, gw vs 10, gw vs 11, gw vs 12, gw vs 13, gw vs 14, gw vs 15, gw vs 16, gw vs 17, gw vs 18, gw vs 19, gw vs 20, gw vs 21, gw vs 22, gw vs 23, gw vs 24, gw vs 25, gw vs 26, gw vs 27, gw vs 28, gw vs 29, gw vs 30, gw vs 31, gw vs 32, gw vs 33, gw vs 34, gw vs 35, gw vs 36, gw vs 37, gw vs 38, gw vs 39, gw vs 40, gw vs 41, gw vs 42, gw vs 43] from (gw_eta hl).trans rfl]
    have ha0 := HA0.out
    subst ha0
    clear HA0 hV hYZ hZb hsz0 hrows hne oe6 oe7 oe8 oe9 oe10 oe11
    simp only [putAll, Act.put, List.setIfInBounds_toArray, List.set_cons_zero, List.set_cons_succ, f43]
    clear hl f43
    go_wp2
    go_ret
    exact ⟨rfl, (Hx47.out.trans Cx97.out (fun _ _ h => h.elim))⟩
end Go.Proofs.Ytknpapcfhnhheaa

/- Pairs, commitments as arguments. -/
set_option maxRecDepth 100000
set_option linter.unusedVariables false
namespace Go.Proofs.Ytknpapcfhnhheaa
open Go Go.RowKit Go.Gv Go.ChangeShapes Go.WideShapes Go.ChangeAt Go.Deep

section
variable {H : Type} {enc : TypeId × Value → H} {W : World}
theorem trod_pair {t : TypeId} {fs : Array Field} {fuel : Nat} {cs : List Value} {x : DataW H × List MemPlace} (ht : Try.prog.underlying t = some (.struct fs)) (hs : fs.size = 2) (h0 : (fs[0]?).map (fun f => (f.offset, f.type)) = some (0, 3)) (h1 : (fs[1]?).map (fun f => (f.offset, f.type)) = some (1, 3)) (hc : Try.prog.cellsOf t = 2)
    (h : DataW.trod enc Try.prog W 0 (fun _ => true) true fuel t cs = some x) : ∃ a b : Int, cs = [.int .i64 a, .int .i64 b] ∧ I64 a ∧ I64 b := by
  obtain ⟨xs, n, _, -, hl, hn, hf⟩ := DataW.trod_struct ht h
  rw [hc] at hl
  have hxs : xs.length = 2 := hn.trans hs
  obtain ⟨q0, e0, hq0⟩ : ∃ f, fs[0]? = some f ∧ (f.offset, f.type) = (0, 3) := by
    cases hh : fs[0]? with
    | none => rw [hh] at h0; cases h0
    | some f => rw [hh] at h0; exact ⟨f, rfl, Option.some.inj h0⟩
  obtain ⟨q1, e1, hq1⟩ : ∃ f, fs[1]? = some f ∧ (f.offset, f.type) = (1, 3) := by
    cases hh : fs[1]? with
    | none => rw [hh] at h1; cases h1
    | some f => rw [hh] at h1; exact ⟨f, rfl, Option.some.inj h1⟩
  have f0 := hf 0 _ e0
  have f1 := hf 1 _ e1
  rw [show q0.offset = 0 from congrArg Prod.fst hq0, show q0.type = 3 from congrArg Prod.snd hq0] at f0
  rw [show q1.offset = 1 from congrArg Prod.fst hq1, show q1.type = 3 from congrArg Prod.snd hq1] at f1
  rw [List.getElem?_eq_getElem (by omega), show Try.prog.cellsOf 3 = 1 from by kernel_rfl] at f0 f1
  match cs, hl with
  | [c0, c1], _ =>
    simp only [List.drop_zero, List.drop_succ_cons, List.take_succ_cons, List.take_zero] at f0 f1
    obtain ⟨p0, e0, _, w0⟩ := DataW.trod_int Try.underlying3 f0
    obtain ⟨p1, e1, _, w1⟩ := DataW.trod_int Try.underlying3 f1
    simp at e0 e1
    subst e0 e1
    exact ⟨p0, p1, rfl, bounds_i64 w0, bounds_i64 w1⟩
theorem cm_cells {fuel : Nat} {cs : List Value} {x : DataW H × List MemPlace} (h : DataW.trod enc Try.prog W 0 (fun _ => true) true fuel 49 cs = some x) : ∃ c : Cm, cs = c.cells ∧ c.OK := by
  obtain ⟨xs, n, _, -, hl, hn, hf⟩ := DataW.trod_struct Try.underlying49 h
  rw [show Try.prog.cellsOf 49 = 37 from by kernel_rfl] at hl
  have hxs : xs.length = 4 := hn
  have f0 : DataW.trod enc Try.prog W 0 (fun _ => true) true n 23 ((cs.drop 0).take (Try.prog.cellsOf 23)) = xs[0]? := hf 0 _ rfl
  have f1 : DataW.trod enc Try.prog W 0 (fun _ => true) true n 25 ((cs.drop 2).take (Try.prog.cellsOf 25)) = xs[1]? := hf 1 _ rfl
  have f2 : DataW.trod enc Try.prog W 0 (fun _ => true) true n 3 ((cs.drop 34).take (Try.prog.cellsOf 3)) = xs[2]? := hf 2 _ rfl
  have f3 : DataW.trod enc Try.prog W 0 (fun _ => true) true n 28 ((cs.drop 35).take (Try.prog.cellsOf 28)) = xs[3]? := hf 3 _ rfl
  rw [List.getElem?_eq_getElem (by omega)] at f0 f1 f2 f3
  obtain ⟨a, b, e0, h1, h2⟩ := trod_pair Try.underlying23 rfl rfl rfl (by kernel_rfl) f0
  obtain ⟨hs, e1, hb, hl32⟩ := trod_arr Try.underlying25 Try.underlying5 (by kernel_rfl) (by kernel_rfl) f1
  obtain ⟨sa, sb, e3, h3, h4⟩ := trod_pair Try.underlying28 rfl rfl rfl (by kernel_rfl) f3
  rw [show Try.prog.cellsOf 23 = 2 from by kernel_rfl] at e0
  rw [show Try.prog.cellsOf 25 = 32 from by kernel_rfl] at e1
  rw [show Try.prog.cellsOf 3 = 1 from by kernel_rfl] at f2
  rw [show Try.prog.cellsOf 28 = 2 from by kernel_rfl] at e3
  obtain ⟨q, e2, _, w2⟩ := DataW.trod_int Try.underlying3 f2
  refine ⟨⟨a, b, hs, q, sa, sb⟩, ?_, ⟨h1, h2, bounds_i64 w2, h3, h4⟩, hl32, hb⟩
  have d1 : cs = cs.take 2 ++ cs.drop 2 := (List.take_append_drop 2 cs).symm
  have d2 : cs.drop 2 = (cs.drop 2).take 32 ++ cs.drop 34 := by conv => lhs; rw [← List.take_append_drop 32 (cs.drop 2)]; rw [List.drop_drop]
  have d3 : cs.drop 34 = (cs.drop 34).take 1 ++ cs.drop 35 := by conv => lhs; rw [← List.take_append_drop 1 (cs.drop 34)]; rw [List.drop_drop]
  have d4 : cs.drop 35 = (cs.drop 35).take 2 := (List.take_of_length_le (by rw [List.length_drop]; omega)).symm
  rw [List.drop_zero] at e0
  rw [d1, d2, d3, d4, e0, e1, e2, e3]
  rfl
end
end Go.Proofs.Ytknpapcfhnhheaa

/- Things as arguments: whatever a reading gives of them. -/
set_option maxRecDepth 100000
set_option linter.unusedVariables false
namespace Go.Proofs.Ytknpapcfhnhheaa
open Go Go.RowKit Go.Gv Go.ChangeShapes Go.WideShapes Go.ChangeAt Go.Deep

def segs (cs : List Value) : Nat → List Nat → List (List Value)
  | _, [] => []
  | off, n :: ns => (cs.drop off).take n :: segs cs (off + n) ns
theorem segs_all (cs : List Value) : ∀ (ns : List Nat) (off : Nat), cs.length = off + ns.sum → cs.drop off = (segs cs off ns).flatten
  | [], off, h => by simp at h; simp [segs, List.drop_of_length_le (show cs.length ≤ off by omega)]
  | n :: ns, off, h => by
    have ih := segs_all cs ns (off + n) (by simp at h; omega)
    simp only [segs, List.flatten_cons]
    rw [← ih, ← List.drop_drop, List.take_append_drop]
theorem seg_one {cs : List Value} {off : Nat} (h : off < cs.length) : ∃ v, (cs.drop off).take 1 = [v] := ⟨cs[off], by rw [List.drop_eq_getElem_cons h]; rfl⟩
/-- whatever reads as a T reads as one of A -/
def Reads {α : Type} (A : Rep α) (T : TypeId) : Prop := ∀ (H : Type) (enc : TypeId × Value → H) (W : World) (fuel : Nat) (cs : List Value) (x : DataW H × List MemPlace), DataW.trod enc Try.prog W 0 (fun _ => true) true fuel T cs = some x → ∃ a, A.rd (fun k => k < W.heap.size) W cs a
theorem all_list {α : Type} {P : List Value → α → Prop} : ∀ (css : List (List Value)), (∀ cs ∈ css, ∃ a, P cs a) → ∃ l : List α, l.length = css.length ∧ ∀ (i : Nat) cs a, css[i]? = some cs → l[i]? = some a → P cs a
  | [], _ => ⟨[], rfl, fun i cs a h => by simp at h⟩
  | c :: r, h => by
    obtain ⟨a, ha⟩ := h c (by simp)
    obtain ⟨l, h1, h2⟩ := all_list r fun cs hcs => h cs (by simp [hcs])
    refine ⟨a :: l, by simp [h1], fun i cs b hi hb => ?_⟩
    cases i with
    | zero => simp at hi hb; subst hi hb; exact ha
    | succ i => simp at hi hb; exact h2 i cs b hi hb
theorem trod_slice {α : Type} {A : Rep α} {t e : TypeId} {H : Type} {enc : TypeId × Value → H} {W : World} {fuel : Nat} {v : Value} {x : DataW H × List MemPlace} (hr : Reads A e) (ht : Try.prog.underlying t = some (.slice e)) (hce : Try.prog.cellsOf e = A.sz)
    (h : DataW.trod enc Try.prog W 0 (fun _ => true) true fuel t [v] = some x) : ∃ l : List α, RdS A (fun k => k < W.heap.size) W v l := by
  haveI : Inhabited {cs : List Value // cs.length = A.sz} := ⟨⟨List.replicate A.sz undef, by simp⟩⟩
  have hsh : ∃ ao n cap, v = .slice ao n cap ∧ n ≤ cap ∧ cap ≤ maxLen ∧ (ao = none → cap = 0) := by
    rcases open_slice ht h with ⟨hcs, _⟩ | ⟨a, len, cap, m, n, D, Pl, hcs, _, hl, hm, hmm, _, hel⟩
    · simp at hcs; subst hcs; exact ⟨none, 0, 0, rfl, Nat.le_refl _, Nat.zero_le _, fun _ => rfl⟩
    · simp at hcs; subst hcs; simp only [if_true] at hmm; subst hmm; exact ⟨some a, len, _, rfl, hl, hm, fun h => by cases h⟩
  obtain ⟨raws, h1, h2⟩ := trod_list (fun a : {cs : List Value // cs.length = A.sz} => a.1) (fun a => ∃ y, A.rd (fun k => k < W.heap.size) W a.1 y) ht hce A.pos (fun a => a.2)
    (fun fuel cs x hx => by obtain ⟨a, ha⟩ := hr H enc W fuel cs x hx; exact ⟨⟨cs, A.len ha⟩, rfl, a, ha⟩) h
  obtain ⟨l, hl, hP⟩ := all_list (P := fun cs a => A.rd (fun k => k < W.heap.size) W cs a) (raws.map (·.1)) (fun cs hcs => by obtain ⟨a, ha, rfl⟩ := List.mem_map.1 hcs; exact h2 a ha)
  have hl' : l.length = raws.length := by simpa using hl
  refine ⟨l, raws.map (·.1), by simp [hl'], hP, ?_, ?_⟩
  · have hcl : ∀ cs ∈ raws.map (·.1), cs.length = A.sz := fun cs hcs => by obtain ⟨a, _, rfl⟩ := List.mem_map.1 hcs; exact a.2
    have hfl := flat_len hcl
    rcases h1 with ⟨rfl, ao, cap, rfl⟩ | ⟨g, o, cap, hg, rfl, h0, hc, hm, hcell⟩
    · obtain ⟨ao', n', cap', e', g1, g2, g3⟩ := hsh
      cases e'
      obtain rfl : l = [] := List.eq_nil_of_length_eq_zero (by simpa using hl')
      exact Rd.zero _ _ _ _ g2 g3
    · rw [hl']
      refine Rd.mk hc hm (by rw [hfl]; simp) fun j u hu => ?_
      have hj := (List.getElem?_eq_some_iff.1 hu).1
      rw [hfl] at hj
      simp only [List.length_map] at hj
      have hq : j / A.sz < raws.length := Nat.div_lt_of_lt_mul (by rw [Nat.mul_comm]; exact hj)
      have hmod := Nat.mod_lt j A.pos
      have hdm := Nat.div_add_mod j A.sz
      have hgt := flat_get hcl (j / A.sz) raws[j / A.sz].1 (by simp [List.getElem?_eq_getElem hq]) (j % A.sz) (raws[j / A.sz].1[j % A.sz]'(by rw [raws[j / A.sz].2]; exact hmod)) (List.getElem?_eq_getElem _)
      rw [show j / A.sz * A.sz + j % A.sz = j by rw [Nat.mul_comm]; exact hdm] at hgt
      rw [hgt] at hu
      have := hcell (j / A.sz) hq (j % A.sz) u (by rw [List.getElem?_eq_getElem (by rw [raws[j / A.sz].2]; exact hmod)]; exact hu)
      rw [show o + j / A.sz * A.sz + j % A.sz = o + j by rw [Nat.add_assoc, Nat.mul_comm, hdm]] at this
      exact this
  · intro h0 g hg
    rcases h1 with ⟨rfl, ao, cap, rfl⟩ | ⟨g', o, cap, hg', rfl, _⟩
    · simp at hl'; rw [hl'] at h0; simp at h0
    · simp [Value.ownBlock] at hg; subst hg; exact hg'
theorem reads_arg {α : Type} {A : Rep α} {T : TypeId} (hr : Reads A T) {fs : Array Field} (hu : Try.prog.underlying T = some (.struct fs)) {H : Type} {enc : TypeId × Value → H} {W : World} {base : Nat} {v : Value} {d : DataW H} {p : List MemPlace} (hv' : Value.okWide Try.prog W .any base T v)
    (h : DataW.Trod enc Try.prog W 0 (fun _ => true) true T v d p) : ∃ cs a, v = .agg cs.toArray ∧ A.rd (fun k => k < W.heap.size) W cs a := by
  obtain ⟨fuel, hf⟩ := h
  simp only [Value.okWide, hu] at hv'
  obtain ⟨cs, rfl, -, -⟩ := hv'
  obtain ⟨a, ha⟩ := hr _ _ _ _ _ _ hf
  exact ⟨_, a, (by congr 1), ha⟩
theorem reads_cm : Reads CmR 49 := fun H enc W fuel cs x h => by obtain ⟨c, e, hok⟩ := cm_cells h; exact ⟨c, e, hok⟩
theorem reads_st : Reads StR 30 := by
  intro H enc W fuel cs x h
  obtain ⟨xs, n, _, -, hl, hn, hf⟩ := DataW.trod_struct Try.underlying30 h
  rw [show Try.prog.cellsOf 30 = 38 from by kernel_rfl] at hl
  have hxs : xs.length = 5 := hn
  have f0 : DataW.trod enc Try.prog W 0 (fun _ => true) true n 3 ((cs.drop 0).take (Try.prog.cellsOf 3)) = xs[0]? := hf 0 _ rfl
  rw [List.getElem?_eq_getElem (by omega), show Try.prog.cellsOf 3 = 1 from by kernel_rfl] at f0
  have f1 : DataW.trod enc Try.prog W 0 (fun _ => true) true n 23 ((cs.drop 1).take (Try.prog.cellsOf 23)) = xs[1]? := hf 1 _ rfl
  rw [List.getElem?_eq_getElem (by omega), show Try.prog.cellsOf 23 = 2 from by kernel_rfl] at f1
  have f2 : DataW.trod enc Try.prog W 0 (fun _ => true) true n 25 ((cs.drop 3).take (Try.prog.cellsOf 25)) = xs[2]? := hf 2 _ rfl
  rw [List.getElem?_eq_getElem (by omega), show Try.prog.cellsOf 25 = 32 from by kernel_rfl] at f2
  have f3 : DataW.trod enc Try.prog W 0 (fun _ => true) true n 26 ((cs.drop 35).take (Try.prog.cellsOf 26)) = xs[3]? := hf 3 _ rfl
  rw [List.getElem?_eq_getElem (by omega), show Try.prog.cellsOf 26 = 1 from by kernel_rfl] at f3
  have f4 : DataW.trod enc Try.prog W 0 (fun _ => true) true n 28 ((cs.drop 36).take (Try.prog.cellsOf 28)) = xs[4]? := hf 4 _ rfl
  rw [List.getElem?_eq_getElem (by omega), show Try.prog.cellsOf 28 = 2 from by kernel_rfl] at f4
  obtain ⟨rp, e0, _, w0⟩ := DataW.trod_int Try.underlying3 f0
  obtain ⟨cl, sq, e1, w1, w1'⟩ := trod_pair Try.underlying23 rfl rfl rfl (by kernel_rfl) f1
  obtain ⟨hh, e2, w2, w2'⟩ := trod_arr Try.underlying25 Try.underlying5 (by kernel_rfl) (by kernel_rfl) f2
  obtain ⟨tm', e3, _, w3⟩ := DataW.trod_int Try.underlying26 f3
  obtain ⟨tm, rfl, w3'⟩ := u64_nat w3
  obtain ⟨sb, mr, e4, w4, w4'⟩ := trod_pair Try.underlying28 rfl rfl rfl (by kernel_rfl) f4
  have hcs := segs_all cs [1, 2, 32, 1, 2] 0 (by simpa using hl)
  simp only [List.drop_zero, segs, List.flatten_cons, List.flatten_nil, List.append_nil, Nat.zero_add, Nat.reduceAdd, e0, e1, e2, e3, e4] at hcs
  (try rw [List.drop_zero] at e0)
  (try simp only [e0] at hcs)
  exact ⟨⟨rp, cl, sq, hh, tm, sb, mr⟩, by rw [hcs]; rfl, ⟨bounds_i64 w0, w1, w1', ⟨w2', w2⟩, w3', w4, w4'⟩⟩
theorem reads_ak : Reads StR 44 := by
  intro H enc W fuel cs x h
  obtain ⟨xs, n, _, -, hl, hn, hf⟩ := DataW.trod_struct Try.underlying44 h
  rw [show Try.prog.cellsOf 44 = 38 from by kernel_rfl] at hl
  have hxs : xs.length = 5 := hn
  have f0 : DataW.trod enc Try.prog W 0 (fun _ => true) true n 3 ((cs.drop 0).take (Try.prog.cellsOf 3)) = xs[0]? := hf 0 _ rfl
  rw [List.getElem?_eq_getElem (by omega), show Try.prog.cellsOf 3 = 1 from by kernel_rfl] at f0
  have f1 : DataW.trod enc Try.prog W 0 (fun _ => true) true n 23 ((cs.drop 1).take (Try.prog.cellsOf 23)) = xs[1]? := hf 1 _ rfl
  rw [List.getElem?_eq_getElem (by omega), show Try.prog.cellsOf 23 = 2 from by kernel_rfl] at f1
  have f2 : DataW.trod enc Try.prog W 0 (fun _ => true) true n 25 ((cs.drop 3).take (Try.prog.cellsOf 25)) = xs[2]? := hf 2 _ rfl
  rw [List.getElem?_eq_getElem (by omega), show Try.prog.cellsOf 25 = 32 from by kernel_rfl] at f2
  have f3 : DataW.trod enc Try.prog W 0 (fun _ => true) true n 26 ((cs.drop 35).take (Try.prog.cellsOf 26)) = xs[3]? := hf 3 _ rfl
  rw [List.getElem?_eq_getElem (by omega), show Try.prog.cellsOf 26 = 1 from by kernel_rfl] at f3
  have f4 : DataW.trod enc Try.prog W 0 (fun _ => true) true n 28 ((cs.drop 36).take (Try.prog.cellsOf 28)) = xs[4]? := hf 4 _ rfl
  rw [List.getElem?_eq_getElem (by omega), show Try.prog.cellsOf 28 = 2 from by kernel_rfl] at f4
  obtain ⟨rp, e0, _, w0⟩ := DataW.trod_int Try.underlying3 f0
  obtain ⟨cl, sq, e1, w1, w1'⟩ := trod_pair Try.underlying23 rfl rfl rfl (by kernel_rfl) f1
  obtain ⟨hh, e2, w2, w2'⟩ := trod_arr Try.underlying25 Try.underlying5 (by kernel_rfl) (by kernel_rfl) f2
  obtain ⟨tm', e3, _, w3⟩ := DataW.trod_int Try.underlying26 f3
  obtain ⟨tm, rfl, w3'⟩ := u64_nat w3
  obtain ⟨sb, mr, e4, w4, w4'⟩ := trod_pair Try.underlying28 rfl rfl rfl (by kernel_rfl) f4
  have hcs := segs_all cs [1, 2, 32, 1, 2] 0 (by simpa using hl)
  simp only [List.drop_zero, segs, List.flatten_cons, List.flatten_nil, List.append_nil, Nat.zero_add, Nat.reduceAdd, e0, e1, e2, e3, e4] at hcs
  (try rw [List.drop_zero] at e0)
  (try simp only [e0] at hcs)
  exact ⟨⟨rp, cl, sq, hh, tm, sb, mr⟩, by rw [hcs]; rfl, ⟨bounds_i64 w0, w1, w1', ⟨w2', w2⟩, w3', w4, w4'⟩⟩
theorem reads_vt : Reads VtR 32 := by
  intro H enc W fuel cs x h
  obtain ⟨xs, n, _, -, hl, hn, hf⟩ := DataW.trod_struct Try.underlying32 h
  rw [show Try.prog.cellsOf 32 = 38 from by kernel_rfl] at hl
  have hxs : xs.length = 6 := hn
  have f0 : DataW.trod enc Try.prog W 0 (fun _ => true) true n 3 ((cs.drop 0).take (Try.prog.cellsOf 3)) = xs[0]? := hf 0 _ rfl
  rw [List.getElem?_eq_getElem (by omega), show Try.prog.cellsOf 3 = 1 from by kernel_rfl] at f0
  have f1 : DataW.trod enc Try.prog W 0 (fun _ => true) true n 3 ((cs.drop 1).take (Try.prog.cellsOf 3)) = xs[1]? := hf 1 _ rfl
  rw [List.getElem?_eq_getElem (by omega), show Try.prog.cellsOf 3 = 1 from by kernel_rfl] at f1
  have f2 : DataW.trod enc Try.prog W 0 (fun _ => true) true n 3 ((cs.drop 2).take (Try.prog.cellsOf 3)) = xs[2]? := hf 2 _ rfl
  rw [List.getElem?_eq_getElem (by omega), show Try.prog.cellsOf 3 = 1 from by kernel_rfl] at f2
  have f3 : DataW.trod enc Try.prog W 0 (fun _ => true) true n 3 ((cs.drop 3).take (Try.prog.cellsOf 3)) = xs[3]? := hf 3 _ rfl
  rw [List.getElem?_eq_getElem (by omega), show Try.prog.cellsOf 3 = 1 from by kernel_rfl] at f3
  have f4 : DataW.trod enc Try.prog W 0 (fun _ => true) true n 25 ((cs.drop 4).take (Try.prog.cellsOf 25)) = xs[4]? := hf 4 _ rfl
  rw [List.getElem?_eq_getElem (by omega), show Try.prog.cellsOf 25 = 32 from by kernel_rfl] at f4
  have f5 : DataW.trod enc Try.prog W 0 (fun _ => true) true n 28 ((cs.drop 36).take (Try.prog.cellsOf 28)) = xs[5]? := hf 5 _ rfl
  rw [List.getElem?_eq_getElem (by omega), show Try.prog.cellsOf 28 = 2 from by kernel_rfl] at f5
  obtain ⟨kd, e0, _, w0⟩ := DataW.trod_int Try.underlying3 f0
  obtain ⟨ep, e1, _, w1⟩ := DataW.trod_int Try.underlying3 f1
  obtain ⟨rn, e2, _, w2⟩ := DataW.trod_int Try.underlying3 f2
  obtain ⟨rp, e3, _, w3⟩ := DataW.trod_int Try.underlying3 f3
  obtain ⟨hh, e4, w4, w4'⟩ := trod_arr Try.underlying25 Try.underlying5 (by kernel_rfl) (by kernel_rfl) f4
  obtain ⟨sb, mr, e5, w5, w5'⟩ := trod_pair Try.underlying28 rfl rfl rfl (by kernel_rfl) f5
  have hcs := segs_all cs [1, 1, 1, 1, 32, 2] 0 (by simpa using hl)
  simp only [List.drop_zero, segs, List.flatten_cons, List.flatten_nil, List.append_nil, Nat.zero_add, Nat.reduceAdd, e0, e1, e2, e3, e4, e5] at hcs
  (try rw [List.drop_zero] at e0)
  (try simp only [e0] at hcs)
  exact ⟨⟨kd, ep, rn, rp, hh, sb, mr⟩, by rw [hcs]; rfl, ⟨bounds_i64 w0, bounds_i64 w1, bounds_i64 w2, bounds_i64 w3, ⟨w4', w4⟩, w5, w5'⟩⟩
theorem reads_dn : Reads DnR 34 := by
  intro H enc W fuel cs x h
  obtain ⟨xs, n, _, -, hl, hn, hf⟩ := DataW.trod_struct Try.underlying34 h
  rw [show Try.prog.cellsOf 34 = 4 from by kernel_rfl] at hl
  have hxs : xs.length = 3 := hn
  have f0 : DataW.trod enc Try.prog W 0 (fun _ => true) true n 3 ((cs.drop 0).take (Try.prog.cellsOf 3)) = xs[0]? := hf 0 _ rfl
  rw [List.getElem?_eq_getElem (by omega), show Try.prog.cellsOf 3 = 1 from by kernel_rfl] at f0
  have f1 : DataW.trod enc Try.prog W 0 (fun _ => true) true n 3 ((cs.drop 1).take (Try.prog.cellsOf 3)) = xs[1]? := hf 1 _ rfl
  rw [List.getElem?_eq_getElem (by omega), show Try.prog.cellsOf 3 = 1 from by kernel_rfl] at f1
  have f2 : DataW.trod enc Try.prog W 0 (fun _ => true) true n 28 ((cs.drop 2).take (Try.prog.cellsOf 28)) = xs[2]? := hf 2 _ rfl
  rw [List.getElem?_eq_getElem (by omega), show Try.prog.cellsOf 28 = 2 from by kernel_rfl] at f2
  obtain ⟨rp, e0, _, w0⟩ := DataW.trod_int Try.underlying3 f0
  obtain ⟨ix, e1, _, w1⟩ := DataW.trod_int Try.underlying3 f1
  obtain ⟨sb, mr, e2, w2, w2'⟩ := trod_pair Try.underlying28 rfl rfl rfl (by kernel_rfl) f2
  have hcs := segs_all cs [1, 1, 2] 0 (by simpa using hl)
  simp only [List.drop_zero, segs, List.flatten_cons, List.flatten_nil, List.append_nil, Nat.zero_add, Nat.reduceAdd, e0, e1, e2] at hcs
  (try rw [List.drop_zero] at e0)
  (try simp only [e0] at hcs)
  exact ⟨⟨rp, ix, sb, mr⟩, by rw [hcs]; rfl, ⟨bounds_i64 w0, bounds_i64 w1, w2, w2'⟩⟩
theorem reads_ce : Reads CeR 52 := by
  intro H enc W fuel cs x h
  obtain ⟨xs, n, _, -, hl, hn, hf⟩ := DataW.trod_struct Try.underlying52 h
  rw [show Try.prog.cellsOf 52 = 38 from by kernel_rfl] at hl
  have hxs : xs.length = 2 := hn
  have f0 : DataW.trod enc Try.prog W 0 (fun _ => true) true n 49 ((cs.drop 0).take (Try.prog.cellsOf 49)) = xs[0]? := hf 0 _ rfl
  rw [List.getElem?_eq_getElem (by omega), show Try.prog.cellsOf 49 = 37 from by kernel_rfl] at f0
  have f1 : DataW.trod enc Try.prog W 0 (fun _ => true) true n 50 ((cs.drop 37).take (Try.prog.cellsOf 50)) = xs[1]? := hf 1 _ rfl
  rw [List.getElem?_eq_getElem (by omega), show Try.prog.cellsOf 50 = 1 from by kernel_rfl] at f1
  obtain ⟨c, e0, w0⟩ := reads_cm _ _ _ _ _ _ f0
  obtain ⟨v, e1⟩ := seg_one (cs := cs) (off := 37) (by omega)
  rw [e1] at f1
  obtain ⟨l, w1⟩ := trod_slice reads_st Try.underlying50 (by kernel_rfl) f1
  have hcs := segs_all cs [37, 1] 0 (by simpa using hl)
  simp only [List.drop_zero, segs, List.flatten_cons, List.flatten_nil, List.append_nil, Nat.zero_add, Nat.reduceAdd, e0, e1] at hcs
  (try rw [List.drop_zero] at e0)
  (try simp only [e0] at hcs)
  exact ⟨⟨c, l⟩, v, hcs, w0, w1⟩
theorem reads_pm : Reads PmR 55 := by
  intro H enc W fuel cs x h
  obtain ⟨xs, n, _, -, hl, hn, hf⟩ := DataW.trod_struct Try.underlying55 h
  rw [show Try.prog.cellsOf 55 = 6 from by kernel_rfl] at hl
  have hxs : xs.length = 5 := hn
  have f0 : DataW.trod enc Try.prog W 0 (fun _ => true) true n 3 ((cs.drop 0).take (Try.prog.cellsOf 3)) = xs[0]? := hf 0 _ rfl
  rw [List.getElem?_eq_getElem (by omega), show Try.prog.cellsOf 3 = 1 from by kernel_rfl] at f0
  have f1 : DataW.trod enc Try.prog W 0 (fun _ => true) true n 3 ((cs.drop 1).take (Try.prog.cellsOf 3)) = xs[1]? := hf 1 _ rfl
  rw [List.getElem?_eq_getElem (by omega), show Try.prog.cellsOf 3 = 1 from by kernel_rfl] at f1
  have f2 : DataW.trod enc Try.prog W 0 (fun _ => true) true n 26 ((cs.drop 2).take (Try.prog.cellsOf 26)) = xs[2]? := hf 2 _ rfl
  rw [List.getElem?_eq_getElem (by omega), show Try.prog.cellsOf 26 = 1 from by kernel_rfl] at f2
  have f3 : DataW.trod enc Try.prog W 0 (fun _ => true) true n 53 ((cs.drop 3).take (Try.prog.cellsOf 53)) = xs[3]? := hf 3 _ rfl
  rw [List.getElem?_eq_getElem (by omega), show Try.prog.cellsOf 53 = 1 from by kernel_rfl] at f3
  have f4 : DataW.trod enc Try.prog W 0 (fun _ => true) true n 28 ((cs.drop 4).take (Try.prog.cellsOf 28)) = xs[4]? := hf 4 _ rfl
  rw [List.getElem?_eq_getElem (by omega), show Try.prog.cellsOf 28 = 2 from by kernel_rfl] at f4
  obtain ⟨rp, e0, _, w0⟩ := DataW.trod_int Try.underlying3 f0
  obtain ⟨ep, e1, _, w1⟩ := DataW.trod_int Try.underlying3 f1
  obtain ⟨fl', e2, _, w2⟩ := DataW.trod_int Try.underlying26 f2
  obtain ⟨fl, rfl, w2'⟩ := u64_nat w2
  obtain ⟨v, e3⟩ := seg_one (cs := cs) (off := 3) (by omega)
  rw [e3] at f3
  obtain ⟨l, w3⟩ := trod_slice reads_ce Try.underlying53 (by kernel_rfl) f3
  obtain ⟨sb, mr, e4, w4, w4'⟩ := trod_pair Try.underlying28 rfl rfl rfl (by kernel_rfl) f4
  have hcs := segs_all cs [1, 1, 1, 1, 2] 0 (by simpa using hl)
  simp only [List.drop_zero, segs, List.flatten_cons, List.flatten_nil, List.append_nil, Nat.zero_add, Nat.reduceAdd, e0, e1, e2, e3, e4] at hcs
  (try rw [List.drop_zero] at e0)
  (try simp only [e0] at hcs)
  exact ⟨⟨rp, ep, fl, l, sb, mr⟩, v, hcs, ⟨bounds_i64 w0, bounds_i64 w1, w2', w4, w4'⟩, w3⟩
theorem reads_op : Reads OpR 87 := by
  intro H enc W fuel cs x h
  obtain ⟨xs, n, _, -, hl, hn, hf⟩ := DataW.trod_struct Try.underlying87 h
  rw [show Try.prog.cellsOf 87 = 34 from by kernel_rfl] at hl
  have hxs : xs.length = 3 := hn
  have f0 : DataW.trod enc Try.prog W 0 (fun _ => true) true n 3 ((cs.drop 0).take (Try.prog.cellsOf 3)) = xs[0]? := hf 0 _ rfl
  rw [List.getElem?_eq_getElem (by omega), show Try.prog.cellsOf 3 = 1 from by kernel_rfl] at f0
  have f1 : DataW.trod enc Try.prog W 0 (fun _ => true) true n 38 ((cs.drop 1).take (Try.prog.cellsOf 38)) = xs[1]? := hf 1 _ rfl
  rw [List.getElem?_eq_getElem (by omega), show Try.prog.cellsOf 38 = 1 from by kernel_rfl] at f1
  have f2 : DataW.trod enc Try.prog W 0 (fun _ => true) true n 25 ((cs.drop 2).take (Try.prog.cellsOf 25)) = xs[2]? := hf 2 _ rfl
  rw [List.getElem?_eq_getElem (by omega), show Try.prog.cellsOf 25 = 32 from by kernel_rfl] at f2
  obtain ⟨ix, e0, _, w0⟩ := DataW.trod_int Try.underlying3 f0
  obtain ⟨v, e1⟩ := seg_one (cs := cs) (off := 1) (by omega)
  rw [e1] at f1
  obtain ⟨pl, w1⟩ := trod_bytes f1
  obtain ⟨hh, e2, w2, w2'⟩ := trod_arr Try.underlying25 Try.underlying5 (by kernel_rfl) (by kernel_rfl) f2
  have hcs := segs_all cs [1, 1, 32] 0 (by simpa using hl)
  simp only [List.drop_zero, segs, List.flatten_cons, List.flatten_nil, List.append_nil, Nat.zero_add, Nat.reduceAdd, e0, e1, e2] at hcs
  (try rw [List.drop_zero] at e0)
  (try simp only [e0] at hcs)
  exact ⟨⟨ix, pl, hh⟩, v, hcs, ⟨bounds_i64 w0, w2', w2⟩, w1⟩
theorem reads_tb : Reads TbR 90 := by
  intro H enc W fuel cs x h
  obtain ⟨xs, n, _, -, hl, hn, hf⟩ := DataW.trod_struct Try.underlying90 h
  rw [show Try.prog.cellsOf 90 = 2 from by kernel_rfl] at hl
  have hxs : xs.length = 2 := hn
  have f0 : DataW.trod enc Try.prog W 0 (fun _ => true) true n 3 ((cs.drop 0).take (Try.prog.cellsOf 3)) = xs[0]? := hf 0 _ rfl
  rw [List.getElem?_eq_getElem (by omega), show Try.prog.cellsOf 3 = 1 from by kernel_rfl] at f0
  have f1 : DataW.trod enc Try.prog W 0 (fun _ => true) true n 88 ((cs.drop 1).take (Try.prog.cellsOf 88)) = xs[1]? := hf 1 _ rfl
  rw [List.getElem?_eq_getElem (by omega), show Try.prog.cellsOf 88 = 1 from by kernel_rfl] at f1
  obtain ⟨ix, e0, _, w0⟩ := DataW.trod_int Try.underlying3 f0
  obtain ⟨v, e1⟩ := seg_one (cs := cs) (off := 1) (by omega)
  rw [e1] at f1
  obtain ⟨l, w1⟩ := trod_slice reads_dn Try.underlying88 (by kernel_rfl) f1
  have hcs := segs_all cs [1, 1] 0 (by simpa using hl)
  simp only [List.drop_zero, segs, List.flatten_cons, List.flatten_nil, List.append_nil, Nat.zero_add, Nat.reduceAdd, e0, e1] at hcs
  (try rw [List.drop_zero] at e0)
  (try simp only [e0] at hcs)
  exact ⟨⟨ix, l⟩, v, hcs, bounds_i64 w0, w1⟩
theorem reads_ba : Reads BaR 60 := by
  intro H enc W fuel cs x h
  obtain ⟨xs, n, _, -, hl, hn, hf⟩ := DataW.trod_struct Try.underlying60 h
  rw [show Try.prog.cellsOf 60 = 5 from by kernel_rfl] at hl
  have hxs : xs.length = 5 := hn
  have f0 : DataW.trod enc Try.prog W 0 (fun _ => true) true n 3 ((cs.drop 0).take (Try.prog.cellsOf 3)) = xs[0]? := hf 0 _ rfl
  rw [List.getElem?_eq_getElem (by omega), show Try.prog.cellsOf 3 = 1 from by kernel_rfl] at f0
  have f1 : DataW.trod enc Try.prog W 0 (fun _ => true) true n 26 ((cs.drop 1).take (Try.prog.cellsOf 26)) = xs[1]? := hf 1 _ rfl
  rw [List.getElem?_eq_getElem (by omega), show Try.prog.cellsOf 26 = 1 from by kernel_rfl] at f1
  have f2 : DataW.trod enc Try.prog W 0 (fun _ => true) true n 56 ((cs.drop 2).take (Try.prog.cellsOf 56)) = xs[2]? := hf 2 _ rfl
  rw [List.getElem?_eq_getElem (by omega), show Try.prog.cellsOf 56 = 1 from by kernel_rfl] at f2
  have f3 : DataW.trod enc Try.prog W 0 (fun _ => true) true n 57 ((cs.drop 3).take (Try.prog.cellsOf 57)) = xs[3]? := hf 3 _ rfl
  rw [List.getElem?_eq_getElem (by omega), show Try.prog.cellsOf 57 = 1 from by kernel_rfl] at f3
  have f4 : DataW.trod enc Try.prog W 0 (fun _ => true) true n 58 ((cs.drop 4).take (Try.prog.cellsOf 58)) = xs[4]? := hf 4 _ rfl
  rw [List.getElem?_eq_getElem (by omega), show Try.prog.cellsOf 58 = 1 from by kernel_rfl] at f4
  obtain ⟨ep, e0, _, w0⟩ := DataW.trod_int Try.underlying3 f0
  obtain ⟨tm', e1, _, w1⟩ := DataW.trod_int Try.underlying26 f1
  obtain ⟨tm, rfl, w1'⟩ := u64_nat w1
  obtain ⟨vp, e2⟩ := seg_one (cs := cs) (off := 2) (by omega)
  rw [e2] at f2
  obtain ⟨ps, w2⟩ := trod_slice reads_pm Try.underlying56 (by kernel_rfl) f2
  obtain ⟨vo, e3⟩ := seg_one (cs := cs) (off := 3) (by omega)
  rw [e3] at f3
  obtain ⟨os, w3⟩ := trod_slice reads_op Try.underlying57 (by kernel_rfl) f3
  obtain ⟨vt, e4⟩ := seg_one (cs := cs) (off := 4) (by omega)
  rw [e4] at f4
  obtain ⟨ts, w4⟩ := trod_slice reads_tb Try.underlying58 (by kernel_rfl) f4
  have hcs := segs_all cs [1, 1, 1, 1, 1] 0 (by simpa using hl)
  simp only [List.drop_zero, segs, List.flatten_cons, List.flatten_nil, List.append_nil, Nat.zero_add, Nat.reduceAdd, e0, e1, e2, e3, e4] at hcs
  (try rw [List.drop_zero] at e0)
  (try simp only [e0] at hcs)
  exact ⟨⟨ep, tm, ps, os, ts⟩, vp, vo, vt, hcs, ⟨bounds_i64 w0, w1'⟩, w2, w3, w4⟩
end Go.Proofs.Ytknpapcfhnhheaa

/- Proposals as arguments. -/
set_option maxRecDepth 100000
set_option linter.unusedVariables false
namespace Go.Proofs.Ytknpapcfhnhheaa
open Go Go.RowKit Go.Gv Go.ChangeShapes Go.WideShapes Go.ChangeAt Go.Deep

theorem reads_pr : Reads PrR 107 := by
  intro H enc W fuel cs x h
  obtain ⟨xs, n, _, -, hl, hn, hf⟩ := DataW.trod_struct Try.underlying107 h
  rw [show Try.prog.cellsOf 107 = 11 from by kernel_rfl] at hl
  have hxs : xs.length = 6 := hn
  have f0 : DataW.trod enc Try.prog W 0 (fun _ => true) true n 3 ((cs.drop 0).take (Try.prog.cellsOf 3)) = xs[0]? := hf 0 _ rfl
  rw [List.getElem?_eq_getElem (by omega), show Try.prog.cellsOf 3 = 1 from by kernel_rfl] at f0
  have f1 : DataW.trod enc Try.prog W 0 (fun _ => true) true n 3 ((cs.drop 1).take (Try.prog.cellsOf 3)) = xs[1]? := hf 1 _ rfl
  rw [List.getElem?_eq_getElem (by omega), show Try.prog.cellsOf 3 = 1 from by kernel_rfl] at f1
  have f2 : DataW.trod enc Try.prog W 0 (fun _ => true) true n 3 ((cs.drop 2).take (Try.prog.cellsOf 3)) = xs[2]? := hf 2 _ rfl
  rw [List.getElem?_eq_getElem (by omega), show Try.prog.cellsOf 3 = 1 from by kernel_rfl] at f2
  have f3 : DataW.trod enc Try.prog W 0 (fun _ => true) true n 3 ((cs.drop 3).take (Try.prog.cellsOf 3)) = xs[3]? := hf 3 _ rfl
  rw [List.getElem?_eq_getElem (by omega), show Try.prog.cellsOf 3 = 1 from by kernel_rfl] at f3
  have f4 : DataW.trod enc Try.prog W 0 (fun _ => true) true n 60 ((cs.drop 4).take (Try.prog.cellsOf 60)) = xs[4]? := hf 4 _ rfl
  rw [List.getElem?_eq_getElem (by omega), show Try.prog.cellsOf 60 = 5 from by kernel_rfl] at f4
  have f5 : DataW.trod enc Try.prog W 0 (fun _ => true) true n 28 ((cs.drop 9).take (Try.prog.cellsOf 28)) = xs[5]? := hf 5 _ rfl
  rw [List.getElem?_eq_getElem (by omega), show Try.prog.cellsOf 28 = 2 from by kernel_rfl] at f5
  obtain ⟨ep, e0, _, w0⟩ := DataW.trod_int Try.underlying3 f0
  obtain ⟨rn, e1, _, w1⟩ := DataW.trod_int Try.underlying3 f1
  obtain ⟨vl, e2, _, w2⟩ := DataW.trod_int Try.underlying3 f2
  obtain ⟨rp, e3, _, w3⟩ := DataW.trod_int Try.underlying3 f3
  obtain ⟨ba, w4⟩ := reads_ba _ _ _ _ _ _ f4
  obtain ⟨vp, vo, vt, e4, w4, w4'⟩ := w4
  obtain ⟨sb, mr, e5, w5, w5'⟩ := trod_pair Try.underlying28 rfl rfl rfl (by kernel_rfl) f5
  have hcs := segs_all cs [1, 1, 1, 1, 5, 2] 0 (by simpa using hl)
  simp only [List.drop_zero, segs, List.flatten_cons, List.flatten_nil, List.append_nil, Nat.zero_add, Nat.reduceAdd, e0, e1, e2, e3, e4, e5] at hcs
  (try rw [List.drop_zero] at e0)
  (try simp only [e0] at hcs)
  exact ⟨⟨ep, rn, vl, rp, ba, sb, mr⟩, vp, vo, vt, hcs, ⟨bounds_i64 w0, bounds_i64 w1, bounds_i64 w2, bounds_i64 w3, w4, w5, w5'⟩, w4'⟩
end Go.Proofs.Ytknpapcfhnhheaa

set_option maxRecDepth 100000
set_option linter.unusedVariables false
namespace Go.Proofs.Ytknpapcfhnhheaa.wireTexts
open Go Go.RowKit Go.Gv Go.ChangeShapes Go.WideShapes Go.ChangeAt
open Go.ChangeMaps (open_string shut_string)

theorem own : ownKnob Try.prog.godebug = none := by kernel_rfl
theorem laidOut : laidOutB Try.prog = true := by kernel_rfl

theorem lifted (os : Os) (started : os.Started) (H : Type) (enc : TypeId × Value → H) :
    ReturnsInHanded {} Try.checked os 9 .any (Rows.wireTextsSpec.pre6 enc Try.prog Try.f9 Rows.wireTextsRow.domain false) (Rows.wireTextsSpec.post enc Try.prog Try.f9 false true false false) := by
  refine returnsInHanded_of_change (C := Try.checked) own started (by kernel_rfl) Try.func9
    (ChangeSpec.witness6 (enc := enc) (C := Try.checked) false ⟨#[], #[.agg #[.int .i64 0, .int .i64 0, .int .i64 0, .int .u8 0, .int .u8 0, .int .u8 0, .int .u8 0, .int .u8 0, .int .u8 0, .int .u8 0, .int .u8 0, .int .u8 0, .int .u8 0, .int .u8 0, .int .u8 0, .int .u8 0, .int .u8 0, .int .u8 0, .int .u8 0, .int .u8 0, .int .u8 0, .int .u8 0, .int .u8 0, .int .u8 0, .int .u8 0, .int .u8 0, .int .u8 0, .int .u8 0, .int .u8 0, .int .u8 0, .int .u8 0, .int .u8 0, .int .u8 0, .int .u8 0, .int .u8 0, .int .u64 0, .int .i64 0, .int .i64 0], .agg #[.int .i64 0, .int .i64 0, .int .i64 0, .int .u8 0, .int .u8 0, .int .u8 0, .int .u8 0, .int .u8 0, .int .u8 0, .int .u8 0, .int .u8 0, .int .u8 0, .int .u8 0, .int .u8 0, .int .u8 0, .int .u8 0, .int .u8 0, .int .u8 0, .int .u8 0, .int .u8 0, .int .u8 0, .int .u8 0, .int .u8 0, .int .u8 0, .int .u8 0, .int .u8 0, .int .u8 0, .int .u8 0, .int .u8 0, .int .u8 0, .int .u8 0, .int .u8 0, .int .u8 0, .int .u8 0, .int .u8 0, .int .u64 0, .int .i64 0, .int .i64 0], .agg #[.int .i64 0, .int .i64 0, .int .u64 0, .slice none 0 0, .int .i64 0, .int .i64 0], .agg #[.int .i64 0, .int .i64 0, .int .i64 0, .int .i64 0], .agg #[.int .i64 0, .int .i64 0, .int .i64 0, .int .i64 0, .int .i64 0, .int .u64 0, .slice none 0 0, .slice none 0 0, .slice none 0 0, .int .i64 0, .int .i64 0], .agg #[.int .i64 0, .int .i64 0, .int .i64 0, .int .i64 0, .int .u8 0, .int .u8 0, .int .u8 0, .int .u8 0, .int .u8 0, .int .u8 0, .int .u8 0, .int .u8 0, .int .u8 0, .int .u8 0, .int .u8 0, .int .u8 0, .int .u8 0, .int .u8 0, .int .u8 0, .int .u8 0, .int .u8 0, .int .u8 0, .int .u8 0, .int .u8 0, .int .u8 0, .int .u8 0, .int .u8 0, .int .u8 0, .int .u8 0, .int .u8 0, .int .u8 0, .int .u8 0, .int .u8 0, .int .u8 0, .int .u8 0, .int .u8 0, .int .i64 0, .int .i64 0]], []⟩ 8 (by kernel_rfl) (by kernel_rfl) (by kernel_rfl) (by kernel_rfl)) ?_
  intro W base args ds gs before hval0 hW hcnd _
  have hval : ∀ (j : Nat) t v, Try.f9.params[j]? = some t → args[j]? = some v → Value.okWide Try.prog W .any base t v := hval0
  have hW' := hW
  obtain ⟨p, q, hA0, hV, rfl, hfz, hnd⟩ := hW
  have hA : DataW.TrodAll enc Try.prog W 0 (fun _ => true) true Try.f9.params.toList args.toList ds p := hA0
  rw [Try.params9] at hA hval
  obtain ⟨v0, vs0, d0, ds0, p0, q0, hargs, rfl, rfl, h0, r0⟩ := trodAll_cons hA
  obtain ⟨v1, vs1, d1, ds1, p1, q1, rfl, rfl, rfl, h1, r1⟩ := trodAll_cons r0
  obtain ⟨v2, vs2, d2, ds2, p2, q2, rfl, rfl, rfl, h2, r2⟩ := trodAll_cons r1
  obtain ⟨v3, vs3, d3, ds3, p3, q3, rfl, rfl, rfl, h3, r3⟩ := trodAll_cons r2
  obtain ⟨v4, vs4, d4, ds4, p4, q4, rfl, rfl, rfl, h4, r4⟩ := trodAll_cons r3
  obtain ⟨v5, vs5, d5, ds5, p5, q5, rfl, rfl, rfl, h5, r5⟩ := trodAll_cons r4
  obtain ⟨rfl, rfl, rfl⟩ := trodAll_nil r5
  obtain rfl : args = #[v0, v1, v2, v3, v4, v5] := by cases args; simp_all
  obtain ⟨rfl, rfl⟩ := trodVars_none hV
  have k0 := h0
  have lt0 : ∀ x ∈ p0, x.block < W.heap.size := by obtain ⟨m, hm⟩ := k0; exact DataW.trod_lt m _ _ _ hm
  have k1 := h1
  have lt1 : ∀ x ∈ p1, x.block < W.heap.size := by obtain ⟨m, hm⟩ := k1; exact DataW.trod_lt m _ _ _ hm
  have k2 := h2
  have lt2 : ∀ x ∈ p2, x.block < W.heap.size := by obtain ⟨m, hm⟩ := k2; exact DataW.trod_lt m _ _ _ hm
  have k3 := h3
  have lt3 : ∀ x ∈ p3, x.block < W.heap.size := by obtain ⟨m, hm⟩ := k3; exact DataW.trod_lt m _ _ _ hm
  have k4 := h4
  have lt4 : ∀ x ∈ p4, x.block < W.heap.size := by obtain ⟨m, hm⟩ := k4; exact DataW.trod_lt m _ _ _ hm
  have k5 := h5
  have lt5 : ∀ x ∈ p5, x.block < W.heap.size := by obtain ⟨m, hm⟩ := k5; exact DataW.trod_lt m _ _ _ hm
  obtain ⟨cs0, x0, e0, n0⟩ := reads_arg reads_st Try.underlying30 (hval 0 30 v0 rfl rfl) h0
  subst e0
  obtain ⟨rfl, ok0⟩ := n0
  obtain ⟨cs1, x1, e1, n1⟩ := reads_arg reads_ak Try.underlying44 (hval 1 44 v1 rfl rfl) h1
  subst e1
  obtain ⟨rfl, ok1⟩ := n1
  obtain ⟨cs2, x2, e2, n2⟩ := reads_arg reads_pm Try.underlying55 (hval 2 55 v2 rfl rfl) h2
  subst e2
  obtain ⟨cs3, x3, e3, n3⟩ := reads_arg reads_dn Try.underlying34 (hval 3 34 v3 rfl rfl) h3
  subst e3
  obtain ⟨rfl, ok3⟩ := n3
  obtain ⟨cs4, x4, e4, n4⟩ := reads_arg reads_pr Try.underlying107 (hval 4 107 v4 rfl rfl) h4
  subst e4
  obtain ⟨cs5, x5, e5, n5⟩ := reads_arg reads_vt Try.underlying32 (hval 5 32 v5 rfl rfl) h5
  subst e5
  obtain ⟨rfl, ok5⟩ := n5
  clear hA0 hval0
  refine (LTx_any (fun k => k < W.heap.size) x0 x1 x2 cs2 x3 x4 cs4 x5 W ok0 ok1 n2 ok3 n4 ok5 (fun _ h => h)).mono fun e W' ⟨he, hmod⟩ => ?_
  subst he
  have bel : Below W.heap.size W W' := hmod.below (Nat.le_refl _) (fun _ _ => id)
  exact ⟨_, rfl, _, _, _, [], _, [], hW', trodAll_mk1 (shut_bool Try.underlying4 _), (trodAll_cons_mk (Below.trod laidOut (by kernel_rfl) (of_decide_eq_true (by kernel_rfl)) k0 bel lt0) (trodAll_cons_mk (Below.trod laidOut (by kernel_rfl) (of_decide_eq_true (by kernel_rfl)) k1 bel lt1) (trodAll_cons_mk (Below.trod laidOut (by kernel_rfl) (of_decide_eq_true (by kernel_rfl)) k2 bel lt2) (trodAll_cons_mk (Below.trod laidOut (by kernel_rfl) (of_decide_eq_true (by kernel_rfl)) k3 bel lt3) (trodAll_cons_mk (Below.trod laidOut (by kernel_rfl) (of_decide_eq_true (by kernel_rfl)) k4 bel lt4) (trodAll_cons_mk (Below.trod laidOut (by kernel_rfl) (of_decide_eq_true (by kernel_rfl)) k5 bel lt5) trodAll_mk0)))))), rfl, bel.frame _, fun h => by cases h⟩

theorem over : Rows.wireTextsRow.holds Try.pinned (OpenSpec.ofChange Rows.wireTextsSpec) :=
  OpenClaim.holds_of_wide 9 Try.f9 rfl rfl rfl rfl rfl rfl rfl ⟨rfl, rfl, rfl, rfl, rfl⟩ rfl rfl rfl rfl rfl (by kernel_rfl) Try.func9 (by kernel_rfl)
    (of_decide_eq_true (by kernel_rfl)) (by unfold Func.isWrapper; first | (rw [if_pos (by decide +kernel)]; kernel_rfl) | (rw [if_neg (by decide +kernel)]; exact ⟨rfl, rfl⟩))
    (fun os started H enc _ => lifted os started H enc)

theorem proved : Rows.WireTextsSaid := over
end Go.Proofs.Ytknpapcfhnhheaa.wireTexts
