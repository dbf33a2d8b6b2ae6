/- Texts that are built one behind the other: XRf3, XSha6, XSha7, XVal5, XSha8, XRf4, XLens, XConf, XWg. No condition. -/
import Derived.Test.YtknpapcfhnhheaaHg8
import Derived.Lib.BytesEntry
import Derived.Laws.Externs
import Derived.Deep.Cut
import Derived.Deep.RegionWith
import Derived.Deep.CutBlock
/- The reference's bytes of promises and batches. -/
set_option maxRecDepth 100000
set_option linter.unusedVariables false
namespace Go.Proofs.Ytknpapcfhnhheaa
open Go Go.RowKit Go.Gv

set_option maxHeartbeats 4000000 in
theorem RefBareP_Q : Makes PmR 73 bareP := by
  intro R2 cs x w hx hB2 hl
  obtain ⟨v_l, rfl, hok, hs0⟩ := hx
  obtain ⟨ao_sl_l, cap_sl_l, rfl⟩ := hs0.shape
  have hb0 : x.l.length ≤ maxLen := hs0.bd
  rw [maxLen_val] at hb0
  have HI0 := hid (show I64 (x.l.length : Int) by unfold I64; omega)
  have HS0 := Lib.hid hs0
  clear hs0
  have HBT := Lib.hid hB2
  have HOK := Lib.hid hok
  have HL := Lib.hid hl
  clear hB2 hl hok
  unfold bareP at HL
  go_enter Try.func73, Try.ntmps73
  go_upto_region 1 with (fail)
  obtain ⟨w1, hw1⟩ : ∃ zz, zz = (w.alloc (.cells (x.cells (.slice ao_sl_l x.l.length cap_sl_l) : List Value).toArray 55)) := ⟨_, rfl⟩
  change Code.wp _ _ _ _ (w.alloc (.cells (x.cells (.slice ao_sl_l x.l.length cap_sl_l) : List Value).toArray 55))
  rw [← hw1]
  have HB1 := hid (show Cs w1 (w.heap.size) (x.cells (.slice ao_sl_l x.l.length cap_sl_l) : List Value).toArray 55 by rw [hw1]; exact Cs.new _ _ _)
  have hm : Mod (fun _ => False) w w1 := by rw [hw1]; exact (Mod.refl _ _).alloc _
  have HM0 := hid (show Mod (fun _ => False) w w1 from hm.mono (fun _ _ h => h.elim))
  have hs1 : w1.heap.size = w.heap.size + 1 := by rw [hw1]; simp
  have Hx1 := hid (HS0.out.mod hm (fun _ _ h => h))
  clear HS0
  clear hw1 hm
  go_upto_region 1 with (fail)
  generalize ha0 : Act.mk _ _ = a0
  have oe1 : a0.eval (.tmp 1) = .pointer (some ⟨w.heap.size, 0, none⟩) := by rw [← ha0]; rfl
  have hsz0 : a0.tmps.size = 36 := by rw [← ha0]; rfl
  have HA0 := hid ha0
  clear ha0
  refine wp_region_Q0 36 hsz0 [5, 6, 7, 8, 9, 10, 11, 12, 13, 14, 15, 16, 17, 18, 19, 3] [qi (.pointer (some ⟨w.heap.size, 0, none⟩)), qi (.int .i64 x.rp), qv 0, qi (.pointer (some ⟨w.heap.size, 1, none⟩)), qi (.int .i64 x.ep), qv 1, qi (.pointer (some ⟨w.heap.size, 2, none⟩)), qi (.int .u64 (x.fl : Nat)), qv 2, qi (.pointer (some ⟨w.heap.size, 3, none⟩)), qi (.slice ao_sl_l x.l.length cap_sl_l), qi (.int .i64 x.l.length), qv 3, qv 4, qv 5, qv 5] ⟨qi_stable, qi_stable, qv_stable, qi_stable, qi_stable, qv_stable, qi_stable, qi_stable, qv_stable, qi_stable, qi_stable, qi_stable, qv_stable, qv_stable, qv_stable, qv_stable, trivial⟩ [2, 5, 8, 12, 13, 14] ⟨?_, ?_, ?_, ?_, ?_, ?_, ?_, ?_, ?_, ?_, ?_, ?_, ?_, ?_, ?_, ?_, trivial⟩ ?_
  · exact stq (fun E => ex_field rfl Try.underlying55 rfl (by kernel_rfl) (E.v oe1))
  · exact stq (fun E => ex_load1 rfl Try.underlying3 rfl (E.d 0) (Cs.lit1 (HB1.out.mod E.m.old (by intro h2; omega)) rfl))
  · exact stepq_chain rfl
  · exact stq (fun E => ex_field rfl Try.underlying55 rfl (by kernel_rfl) (E.v oe1))
  · exact stq (fun E => ex_load1 rfl Try.underlying3 rfl (E.d 3) (Cs.lit1 (HB1.out.mod E.m.old (by intro h2; omega)) rfl))
  · exact stepq_chain rfl
  · exact stq (fun E => ex_field rfl Try.underlying55 rfl (by kernel_rfl) (E.v oe1))
  · exact stq (fun E => ex_load1 rfl Try.underlying26 rfl (E.d 6) (Cs.lit1 (HB1.out.mod E.m.old (by intro h2; omega)) rfl))
  · exact stepq_chain rfl
  · exact stq (fun E => ex_field rfl Try.underlying55 rfl (by kernel_rfl) (E.v oe1))
  · exact stq (fun E => ex_load1 rfl Try.underlying53 rfl (E.d 9) (Cs.lit1 (HB1.out.mod E.m.old (by intro h2; omega)) rfl))
  · exact stq (fun E => ex_lenS rfl (E.d 10) Try.underlying53)
  · exact stepq_chain rfl
  · exact stepq_chain rfl
  · exact stepq_chain rfl
  · refine stepq_env rfl rfl rfl fun _ _ _ _ _ _ _ _ _ hd _ _ => ?_
    have h14 := hd ⟨14, .data⟩ (by simp) rfl _ rfl
    exact qe_run rfl (wanted_none rfl) (ex_assign rfl rfl) QE.refl h14
  intro u1_0 hr
  have zu1_0 := hr.size
  have Cx2 := hid (hr.new (S := (fun _ => False)))
  clear hr
  refine QChain.go fun Z act E => ?_
  refine qc_callF (args := #[.int .i64 x.rp]) rfl (wanted_none rfl) rfl Try.func70 (args1 (E.d 1)) (RefInt_Q _ HOK.out.1 _) ?_
  rintro e u1_1a ⟨v_a1, rfl, qa1, hm⟩
  obtain ⟨ao_a1, cap_a1, rfl⟩ := qa1.shape
  have zu1_1a := hm.size
  refine ⟨_, rfl, hm.mono (fun _ _ h => h.elim), (fun _ => rfl), ?_⟩
  intro u1_1 hr
  have zu1_1 := hr.size
  have Hx3 := hid ((qa1.widen (R' := (fun k => (New u1_0 u1_1a k))) (fun _ h => h) (Nat.le_refl _)).mod hr (by intro k h1 h2; omega))
  have Cx4 := hid (Cx2.out.go hm hr)
  clear Cx2 hm hr Z act E qa1
  refine QChain.go fun Z act E => ?_
  refine qc_callF (args := #[.int .i64 x.ep]) rfl (wanted_none rfl) rfl Try.func70 (args1 (E.d 4)) (RefInt_Q _ HOK.out.2.1 _) ?_
  rintro e u1_2a ⟨v_a2, rfl, qa2, hm⟩
  obtain ⟨ao_a2, cap_a2, rfl⟩ := qa2.shape
  have zu1_2a := hm.size
  refine ⟨_, rfl, hm.mono (fun _ _ h => h.elim), (fun _ => rfl), ?_⟩
  intro u1_2 hr
  have zu1_2 := hr.size
  have Hx5 := hid ((qa2.widen (R' := (fun k => (New u1_1 u1_2a k))) (fun _ h => h) (Nat.le_refl _)).mod hr (by intro k h1 h2; omega))
  have hmr := Mod.after hm hr
  have Hx6 := hid (Hx3.out.mod hmr (by intro k h1 h2; omega))
  clear Hx3
  clear hmr
  have Cx7 := hid (Cx4.out.go hm hr)
  clear Cx4 hm hr Z act E qa2
  refine QChain.go fun Z act E => ?_
  refine qc_callF (args := #[.int .u64 (x.fl : Nat)]) rfl (wanted_none rfl) rfl Try.func75 (args1 (E.d 7)) (RefNum_Q _ HOK.out.2.2.1 _) ?_
  rintro e u1_3a ⟨v_a3, rfl, qa3, hm⟩
  obtain ⟨ao_a3, cap_a3, rfl⟩ := qa3.shape
  have zu1_3a := hm.size
  refine ⟨_, rfl, hm.mono (fun _ _ h => h.elim), (fun _ => rfl), ?_⟩
  intro u1_3 hr
  have zu1_3 := hr.size
  have Hx8 := hid ((qa3.widen (R' := (fun k => (New u1_2 u1_3a k))) (fun _ h => h) (Nat.le_refl _)).mod hr (by intro k h1 h2; omega))
  have hmr := Mod.after hm hr
  have Hx9 := hid (Hx6.out.mod hmr (by intro k h1 h2; omega))
  have Hx10 := hid (Hx5.out.mod hmr (by intro k h1 h2; omega))
  clear Hx6 Hx5
  clear hmr
  have Cx11 := hid (Cx7.out.go hm hr)
  clear Cx7 hm hr Z act E qa3
  refine QChain.go fun Z act E => ?_
  refine qc_callF (args := #[.int .i64 x.l.length]) rfl (wanted_none rfl) rfl Try.func70 (args1 (E.d 11)) (RefInt_Q _ HI0.out _) ?_
  rintro e u1_4a ⟨v_a4, rfl, qa4, hm⟩
  obtain ⟨ao_a4, cap_a4, rfl⟩ := qa4.shape
  have zu1_4a := hm.size
  refine ⟨_, rfl, hm.mono (fun _ _ h => h.elim), (fun _ => rfl), ?_⟩
  intro u1_4 hr
  have zu1_4 := hr.size
  have Hx12 := hid ((qa4.widen (R' := (fun k => (New u1_3 u1_4a k))) (fun _ h => h) (Nat.le_refl _)).mod hr (by intro k h1 h2; omega))
  have hmr := Mod.after hm hr
  have Hx13 := hid (Hx9.out.mod hmr (by intro k h1 h2; omega))
  have Hx14 := hid (Hx10.out.mod hmr (by intro k h1 h2; omega))
  have Hx15 := hid (Hx8.out.mod hmr (by intro k h1 h2; omega))
  clear Hx9 Hx10 Hx8
  clear hmr
  have Cx16 := hid (Cx11.out.go hm hr)
  clear Cx11 hm hr Z act E qa4
  refine QChain.go fun Z act E => ?_
  have ea7 : act.eval (.tmp 7) = .slice ao_a1 ((encI x.rp).length) cap_a1 := (chv (v := .slice ao_a1 ((encI x.rp).length) cap_a1) (E.d 2))
  have ea10 : act.eval (.tmp 10) = .slice ao_a2 ((encI x.ep).length) cap_a2 := (chv (v := .slice ao_a2 ((encI x.ep).length) cap_a2) (E.d 5))
  have ea13 : act.eval (.tmp 13) = .slice ao_a3 ((encN x.fl).length) cap_a3 := (chv (v := .slice ao_a3 ((encN x.fl).length) cap_a3) (E.d 8))
  have ea17 : act.eval (.tmp 17) = .slice ao_a4 ((encI x.l.length).length) cap_a4 := (chv (v := .slice ao_a4 ((encI x.l.length).length) cap_a4) (E.d 12))
  refine qc_rows rfl (wanted_none rfl) rfl Try.underlying144 (by decide) (C := #[.slice ao_a1 ((encI x.rp).length) cap_a1, .slice ao_a2 ((encI x.ep).length) cap_a2, .slice ao_a3 ((encN x.fl).length) cap_a3, .slice ao_a4 ((encI x.l.length).length) cap_a4]) (by simp only [List.map_toArray, List.map_cons, List.map_nil, ea7, ea10, ea13, ea17]; kernel_rfl) ?_
  intro u1_5a qrow13 hm
  have zl1_13 := qrow13.lt
  have zu1_5a := hm.size
  refine ⟨hm.mono (fun _ _ h => h.elim), (fun _ => rfl), ?_⟩
  intro u1_5 hr
  have zu1_5 := hr.size
  have Hx17 := hid (qrow13.mod hr (by intro h2; omega))
  have hmr := Mod.after hm hr
  have Hx18 := hid (Hx13.out.mod hmr (by intro k h1 h2; omega))
  have Hx19 := hid (Hx14.out.mod hmr (by intro k h1 h2; omega))
  have Hx20 := hid (Hx15.out.mod hmr (by intro k h1 h2; omega))
  have Hx21 := hid (Hx12.out.mod hmr (by intro k h1 h2; omega))
  clear Hx13 Hx14 Hx15 Hx12
  clear hmr
  have Cx22 := hid (Cx16.out.go hm hr)
  clear Cx16 hm hr Z act E qrow13 ea7 ea10 ea13 ea17
  refine QChain.go fun Z act E => ?_
  refine qc_callF (args := #[.slice (some ⟨u1_4.heap.size, 0, none⟩) 4 4]) rfl (wanted_none rfl) rfl Try.func68 (args1 (chv (v := .slice (some ⟨u1_4.heap.size, 0, none⟩) 4 4) (E.d 13))) (Join_Q (n := 4)  Hx17.out [(.slice ao_a1 ((encI x.rp).length) cap_a1, encI x.rp), (.slice ao_a2 ((encI x.ep).length) cap_a2, encI x.ep), (.slice ao_a3 ((encN x.fl).length) cap_a3, encN x.fl), (.slice ao_a4 ((encI x.l.length).length) cap_a4, encI x.l.length)] rfl rfl (by intro p hp; simp only [List.mem_cons, List.not_mem_nil, or_false] at hp; rcases hp with rfl | rfl | rfl | rfl <;> first | exact Hx18.out.rd.1 | exact Hx19.out.rd.1 | exact Hx20.out.rd.1 | exact Hx21.out.rd.1) (by simp) (show flat _ = encI x.rp ++ (encI x.ep ++ (encN x.fl ++ encI x.l.length)) from by simp only [flat, List.map_cons, List.map_nil, List.flatten_cons, List.flatten_nil, List.append_nil]) (by have := HL.out; simp only [listB, List.length_append] at this ⊢; omega)) ?_
  rintro e u1_6a ⟨v_join1, rfl, qjoin1, hm⟩
  have zu1_6a := hm.size
  refine ⟨_, rfl, hm.mono (fun _ _ h => h.elim), (fun _ => rfl), ?_⟩
  intro u1_6 hr
  have zu1_6 := hr.size
  have Hx23 := hid ((qjoin1.widen (R' := (fun k => (New u1_5 u1_6a k))) (fun _ h => h) (Nat.le_refl _)).mod hr (by intro k h1 h2; omega))
  have hmr := Mod.after hm hr
  have Hx24 := hid (Hx18.out.mod hmr (by intro k h1 h2; omega))
  have Hx25 := hid (Hx19.out.mod hmr (by intro k h1 h2; omega))
  have Hx26 := hid (Hx20.out.mod hmr (by intro k h1 h2; omega))
  have Hx27 := hid (Hx21.out.mod hmr (by intro k h1 h2; omega))
  have Hx28 := hid (Hx17.out.mod hmr (by intro h2; omega))
  clear Hx18 Hx19 Hx20 Hx21 Hx17
  clear hmr
  have Cx29 := hid (Cx22.out.go hm hr)
  clear Cx22 hm hr Z act E qjoin1
  refine QChain.nil fun vs hl hzz hrows hne => ?_
  obtain ⟨Z, hYZ, hZb, hV⟩ := hzz
  have f2 := fvc hV hl 2
  have f5 := fvc hV hl 5
  have f8 := fvc hV hl 8
  have f11 := fvi hV hl 11
  have f12 := fvc hV hl 12
  have f13 := fvc hV hl 13
  have f14 := fvc hV hl 14
  have f15 := fvc hV hl 15
  rw [show vs = [gw vs 0, gw vs 1, gw vs 2, gw vs 3, gw vs 4, gw vs 5, gw vs 6, gw vs 7, gw vs 8, gw vs 9, gw vs 10, gw vs 11, gw vs 12, gw vs 13, gw vs 14, gw vs 15] from (gw_eta hl).trans rfl]
  have ha0 := HA0.out
  subst ha0
  clear HA0 hV hYZ hZb hsz0 hrows hne oe1
  simp only [putAll, Act.put, List.setIfInBounds_toArray, List.set_cons_zero, List.set_cons_succ, f2, f5, f8, f11, f12, f13, f14, f15]
  clear hl f2 f5 f8 f11 f12 f13 f14 f15
  go_upto_region 2 with (fail)
  generalize ha0 : Act.mk _ _ = a0
  have oe1 : a0.eval (.tmp 1) = .pointer (some ⟨w.heap.size, 0, none⟩) := by rw [← ha0]; rfl
  have hsz0 : a0.tmps.size = 36 := by rw [← ha0]; rfl
  have HA0 := hid ha0
  clear ha0
  refine wp_region_Q0 36 hsz0 [20, 21, 22, 23] [qi (.pointer (some ⟨w.heap.size, 3, none⟩)), qi (.slice ao_sl_l x.l.length cap_sl_l), qi (.int .i64 x.l.length), qi (.int .i64 0)] ⟨qi_stable, qi_stable, qi_stable, qi_stable, trivial⟩ [] ⟨?_, ?_, ?_, ?_, trivial⟩ ?_
  · exact stq (fun E => ex_field rfl Try.underlying55 rfl (by kernel_rfl) (E.v oe1))
  · exact stq (fun E => ex_load1 rfl Try.underlying53 rfl (E.d 0) (Cs.lit1 ((HB1.out.mod Cx29.out (fun h => h)).mod E.m.old (by intro h2; omega)) rfl))
  · exact stq (fun E => ex_lenS rfl (E.d 1) Try.underlying53)
  · exact stq (fun E => ex_move rfl rfl)
  intro u2_0 hr
  have zu2_0 := hr.size
  have Cx30 := hid (hr.new (S := (fun _ => False)))
  clear hr
  refine QChain.nil fun vs hl hzz hrows hne => ?_
  obtain ⟨Z, hYZ, hZb, hV⟩ := hzz
  have f2 := fvi hV hl 2
  have f3 := fvi hV hl 3
  rw [show vs = [gw vs 0, gw vs 1, gw vs 2, gw vs 3] from (gw_eta hl).trans rfl]
  have ha0 := HA0.out
  subst ha0
  clear HA0 hV hYZ hZb hsz0 hrows hne oe1
  simp only [putAll, Act.put, List.setIfInBounds_toArray, List.set_cons_zero, List.set_cons_succ, f2, f3]
  clear hl f2 f3
  go_wp2
  go_loopw [3, 23] (fun ta ti wr => ∃ k : Nat, ti = .int .i64 (k : Int) ∧ k ≤ x.l.length ∧ u2_0.heap.size ≤ wr.heap.size ∧ OwR (fun b => w1.heap.size ≤ b ∧ b < wr.heap.size) 900000 wr ta ((encI x.rp ++ (encI x.ep ++ (encN x.fl ++ encI x.l.length))) ++ ((x.l.take k).map ceB).flatten) ∧ RdS CeR R2 wr (.slice ao_sl_l x.l.length cap_sl_l) x.l ∧ Cs wr (w.heap.size) (x.cells (.slice ao_sl_l x.l.length cap_sl_l) : List Value).toArray 55 ∧ Mod (fun _ => False) w wr) (fun _ ti _ => x.l.length - (intOf ti).toNat)
  case atStart => exact ⟨0, rfl, Nat.zero_le _, Nat.le_refl _, by have hq := ((Hx23.out.mod Cx30.out (fun _ _ h => h)).widen (R' := (fun b => w1.heap.size ≤ b ∧ b < u2_0.heap.size)) (by intro k h1; omega) (Nat.le_refl _)); simpa only [List.take_zero, List.map_nil, List.flatten_nil, List.append_nil, List.append_assoc] using hq, ((Hx1.out.mod Cx29.out (fun _ _ h => h)).mod Cx30.out (fun _ _ h => h)), ((HB1.out.mod Cx29.out (fun h => h)).mod Cx30.out (fun h => h)), ((HM0.out.trans Cx29.out (fun _ _ h => h.elim)).trans Cx30.out (fun _ _ h => h.elim))⟩
  case round =>
    obtain ⟨k1, rfl, hk, hz, ha, hk_0, hk_1, hm⟩ := hrel
    obtain ⟨wl1, rfl⟩ : ∃ x, x = wr := ⟨_, rfl⟩
    obtain ⟨aol1, capl1, rfl⟩ := ha.shape
    have HAL1 := Lib.hid ha
    have HKL1_0 := Lib.hid hk_0
    have HKL1_1 := Lib.hid hk_1
    have HML1 := Lib.hid hm
    clear ha hm hk_0 hk_1 Hx1 HB1 HM0 Hx24 Hx25 Hx26 Hx27 Hx28 Hx23
    by_cases hlt1 : k1 < x.l.length
    · skip
      have hat := HKL1_0.out.at hlt1
      obtain ⟨g1, o1, cs1, eao, hrg, hrd, hcs⟩ := hat
      subst eao
      have hcl : cs1.length = 38 := CeR.len hrd
      have HCL1 := Lib.hid hcl
      have HAT1 := hid (show CellsAt R2 wl1 g1 (o1 + k1 * 38) cs1 from ⟨hrg, hcs⟩)
      have HRD1 := Lib.hid hrd
      clear hcl hcs hrd hrg
      have HE1 : Hid (((encI x.rp ++ (encI x.ep ++ (encN x.fl ++ encI x.l.length))) ++ ((x.l.take k1).map ceB).flatten) ++ ceB x.l[k1] = (encI x.rp ++ (encI x.ep ++ (encN x.fl ++ encI x.l.length))) ++ ((x.l.take (k1 + 1)).map ceB).flatten) := hid (by rw [List.take_succ_eq_append_getElem hlt1, List.map_append, List.flatten_append]; simp [List.append_assoc])
      have HB1' := hid (show (((encI x.rp ++ (encI x.ep ++ (encN x.fl ++ encI x.l.length))) ++ ((x.l.take k1).map ceB).flatten) ++ ceB x.l[k1]).length ≤ 900000 by rw [HE1.out]; exact acc_len _ _ _ _ (by have := HL.out; simp only [listB, List.length_append] at this ⊢; omega))
      have HBE1 := hid (show (ceB x.l[k1]).length ≤ 900000 by have := HB1'.out; simp only [List.length_append] at this ⊢; omega)
      go_upto_region 4 with (fail)
      generalize ha0 : Act.mk _ _ = a0
      have oe23 : a0.eval (.tmp 23) = .int .i64 ((k1 : Nat) : Int) := by rw [← ha0]; rfl
      have hsz0 : a0.tmps.size = 36 := by rw [← ha0]; rfl
      have HA0 := hid ha0
      clear ha0
      refine wp_region_Q0 36 hsz0 [25, 4] [qi (.int .i64 ((k1 : Nat) : Int)), qi (.int .i64 ((k1 : Nat) : Int))] ⟨qi_stable, qi_stable, trivial⟩ [] ⟨?_, ?_, trivial⟩ ?_
      · exact stq (fun E => ex_move rfl (E.v oe23))
      · exact stq (fun E => ex_assign rfl (E.d 0))
      intro u4_0 hr
      have zu4_0 := hr.size
      have Cx31 := hid (hr.new (S := (fun _ => False)))
      clear hr
      refine QChain.nil fun vs hl hzz hrows hne => ?_
      obtain ⟨Z, hYZ, hZb, hV⟩ := hzz
      have f0 := fvi hV hl 0
      have f1 := fvi hV hl 1
      rw [show vs = [gw vs 0, gw vs 1] from (gw_eta hl).trans rfl]
      have ha0 := HA0.out
      subst ha0
      clear HA0 hV hYZ hZb hsz0 hrows hne oe23
      simp only [putAll, Act.put, List.setIfInBounds_toArray, List.set_cons_zero, List.set_cons_succ, f0, f1]
      clear hl f0 f1
      go_upto_region 5 with (fail)
      generalize ha0 : Act.mk _ _ = a0
      have oe1 : a0.eval (.tmp 1) = .pointer (some ⟨w.heap.size, 0, none⟩) := by rw [← ha0]; rfl
      have oe3 : a0.eval (.tmp 3) = .slice aol1 (((encI x.rp ++ (encI x.ep ++ (encN x.fl ++ encI x.l.length))) ++ ((x.l.take k1).map ceB).flatten).length) capl1 := by rw [← ha0]; rfl
      have oe4 : a0.eval (.tmp 4) = .int .i64 ((k1 : Nat) : Int) := by rw [← ha0]; rfl
      have hsz0 : a0.tmps.size = 36 := by rw [← ha0]; rfl
      have HA0 := hid ha0
      clear ha0
      refine wp_region_Q1 36 hsz0 [26, 27, 28, 29, 30, 31, 32, 33, 3] (fun k => (New w1 wl1 k)) (fun k j => (k = 1 ∧ ((New w1 wl1 j)))) (fun _ _ h => h.2) [qi (.slice aol1 (((encI x.rp ++ (encI x.ep ++ (encN x.fl ++ encI x.l.length))) ++ ((x.l.take k1).map ceB).flatten).length) capl1), qi (.pointer (some ⟨w.heap.size, 3, none⟩)), qi (.slice (some ⟨g1, o1, none⟩) x.l.length cap_sl_l), qi (.int .i64 ((k1 : Nat) : Int)), qi (.pointer (some ⟨g1, o1 + k1 * 38, none⟩)), qi (.agg cs1.toArray), qv 0, qv 1, qv 1] ⟨qi_stable, qi_stable, qi_stable, qi_stable, qi_stable, qi_stable, qv_stable, qv_stable, qv_stable, trivial⟩ [6, 7] ⟨?_, ?_, ?_, ?_, ?_, ?_, ?_, ?_, ?_, trivial⟩ ?_
      · exact stq (fun E => ex_move rfl ((E.pre 8 3 rfl (by kernel_rfl)).trans oe3))
      · exact stq (fun E => ex_field rfl Try.underlying55 rfl (by kernel_rfl) (E.v oe1))
      · exact stq (fun E => ex_load1 rfl Try.underlying53 rfl (E.d 1) (Cs.lit1 ((HKL1_1.out.mod Cx31.out (fun h => h)).mod E.m (by intro h2; omega)) rfl))
      · exact stq (fun E => ex_move rfl (E.v oe4))
      · exact stq (fun E => ex_idxS (i := k1) (s := 38) rfl Try.underlying53 (by kernel_rfl) (E.d 2) (E.d 3) hlt1)
      · exact stq (fun E => ex_loadA rfl Try.underlying52 rfl (off := o1 + k1 * 38) (cs := cs1) (by rw [HCL1.out]; kernel_rfl) (E.d 4) (fun j u hu => (((HAT1.out.mod Cx31.out (fun _ _ h => h)).mod E.m (by intro k h1 h2; rcases h2 with ⟨h0, h2⟩ | h2 <;> (first | omega | (have hb := HBT.out k h1; omega))))).2 j u hu))
      · exact stepq_chain rfl
      · exact stepq_chain rfl
      · refine stepq_env rfl rfl rfl fun _ _ _ _ _ _ _ _ _ hd _ _ => ?_
        have h7 := hd ⟨7, .data⟩ (by simp) rfl _ rfl
        exact qe_run rfl (wanted_none rfl) (ex_assign rfl rfl) QE.refl h7
      intro u5_0 hr
      have zu5_0 := hr.size
      have Cx32 := hid (hr.new (S := (fun k => (New w1 wl1 k))))
      have Hx33 := hid ((HAL1.out.mod Cx31.out (fun _ _ h => h)).mod hr (by intro k h1 h2; omega))
      clear HAL1
      clear hr
      refine QChain.go fun Z act E => ?_
      refine qc_callF (args := #[.agg cs1.toArray]) rfl (wanted_none rfl) rfl Try.func20 (args1 (E.d 5)) (RefCe_Q _ _ (x.l[k1]) _ ((HRD1.out.mod Cx31.out (fun _ _ h => h)).mod Cx32.out (by intro k h1 h2; have hb := HBT.out k h1; omega)) (by intro k h1; have hb := HBT.out k h1; omega) HBE1.out) ?_
      rintro e u5_1a ⟨v_a5, rfl, qa5, hm⟩
      obtain ⟨ao_a5, cap_a5, rfl⟩ := qa5.shape
      have zu5_1a := hm.size
      refine ⟨_, rfl, hm.mono (fun _ _ h => h.elim), (fun _ => rfl), ?_⟩
      intro u5_1 hr
      have zu5_1 := hr.size
      have Hx34 := hid ((qa5.widen (R' := (fun k => (New u5_0 u5_1a k))) (fun _ h => h) (Nat.le_refl _)).mod hr (by intro k h1 h2; omega))
      have hmr := Mod.after hm hr
      have Hx35 := hid (Hx33.out.mod hmr (by intro k h1 h2; omega))
      clear Hx33
      clear hmr
      have Cx36 := hid (Cx32.out.go hm hr)
      clear Cx32 hm hr Z act E qa5
      refine QChain.go fun Z act E => ?_
      refine qc_appR rfl (wanted_none rfl) rfl (E.d 0) (chv (v := .slice ao_a5 ((ceB x.l[k1]).length) cap_a5) (E.d 6)) Hx35.out Hx34.out.rd HB1'.out ?_
      intro ao20 cap20 u5_2a qjoin1 hm
      have zu5_2a := hm.size
      refine ⟨hm.mono (by intro k hk h; omega), (fun _ => rfl), ?_⟩
      intro u5_2 hr
      have zu5_2 := hr.size
      have Hx37 := hid ((qjoin1.widen (R' := (fun k => (New w1 wl1 k) ∨ (New u5_1 u5_2a k))) (fun _ h => h) (Nat.le_refl _)).mod hr (by intro k h1 h2; omega))
      have hmr := hm.two hr
      have Hx38 := hid (Hx34.out.mod hmr (by intro k h1 h2; omega))
      clear Hx34
      clear hmr
      have Cx39 := hid (Cx36.out.goM hm hr (fun _ _ h => h))
      clear Cx36 hm hr Z act E qjoin1 Hx35
      refine QChain.nil fun vs hl hzz hrows hne => ?_
      obtain ⟨Z, hYZ, hZb, hV⟩ := hzz
      have f0 := fvi hV hl 0
      have f3 := fvi hV hl 3
      have f6 := fvc hV hl 6
      have f7 := fvc hV hl 7
      have f8 := fvc hV hl 8
      rw [show vs = [gw vs 0, gw vs 1, gw vs 2, gw vs 3, gw vs 4, gw vs 5, gw vs 6, gw vs 7, gw vs 8] from (gw_eta hl).trans rfl]
      have ha0 := HA0.out
      subst ha0
      clear HA0 hV hYZ hZb hsz0 hrows hne oe1 oe3 oe4
      simp only [putAll, Act.put, List.setIfInBounds_toArray, List.set_cons_zero, List.set_cons_succ, f0, f3, f6, f7, f8]
      clear hl f0 f3 f6 f7 f8
      have hq := Hx37.out
      rw [HE1.out] at hq
      have HQ1 := Lib.hid hq
      clear hq
      go_wp2
      go_roundw
      case rel => exact ⟨k1 + 1, by go_num, by omega, by omega, (HQ1.out.widen (by intro b h1; omega) (Nat.le_refl _)), ((HKL1_0.out.mod Cx31.out (fun _ _ h => h)).mod Cx39.out (by intro k h1 h2; have hb := HBT.out k h1; omega)), ((HKL1_1.out.mod Cx31.out (fun h => h)).mod Cx39.out (by intro h2; omega)), ((HML1.out.trans Cx31.out (fun _ _ h => h.elim)).trans Cx39.out (by intro k h1 h2; omega))⟩
      case measure => simp [intOf]; omega
    · obtain rfl : k1 = x.l.length := by omega
      have hq := HAL1.out
      rw [List.take_length] at hq
      have HAF1 := Lib.hid hq
      clear hq
      rw [List.take_length]
      go_wp2
      go_ret
      have hq := (HAF1.out.widen (R' := (fun k => New w wl1 k)) (by intro k h1; omega) (Nat.le_refl _))
      have hb : ((encI x.rp ++ (encI x.ep ++ (encN x.fl ++ encI x.l.length))) ++ (x.l.map ceB).flatten) = bareP x := by simp only [bareP, listB, List.append_assoc]
      rw [hb] at hq
      try rw [hb]
      exact ⟨_, rfl, hq, HML1.out⟩
set_option maxHeartbeats 4000000 in
theorem RefPm_Q : Makes PmR 22 pmB := by
  intro R2 cs x w hx hB2 hl
  obtain ⟨v_l, rfl, hok, hs0⟩ := hx
  have HS0 := Lib.hid hs0
  clear hs0
  have HBT := Lib.hid hB2
  have HOK := Lib.hid hok
  have HL := Lib.hid hl
  clear hB2 hl hok
  unfold pmB at HL
  go_enter Try.func22, Try.ntmps22
  go_upto_region 1 with (fail)
  obtain ⟨w1, hw1⟩ : ∃ zz, zz = (w.alloc (.cells (x.cells v_l : List Value).toArray 55)) := ⟨_, rfl⟩
  change Code.wp _ _ _ _ (w.alloc (.cells (x.cells v_l : List Value).toArray 55))
  rw [← hw1]
  have HB1 := hid (show Cs w1 (w.heap.size) (x.cells v_l : List Value).toArray 55 by rw [hw1]; exact Cs.new _ _ _)
  have hm : Mod (fun _ => False) w w1 := by rw [hw1]; exact (Mod.refl _ _).alloc _
  have HM0 := hid (show Mod (fun _ => False) w w1 from hm.mono (fun _ _ h => h.elim))
  have hs1 : w1.heap.size = w.heap.size + 1 := by rw [hw1]; simp
  have Hx1 := hid (HS0.out.mod hm (fun _ _ h => h))
  clear HS0
  clear hw1 hm
  go_upto_region 1 with (fail)
  generalize ha0 : Act.mk _ _ = a0
  have oe1 : a0.eval (.tmp 1) = .pointer (some ⟨w.heap.size, 0, none⟩) := by rw [← ha0]; rfl
  have hsz0 : a0.tmps.size = 10 := by rw [← ha0]; rfl
  have HA0 := hid ha0
  clear ha0
  refine wp_region_Q0 10 hsz0 [3, 4, 5, 6, 7, 8, 9, 2] [qi (.agg (x.cells v_l).toArray), qv 0, qi (.pointer (some ⟨w.heap.size, 4, none⟩)), qi (.agg #[.int .i64 x.sb, .int .i64 x.mr]), qv 1, qv 2, qv 3, qv 3] ⟨qi_stable, qv_stable, qi_stable, qi_stable, qv_stable, qv_stable, qv_stable, qv_stable, trivial⟩ [1, 4, 5, 6] ⟨?_, ?_, ?_, ?_, ?_, ?_, ?_, ?_, trivial⟩ ?_
  · exact stq (fun E => ex_loadA rfl Try.underlying55 rfl (off := 0) (cs := x.cells v_l) (by kernel_rfl) (E.v oe1) (Cs.whole (HB1.out.mod E.m.old (by intro h2; omega))))
  · exact stepq_chain rfl
  · exact stq (fun E => ex_field rfl Try.underlying55 rfl (by kernel_rfl) (E.v oe1))
  · exact stq (fun E => ex_loadA rfl Try.underlying28 rfl (off := 4) (cs := [.int .i64 x.sb, .int .i64 x.mr]) (by kernel_rfl) (E.d 2) (Cs.litA (HB1.out.mod E.m.old (by intro h2; omega)) rfl))
  · exact stepq_chain rfl
  · exact stepq_chain rfl
  · exact stepq_chain rfl
  · refine stepq_env rfl rfl rfl fun _ _ _ _ _ _ _ _ _ hd _ _ => ?_
    have h6 := hd ⟨6, .data⟩ (by simp) rfl _ rfl
    exact qe_run rfl (wanted_none rfl) (ex_assign rfl rfl) QE.refl h6
  intro u1_0 hr
  have zu1_0 := hr.size
  have Cx2 := hid (hr.new (S := (fun _ => False)))
  clear hr
  refine QChain.go fun Z act E => ?_
  refine qc_callF (args := #[.agg (x.cells v_l).toArray]) rfl (wanted_none rfl) rfl Try.func73 (args1 (E.d 0)) (RefBareP_Q _ _ x _ ⟨_, rfl, HOK.out, (Hx1.out.mod Cx2.out (fun _ _ h => h))⟩ (by intro k h1; have hb := HBT.out k h1; omega) (by have := HL.out; unfold bareP; simp only [List.length_append] at this ⊢; omega)) ?_
  rintro e u1_1a ⟨v_a1, rfl, qa1, hm⟩
  obtain ⟨ao_a1, cap_a1, rfl⟩ := qa1.shape
  have zu1_1a := hm.size
  refine ⟨_, rfl, hm.mono (fun _ _ h => h.elim), (fun _ => rfl), ?_⟩
  intro u1_1 hr
  have zu1_1 := hr.size
  have Hx3 := hid ((qa1.widen (R' := (fun k => (New u1_0 u1_1a k))) (fun _ h => h) (Nat.le_refl _)).mod hr (by intro k h1 h2; omega))
  have Cx4 := hid (Cx2.out.go hm hr)
  clear Cx2 hm hr Z act E qa1
  refine QChain.go fun Z act E => ?_
  refine qc_callF (args := #[.agg #[.int .i64 x.sb, .int .i64 x.mr]]) rfl (wanted_none rfl) rfl Try.func74 (args1 (E.d 3)) (RefSig_Q HOK.out.2.2.2.1 HOK.out.2.2.2.2 _) ?_
  rintro e u1_2a ⟨v_a2, rfl, qa2, hm⟩
  obtain ⟨ao_a2, cap_a2, rfl⟩ := qa2.shape
  have zu1_2a := hm.size
  refine ⟨_, rfl, hm.mono (fun _ _ h => h.elim), (fun _ => rfl), ?_⟩
  intro u1_2 hr
  have zu1_2 := hr.size
  have Hx5 := hid ((qa2.widen (R' := (fun k => (New u1_1 u1_2a k))) (fun _ h => h) (Nat.le_refl _)).mod hr (by intro k h1 h2; omega))
  have hmr := Mod.after hm hr
  have Hx6 := hid (Hx3.out.mod hmr (by intro k h1 h2; omega))
  clear Hx3
  clear hmr
  have Cx7 := hid (Cx4.out.go hm hr)
  clear Cx4 hm hr Z act E qa2
  refine QChain.go fun Z act E => ?_
  have ea4 : act.eval (.tmp 4) = .slice ao_a1 ((bareP x).length) cap_a1 := (chv (v := .slice ao_a1 ((bareP x).length) cap_a1) (E.d 1))
  have ea7 : act.eval (.tmp 7) = .slice ao_a2 ((sigB x.sb x.mr).length) cap_a2 := (chv (v := .slice ao_a2 ((sigB x.sb x.mr).length) cap_a2) (E.d 4))
  refine qc_rows rfl (wanted_none rfl) rfl Try.underlying144 (by decide) (C := #[.slice ao_a1 ((bareP x).length) cap_a1, .slice ao_a2 ((sigB x.sb x.mr).length) cap_a2]) (by simp only [List.map_toArray, List.map_cons, List.map_nil, ea4, ea7]; kernel_rfl) ?_
  intro u1_3a qrow5 hm
  have zl1_5 := qrow5.lt
  have zu1_3a := hm.size
  refine ⟨hm.mono (fun _ _ h => h.elim), (fun _ => rfl), ?_⟩
  intro u1_3 hr
  have zu1_3 := hr.size
  have Hx8 := hid (qrow5.mod hr (by intro h2; omega))
  have hmr := Mod.after hm hr
  have Hx9 := hid (Hx6.out.mod hmr (by intro k h1 h2; omega))
  have Hx10 := hid (Hx5.out.mod hmr (by intro k h1 h2; omega))
  clear Hx6 Hx5
  clear hmr
  have Cx11 := hid (Cx7.out.go hm hr)
  clear Cx7 hm hr Z act E qrow5 ea4 ea7
  refine QChain.go fun Z act E => ?_
  refine qc_callF (args := #[.slice (some ⟨u1_2.heap.size, 0, none⟩) 2 2]) rfl (wanted_none rfl) rfl Try.func68 (args1 (chv (v := .slice (some ⟨u1_2.heap.size, 0, none⟩) 2 2) (E.d 5))) (Join_Q (n := 2)  Hx8.out [(.slice ao_a1 ((bareP x).length) cap_a1, bareP x), (.slice ao_a2 ((sigB x.sb x.mr).length) cap_a2, sigB x.sb x.mr)] rfl rfl (by intro p hp; simp only [List.mem_cons, List.not_mem_nil, or_false] at hp; rcases hp with rfl | rfl <;> first | exact Hx9.out.rd.1 | exact Hx10.out.rd.1) (by simp) (show flat _ = bareP x ++ sigB x.sb x.mr from by simp only [flat, List.map_cons, List.map_nil, List.flatten_cons, List.flatten_nil, List.append_nil]) (by have := HL.out; simp only [bareP, List.length_append] at this ⊢; omega)) ?_
  rintro e u1_4a ⟨v_join1, rfl, qjoin1, hm⟩
  have zu1_4a := hm.size
  refine ⟨_, rfl, hm.mono (fun _ _ h => h.elim), (fun _ => rfl), ?_⟩
  intro u1_4 hr
  have zu1_4 := hr.size
  have Hx12 := hid ((qjoin1.widen (R' := (fun k => (New u1_3 u1_4a k))) (fun _ h => h) (Nat.le_refl _)).mod hr (by intro k h1 h2; omega))
  have hmr := Mod.after hm hr
  have Hx13 := hid (Hx9.out.mod hmr (by intro k h1 h2; omega))
  have Hx14 := hid (Hx10.out.mod hmr (by intro k h1 h2; omega))
  have Hx15 := hid (Hx8.out.mod hmr (by intro h2; omega))
  clear Hx9 Hx10 Hx8
  clear hmr
  have Cx16 := hid (Cx11.out.go hm hr)
  clear Cx11 hm hr Z act E qjoin1
  refine QChain.nil fun vs hl hzz hrows hne => ?_
  obtain ⟨Z, hYZ, hZb, hV⟩ := hzz
  have f1 := fvc hV hl 1
  have f4 := fvc hV hl 4
  have f5 := fvc hV hl 5
  have f6 := fvc hV hl 6
  have f7 := fvc hV hl 7
  rw [show vs = [gw vs 0, gw vs 1, gw vs 2, gw vs 3, gw vs 4, gw vs 5, gw vs 6, gw vs 7] from (gw_eta hl).trans rfl]
  have ha0 := HA0.out
  subst ha0
  clear HA0 hV hYZ hZb hsz0 hrows hne oe1
  simp only [putAll, Act.put, List.setIfInBounds_toArray, List.set_cons_zero, List.set_cons_succ, f1, f4, f5, f6, f7]
  clear hl f1 f4 f5 f6 f7
  go_wp2
  go_ret
  have hq := (Hx12.out.widen (R' := (fun k => New w u1_4 k)) (by intro k h1; omega) (Nat.le_refl _))
  (try simp only [List.append_assoc] at hq)
  exact ⟨v_join1, rfl, by simpa only [pmB, bareP, List.append_assoc] using hq, (HM0.out.trans Cx16.out (fun _ _ h => h.elim))⟩
set_option maxHeartbeats 8000000 in
theorem RefBa_Q : Makes BaR 24 baB := by
  intro R2 cs x w hx hB2 hl
  obtain ⟨v_ps, v_os, v_ts, rfl, hok, hs0, hs1, hs2⟩ := hx
  obtain ⟨ao_sl_ps, cap_sl_ps, rfl⟩ := hs0.shape
  have hb0 : x.ps.length ≤ maxLen := hs0.bd
  rw [maxLen_val] at hb0
  have HI0 := hid (show I64 (x.ps.length : Int) by unfold I64; omega)
  have HS0 := Lib.hid hs0
  clear hs0
  obtain ⟨ao_sl_os, cap_sl_os, rfl⟩ := hs1.shape
  have hb1 : x.os.length ≤ maxLen := hs1.bd
  rw [maxLen_val] at hb1
  have HI1 := hid (show I64 (x.os.length : Int) by unfold I64; omega)
  have HS1 := Lib.hid hs1
  clear hs1
  obtain ⟨ao_sl_ts, cap_sl_ts, rfl⟩ := hs2.shape
  have hb2 : x.ts.length ≤ maxLen := hs2.bd
  rw [maxLen_val] at hb2
  have HI2 := hid (show I64 (x.ts.length : Int) by unfold I64; omega)
  have HS2 := Lib.hid hs2
  clear hs2
  have HBT := Lib.hid hB2
  have HOK := Lib.hid hok
  have HL := Lib.hid hl
  clear hB2 hl hok
  unfold baB at HL
  go_enter Try.func24, Try.ntmps24
  go_upto_region 1 with (fail)
  obtain ⟨w1, hw1⟩ : ∃ zz, zz = (w.alloc (.cells (x.cells (.slice ao_sl_ps x.ps.length cap_sl_ps) (.slice ao_sl_os x.os.length cap_sl_os) (.slice ao_sl_ts x.ts.length cap_sl_ts) : List Value).toArray 60)) := ⟨_, rfl⟩
  change Code.wp _ _ _ _ (w.alloc (.cells (x.cells (.slice ao_sl_ps x.ps.length cap_sl_ps) (.slice ao_sl_os x.os.length cap_sl_os) (.slice ao_sl_ts x.ts.length cap_sl_ts) : List Value).toArray 60))
  rw [← hw1]
  have HB1 := hid (show Cs w1 (w.heap.size) (x.cells (.slice ao_sl_ps x.ps.length cap_sl_ps) (.slice ao_sl_os x.os.length cap_sl_os) (.slice ao_sl_ts x.ts.length cap_sl_ts) : List Value).toArray 60 by rw [hw1]; exact Cs.new _ _ _)
  have hm : Mod (fun _ => False) w w1 := by rw [hw1]; exact (Mod.refl _ _).alloc _
  have HM0 := hid (show Mod (fun _ => False) w w1 from hm.mono (fun _ _ h => h.elim))
  have hs1 : w1.heap.size = w.heap.size + 1 := by rw [hw1]; simp
  have Hx1 := hid (HS0.out.mod hm (fun _ _ h => h))
  clear HS0
  have Hx2 := hid (HS1.out.mod hm (fun _ _ h => h))
  clear HS1
  have Hx3 := hid (HS2.out.mod hm (fun _ _ h => h))
  clear HS2
  clear hw1 hm
  go_upto_region 1 with (fail)
  generalize ha0 : Act.mk _ _ = a0
  have oe1 : a0.eval (.tmp 1) = .pointer (some ⟨w.heap.size, 0, none⟩) := by rw [← ha0]; rfl
  have hsz0 : a0.tmps.size = 111 := by rw [← ha0]; rfl
  have HA0 := hid ha0
  clear ha0
  refine wp_region_Q0 111 hsz0 [8, 9, 10, 11, 12, 13, 14, 15, 16, 17, 18, 19, 3] [qi (.pointer (some ⟨w.heap.size, 0, none⟩)), qi (.int .i64 x.ep), qv 0, qi (.pointer (some ⟨w.heap.size, 1, none⟩)), qi (.int .u64 (x.tm : Nat)), qv 1, qi (.pointer (some ⟨w.heap.size, 2, none⟩)), qi (.slice ao_sl_ps x.ps.length cap_sl_ps), qi (.int .i64 x.ps.length), qv 2, qv 3, qv 4, qv 4] ⟨qi_stable, qi_stable, qv_stable, qi_stable, qi_stable, qv_stable, qi_stable, qi_stable, qi_stable, qv_stable, qv_stable, qv_stable, qv_stable, trivial⟩ [2, 5, 9, 10, 11] ⟨?_, ?_, ?_, ?_, ?_, ?_, ?_, ?_, ?_, ?_, ?_, ?_, ?_, trivial⟩ ?_
  · exact stq (fun E => ex_field rfl Try.underlying60 rfl (by kernel_rfl) (E.v oe1))
  · exact stq (fun E => ex_load1 rfl Try.underlying3 rfl (E.d 0) (Cs.lit1 (HB1.out.mod E.m.old (by intro h2; omega)) rfl))
  · exact stepq_chain rfl
  · exact stq (fun E => ex_field rfl Try.underlying60 rfl (by kernel_rfl) (E.v oe1))
  · exact stq (fun E => ex_load1 rfl Try.underlying26 rfl (E.d 3) (Cs.lit1 (HB1.out.mod E.m.old (by intro h2; omega)) rfl))
  · exact stepq_chain rfl
  · exact stq (fun E => ex_field rfl Try.underlying60 rfl (by kernel_rfl) (E.v oe1))
  · exact stq (fun E => ex_load1 rfl Try.underlying56 rfl (E.d 6) (Cs.lit1 (HB1.out.mod E.m.old (by intro h2; omega)) rfl))
  · exact stq (fun E => ex_lenS rfl (E.d 7) Try.underlying56)
  · exact stepq_chain rfl
  · exact stepq_chain rfl
  · exact stepq_chain rfl
  · refine stepq_env rfl rfl rfl fun _ _ _ _ _ _ _ _ _ hd _ _ => ?_
    have h11 := hd ⟨11, .data⟩ (by simp) rfl _ rfl
    exact qe_run rfl (wanted_none rfl) (ex_assign rfl rfl) QE.refl h11
  intro u1_0 hr
  have zu1_0 := hr.size
  have Cx4 := hid (hr.new (S := (fun _ => False)))
  clear hr
  refine QChain.go fun Z act E => ?_
  refine qc_callF (args := #[.int .i64 x.ep]) rfl (wanted_none rfl) rfl Try.func70 (args1 (E.d 1)) (RefInt_Q _ HOK.out.1 _) ?_
  rintro e u1_1a ⟨v_a1, rfl, qa1, hm⟩
  obtain ⟨ao_a1, cap_a1, rfl⟩ := qa1.shape
  have zu1_1a := hm.size
  refine ⟨_, rfl, hm.mono (fun _ _ h => h.elim), (fun _ => rfl), ?_⟩
  intro u1_1 hr
  have zu1_1 := hr.size
  have Hx5 := hid ((qa1.widen (R' := (fun k => (New u1_0 u1_1a k))) (fun _ h => h) (Nat.le_refl _)).mod hr (by intro k h1 h2; omega))
  have Cx6 := hid (Cx4.out.go hm hr)
  clear Cx4 hm hr Z act E qa1
  refine QChain.go fun Z act E => ?_
  refine qc_callF (args := #[.int .u64 (x.tm : Nat)]) rfl (wanted_none rfl) rfl Try.func75 (args1 (E.d 4)) (RefNum_Q _ HOK.out.2 _) ?_
  rintro e u1_2a ⟨v_a2, rfl, qa2, hm⟩
  obtain ⟨ao_a2, cap_a2, rfl⟩ := qa2.shape
  have zu1_2a := hm.size
  refine ⟨_, rfl, hm.mono (fun _ _ h => h.elim), (fun _ => rfl), ?_⟩
  intro u1_2 hr
  have zu1_2 := hr.size
  have Hx7 := hid ((qa2.widen (R' := (fun k => (New u1_1 u1_2a k))) (fun _ h => h) (Nat.le_refl _)).mod hr (by intro k h1 h2; omega))
  have hmr := Mod.after hm hr
  have Hx8 := hid (Hx5.out.mod hmr (by intro k h1 h2; omega))
  clear Hx5
  clear hmr
  have Cx9 := hid (Cx6.out.go hm hr)
  clear Cx6 hm hr Z act E qa2
  refine QChain.go fun Z act E => ?_
  refine qc_callF (args := #[.int .i64 x.ps.length]) rfl (wanted_none rfl) rfl Try.func70 (args1 (E.d 8)) (RefInt_Q _ HI0.out _) ?_
  rintro e u1_3a ⟨v_a3, rfl, qa3, hm⟩
  obtain ⟨ao_a3, cap_a3, rfl⟩ := qa3.shape
  have zu1_3a := hm.size
  refine ⟨_, rfl, hm.mono (fun _ _ h => h.elim), (fun _ => rfl), ?_⟩
  intro u1_3 hr
  have zu1_3 := hr.size
  have Hx10 := hid ((qa3.widen (R' := (fun k => (New u1_2 u1_3a k))) (fun _ h => h) (Nat.le_refl _)).mod hr (by intro k h1 h2; omega))
  have hmr := Mod.after hm hr
  have Hx11 := hid (Hx8.out.mod hmr (by intro k h1 h2; omega))
  have Hx12 := hid (Hx7.out.mod hmr (by intro k h1 h2; omega))
  clear Hx8 Hx7
  clear hmr
  have Cx13 := hid (Cx9.out.go hm hr)
  clear Cx9 hm hr Z act E qa3
  refine QChain.go fun Z act E => ?_
  have ea10 : act.eval (.tmp 10) = .slice ao_a1 ((encI x.ep).length) cap_a1 := (chv (v := .slice ao_a1 ((encI x.ep).length) cap_a1) (E.d 2))
  have ea13 : act.eval (.tmp 13) = .slice ao_a2 ((encN x.tm).length) cap_a2 := (chv (v := .slice ao_a2 ((encN x.tm).length) cap_a2) (E.d 5))
  have ea17 : act.eval (.tmp 17) = .slice ao_a3 ((encI x.ps.length).length) cap_a3 := (chv (v := .slice ao_a3 ((encI x.ps.length).length) cap_a3) (E.d 9))
  refine qc_rows rfl (wanted_none rfl) rfl Try.underlying144 (by decide) (C := #[.slice ao_a1 ((encI x.ep).length) cap_a1, .slice ao_a2 ((encN x.tm).length) cap_a2, .slice ao_a3 ((encI x.ps.length).length) cap_a3]) (by simp only [List.map_toArray, List.map_cons, List.map_nil, ea10, ea13, ea17]; kernel_rfl) ?_
  intro u1_4a qrow10 hm
  have zl1_10 := qrow10.lt
  have zu1_4a := hm.size
  refine ⟨hm.mono (fun _ _ h => h.elim), (fun _ => rfl), ?_⟩
  intro u1_4 hr
  have zu1_4 := hr.size
  have Hx14 := hid (qrow10.mod hr (by intro h2; omega))
  have hmr := Mod.after hm hr
  have Hx15 := hid (Hx11.out.mod hmr (by intro k h1 h2; omega))
  have Hx16 := hid (Hx12.out.mod hmr (by intro k h1 h2; omega))
  have Hx17 := hid (Hx10.out.mod hmr (by intro k h1 h2; omega))
  clear Hx11 Hx12 Hx10
  clear hmr
  have Cx18 := hid (Cx13.out.go hm hr)
  clear Cx13 hm hr Z act E qrow10 ea10 ea13 ea17
  refine QChain.go fun Z act E => ?_
  refine qc_callF (args := #[.slice (some ⟨u1_3.heap.size, 0, none⟩) 3 3]) rfl (wanted_none rfl) rfl Try.func68 (args1 (chv (v := .slice (some ⟨u1_3.heap.size, 0, none⟩) 3 3) (E.d 10))) (Join_Q (n := 3)  Hx14.out [(.slice ao_a1 ((encI x.ep).length) cap_a1, encI x.ep), (.slice ao_a2 ((encN x.tm).length) cap_a2, encN x.tm), (.slice ao_a3 ((encI x.ps.length).length) cap_a3, encI x.ps.length)] rfl rfl (by intro p hp; simp only [List.mem_cons, List.not_mem_nil, or_false] at hp; rcases hp with rfl | rfl | rfl <;> first | exact Hx15.out.rd.1 | exact Hx16.out.rd.1 | exact Hx17.out.rd.1) (by simp) (show flat _ = encI x.ep ++ (encN x.tm ++ encI x.ps.length) from by simp only [flat, List.map_cons, List.map_nil, List.flatten_cons, List.flatten_nil, List.append_nil]) (by have := HL.out; simp only [listB, List.length_append] at this ⊢; omega)) ?_
  rintro e u1_5a ⟨v_join1, rfl, qjoin1, hm⟩
  have zu1_5a := hm.size
  refine ⟨_, rfl, hm.mono (fun _ _ h => h.elim), (fun _ => rfl), ?_⟩
  intro u1_5 hr
  have zu1_5 := hr.size
  have Hx19 := hid ((qjoin1.widen (R' := (fun k => (New u1_4 u1_5a k))) (fun _ h => h) (Nat.le_refl _)).mod hr (by intro k h1 h2; omega))
  have hmr := Mod.after hm hr
  have Hx20 := hid (Hx15.out.mod hmr (by intro k h1 h2; omega))
  have Hx21 := hid (Hx16.out.mod hmr (by intro k h1 h2; omega))
  have Hx22 := hid (Hx17.out.mod hmr (by intro k h1 h2; omega))
  have Hx23 := hid (Hx14.out.mod hmr (by intro h2; omega))
  clear Hx15 Hx16 Hx17 Hx14
  clear hmr
  have Cx24 := hid (Cx18.out.go hm hr)
  clear Cx18 hm hr Z act E qjoin1
  refine QChain.nil fun vs hl hzz hrows hne => ?_
  obtain ⟨Z, hYZ, hZb, hV⟩ := hzz
  have f2 := fvc hV hl 2
  have f5 := fvc hV hl 5
  have f8 := fvi hV hl 8
  have f9 := fvc hV hl 9
  have f10 := fvc hV hl 10
  have f11 := fvc hV hl 11
  have f12 := fvc hV hl 12
  rw [show vs = [gw vs 0, gw vs 1, gw vs 2, gw vs 3, gw vs 4, gw vs 5, gw vs 6, gw vs 7, gw vs 8, gw vs 9, gw vs 10, gw vs 11, gw vs 12] from (gw_eta hl).trans rfl]
  have ha0 := HA0.out
  subst ha0
  clear HA0 hV hYZ hZb hsz0 hrows hne oe1
  simp only [putAll, Act.put, List.setIfInBounds_toArray, List.set_cons_zero, List.set_cons_succ, f2, f5, f8, f9, f10, f11, f12]
  clear hl f2 f5 f8 f9 f10 f11 f12
  go_upto_region 2 with (fail)
  generalize ha0 : Act.mk _ _ = a0
  have oe1 : a0.eval (.tmp 1) = .pointer (some ⟨w.heap.size, 0, none⟩) := by rw [← ha0]; rfl
  have hsz0 : a0.tmps.size = 111 := by rw [← ha0]; rfl
  have HA0 := hid ha0
  clear ha0
  refine wp_region_Q0 111 hsz0 [20, 21, 22, 23] [qi (.pointer (some ⟨w.heap.size, 2, none⟩)), qi (.slice ao_sl_ps x.ps.length cap_sl_ps), qi (.int .i64 x.ps.length), qi (.int .i64 0)] ⟨qi_stable, qi_stable, qi_stable, qi_stable, trivial⟩ [] ⟨?_, ?_, ?_, ?_, trivial⟩ ?_
  · exact stq (fun E => ex_field rfl Try.underlying60 rfl (by kernel_rfl) (E.v oe1))
  · exact stq (fun E => ex_load1 rfl Try.underlying56 rfl (E.d 0) (Cs.lit1 ((HB1.out.mod Cx24.out (fun h => h)).mod E.m.old (by intro h2; omega)) rfl))
  · exact stq (fun E => ex_lenS rfl (E.d 1) Try.underlying56)
  · exact stq (fun E => ex_move rfl rfl)
  intro u2_0 hr
  have zu2_0 := hr.size
  have Cx25 := hid (hr.new (S := (fun _ => False)))
  clear hr
  refine QChain.nil fun vs hl hzz hrows hne => ?_
  obtain ⟨Z, hYZ, hZb, hV⟩ := hzz
  have f2 := fvi hV hl 2
  have f3 := fvi hV hl 3
  rw [show vs = [gw vs 0, gw vs 1, gw vs 2, gw vs 3] from (gw_eta hl).trans rfl]
  have ha0 := HA0.out
  subst ha0
  clear HA0 hV hYZ hZb hsz0 hrows hne oe1
  simp only [putAll, Act.put, List.setIfInBounds_toArray, List.set_cons_zero, List.set_cons_succ, f2, f3]
  clear hl f2 f3
  go_wp2
  go_loopw [3, 23] (fun ta ti wr => ∃ k : Nat, ti = .int .i64 (k : Int) ∧ k ≤ x.ps.length ∧ u2_0.heap.size ≤ wr.heap.size ∧ OwR (fun b => w1.heap.size ≤ b ∧ b < wr.heap.size) 900000 wr ta ((encI x.ep ++ (encN x.tm ++ encI x.ps.length)) ++ ((x.ps.take k).map pmB).flatten) ∧ RdS PmR R2 wr (.slice ao_sl_ps x.ps.length cap_sl_ps) x.ps ∧ RdS OpR R2 wr (.slice ao_sl_os x.os.length cap_sl_os) x.os ∧ RdS TbR R2 wr (.slice ao_sl_ts x.ts.length cap_sl_ts) x.ts ∧ Cs wr (w.heap.size) (x.cells (.slice ao_sl_ps x.ps.length cap_sl_ps) (.slice ao_sl_os x.os.length cap_sl_os) (.slice ao_sl_ts x.ts.length cap_sl_ts) : List Value).toArray 60 ∧ Mod (fun _ => False) w wr) (fun _ ti _ => x.ps.length - (intOf ti).toNat)
  case atStart => exact ⟨0, rfl, Nat.zero_le _, Nat.le_refl _, by have hq := ((Hx19.out.mod Cx25.out (fun _ _ h => h)).widen (R' := (fun b => w1.heap.size ≤ b ∧ b < u2_0.heap.size)) (by intro k h1; omega) (Nat.le_refl _)); simpa only [List.take_zero, List.map_nil, List.flatten_nil, List.append_nil, List.append_assoc] using hq, ((Hx1.out.mod Cx24.out (fun _ _ h => h)).mod Cx25.out (fun _ _ h => h)), ((Hx2.out.mod Cx24.out (fun _ _ h => h)).mod Cx25.out (fun _ _ h => h)), ((Hx3.out.mod Cx24.out (fun _ _ h => h)).mod Cx25.out (fun _ _ h => h)), ((HB1.out.mod Cx24.out (fun h => h)).mod Cx25.out (fun h => h)), ((HM0.out.trans Cx24.out (fun _ _ h => h.elim)).trans Cx25.out (fun _ _ h => h.elim))⟩
  case round =>
    obtain ⟨k1, rfl, hk, hz, ha, hk_0, hk_1, hk_2, hk_3, hm⟩ := hrel
    obtain ⟨wl1, rfl⟩ : ∃ x, x = wr := ⟨_, rfl⟩
    obtain ⟨aol1, capl1, rfl⟩ := ha.shape
    have HAL1 := Lib.hid ha
    have HKL1_0 := Lib.hid hk_0
    have HKL1_1 := Lib.hid hk_1
    have HKL1_2 := Lib.hid hk_2
    have HKL1_3 := Lib.hid hk_3
    have HML1 := Lib.hid hm
    clear ha hm hk_0 hk_1 hk_2 hk_3 Hx1 Hx2 Hx3 HB1 HM0 Hx20 Hx21 Hx22 Hx23 Hx19
    by_cases hlt1 : k1 < x.ps.length
    · skip
      have hat := HKL1_0.out.at hlt1
      obtain ⟨g1, o1, cs1, eao, hrg, hrd, hcs⟩ := hat
      subst eao
      have hcl : cs1.length = 6 := PmR.len hrd
      have HCL1 := Lib.hid hcl
      have HAT1 := hid (show CellsAt R2 wl1 g1 (o1 + k1 * 6) cs1 from ⟨hrg, hcs⟩)
      have HRD1 := Lib.hid hrd
      clear hcl hcs hrd hrg
      have HE1 : Hid (((encI x.ep ++ (encN x.tm ++ encI x.ps.length)) ++ ((x.ps.take k1).map pmB).flatten) ++ pmB x.ps[k1] = (encI x.ep ++ (encN x.tm ++ encI x.ps.length)) ++ ((x.ps.take (k1 + 1)).map pmB).flatten) := hid (by rw [List.take_succ_eq_append_getElem hlt1, List.map_append, List.flatten_append]; simp [List.append_assoc])
      have HB1' := hid (show (((encI x.ep ++ (encN x.tm ++ encI x.ps.length)) ++ ((x.ps.take k1).map pmB).flatten) ++ pmB x.ps[k1]).length ≤ 900000 by rw [HE1.out]; exact acc_len _ _ _ _ (by have := HL.out; simp only [listB, List.length_append] at this ⊢; omega))
      have HBE1 := hid (show (pmB x.ps[k1]).length ≤ 900000 by have := HB1'.out; simp only [List.length_append] at this ⊢; omega)
      go_upto_region 4 with (fail)
      generalize ha0 : Act.mk _ _ = a0
      have oe23 : a0.eval (.tmp 23) = .int .i64 ((k1 : Nat) : Int) := by rw [← ha0]; rfl
      have hsz0 : a0.tmps.size = 111 := by rw [← ha0]; rfl
      have HA0 := hid ha0
      clear ha0
      refine wp_region_Q0 111 hsz0 [25, 4] [qi (.int .i64 ((k1 : Nat) : Int)), qi (.int .i64 ((k1 : Nat) : Int))] ⟨qi_stable, qi_stable, trivial⟩ [] ⟨?_, ?_, trivial⟩ ?_
      · exact stq (fun E => ex_move rfl (E.v oe23))
      · exact stq (fun E => ex_assign rfl (E.d 0))
      intro u4_0 hr
      have zu4_0 := hr.size
      have Cx26 := hid (hr.new (S := (fun _ => False)))
      clear hr
      refine QChain.nil fun vs hl hzz hrows hne => ?_
      obtain ⟨Z, hYZ, hZb, hV⟩ := hzz
      have f0 := fvi hV hl 0
      have f1 := fvi hV hl 1
      rw [show vs = [gw vs 0, gw vs 1] from (gw_eta hl).trans rfl]
      have ha0 := HA0.out
      subst ha0
      clear HA0 hV hYZ hZb hsz0 hrows hne oe23
      simp only [putAll, Act.put, List.setIfInBounds_toArray, List.set_cons_zero, List.set_cons_succ, f0, f1]
      clear hl f0 f1
      go_upto_region 5 with (fail)
      generalize ha0 : Act.mk _ _ = a0
      have oe1 : a0.eval (.tmp 1) = .pointer (some ⟨w.heap.size, 0, none⟩) := by rw [← ha0]; rfl
      have oe3 : a0.eval (.tmp 3) = .slice aol1 (((encI x.ep ++ (encN x.tm ++ encI x.ps.length)) ++ ((x.ps.take k1).map pmB).flatten).length) capl1 := by rw [← ha0]; rfl
      have oe4 : a0.eval (.tmp 4) = .int .i64 ((k1 : Nat) : Int) := by rw [← ha0]; rfl
      have hsz0 : a0.tmps.size = 111 := by rw [← ha0]; rfl
      have HA0 := hid ha0
      clear ha0
      refine wp_region_Q1 111 hsz0 [26, 27, 28, 29, 30, 31, 32, 33, 3] (fun k => (New w1 wl1 k)) (fun k j => (k = 1 ∧ ((New w1 wl1 j)))) (fun _ _ h => h.2) [qi (.slice aol1 (((encI x.ep ++ (encN x.tm ++ encI x.ps.length)) ++ ((x.ps.take k1).map pmB).flatten).length) capl1), qi (.pointer (some ⟨w.heap.size, 2, none⟩)), qi (.slice (some ⟨g1, o1, none⟩) x.ps.length cap_sl_ps), qi (.int .i64 ((k1 : Nat) : Int)), qi (.pointer (some ⟨g1, o1 + k1 * 6, none⟩)), qi (.agg cs1.toArray), qv 0, qv 1, qv 1] ⟨qi_stable, qi_stable, qi_stable, qi_stable, qi_stable, qi_stable, qv_stable, qv_stable, qv_stable, trivial⟩ [6, 7] ⟨?_, ?_, ?_, ?_, ?_, ?_, ?_, ?_, ?_, trivial⟩ ?_
      · exact stq (fun E => ex_move rfl ((E.pre 8 3 rfl (by kernel_rfl)).trans oe3))
      · exact stq (fun E => ex_field rfl Try.underlying60 rfl (by kernel_rfl) (E.v oe1))
      · exact stq (fun E => ex_load1 rfl Try.underlying56 rfl (E.d 1) (Cs.lit1 ((HKL1_3.out.mod Cx26.out (fun h => h)).mod E.m (by intro h2; omega)) rfl))
      · exact stq (fun E => ex_move rfl (E.v oe4))
      · exact stq (fun E => ex_idxS (i := k1) (s := 6) rfl Try.underlying56 (by kernel_rfl) (E.d 2) (E.d 3) hlt1)
      · exact stq (fun E => ex_loadA rfl Try.underlying55 rfl (off := o1 + k1 * 6) (cs := cs1) (by rw [HCL1.out]; kernel_rfl) (E.d 4) (fun j u hu => (((HAT1.out.mod Cx26.out (fun _ _ h => h)).mod E.m (by intro k h1 h2; rcases h2 with ⟨h0, h2⟩ | h2 <;> (first | omega | (have hb := HBT.out k h1; omega))))).2 j u hu))
      · exact stepq_chain rfl
      · exact stepq_chain rfl
      · refine stepq_env rfl rfl rfl fun _ _ _ _ _ _ _ _ _ hd _ _ => ?_
        have h7 := hd ⟨7, .data⟩ (by simp) rfl _ rfl
        exact qe_run rfl (wanted_none rfl) (ex_assign rfl rfl) QE.refl h7
      intro u5_0 hr
      have zu5_0 := hr.size
      have Cx27 := hid (hr.new (S := (fun k => (New w1 wl1 k))))
      have Hx28 := hid ((HAL1.out.mod Cx26.out (fun _ _ h => h)).mod hr (by intro k h1 h2; omega))
      clear HAL1
      clear hr
      refine QChain.go fun Z act E => ?_
      refine qc_callF (args := #[.agg cs1.toArray]) rfl (wanted_none rfl) rfl Try.func22 (args1 (E.d 5)) (RefPm_Q _ _ (x.ps[k1]) _ ((HRD1.out.mod Cx26.out (fun _ _ h => h)).mod Cx27.out (by intro k h1 h2; have hb := HBT.out k h1; omega)) (by intro k h1; have hb := HBT.out k h1; omega) HBE1.out) ?_
      rintro e u5_1a ⟨v_a4, rfl, qa4, hm⟩
      obtain ⟨ao_a4, cap_a4, rfl⟩ := qa4.shape
      have zu5_1a := hm.size
      refine ⟨_, rfl, hm.mono (fun _ _ h => h.elim), (fun _ => rfl), ?_⟩
      intro u5_1 hr
      have zu5_1 := hr.size
      have Hx29 := hid ((qa4.widen (R' := (fun k => (New u5_0 u5_1a k))) (fun _ h => h) (Nat.le_refl _)).mod hr (by intro k h1 h2; omega))
      have hmr := Mod.after hm hr
      have Hx30 := hid (Hx28.out.mod hmr (by intro k h1 h2; omega))
      clear Hx28
      clear hmr
      have Cx31 := hid (Cx27.out.go hm hr)
      clear Cx27 hm hr Z act E qa4
      refine QChain.go fun Z act E => ?_
      refine qc_appR rfl (wanted_none rfl) rfl (E.d 0) (chv (v := .slice ao_a4 ((pmB x.ps[k1]).length) cap_a4) (E.d 6)) Hx30.out Hx29.out.rd HB1'.out ?_
      intro ao18 cap18 u5_2a qjoin1 hm
      have zu5_2a := hm.size
      refine ⟨hm.mono (by intro k hk h; omega), (fun _ => rfl), ?_⟩
      intro u5_2 hr
      have zu5_2 := hr.size
      have Hx32 := hid ((qjoin1.widen (R' := (fun k => (New w1 wl1 k) ∨ (New u5_1 u5_2a k))) (fun _ h => h) (Nat.le_refl _)).mod hr (by intro k h1 h2; omega))
      have hmr := hm.two hr
      have Hx33 := hid (Hx29.out.mod hmr (by intro k h1 h2; omega))
      clear Hx29
      clear hmr
      have Cx34 := hid (Cx31.out.goM hm hr (fun _ _ h => h))
      clear Cx31 hm hr Z act E qjoin1 Hx30
      refine QChain.nil fun vs hl hzz hrows hne => ?_
      obtain ⟨Z, hYZ, hZb, hV⟩ := hzz
      have f0 := fvi hV hl 0
      have f3 := fvi hV hl 3
      have f6 := fvc hV hl 6
      have f7 := fvc hV hl 7
      have f8 := fvc hV hl 8
      rw [show vs = [gw vs 0, gw vs 1, gw vs 2, gw vs 3, gw vs 4, gw vs 5, gw vs 6, gw vs 7, gw vs 8] from (gw_eta hl).trans rfl]
      have ha0 := HA0.out
      subst ha0
      clear HA0 hV hYZ hZb hsz0 hrows hne oe1 oe3 oe4
      simp only [putAll, Act.put, List.setIfInBounds_toArray, List.set_cons_zero, List.set_cons_succ, f0, f3, f6, f7, f8]
      clear hl f0 f3 f6 f7 f8
      have hq := Hx32.out
      rw [HE1.out] at hq
      have HQ1 := Lib.hid hq
      clear hq
      go_wp2
      go_roundw
      case rel => exact ⟨k1 + 1, by go_num, by omega, by omega, (HQ1.out.widen (by intro b h1; omega) (Nat.le_refl _)), ((HKL1_0.out.mod Cx26.out (fun _ _ h => h)).mod Cx34.out (by intro k h1 h2; have hb := HBT.out k h1; omega)), ((HKL1_1.out.mod Cx26.out (fun _ _ h => h)).mod Cx34.out (by intro k h1 h2; have hb := HBT.out k h1; omega)), ((HKL1_2.out.mod Cx26.out (fun _ _ h => h)).mod Cx34.out (by intro k h1 h2; have hb := HBT.out k h1; omega)), ((HKL1_3.out.mod Cx26.out (fun h => h)).mod Cx34.out (by intro h2; omega)), ((HML1.out.trans Cx26.out (fun _ _ h => h.elim)).trans Cx34.out (by intro k h1 h2; omega))⟩
      case measure => simp [intOf]; omega
    · obtain rfl : k1 = x.ps.length := by omega
      have hq := HAL1.out
      rw [List.take_length] at hq
      have HAF1 := Lib.hid hq
      clear hq
      rw [List.take_length]
      go_upto_region 7 with (fail)
      generalize ha0 : Act.mk _ _ = a0
      have oe1 : a0.eval (.tmp 1) = .pointer (some ⟨w.heap.size, 0, none⟩) := by rw [← ha0]; rfl
      have oe3 : a0.eval (.tmp 3) = .slice aol1 (((encI x.ep ++ (encN x.tm ++ encI x.ps.length)) ++ (x.ps.map pmB).flatten).length) capl1 := by rw [← ha0]; rfl
      have hsz0 : a0.tmps.size = 111 := by rw [← ha0]; rfl
      have HA0 := hid ha0
      clear ha0
      refine wp_region_Q1 111 hsz0 [35, 36, 37, 38, 39, 40, 3] (fun k => (New w1 wl1 k)) (fun k j => (k = 1 ∧ ((New w1 wl1 j)))) (fun _ _ h => h.2) [qi (.slice aol1 (((encI x.ep ++ (encN x.tm ++ encI x.ps.length)) ++ (x.ps.map pmB).flatten).length) capl1), qi (.pointer (some ⟨w.heap.size, 3, none⟩)), qi (.slice ao_sl_os x.os.length cap_sl_os), qi (.int .i64 x.os.length), qv 0, qv 1, qv 1] ⟨qi_stable, qi_stable, qi_stable, qi_stable, qv_stable, qv_stable, qv_stable, trivial⟩ [4, 5] ⟨?_, ?_, ?_, ?_, ?_, ?_, ?_, trivial⟩ ?_
      · exact stq (fun E => ex_move rfl ((E.pre 6 3 rfl (by kernel_rfl)).trans oe3))
      · exact stq (fun E => ex_field rfl Try.underlying60 rfl (by kernel_rfl) (E.v oe1))
      · exact stq (fun E => ex_load1 rfl Try.underlying57 rfl (E.d 1) (Cs.lit1 (HKL1_3.out.mod E.m (by intro h2; omega)) rfl))
      · exact stq (fun E => ex_lenS rfl (E.d 2) Try.underlying57)
      · exact stepq_chain rfl
      · exact stepq_chain rfl
      · refine stepq_env rfl rfl rfl fun _ _ _ _ _ _ _ _ _ hd _ _ => ?_
        have h5 := hd ⟨5, .data⟩ (by simp) rfl _ rfl
        exact qe_run rfl (wanted_none rfl) (ex_assign rfl rfl) QE.refl h5
      intro u7_0 hr
      have zu7_0 := hr.size
      have Cx35 := hid (hr.new (S := (fun k => (New w1 wl1 k))))
      have Hx36 := hid (HAF1.out.mod hr (by intro k h1 h2; omega))
      clear HAF1
      clear hr
      refine QChain.go fun Z act E => ?_
      refine qc_callF (args := #[.int .i64 (x.os.length : Int)]) rfl (wanted_none rfl) rfl Try.func70 (args1 (E.d 3)) (RefInt_Q _ HI1.out _) ?_
      rintro e u7_1a ⟨v_a5, rfl, qa5, hm⟩
      obtain ⟨ao_a5, cap_a5, rfl⟩ := qa5.shape
      have zu7_1a := hm.size
      refine ⟨_, rfl, hm.mono (fun _ _ h => h.elim), (fun _ => rfl), ?_⟩
      intro u7_1 hr
      have zu7_1 := hr.size
      have Hx37 := hid ((qa5.widen (R' := (fun k => (New u7_0 u7_1a k))) (fun _ h => h) (Nat.le_refl _)).mod hr (by intro k h1 h2; omega))
      have hmr := Mod.after hm hr
      have Hx38 := hid (Hx36.out.mod hmr (by intro k h1 h2; omega))
      clear Hx36
      clear hmr
      have Cx39 := hid (Cx35.out.go hm hr)
      clear Cx35 hm hr Z act E qa5
      refine QChain.go fun Z act E => ?_
      refine qc_appR rfl (wanted_none rfl) rfl (E.d 0) (chv (v := .slice ao_a5 ((encI x.os.length).length) cap_a5) (E.d 4)) Hx38.out Hx37.out.rd (by have := HL.out; simp only [listB, List.length_append] at this ⊢; omega) ?_
      intro ao17 cap17 u7_2a qjoin1 hm
      have zu7_2a := hm.size
      refine ⟨hm.mono (by intro k hk h; omega), (fun _ => rfl), ?_⟩
      intro u7_2 hr
      have zu7_2 := hr.size
      have Hx40 := hid ((qjoin1.widen (R' := (fun k => (New w1 wl1 k) ∨ (New u7_1 u7_2a k))) (fun _ h => h) (Nat.le_refl _)).mod hr (by intro k h1 h2; omega))
      have hmr := hm.two hr
      have Hx41 := hid (Hx37.out.mod hmr (by intro k h1 h2; omega))
      clear Hx37
      clear hmr
      have Cx42 := hid (Cx39.out.goM hm hr (fun _ _ h => h))
      clear Cx39 hm hr Z act E qjoin1 Hx38
      refine QChain.nil fun vs hl hzz hrows hne => ?_
      obtain ⟨Z, hYZ, hZb, hV⟩ := hzz
      have f0 := fvi hV hl 0
      have f3 := fvi hV hl 3
      have f4 := fvc hV hl 4
      have f5 := fvc hV hl 5
      have f6 := fvc hV hl 6
      rw [show vs = [gw vs 0, gw vs 1, gw vs 2, gw vs 3, gw vs 4, gw vs 5, gw vs 6] from (gw_eta hl).trans rfl]
      have ha0 := HA0.out
      subst ha0
      clear HA0 hV hYZ hZb hsz0 hrows hne oe1 oe3
      simp only [putAll, Act.put, List.setIfInBounds_toArray, List.set_cons_zero, List.set_cons_succ, f0, f3, f4, f5, f6]
      clear hl f0 f3 f4 f5 f6
      go_upto_region 8 with (fail)
      generalize ha0 : Act.mk _ _ = a0
      have oe1 : a0.eval (.tmp 1) = .pointer (some ⟨w.heap.size, 0, none⟩) := by rw [← ha0]; rfl
      have hsz0 : a0.tmps.size = 111 := by rw [← ha0]; rfl
      have HA0 := hid ha0
      clear ha0
      refine wp_region_Q0 111 hsz0 [41, 42, 43, 44] [qi (.pointer (some ⟨w.heap.size, 3, none⟩)), qi (.slice ao_sl_os x.os.length cap_sl_os), qi (.int .i64 x.os.length), qi (.int .i64 0)] ⟨qi_stable, qi_stable, qi_stable, qi_stable, trivial⟩ [] ⟨?_, ?_, ?_, ?_, trivial⟩ ?_
      · exact stq (fun E => ex_field rfl Try.underlying60 rfl (by kernel_rfl) (E.v oe1))
      · exact stq (fun E => ex_load1 rfl Try.underlying57 rfl (E.d 0) (Cs.lit1 ((HKL1_3.out.mod Cx42.out (by intro h2; omega)).mod E.m.old (by intro h2; omega)) rfl))
      · exact stq (fun E => ex_lenS rfl (E.d 1) Try.underlying57)
      · exact stq (fun E => ex_move rfl rfl)
      intro u8_0 hr
      have zu8_0 := hr.size
      have Cx43 := hid (hr.new (S := (fun _ => False)))
      clear hr
      refine QChain.nil fun vs hl hzz hrows hne => ?_
      obtain ⟨Z, hYZ, hZb, hV⟩ := hzz
      have f2 := fvi hV hl 2
      have f3 := fvi hV hl 3
      rw [show vs = [gw vs 0, gw vs 1, gw vs 2, gw vs 3] from (gw_eta hl).trans rfl]
      have ha0 := HA0.out
      subst ha0
      clear HA0 hV hYZ hZb hsz0 hrows hne oe1
      simp only [putAll, Act.put, List.setIfInBounds_toArray, List.set_cons_zero, List.set_cons_succ, f2, f3]
      clear hl f2 f3
      go_wp2
      go_loopw [3, 44] (fun ta ti wr => ∃ k : Nat, ti = .int .i64 (k : Int) ∧ k ≤ x.os.length ∧ u8_0.heap.size ≤ wr.heap.size ∧ OwR (fun b => w1.heap.size ≤ b ∧ b < wr.heap.size) 900000 wr ta ((((encI x.ep ++ (encN x.tm ++ encI x.ps.length)) ++ (x.ps.map pmB).flatten) ++ encI x.os.length) ++ ((x.os.take k).map opB).flatten) ∧ RdS PmR R2 wr (.slice ao_sl_ps x.ps.length cap_sl_ps) x.ps ∧ RdS OpR R2 wr (.slice ao_sl_os x.os.length cap_sl_os) x.os ∧ RdS TbR R2 wr (.slice ao_sl_ts x.ts.length cap_sl_ts) x.ts ∧ Cs wr (w.heap.size) (x.cells (.slice ao_sl_ps x.ps.length cap_sl_ps) (.slice ao_sl_os x.os.length cap_sl_os) (.slice ao_sl_ts x.ts.length cap_sl_ts) : List Value).toArray 60 ∧ Mod (fun _ => False) w wr) (fun _ ti _ => x.os.length - (intOf ti).toNat)
      case atStart => exact ⟨0, rfl, Nat.zero_le _, Nat.le_refl _, by have hq := ((Hx40.out.mod Cx43.out (fun _ _ h => h)).widen (R' := (fun b => w1.heap.size ≤ b ∧ b < u8_0.heap.size)) (by intro k h1; omega) (Nat.le_refl _)); simpa only [List.take_zero, List.map_nil, List.flatten_nil, List.append_nil, List.append_assoc] using hq, ((HKL1_0.out.mod Cx42.out (by intro k h1 h2; have hb := HBT.out k h1; omega)).mod Cx43.out (fun _ _ h => h)), ((HKL1_1.out.mod Cx42.out (by intro k h1 h2; have hb := HBT.out k h1; omega)).mod Cx43.out (fun _ _ h => h)), ((HKL1_2.out.mod Cx42.out (by intro k h1 h2; have hb := HBT.out k h1; omega)).mod Cx43.out (fun _ _ h => h)), ((HKL1_3.out.mod Cx42.out (by intro h2; omega)).mod Cx43.out (fun h => h)), ((HML1.out.trans Cx42.out (by intro k h1 h2; omega)).trans Cx43.out (fun _ _ h => h.elim))⟩
      case round =>
        obtain ⟨k2, rfl, hk, hz, ha, hk_0, hk_1, hk_2, hk_3, hm⟩ := hrel
        obtain ⟨wl2, rfl⟩ : ∃ x, x = wr := ⟨_, rfl⟩
        obtain ⟨aol2, capl2, rfl⟩ := ha.shape
        have HAL2 := Lib.hid ha
        have HKL2_0 := Lib.hid hk_0
        have HKL2_1 := Lib.hid hk_1
        have HKL2_2 := Lib.hid hk_2
        have HKL2_3 := Lib.hid hk_3
        have HML2 := Lib.hid hm
        clear ha hm hk_0 hk_1 hk_2 hk_3 HKL1_0 HKL1_1 HKL1_2 HKL1_3 HML1 Hx40 Hx41
        by_cases hlt2 : k2 < x.os.length
        · skip
          have hat := HKL2_1.out.at hlt2
          obtain ⟨g2, o2, cs2, eao, hrg, hrd, hcs⟩ := hat
          subst eao
          have hcl : cs2.length = 34 := OpR.len hrd
          have HCL2 := Lib.hid hcl
          have HAT2 := hid (show CellsAt R2 wl2 g2 (o2 + k2 * 34) cs2 from ⟨hrg, hcs⟩)
          have HRD2 := Lib.hid hrd
          clear hcl hcs hrd hrg
          have HE2 : Hid (((((encI x.ep ++ (encN x.tm ++ encI x.ps.length)) ++ (x.ps.map pmB).flatten) ++ encI x.os.length) ++ ((x.os.take k2).map opB).flatten) ++ opB x.os[k2] = (((encI x.ep ++ (encN x.tm ++ encI x.ps.length)) ++ (x.ps.map pmB).flatten) ++ encI x.os.length) ++ ((x.os.take (k2 + 1)).map opB).flatten) := hid (by rw [List.take_succ_eq_append_getElem hlt2, List.map_append, List.flatten_append]; simp [List.append_assoc])
          have HB2' := hid (show (((((encI x.ep ++ (encN x.tm ++ encI x.ps.length)) ++ (x.ps.map pmB).flatten) ++ encI x.os.length) ++ ((x.os.take k2).map opB).flatten) ++ opB x.os[k2]).length ≤ 900000 by rw [HE2.out]; exact acc_len _ _ _ _ (by have := HL.out; simp only [listB, List.length_append] at this ⊢; omega))
          have HBE2 := hid (show (opB x.os[k2]).length ≤ 900000 by have := HB2'.out; simp only [List.length_append] at this ⊢; omega)
          go_upto_region 10 with (fail)
          generalize ha0 : Act.mk _ _ = a0
          have oe44 : a0.eval (.tmp 44) = .int .i64 ((k2 : Nat) : Int) := by rw [← ha0]; rfl
          have hsz0 : a0.tmps.size = 111 := by rw [← ha0]; rfl
          have HA0 := hid ha0
          clear ha0
          refine wp_region_Q0 111 hsz0 [46, 5] [qi (.int .i64 ((k2 : Nat) : Int)), qi (.int .i64 ((k2 : Nat) : Int))] ⟨qi_stable, qi_stable, trivial⟩ [] ⟨?_, ?_, trivial⟩ ?_
          · exact stq (fun E => ex_move rfl (E.v oe44))
          · exact stq (fun E => ex_assign rfl (E.d 0))
          intro u10_0 hr
          have zu10_0 := hr.size
          have Cx44 := hid (hr.new (S := (fun _ => False)))
          clear hr
          refine QChain.nil fun vs hl hzz hrows hne => ?_
          obtain ⟨Z, hYZ, hZb, hV⟩ := hzz
          have f0 := fvi hV hl 0
          have f1 := fvi hV hl 1
          rw [show vs = [gw vs 0, gw vs 1] from (gw_eta hl).trans rfl]
          have ha0 := HA0.out
          subst ha0
          clear HA0 hV hYZ hZb hsz0 hrows hne oe44
          simp only [putAll, Act.put, List.setIfInBounds_toArray, List.set_cons_zero, List.set_cons_succ, f0, f1]
          clear hl f0 f1
          go_upto_region 11 with (fail)
          generalize ha0 : Act.mk _ _ = a0
          have oe1 : a0.eval (.tmp 1) = .pointer (some ⟨w.heap.size, 0, none⟩) := by rw [← ha0]; rfl
          have oe3 : a0.eval (.tmp 3) = .slice aol2 (((((encI x.ep ++ (encN x.tm ++ encI x.ps.length)) ++ (x.ps.map pmB).flatten) ++ encI x.os.length) ++ ((x.os.take k2).map opB).flatten).length) capl2 := by rw [← ha0]; rfl
          have oe5 : a0.eval (.tmp 5) = .int .i64 ((k2 : Nat) : Int) := by rw [← ha0]; rfl
          have hsz0 : a0.tmps.size = 111 := by rw [← ha0]; rfl
          have HA0 := hid ha0
          clear ha0
          refine wp_region_Q1 111 hsz0 [47, 48, 49, 50, 51, 52, 53, 54, 3] (fun k => (New w1 wl2 k)) (fun k j => (k = 1 ∧ ((New w1 wl2 j)))) (fun _ _ h => h.2) [qi (.slice aol2 (((((encI x.ep ++ (encN x.tm ++ encI x.ps.length)) ++ (x.ps.map pmB).flatten) ++ encI x.os.length) ++ ((x.os.take k2).map opB).flatten).length) capl2), qi (.pointer (some ⟨w.heap.size, 3, none⟩)), qi (.slice (some ⟨g2, o2, none⟩) x.os.length cap_sl_os), qi (.int .i64 ((k2 : Nat) : Int)), qi (.pointer (some ⟨g2, o2 + k2 * 34, none⟩)), qi (.agg cs2.toArray), qv 0, qv 1, qv 1] ⟨qi_stable, qi_stable, qi_stable, qi_stable, qi_stable, qi_stable, qv_stable, qv_stable, qv_stable, trivial⟩ [6, 7] ⟨?_, ?_, ?_, ?_, ?_, ?_, ?_, ?_, ?_, trivial⟩ ?_
          · exact stq (fun E => ex_move rfl ((E.pre 8 3 rfl (by kernel_rfl)).trans oe3))
          · exact stq (fun E => ex_field rfl Try.underlying60 rfl (by kernel_rfl) (E.v oe1))
          · exact stq (fun E => ex_load1 rfl Try.underlying57 rfl (E.d 1) (Cs.lit1 ((HKL2_3.out.mod Cx44.out (fun h => h)).mod E.m (by intro h2; omega)) rfl))
          · exact stq (fun E => ex_move rfl (E.v oe5))
          · exact stq (fun E => ex_idxS (i := k2) (s := 34) rfl Try.underlying57 (by kernel_rfl) (E.d 2) (E.d 3) hlt2)
          · exact stq (fun E => ex_loadA rfl Try.underlying87 rfl (off := o2 + k2 * 34) (cs := cs2) (by rw [HCL2.out]; kernel_rfl) (E.d 4) (fun j u hu => (((HAT2.out.mod Cx44.out (fun _ _ h => h)).mod E.m (by intro k h1 h2; rcases h2 with ⟨h0, h2⟩ | h2 <;> (first | omega | (have hb := HBT.out k h1; omega))))).2 j u hu))
          · exact stepq_chain rfl
          · exact stepq_chain rfl
          · refine stepq_env rfl rfl rfl fun _ _ _ _ _ _ _ _ _ hd _ _ => ?_
            have h7 := hd ⟨7, .data⟩ (by simp) rfl _ rfl
            exact qe_run rfl (wanted_none rfl) (ex_assign rfl rfl) QE.refl h7
          intro u11_0 hr
          have zu11_0 := hr.size
          have Cx45 := hid (hr.new (S := (fun k => (New w1 wl2 k))))
          have Hx46 := hid ((HAL2.out.mod Cx44.out (fun _ _ h => h)).mod hr (by intro k h1 h2; omega))
          clear HAL2
          clear hr
          refine QChain.go fun Z act E => ?_
          refine qc_callF (args := #[.agg cs2.toArray]) rfl (wanted_none rfl) rfl Try.func76 (args1 (E.d 5)) (RefOp_Q _ _ (x.os[k2]) _ ((HRD2.out.mod Cx44.out (fun _ _ h => h)).mod Cx45.out (by intro k h1 h2; have hb := HBT.out k h1; omega)) (by intro k h1; have hb := HBT.out k h1; omega) HBE2.out) ?_
          rintro e u11_1a ⟨v_a6, rfl, qa6, hm⟩
          obtain ⟨ao_a6, cap_a6, rfl⟩ := qa6.shape
          have zu11_1a := hm.size
          refine ⟨_, rfl, hm.mono (fun _ _ h => h.elim), (fun _ => rfl), ?_⟩
          intro u11_1 hr
          have zu11_1 := hr.size
          have Hx47 := hid ((qa6.widen (R' := (fun k => (New u11_0 u11_1a k))) (fun _ h => h) (Nat.le_refl _)).mod hr (by intro k h1 h2; omega))
          have hmr := Mod.after hm hr
          have Hx48 := hid (Hx46.out.mod hmr (by intro k h1 h2; omega))
          clear Hx46
          clear hmr
          have Cx49 := hid (Cx45.out.go hm hr)
          clear Cx45 hm hr Z act E qa6
          refine QChain.go fun Z act E => ?_
          refine qc_appR rfl (wanted_none rfl) rfl (E.d 0) (chv (v := .slice ao_a6 ((opB x.os[k2]).length) cap_a6) (E.d 6)) Hx48.out Hx47.out.rd HB2'.out ?_
          intro ao25 cap25 u11_2a qjoin1 hm
          have zu11_2a := hm.size
          refine ⟨hm.mono (by intro k hk h; omega), (fun _ => rfl), ?_⟩
          intro u11_2 hr
          have zu11_2 := hr.size
          have Hx50 := hid ((qjoin1.widen (R' := (fun k => (New w1 wl2 k) ∨ (New u11_1 u11_2a k))) (fun _ h => h) (Nat.le_refl _)).mod hr (by intro k h1 h2; omega))
          have hmr := hm.two hr
          have Hx51 := hid (Hx47.out.mod hmr (by intro k h1 h2; omega))
          clear Hx47
          clear hmr
          have Cx52 := hid (Cx49.out.goM hm hr (fun _ _ h => h))
          clear Cx49 hm hr Z act E qjoin1 Hx48
          refine QChain.nil fun vs hl hzz hrows hne => ?_
          obtain ⟨Z, hYZ, hZb, hV⟩ := hzz
          have f0 := fvi hV hl 0
          have f3 := fvi hV hl 3
          have f6 := fvc hV hl 6
          have f7 := fvc hV hl 7
          have f8 := fvc hV hl 8
          rw [show vs = [gw vs 0, gw vs 1, gw vs 2, gw vs 3, gw vs 4, gw vs 5, gw vs 6, gw vs 7, gw vs 8] from (gw_eta hl).trans rfl]
          have ha0 := HA0.out
          subst ha0
          clear HA0 hV hYZ hZb hsz0 hrows hne oe1 oe3 oe5
          simp only [putAll, Act.put, List.setIfInBounds_toArray, List.set_cons_zero, List.set_cons_succ, f0, f3, f6, f7, f8]
          clear hl f0 f3 f6 f7 f8
          have hq := Hx50.out
          rw [HE2.out] at hq
          have HQ2 := Lib.hid hq
          clear hq
          go_wp2
          go_roundw
          case rel => exact ⟨k2 + 1, by go_num, by omega, by omega, (HQ2.out.widen (by intro b h1; omega) (Nat.le_refl _)), ((HKL2_0.out.mod Cx44.out (fun _ _ h => h)).mod Cx52.out (by intro k h1 h2; have hb := HBT.out k h1; omega)), ((HKL2_1.out.mod Cx44.out (fun _ _ h => h)).mod Cx52.out (by intro k h1 h2; have hb := HBT.out k h1; omega)), ((HKL2_2.out.mod Cx44.out (fun _ _ h => h)).mod Cx52.out (by intro k h1 h2; have hb := HBT.out k h1; omega)), ((HKL2_3.out.mod Cx44.out (fun h => h)).mod Cx52.out (by intro h2; omega)), ((HML2.out.trans Cx44.out (fun _ _ h => h.elim)).trans Cx52.out (by intro k h1 h2; omega))⟩
          case measure => simp [intOf]; omega
        · obtain rfl : k2 = x.os.length := by omega
          have hq := HAL2.out
          rw [List.take_length] at hq
          have HAF2 := Lib.hid hq
          clear hq
          rw [List.take_length]
          go_upto_region 13 with (fail)
          generalize ha0 : Act.mk _ _ = a0
          have oe1 : a0.eval (.tmp 1) = .pointer (some ⟨w.heap.size, 0, none⟩) := by rw [← ha0]; rfl
          have oe3 : a0.eval (.tmp 3) = .slice aol2 (((((encI x.ep ++ (encN x.tm ++ encI x.ps.length)) ++ (x.ps.map pmB).flatten) ++ encI x.os.length) ++ (x.os.map opB).flatten).length) capl2 := by rw [← ha0]; rfl
          have hsz0 : a0.tmps.size = 111 := by rw [← ha0]; rfl
          have HA0 := hid ha0
          clear ha0
          refine wp_region_Q1 111 hsz0 [56, 57, 58, 59, 60, 61, 3] (fun k => (New w1 wl2 k)) (fun k j => (k = 1 ∧ ((New w1 wl2 j)))) (fun _ _ h => h.2) [qi (.slice aol2 (((((encI x.ep ++ (encN x.tm ++ encI x.ps.length)) ++ (x.ps.map pmB).flatten) ++ encI x.os.length) ++ (x.os.map opB).flatten).length) capl2), qi (.pointer (some ⟨w.heap.size, 4, none⟩)), qi (.slice ao_sl_ts x.ts.length cap_sl_ts), qi (.int .i64 x.ts.length), qv 0, qv 1, qv 1] ⟨qi_stable, qi_stable, qi_stable, qi_stable, qv_stable, qv_stable, qv_stable, trivial⟩ [4, 5] ⟨?_, ?_, ?_, ?_, ?_, ?_, ?_, trivial⟩ ?_
          · exact stq (fun E => ex_move rfl ((E.pre 6 3 rfl (by kernel_rfl)).trans oe3))
          · exact stq (fun E => ex_field rfl Try.underlying60 rfl (by kernel_rfl) (E.v oe1))
          · exact stq (fun E => ex_load1 rfl Try.underlying58 rfl (E.d 1) (Cs.lit1 (HKL2_3.out.mod E.m (by intro h2; omega)) rfl))
          · exact stq (fun E => ex_lenS rfl (E.d 2) Try.underlying58)
          · exact stepq_chain rfl
          · exact stepq_chain rfl
          · refine stepq_env rfl rfl rfl fun _ _ _ _ _ _ _ _ _ hd _ _ => ?_
            have h5 := hd ⟨5, .data⟩ (by simp) rfl _ rfl
            exact qe_run rfl (wanted_none rfl) (ex_assign rfl rfl) QE.refl h5
          intro u13_0 hr
          have zu13_0 := hr.size
          have Cx53 := hid (hr.new (S := (fun k => (New w1 wl2 k))))
          have Hx54 := hid (HAF2.out.mod hr (by intro k h1 h2; omega))
          clear HAF2
          clear hr
          refine QChain.go fun Z act E => ?_
          refine qc_callF (args := #[.int .i64 (x.ts.length : Int)]) rfl (wanted_none rfl) rfl Try.func70 (args1 (E.d 3)) (RefInt_Q _ HI2.out _) ?_
          rintro e u13_1a ⟨v_a7, rfl, qa7, hm⟩
          obtain ⟨ao_a7, cap_a7, rfl⟩ := qa7.shape
          have zu13_1a := hm.size
          refine ⟨_, rfl, hm.mono (fun _ _ h => h.elim), (fun _ => rfl), ?_⟩
          intro u13_1 hr
          have zu13_1 := hr.size
          have Hx55 := hid ((qa7.widen (R' := (fun k => (New u13_0 u13_1a k))) (fun _ h => h) (Nat.le_refl _)).mod hr (by intro k h1 h2; omega))
          have hmr := Mod.after hm hr
          have Hx56 := hid (Hx54.out.mod hmr (by intro k h1 h2; omega))
          clear Hx54
          clear hmr
          have Cx57 := hid (Cx53.out.go hm hr)
          clear Cx53 hm hr Z act E qa7
          refine QChain.go fun Z act E => ?_
          refine qc_appR rfl (wanted_none rfl) rfl (E.d 0) (chv (v := .slice ao_a7 ((encI x.ts.length).length) cap_a7) (E.d 4)) Hx56.out Hx55.out.rd (by have := HL.out; simp only [listB, List.length_append] at this ⊢; omega) ?_
          intro ao24 cap24 u13_2a qjoin1 hm
          have zu13_2a := hm.size
          refine ⟨hm.mono (by intro k hk h; omega), (fun _ => rfl), ?_⟩
          intro u13_2 hr
          have zu13_2 := hr.size
          have Hx58 := hid ((qjoin1.widen (R' := (fun k => (New w1 wl2 k) ∨ (New u13_1 u13_2a k))) (fun _ h => h) (Nat.le_refl _)).mod hr (by intro k h1 h2; omega))
          have hmr := hm.two hr
          have Hx59 := hid (Hx55.out.mod hmr (by intro k h1 h2; omega))
          clear Hx55
          clear hmr
          have Cx60 := hid (Cx57.out.goM hm hr (fun _ _ h => h))
          clear Cx57 hm hr Z act E qjoin1 Hx56
          refine QChain.nil fun vs hl hzz hrows hne => ?_
          obtain ⟨Z, hYZ, hZb, hV⟩ := hzz
          have f0 := fvi hV hl 0
          have f3 := fvi hV hl 3
          have f4 := fvc hV hl 4
          have f5 := fvc hV hl 5
          have f6 := fvc hV hl 6
          rw [show vs = [gw vs 0, gw vs 1, gw vs 2, gw vs 3, gw vs 4, gw vs 5, gw vs 6] from (gw_eta hl).trans rfl]
          have ha0 := HA0.out
          subst ha0
          clear HA0 hV hYZ hZb hsz0 hrows hne oe1 oe3
          simp only [putAll, Act.put, List.setIfInBounds_toArray, List.set_cons_zero, List.set_cons_succ, f0, f3, f4, f5, f6]
          clear hl f0 f3 f4 f5 f6
          go_upto_region 14 with (fail)
          generalize ha0 : Act.mk _ _ = a0
          have oe1 : a0.eval (.tmp 1) = .pointer (some ⟨w.heap.size, 0, none⟩) := by rw [← ha0]; rfl
          have hsz0 : a0.tmps.size = 111 := by rw [← ha0]; rfl
          have HA0 := hid ha0
          clear ha0
          refine wp_region_Q0 111 hsz0 [62, 63, 64, 65] [qi (.pointer (some ⟨w.heap.size, 4, none⟩)), qi (.slice ao_sl_ts x.ts.length cap_sl_ts), qi (.int .i64 x.ts.length), qi (.int .i64 0)] ⟨qi_stable, qi_stable, qi_stable, qi_stable, trivial⟩ [] ⟨?_, ?_, ?_, ?_, trivial⟩ ?_
          · exact stq (fun E => ex_field rfl Try.underlying60 rfl (by kernel_rfl) (E.v oe1))
          · exact stq (fun E => ex_load1 rfl Try.underlying58 rfl (E.d 0) (Cs.lit1 ((HKL2_3.out.mod Cx60.out (by intro h2; omega)).mod E.m.old (by intro h2; omega)) rfl))
          · exact stq (fun E => ex_lenS rfl (E.d 1) Try.underlying58)
          · exact stq (fun E => ex_move rfl rfl)
          intro u14_0 hr
          have zu14_0 := hr.size
          have Cx61 := hid (hr.new (S := (fun _ => False)))
          clear hr
          refine QChain.nil fun vs hl hzz hrows hne => ?_
          obtain ⟨Z, hYZ, hZb, hV⟩ := hzz
          have f2 := fvi hV hl 2
          have f3 := fvi hV hl 3
          rw [show vs = [gw vs 0, gw vs 1, gw vs 2, gw vs 3] from (gw_eta hl).trans rfl]
          have ha0 := HA0.out
          subst ha0
          clear HA0 hV hYZ hZb hsz0 hrows hne oe1
          simp only [putAll, Act.put, List.setIfInBounds_toArray, List.set_cons_zero, List.set_cons_succ, f2, f3]
          clear hl f2 f3
          go_wp2
          go_loopw [3, 65] (fun ta ti wr => ∃ k : Nat, ti = .int .i64 (k : Int) ∧ k ≤ x.ts.length ∧ u14_0.heap.size ≤ wr.heap.size ∧ OwR (fun b => w1.heap.size ≤ b ∧ b < wr.heap.size) 900000 wr ta ((((((encI x.ep ++ (encN x.tm ++ encI x.ps.length)) ++ (x.ps.map pmB).flatten) ++ encI x.os.length) ++ (x.os.map opB).flatten) ++ encI x.ts.length) ++ ((x.ts.take k).map tbB).flatten) ∧ RdS PmR R2 wr (.slice ao_sl_ps x.ps.length cap_sl_ps) x.ps ∧ RdS OpR R2 wr (.slice ao_sl_os x.os.length cap_sl_os) x.os ∧ RdS TbR R2 wr (.slice ao_sl_ts x.ts.length cap_sl_ts) x.ts ∧ Cs wr (w.heap.size) (x.cells (.slice ao_sl_ps x.ps.length cap_sl_ps) (.slice ao_sl_os x.os.length cap_sl_os) (.slice ao_sl_ts x.ts.length cap_sl_ts) : List Value).toArray 60 ∧ Mod (fun _ => False) w wr) (fun _ ti _ => x.ts.length - (intOf ti).toNat)
          case atStart => exact ⟨0, rfl, Nat.zero_le _, Nat.le_refl _, by have hq := ((Hx58.out.mod Cx61.out (fun _ _ h => h)).widen (R' := (fun b => w1.heap.size ≤ b ∧ b < u14_0.heap.size)) (by intro k h1; omega) (Nat.le_refl _)); simpa only [List.take_zero, List.map_nil, List.flatten_nil, List.append_nil, List.append_assoc] using hq, ((HKL2_0.out.mod Cx60.out (by intro k h1 h2; have hb := HBT.out k h1; omega)).mod Cx61.out (fun _ _ h => h)), ((HKL2_1.out.mod Cx60.out (by intro k h1 h2; have hb := HBT.out k h1; omega)).mod Cx61.out (fun _ _ h => h)), ((HKL2_2.out.mod Cx60.out (by intro k h1 h2; have hb := HBT.out k h1; omega)).mod Cx61.out (fun _ _ h => h)), ((HKL2_3.out.mod Cx60.out (by intro h2; omega)).mod Cx61.out (fun h => h)), ((HML2.out.trans Cx60.out (by intro k h1 h2; omega)).trans Cx61.out (fun _ _ h => h.elim))⟩
          case round =>
            obtain ⟨k3, rfl, hk, hz, ha, hk_0, hk_1, hk_2, hk_3, hm⟩ := hrel
            obtain ⟨wl3, rfl⟩ : ∃ x, x = wr := ⟨_, rfl⟩
            obtain ⟨aol3, capl3, rfl⟩ := ha.shape
            have HAL3 := Lib.hid ha
            have HKL3_0 := Lib.hid hk_0
            have HKL3_1 := Lib.hid hk_1
            have HKL3_2 := Lib.hid hk_2
            have HKL3_3 := Lib.hid hk_3
            have HML3 := Lib.hid hm
            clear ha hm hk_0 hk_1 hk_2 hk_3 HKL2_0 HKL2_1 HKL2_2 HKL2_3 HML2 Hx58 Hx59
            by_cases hlt3 : k3 < x.ts.length
            · skip
              have hat := HKL3_2.out.at hlt3
              obtain ⟨g3, o3, cs3, eao, hrg, hrd, hcs⟩ := hat
              subst eao
              have hcl : cs3.length = 2 := TbR.len hrd
              have HCL3 := Lib.hid hcl
              have HAT3 := hid (show CellsAt R2 wl3 g3 (o3 + k3 * 2) cs3 from ⟨hrg, hcs⟩)
              have HRD3 := Lib.hid hrd
              clear hcl hcs hrd hrg
              obtain ⟨y3, hy3⟩ : ∃ y, y = x.ts[k3] := ⟨_, rfl⟩
              rw [← hy3] at HRD3
              have HE3 : Hid (((((((encI x.ep ++ (encN x.tm ++ encI x.ps.length)) ++ (x.ps.map pmB).flatten) ++ encI x.os.length) ++ (x.os.map opB).flatten) ++ encI x.ts.length) ++ ((x.ts.take k3).map tbB).flatten) ++ tbB x.ts[k3] = (((((encI x.ep ++ (encN x.tm ++ encI x.ps.length)) ++ (x.ps.map pmB).flatten) ++ encI x.os.length) ++ (x.os.map opB).flatten) ++ encI x.ts.length) ++ ((x.ts.take (k3 + 1)).map tbB).flatten) := hid (by rw [List.take_succ_eq_append_getElem hlt3, List.map_append, List.flatten_append]; simp [List.append_assoc])
              have HB3' := hid (show (((((((encI x.ep ++ (encN x.tm ++ encI x.ps.length)) ++ (x.ps.map pmB).flatten) ++ encI x.os.length) ++ (x.os.map opB).flatten) ++ encI x.ts.length) ++ ((x.ts.take k3).map tbB).flatten) ++ tbB x.ts[k3]).length ≤ 900000 by rw [HE3.out]; exact acc_len _ _ _ _ (by have := HL.out; simp only [listB, tbB, List.length_append] at this ⊢; omega))
              have HBE3 := hid (show (tbB x.ts[k3]).length ≤ 900000 by have := HB3'.out; simp only [List.length_append] at this ⊢; omega)
              go_upto_region 16 with (fail)
              generalize ha0 : Act.mk _ _ = a0
              have oe65 : a0.eval (.tmp 65) = .int .i64 ((k3 : Nat) : Int) := by rw [← ha0]; rfl
              have hsz0 : a0.tmps.size = 111 := by rw [← ha0]; rfl
              have HA0 := hid ha0
              clear ha0
              refine wp_region_Q0 111 hsz0 [67, 6] [qi (.int .i64 ((k3 : Nat) : Int)), qi (.int .i64 ((k3 : Nat) : Int))] ⟨qi_stable, qi_stable, trivial⟩ [] ⟨?_, ?_, trivial⟩ ?_
              · exact stq (fun E => ex_move rfl (E.v oe65))
              · exact stq (fun E => ex_assign rfl (E.d 0))
              intro u16_0 hr
              have zu16_0 := hr.size
              have Cx62 := hid (hr.new (S := (fun _ => False)))
              clear hr
              refine QChain.nil fun vs hl hzz hrows hne => ?_
              obtain ⟨Z, hYZ, hZb, hV⟩ := hzz
              have f0 := fvi hV hl 0
              have f1 := fvi hV hl 1
              rw [show vs = [gw vs 0, gw vs 1] from (gw_eta hl).trans rfl]
              have ha0 := HA0.out
              subst ha0
              clear HA0 hV hYZ hZb hsz0 hrows hne oe65
              simp only [putAll, Act.put, List.setIfInBounds_toArray, List.set_cons_zero, List.set_cons_succ, f0, f1]
              clear hl f0 f1
              rw [← hy3] at HE3 HB3' HBE3
              clear hy3
              obtain ⟨v_t, rfl, htk, hts⟩ := (HRD3.out.mod Cx62.out (fun _ _ h => h))
              obtain ⟨aot, cat, rfl⟩ := hts.shape
              have htb : y3.l.length ≤ maxLen := hts.bd
              rw [maxLen_val] at htb
              have HTI := hid (show I64 (y3.l.length : Int) by unfold I64; omega)
              have HTK := Lib.hid htk
              have HTS := Lib.hid hts
              clear hts htk HRD3
              go_upto_region 17 with (fail)
              generalize ha0 : Act.mk _ _ = a0
              have oe1 : a0.eval (.tmp 1) = .pointer (some ⟨w.heap.size, 0, none⟩) := by rw [← ha0]; rfl
              have oe3 : a0.eval (.tmp 3) = .slice aol3 (((((((encI x.ep ++ (encN x.tm ++ encI x.ps.length)) ++ (x.ps.map pmB).flatten) ++ encI x.os.length) ++ (x.os.map opB).flatten) ++ encI x.ts.length) ++ ((x.ts.take k3).map tbB).flatten).length) capl3 := by rw [← ha0]; rfl
              have oe6 : a0.eval (.tmp 6) = .int .i64 ((k3 : Nat) : Int) := by rw [← ha0]; rfl
              have hsz0 : a0.tmps.size = 111 := by rw [← ha0]; rfl
              have HA0 := hid ha0
              clear ha0
              refine wp_region_Q0 111 hsz0 [68, 69, 70, 71, 72, 73, 74, 75, 76, 77, 78, 79, 80, 81, 82, 83, 84, 85, 3] [qi (.slice aol3 (((((((encI x.ep ++ (encN x.tm ++ encI x.ps.length)) ++ (x.ps.map pmB).flatten) ++ encI x.os.length) ++ (x.os.map opB).flatten) ++ encI x.ts.length) ++ ((x.ts.take k3).map tbB).flatten).length) capl3), qi (.pointer (some ⟨w.heap.size, 4, none⟩)), qi (.slice (some ⟨g3, o3, none⟩) x.ts.length cap_sl_ts), qi (.int .i64 ((k3 : Nat) : Int)), qi (.pointer (some ⟨g3, o3 + k3 * 2, none⟩)), qi (.pointer (some ⟨g3, o3 + k3 * 2, none⟩)), qi (.int .i64 y3.ix), qv 0, qi (.pointer (some ⟨w.heap.size, 4, none⟩)), qi (.slice (some ⟨g3, o3, none⟩) x.ts.length cap_sl_ts), qi (.int .i64 ((k3 : Nat) : Int)), qi (.pointer (some ⟨g3, o3 + k3 * 2, none⟩)), qi (.pointer (some ⟨g3, o3 + k3 * 2 + 1, none⟩)), qi (.slice aot y3.l.length cat), qi (.int .i64 y3.l.length), qv 1, qv 2, qv 3, qv 3] ⟨qi_stable, qi_stable, qi_stable, qi_stable, qi_stable, qi_stable, qi_stable, qv_stable, qi_stable, qi_stable, qi_stable, qi_stable, qi_stable, qi_stable, qi_stable, qv_stable, qv_stable, qv_stable, qv_stable, trivial⟩ [7, 15, 16, 17] ⟨?_, ?_, ?_, ?_, ?_, ?_, ?_, ?_, ?_, ?_, ?_, ?_, ?_, ?_, ?_, ?_, ?_, ?_, ?_, trivial⟩ ?_
              · exact stq (fun E => ex_move rfl ((E.pre 18 3 rfl (by kernel_rfl)).trans oe3))
              · exact stq (fun E => ex_field rfl Try.underlying60 rfl (by kernel_rfl) (E.v oe1))
              · exact stq (fun E => ex_load1 rfl Try.underlying58 rfl (E.d 1) (Cs.lit1 ((HKL3_3.out.mod Cx62.out (fun h => h)).mod E.m.old (by intro h2; omega)) rfl))
              · exact stq (fun E => ex_move rfl (E.v oe6))
              · exact stq (fun E => ex_idxS (i := k3) (s := 2) rfl Try.underlying58 (by kernel_rfl) (E.d 2) (E.d 3) hlt3)
              · exact stq (fun E => ex_field rfl Try.underlying90 rfl (by kernel_rfl) (E.d 4))
              · exact stq (fun E => ex_load1 rfl Try.underlying3 rfl (E.d 5) ((((HAT3.out.mod Cx62.out (fun _ _ h => h)).mod E.m.old (by intro k h1 h2; have hb := HBT.out k h1; omega))).2 0 _ rfl))
              · exact stepq_chain rfl
              · exact stq (fun E => ex_field rfl Try.underlying60 rfl (by kernel_rfl) (E.v oe1))
              · exact stq (fun E => ex_load1 rfl Try.underlying58 rfl (E.d 8) (Cs.lit1 ((HKL3_3.out.mod Cx62.out (fun h => h)).mod E.m.old (by intro h2; omega)) rfl))
              · exact stq (fun E => ex_move rfl (E.v oe6))
              · exact stq (fun E => ex_idxS (i := k3) (s := 2) rfl Try.underlying58 (by kernel_rfl) (E.d 9) (E.d 10) hlt3)
              · exact stq (fun E => ex_field rfl Try.underlying90 rfl (by kernel_rfl) (E.d 11))
              · exact stq (fun E => ex_load1 rfl Try.underlying88 rfl (E.d 12) ((((HAT3.out.mod Cx62.out (fun _ _ h => h)).mod E.m.old (by intro k h1 h2; have hb := HBT.out k h1; omega))).2 1 _ rfl))
              · exact stq (fun E => ex_lenS rfl (E.d 13) Try.underlying88)
              · exact stepq_chain rfl
              · exact stepq_chain rfl
              · exact stepq_chain rfl
              · refine stepq_env rfl rfl rfl fun _ _ _ _ _ _ _ _ _ hd _ _ => ?_
                have h17 := hd ⟨17, .data⟩ (by simp) rfl _ rfl
                exact qe_run rfl (wanted_none rfl) (ex_assign rfl rfl) QE.refl h17
              intro u17_0 hr
              have zu17_0 := hr.size
              have Cx63 := hid (hr.new (S := (fun _ => False)))
              clear hr
              refine QChain.go fun Z act E => ?_
              refine qc_callF (args := #[.int .i64 y3.ix]) rfl (wanted_none rfl) rfl Try.func70 (args1 (E.d 6)) (RefInt_Q _ HTK.out _) ?_
              rintro e u17_1a ⟨v_a8, rfl, qa8, hm⟩
              obtain ⟨ao_a8, cap_a8, rfl⟩ := qa8.shape
              have zu17_1a := hm.size
              refine ⟨_, rfl, hm.mono (fun _ _ h => h.elim), (fun _ => rfl), ?_⟩
              intro u17_1 hr
              have zu17_1 := hr.size
              have Hx64 := hid ((qa8.widen (R' := (fun k => (New u17_0 u17_1a k))) (fun _ h => h) (Nat.le_refl _)).mod hr (by intro k h1 h2; omega))
              have Cx65 := hid (Cx63.out.go hm hr)
              clear Cx63 hm hr Z act E qa8
              refine QChain.go fun Z act E => ?_
              refine qc_callF (args := #[.int .i64 y3.l.length]) rfl (wanted_none rfl) rfl Try.func70 (args1 (E.d 14)) (RefInt_Q _ HTI.out _) ?_
              rintro e u17_2a ⟨v_a9, rfl, qa9, hm⟩
              obtain ⟨ao_a9, cap_a9, rfl⟩ := qa9.shape
              have zu17_2a := hm.size
              refine ⟨_, rfl, hm.mono (fun _ _ h => h.elim), (fun _ => rfl), ?_⟩
              intro u17_2 hr
              have zu17_2 := hr.size
              have Hx66 := hid ((qa9.widen (R' := (fun k => (New u17_1 u17_2a k))) (fun _ h => h) (Nat.le_refl _)).mod hr (by intro k h1 h2; omega))
              have hmr := Mod.after hm hr
              have Hx67 := hid (Hx64.out.mod hmr (by intro k h1 h2; omega))
              clear Hx64
              clear hmr
              have Cx68 := hid (Cx65.out.go hm hr)
              clear Cx65 hm hr Z act E qa9
              refine QChain.go fun Z act E => ?_
              have ea68 : act.eval (.tmp 68) = .slice aol3 (((((((encI x.ep ++ (encN x.tm ++ encI x.ps.length)) ++ (x.ps.map pmB).flatten) ++ encI x.os.length) ++ (x.os.map opB).flatten) ++ encI x.ts.length) ++ ((x.ts.take k3).map tbB).flatten).length) capl3 := (E.d 0)
              have ea75 : act.eval (.tmp 75) = .slice ao_a8 ((encI y3.ix).length) cap_a8 := (chv (v := .slice ao_a8 ((encI y3.ix).length) cap_a8) (E.d 7))
              have ea83 : act.eval (.tmp 83) = .slice ao_a9 ((encI y3.l.length).length) cap_a9 := (chv (v := .slice ao_a9 ((encI y3.l.length).length) cap_a9) (E.d 15))
              refine qc_rows rfl (wanted_none rfl) rfl Try.underlying144 (by decide) (C := #[.slice aol3 (((((((encI x.ep ++ (encN x.tm ++ encI x.ps.length)) ++ (x.ps.map pmB).flatten) ++ encI x.os.length) ++ (x.os.map opB).flatten) ++ encI x.ts.length) ++ ((x.ts.take k3).map tbB).flatten).length) capl3, .slice ao_a8 ((encI y3.ix).length) cap_a8, .slice ao_a9 ((encI y3.l.length).length) cap_a9]) (by simp only [List.map_toArray, List.map_cons, List.map_nil, ea68, ea75, ea83]; kernel_rfl) ?_
              intro u17_3a qrow16 hm
              have zl17_16 := qrow16.lt
              have zu17_3a := hm.size
              refine ⟨hm.mono (fun _ _ h => h.elim), (fun _ => rfl), ?_⟩
              intro u17_3 hr
              have zu17_3 := hr.size
              have Hx69 := hid (qrow16.mod hr (by intro h2; omega))
              have hmr := Mod.after hm hr
              have Hx70 := hid (Hx67.out.mod hmr (by intro k h1 h2; omega))
              have Hx71 := hid (Hx66.out.mod hmr (by intro k h1 h2; omega))
              clear Hx67 Hx66
              clear hmr
              have Cx72 := hid (Cx68.out.go hm hr)
              clear Cx68 hm hr Z act E qrow16 ea68 ea75 ea83
              refine QChain.go fun Z act E => ?_
              refine qc_callF (args := #[.slice (some ⟨u17_2.heap.size, 0, none⟩) 3 3]) rfl (wanted_none rfl) rfl Try.func68 (args1 (chv (v := .slice (some ⟨u17_2.heap.size, 0, none⟩) 3 3) (E.d 16))) (Join_Q (n := 3)  Hx69.out [(.slice aol3 (((((((encI x.ep ++ (encN x.tm ++ encI x.ps.length)) ++ (x.ps.map pmB).flatten) ++ encI x.os.length) ++ (x.os.map opB).flatten) ++ encI x.ts.length) ++ ((x.ts.take k3).map tbB).flatten).length) capl3, ((((((encI x.ep ++ (encN x.tm ++ encI x.ps.length)) ++ (x.ps.map pmB).flatten) ++ encI x.os.length) ++ (x.os.map opB).flatten) ++ encI x.ts.length) ++ ((x.ts.take k3).map tbB).flatten)), (.slice ao_a8 ((encI y3.ix).length) cap_a8, encI y3.ix), (.slice ao_a9 ((encI y3.l.length).length) cap_a9, encI y3.l.length)] rfl rfl (by intro p hp; simp only [List.mem_cons, List.not_mem_nil, or_false] at hp; rcases hp with rfl | rfl | rfl <;> first | exact ((HAL3.out.mod Cx62.out (fun _ _ h => h)).mod Cx72.out (fun _ _ h => h)).rd.1 | exact Hx70.out.rd.1 | exact Hx71.out.rd.1) (by simp) (show flat _ = (((((((encI x.ep ++ (encN x.tm ++ encI x.ps.length)) ++ (x.ps.map pmB).flatten) ++ encI x.os.length) ++ (x.os.map opB).flatten) ++ encI x.ts.length) ++ ((x.ts.take k3).map tbB).flatten)) ++ (encI y3.ix ++ encI y3.l.length) from by simp only [flat, List.map_cons, List.map_nil, List.flatten_cons, List.flatten_nil, List.append_nil]) (by have := HB3'.out; simp only [tbB, listB, List.length_append] at this ⊢; omega)) ?_
              rintro e u17_4a ⟨v_join2, rfl, qjoin2, hm⟩
              have zu17_4a := hm.size
              refine ⟨_, rfl, hm.mono (fun _ _ h => h.elim), (fun _ => rfl), ?_⟩
              intro u17_4 hr
              have zu17_4 := hr.size
              have Hx73 := hid ((qjoin2.widen (R' := (fun k => (New u17_3 u17_4a k))) (fun _ h => h) (Nat.le_refl _)).mod hr (by intro k h1 h2; omega))
              have hmr := Mod.after hm hr
              have Hx74 := hid (Hx70.out.mod hmr (by intro k h1 h2; omega))
              have Hx75 := hid (Hx71.out.mod hmr (by intro k h1 h2; omega))
              have Hx76 := hid (Hx69.out.mod hmr (by intro h2; omega))
              clear Hx70 Hx71 Hx69
              clear hmr
              have Cx77 := hid (Cx72.out.go hm hr)
              clear Cx72 hm hr Z act E qjoin2
              refine QChain.nil fun vs hl hzz hrows hne => ?_
              obtain ⟨Z, hYZ, hZb, hV⟩ := hzz
              have f0 := fvi hV hl 0
              have f3 := fvi hV hl 3
              have f7 := fvc hV hl 7
              have f10 := fvi hV hl 10
              have f14 := fvi hV hl 14
              have f15 := fvc hV hl 15
              have f16 := fvc hV hl 16
              have f17 := fvc hV hl 17
              have f18 := fvc hV hl 18
              rw [show vs = [gw vs 0, gw vs 1, gw vs 2, gw vs 3, gw vs 4, gw vs 5, gw vs 6, gw vs 7, gw vs 8, gw vs 9, gw vs 10, gw vs 11, gw vs 12, gw vs 13, gw vs 14, gw vs 15, gw vs 16, gw vs 17, gw vs 18] from (gw_eta hl).trans rfl]
              have ha0 := HA0.out
              subst ha0
              clear HA0 hV hYZ hZb hsz0 hrows hne oe1 oe3 oe6
              simp only [putAll, Act.put, List.setIfInBounds_toArray, List.set_cons_zero, List.set_cons_succ, f0, f3, f7, f10, f14, f15, f16, f17, f18]
              clear hl f0 f3 f7 f10 f14 f15 f16 f17 f18
              go_upto_region 18 with (fail)
              generalize ha0 : Act.mk _ _ = a0
              have oe1 : a0.eval (.tmp 1) = .pointer (some ⟨w.heap.size, 0, none⟩) := by rw [← ha0]; rfl
              have oe6 : a0.eval (.tmp 6) = .int .i64 ((k3 : Nat) : Int) := by rw [← ha0]; rfl
              have hsz0 : a0.tmps.size = 111 := by rw [← ha0]; rfl
              have HA0 := hid ha0
              clear ha0
              refine wp_region_Q0 111 hsz0 [86, 87, 88, 89, 90, 91, 92, 93] [qi (.pointer (some ⟨w.heap.size, 4, none⟩)), qi (.slice (some ⟨g3, o3, none⟩) x.ts.length cap_sl_ts), qi (.int .i64 ((k3 : Nat) : Int)), qi (.pointer (some ⟨g3, o3 + k3 * 2, none⟩)), qi (.pointer (some ⟨g3, o3 + k3 * 2 + 1, none⟩)), qi (.slice aot y3.l.length cat), qi (.int .i64 y3.l.length), qi (.int .i64 0)] ⟨qi_stable, qi_stable, qi_stable, qi_stable, qi_stable, qi_stable, qi_stable, qi_stable, trivial⟩ [] ⟨?_, ?_, ?_, ?_, ?_, ?_, ?_, ?_, trivial⟩ ?_
              · exact stq (fun E => ex_field rfl Try.underlying60 rfl (by kernel_rfl) (E.v oe1))
              · exact stq (fun E => ex_load1 rfl Try.underlying58 rfl (E.d 0) (Cs.lit1 (((HKL3_3.out.mod Cx62.out (fun h => h)).mod Cx77.out (fun h => h)).mod E.m.old (by intro h2; omega)) rfl))
              · exact stq (fun E => ex_move rfl (E.v oe6))
              · exact stq (fun E => ex_idxS (i := k3) (s := 2) rfl Try.underlying58 (by kernel_rfl) (E.d 1) (E.d 2) hlt3)
              · exact stq (fun E => ex_field rfl Try.underlying90 rfl (by kernel_rfl) (E.d 3))
              · exact stq (fun E => ex_load1 rfl Try.underlying88 rfl (E.d 4) (((((HAT3.out.mod Cx62.out (fun _ _ h => h)).mod Cx77.out (fun _ _ h => h)).mod E.m.old (by intro k h1 h2; have hb := HBT.out k h1; omega))).2 1 _ rfl))
              · exact stq (fun E => ex_lenS rfl (E.d 5) Try.underlying88)
              · exact stq (fun E => ex_move rfl rfl)
              intro u18_0 hr
              have zu18_0 := hr.size
              have Cx78 := hid (hr.new (S := (fun _ => False)))
              clear hr
              refine QChain.nil fun vs hl hzz hrows hne => ?_
              obtain ⟨Z, hYZ, hZb, hV⟩ := hzz
              have f2 := fvi hV hl 2
              have f6 := fvi hV hl 6
              have f7 := fvi hV hl 7
              rw [show vs = [gw vs 0, gw vs 1, gw vs 2, gw vs 3, gw vs 4, gw vs 5, gw vs 6, gw vs 7] from (gw_eta hl).trans rfl]
              have ha0 := HA0.out
              subst ha0
              clear HA0 hV hYZ hZb hsz0 hrows hne oe1 oe6
              simp only [putAll, Act.put, List.setIfInBounds_toArray, List.set_cons_zero, List.set_cons_succ, f2, f6, f7]
              clear hl f2 f6 f7
              go_wp2
              go_loopw [3, 93] (fun ta ti wr => ∃ k : Nat, ti = .int .i64 (k : Int) ∧ k ≤ y3.l.length ∧ u18_0.heap.size ≤ wr.heap.size ∧ OwR (fun b => w1.heap.size ≤ b ∧ b < wr.heap.size) 900000 wr ta ((((((((encI x.ep ++ (encN x.tm ++ encI x.ps.length)) ++ (x.ps.map pmB).flatten) ++ encI x.os.length) ++ (x.os.map opB).flatten) ++ encI x.ts.length) ++ ((x.ts.take k3).map tbB).flatten) ++ (encI y3.ix ++ encI y3.l.length)) ++ ((y3.l.take k).map dnB).flatten) ∧ RdS PmR R2 wr (.slice ao_sl_ps x.ps.length cap_sl_ps) x.ps ∧ RdS OpR R2 wr (.slice ao_sl_os x.os.length cap_sl_os) x.os ∧ RdS TbR R2 wr (.slice (some ⟨g3, o3, none⟩) x.ts.length cap_sl_ts) x.ts ∧ Cs wr (w.heap.size) (x.cells (.slice ao_sl_ps x.ps.length cap_sl_ps) (.slice ao_sl_os x.os.length cap_sl_os) (.slice (some ⟨g3, o3, none⟩) x.ts.length cap_sl_ts) : List Value).toArray 60 ∧ CellsAt R2 wr g3 (o3 + k3 * 2) (y3.cells (.slice aot y3.l.length cat)) ∧ RdS DnR R2 wr (.slice aot y3.l.length cat) y3.l ∧ Mod (fun _ => False) w wr) (fun _ ti _ => y3.l.length - (intOf ti).toNat)
              case atStart => exact ⟨0, rfl, Nat.zero_le _, Nat.le_refl _, by have hq := ((Hx73.out.mod Cx78.out (fun _ _ h => h)).widen (R' := (fun b => w1.heap.size ≤ b ∧ b < u18_0.heap.size)) (by intro k h1; omega) (Nat.le_refl _)); simpa only [List.take_zero, List.map_nil, List.flatten_nil, List.append_nil, List.append_assoc] using hq, (((HKL3_0.out.mod Cx62.out (fun _ _ h => h)).mod Cx77.out (fun _ _ h => h)).mod Cx78.out (fun _ _ h => h)), (((HKL3_1.out.mod Cx62.out (fun _ _ h => h)).mod Cx77.out (fun _ _ h => h)).mod Cx78.out (fun _ _ h => h)), (((HKL3_2.out.mod Cx62.out (fun _ _ h => h)).mod Cx77.out (fun _ _ h => h)).mod Cx78.out (fun _ _ h => h)), (((HKL3_3.out.mod Cx62.out (fun h => h)).mod Cx77.out (fun h => h)).mod Cx78.out (fun h => h)), (((HAT3.out.mod Cx62.out (fun _ _ h => h)).mod Cx77.out (fun _ _ h => h)).mod Cx78.out (fun _ _ h => h)), ((HTS.out.mod Cx77.out (fun _ _ h => h)).mod Cx78.out (fun _ _ h => h)), (((HML3.out.trans Cx62.out (fun _ _ h => h.elim)).trans Cx77.out (fun _ _ h => h.elim)).trans Cx78.out (fun _ _ h => h.elim))⟩
              case round =>
                obtain ⟨k4, rfl, hk, hz, ha, hk_0, hk_1, hk_2, hk_3, hk_4, hk_5, hm⟩ := hrel
                obtain ⟨wl4, rfl⟩ : ∃ x, x = wr := ⟨_, rfl⟩
                obtain ⟨aol4, capl4, rfl⟩ := ha.shape
                have HAL4 := Lib.hid ha
                have HKL4_0 := Lib.hid hk_0
                have HKL4_1 := Lib.hid hk_1
                have HKL4_2 := Lib.hid hk_2
                have HKL4_3 := Lib.hid hk_3
                have HKL4_4 := Lib.hid hk_4
                have HKL4_5 := Lib.hid hk_5
                have HML4 := Lib.hid hm
                clear ha hm hk_0 hk_1 hk_2 hk_3 hk_4 hk_5 HKL3_0 HKL3_1 HKL3_2 HKL3_3 HML3 HAL3 HAT3 HTS Hx74 Hx75 Hx76 Hx73
                by_cases hlt4 : k4 < y3.l.length
                · skip
                  have hat := HKL4_5.out.at hlt4
                  obtain ⟨g4, o4, cs4, eao, hrg, hrd, hcs⟩ := hat
                  subst eao
                  have hcl : cs4.length = 4 := DnR.len hrd
                  have HCL4 := Lib.hid hcl
                  have HAT4 := hid (show CellsAt R2 wl4 g4 (o4 + k4 * 4) cs4 from ⟨hrg, hcs⟩)
                  have HRD4 := Lib.hid hrd
                  clear hcl hcs hrd hrg
                  have HE4 : Hid (((((((((encI x.ep ++ (encN x.tm ++ encI x.ps.length)) ++ (x.ps.map pmB).flatten) ++ encI x.os.length) ++ (x.os.map opB).flatten) ++ encI x.ts.length) ++ ((x.ts.take k3).map tbB).flatten) ++ (encI y3.ix ++ encI y3.l.length)) ++ ((y3.l.take k4).map dnB).flatten) ++ dnB y3.l[k4] = (((((((encI x.ep ++ (encN x.tm ++ encI x.ps.length)) ++ (x.ps.map pmB).flatten) ++ encI x.os.length) ++ (x.os.map opB).flatten) ++ encI x.ts.length) ++ ((x.ts.take k3).map tbB).flatten) ++ (encI y3.ix ++ encI y3.l.length)) ++ ((y3.l.take (k4 + 1)).map dnB).flatten) := hid (by rw [List.take_succ_eq_append_getElem hlt4, List.map_append, List.flatten_append]; simp [List.append_assoc])
                  have HB4' := hid (show (((((((((encI x.ep ++ (encN x.tm ++ encI x.ps.length)) ++ (x.ps.map pmB).flatten) ++ encI x.os.length) ++ (x.os.map opB).flatten) ++ encI x.ts.length) ++ ((x.ts.take k3).map tbB).flatten) ++ (encI y3.ix ++ encI y3.l.length)) ++ ((y3.l.take k4).map dnB).flatten) ++ dnB y3.l[k4]).length ≤ 900000 by rw [HE4.out]; exact acc_len _ _ _ _ (by have := HB3'.out; simp only [listB, tbB, List.length_append] at this ⊢; omega))
                  have HBE4 := hid (show (dnB y3.l[k4]).length ≤ 900000 by have := HB4'.out; simp only [List.length_append] at this ⊢; omega)
                  go_upto_region 20 with (fail)
                  generalize ha0 : Act.mk _ _ = a0
                  have oe93 : a0.eval (.tmp 93) = .int .i64 ((k4 : Nat) : Int) := by rw [← ha0]; rfl
                  have hsz0 : a0.tmps.size = 111 := by rw [← ha0]; rfl
                  have HA0 := hid ha0
                  clear ha0
                  refine wp_region_Q0 111 hsz0 [95, 7] [qi (.int .i64 ((k4 : Nat) : Int)), qi (.int .i64 ((k4 : Nat) : Int))] ⟨qi_stable, qi_stable, trivial⟩ [] ⟨?_, ?_, trivial⟩ ?_
                  · exact stq (fun E => ex_move rfl (E.v oe93))
                  · exact stq (fun E => ex_assign rfl (E.d 0))
                  intro u20_0 hr
                  have zu20_0 := hr.size
                  have Cx79 := hid (hr.new (S := (fun _ => False)))
                  clear hr
                  refine QChain.nil fun vs hl hzz hrows hne => ?_
                  obtain ⟨Z, hYZ, hZb, hV⟩ := hzz
                  have f0 := fvi hV hl 0
                  have f1 := fvi hV hl 1
                  rw [show vs = [gw vs 0, gw vs 1] from (gw_eta hl).trans rfl]
                  have ha0 := HA0.out
                  subst ha0
                  clear HA0 hV hYZ hZb hsz0 hrows hne oe93
                  simp only [putAll, Act.put, List.setIfInBounds_toArray, List.set_cons_zero, List.set_cons_succ, f0, f1]
                  clear hl f0 f1
                  go_upto_region 21 with (fail)
                  generalize ha0 : Act.mk _ _ = a0
                  have oe1 : a0.eval (.tmp 1) = .pointer (some ⟨w.heap.size, 0, none⟩) := by rw [← ha0]; rfl
                  have oe3 : a0.eval (.tmp 3) = .slice aol4 (((((((((encI x.ep ++ (encN x.tm ++ encI x.ps.length)) ++ (x.ps.map pmB).flatten) ++ encI x.os.length) ++ (x.os.map opB).flatten) ++ encI x.ts.length) ++ ((x.ts.take k3).map tbB).flatten) ++ (encI y3.ix ++ encI y3.l.length)) ++ ((y3.l.take k4).map dnB).flatten).length) capl4 := by rw [← ha0]; rfl
                  have oe6 : a0.eval (.tmp 6) = .int .i64 ((k3 : Nat) : Int) := by rw [← ha0]; rfl
                  have oe7 : a0.eval (.tmp 7) = .int .i64 ((k4 : Nat) : Int) := by rw [← ha0]; rfl
                  have hsz0 : a0.tmps.size = 111 := by rw [← ha0]; rfl
                  have HA0 := hid ha0
                  clear ha0
                  refine wp_region_Q1 111 hsz0 [96, 97, 98, 99, 100, 101, 102, 103, 104, 105, 106, 107, 3] (fun k => (New w1 wl4 k)) (fun k j => (k = 1 ∧ ((New w1 wl4 j)))) (fun _ _ h => h.2) [qi (.slice aol4 (((((((((encI x.ep ++ (encN x.tm ++ encI x.ps.length)) ++ (x.ps.map pmB).flatten) ++ encI x.os.length) ++ (x.os.map opB).flatten) ++ encI x.ts.length) ++ ((x.ts.take k3).map tbB).flatten) ++ (encI y3.ix ++ encI y3.l.length)) ++ ((y3.l.take k4).map dnB).flatten).length) capl4), qi (.pointer (some ⟨w.heap.size, 4, none⟩)), qi (.slice (some ⟨g3, o3, none⟩) x.ts.length cap_sl_ts), qi (.int .i64 ((k3 : Nat) : Int)), qi (.pointer (some ⟨g3, o3 + k3 * 2, none⟩)), qi (.pointer (some ⟨g3, o3 + k3 * 2 + 1, none⟩)), qi (.slice (some ⟨g4, o4, none⟩) y3.l.length cat), qi (.int .i64 ((k4 : Nat) : Int)), qi (.pointer (some ⟨g4, o4 + k4 * 4, none⟩)), qi (.agg cs4.toArray), qv 0, qv 1, qv 1] ⟨qi_stable, qi_stable, qi_stable, qi_stable, qi_stable, qi_stable, qi_stable, qi_stable, qi_stable, qi_stable, qv_stable, qv_stable, qv_stable, trivial⟩ [10, 11] ⟨?_, ?_, ?_, ?_, ?_, ?_, ?_, ?_, ?_, ?_, ?_, ?_, ?_, trivial⟩ ?_
                  · exact stq (fun E => ex_move rfl ((E.pre 12 3 rfl (by kernel_rfl)).trans oe3))
                  · exact stq (fun E => ex_field rfl Try.underlying60 rfl (by kernel_rfl) (E.v oe1))
                  · exact stq (fun E => ex_load1 rfl Try.underlying58 rfl (E.d 1) (Cs.lit1 ((HKL4_3.out.mod Cx79.out (fun h => h)).mod E.m (by intro h2; omega)) rfl))
                  · exact stq (fun E => ex_move rfl (E.v oe6))
                  · exact stq (fun E => ex_idxS (i := k3) (s := 2) rfl Try.underlying58 (by kernel_rfl) (E.d 2) (E.d 3) hlt3)
                  · exact stq (fun E => ex_field rfl Try.underlying90 rfl (by kernel_rfl) (E.d 4))
                  · exact stq (fun E => ex_load1 rfl Try.underlying88 rfl (E.d 5) ((((HKL4_4.out.mod Cx79.out (fun _ _ h => h)).mod E.m (by intro k h1 h2; rcases h2 with ⟨h0, h2⟩ | h2 <;> (first | omega | (have hb := HBT.out k h1; omega))))).2 1 _ rfl))
                  · exact stq (fun E => ex_move rfl (E.v oe7))
                  · exact stq (fun E => ex_idxS (i := k4) (s := 4) rfl Try.underlying88 (by kernel_rfl) (E.d 6) (E.d 7) hlt4)
                  · exact stq (fun E => ex_loadA rfl Try.underlying34 rfl (off := o4 + k4 * 4) (cs := cs4) (by rw [HCL4.out]; kernel_rfl) (E.d 8) (fun j u hu => (((HAT4.out.mod Cx79.out (fun _ _ h => h)).mod E.m (by intro k h1 h2; rcases h2 with ⟨h0, h2⟩ | h2 <;> (first | omega | (have hb := HBT.out k h1; omega))))).2 j u hu))
                  · exact stepq_chain rfl
                  · exact stepq_chain rfl
                  · refine stepq_env rfl rfl rfl fun _ _ _ _ _ _ _ _ _ hd _ _ => ?_
                    have h11 := hd ⟨11, .data⟩ (by simp) rfl _ rfl
                    exact qe_run rfl (wanted_none rfl) (ex_assign rfl rfl) QE.refl h11
                  intro u21_0 hr
                  have zu21_0 := hr.size
                  have Cx80 := hid (hr.new (S := (fun k => (New w1 wl4 k))))
                  have Hx81 := hid ((HAL4.out.mod Cx79.out (fun _ _ h => h)).mod hr (by intro k h1 h2; omega))
                  clear HAL4
                  clear hr
                  refine QChain.go fun Z act E => ?_
                  refine qc_callF (args := #[.agg cs4.toArray]) rfl (wanted_none rfl) rfl Try.func77 (args1 (E.d 9)) (RefDn_Q _ _ (y3.l[k4]) _ ((HRD4.out.mod Cx79.out (fun _ _ h => h)).mod Cx80.out (by intro k h1 h2; have hb := HBT.out k h1; omega)) (by intro k h1; have hb := HBT.out k h1; omega) HBE4.out) ?_
                  rintro e u21_1a ⟨v_a10, rfl, qa10, hm⟩
                  obtain ⟨ao_a10, cap_a10, rfl⟩ := qa10.shape
                  have zu21_1a := hm.size
                  refine ⟨_, rfl, hm.mono (fun _ _ h => h.elim), (fun _ => rfl), ?_⟩
                  intro u21_1 hr
                  have zu21_1 := hr.size
                  have Hx82 := hid ((qa10.widen (R' := (fun k => (New u21_0 u21_1a k))) (fun _ h => h) (Nat.le_refl _)).mod hr (by intro k h1 h2; omega))
                  have hmr := Mod.after hm hr
                  have Hx83 := hid (Hx81.out.mod hmr (by intro k h1 h2; omega))
                  clear Hx81
                  clear hmr
                  have Cx84 := hid (Cx80.out.go hm hr)
                  clear Cx80 hm hr Z act E qa10
                  refine QChain.go fun Z act E => ?_
                  refine qc_appR rfl (wanted_none rfl) rfl (E.d 0) (chv (v := .slice ao_a10 ((dnB y3.l[k4]).length) cap_a10) (E.d 10)) Hx83.out Hx82.out.rd HB4'.out ?_
                  intro ao44 cap44 u21_2a qjoin2 hm
                  have zu21_2a := hm.size
                  refine ⟨hm.mono (by intro k hk h; omega), (fun _ => rfl), ?_⟩
                  intro u21_2 hr
                  have zu21_2 := hr.size
                  have Hx85 := hid ((qjoin2.widen (R' := (fun k => (New w1 wl4 k) ∨ (New u21_1 u21_2a k))) (fun _ h => h) (Nat.le_refl _)).mod hr (by intro k h1 h2; omega))
                  have hmr := hm.two hr
                  have Hx86 := hid (Hx82.out.mod hmr (by intro k h1 h2; omega))
                  clear Hx82
                  clear hmr
                  have Cx87 := hid (Cx84.out.goM hm hr (fun _ _ h => h))
                  clear Cx84 hm hr Z act E qjoin2 Hx83
                  refine QChain.nil fun vs hl hzz hrows hne => ?_
                  obtain ⟨Z, hYZ, hZb, hV⟩ := hzz
                  have f0 := fvi hV hl 0
                  have f3 := fvi hV hl 3
                  have f7 := fvi hV hl 7
                  have f10 := fvc hV hl 10
                  have f11 := fvc hV hl 11
                  have f12 := fvc hV hl 12
                  rw [show vs = [gw vs 0, gw vs 1, gw vs 2, gw vs 3, gw vs 4, gw vs 5, gw vs 6, gw vs 7, gw vs 8, gw vs 9, gw vs 10, gw vs 11, gw vs 12] from (gw_eta hl).trans rfl]
                  have ha0 := HA0.out
                  subst ha0
                  clear HA0 hV hYZ hZb hsz0 hrows hne oe1 oe3 oe6 oe7
                  simp only [putAll, Act.put, List.setIfInBounds_toArray, List.set_cons_zero, List.set_cons_succ, f0, f3, f7, f10, f11, f12]
                  clear hl f0 f3 f7 f10 f11 f12
                  have hq := Hx85.out
                  rw [HE4.out] at hq
                  have HQ4 := Lib.hid hq
                  clear hq
                  go_wp2
                  go_roundw
                  case rel => exact ⟨k4 + 1, by go_num, by omega, by omega, (HQ4.out.widen (by intro b h1; omega) (Nat.le_refl _)), ((HKL4_0.out.mod Cx79.out (fun _ _ h => h)).mod Cx87.out (by intro k h1 h2; have hb := HBT.out k h1; omega)), ((HKL4_1.out.mod Cx79.out (fun _ _ h => h)).mod Cx87.out (by intro k h1 h2; have hb := HBT.out k h1; omega)), ((HKL4_2.out.mod Cx79.out (fun _ _ h => h)).mod Cx87.out (by intro k h1 h2; have hb := HBT.out k h1; omega)), ((HKL4_3.out.mod Cx79.out (fun h => h)).mod Cx87.out (by intro h2; omega)), ((HKL4_4.out.mod Cx79.out (fun _ _ h => h)).mod Cx87.out (by intro k h1 h2; have hb := HBT.out k h1; omega)), ((HKL4_5.out.mod Cx79.out (fun _ _ h => h)).mod Cx87.out (by intro k h1 h2; have hb := HBT.out k h1; omega)), ((HML4.out.trans Cx79.out (fun _ _ h => h.elim)).trans Cx87.out (by intro k h1 h2; omega))⟩
                  case measure => simp [intOf]; omega
                · obtain rfl : k4 = y3.l.length := by omega
                  have hq := HAL4.out
                  rw [List.take_length] at hq
                  have HAF4 := Lib.hid hq
                  clear hq
                  rw [List.take_length]
                  have hq := HAF4.out
                  have hb : (((((((encI x.ep ++ (encN x.tm ++ encI x.ps.length)) ++ (x.ps.map pmB).flatten) ++ encI x.os.length) ++ (x.os.map opB).flatten) ++ encI x.ts.length) ++ ((x.ts.take k3).map tbB).flatten) ++ (encI y3.ix ++ encI y3.l.length)) ++ (y3.l.map dnB).flatten = ((((((encI x.ep ++ (encN x.tm ++ encI x.ps.length)) ++ (x.ps.map pmB).flatten) ++ encI x.os.length) ++ (x.os.map opB).flatten) ++ encI x.ts.length) ++ ((x.ts.take k3).map tbB).flatten) ++ tbB y3 := by simp only [tbB, listB, List.append_assoc]
                  rw [hb] at hq
                  have HQB := Lib.hid hq
                  clear hq
                  rw [hb, HE3.out]
                  have hq := HQB.out
                  rw [HE3.out] at hq
                  have HQ3 := Lib.hid hq
                  clear hq
                  go_wp2
                  go_roundw
                  case rel => exact ⟨k3 + 1, by go_num, by omega, by omega, (HQ3.out.widen (by intro b h1; omega) (Nat.le_refl _)), HKL4_0.out, HKL4_1.out, HKL4_2.out, HKL4_3.out, HML4.out⟩
                  case measure => simp [intOf]; omega
            · obtain rfl : k3 = x.ts.length := by omega
              have hq := HAL3.out
              rw [List.take_length] at hq
              have HAF3 := Lib.hid hq
              clear hq
              rw [List.take_length]
              go_wp2
              go_ret
              have hq := (HAF3.out.widen (R' := (fun k => New w wl3 k)) (by intro k h1; omega) (Nat.le_refl _))
              have hb : ((((((encI x.ep ++ (encN x.tm ++ encI x.ps.length)) ++ (x.ps.map pmB).flatten) ++ encI x.os.length) ++ (x.os.map opB).flatten) ++ encI x.ts.length) ++ (x.ts.map tbB).flatten) = baB x := by simp only [baB, listB, List.append_assoc]
              rw [hb] at hq
              try rw [hb]
              exact ⟨_, rfl, hq, HML3.out⟩
end Go.Proofs.Ytknpapcfhnhheaa

/- gavellaw02.wakes; bytes.Compare; sha.Less. -/
set_option maxRecDepth 100000
set_option linter.unusedVariables false
namespace Go.Proofs.Ytknpapcfhnhheaa
open Go Go.RowKit Go.Gv

end Go.Proofs.Ytknpapcfhnhheaa

/- gavelref01.turn; gavelref01.Sum: the same plain sum. -/
set_option maxRecDepth 100000
set_option linter.unusedVariables false
namespace Go.Proofs.Ytknpapcfhnhheaa
open Go Go.RowKit Go.Gv

end Go.Proofs.Ytknpapcfhnhheaa

/- As XVal3; besides: a slot that an operation reads ahead of the one that writes it. No program here. -/
set_option linter.unusedVariables false
namespace Go.Gv
open Go Go.RowKit

section
variable {P : Program} {ops : Array Oper} {Q : Exit → Act → World → Prop}
end
end Go.Gv

/- gavelref01.Sum: the same plain sum. -/
set_option maxRecDepth 100000
set_option linter.unusedVariables false
namespace Go.Proofs.Ytknpapcfhnhheaa
open Go Go.RowKit Go.Gv

structure RefO (w0 : World) (gk gh : Nat) (h : List Int) (w : World) : Prop where
  k2 : Cs w w0.heap.size ((List.replicate 32 0).map bv).toArray 25
  kk : Ws 171 w gk K256
  kh : Ws 170 w gh h
  m : Mod (fun _ => False) w0 w
theorem RefO.mod {S : Nat → Prop} {w0 w w' : World} {gk gh : Nat} {h : List Int} (o : RefO w0 gk gh h w) (hm : Mod S w w') (h1 : ¬ S w0.heap.size) (h2 : ¬ S gk) (h3 : ¬ S gh) (h4 : ∀ k, k < w0.heap.size → ¬ S k) : RefO w0 gk gh h w' :=
  ⟨o.k2.mod hm h1, o.kk.mod hm h2, o.kh.mod hm h3, o.m.trans hm (fun k hk hs => h4 k hk hs)⟩
theorem RefO.still {w0 w w' : World} {gk gh : Nat} {h : List Int} (o : RefO w0 gk gh h w) (hm : Mod (fun _ => False) w w') : RefO w0 gk gh h w' := o.mod hm (fun h => h) (fun h => h) (fun h => h) (fun _ _ h => h)
end Go.Proofs.Ytknpapcfhnhheaa

/- The reference's hash of a batch, text of a proposal. -/
set_option maxRecDepth 100000
set_option linter.unusedVariables false
namespace Go.Proofs.Ytknpapcfhnhheaa
open Go Go.RowKit Go.Gv

end Go.Proofs.Ytknpapcfhnhheaa

/- How long bytes are; lists of values. -/
set_option maxRecDepth 100000
set_option linter.unusedVariables false
namespace Go.Proofs.Ytknpapcfhnhheaa
open Go Go.RowKit Go.Gv


theorem RdS_mem {α : Type} {A : Rep α} {R : Nat → Prop} {w : World} {v : Value} {l : List α} (h : RdS A R w v l) : ∀ a ∈ l, ∃ cs, A.rd R w cs a := by
  obtain ⟨css, h1, h2, -⟩ := h
  intro a ha
  obtain ⟨i, hi, rfl⟩ := List.getElem_of_mem ha
  exact ⟨css[i], h2 i _ _ (List.getElem?_eq_getElem (by omega)) (List.getElem?_eq_getElem hi)⟩
theorem flatB_le {α : Type} (f : α → List Int) (N : Nat) : ∀ l : List α, (∀ a ∈ l, (f a).length ≤ N) → ((l.map f).flatten).length ≤ l.length * N
  | [], _ => by simp
  | a :: r, h => by
    have h1 := h a (by simp)
    have h2 := flatB_le f N r (fun b hb => h b (by simp [hb]))
    simp only [List.map_cons, List.flatten_cons, List.length_append, List.length_cons, Nat.add_mul]
    omega
theorem listB_len {α : Type} (f : α → List Int) {N M : Nat} {l : List α} (hl : l.length ≤ M) (hM : M ≤ 1000000) (h : ∀ a ∈ l, (f a).length ≤ N) : (listB f l).length ≤ 10 + M * N := by
  have h1 := flatB_le f N l h
  have h2 := encI_len0 (l.length : Int) (by unfold I64; omega)
  have h3 := Nat.mul_le_mul_right N hl
  simp only [listB, List.length_append]
  omega
theorem stB_len {x : St} (h : x.OK) : (stB x).length ≤ 92 := by
  have h1 := encI_len0 _ h.rp; have h2 := encI_len0 _ h.cl; have h3 := encI_len0 _ h.sq; have h4 := (encN_len10 h.tm).2; have h5 := encI_len0 _ h.sb; have h6 := encI_len0 _ h.mr; have h7 := h.h.1
  simp only [stB, nameB, sigB, List.length_append]; omega
theorem cmB_len {x : Cm} (h : x.OK) : (cmB x).length ≤ 82 := by
  obtain ⟨⟨a, b, c, d, e⟩, f⟩ := h
  have h1 := encI_len0 _ a; have h2 := encI_len0 _ b; have h3 := encI_len0 _ c; have h4 := encI_len0 _ d; have h5 := encI_len0 _ e; have h7 := f.1
  simp only [cmB, nameB, sigB, List.length_append]; omega
theorem ceB_len {R : Nat → Prop} {w : World} {cs : List Value} {x : Ce} (h : CeR.rd R w cs x) (hl : x.l.length ≤ 5) : (ceB x).length ≤ 552 := by
  obtain ⟨_, rfl, hok, hs⟩ := h
  have h1 := listB_len stB hl (by decide) (fun a ha => by obtain ⟨cs, e, hk⟩ := RdS_mem hs a ha; exact stB_len hk)
  have h2 := cmB_len hok
  simp only [ceB, List.length_append]; omega
theorem pmB_len {R : Nat → Prop} {w : World} {cs : List Value} {x : Pm} (h : PmR.rd R w cs x) (hl : ∃ y, x = cutPm y) : (pmB x).length ≤ 1800 := by
  obtain ⟨y, rfl⟩ := hl
  obtain ⟨_, rfl, ⟨a, b, c, d, e⟩, hs⟩ := h
  have h1 := encI_len0 _ a; have h2 := encI_len0 _ b; have h3 := (encN_len10 c).2; have h4 := encI_len0 _ d; have h5 := encI_len0 _ e
  have h6 := listB_len ceB (M := 3) (show (cutPm y).l.length ≤ 3 by simp [cutPm]; omega) (by decide) (fun z hz => by
    obtain ⟨cs, hc⟩ := RdS_mem hs z hz
    refine ceB_len hc ?_
    obtain ⟨u, -, rfl⟩ := List.mem_map.1 hz
    simp [cutCe]; omega)
  simp only [pmB, sigB, List.length_append]; omega
theorem opB_len {R : Nat → Prop} {w : World} {cs : List Value} {x : Op} (h : OpR.rd R w cs x) (hl : x.pl.length ≤ 260) : (opB x).length ≤ 312 := by
  obtain ⟨_, rfl, ⟨a, b⟩, hs⟩ := h
  have h1 := encI_len0 _ a; have h2 := (encN_len10 (n := x.pl.length) (by unfold U64; omega)).2; have h3 := b.1
  simp only [opB, List.length_append]; omega
theorem dnB_len {x : Dn} (h : x.OK) : (dnB x).length ≤ 40 := by
  have h1 := encI_len0 _ h.rp; have h2 := encI_len0 _ h.ix; have h5 := encI_len0 _ h.sb; have h6 := encI_len0 _ h.mr
  simp only [dnB, sigB, List.length_append]; omega
theorem tbB_len {R : Nat → Prop} {w : World} {cs : List Value} {x : Tb} (h : TbR.rd R w cs x) (hl : x.l.length ≤ 5) : (tbB x).length ≤ 220 := by
  obtain ⟨_, rfl, a, hs⟩ := h
  have h1 := encI_len0 _ a
  have h2 := listB_len dnB hl (by decide) (fun z hz => by obtain ⟨cs, e, hk⟩ := RdS_mem hs z hz; exact dnB_len hk)
  simp only [tbB, List.length_append]; omega
theorem baB_len {R : Nat → Prop} {w : World} {x : Ba} {vp vo vt : Value} (hok : x.OK) (hp : RdS PmR R w vp (cutBa x).ps) (ho : RdS OpR R w vo (cutBa x).os) (ht : RdS TbR R w vt (cutBa x).ts) : (baB (cutBa x)).length ≤ 100000 := by
  have h1 := encI_len0 _ hok.1; have h2 := (encN_len10 hok.2).2
  have h3 := listB_len pmB (M := 4) (l := (cutBa x).ps) (by simp [cutBa]; omega) (by decide) (fun z hz => by
    obtain ⟨cs, hc⟩ := RdS_mem hp z hz
    obtain ⟨u, -, rfl⟩ := List.mem_map.1 hz
    exact pmB_len hc ⟨u, rfl⟩)
  have h4 := listB_len opB (M := 4) (l := (cutBa x).os) (by simp [cutBa]; omega) (by decide) (fun z hz => by
    obtain ⟨cs, hc⟩ := RdS_mem ho z hz
    obtain ⟨u, -, rfl⟩ := List.mem_map.1 hz
    exact opB_len hc (by simp [cutOp]; omega))
  have h5 := listB_len tbB (M := 4) (l := (cutBa x).ts) (by simp [cutBa]; omega) (by decide) (fun z hz => by
    obtain ⟨cs, hc⟩ := RdS_mem ht z hz
    obtain ⟨u, -, rfl⟩ := List.mem_map.1 hz
    exact tbB_len hc (by simp [cutTb]; omega))
  have e1 : (encI (cutBa x).ep).length ≤ 10 := h1
  have e2 : (encN (cutBa x).tm).length ≤ 10 := h2
  simp only [baB, List.length_append]; omega
end Go.Proofs.Ytknpapcfhnhheaa

/- wire.ValidConf, N, Quorum, and the statement WireConfs. -/
set_option maxRecDepth 100000
namespace Go.Proofs.Ytknpapcfhnhheaa
open Go Go.RowKit Go.Gv

theorem N_any (F C : Int) (h : -1000 ≤ F ∧ F ≤ 1000) (w : World) : Calls Try.prog 48 #[.agg #[.int .i64 F, .int .i64 C]] w fun e w' => e = .returned (.int .i64 (3 * F + 1)) ∧ Mod (fun _ => False) w w' := by
  obtain ⟨h1, h2⟩ := h
  go_enter Try.func48, Try.ntmps48
  go_wp2
  go_ret
  exact ⟨rfl, (Mod.refl _ _).alloc _⟩
theorem Quorum_any (F C : Int) (h : -1000 ≤ F ∧ F ≤ 1000) (w : World) : Calls Try.prog 49 #[.agg #[.int .i64 F, .int .i64 C]] w fun e w' => e = .returned (.int .i64 (2 * F + 1)) ∧ Mod (fun _ => False) w w' := by
  obtain ⟨h1, h2⟩ := h
  go_enter Try.func49, Try.ntmps49
  go_wp2
  go_ret
  exact ⟨rfl, (Mod.refl _ _).alloc _⟩

theorem wakes05 (w : World) : Calls Try.prog 19 #[] w fun e w' => e = .returned (.bool true) ∧ Mod (fun _ => False) w w' := by
  go_enter Try.func19, Try.ntmps19
  go_wp2_with fail
  refine (N_any 1 0 (by omega) _).mono ?_
  rintro e w1 ⟨rfl, hm1⟩
  have HM1 := Lib.hid hm1
  clear hm1
  go_wp2_with fail
  refine (Quorum_any 1 0 (by omega) _).mono ?_
  rintro e w2 ⟨rfl, hm2⟩
  have HM2 := Lib.hid hm2
  clear hm2
  go_wp2
  go_ret
  exact ⟨rfl, HM1.out.trans HM2.out (fun _ _ h => h)⟩

end Go.Proofs.Ytknpapcfhnhheaa

/- WireGets: the walk. -/
set_option maxRecDepth 100000
set_option linter.unusedVariables false
namespace Go.Proofs.Ytknpapcfhnhheaa
open Go Go.RowKit Go.Gv


theorem Eqs.same {α : Type} {A : Rep α} {F : FuncId} (h : Eqs A F) {R R2 : Nat → Prop} {cs ds : List Value} {x : α} {w : World} (h1 : A.rd R w cs x) (h2 : A.rd R2 w ds x) (h3 : ∀ k, R k → k < w.heap.size) (h4 : ∀ k, R2 k → k < w.heap.size) :
    Calls Try.prog F #[.agg cs.toArray, .agg ds.toArray] w fun e w' => e = .returned (.bool true) ∧ Mod (fun _ => False) w w' :=
  (h R R2 cs ds x x w h1 h2 h3 h4).mono fun e w' ⟨he, hm⟩ => ⟨by rw [he, eqb_rfl], hm⟩
theorem cutCe_len {R : Nat → Prop} {w : World} {cs : List Value} {x : Ce} (h : CeR.rd R w cs (cutCe x)) : (ceB (cutCe x)).length ≤ 900000 := Nat.le_trans (ceB_len h (by simp [cutCe]; omega)) (by decide)
theorem cutPm_len {R : Nat → Prop} {w : World} {cs : List Value} {x : Pm} (h : PmR.rd R w cs (cutPm x)) : (pmB (cutPm x)).length ≤ 900000 := Nat.le_trans (pmB_len h ⟨x, rfl⟩) (by decide)
theorem cutBa_len {R : Nat → Prop} {w : World} {cs : List Value} {x : Ba} (h : BaR.rd R w cs (cutBa x)) : (baB (cutBa x)).length ≤ 900000 := by
  obtain ⟨_, _, _, rfl, hok, h1, h2, h3⟩ := h
  exact Nat.le_trans (baB_len (x := x) hok h1 h2 h3) (by decide)
theorem RrR.box {T : TypeId} {R : Nat → Prop} {N g : Nat} {w : World} {v : Value} {bs : List Int} (hc : Cs w g #[v, .bool false] T) (h : RdR R N w v bs) (hg : R g) (hne : 0 < bs.length → ∀ k, v.ownBlock = some k → k ≠ g) : RrR T R w g (some bs) :=
  ⟨v, ⟨hc, h.1, fun h0 k hk e => hne h0 k hk e⟩, hg, fun h0 k hk => h.2.1 h0 k hk⟩
theorem RrR.b0 {T : TypeId} {R : Nat → Prop} {w : World} {r : Nat} {s : RSt} (h : RrR T R w r s) : ∃ ao cap, w.cell? ⟨r, 0, none⟩ = some (.slice ao (s.getD []).length cap) := by
  obtain ⟨v, h1, -⟩ := h
  obtain ⟨ao, cap, rfl, -⟩ := h1.2.1.shape
  exact ⟨ao, cap, (h1.1.cell 0).trans rfl⟩
theorem okbad (s : RSt) : (!(s.isSome == s.isNone)) = true := by cases s <;> rfl
theorem RdR_300 {R : Nat → Prop} {N : Nat} {w : World} {v : Value} {bs : List Int} (h : RdR R N w v (bs.take 300)) : RdR R 900000 w v (bs.take 300) := ⟨h.1, h.2.1, by simp; omega⟩
set_option maxHeartbeats 8000000 in
theorem LGets_any (R2 : Nat → Prop) (x : Ce) (p : Pm) (b : Ba) (cx cp cb : List Value) (vr : Value) (raw : List Int) (N : Nat) (what how at_ c : Int) (w : World) (hx : CeR.rd R2 w cx x) (hp : PmR.rd R2 w cp p) (hb : BaR.rd R2 w cb b) (hraw : RdR R2 N w vr raw) (hwhat : I64 what) (hhow : I64 how) (hat : I64 at_) (hc : 0 ≤ c ∧ c < 256) (hB2 : ∀ k, R2 k → k < w.heap.size) :
    Calls Try.prog 4 #[.agg cx.toArray, .agg cp.toArray, .agg cb.toArray, vr, .int .i64 what, .int .i64 how, .int .i64 at_, .int .u8 c] w fun e w' => e = .returned (.bool true) ∧ Mod (fun _ => False) w w' := by
  have Hx := Lib.hid hx
  have Hp := Lib.hid hp
  have Hb := Lib.hid hb
  have HCx := hid (CeR.len hx)
  have HCp := hid (PmR.len hp)
  have HCb := hid (BaR.len hb)
  have HW := Lib.hid hraw
  obtain ⟨aor, capr, rfl⟩ := hraw.shape
  have HBT := Lib.hid hB2
  have HI := Lib.hid hwhat
  have HH := Lib.hid hhow
  have HA := Lib.hid hat
  have HCC := Lib.hid hc
  clear hx hp hb hraw hB2 hwhat hhow hat hc
  go_enter Try.func4, Try.ntmps4
  go_upto_region 1 with (fail)
  obtain ⟨w1, hw1⟩ : ∃ zz, zz = (((w.alloc (.cells (cx : List Value).toArray 52)).alloc (.cells (cp : List Value).toArray 55)).alloc (.cells (cb : List Value).toArray 60)) := ⟨_, rfl⟩
  change Code.wp _ _ _ _ (((w.alloc (.cells (cx : List Value).toArray 52)).alloc (.cells (cp : List Value).toArray 55)).alloc (.cells (cb : List Value).toArray 60))
  rw [← hw1]
  have HB8 := hid (show Cs w1 (w.heap.size) (cx : List Value).toArray 52 by rw [hw1]; exact ((Cs.new _ _ _).alloc _).alloc _)
  have HB9 := hid (show Cs w1 (w.heap.size + 1) (cp : List Value).toArray 55 by rw [hw1]; exact (Cs_newN _ _ _ (by simp)).alloc _)
  have HB10 := hid (show Cs w1 (w.heap.size + 2) (cb : List Value).toArray 60 by rw [hw1]; exact Cs_newN _ _ _ (by simp))
  have hm : Mod (fun _ => False) w w1 := by rw [hw1]; exact (((Mod.refl _ _).alloc _).alloc _).alloc _
  have HM0 := hid (show Mod (fun _ => False) w w1 from hm.mono (fun _ _ h => h.elim))
  have hs1 : w1.heap.size = w.heap.size + 3 := by rw [hw1]; simp
  have Hx1 := hid (Hx.out.mod hm (fun _ _ h => h))
  clear Hx
  have Hx2 := hid (Hp.out.mod hm (fun _ _ h => h))
  clear Hp
  have Hx3 := hid (Hb.out.mod hm (fun _ _ h => h))
  clear Hb
  have Hx4 := hid (HW.out.mod hm (fun _ _ h => h))
  clear HW
  clear hw1 hm
  go_upto_region 1 with (fail)
  generalize ha0 : Act.mk _ _ = a0
  have hsz0 : a0.tmps.size = 156 := by rw [← ha0]; rfl
  have HA0 := hid ha0
  clear ha0
  refine wp_region_S 156 hsz0 [17] [0] ?_
  refine QSeq.pure rfl (.slice none 0 0) (fun E => ex_assign rfl rfl) ?_
  refine QSeq.nil (t' := [_]) rfl ?_
  have ha0 := HA0.out
  subst ha0
  clear HA0 hsz0
  simp only [putAll, Act.put, List.setIfInBounds_toArray, List.set_cons_zero, List.set_cons_succ]
  go_upto_region 2 with (fail)
  generalize ha0 : Act.mk _ _ = a0
  have oe4 : a0.eval (.tmp 4) = .int .i64 what := by rw [← ha0]; rfl
  have hsz0 : a0.tmps.size = 156 := by rw [← ha0]; rfl
  have HA0 := hid ha0
  clear ha0
  refine wp_region_S 156 hsz0 [24, 25] [0, 1] ?_
  refine QSeq.pure rfl (.int .i64 what) (fun E => ex_move rfl (E.v oe4)) ?_
  refine QSeq.go fun act E => ?_
  refine qc_callF (args := #[.int .i64 what, .int .i64 4]) rfl (wanted_none rfl) rfl Try.func13 (args2 (E.d 0 0) rfl) (Within_any what 4 (by decide) (by decide) HI.out _) ?_
  rintro e w2 ⟨rfl, hw2⟩
  obtain rfl : w1 = w2 := by first | exact hw2 | exact hw2.symm
  refine ⟨_, rfl, ?_⟩
  clear act E
  refine QSeq.nil (t' := [_, _]) rfl ?_
  have ha0 := HA0.out
  subst ha0
  clear HA0 hsz0 oe4
  simp only [putAll, Act.put, List.setIfInBounds_toArray, List.set_cons_zero, List.set_cons_succ]
  go_upto_block 0 with (fail)
  go_cut [17] from 26 (fun t17 w' => ∃ bs : List Int, RdR (fun k => R2 k ∨ (w1.heap.size ≤ k ∧ k < w'.heap.size)) 900000 w' t17 bs ∧ Mod (fun _ => False) w1 w')
  case first =>
    have HMM := hid (Mod.refl (fun _ => False) w1)
    by_cases h0 : within what 4 = 0
    · have K0 := Lib.hid h0
      clear h0
      go_upto_region 4 with (fail)
      generalize ha0 : Act.mk _ _ = a0
      have oe25 : a0.eval (.tmp 25) = .int .i64 (within what 4) := by rw [← ha0]; rfl
      have hsz0 : a0.tmps.size = 156 := by rw [← ha0]; rfl
      have HA0 := hid ha0
      clear ha0
      refine wp_region_S 156 hsz0 [29, 28] [0, 1] ?_
      refine QSeq.pure rfl (.bool true) (fun E => ex_binE rfl (E.v oe25) rfl (guard_ints _ _ _ _ _ _) (run_eql_i _ _ _ Try.underlying3) (congrArg Value.bool (eq_tt K0.out))) ?_
      refine QSeq.pure rfl (.bool true) (fun E => ex_assign rfl (E.d 0 0)) ?_
      refine QSeq.nil (t' := [_, _]) rfl ?_
      have ha0 := HA0.out
      subst ha0
      clear HA0 hsz0 oe25
      simp only [putAll, Act.put, List.setIfInBounds_toArray, List.set_cons_zero, List.set_cons_succ]
      go_upto_region 5 with (fail)
      generalize ha0 : Act.mk _ _ = a0
      have oe8 : a0.eval (.tmp 8) = .pointer (some ⟨w.heap.size, 0, none⟩) := by rw [← ha0]; rfl
      have hsz0 : a0.tmps.size = 156 := by rw [← ha0]; rfl
      have HA0 := hid ha0
      clear ha0
      refine wp_region_S 156 hsz0 [30, 31, 32, 17] [0, 1, 2, 3] ?_
      refine QSeq.pure rfl (.agg cx.toArray) (fun E => ex_loadA rfl Try.underlying52 rfl (off := 0) (cs := cx) (by rw [HCx.out]; kernel_rfl) (E.v oe8) (Cs.whole HB8.out)) ?_
      refine QSeq.go fun act E => ?_
      refine qc_callF (args := #[.agg cx.toArray]) rfl (wanted_none rfl) rfl Try.func21 (args1 (E.d 0 0)) (LCert_c _ x _ _ Hx1.out (by intro k h1; have hb := HBT.out k h1; omega)) ?_
      rintro e u5_1 ⟨cs1, rfl, qtx, hm⟩
      have HLX := hid (cutCe_len qtx)
      refine ⟨_, rfl, ?_⟩
      have Hx5 := hid (qtx.widen (R' := (fun k => (R2 k) ∨ (New w1 u5_1 k))) (fun _ h => h))
      have zu5_1 := hm.size
      have Cx6 := hid (show Mod (fun _ => False) w1 u5_1 from hm)
      clear hm
      clear act E qtx Hx1
      refine QSeq.go fun act E => ?_
      refine qc_callF (args := #[.agg cs1.toArray]) rfl (wanted_none rfl) rfl Try.func20 (args1 (E.d 1 0)) (RefCe_Q _ _ (cutCe x) _ Hx5.out (by intro k h1; rcases h1 with h1 | h1 <;> first | omega | (have hb := HBT.out k h1; omega)) HLX.out) ?_
      rintro e u5_2 ⟨v1, rfl, qout, hm⟩
      refine ⟨_, rfl, ?_⟩
      have Hx7 := hid (qout.widen (R' := (fun k => (New u5_1 u5_2 k))) (fun _ h => h) (Nat.le_refl _))
      have zu5_2 := hm.size
      have HMu5_2 := hid hm
      have Cx8 := hid (Cx6.out.goE hm)
      clear hm Cx6
      clear act E qout
      refine QSeq.pure rfl (v1) (fun E => ex_assign rfl (E.d 2 0)) ?_
      have Hx9 := hid (Hx5.out.mod HMu5_2.out (fun _ _ h => h))
      clear Hx5 HMu5_2
      refine QSeq.nil (t' := [_, _, _, _]) rfl ?_
      have ha0 := HA0.out
      subst ha0
      clear HA0 hsz0 oe8
      simp only [putAll, Act.put, List.setIfInBounds_toArray, List.set_cons_zero, List.set_cons_succ]
      go_wp2_with fail
      go_meet
      case rel => exact ⟨ceB (cutCe x), (Hx7.out.rd.widen (by intro k h1; right; omega) (Nat.le_refl _)), (HMM.out.trans Cx8.out (fun _ _ h => h.elim))⟩
    · have K0 := Lib.hid h0
      clear h0
      go_upto_region 4 with (fail)
      generalize ha0 : Act.mk _ _ = a0
      have oe25 : a0.eval (.tmp 25) = .int .i64 (within what 4) := by rw [← ha0]; rfl
      have hsz0 : a0.tmps.size = 156 := by rw [← ha0]; rfl
      have HA0 := hid ha0
      clear ha0
      refine wp_region_S 156 hsz0 [29, 28] [0, 1] ?_
      refine QSeq.pure rfl (.bool false) (fun E => ex_binE rfl (E.v oe25) rfl (guard_ints _ _ _ _ _ _) (run_eql_i _ _ _ Try.underlying3) (congrArg Value.bool (eq_ff K0.out))) ?_
      refine QSeq.pure rfl (.bool false) (fun E => ex_assign rfl (E.d 0 0)) ?_
      refine QSeq.nil (t' := [_, _]) rfl ?_
      have ha0 := HA0.out
      subst ha0
      clear HA0 hsz0 oe25
      simp only [putAll, Act.put, List.setIfInBounds_toArray, List.set_cons_zero, List.set_cons_succ]
      by_cases h1 : within what 4 = 1
      · have K1 := Lib.hid h1
        clear h1
        go_upto_region 6 with (fail)
        generalize ha0 : Act.mk _ _ = a0
        have oe25 : a0.eval (.tmp 25) = .int .i64 (within what 4) := by rw [← ha0]; rfl
        have hsz0 : a0.tmps.size = 156 := by rw [← ha0]; rfl
        have HA0 := hid ha0
        clear ha0
        refine wp_region_S 156 hsz0 [34, 33] [0, 1] ?_
        refine QSeq.pure rfl (.bool true) (fun E => ex_binE rfl (E.v oe25) rfl (guard_ints _ _ _ _ _ _) (run_eql_i _ _ _ Try.underlying3) (congrArg Value.bool (eq_tt K1.out))) ?_
        refine QSeq.pure rfl (.bool true) (fun E => ex_assign rfl (E.d 0 0)) ?_
        refine QSeq.nil (t' := [_, _]) rfl ?_
        have ha0 := HA0.out
        subst ha0
        clear HA0 hsz0 oe25
        simp only [putAll, Act.put, List.setIfInBounds_toArray, List.set_cons_zero, List.set_cons_succ]
        go_upto_region 7 with (fail)
        generalize ha0 : Act.mk _ _ = a0
        have oe9 : a0.eval (.tmp 9) = .pointer (some ⟨w.heap.size + 1, 0, none⟩) := by rw [← ha0]; rfl
        have hsz0 : a0.tmps.size = 156 := by rw [← ha0]; rfl
        have HA0 := hid ha0
        clear ha0
        refine wp_region_S 156 hsz0 [35, 36, 37, 17] [0, 1, 2, 3] ?_
        refine QSeq.pure rfl (.agg cp.toArray) (fun E => ex_loadA rfl Try.underlying55 rfl (off := 0) (cs := cp) (by rw [HCp.out]; kernel_rfl) (E.v oe9) (Cs.whole HB9.out)) ?_
        refine QSeq.go fun act E => ?_
        refine qc_callF (args := #[.agg cp.toArray]) rfl (wanted_none rfl) rfl Try.func23 (args1 (E.d 0 0)) (LPromise_c _ p _ _ Hx2.out (by intro k h1; have hb := HBT.out k h1; omega)) ?_
        rintro e u7_1 ⟨cs1, rfl, qtp, hm⟩
        have HLX := hid (cutPm_len qtp)
        refine ⟨_, rfl, ?_⟩
        have Hx10 := hid (qtp.widen (R' := (fun k => (R2 k) ∨ (New w1 u7_1 k))) (fun _ h => h))
        have zu7_1 := hm.size
        have Cx11 := hid (show Mod (fun _ => False) w1 u7_1 from hm)
        clear hm
        clear act E qtp Hx2
        refine QSeq.go fun act E => ?_
        refine qc_callF (args := #[.agg cs1.toArray]) rfl (wanted_none rfl) rfl Try.func22 (args1 (E.d 1 0)) (RefPm_Q _ _ (cutPm p) _ Hx10.out (by intro k h1; rcases h1 with h1 | h1 <;> first | omega | (have hb := HBT.out k h1; omega)) HLX.out) ?_
        rintro e u7_2 ⟨v1, rfl, qout, hm⟩
        refine ⟨_, rfl, ?_⟩
        have Hx12 := hid (qout.widen (R' := (fun k => (New u7_1 u7_2 k))) (fun _ h => h) (Nat.le_refl _))
        have zu7_2 := hm.size
        have HMu7_2 := hid hm
        have Cx13 := hid (Cx11.out.goE hm)
        clear hm Cx11
        clear act E qout
        refine QSeq.pure rfl (v1) (fun E => ex_assign rfl (E.d 2 0)) ?_
        have Hx14 := hid (Hx10.out.mod HMu7_2.out (fun _ _ h => h))
        clear Hx10 HMu7_2
        refine QSeq.nil (t' := [_, _, _, _]) rfl ?_
        have ha0 := HA0.out
        subst ha0
        clear HA0 hsz0 oe9
        simp only [putAll, Act.put, List.setIfInBounds_toArray, List.set_cons_zero, List.set_cons_succ]
        go_wp2_with fail
        go_meet
        case rel => exact ⟨pmB (cutPm p), (Hx12.out.rd.widen (by intro k h1; right; omega) (Nat.le_refl _)), (HMM.out.trans Cx13.out (fun _ _ h => h.elim))⟩
      · have K1 := Lib.hid h1
        clear h1
        go_upto_region 6 with (fail)
        generalize ha0 : Act.mk _ _ = a0
        have oe25 : a0.eval (.tmp 25) = .int .i64 (within what 4) := by rw [← ha0]; rfl
        have hsz0 : a0.tmps.size = 156 := by rw [← ha0]; rfl
        have HA0 := hid ha0
        clear ha0
        refine wp_region_S 156 hsz0 [34, 33] [0, 1] ?_
        refine QSeq.pure rfl (.bool false) (fun E => ex_binE rfl (E.v oe25) rfl (guard_ints _ _ _ _ _ _) (run_eql_i _ _ _ Try.underlying3) (congrArg Value.bool (eq_ff K1.out))) ?_
        refine QSeq.pure rfl (.bool false) (fun E => ex_assign rfl (E.d 0 0)) ?_
        refine QSeq.nil (t' := [_, _]) rfl ?_
        have ha0 := HA0.out
        subst ha0
        clear HA0 hsz0 oe25
        simp only [putAll, Act.put, List.setIfInBounds_toArray, List.set_cons_zero, List.set_cons_succ]
        by_cases h2 : within what 4 = 2
        · have K2 := Lib.hid h2
          clear h2
          go_upto_region 8 with (fail)
          generalize ha0 : Act.mk _ _ = a0
          have oe25 : a0.eval (.tmp 25) = .int .i64 (within what 4) := by rw [← ha0]; rfl
          have hsz0 : a0.tmps.size = 156 := by rw [← ha0]; rfl
          have HA0 := hid ha0
          clear ha0
          refine wp_region_S 156 hsz0 [39, 38] [0, 1] ?_
          refine QSeq.pure rfl (.bool true) (fun E => ex_binE rfl (E.v oe25) rfl (guard_ints _ _ _ _ _ _) (run_eql_i _ _ _ Try.underlying3) (congrArg Value.bool (eq_tt K2.out))) ?_
          refine QSeq.pure rfl (.bool true) (fun E => ex_assign rfl (E.d 0 0)) ?_
          refine QSeq.nil (t' := [_, _]) rfl ?_
          have ha0 := HA0.out
          subst ha0
          clear HA0 hsz0 oe25
          simp only [putAll, Act.put, List.setIfInBounds_toArray, List.set_cons_zero, List.set_cons_succ]
          go_upto_region 9 with (fail)
          generalize ha0 : Act.mk _ _ = a0
          have oe10 : a0.eval (.tmp 10) = .pointer (some ⟨w.heap.size + 2, 0, none⟩) := by rw [← ha0]; rfl
          have hsz0 : a0.tmps.size = 156 := by rw [← ha0]; rfl
          have HA0 := hid ha0
          clear ha0
          refine wp_region_S 156 hsz0 [40, 41, 42, 17] [0, 1, 2, 3] ?_
          refine QSeq.pure rfl (.agg cb.toArray) (fun E => ex_loadA rfl Try.underlying60 rfl (off := 0) (cs := cb) (by rw [HCb.out]; kernel_rfl) (E.v oe10) (Cs.whole HB10.out)) ?_
          refine QSeq.go fun act E => ?_
          refine qc_callF (args := #[.agg cb.toArray]) rfl (wanted_none rfl) rfl Try.func25 (args1 (E.d 0 0)) (LBatch_c _ b _ _ Hx3.out (by intro k h1; have hb := HBT.out k h1; omega)) ?_
          rintro e u9_1 ⟨cs1, rfl, qtb, hm⟩
          have HLX := hid (cutBa_len qtb)
          refine ⟨_, rfl, ?_⟩
          have Hx15 := hid (qtb.widen (R' := (fun k => (R2 k) ∨ (New w1 u9_1 k))) (fun _ h => h))
          have zu9_1 := hm.size
          have Cx16 := hid (show Mod (fun _ => False) w1 u9_1 from hm)
          clear hm
          clear act E qtb Hx3
          refine QSeq.go fun act E => ?_
          refine qc_callF (args := #[.agg cs1.toArray]) rfl (wanted_none rfl) rfl Try.func24 (args1 (E.d 1 0)) (RefBa_Q _ _ (cutBa b) _ Hx15.out (by intro k h1; rcases h1 with h1 | h1 <;> first | omega | (have hb := HBT.out k h1; omega)) HLX.out) ?_
          rintro e u9_2 ⟨v1, rfl, qout, hm⟩
          refine ⟨_, rfl, ?_⟩
          have Hx17 := hid (qout.widen (R' := (fun k => (New u9_1 u9_2 k))) (fun _ h => h) (Nat.le_refl _))
          have zu9_2 := hm.size
          have HMu9_2 := hid hm
          have Cx18 := hid (Cx16.out.goE hm)
          clear hm Cx16
          clear act E qout
          refine QSeq.pure rfl (v1) (fun E => ex_assign rfl (E.d 2 0)) ?_
          have Hx19 := hid (Hx15.out.mod HMu9_2.out (fun _ _ h => h))
          clear Hx15 HMu9_2
          refine QSeq.nil (t' := [_, _, _, _]) rfl ?_
          have ha0 := HA0.out
          subst ha0
          clear HA0 hsz0 oe10
          simp only [putAll, Act.put, List.setIfInBounds_toArray, List.set_cons_zero, List.set_cons_succ]
          go_wp2_with fail
          go_meet
          case rel => exact ⟨baB (cutBa b), (Hx17.out.rd.widen (by intro k h1; right; omega) (Nat.le_refl _)), (HMM.out.trans Cx18.out (fun _ _ h => h.elim))⟩
        · have K2 := Lib.hid h2
          clear h2
          go_upto_region 8 with (fail)
          generalize ha0 : Act.mk _ _ = a0
          have oe25 : a0.eval (.tmp 25) = .int .i64 (within what 4) := by rw [← ha0]; rfl
          have hsz0 : a0.tmps.size = 156 := by rw [← ha0]; rfl
          have HA0 := hid ha0
          clear ha0
          refine wp_region_S 156 hsz0 [39, 38] [0, 1] ?_
          refine QSeq.pure rfl (.bool false) (fun E => ex_binE rfl (E.v oe25) rfl (guard_ints _ _ _ _ _ _) (run_eql_i _ _ _ Try.underlying3) (congrArg Value.bool (eq_ff K2.out))) ?_
          refine QSeq.pure rfl (.bool false) (fun E => ex_assign rfl (E.d 0 0)) ?_
          refine QSeq.nil (t' := [_, _]) rfl ?_
          have ha0 := HA0.out
          subst ha0
          clear HA0 hsz0 oe25
          simp only [putAll, Act.put, List.setIfInBounds_toArray, List.set_cons_zero, List.set_cons_succ]
          go_upto_region 3 with (fail)
          generalize ha0 : Act.mk _ _ = a0
          have oe3 : a0.eval (.tmp 3) = .slice aor raw.length capr := by rw [← ha0]; rfl
          have hsz0 : a0.tmps.size = 156 := by rw [← ha0]; rfl
          have HA0 := hid ha0
          clear ha0
          refine wp_region_S 156 hsz0 [26, 27, 17] [0, 1, 2] ?_
          refine QSeq.pure rfl (.slice aor raw.length capr) (fun E => ex_move rfl (E.v oe3)) ?_
          refine QSeq.go fun act E => ?_
          refine qc_callF (args := #[.slice aor raw.length capr, .int .i64 300]) rfl (wanted_none rfl) rfl Try.func26 (args2 (E.d 0 0) rfl) (Cut_R 300 Hx4.out (by decide)) ?_
          rintro e u3_1 ⟨v1, rfl, qout, hm⟩
          refine ⟨_, rfl, ?_⟩
          have Hx20 := hid (qout.widen (R' := (fun k => (New w1 u3_1 k))) (fun _ h => h) (Nat.le_refl _))
          have zu3_1 := hm.size
          have Cx21 := hid (show Mod (fun _ => False) w1 u3_1 from hm)
          clear hm
          clear act E qout
          refine QSeq.pure rfl (v1) (fun E => ex_assign rfl (E.d 1 0)) ?_
          refine QSeq.nil (t' := [_, _, _]) rfl ?_
          have ha0 := HA0.out
          subst ha0
          clear HA0 hsz0 oe3
          simp only [putAll, Act.put, List.setIfInBounds_toArray, List.set_cons_zero, List.set_cons_succ]
          go_wp2_with fail
          go_meet
          case rel => exact ⟨raw.take 300, ((RdR_300 Hx20.out.rd).widen (by intro k h1; right; omega) (Nat.le_refl _)), (HMM.out.trans Cx21.out (fun _ _ h => h.elim))⟩
  case rest =>
    obtain ⟨wq, rfl⟩ : ∃ x, x = wc := ⟨_, rfl⟩
    obtain ⟨bs, hbs, hm⟩ := hcut
    obtain ⟨aob, capb, rfl⟩ := hbs.shape
    have HBS := Lib.hid hbs
    clear hbs
    have zwq := hm.size
    clear Hx1
    clear Hx2
    clear Hx3
    clear Hx4
    clear HB8
    clear HB9
    clear HB10
    have Hx22 := hid (HM0.out.trans hm (fun _ _ h => h.elim))
    clear HM0
    clear hm
    go_upto_region 10 with (fail)
    generalize ha0 : Act.mk _ _ = a0
    have oe5 : a0.eval (.tmp 5) = .int .i64 how := by rw [← ha0]; rfl
    have oe6 : a0.eval (.tmp 6) = .int .i64 at_ := by rw [← ha0]; rfl
    have oe7 : a0.eval (.tmp 7) = .int .u8 c := by rw [← ha0]; rfl
    have oe17 : a0.eval (.tmp 17) = .slice aob bs.length capb := by rw [← ha0]; rfl
    have hsz0 : a0.tmps.size = 156 := by rw [← ha0]; rfl
    have HA0 := hid ha0
    clear ha0
    refine wp_region_S 156 hsz0 [43, 44, 45, 46, 47, 17] [0, 1, 2, 3, 4, 5] ?_
    refine QSeq.pure rfl (.slice aob bs.length capb) (fun E => ex_move rfl (E.y 5 oe17)) ?_
    refine QSeq.pure rfl (.int .i64 how) (fun E => ex_move rfl (E.v oe5)) ?_
    refine QSeq.pure rfl (.int .i64 at_) (fun E => ex_move rfl (E.v oe6)) ?_
    refine QSeq.pure rfl (.int .u8 c) (fun E => ex_move rfl (E.v oe7)) ?_
    refine QSeq.go fun act E => ?_
    refine qc_callF (args := #[.slice aob bs.length capb, .int .i64 how, .int .i64 at_, .int .u8 c]) rfl (wanted_none rfl) rfl Try.func27 (args4 (E.d 0 3) (E.d 1 2) (E.d 2 1) (E.d 3 0)) (turned_Q HBS.out (by intro k h1; rcases h1 with h1 | h1 <;> first | omega | (have hb := HBT.out k h1; omega)) HH.out HA.out HCC.out) ?_
    rintro e u10_4 ⟨v2, y, rfl, qy, hm⟩
    obtain ⟨aoy, capy, rfl⟩ := qy.shape
    have HYL := hid qy.2.2
    refine ⟨_, rfl, ?_⟩
    have Hx23 := hid (qy.widen (R' := (fun k => (New wq u10_4 k))) (fun _ h => h) (Nat.le_refl _))
    have zu10_4 := hm.size
    have Cx24 := hid (show Mod (fun _ => False) wq u10_4 from hm)
    clear hm
    clear act E qy
    refine QSeq.pure rfl (.slice aoy y.length capy) (fun E => ex_assign rfl (E.d 4 0)) ?_
    refine QSeq.nil (t' := [_, _, _, _, _, _]) rfl ?_
    have ha0 := HA0.out
    subst ha0
    clear HA0 hsz0 oe5 oe6 oe7 oe17
    simp only [putAll, Act.put, List.setIfInBounds_toArray, List.set_cons_zero, List.set_cons_succ]
    clear HBS
    go_upto_region 11 with (fail)
    generalize ha0 : Act.mk _ _ = a0
    have oe17 : a0.eval (.tmp 17) = .slice aoy y.length capy := by rw [← ha0]; rfl
    have hsz0 : a0.tmps.size = 156 := by rw [← ha0]; rfl
    have HA0 := hid ha0
    clear ha0
    refine wp_region_S 156 hsz0 [48, 49, 50, 51, 52, 53, 18, 19, 20] [0, 1, 2, 3, 4, 5, 6, 7, 8] ?_
    refine QSeq.pure rfl (.slice aoy y.length capy) (fun E => ex_move rfl (E.v oe17)) ?_
    refine QSeq.go fun act E => ?_
    refine qc_callF (args := #[.slice aoy y.length capy]) rfl (wanted_none rfl) rfl Try.func28 (args1 (E.d 0 0)) (NewReader_R Hx23.out (by decide)) ?_
    rintro e u11_1 ⟨r1, rfl, qrd1, hm⟩
    refine ⟨_, rfl, ?_⟩
    have Hx25 := hid (qrd1.widen (R' := (fun k => (New u10_4 u11_1 k))) (fun _ h => h))
    have zu11_1 := hm.size
    have Cx26 := hid (show Mod (fun _ => False) u10_4 u11_1 from hm)
    clear hm
    clear act E qrd1
    refine QSeq.pure rfl (.slice aoy y.length capy) (fun E => ex_move rfl (E.v oe17)) ?_
    refine QSeq.go fun act E => ?_
    refine qc_callF (args := #[.slice aoy y.length capy]) rfl (wanted_none rfl) rfl Try.func28 (args1 (E.d 2 0)) (NewReader_R (Hx23.out.mod Cx26.out (fun _ _ h => h)) (by decide)) ?_
    rintro e u11_3 ⟨r2, rfl, qrd2, hm⟩
    refine ⟨_, rfl, ?_⟩
    have Hx27 := hid (qrd2.widen (R' := (fun k => (New u11_1 u11_3 k))) (fun _ h => h))
    have zu11_3 := hm.size
    have HMu11_3 := hid hm
    have Cx28 := hid (Cx26.out.goE hm)
    clear hm Cx26
    clear act E qrd2
    refine QSeq.pure rfl (.slice aoy y.length capy) (fun E => ex_move rfl (E.v oe17)) ?_
    refine QSeq.go fun act E => ?_
    refine qc_callF (args := #[.slice aoy y.length capy]) rfl (wanted_none rfl) rfl Try.func28 (args1 (E.d 4 0)) (NewReader_R (Hx23.out.mod Cx28.out (fun _ _ h => h)) (by decide)) ?_
    rintro e u11_5 ⟨r3, rfl, qrd3, hm⟩
    refine ⟨_, rfl, ?_⟩
    have Hx29 := hid (qrd3.widen (R' := (fun k => (New u11_3 u11_5 k))) (fun _ h => h))
    have zu11_5 := hm.size
    have HMu11_5 := hid hm
    have Cx30 := hid (Cx28.out.goE hm)
    clear hm Cx28
    clear act E qrd3
    refine QSeq.pure rfl (.pointer (some ⟨r1, 0, none⟩)) (fun E => ex_assign rfl (E.d 1 4)) ?_
    refine QSeq.pure rfl (.pointer (some ⟨r2, 0, none⟩)) (fun E => ex_assign rfl (E.d 3 3)) ?_
    refine QSeq.pure rfl (.pointer (some ⟨r3, 0, none⟩)) (fun E => ex_assign rfl (E.d 5 2)) ?_
    have Hx31 := hid ((Hx25.out.mod HMu11_3.out (fun _ _ h => h)).mod HMu11_5.out (fun _ _ h => h))
    have Hx32 := hid (Hx27.out.mod HMu11_5.out (fun _ _ h => h))
    clear Hx25 Hx27 HMu11_3 HMu11_5
    refine QSeq.nil (t' := [_, _, _, _, _, _, _, _, _]) rfl ?_
    have ha0 := HA0.out
    subst ha0
    clear HA0 hsz0 oe17
    simp only [putAll, Act.put, List.setIfInBounds_toArray, List.set_cons_zero, List.set_cons_succ]
    go_upto_region 14 with (fail)
    generalize ha0 : Act.mk _ _ = a0
    have oe17 : a0.eval (.tmp 17) = .slice aoy y.length capy := by rw [← ha0]; rfl
    have hsz0 : a0.tmps.size = 156 := by rw [← ha0]; rfl
    have HA0 := hid ha0
    clear ha0
    refine wp_region_S 156 hsz0 [64, 65, 66, 67, 68, 69, 70, 71, 72, 73, 74, 75, 21, 22, 23] [0, 1, 2, 3, 4, 5, 6, 7, 8, 9, 10, 11, 12, 13, 14] ?_
    refine QSeq.pure rfl (.slice aoy y.length capy) (fun E => ex_move rfl (E.v oe17)) ?_
    refine QSeq.go fun act E => ?_
    refine qc_callF (args := #[.slice aoy y.length capy]) rfl (wanted_none rfl) rfl Try.func29 (args1 (E.d 0 0)) (Copy_R (N := 900000) (Hx23.out.mod Cx30.out (fun _ _ h => h)) (by decide)) ?_
    rintro e u14_1 ⟨vc, rfl, qcp1, hm⟩
    obtain ⟨aoc1, capc1, rfl⟩ := qcp1.shape
    refine ⟨_, rfl, ?_⟩
    have Hx33 := hid (qcp1.widen (R' := (fun k => (New u11_5 u14_1 k))) (fun _ h => h) (Nat.le_refl _))
    have zu14_1 := hm.size
    have Cx34 := hid (show Mod (fun _ => False) u11_5 u14_1 from hm)
    clear hm
    clear act E qcp1
    refine QSeq.go fun act E => ?_
    refine qc_run rfl (wanted_none rfl) (v := .agg #[Value.slice aoc1 y.length capc1, .bool false]) (ex_build rfl (z := [.slice none 0 0, .bool false]) (places := [(0, 1), (1, 1)]) (by kernel_rfl) (parts := [(0, .slice aoc1 y.length capc1)]) (by simp only [List.map_toArray, List.map_cons, List.map_nil, show act.eval (.tmp 65) = .slice aoc1 y.length capc1 from (E.d 1 0)]; try rfl) (r := [Value.slice aoc1 y.length capc1, .bool false]) (by exact laid_segs (ns := [1, 1]) rfl [(0, .slice aoc1 y.length capc1)] [[.slice none 0 0], [.bool false]] rfl ⟨rfl, trivial⟩)) ?_
    clear act E
    refine QSeq.go fun act E => ?_
    refine qc_box rfl (wanted_none rfl) rfl (vs := [Value.slice aoc1 y.length capc1, .bool false]) (by rw [show act.eval (.tmp 66) = _ from (E.d 2 0)]; rfl) ?_
    intro u14_3 qbx1 hm
    have zl14_3 := qbx1.lt
    have Hx35 := hid qbx1
    have zu14_3 := hm.size
    have HMu14_3 := hid hm
    have Cx36 := hid (Cx34.out.goE hm)
    clear hm Cx34
    clear act E qbx1
    have HBR1 := hid (RrR.box (R := (fun k => (New u11_5 u14_1 k) ∨ (k = u14_1.heap.size))) Hx35.out ((Hx33.out.mod HMu14_3.out (fun _ _ h => h)).rd.widen (by intro k h1; first | omega | exact h1.elim | exact Or.inl h1 | exact Or.inr (h1)) (Nat.le_refl _)) (Or.inr rfl) (by intro h0 k hk e; have hb := ((Hx33.out.mod HMu14_3.out (fun _ _ h => h))).2.1 k hk; (try dsimp only at hb); omega))
    clear Hx35 Hx33
    refine QSeq.pure rfl (.slice aoy y.length capy) (fun E => ex_move rfl (E.v oe17)) ?_
    refine QSeq.go fun act E => ?_
    refine qc_callF (args := #[.slice aoy y.length capy]) rfl (wanted_none rfl) rfl Try.func29 (args1 (E.d 4 0)) (Copy_R (N := 900000) ((Hx23.out.mod Cx30.out (fun _ _ h => h)).mod Cx36.out (fun _ _ h => h)) (by decide)) ?_
    rintro e u14_5 ⟨vc, rfl, qcp2, hm⟩
    obtain ⟨aoc2, capc2, rfl⟩ := qcp2.shape
    refine ⟨_, rfl, ?_⟩
    have Hx37 := hid (qcp2.widen (R' := (fun k => (New u14_3 u14_5 k))) (fun _ h => h) (Nat.le_refl _))
    have zu14_5 := hm.size
    have HMu14_5 := hid hm
    have Cx38 := hid (Cx36.out.goE hm)
    clear hm Cx36
    clear act E qcp2
    refine QSeq.go fun act E => ?_
    refine qc_run rfl (wanted_none rfl) (v := .agg #[Value.slice aoc2 y.length capc2, .bool false]) (ex_build rfl (z := [.slice none 0 0, .bool false]) (places := [(0, 1), (1, 1)]) (by kernel_rfl) (parts := [(0, .slice aoc2 y.length capc2)]) (by simp only [List.map_toArray, List.map_cons, List.map_nil, show act.eval (.tmp 69) = .slice aoc2 y.length capc2 from (E.d 5 0)]; try rfl) (r := [Value.slice aoc2 y.length capc2, .bool false]) (by exact laid_segs (ns := [1, 1]) rfl [(0, .slice aoc2 y.length capc2)] [[.slice none 0 0], [.bool false]] rfl ⟨rfl, trivial⟩)) ?_
    clear act E
    refine QSeq.go fun act E => ?_
    refine qc_box rfl (wanted_none rfl) rfl (vs := [Value.slice aoc2 y.length capc2, .bool false]) (by rw [show act.eval (.tmp 70) = _ from (E.d 6 0)]; rfl) ?_
    intro u14_7 qbx2 hm
    have zl14_7 := qbx2.lt
    have Hx39 := hid qbx2
    have zu14_7 := hm.size
    have HMu14_7 := hid hm
    have Cx40 := hid (Cx38.out.goE hm)
    clear hm Cx38
    clear act E qbx2
    have HBR2 := hid (RrR.box (R := (fun k => (New u14_3 u14_5 k) ∨ (k = u14_5.heap.size))) Hx39.out ((Hx37.out.mod HMu14_7.out (fun _ _ h => h)).rd.widen (by intro k h1; first | omega | exact h1.elim | exact Or.inl h1 | exact Or.inr (h1)) (Nat.le_refl _)) (Or.inr rfl) (by intro h0 k hk e; have hb := ((Hx37.out.mod HMu14_7.out (fun _ _ h => h))).2.1 k hk; (try dsimp only at hb); omega))
    clear Hx39 Hx37
    refine QSeq.pure rfl (.slice aoy y.length capy) (fun E => ex_move rfl (E.v oe17)) ?_
    refine QSeq.go fun act E => ?_
    refine qc_callF (args := #[.slice aoy y.length capy]) rfl (wanted_none rfl) rfl Try.func29 (args1 (E.d 8 0)) (Copy_R (N := 900000) ((Hx23.out.mod Cx30.out (fun _ _ h => h)).mod Cx40.out (fun _ _ h => h)) (by decide)) ?_
    rintro e u14_9 ⟨vc, rfl, qcp3, hm⟩
    obtain ⟨aoc3, capc3, rfl⟩ := qcp3.shape
    refine ⟨_, rfl, ?_⟩
    have Hx41 := hid (qcp3.widen (R' := (fun k => (New u14_7 u14_9 k))) (fun _ h => h) (Nat.le_refl _))
    have zu14_9 := hm.size
    have HMu14_9 := hid hm
    have Cx42 := hid (Cx40.out.goE hm)
    clear hm Cx40
    clear act E qcp3
    refine QSeq.go fun act E => ?_
    refine qc_run rfl (wanted_none rfl) (v := .agg #[Value.slice aoc3 y.length capc3, .bool false]) (ex_build rfl (z := [.slice none 0 0, .bool false]) (places := [(0, 1), (1, 1)]) (by kernel_rfl) (parts := [(0, .slice aoc3 y.length capc3)]) (by simp only [List.map_toArray, List.map_cons, List.map_nil, show act.eval (.tmp 73) = .slice aoc3 y.length capc3 from (E.d 9 0)]; try rfl) (r := [Value.slice aoc3 y.length capc3, .bool false]) (by exact laid_segs (ns := [1, 1]) rfl [(0, .slice aoc3 y.length capc3)] [[.slice none 0 0], [.bool false]] rfl ⟨rfl, trivial⟩)) ?_
    clear act E
    refine QSeq.go fun act E => ?_
    refine qc_box rfl (wanted_none rfl) rfl (vs := [Value.slice aoc3 y.length capc3, .bool false]) (by rw [show act.eval (.tmp 74) = _ from (E.d 10 0)]; rfl) ?_
    intro u14_11 qbx3 hm
    have zl14_11 := qbx3.lt
    have Hx43 := hid qbx3
    have zu14_11 := hm.size
    have HMu14_11 := hid hm
    have Cx44 := hid (Cx42.out.goE hm)
    clear hm Cx42
    clear act E qbx3
    have HBR3 := hid (RrR.box (R := (fun k => (New u14_7 u14_9 k) ∨ (k = u14_9.heap.size))) Hx43.out ((Hx41.out.mod HMu14_11.out (fun _ _ h => h)).rd.widen (by intro k h1; first | omega | exact h1.elim | exact Or.inl h1 | exact Or.inr (h1)) (Nat.le_refl _)) (Or.inr rfl) (by intro h0 k hk e; have hb := ((Hx41.out.mod HMu14_11.out (fun _ _ h => h))).2.1 k hk; (try dsimp only at hb); omega))
    clear Hx43 Hx41
    refine QSeq.pure rfl (.pointer (some ⟨u14_1.heap.size, 0, none⟩)) (fun E => ex_assign rfl (E.d 3 8)) ?_
    refine QSeq.pure rfl (.pointer (some ⟨u14_5.heap.size, 0, none⟩)) (fun E => ex_assign rfl (E.d 7 5)) ?_
    refine QSeq.pure rfl (.pointer (some ⟨u14_9.heap.size, 0, none⟩)) (fun E => ex_assign rfl (E.d 11 2)) ?_
    have Hx45 := hid ((((HBR1.out.mod HMu14_5.out (fun _ _ h => h)).mod HMu14_7.out (fun _ _ h => h)).mod HMu14_9.out (fun _ _ h => h)).mod HMu14_11.out (fun _ _ h => h))
    have Hx46 := hid ((HBR2.out.mod HMu14_9.out (fun _ _ h => h)).mod HMu14_11.out (fun _ _ h => h))
    clear HBR1 HBR2 HMu14_3 HMu14_5 HMu14_7 HMu14_9 HMu14_11
    refine QSeq.nil (t' := [_, _, _, _, _, _, _, _, _, _, _, _, _, _, _]) rfl ?_
    have ha0 := HA0.out
    subst ha0
    clear HA0 hsz0 oe17
    simp only [putAll, Act.put, List.setIfInBounds_toArray, List.set_cons_zero, List.set_cons_succ]
    clear Hx23
    have HYS := hid (show ((some y : RSt).getD []).length ≤ 900000 from HYL.out)
    go_upto_region 15 with (fail)
    generalize ha0 : Act.mk _ _ = a0
    have oe18 : a0.eval (.tmp 18) = .pointer (some ⟨r1, 0, none⟩) := by rw [← ha0]; rfl
    have oe19 : a0.eval (.tmp 19) = .pointer (some ⟨r2, 0, none⟩) := by rw [← ha0]; rfl
    have oe20 : a0.eval (.tmp 20) = .pointer (some ⟨r3, 0, none⟩) := by rw [← ha0]; rfl
    have oe21 : a0.eval (.tmp 21) = .pointer (some ⟨u14_1.heap.size, 0, none⟩) := by rw [← ha0]; rfl
    have oe22 : a0.eval (.tmp 22) = .pointer (some ⟨u14_5.heap.size, 0, none⟩) := by rw [← ha0]; rfl
    have oe23 : a0.eval (.tmp 23) = .pointer (some ⟨u14_9.heap.size, 0, none⟩) := by rw [← ha0]; rfl
    have hsz0 : a0.tmps.size = 156 := by rw [← ha0]; rfl
    have HA0 := hid ha0
    clear ha0
    refine wp_region_S 156 hsz0 [76, 77, 78, 79, 80, 81, 82, 83, 84, 85, 86, 87, 88, 89, 90, 91, 92, 93, 94, 95, 96, 97] [0, 1, 2, 3, 4, 5, 6, 7, 8, 9, 10, 11, 12, 13, 14, 15, 16, 17, 18, 19, 20, 21] ?_
    refine QSeq.pure rfl (.pointer (some ⟨r1, 0, none⟩)) (fun E => ex_move rfl (E.v oe18)) ?_
    refine QSeq.go fun act E => ?_
    refine qc_callF (args := #[.pointer (some ⟨r1, 0, none⟩)]) rfl (wanted_none rfl) rfl Try.func31 (args1 (E.d 0 0)) (Wire_Ce _ _ _ _ (Hx31.out.mod Cx44.out (fun _ _ h => h)) (by intro k h1; omega) HYS.out) ?_
    rintro e u15_1 ⟨ca1, rfl, qxa1, qrd1, hm⟩
    refine ⟨_, rfl, ?_⟩
    have Hx47 := hid (qxa1.widen (R' := (fun k => (New u14_11 u15_1 k))) (fun _ h => h))
    have Hx48 := hid qrd1
    have zu15_1 := hm.size
    have Cx49 := hid (show Mod (fun k => (New u10_4 u11_1 k)) u14_11 u15_1 from hm)
    clear hm
    clear act E qxa1 qrd1 Hx31
    refine QSeq.pure rfl (.pointer (some ⟨u14_1.heap.size, 0, none⟩)) (fun E => ex_move rfl (E.v oe21)) ?_
    refine QSeq.go fun act E => ?_
    refine qc_callF (args := #[.pointer (some ⟨u14_1.heap.size, 0, none⟩)]) rfl (wanted_none rfl) rfl Try.func32 (args1 (E.d 2 0)) (Ref_Ce _ _ _ _ (Hx45.out.mod Cx49.out (by intro k h1 h2; omega)) (by intro k h1; omega) HYS.out) ?_
    rintro e u15_3 ⟨cb1, rfl, qxb1, qrr1, hm⟩
    refine ⟨_, rfl, ?_⟩
    have Hx50 := hid (qxb1.widen (R' := (fun k => (New u15_1 u15_3 k))) (fun _ h => h))
    have Hx51 := hid qrr1
    have zu15_3 := hm.size
    have HMu15_3 := hid hm
    have Cx52 := hid (Mod.goS (S' := (fun k => (New u10_4 u11_1 k) ∨ (New u11_5 u14_1 k) ∨ (k = u14_1.heap.size))) Cx49.out hm (fun _ h => Or.inl h) (by intro k h0 h2; rcases h2 with h2 | h2; exact Or.inr (Or.inl h2); exact Or.inr (Or.inr (h2))))
    clear hm Cx49
    clear act E qxb1 qrr1 Hx45
    refine QSeq.go fun act E => ?_
    refine qc_callF (args := #[.agg ca1.toArray, .agg cb1.toArray]) rfl (wanted_none rfl) rfl Try.func30 (args2 (E.d 1 2) (E.d 3 0)) (Eqs.same Eq_Ce (Hx47.out.mod HMu15_3.out (by intro k h1 h2; omega)) Hx50.out (by intro k h1; omega) (by intro k h1; omega)) ?_
    rintro e u15_4 ⟨rfl, hm⟩
    refine ⟨_, rfl, ?_⟩
    have zu15_4 := hm.size
    have HMu15_4 := hid hm
    have Cx53 := hid (Cx52.out.goE hm)
    clear hm Cx52
    clear act E
    clear Hx47
    clear Hx50
    refine QSeq.pure rfl (.bool false) (fun E => ex_not rfl (E.d 4 0)) ?_
    refine QSeq.pure rfl (.bool false) (fun E => ex_move rfl (E.d 5 0)) ?_
    refine QSeq.pureG rfl (.pointer (some ⟨r2, 0, none⟩)) (fun E => ((wanted_of rfl rfl (E.sz 82 (by decide)) (E.d 6 0)).trans rfl)) (fun E => ex_move rfl (E.v oe19)) ?_
    refine QSeq.go fun act E => ?_
    refine qc_callF (args := #[.pointer (some ⟨r2, 0, none⟩)]) rfl ((wanted_of rfl rfl (E.sz 82 (by decide)) (E.d 6 1)).trans rfl) rfl Try.func34 (args1 (E.d 7 0)) (Wire_Pm _ _ _ _ ((Hx32.out.mod Cx44.out (fun _ _ h => h)).mod Cx53.out (by intro k h1 h2; omega)) (by intro k h1; omega) HYS.out) ?_
    rintro e u15_8 ⟨ca2, rfl, qxa2, qrd2, hm⟩
    refine ⟨_, rfl, ?_⟩
    have Hx54 := hid (qxa2.widen (R' := (fun k => (New u15_4 u15_8 k))) (fun _ h => h))
    have Hx55 := hid qrd2
    have zu15_8 := hm.size
    have HMu15_8 := hid hm
    have Cx56 := hid (Mod.goS (S' := (fun k => (New u10_4 u11_1 k) ∨ (New u11_5 u14_1 k) ∨ (k = u14_1.heap.size) ∨ (New u11_1 u11_3 k))) Cx53.out hm (by intro k h; rcases h with h | h | h; exact Or.inl h; exact Or.inr (Or.inl h); exact Or.inr (Or.inr (Or.inl h))) (by intro k h0 h2; exact Or.inr (Or.inr (Or.inr (h2)))))
    clear hm Cx53
    clear act E qxa2 qrd2 Hx32
    refine QSeq.pureG rfl (.pointer (some ⟨u14_5.heap.size, 0, none⟩)) (fun E => ((wanted_of rfl rfl (E.sz 82 (by decide)) (E.d 6 2)).trans rfl)) (fun E => ex_move rfl (E.v oe22)) ?_
    refine QSeq.go fun act E => ?_
    refine qc_callF (args := #[.pointer (some ⟨u14_5.heap.size, 0, none⟩)]) rfl ((wanted_of rfl rfl (E.sz 82 (by decide)) (E.d 6 3)).trans rfl) rfl Try.func35 (args1 (E.d 9 0)) (Ref_Pm _ _ _ _ (Hx46.out.mod Cx56.out (by intro k h1 h2; omega)) (by intro k h1; omega) HYS.out) ?_
    rintro e u15_10 ⟨cb2, rfl, qxb2, qrr2, hm⟩
    refine ⟨_, rfl, ?_⟩
    have Hx57 := hid (qxb2.widen (R' := (fun k => (New u15_8 u15_10 k))) (fun _ h => h))
    have Hx58 := hid qrr2
    have zu15_10 := hm.size
    have HMu15_10 := hid hm
    have Cx59 := hid (Mod.goS (S' := (fun k => (New u10_4 u11_1 k) ∨ (New u11_5 u14_1 k) ∨ (k = u14_1.heap.size) ∨ (New u11_1 u11_3 k) ∨ (New u14_3 u14_5 k) ∨ (k = u14_5.heap.size))) Cx56.out hm (by intro k h; rcases h with h | h | h | h; exact Or.inl h; exact Or.inr (Or.inl h); exact Or.inr (Or.inr (Or.inl h)); exact Or.inr (Or.inr (Or.inr (Or.inl h)))) (by intro k h0 h2; rcases h2 with h2 | h2; exact Or.inr (Or.inr (Or.inr (Or.inr (Or.inl h2)))); exact Or.inr (Or.inr (Or.inr (Or.inr (Or.inr (h2)))))))
    clear hm Cx56
    clear act E qxb2 qrr2 Hx46
    refine QSeq.go fun act E => ?_
    refine qc_callF (args := #[.agg ca2.toArray, .agg cb2.toArray]) rfl ((wanted_of rfl rfl (E.sz 82 (by decide)) (E.d 6 4)).trans rfl) rfl Try.func33 (args2 (E.d 8 2) (E.d 10 0)) (Eqs.same Eq_Pm (Hx54.out.mod HMu15_10.out (by intro k h1 h2; omega)) Hx57.out (by intro k h1; omega) (by intro k h1; omega)) ?_
    rintro e u15_11 ⟨rfl, hm⟩
    refine ⟨_, rfl, ?_⟩
    have zu15_11 := hm.size
    have HMu15_11 := hid hm
    have Cx60 := hid (Cx59.out.goE hm)
    clear hm Cx59
    clear act E
    clear Hx54
    clear Hx57
    refine QSeq.pureG rfl (.bool false) (fun E => ((wanted_of rfl rfl (E.sz 82 (by decide)) (E.d 6 5)).trans rfl)) (fun E => ex_not rfl (E.d 11 0)) ?_
    refine QSeq.pure rfl (.bool false) (fun E => ex_pick rfl (E.d 6 6) rfl (E.d 12 0)) ?_
    refine QSeq.pure rfl (.bool false) (fun E => ex_move rfl (E.d 13 0)) ?_
    refine QSeq.pureG rfl (.pointer (some ⟨r3, 0, none⟩)) (fun E => ((wanted_of rfl rfl (E.sz 90 (by decide)) (E.d 14 0)).trans rfl)) (fun E => ex_move rfl (E.v oe20)) ?_
    refine QSeq.go fun act E => ?_
    refine qc_callF (args := #[.pointer (some ⟨r3, 0, none⟩)]) rfl ((wanted_of rfl rfl (E.sz 90 (by decide)) (E.d 14 1)).trans rfl) rfl Try.func37 (args1 (E.d 15 0)) (Wire_Ba _ _ _ _ ((Hx29.out.mod Cx44.out (fun _ _ h => h)).mod Cx60.out (by intro k h1 h2; omega)) (by intro k h1; omega) HYS.out) ?_
    rintro e u15_16 ⟨ca3, rfl, qxa3, qrd3, hm⟩
    refine ⟨_, rfl, ?_⟩
    have Hx61 := hid (qxa3.widen (R' := (fun k => (New u15_11 u15_16 k))) (fun _ h => h))
    have Hx62 := hid qrd3
    have zu15_16 := hm.size
    have HMu15_16 := hid hm
    have Cx63 := hid (Mod.goS (S' := (fun k => (New u10_4 u11_1 k) ∨ (New u11_5 u14_1 k) ∨ (k = u14_1.heap.size) ∨ (New u11_1 u11_3 k) ∨ (New u14_3 u14_5 k) ∨ (k = u14_5.heap.size) ∨ (New u11_3 u11_5 k))) Cx60.out hm (by intro k h; rcases h with h | h | h | h | h | h; exact Or.inl h; exact Or.inr (Or.inl h); exact Or.inr (Or.inr (Or.inl h)); exact Or.inr (Or.inr (Or.inr (Or.inl h))); exact Or.inr (Or.inr (Or.inr (Or.inr (Or.inl h)))); exact Or.inr (Or.inr (Or.inr (Or.inr (Or.inr (Or.inl h)))))) (by intro k h0 h2; exact Or.inr (Or.inr (Or.inr (Or.inr (Or.inr (Or.inr (h2))))))))
    clear hm Cx60
    clear act E qxa3 qrd3 Hx29
    refine QSeq.pureG rfl (.pointer (some ⟨u14_9.heap.size, 0, none⟩)) (fun E => ((wanted_of rfl rfl (E.sz 90 (by decide)) (E.d 14 2)).trans rfl)) (fun E => ex_move rfl (E.v oe23)) ?_
    refine QSeq.go fun act E => ?_
    refine qc_callF (args := #[.pointer (some ⟨u14_9.heap.size, 0, none⟩)]) rfl ((wanted_of rfl rfl (E.sz 90 (by decide)) (E.d 14 3)).trans rfl) rfl Try.func38 (args1 (E.d 17 0)) (Ref_Ba _ _ _ _ (HBR3.out.mod Cx63.out (by intro k h1 h2; omega)) (by intro k h1; omega) HYS.out) ?_
    rintro e u15_18 ⟨cb3, rfl, qxb3, qrr3, hm⟩
    refine ⟨_, rfl, ?_⟩
    have Hx64 := hid (qxb3.widen (R' := (fun k => (New u15_16 u15_18 k))) (fun _ h => h))
    have Hx65 := hid qrr3
    have zu15_18 := hm.size
    have HMu15_18 := hid hm
    have Cx66 := hid (Mod.goS (S' := (fun k => (New u10_4 u11_1 k) ∨ (New u11_5 u14_1 k) ∨ (k = u14_1.heap.size) ∨ (New u11_1 u11_3 k) ∨ (New u14_3 u14_5 k) ∨ (k = u14_5.heap.size) ∨ (New u11_3 u11_5 k) ∨ (New u14_7 u14_9 k) ∨ (k = u14_9.heap.size))) Cx63.out hm (by intro k h; rcases h with h | h | h | h | h | h | h; exact Or.inl h; exact Or.inr (Or.inl h); exact Or.inr (Or.inr (Or.inl h)); exact Or.inr (Or.inr (Or.inr (Or.inl h))); exact Or.inr (Or.inr (Or.inr (Or.inr (Or.inl h)))); exact Or.inr (Or.inr (Or.inr (Or.inr (Or.inr (Or.inl h))))); exact Or.inr (Or.inr (Or.inr (Or.inr (Or.inr (Or.inr (Or.inl h))))))) (by intro k h0 h2; rcases h2 with h2 | h2; exact Or.inr (Or.inr (Or.inr (Or.inr (Or.inr (Or.inr (Or.inr (Or.inl h2))))))); exact Or.inr (Or.inr (Or.inr (Or.inr (Or.inr (Or.inr (Or.inr (Or.inr (h2))))))))))
    clear hm Cx63
    clear act E qxb3 qrr3 HBR3
    refine QSeq.go fun act E => ?_
    refine qc_callF (args := #[.agg ca3.toArray, .agg cb3.toArray]) rfl ((wanted_of rfl rfl (E.sz 90 (by decide)) (E.d 14 4)).trans rfl) rfl Try.func36 (args2 (E.d 16 2) (E.d 18 0)) (Eqs.same Eq_Ba (Hx61.out.mod HMu15_18.out (by intro k h1 h2; omega)) Hx64.out (by intro k h1; omega) (by intro k h1; omega)) ?_
    rintro e u15_19 ⟨rfl, hm⟩
    refine ⟨_, rfl, ?_⟩
    have zu15_19 := hm.size
    have HMu15_19 := hid hm
    have Cx67 := hid (Cx66.out.goE hm)
    clear hm Cx66
    clear act E
    clear Hx61
    clear Hx64
    refine QSeq.pureG rfl (.bool false) (fun E => ((wanted_of rfl rfl (E.sz 90 (by decide)) (E.d 14 5)).trans rfl)) (fun E => ex_not rfl (E.d 19 0)) ?_
    refine QSeq.pure rfl (.bool false) (fun E => ex_pick rfl (E.d 14 6) rfl (E.d 20 0)) ?_
    have Hx68 := hid ((((((((Hx48.out.mod HMu15_3.out (by intro k h1 h2; omega)).mod HMu15_4.out (fun _ _ h => h)).mod HMu15_8.out (by intro k h1 h2; omega)).mod HMu15_10.out (by intro k h1 h2; omega)).mod HMu15_11.out (fun _ _ h => h)).mod HMu15_16.out (by intro k h1 h2; omega)).mod HMu15_18.out (by intro k h1 h2; omega)).mod HMu15_19.out (fun _ _ h => h))
    have Hx69 := hid (((((Hx55.out.mod HMu15_10.out (by intro k h1 h2; omega)).mod HMu15_11.out (fun _ _ h => h)).mod HMu15_16.out (by intro k h1 h2; omega)).mod HMu15_18.out (by intro k h1 h2; omega)).mod HMu15_19.out (fun _ _ h => h))
    have Hx70 := hid ((Hx62.out.mod HMu15_18.out (by intro k h1 h2; omega)).mod HMu15_19.out (fun _ _ h => h))
    have Hx71 := hid (((((((Hx51.out.mod HMu15_4.out (fun _ _ h => h)).mod HMu15_8.out (by intro k h1 h2; omega)).mod HMu15_10.out (by intro k h1 h2; omega)).mod HMu15_11.out (fun _ _ h => h)).mod HMu15_16.out (by intro k h1 h2; omega)).mod HMu15_18.out (by intro k h1 h2; omega)).mod HMu15_19.out (fun _ _ h => h))
    have Hx72 := hid ((((Hx58.out.mod HMu15_11.out (fun _ _ h => h)).mod HMu15_16.out (by intro k h1 h2; omega)).mod HMu15_18.out (by intro k h1 h2; omega)).mod HMu15_19.out (fun _ _ h => h))
    have Hx73 := hid (Hx65.out.mod HMu15_19.out (fun _ _ h => h))
    clear Hx48 Hx55 Hx62 Hx51 Hx58 Hx65 HMu15_3 HMu15_4 HMu15_8 HMu15_10 HMu15_11 HMu15_16 HMu15_18 HMu15_19
    refine QSeq.nil (t' := [_, _, _, _, _, _, _, _, _, _, _, _, _, _, _, _, _, _, _, _, _, _]) rfl ?_
    have ha0 := HA0.out
    subst ha0
    clear HA0 hsz0 oe18 oe19 oe20 oe21 oe22 oe23
    simp only [putAll, Act.put, List.setIfInBounds_toArray, List.set_cons_zero, List.set_cons_succ]
    obtain ⟨ao1, cap1, hq1⟩ := RrR.b0 Hx71.out
    have HQ1 := hid (show CellsAt (fun k => (New u11_5 u14_1 k) ∨ (k = u14_1.heap.size)) u15_19 (u14_1.heap.size) 0 [Value.slice ao1 ((((gW zCe gCe (some y)).2).getD []).length) cap1] from ⟨Or.inr rfl, fun z u hu => by cases z with | zero => (cases hu; exact hq1) | succ z => cases hu⟩)
    clear hq1
    obtain ⟨ao2, cap2, hq2⟩ := RrR.b0 Hx72.out
    have HQ2 := hid (show CellsAt (fun k => (New u14_3 u14_5 k) ∨ (k = u14_5.heap.size)) u15_19 (u14_5.heap.size) 0 [Value.slice ao2 ((((gW zPm gPm (some y)).2).getD []).length) cap2] from ⟨Or.inr rfl, fun z u hu => by cases z with | zero => (cases hu; exact hq2) | succ z => cases hu⟩)
    clear hq2
    obtain ⟨ao3, cap3, hq3⟩ := RrR.b0 Hx73.out
    have HQ3 := hid (show CellsAt (fun k => (New u14_7 u14_9 k) ∨ (k = u14_9.heap.size)) u15_19 (u14_9.heap.size) 0 [Value.slice ao3 ((((gW zBa gBa (some y)).2).getD []).length) cap3] from ⟨Or.inr rfl, fun z u hu => by cases z with | zero => (cases hu; exact hq3) | succ z => cases hu⟩)
    clear hq3
    go_upto_region 17 with (fail)
    generalize ha0 : Act.mk _ _ = a0
    have oe18 : a0.eval (.tmp 18) = .pointer (some ⟨r1, 0, none⟩) := by rw [← ha0]; rfl
    have oe19 : a0.eval (.tmp 19) = .pointer (some ⟨r2, 0, none⟩) := by rw [← ha0]; rfl
    have oe20 : a0.eval (.tmp 20) = .pointer (some ⟨r3, 0, none⟩) := by rw [← ha0]; rfl
    have oe21 : a0.eval (.tmp 21) = .pointer (some ⟨u14_1.heap.size, 0, none⟩) := by rw [← ha0]; rfl
    have oe22 : a0.eval (.tmp 22) = .pointer (some ⟨u14_5.heap.size, 0, none⟩) := by rw [← ha0]; rfl
    have oe23 : a0.eval (.tmp 23) = .pointer (some ⟨u14_9.heap.size, 0, none⟩) := by rw [← ha0]; rfl
    have hsz0 : a0.tmps.size = 156 := by rw [← ha0]; rfl
    have HA0 := hid ha0
    clear ha0
    refine wp_region_Q0 156 hsz0 [98, 99, 100, 101, 102, 103, 104, 105, 106, 107, 108, 109, 110, 111, 112, 113, 114, 115, 116, 117, 118, 119, 120, 121, 122, 123, 124, 125, 126, 127, 128, 129, 130, 131, 132, 133, 134, 135, 136, 137, 138, 139, 140, 141, 142, 143, 144, 145, 146, 147, 148, 149, 150, 151, 152, 153, 154, 155, 16] [qi (.pointer (some ⟨r1, 0, none⟩)), qi (.bool ((gW zCe gCe (some y)).2).isSome), qi (.pointer (some ⟨u14_1.heap.size, 0, none⟩)), qi (.pointer (some ⟨u14_1.heap.size, 0, none⟩)), qi (.pointer (some ⟨u14_1.heap.size, 1, none⟩)), qi (.bool ((gW zCe gCe (some y)).2).isNone), qi (.bool true), qi (.bool true), qi (.pointer (some ⟨r2, 0, none⟩)), qi (.bool ((gW zPm gPm (some y)).2).isSome), qi (.pointer (some ⟨u14_5.heap.size, 0, none⟩)), qi (.pointer (some ⟨u14_5.heap.size, 0, none⟩)), qi (.pointer (some ⟨u14_5.heap.size, 1, none⟩)), qi (.bool ((gW zPm gPm (some y)).2).isNone), qi (.bool true), qi (.bool true), qi (.bool true), qi (.pointer (some ⟨r3, 0, none⟩)), qi (.bool ((gW zBa gBa (some y)).2).isSome), qi (.pointer (some ⟨u14_9.heap.size, 0, none⟩)), qi (.pointer (some ⟨u14_9.heap.size, 0, none⟩)), qi (.pointer (some ⟨u14_9.heap.size, 1, none⟩)), qi (.bool ((gW zBa gBa (some y)).2).isNone), qi (.bool true), qi (.bool true), qi (.bool true), qi (.pointer (some ⟨r1, 0, none⟩)), qi (.int .i64 (((((gW zCe gCe (some y)).2).getD []).length : Nat) : Int)), qi (.pointer (some ⟨u14_1.heap.size, 0, none⟩)), qi (.pointer (some ⟨u14_1.heap.size, 0, none⟩)), qi (.pointer (some ⟨u14_1.heap.size, 0, none⟩)), qi (.slice ao1 ((((gW zCe gCe (some y)).2).getD []).length) cap1), qi (.int .i64 ((((gW zCe gCe (some y)).2).getD []).length)), qi (.bool true), qi (.bool true), qi (.bool true), qi (.pointer (some ⟨r2, 0, none⟩)), qi (.int .i64 (((((gW zPm gPm (some y)).2).getD []).length : Nat) : Int)), qi (.pointer (some ⟨u14_5.heap.size, 0, none⟩)), qi (.pointer (some ⟨u14_5.heap.size, 0, none⟩)), qi (.pointer (some ⟨u14_5.heap.size, 0, none⟩)), qi (.slice ao2 ((((gW zPm gPm (some y)).2).getD []).length) cap2), qi (.int .i64 ((((gW zPm gPm (some y)).2).getD []).length)), qi (.bool true), qi (.bool true), qi (.bool true), qi (.pointer (some ⟨r3, 0, none⟩)), qi (.int .i64 (((((gW zBa gBa (some y)).2).getD []).length : Nat) : Int)), qi (.pointer (some ⟨u14_9.heap.size, 0, none⟩)), qi (.pointer (some ⟨u14_9.heap.size, 0, none⟩)), qi (.pointer (some ⟨u14_9.heap.size, 0, none⟩)), qi (.slice ao3 ((((gW zBa gBa (some y)).2).getD []).length) cap3), qi (.int .i64 ((((gW zBa gBa (some y)).2).getD []).length)), qi (.bool true), qi (.bool true), qi (.bool true), qi (.bool true), qi (.bool true), qi (.bool true)] ⟨qi_stable, qi_stable, qi_stable, qi_stable, qi_stable, qi_stable, qi_stable, qi_stable, qi_stable, qi_stable, qi_stable, qi_stable, qi_stable, qi_stable, qi_stable, qi_stable, qi_stable, qi_stable, qi_stable, qi_stable, qi_stable, qi_stable, qi_stable, qi_stable, qi_stable, qi_stable, qi_stable, qi_stable, qi_stable, qi_stable, qi_stable, qi_stable, qi_stable, qi_stable, qi_stable, qi_stable, qi_stable, qi_stable, qi_stable, qi_stable, qi_stable, qi_stable, qi_stable, qi_stable, qi_stable, qi_stable, qi_stable, qi_stable, qi_stable, qi_stable, qi_stable, qi_stable, qi_stable, qi_stable, qi_stable, qi_stable, qi_stable, qi_stable, qi_stable, trivial⟩ [56] ⟨?_, ?_, ?_, ?_, ?_, ?_, ?_, ?_, ?_, ?_, ?_, ?_, ?_, ?_, ?_, ?_, ?_, ?_, ?_, ?_, ?_, ?_, ?_, ?_, ?_, ?_, ?_, ?_, ?_, ?_, ?_, ?_, ?_, ?_, ?_, ?_, ?_, ?_, ?_, ?_, ?_, ?_, ?_, ?_, ?_, ?_, ?_, ?_, ?_, ?_, ?_, ?_, ?_, ?_, ?_, ?_, ?_, ?_, ?_, trivial⟩ ?_
    · exact stq (fun E => ex_move rfl (E.v oe18))
    · refine stepq_env rfl rfl rfl fun _ _ _ _ _ hm _ _ _ hd _ _ => ?_
      have h0 := hd ⟨0, .data⟩ (by simp) rfl _ rfl
      refine qe_callF (args := #[.pointer (some ⟨r1, 0, none⟩)]) rfl (wanted_none rfl) rfl Try.func39 (args1 h0) (OK_R (Hx68.out.mod hm.old (by intro k h1 h2; omega))) ?_
      rintro e w2 ⟨rfl, rfl⟩
      exact ⟨_, rfl, QE.refl, rfl⟩
    · exact stq (fun E => ex_move rfl (E.v oe21))
    · exact stq (fun E => ex_nil rfl (E.d 2))
    · exact stq (fun E => ex_field rfl Try.underlying74 rfl (by kernel_rfl) (E.d 3))
    · exact stq (fun E => ex_load1 rfl Try.underlying4 rfl (E.d 4) (RrR.bad (Hx71.out.mod E.m.old (by intro k h1 h2; omega))))
    · exact stq (fun E => ex_binE rfl (E.d 1) (E.d 5) (guard_bools _ _ _ _ _ _) (run_neq_bools _ _ _ Try.underlying4) (congrArg Value.bool (okbad ((gW zCe gCe (some y)).2))))
    · exact stq (fun E => ex_move rfl (E.d 6))
    · refine stepq_env rfl rfl rfl fun _ _ _ _ _ _ _ hout hsz hd _ _ => ?_
      have h7 := hd ⟨7, .guard⟩ (by simp) rfl _ rfl
      refine qe_run rfl ((wanted_of rfl rfl (hsz 105 (by decide)) h7).trans rfl) (ex_move rfl ((hout 19 (by decide)).trans oe19)) QE.refl ?_
      rfl
    · refine stepq_env rfl rfl rfl fun _ _ _ _ _ hm _ _ hsz hd _ _ => ?_
      have h7 := hd ⟨7, .chain⟩ (by simp) rfl _ rfl
      have h8 := hd ⟨8, .data⟩ (by simp) rfl _ rfl
      refine qe_callF (args := #[.pointer (some ⟨r2, 0, none⟩)]) rfl ((wanted_of rfl rfl (hsz 105 (by decide)) h7).trans rfl) rfl Try.func39 (args1 h8) (OK_R (Hx69.out.mod hm.old (by intro k h1 h2; omega))) ?_
      rintro e w2 ⟨rfl, rfl⟩
      exact ⟨_, rfl, QE.refl, rfl⟩
    · refine stepq_env rfl rfl rfl fun _ _ _ _ _ _ _ hout hsz hd _ _ => ?_
      have h7 := hd ⟨7, .guard⟩ (by simp) rfl _ rfl
      refine qe_run rfl ((wanted_of rfl rfl (hsz 105 (by decide)) h7).trans rfl) (ex_move rfl ((hout 22 (by decide)).trans oe22)) QE.refl ?_
      rfl
    · refine stepq_env rfl rfl rfl fun _ _ _ _ _ _ _ _ hsz hd _ _ => ?_
      have h7 := hd ⟨7, .guard⟩ (by simp) rfl _ rfl
      have h10 := hd ⟨10, .data⟩ (by simp) rfl _ rfl
      refine qe_run rfl ((wanted_of rfl rfl (hsz 105 (by decide)) h7).trans rfl) (ex_nil rfl h10) QE.refl ?_
      rfl
    · refine stepq_env rfl rfl rfl fun _ _ _ _ _ _ _ _ hsz hd _ _ => ?_
      have h7 := hd ⟨7, .guard⟩ (by simp) rfl _ rfl
      have h11 := hd ⟨11, .data⟩ (by simp) rfl _ rfl
      refine qe_run rfl ((wanted_of rfl rfl (hsz 105 (by decide)) h7).trans rfl) (ex_field rfl Try.underlying74 rfl (by kernel_rfl) h11) QE.refl ?_
      rfl
    · refine stepq_env rfl rfl rfl fun _ _ _ _ _ hm _ _ hsz hd _ _ => ?_
      have h7 := hd ⟨7, .guard⟩ (by simp) rfl _ rfl
      have h12 := hd ⟨12, .data⟩ (by simp) rfl _ rfl
      refine qe_run rfl ((wanted_of rfl rfl (hsz 105 (by decide)) h7).trans rfl) (ex_load1 rfl Try.underlying4 rfl h12 (RrR.bad (Hx72.out.mod hm.old (by intro k h1 h2; omega)))) QE.refl ?_
      rfl
    · refine stepq_env rfl rfl rfl fun _ _ _ _ _ _ _ _ hsz hd _ _ => ?_
      have h7 := hd ⟨7, .guard⟩ (by simp) rfl _ rfl
      have h9 := hd ⟨9, .data⟩ (by simp) rfl _ rfl
      have h13 := hd ⟨13, .data⟩ (by simp) rfl _ rfl
      refine qe_run rfl ((wanted_of rfl rfl (hsz 105 (by decide)) h7).trans rfl) (ex_binE rfl h9 h13 (guard_bools _ _ _ _ _ _) (run_neq_bools _ _ _ Try.underlying4) (congrArg Value.bool (okbad ((gW zPm gPm (some y)).2)))) QE.refl ?_
      rfl
    · exact stq (fun E => ex_pick rfl (E.d 7) (E.d 14) rfl)
    · exact stq (fun E => ex_move rfl (E.d 15))
    · refine stepq_env rfl rfl rfl fun _ _ _ _ _ _ _ hout hsz hd _ _ => ?_
      have h16 := hd ⟨16, .guard⟩ (by simp) rfl _ rfl
      refine qe_run rfl ((wanted_of rfl rfl (hsz 114 (by decide)) h16).trans rfl) (ex_move rfl ((hout 20 (by decide)).trans oe20)) QE.refl ?_
      rfl
    · refine stepq_env rfl rfl rfl fun _ _ _ _ _ hm _ _ hsz hd _ _ => ?_
      have h16 := hd ⟨16, .chain⟩ (by simp) rfl _ rfl
      have h17 := hd ⟨17, .data⟩ (by simp) rfl _ rfl
      refine qe_callF (args := #[.pointer (some ⟨r3, 0, none⟩)]) rfl ((wanted_of rfl rfl (hsz 114 (by decide)) h16).trans rfl) rfl Try.func39 (args1 h17) (OK_R (Hx70.out.mod hm.old (by intro k h1 h2; omega))) ?_
      rintro e w2 ⟨rfl, rfl⟩
      exact ⟨_, rfl, QE.refl, rfl⟩
    · refine stepq_env rfl rfl rfl fun _ _ _ _ _ _ _ hout hsz hd _ _ => ?_
      have h16 := hd ⟨16, .guard⟩ (by simp) rfl _ rfl
      refine qe_run rfl ((wanted_of rfl rfl (hsz 114 (by decide)) h16).trans rfl) (ex_move rfl ((hout 23 (by decide)).trans oe23)) QE.refl ?_
      rfl
    · refine stepq_env rfl rfl rfl fun _ _ _ _ _ _ _ _ hsz hd _ _ => ?_
      have h16 := hd ⟨16, .guard⟩ (by simp) rfl _ rfl
      have h19 := hd ⟨19, .data⟩ (by simp) rfl _ rfl
      refine qe_run rfl ((wanted_of rfl rfl (hsz 114 (by decide)) h16).trans rfl) (ex_nil rfl h19) QE.refl ?_
      rfl
    · refine stepq_env rfl rfl rfl fun _ _ _ _ _ _ _ _ hsz hd _ _ => ?_
      have h16 := hd ⟨16, .guard⟩ (by simp) rfl _ rfl
      have h20 := hd ⟨20, .data⟩ (by simp) rfl _ rfl
      refine qe_run rfl ((wanted_of rfl rfl (hsz 114 (by decide)) h16).trans rfl) (ex_field rfl Try.underlying74 rfl (by kernel_rfl) h20) QE.refl ?_
      rfl
    · refine stepq_env rfl rfl rfl fun _ _ _ _ _ hm _ _ hsz hd _ _ => ?_
      have h16 := hd ⟨16, .guard⟩ (by simp) rfl _ rfl
      have h21 := hd ⟨21, .data⟩ (by simp) rfl _ rfl
      refine qe_run rfl ((wanted_of rfl rfl (hsz 114 (by decide)) h16).trans rfl) (ex_load1 rfl Try.underlying4 rfl h21 (RrR.bad (Hx73.out.mod hm.old (by intro k h1 h2; omega)))) QE.refl ?_
      rfl
    · refine stepq_env rfl rfl rfl fun _ _ _ _ _ _ _ _ hsz hd _ _ => ?_
      have h16 := hd ⟨16, .guard⟩ (by simp) rfl _ rfl
      have h18 := hd ⟨18, .data⟩ (by simp) rfl _ rfl
      have h22 := hd ⟨22, .data⟩ (by simp) rfl _ rfl
      refine qe_run rfl ((wanted_of rfl rfl (hsz 114 (by decide)) h16).trans rfl) (ex_binE rfl h18 h22 (guard_bools _ _ _ _ _ _) (run_neq_bools _ _ _ Try.underlying4) (congrArg Value.bool (okbad ((gW zBa gBa (some y)).2)))) QE.refl ?_
      rfl
    · exact stq (fun E => ex_pick rfl (E.d 16) (E.d 23) rfl)
    · exact stq (fun E => ex_move rfl (E.d 24))
    · refine stepq_env rfl rfl rfl fun _ _ _ _ _ _ _ hout hsz hd _ _ => ?_
      have h25 := hd ⟨25, .guard⟩ (by simp) rfl _ rfl
      refine qe_run rfl ((wanted_of rfl rfl (hsz 123 (by decide)) h25).trans rfl) (ex_move rfl ((hout 18 (by decide)).trans oe18)) QE.refl ?_
      rfl
    · refine stepq_env rfl rfl rfl fun _ _ _ _ _ hm _ _ hsz hd _ _ => ?_
      have h25 := hd ⟨25, .chain⟩ (by simp) rfl _ rfl
      have h26 := hd ⟨26, .data⟩ (by simp) rfl _ rfl
      refine qe_callF (args := #[.pointer (some ⟨r1, 0, none⟩)]) rfl ((wanted_of rfl rfl (hsz 123 (by decide)) h25).trans rfl) rfl Try.func40 (args1 h26) (Left_R (Hx68.out.mod hm.old (by intro k h1 h2; omega))) ?_
      rintro e w2 ⟨rfl, rfl⟩
      exact ⟨_, rfl, QE.refl, rfl⟩
    · refine stepq_env rfl rfl rfl fun _ _ _ _ _ _ _ hout hsz hd _ _ => ?_
      have h25 := hd ⟨25, .guard⟩ (by simp) rfl _ rfl
      refine qe_run rfl ((wanted_of rfl rfl (hsz 123 (by decide)) h25).trans rfl) (ex_move rfl ((hout 21 (by decide)).trans oe21)) QE.refl ?_
      rfl
    · refine stepq_env rfl rfl rfl fun _ _ _ _ _ _ _ _ hsz hd _ _ => ?_
      have h25 := hd ⟨25, .guard⟩ (by simp) rfl _ rfl
      have h28 := hd ⟨28, .data⟩ (by simp) rfl _ rfl
      refine qe_run rfl ((wanted_of rfl rfl (hsz 123 (by decide)) h25).trans rfl) (ex_nil rfl h28) QE.refl ?_
      rfl
    · refine stepq_env rfl rfl rfl fun _ _ _ _ _ _ _ _ hsz hd _ _ => ?_
      have h25 := hd ⟨25, .guard⟩ (by simp) rfl _ rfl
      have h29 := hd ⟨29, .data⟩ (by simp) rfl _ rfl
      refine qe_run rfl ((wanted_of rfl rfl (hsz 123 (by decide)) h25).trans rfl) (ex_field rfl Try.underlying74 rfl (by kernel_rfl) h29) QE.refl ?_
      rfl
    · refine stepq_env rfl rfl rfl fun _ _ _ _ _ hm _ _ hsz hd _ _ => ?_
      have h25 := hd ⟨25, .guard⟩ (by simp) rfl _ rfl
      have h30 := hd ⟨30, .data⟩ (by simp) rfl _ rfl
      refine qe_run rfl ((wanted_of rfl rfl (hsz 123 (by decide)) h25).trans rfl) (ex_load1 rfl Try.underlying38 rfl h30 ((HQ1.out.mod hm.old (by intro k h1 h2; omega)).2 0 _ rfl)) QE.refl ?_
      rfl
    · refine stepq_env rfl rfl rfl fun _ _ _ _ _ _ _ _ hsz hd _ _ => ?_
      have h25 := hd ⟨25, .guard⟩ (by simp) rfl _ rfl
      have h31 := hd ⟨31, .data⟩ (by simp) rfl _ rfl
      refine qe_run rfl ((wanted_of rfl rfl (hsz 123 (by decide)) h25).trans rfl) (ex_lenS rfl h31 Try.underlying38) QE.refl ?_
      rfl
    · refine stepq_env rfl rfl rfl fun _ _ _ _ _ _ _ _ hsz hd _ _ => ?_
      have h25 := hd ⟨25, .guard⟩ (by simp) rfl _ rfl
      have h27 := hd ⟨27, .data⟩ (by simp) rfl _ rfl
      have h32 := hd ⟨32, .data⟩ (by simp) rfl _ rfl
      refine qe_run rfl ((wanted_of rfl rfl (hsz 123 (by decide)) h25).trans rfl) (ex_binE rfl h27 h32 (guard_ints _ _ _ _ _ _) (run_eql_i _ _ _ Try.underlying3) (congrArg Value.bool (beq_self_eq_true _))) QE.refl ?_
      rfl
    · exact stq (fun E => ex_pick rfl (E.d 25) (E.d 33) rfl)
    · exact stq (fun E => ex_move rfl (E.d 34))
    · refine stepq_env rfl rfl rfl fun _ _ _ _ _ _ _ hout hsz hd _ _ => ?_
      have h35 := hd ⟨35, .guard⟩ (by simp) rfl _ rfl
      refine qe_run rfl ((wanted_of rfl rfl (hsz 133 (by decide)) h35).trans rfl) (ex_move rfl ((hout 19 (by decide)).trans oe19)) QE.refl ?_
      rfl
    · refine stepq_env rfl rfl rfl fun _ _ _ _ _ hm _ _ hsz hd _ _ => ?_
      have h35 := hd ⟨35, .chain⟩ (by simp) rfl _ rfl
      have h36 := hd ⟨36, .data⟩ (by simp) rfl _ rfl
      refine qe_callF (args := #[.pointer (some ⟨r2, 0, none⟩)]) rfl ((wanted_of rfl rfl (hsz 133 (by decide)) h35).trans rfl) rfl Try.func40 (args1 h36) (Left_R (Hx69.out.mod hm.old (by intro k h1 h2; omega))) ?_
      rintro e w2 ⟨rfl, rfl⟩
      exact ⟨_, rfl, QE.refl, rfl⟩
    · refine stepq_env rfl rfl rfl fun _ _ _ _ _ _ _ hout hsz hd _ _ => ?_
      have h35 := hd ⟨35, .guard⟩ (by simp) rfl _ rfl
      refine qe_run rfl ((wanted_of rfl rfl (hsz 133 (by decide)) h35).trans rfl) (ex_move rfl ((hout 22 (by decide)).trans oe22)) QE.refl ?_
      rfl
    · refine stepq_env rfl rfl rfl fun _ _ _ _ _ _ _ _ hsz hd _ _ => ?_
      have h35 := hd ⟨35, .guard⟩ (by simp) rfl _ rfl
      have h38 := hd ⟨38, .data⟩ (by simp) rfl _ rfl
      refine qe_run rfl ((wanted_of rfl rfl (hsz 133 (by decide)) h35).trans rfl) (ex_nil rfl h38) QE.refl ?_
      rfl
    · refine stepq_env rfl rfl rfl fun _ _ _ _ _ _ _ _ hsz hd _ _ => ?_
      have h35 := hd ⟨35, .guard⟩ (by simp) rfl _ rfl
      have h39 := hd ⟨39, .data⟩ (by simp) rfl _ rfl
      refine qe_run rfl ((wanted_of rfl rfl (hsz 133 (by decide)) h35).trans rfl) (ex_field rfl Try.underlying74 rfl (by kernel_rfl) h39) QE.refl ?_
      rfl
    · refine stepq_env rfl rfl rfl fun _ _ _ _ _ hm _ _ hsz hd _ _ => ?_
      have h35 := hd ⟨35, .guard⟩ (by simp) rfl _ rfl
      have h40 := hd ⟨40, .data⟩ (by simp) rfl _ rfl
      refine qe_run rfl ((wanted_of rfl rfl (hsz 133 (by decide)) h35).trans rfl) (ex_load1 rfl Try.underlying38 rfl h40 ((HQ2.out.mod hm.old (by intro k h1 h2; omega)).2 0 _ rfl)) QE.refl ?_
      rfl
    · refine stepq_env rfl rfl rfl fun _ _ _ _ _ _ _ _ hsz hd _ _ => ?_
      have h35 := hd ⟨35, .guard⟩ (by simp) rfl _ rfl
      have h41 := hd ⟨41, .data⟩ (by simp) rfl _ rfl
      refine qe_run rfl ((wanted_of rfl rfl (hsz 133 (by decide)) h35).trans rfl) (ex_lenS rfl h41 Try.underlying38) QE.refl ?_
      rfl
    · refine stepq_env rfl rfl rfl fun _ _ _ _ _ _ _ _ hsz hd _ _ => ?_
      have h35 := hd ⟨35, .guard⟩ (by simp) rfl _ rfl
      have h37 := hd ⟨37, .data⟩ (by simp) rfl _ rfl
      have h42 := hd ⟨42, .data⟩ (by simp) rfl _ rfl
      refine qe_run rfl ((wanted_of rfl rfl (hsz 133 (by decide)) h35).trans rfl) (ex_binE rfl h37 h42 (guard_ints _ _ _ _ _ _) (run_eql_i _ _ _ Try.underlying3) (congrArg Value.bool (beq_self_eq_true _))) QE.refl ?_
      rfl
    · exact stq (fun E => ex_pick rfl (E.d 35) (E.d 43) rfl)
    · exact stq (fun E => ex_move rfl (E.d 44))
    · refine stepq_env rfl rfl rfl fun _ _ _ _ _ _ _ hout hsz hd _ _ => ?_
      have h45 := hd ⟨45, .guard⟩ (by simp) rfl _ rfl
      refine qe_run rfl ((wanted_of rfl rfl (hsz 143 (by decide)) h45).trans rfl) (ex_move rfl ((hout 20 (by decide)).trans oe20)) QE.refl ?_
      rfl
    · refine stepq_env rfl rfl rfl fun _ _ _ _ _ hm _ _ hsz hd _ _ => ?_
      have h45 := hd ⟨45, .chain⟩ (by simp) rfl _ rfl
      have h46 := hd ⟨46, .data⟩ (by simp) rfl _ rfl
      refine qe_callF (args := #[.pointer (some ⟨r3, 0, none⟩)]) rfl ((wanted_of rfl rfl (hsz 143 (by decide)) h45).trans rfl) rfl Try.func40 (args1 h46) (Left_R (Hx70.out.mod hm.old (by intro k h1 h2; omega))) ?_
      rintro e w2 ⟨rfl, rfl⟩
      exact ⟨_, rfl, QE.refl, rfl⟩
    · refine stepq_env rfl rfl rfl fun _ _ _ _ _ _ _ hout hsz hd _ _ => ?_
      have h45 := hd ⟨45, .guard⟩ (by simp) rfl _ rfl
      refine qe_run rfl ((wanted_of rfl rfl (hsz 143 (by decide)) h45).trans rfl) (ex_move rfl ((hout 23 (by decide)).trans oe23)) QE.refl ?_
      rfl
    · refine stepq_env rfl rfl rfl fun _ _ _ _ _ _ _ _ hsz hd _ _ => ?_
      have h45 := hd ⟨45, .guard⟩ (by simp) rfl _ rfl
      have h48 := hd ⟨48, .data⟩ (by simp) rfl _ rfl
      refine qe_run rfl ((wanted_of rfl rfl (hsz 143 (by decide)) h45).trans rfl) (ex_nil rfl h48) QE.refl ?_
      rfl
    · refine stepq_env rfl rfl rfl fun _ _ _ _ _ _ _ _ hsz hd _ _ => ?_
      have h45 := hd ⟨45, .guard⟩ (by simp) rfl _ rfl
      have h49 := hd ⟨49, .data⟩ (by simp) rfl _ rfl
      refine qe_run rfl ((wanted_of rfl rfl (hsz 143 (by decide)) h45).trans rfl) (ex_field rfl Try.underlying74 rfl (by kernel_rfl) h49) QE.refl ?_
      rfl
    · refine stepq_env rfl rfl rfl fun _ _ _ _ _ hm _ _ hsz hd _ _ => ?_
      have h45 := hd ⟨45, .guard⟩ (by simp) rfl _ rfl
      have h50 := hd ⟨50, .data⟩ (by simp) rfl _ rfl
      refine qe_run rfl ((wanted_of rfl rfl (hsz 143 (by decide)) h45).trans rfl) (ex_load1 rfl Try.underlying38 rfl h50 ((HQ3.out.mod hm.old (by intro k h1 h2; omega)).2 0 _ rfl)) QE.refl ?_
      rfl
    · refine stepq_env rfl rfl rfl fun _ _ _ _ _ _ _ _ hsz hd _ _ => ?_
      have h45 := hd ⟨45, .guard⟩ (by simp) rfl _ rfl
      have h51 := hd ⟨51, .data⟩ (by simp) rfl _ rfl
      refine qe_run rfl ((wanted_of rfl rfl (hsz 143 (by decide)) h45).trans rfl) (ex_lenS rfl h51 Try.underlying38) QE.refl ?_
      rfl
    · refine stepq_env rfl rfl rfl fun _ _ _ _ _ _ _ _ hsz hd _ _ => ?_
      have h45 := hd ⟨45, .guard⟩ (by simp) rfl _ rfl
      have h47 := hd ⟨47, .data⟩ (by simp) rfl _ rfl
      have h52 := hd ⟨52, .data⟩ (by simp) rfl _ rfl
      refine qe_run rfl ((wanted_of rfl rfl (hsz 143 (by decide)) h45).trans rfl) (ex_binE rfl h47 h52 (guard_ints _ _ _ _ _ _) (run_eql_i _ _ _ Try.underlying3) (congrArg Value.bool (beq_self_eq_true _))) QE.refl ?_
      rfl
    · exact stq (fun E => ex_pick rfl (E.d 45) (E.d 53) rfl)
    · exact stq (fun E => ex_move rfl (E.d 54))
    · exact stepq_chain rfl
    · exact stq (fun E => ex_pick rfl (E.d 55) (E.d 56) rfl)
    · exact stq (fun E => ex_assign rfl (E.d 57))
    intro u17_0 hr
    have zu17_0 := hr.size
    have Cx74 := hid (hr.new (S := (fun _ => False)))
    clear hr
    refine QChain.go fun Z act E => ?_
    refine qc_callF (args := #[]) rfl ((wanted_of rfl rfl (E.sz 153 (by decide)) (E.e 55 .chain)).trans rfl) rfl Try.func19 args0 (wakes05 _) ?_
    rintro e u17_1a ⟨rfl, hm⟩
    have zu17_1a := hm.size
    refine ⟨_, rfl, hm.mono (fun _ _ h => h.elim), (fun _ => rfl), ?_⟩
    intro u17_1 hr
    have zu17_1 := hr.size
    have Cx75 := hid (Cx74.out.go hm hr)
    clear Cx74 hm hr Z act E
    refine QChain.nil fun vs hl hzz hrows hne => ?_
    obtain ⟨Z, hYZ, hZb, hV⟩ := hzz
    have f0 := fvi hV hl 0
    have f1 := fvi hV hl 1
    have f2 := fvi hV hl 2
    have f7 := fvi hV hl 7
    have f8 := fvi hV hl 8
    have f9 := fvi hV hl 9
    have f10 := fvi hV hl 10
    have f16 := fvi hV hl 16
    have f17 := fvi hV hl 17
    have f18 := fvi hV hl 18
    have f19 := fvi hV hl 19
    have f25 := fvi hV hl 25
    have f26 := fvi hV hl 26
    have f27 := fvi hV hl 27
    have f28 := fvi hV hl 28
    have f32 := fvi hV hl 32
    have f35 := fvi hV hl 35
    have f36 := fvi hV hl 36
    have f37 := fvi hV hl 37
    have f38 := fvi hV hl 38
    have f42 := fvi hV hl 42
    have f45 := fvi hV hl 45
    have f46 := fvi hV hl 46
    have f47 := fvi hV hl 47
    have f48 := fvi hV hl 48
    have f52 := fvi hV hl 52
    have f55 := fvi hV hl 55
    have f56 := fvi hV hl 56
    have f58 := fvi hV hl 58
    rw [show vs = [gw vs 0, gw vs 1, gw vs 2, gw vs 3, gw vs 4, gw vs 5, gw vs 6, gw vs 7, gw vs 8, gw vs 9, gw vs 10, gw vs 11, gw vs 12, gw vs 13, gw vs 14, gw vs 15, gw vs 16, gw vs 17, gw vs 18, gw vs 19, gw vs 20, gw vs 21, gw vs 22, gw vs 23, gw vs 24, gw vs 25, gw vs 26, gw vs 27, gw vs 28, gw vs 29, gw vs 30, gw vs 31, gw vs 32, gw vs 33, gw vs 34, gw vs 35, gw vs 36, gw vs 37, gw vs 38, gw vs 39, gw vs 40, gw vs 41, gw vs 42, gw vs 43, gw vs 44, gw vs 45, gw vs 46, gw vs 47, gw vs 48, gw vs 49, gw vs 50, gw vs 51, gw vs 52, gw vs 53, gw vs 54, gw vs 55, gw vs 56, gw vs 57, gw vs 58] from (gw_eta hl).trans rfl]
    have ha0 := HA0.out
    subst ha0
    clear HA0 hV hYZ hZb hsz0 hrows hne oe18 oe19 oe20 oe21 oe22 oe23
    simp only [putAll, Act.put, List.setIfInBounds_toArray, List.set_cons_zero, List.set_cons_succ, f0, f1, f2, f7, f8, f9, f10, f16, f17, f18, f19, f25, f26, f27, f28, f32, f35, f36, f37, f38, f42, f45, f46, f47, f48, f52, f55, f56, f58]
    clear hl f0 f1 f2 f7 f8 f9 f10 f16 f17 f18 f19 f25 f26 f27 f28 f32 f35 f36 f37 f38 f42 f45 f46 f47 f48 f52 f55 f56 f58
    go_wp2
    go_ret
    exact ⟨rfl, (((((Hx22.out.trans Cx24.out (fun _ _ h => h.elim)).trans Cx30.out (fun _ _ h => h.elim)).trans Cx44.out (fun _ _ h => h.elim)).trans Cx67.out (by intro k h1 h2; omega)).trans Cx75.out (fun _ _ h => h.elim))⟩
end Go.Proofs.Ytknpapcfhnhheaa
