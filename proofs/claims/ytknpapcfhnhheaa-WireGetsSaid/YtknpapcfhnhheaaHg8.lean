/- Texts that are built one behind the other: XCut3, XPt2, XWt1, XRf1, XRf2. No condition. -/
import Derived.Test.YtknpapcfhnhheaaHg7
/- Batches that are cut. -/
set_option maxRecDepth 100000
set_option linter.unusedVariables false
namespace Go.Proofs.Ytknpapcfhnhheaa
open Go Go.RowKit Go.Gv


def cutOp (x : Op) : Op := { x with pl := x.pl.take 260 }
def cutTb (x : Tb) : Tb := { x with l := x.l.take 5 }
def cutBa (x : Ba) : Ba := { x with ps := (x.ps.take 4).map cutPm, os := (x.os.take 4).map cutOp, ts := (x.ts.take 4).map cutTb }
theorem RdR_len {R : Nat → Prop} {N : Nat} {w : World} {v : Value} {bs : List Int} (h : RdR R N w v bs) : RdR R bs.length w v bs := ⟨h.1, h.2.1, Nat.le_refl _⟩
theorem op_len (x : Op) (v : Value) (h : x.nc.length = 32) : (x.cells v).length = 34 := by simp [Op.cells, h]
theorem lay_pl (x y : Op) (u v : Value) (h : y.ix = x.ix ∧ y.nc = x.nc) : lay (x.cells u).toArray 1 [v] = (y.cells v).toArray := by
  obtain ⟨h1, h2⟩ := h
  simp [lay, Op.cells, h1, h2]
theorem lay_tl (x y : Tb) (u v : Value) (h : y.ix = x.ix) : lay (x.cells u).toArray 1 [v] = (y.cells v).toArray := by
  simp [lay, Tb.cells, h]
set_option maxHeartbeats 8000000 in
theorem LBatch_c : CutR BaR 25 cutBa := by
  intro R2 x cs w hx hB2
  obtain ⟨v_ps, v_os, v_ts, rfl, hok, hs0, hs1, hs2⟩ := hx
  obtain ⟨ao_ps, cap_ps, rfl⟩ := hs0.shape
  obtain ⟨ao_os, cap_os, rfl⟩ := hs1.shape
  obtain ⟨ao_ts, cap_ts, rfl⟩ := hs2.shape
  have HS0 := Lib.hid hs0
  have HS1 := Lib.hid hs1
  have HS2 := Lib.hid hs2
  have HBT := Lib.hid hB2
  have HOK := Lib.hid hok
  clear hs0 hs1 hs2 hB2 hok
  go_enter Try.func25, Try.ntmps25
  go_upto_region 1 with (fail)
  obtain ⟨w1, hw1⟩ : ∃ zz, zz = ((w.alloc (.cells (x.cells (.slice ao_ps x.ps.length cap_ps) (.slice ao_os x.os.length cap_os) (.slice ao_ts x.ts.length cap_ts) : List Value).toArray 60)).alloc (.cells #[.int .i64 0, .int .u64 0, .slice none 0 0, .slice none 0 0, .slice none 0 0] 60)) := ⟨_, rfl⟩
  change Code.wp _ _ _ _ ((w.alloc (.cells (x.cells (.slice ao_ps x.ps.length cap_ps) (.slice ao_os x.os.length cap_os) (.slice ao_ts x.ts.length cap_ts) : List Value).toArray 60)).alloc (.cells #[.int .i64 0, .int .u64 0, .slice none 0 0, .slice none 0 0, .slice none 0 0] 60))
  rw [← hw1]
  have HB1 := hid (show Cs w1 (w.heap.size) (x.cells (.slice ao_ps x.ps.length cap_ps) (.slice ao_os x.os.length cap_os) (.slice ao_ts x.ts.length cap_ts) : List Value).toArray 60 by rw [hw1]; exact (Cs.new _ _ _).alloc _)
  have HB2 := hid (show Cs w1 (w.heap.size + 1) #[.int .i64 0, .int .u64 0, .slice none 0 0, .slice none 0 0, .slice none 0 0] 60 by rw [hw1]; exact Cs_newN _ _ _ (by simp))
  have hm : Mod (fun _ => False) w w1 := by rw [hw1]; exact ((Mod.refl _ _).alloc _).alloc _
  have HM0 := hid (show Mod (fun _ => False) w w1 from hm.mono (fun _ _ h => h.elim))
  have hs1 : w1.heap.size = w.heap.size + 2 := by rw [hw1]; simp
  have Hx1 := hid (HS0.out.mod hm (fun _ _ h => h))
  clear HS0
  have Hx2 := hid (HS1.out.mod hm (fun _ _ h => h))
  clear HS1
  have Hx3 := hid (HS2.out.mod hm (fun _ _ h => h))
  clear HS2
  clear hw1 hm
  go_wp2
  go_loopw [3, 4] (fun ta ti wr => ∃ k : Nat, ti = .int .i64 (k : Int) ∧ k ≤ x.ps.length ∧ k ≤ 4 ∧ w1.heap.size ≤ wr.heap.size ∧ OwS PmR 55 (fun b => w1.heap.size ≤ b ∧ b < wr.heap.size) (fun b => R2 b ∨ (w1.heap.size ≤ b ∧ b < wr.heap.size)) wr ta ((x.ps.take k).map cutPm) ∧ RdS PmR R2 wr (.slice ao_ps x.ps.length cap_ps) x.ps ∧ RdS OpR R2 wr (.slice ao_os x.os.length cap_os) x.os ∧ RdS TbR R2 wr (.slice ao_ts x.ts.length cap_ts) x.ts ∧ Cs wr (w.heap.size) (x.cells (.slice ao_ps x.ps.length cap_ps) (.slice ao_os x.os.length cap_os) (.slice ao_ts x.ts.length cap_ts) : List Value).toArray 60 ∧ Cs wr (w.heap.size + 1) #[.int .i64 0, .int .u64 0, .slice none 0 0, .slice none 0 0, .slice none 0 0] 60 ∧ Mod (fun _ => False) w wr) (fun _ ti _ => x.ps.length - (intOf ti).toNat)
  case atStart => exact ⟨0, rfl, Nat.zero_le _, Nat.zero_le _, Nat.le_refl _, OwS.nil _ _ _ _ _, Hx1.out, Hx2.out, Hx3.out, HB1.out, HB2.out, HM0.out⟩
  case round =>
    obtain ⟨k1, rfl, hk, hkN, hz, ha, hk_0, hk_1, hk_2, hk_3, hk_4, hm⟩ := hrel
    obtain ⟨wl1, rfl⟩ : ∃ x, x = wr := ⟨_, rfl⟩
    obtain ⟨aol1, capl1, rfl⟩ := ha.shape
    have HAL1 := Lib.hid ha
    have HKL1_0 := Lib.hid hk_0
    have HKL1_1 := Lib.hid hk_1
    have HKL1_2 := Lib.hid hk_2
    have HKL1_3 := Lib.hid hk_3
    have HKL1_4 := Lib.hid hk_4
    have HML1 := Lib.hid hm
    clear ha hm hk_0 hk_1 hk_2 hk_3 hk_4 Hx1 Hx2 Hx3 HB1 HB2 HM0
    by_cases hlt1 : k1 < x.ps.length ∧ k1 < 4
    · obtain ⟨hlt1, hlN1⟩ := hlt1
      go_upto_region 3 with (fail)
      generalize ha0 : Act.mk _ _ = a0
      have oe1 : a0.eval (.tmp 1) = .pointer (some ⟨w.heap.size, 0, none⟩) := by rw [← ha0]; rfl
      have oe4 : a0.eval (.tmp 4) = .int .i64 ((k1 : Nat) : Int) := by rw [← ha0]; rfl
      have hsz0 : a0.tmps.size = 86 := by rw [← ha0]; rfl
      have HA0 := hid ha0
      clear ha0
      refine wp_region_Q0 86 hsz0 [11, 12, 13, 14, 15, 16, 17, 18, 19] [qi (.int .i64 ((k1 : Nat) : Int)), qi (.pointer (some ⟨w.heap.size, 2, none⟩)), qi (.slice ao_ps x.ps.length cap_ps), qi (.int .i64 x.ps.length), qi (.bool true), qi (.bool true), qi (.int .i64 ((k1 : Nat) : Int)), qi (.bool true), qi (.bool true)] ⟨qi_stable, qi_stable, qi_stable, qi_stable, qi_stable, qi_stable, qi_stable, qi_stable, qi_stable, trivial⟩ [] ⟨?_, ?_, ?_, ?_, ?_, ?_, ?_, ?_, ?_, trivial⟩ ?_
      · exact stq (fun E => ex_move rfl (E.v oe4))
      · exact stq (fun E => ex_field rfl Try.underlying60 rfl (by kernel_rfl) (E.v oe1))
      · exact stq (fun E => ex_load1 rfl Try.underlying56 rfl (E.d 1) (Cs.lit1 (HKL1_3.out.mod E.m.old (by intro h2; omega)) rfl))
      · exact stq (fun E => ex_lenS rfl (E.d 2) Try.underlying56)
      · exact stq (fun E => ex_binE rfl (E.d 0) (E.d 3) (guard_ints _ _ _ _ _ _) (run_lss_i _ _ _ Try.underlying3) (congrArg Value.bool (decide_eq_true (by omega))))
      · exact stq (fun E => ex_move rfl (E.d 4))
      · refine stepq_env rfl rfl rfl fun _ _ _ _ _ _ _ hout hsz hd _ _ => ?_
        have h5 := hd ⟨5, .guard⟩ (by simp) rfl _ rfl
        refine qe_run rfl ((wanted_of rfl rfl (hsz 16 (by decide)) h5).trans rfl) (ex_move rfl ((hout 4 (by decide)).trans oe4)) QE.refl ?_
        rfl
      · refine stepq_env rfl rfl rfl fun _ _ _ _ _ _ _ _ hsz hd _ _ => ?_
        have h5 := hd ⟨5, .guard⟩ (by simp) rfl _ rfl
        have h6 := hd ⟨6, .data⟩ (by simp) rfl _ rfl
        refine qe_run rfl ((wanted_of rfl rfl (hsz 16 (by decide)) h5).trans rfl) (ex_binE rfl h6 rfl (guard_ints _ _ _ _ _ _) (run_lss_i _ _ _ Try.underlying3) (congrArg Value.bool (decide_eq_true (by omega)))) QE.refl ?_
        rfl
      · exact stq (fun E => ex_pick rfl (E.d 5) (E.d 7) rfl)
      intro u3_0 hr
      have zu3_0 := hr.size
      have Cx4 := hid (hr.new (S := (fun _ => False)))
      clear hr
      refine QChain.nil fun vs hl hzz hrows hne => ?_
      obtain ⟨Z, hYZ, hZb, hV⟩ := hzz
      have f0 := fvi hV hl 0
      have f3 := fvi hV hl 3
      have f5 := fvi hV hl 5
      have f6 := fvi hV hl 6
      have f8 := fvi hV hl 8
      rw [show vs = [gw vs 0, gw vs 1, gw vs 2, gw vs 3, gw vs 4, gw vs 5, gw vs 6, gw vs 7, gw vs 8] from (gw_eta hl).trans rfl]
      have ha0 := HA0.out
      subst ha0
      clear HA0 hV hYZ hZb hsz0 hrows hne oe1 oe4
      simp only [putAll, Act.put, List.setIfInBounds_toArray, List.set_cons_zero, List.set_cons_succ, f0, f3, f5, f6, f8]
      clear hl f0 f3 f5 f6 f8
      have hat := (HKL1_0.out.mod Cx4.out (fun _ _ h => h)).at hlt1
      obtain ⟨g1, o1, cs1, eao, hrg, hrd, hcs⟩ := hat
      subst eao
      have hcl : cs1.length = 6 := PmR.len hrd
      have HCL1 := Lib.hid hcl
      have HAT1 := hid (show CellsAt R2 u3_0 g1 (o1 + k1 * 6) cs1 from ⟨hrg, hcs⟩)
      have HRD1 := Lib.hid hrd
      have HOC1 := hid (PmR.one hrd)
      clear hcl hcs hrd hrg
      have HE1 : Hid (((x.ps.take k1).map cutPm) ++ [cutPm x.ps[k1]] = (x.ps.take (k1 + 1)).map cutPm) := hid (by rw [List.take_succ_eq_append_getElem hlt1, List.map_append]; rfl)
      have HLN1 : Hid (((x.ps.take k1).map cutPm).length = k1) := hid (by rw [List.length_map, List.length_take]; omega)
      go_upto_region 5 with (fail)
      generalize ha0 : Act.mk _ _ = a0
      have oe1 : a0.eval (.tmp 1) = .pointer (some ⟨w.heap.size, 0, none⟩) := by rw [← ha0]; rfl
      have oe3 : a0.eval (.tmp 3) = .slice aol1 ((x.ps.take k1).map cutPm).length capl1 := by rw [← ha0]; rfl
      have oe4 : a0.eval (.tmp 4) = .int .i64 ((k1 : Nat) : Int) := by rw [← ha0]; rfl
      have hsz0 : a0.tmps.size = 86 := by rw [← ha0]; rfl
      have HA0 := hid ha0
      clear ha0
      refine wp_region_Q1 86 hsz0 [22, 23, 24, 25, 26, 27, 28, 29, 30, 3] (fun k => (New w1 wl1 k)) (fun k j => (k = 2 ∧ ((New w1 wl1 j)))) (fun _ _ h => h.2) [qi (.slice aol1 ((x.ps.take k1).map cutPm).length capl1), qi (.pointer (some ⟨w.heap.size, 2, none⟩)), qi (.slice (some ⟨g1, o1, none⟩) x.ps.length cap_ps), qi (.int .i64 ((k1 : Nat) : Int)), qi (.pointer (some ⟨g1, o1 + k1 * 6, none⟩)), qi (.agg cs1.toArray), qv 0, qv 1, qv 2, qv 2] ⟨qi_stable, qi_stable, qi_stable, qi_stable, qi_stable, qi_stable, qv_stable, qv_stable, qv_stable, qv_stable, trivial⟩ [6, 7, 8] ⟨?_, ?_, ?_, ?_, ?_, ?_, ?_, ?_, ?_, ?_, trivial⟩ ?_
      · exact stq (fun E => ex_move rfl ((E.pre 9 3 rfl (by kernel_rfl)).trans oe3))
      · exact stq (fun E => ex_field rfl Try.underlying60 rfl (by kernel_rfl) (E.v oe1))
      · exact stq (fun E => ex_load1 rfl Try.underlying56 rfl (E.d 1) (Cs.lit1 ((HKL1_3.out.mod Cx4.out (fun h => h)).mod E.m (by intro h2; omega)) rfl))
      · exact stq (fun E => ex_move rfl (E.v oe4))
      · exact stq (fun E => ex_idxS (i := k1) (s := 6) rfl Try.underlying56 (by kernel_rfl) (E.d 2) (E.d 3) hlt1)
      · exact stq (fun E => ex_loadA rfl Try.underlying55 rfl (off := o1 + k1 * 6) (cs := cs1) (by rw [HCL1.out]; kernel_rfl) (E.d 4) (fun j u hu => ((HAT1.out.mod E.m (by intro k h1 h2; rcases h2 with ⟨h0, h2⟩ | h2 <;> (first | omega | (have hb := HBT.out k h1; omega))))).2 j u hu))
      · exact stepq_chain rfl
      · exact stepq_chain rfl
      · exact stepq_chain rfl
      · refine stepq_env rfl rfl rfl fun _ _ _ _ _ _ _ _ _ hd _ _ => ?_
        have h8 := hd ⟨8, .data⟩ (by simp) rfl _ rfl
        exact qe_run rfl (wanted_none rfl) (ex_assign rfl rfl) QE.refl h8
      intro u5_0 hr
      have zu5_0 := hr.size
      have Cx5 := hid (hr.new (S := (fun k => (New w1 wl1 k))))
      have Hx6 := hid ((HAL1.out.mod Cx4.out (fun _ _ h => h) (fun _ _ h => h)).mod hr (by intro k h1 h2; omega) (by intro k h1 h2; rcases h1 with h1 | h1 <;> first | omega | (have hb := HBT.out k h1; omega)))
      clear HAL1
      clear hr
      refine QChain.go fun Z act E => ?_
      refine qc_callF (args := #[.agg cs1.toArray]) rfl (wanted_none rfl) rfl Try.func23 (args1 (E.d 5)) (LPromise_c _ _ _ _ (HRD1.out.mod Cx5.out (by intro k h1 h2; have hb := HBT.out k h1; omega)) (by intro k h1; have hb := HBT.out k h1; omega)) ?_
      rintro e u5_1a ⟨cs', rfl, qel, hm⟩
      have zu5_1a := hm.size
      refine ⟨_, rfl, hm.mono (fun _ _ h => h.elim), (fun _ => rfl), ?_⟩
      intro u5_1 hr
      have zu5_1 := hr.size
      have Hx7 := hid ((qel.widen (R' := (fun k => (R2 k) ∨ (New u5_0 u5_1a k))) (fun _ h => h)).mod hr (by intro k h1 h2; rcases h1 with h1 | h1 <;> first | omega | (have hb := HBT.out k h1; omega)))
      have hmr := Mod.after hm hr
      have Hx8 := hid (Hx6.out.mod hmr (by intro k h1 h2; omega) (by intro k h1 h2; rcases h1 with h1 | h1 <;> first | omega | (have hb := HBT.out k h1; omega)))
      clear Hx6
      clear hmr
      have Cx9 := hid (Cx5.out.go hm hr)
      clear Cx5 hm hr Z act E qel HRD1
      refine QChain.go fun Z act E => ?_
      refine qc_buildS (e := 55) (cs := cs') (zc := [.int .i64 0, .int .i64 0, .int .u64 0, .slice none 0 0, .int .i64 0, .int .i64 0]) (sz := 6) rfl (wanted_none rfl) rfl Try.underlying56 (by kernel_rfl) rfl (by decide) (by decide) (chv (v := .agg cs'.toArray) (E.d 6)) (PmR.len Hx7.out) ?_
      intro u5_2a qrow hm
      have zl5_7 := qrow.lt
      have zu5_2a := hm.size
      refine ⟨hm.mono (fun _ _ h => h.elim), (fun _ => rfl), ?_⟩
      intro u5_2 hr
      have zu5_2 := hr.size
      have Hx10 := hid (qrow.mod hr (by intro h2; omega))
      have hmr := Mod.after hm hr
      have Hx11 := hid (Hx8.out.mod hmr (by intro k h1 h2; omega) (by intro k h1 h2; rcases h1 with h1 | h1 <;> first | omega | (have hb := HBT.out k h1; omega)))
      have Hx12 := hid (Hx7.out.mod hmr (by intro k h1 h2; rcases h1 with h1 | h1 <;> first | omega | (have hb := HBT.out k h1; omega)))
      clear Hx8 Hx7
      clear hmr
      have Cx13 := hid (Cx9.out.go hm hr)
      clear Cx9 hm hr Z act E qrow
      refine QChain.go fun Z act E => ?_
      refine qc_appS (A := PmR) (e := 55) rfl (wanted_none rfl) rfl (.agg #[.int .i64 0, .int .i64 0, .int .u64 0, .slice none 0 0, .int .i64 0, .int .i64 0]) 64 Try.underlying56 info_Pm (by rfl) (of_decide_eq_true (by kernel_rfl)) (E.d 0) (chv (v := .slice (some ⟨u5_1.heap.size, 0, none⟩) 1 1) (E.d 7)) (Hx11.out) (RdS.single (R := (fun k => (R2 k) ∨ (New u5_0 u5_1a k) ∨ (k = u5_1.heap.size))) Hx10.out (Hx12.out.widen (by intro k h1; rcases h1 with h1 | h1 <;> first | omega | exact h1.elim | exact Or.inl h1 | exact Or.inr (Or.inl h1) | exact Or.inr (Or.inr (h1)))) (by first | exact Or.inr rfl | exact Or.inr (Or.inr rfl) | (right; omega))) (by intro k h1 h2; rcases h1 with h1 | h1 | h1 <;> first | omega | (have hb := HBT.out k h1; omega)) (by rw [HLN1.out]; simp only [List.length_cons, List.length_nil]; omega) (by rw [HLN1.out, maxLen_val]; simp only [List.length_cons, List.length_nil]; omega) ?_
      intro ao8 cap8 u5_3a qacc1 hm
      have zu5_3a := hm.size
      refine ⟨hm.mono (by intro k hk h; omega), (fun _ => rfl), ?_⟩
      intro u5_3 hr
      have zu5_3 := hr.size
      have Hx14 := hid ((qacc1.widen (R' := (fun k => (New w1 wl1 k) ∨ (New u5_2 u5_3a k))) (E' := (fun k => (R2 k) ∨ (New w1 wl1 k) ∨ (New u5_0 u5_1a k) ∨ (k = u5_1.heap.size))) (fun _ h => h) (by intro k h1; rcases h1 with (h1 | h1) | (h1 | h1 | h1) <;> first | omega | exact h1.elim | exact Or.inl h1 | exact Or.inr (Or.inl h1) | exact Or.inr (Or.inr (Or.inl h1)) | exact Or.inr (Or.inr (Or.inr (h1))))).mod hr (by intro k h1 h2; omega) (by intro k h1 h2; rcases h1 with h1 | h1 | h1 | h1 <;> first | omega | (have hb := HBT.out k h1; omega)))
      have hmr := hm.two hr
      have Hx15 := hid (Hx12.out.mod hmr (by intro k h1 h2; rcases h1 with h1 | h1 <;> first | omega | (have hb := HBT.out k h1; omega)))
      have Hx16 := hid (Hx10.out.mod hmr (by intro h2; omega))
      clear Hx12 Hx10
      clear hmr
      have Cx17 := hid (Cx13.out.goM hm hr (fun _ _ h => h))
      clear Cx13 hm hr Z act E qacc1 Hx11
      refine QChain.nil fun vs hl hzz hrows hne => ?_
      obtain ⟨Z, hYZ, hZb, hV⟩ := hzz
      have f0 := fvi hV hl 0
      have f3 := fvi hV hl 3
      have f6 := fvc hV hl 6
      have f7 := fvc hV hl 7
      have f8 := fvc hV hl 8
      have f9 := fvc hV hl 9
      rw [show vs = [gw vs 0, gw vs 1, gw vs 2, gw vs 3, gw vs 4, gw vs 5, gw vs 6, gw vs 7, gw vs 8, gw vs 9] from (gw_eta hl).trans rfl]
      have ha0 := HA0.out
      subst ha0
      clear HA0 hV hYZ hZb hsz0 hrows hne oe1 oe3 oe4
      simp only [putAll, Act.put, List.setIfInBounds_toArray, List.set_cons_zero, List.set_cons_succ, f0, f3, f6, f7, f8, f9]
      clear hl f0 f3 f6 f7 f8 f9
      have hq := Hx14.out
      rw [HE1.out] at hq
      have HQ1 := Lib.hid hq
      clear hq
      go_wp2
      go_roundw
      case rel => exact ⟨k1 + 1, by go_num, by omega, by omega, by omega, (HQ1.out.widen (by intro b h1; omega) (by intro k h1; rcases h1 with h1 | h1 | h1 | h1 <;> first | omega | exact h1.elim | exact Or.inl h1 | exact Or.inr (h1))), ((HKL1_0.out.mod Cx4.out (fun _ _ h => h)).mod Cx17.out (by intro k h1 h2; have hb := HBT.out k h1; omega)), ((HKL1_1.out.mod Cx4.out (fun _ _ h => h)).mod Cx17.out (by intro k h1 h2; have hb := HBT.out k h1; omega)), ((HKL1_2.out.mod Cx4.out (fun _ _ h => h)).mod Cx17.out (by intro k h1 h2; have hb := HBT.out k h1; omega)), ((HKL1_3.out.mod Cx4.out (fun h => h)).mod Cx17.out (by intro h2; omega)), ((HKL1_4.out.mod Cx4.out (fun h => h)).mod Cx17.out (by intro h2; omega)), ((HML1.out.trans Cx4.out (fun _ _ h => h.elim)).trans Cx17.out (by intro k h1 h2; omega))⟩
      case measure => simp [intOf]; omega
    · skip
      obtain ⟨bA1, hbA1⟩ : ∃ b : Bool, b = decide (((k1 : Nat) : Int) < (x.ps.length : Int)) := ⟨_, rfl⟩
      obtain ⟨bB1, hbB1⟩ : ∃ b : Bool, b = decide (((k1 : Nat) : Int) < 4) := ⟨_, rfl⟩
      go_upto_region 3 with (fail)
      generalize ha0 : Act.mk _ _ = a0
      have oe1 : a0.eval (.tmp 1) = .pointer (some ⟨w.heap.size, 0, none⟩) := by rw [← ha0]; rfl
      have oe4 : a0.eval (.tmp 4) = .int .i64 ((k1 : Nat) : Int) := by rw [← ha0]; rfl
      have hsz0 : a0.tmps.size = 86 := by rw [← ha0]; rfl
      have HA0 := hid ha0
      clear ha0
      refine wp_region_Q0 86 hsz0 [11, 12, 13, 14, 15, 16, 17, 18, 19] [qi (.int .i64 ((k1 : Nat) : Int)), qi (.pointer (some ⟨w.heap.size, 2, none⟩)), qi (.slice ao_ps x.ps.length cap_ps), qi (.int .i64 x.ps.length), qi (.bool bA1), qi (.bool bA1), qc bA1 (qi (.int .i64 ((k1 : Nat) : Int))), qc bA1 (qi (.bool bB1)), qi (.bool (bA1 && bB1))] ⟨qi_stable, qi_stable, qi_stable, qi_stable, qi_stable, qi_stable, (qc_stable qi_stable), (qc_stable qi_stable), qi_stable, trivial⟩ [] ⟨?_, ?_, ?_, ?_, ?_, ?_, ?_, ?_, ?_, trivial⟩ ?_
      · exact stq (fun E => ex_move rfl (E.v oe4))
      · exact stq (fun E => ex_field rfl Try.underlying60 rfl (by kernel_rfl) (E.v oe1))
      · exact stq (fun E => ex_load1 rfl Try.underlying56 rfl (E.d 1) (Cs.lit1 (HKL1_3.out.mod E.m.old (by intro h2; omega)) rfl))
      · exact stq (fun E => ex_lenS rfl (E.d 2) Try.underlying56)
      · exact stq (fun E => ex_binE rfl (E.d 0) (E.d 3) (guard_ints _ _ _ _ _ _) (run_lss_i _ _ _ Try.underlying3) (congrArg Value.bool hbA1.symm))
      · exact stq (fun E => ex_move rfl (E.d 4))
      · refine stepq_env rfl rfl rfl fun _ _ _ _ _ _ _ hout hsz hd _ _ => ?_
        have h5 := hd ⟨5, .guard⟩ (by simp) rfl _ rfl
        refine qe_guard rfl (b := bA1) ((wanted_of rfl rfl (hsz 16 (by decide)) h5).trans (by simp)) rfl (fun hb l' hl' => ?_)
        refine qe_run rfl ((wanted_of rfl rfl (hsz 16 (by decide)) h5).trans (by first | exact hb | simpa using hb)) (ex_move rfl ((hout 4 (by decide)).trans oe4)) QE.refl ?_
        rw [hl']; rfl
      · refine stepq_env rfl rfl rfl fun _ _ _ _ _ _ _ _ hsz hd _ _ => ?_
        have h5 := hd ⟨5, .guard⟩ (by simp) rfl _ rfl
        have h6 := hd ⟨6, .data⟩ (by simp) rfl _ rfl
        refine qe_guard rfl (b := bA1) ((wanted_of rfl rfl (hsz 16 (by decide)) h5).trans (by simp)) rfl (fun hb l' hl' => ?_)
        refine qe_run rfl ((wanted_of rfl rfl (hsz 16 (by decide)) h5).trans (by first | exact hb | simpa using hb)) (ex_binE rfl (h6.1 hb) rfl (guard_ints _ _ _ _ _ _) (run_lss_i _ _ _ Try.underlying3) (congrArg Value.bool hbB1.symm)) QE.refl ?_
        rw [hl']; rfl
      · exact stq (fun E => ex_pickE rfl (E.d 5) rfl rfl (and_val fun hb => (E.d 7).1 hb))
      intro u3_0 hr
      have zu3_0 := hr.size
      have Cx18 := hid (hr.new (S := (fun _ => False)))
      clear hr
      refine QChain.nil fun vs hl hzz hrows hne => ?_
      obtain ⟨Z, hYZ, hZb, hV⟩ := hzz
      have f0 := fvi hV hl 0
      have f3 := fvi hV hl 3
      have f5 := fvi hV hl 5
      have f8 := fvi hV hl 8
      rw [show vs = [gw vs 0, gw vs 1, gw vs 2, gw vs 3, gw vs 4, gw vs 5, gw vs 6, gw vs 7, gw vs 8] from (gw_eta hl).trans rfl]
      have ha0 := HA0.out
      subst ha0
      clear HA0 hV hYZ hZb hsz0 hrows hne oe1 oe4
      simp only [putAll, Act.put, List.setIfInBounds_toArray, List.set_cons_zero, List.set_cons_succ, f0, f3, f5, f8]
      clear hl f0 f3 f5 f8
      rw [show (bA1 && bB1) = false by rw [hbA1, hbB1, Bool.and_eq_false_iff, decide_eq_false_iff_not, decide_eq_false_iff_not]; omega]
      have HTK1 := hid (show x.ps.take k1 = x.ps.take 4 from take_two (by omega) (by omega))
      go_wp2
      go_loopw [5, 6] (fun ta ti wr => ∃ k : Nat, ti = .int .i64 (k : Int) ∧ k ≤ x.os.length ∧ k ≤ 4 ∧ u3_0.heap.size ≤ wr.heap.size ∧ OwS OpR 87 (fun b => u3_0.heap.size ≤ b ∧ b < wr.heap.size) (fun b => R2 b ∨ (u3_0.heap.size ≤ b ∧ b < wr.heap.size)) wr ta ((x.os.take k).map cutOp) ∧ RdS PmR R2 wr (.slice ao_ps x.ps.length cap_ps) x.ps ∧ RdS OpR R2 wr (.slice ao_os x.os.length cap_os) x.os ∧ RdS TbR R2 wr (.slice ao_ts x.ts.length cap_ts) x.ts ∧ Cs wr (w.heap.size) (x.cells (.slice ao_ps x.ps.length cap_ps) (.slice ao_os x.os.length cap_os) (.slice ao_ts x.ts.length cap_ts) : List Value).toArray 60 ∧ Cs wr (w.heap.size + 1) #[.int .i64 0, .int .u64 0, .slice none 0 0, .slice none 0 0, .slice none 0 0] 60 ∧ OwS PmR 55 (fun b => w1.heap.size ≤ b ∧ b < wl1.heap.size) (fun b => R2 b ∨ (w1.heap.size ≤ b ∧ b < wl1.heap.size)) wr (.slice aol1 ((x.ps.take k1).map cutPm).length capl1) ((x.ps.take k1).map cutPm) ∧ Mod (fun _ => False) w wr) (fun _ ti _ => x.os.length - (intOf ti).toNat)
      case atStart => exact ⟨0, rfl, Nat.zero_le _, Nat.zero_le _, Nat.le_refl _, OwS.nil _ _ _ _ _, (HKL1_0.out.mod Cx18.out (fun _ _ h => h)), (HKL1_1.out.mod Cx18.out (fun _ _ h => h)), (HKL1_2.out.mod Cx18.out (fun _ _ h => h)), (HKL1_3.out.mod Cx18.out (fun h => h)), (HKL1_4.out.mod Cx18.out (fun h => h)), (HAL1.out.mod Cx18.out (fun _ _ h => h) (fun _ _ h => h)), (HML1.out.trans Cx18.out (fun _ _ h => h.elim))⟩
      case round =>
        obtain ⟨k2, rfl, hk, hkN, hz, ha, hk_0, hk_1, hk_2, hk_3, hk_4, hk_5, hm⟩ := hrel
        obtain ⟨wl2, rfl⟩ : ∃ x, x = wr := ⟨_, rfl⟩
        obtain ⟨aol2, capl2, rfl⟩ := ha.shape
        have HAL2 := Lib.hid ha
        have HKL2_0 := Lib.hid hk_0
        have HKL2_1 := Lib.hid hk_1
        have HKL2_2 := Lib.hid hk_2
        have HKL2_3 := Lib.hid hk_3
        have HKL2_4 := Lib.hid hk_4
        have HKL2_5 := Lib.hid hk_5
        have HML2 := Lib.hid hm
        clear ha hm hk_0 hk_1 hk_2 hk_3 hk_4 hk_5 HKL1_0 HKL1_1 HKL1_2 HKL1_3 HKL1_4 HML1 HAL1
        by_cases hlt2 : k2 < x.os.length ∧ k2 < 4
        · obtain ⟨hlt2, hlN2⟩ := hlt2
          go_upto_region 8 with (fail)
          generalize ha0 : Act.mk _ _ = a0
          have oe1 : a0.eval (.tmp 1) = .pointer (some ⟨w.heap.size, 0, none⟩) := by rw [← ha0]; rfl
          have oe6 : a0.eval (.tmp 6) = .int .i64 ((k2 : Nat) : Int) := by rw [← ha0]; rfl
          have hsz0 : a0.tmps.size = 86 := by rw [← ha0]; rfl
          have HA0 := hid ha0
          clear ha0
          refine wp_region_Q0 86 hsz0 [31, 32, 33, 34, 35, 36, 37, 38, 39] [qi (.int .i64 ((k2 : Nat) : Int)), qi (.pointer (some ⟨w.heap.size, 3, none⟩)), qi (.slice ao_os x.os.length cap_os), qi (.int .i64 x.os.length), qi (.bool true), qi (.bool true), qi (.int .i64 ((k2 : Nat) : Int)), qi (.bool true), qi (.bool true)] ⟨qi_stable, qi_stable, qi_stable, qi_stable, qi_stable, qi_stable, qi_stable, qi_stable, qi_stable, trivial⟩ [] ⟨?_, ?_, ?_, ?_, ?_, ?_, ?_, ?_, ?_, trivial⟩ ?_
          · exact stq (fun E => ex_move rfl (E.v oe6))
          · exact stq (fun E => ex_field rfl Try.underlying60 rfl (by kernel_rfl) (E.v oe1))
          · exact stq (fun E => ex_load1 rfl Try.underlying57 rfl (E.d 1) (Cs.lit1 (HKL2_3.out.mod E.m.old (by intro h2; omega)) rfl))
          · exact stq (fun E => ex_lenS rfl (E.d 2) Try.underlying57)
          · exact stq (fun E => ex_binE rfl (E.d 0) (E.d 3) (guard_ints _ _ _ _ _ _) (run_lss_i _ _ _ Try.underlying3) (congrArg Value.bool (decide_eq_true (by omega))))
          · exact stq (fun E => ex_move rfl (E.d 4))
          · refine stepq_env rfl rfl rfl fun _ _ _ _ _ _ _ hout hsz hd _ _ => ?_
            have h5 := hd ⟨5, .guard⟩ (by simp) rfl _ rfl
            refine qe_run rfl ((wanted_of rfl rfl (hsz 36 (by decide)) h5).trans rfl) (ex_move rfl ((hout 6 (by decide)).trans oe6)) QE.refl ?_
            rfl
          · refine stepq_env rfl rfl rfl fun _ _ _ _ _ _ _ _ hsz hd _ _ => ?_
            have h5 := hd ⟨5, .guard⟩ (by simp) rfl _ rfl
            have h6 := hd ⟨6, .data⟩ (by simp) rfl _ rfl
            refine qe_run rfl ((wanted_of rfl rfl (hsz 36 (by decide)) h5).trans rfl) (ex_binE rfl h6 rfl (guard_ints _ _ _ _ _ _) (run_lss_i _ _ _ Try.underlying3) (congrArg Value.bool (decide_eq_true (by omega)))) QE.refl ?_
            rfl
          · exact stq (fun E => ex_pick rfl (E.d 5) (E.d 7) rfl)
          intro u8_0 hr
          have zu8_0 := hr.size
          have Cx19 := hid (hr.new (S := (fun _ => False)))
          clear hr
          refine QChain.nil fun vs hl hzz hrows hne => ?_
          obtain ⟨Z, hYZ, hZb, hV⟩ := hzz
          have f0 := fvi hV hl 0
          have f3 := fvi hV hl 3
          have f5 := fvi hV hl 5
          have f6 := fvi hV hl 6
          have f8 := fvi hV hl 8
          rw [show vs = [gw vs 0, gw vs 1, gw vs 2, gw vs 3, gw vs 4, gw vs 5, gw vs 6, gw vs 7, gw vs 8] from (gw_eta hl).trans rfl]
          have ha0 := HA0.out
          subst ha0
          clear HA0 hV hYZ hZb hsz0 hrows hne oe1 oe6
          simp only [putAll, Act.put, List.setIfInBounds_toArray, List.set_cons_zero, List.set_cons_succ, f0, f3, f5, f6, f8]
          clear hl f0 f3 f5 f6 f8
          have hat := (HKL2_1.out.mod Cx19.out (fun _ _ h => h)).at hlt2
          obtain ⟨g2, o2, cs2, eao, hrg, hrd, hcs⟩ := hat
          subst eao
          have hcl : cs2.length = 34 := OpR.len hrd
          have HCL2 := Lib.hid hcl
          have HAT2 := hid (show CellsAt R2 u8_0 g2 (o2 + k2 * 34) cs2 from ⟨hrg, hcs⟩)
          have HRD2 := Lib.hid hrd
          have HOC2 := hid (OpR.one hrd)
          clear hcl hcs hrd hrg
          have HE2 : Hid (((x.os.take k2).map cutOp) ++ [cutOp x.os[k2]] = (x.os.take (k2 + 1)).map cutOp) := hid (by rw [List.take_succ_eq_append_getElem hlt2, List.map_append]; rfl)
          have HLN2 : Hid (((x.os.take k2).map cutOp).length = k2) := hid (by rw [List.length_map, List.length_take]; omega)
          obtain ⟨y2, hy2⟩ : ∃ y, y = x.os[k2] := ⟨_, rfl⟩
          rw [← hy2] at HRD2 HE2
          clear hy2
          obtain ⟨v_e, rfl, hoke, hse⟩ := HRD2.out
          obtain ⟨aoe2, cape2, rfl⟩ := hse.shape
          have HOK2 := Lib.hid hoke
          have HSE2 := Lib.hid hse
          clear hoke hse HRD2
          go_upto_region 10 with (fail)
          generalize ha0 : Act.mk _ _ = a0
          have oe1 : a0.eval (.tmp 1) = .pointer (some ⟨w.heap.size, 0, none⟩) := by rw [← ha0]; rfl
          have oe6 : a0.eval (.tmp 6) = .int .i64 ((k2 : Nat) : Int) := by rw [← ha0]; rfl
          have hsz0 : a0.tmps.size = 86 := by rw [← ha0]; rfl
          have HA0 := hid ha0
          clear ha0
          refine wp_region_Q 86 hsz0 (by kernel_rfl) (by kernel_rfl) [42, 43, 44, 45, 46, 7, 92] (by kernel_rfl) (by decide) (fun _ => False) (fun _ _ => False) (fun _ _ h => h) [qi (.pointer (some ⟨w.heap.size, 3, none⟩)), qi (.slice (some ⟨g2, o2, none⟩) x.os.length cap_os), qi (.int .i64 ((k2 : Nat) : Int)), qi (.pointer (some ⟨g2, o2 + k2 * 34, none⟩)), qi (.agg (y2.cells (.slice aoe2 y2.pl.length cape2)).toArray), qa, qa] ⟨qi_stable, qi_stable, qi_stable, qi_stable, qi_stable, qa_stable, qa_stable, trivial⟩ [] (by kernel_rfl) (by decide) (by kernel_rfl) [⟨5, 6, 87, [.int .i64 0, .slice none 0 0, .int .u8 0, .int .u8 0, .int .u8 0, .int .u8 0, .int .u8 0, .int .u8 0, .int .u8 0, .int .u8 0, .int .u8 0, .int .u8 0, .int .u8 0, .int .u8 0, .int .u8 0, .int .u8 0, .int .u8 0, .int .u8 0, .int .u8 0, .int .u8 0, .int .u8 0, .int .u8 0, .int .u8 0, .int .u8 0, .int .u8 0, .int .u8 0, .int .u8 0, .int .u8 0, .int .u8 0, .int .u8 0, .int .u8 0, .int .u8 0, .int .u8 0, .int .u8 0], 0, (fun t => (y2.cells (.slice aoe2 y2.pl.length cape2)))⟩] (by kernel_rfl) (by intro r hr; simp only [List.mem_cons, List.not_mem_nil, or_false] at hr; rcases hr with rfl <;> exact ⟨by kernel_rfl, by kernel_rfl⟩) (by intro r hr; simp only [List.mem_cons, List.not_mem_nil, or_false] at hr; rcases hr with rfl <;> exact ⟨of_decide_eq_true (by kernel_rfl), of_decide_eq_true (by kernel_rfl)⟩) (by intro r hr; simp only [List.mem_cons, List.not_mem_nil, or_false] at hr; rcases hr with rfl <;> exact fun _ _ _ _ => ⟨trivial, trivial⟩) ⟨?_, ?_, ?_, ?_, ?_, ?_, ?_, trivial⟩ ?_
          · exact stq (fun E => ex_field rfl Try.underlying60 rfl (by kernel_rfl) (E.v oe1))
          · exact stq (fun E => ex_load1 rfl Try.underlying57 rfl (E.d 0) (Cs.lit1 ((HKL2_3.out.mod Cx19.out (fun h => h)).mod E.m.old (by intro h2; omega)) rfl))
          · exact stq (fun E => ex_move rfl (E.v oe6))
          · exact stq (fun E => ex_idxS (i := k2) (s := 34) rfl Try.underlying57 (by kernel_rfl) (E.d 1) (E.d 2) hlt2)
          · exact stq (fun E => ex_loadA rfl Try.underlying87 rfl (off := o2 + k2 * 34) (cs := (y2.cells (.slice aoe2 y2.pl.length cape2))) (by rw [HCL2.out]; kernel_rfl) (E.d 3) (fun j u hu => ((HAT2.out.mod E.m.old (by intro k h1 h2; have hb := HBT.out k h1; omega))).2 j u hu))
          · exact stepq_make rfl rfl ⟨rfl, rfl, by kernel_rfl, by kernel_rfl⟩
          · refine stepq_write rfl rfl rfl ⟨rfl, 7, (.tmp 46), rfl, by decide, rfl, by kernel_rfl, fun Z tr act w' hm hout hsz hd hpre => ?_⟩
            have h4 := hd ⟨4, .data⟩ (by simp) rfl _ rfl
            exact ⟨Nat.zero_le _, (by rw [show act.eval ((.tmp 46)) = _ from h4]; rfl), (by rw [HCL2.out]; rfl), HOC2.out⟩
          intro u10_0 hr
          have zu10_0 := hr.size
          have Cx20 := hid (hr.new (S := (fun _ => False)))
          clear hr
          refine QChain.nil fun vs hl hzz hrows hne => ?_
          obtain ⟨Z, hYZ, hZb, hV⟩ := hzz
          obtain ⟨q2, g5, hBq2, hYq2, hCq2⟩ := hrows _ (by simp only [List.mem_cons, List.not_mem_nil, or_false]; trivial)
          have f5 : gw vs 5 = _ := getv g5
          (try dsimp only at hBq2 hYq2); (try simp only [false_or] at hBq2 hYq2)
          have zqq2 := hCq2.lt
          have Hx21 := hid (show Cs u10_0 q2 ((y2.cells (.slice aoe2 y2.pl.length cape2)) : List Value).toArray 87 from hCq2)
          have f2 := fvi hV hl 2
          rw [show vs = [gw vs 0, gw vs 1, gw vs 2, gw vs 3, gw vs 4, gw vs 5, gw vs 6] from (gw_eta hl).trans rfl]
          have ha0 := HA0.out
          subst ha0
          clear HA0 hV hYZ hZb hsz0 hrows hne oe1 oe6 hCq2 g5
          simp only [putAll, Act.put, List.setIfInBounds_toArray, List.set_cons_zero, List.set_cons_succ, List.set_nil, f5, f2]
          clear hl f5 f2
          go_upto_region 11 with (fail)
          generalize ha0 : Act.mk _ _ = a0
          have oe7 : a0.eval (.tmp 7) = .pointer (some ⟨q2, 0, none⟩) := by rw [← ha0]; rfl
          have hsz0 : a0.tmps.size = 86 := by rw [← ha0]; rfl
          have HA0 := hid ha0
          clear ha0
          refine wp_region_Q1 86 hsz0 [47, 48, 49, 50, 90] (fun k => (k = q2)) (fun k j => (k = 1 ∧ ((j = q2)))) (fun _ _ h => h.2) [qi (.pointer (some ⟨q2, 1, none⟩)), qi (.slice aoe2 y2.pl.length cape2), qv 0, qi (.pointer (some ⟨q2, 1, none⟩)), qv 1] ⟨qi_stable, qi_stable, qv_stable, qi_stable, qv_stable, trivial⟩ [2, 4] ⟨?_, ?_, ?_, ?_, ?_, trivial⟩ ?_
          · exact stq (fun E => ex_field rfl Try.underlying87 rfl (by kernel_rfl) (E.v oe7))
          · refine stepq_env rfl rfl rfl fun _ _ _ _ _ _ hm0 _ _ hd hub _ => ?_
            have h0 := hd ⟨0, .data⟩ (by simp) rfl _ rfl
            refine qe_run rfl (wanted_none rfl) (ex_load1 rfl Try.underlying38 rfl h0 (Cs.hd1 (Hx21.out.mod hm0 (by intro h2; have hu := hub 1 4 rfl (by kernel_rfl); rcases h2 with ⟨h0, kk, hk, h2⟩ | h2 <;> omega)) rfl)) QE.refl ?_
            rfl
          · exact stepq_chain rfl
          · exact stq (fun E => ex_field rfl Try.underlying87 rfl (by kernel_rfl) (E.v oe7))
          · exact stepq_chain rfl
          intro u11_0 hr
          have zu11_0 := hr.size
          have Cx22 := hid (hr.new (S := (fun k => (k = q2))))
          have Hx23 := hid (Hx21.out.mod hr (by intro h2; omega))
          clear Hx21
          clear hr
          refine QChain.go fun Z act E => ?_
          refine qc_callF (args := #[.slice aoe2 y2.pl.length cape2, .int .i64 260]) rfl (wanted_none rfl) rfl Try.func26 (args2 (E.d 1) rfl) (Cut_R 260 ((HSE2.out.mod Cx20.out (fun _ _ h => h)).mod Cx22.out (by intro k h1 h2; have hb := HBT.out k h1; omega)) (by decide)) ?_
          rintro e u11_1a ⟨v', rfl, qpc, hm⟩
          obtain ⟨aop2, capp2, rfl⟩ := qpc.shape
          have zu11_1a := hm.size
          refine ⟨_, rfl, hm.mono (fun _ _ h => h.elim), (fun _ => rfl), ?_⟩
          intro u11_1 hr
          have zu11_1 := hr.size
          have Hx24 := hid ((qpc.widen (R' := (fun k => (New u11_0 u11_1a k))) (fun _ h => h) (Nat.le_refl _)).mod hr (by intro k h1 h2; omega))
          have hmr := Mod.after hm hr
          have Hx25 := hid (Hx23.out.mod hmr (by intro h2; omega))
          clear Hx23
          clear hmr
          have Cx26 := hid (Cx22.out.go hm hr)
          clear Cx22 hm hr Z act E qpc
          refine QChain.go fun Z act E => ?_
          refine qc_store rfl (wanted_none rfl) rfl Hx25.out (off := 1) (vs := [Value.slice aop2 (y2.pl.take 260).length capp2]) (by kernel_rfl) (by intro u hu; simp at hu; subst hu; rfl) (by rw [List.size_toArray, op_len _ _ HOK2.out.2.1]; show 1 + 1 ≤ 34; decide) (E.d 3) (by rw [show act.eval ((.tmp 49)) = _ from (chv (v := .slice aop2 (y2.pl.take 260).length capp2) (E.d 2))]; rfl) ?_
          intro u11_2a qc0 hm
          have qq2 : Cs u11_2a (q2) (((cutOp y2).cells (Value.slice aop2 (y2.pl.take 260).length capp2)) : List Value).toArray 87 := by rw [show lay _ 1 _ = (((cutOp y2).cells (Value.slice aop2 (y2.pl.take 260).length capp2)) : List Value).toArray from lay_pl y2 (cutOp y2) _ _ ⟨rfl, rfl⟩] at qc0; exact qc0
          clear qc0
          have zu11_2a := hm.size
          refine ⟨hm.mono (by intro k hk h; omega), (fun _ => rfl), ?_⟩
          intro u11_2 hr
          have zu11_2 := hr.size
          have Hx27 := hid (qq2.mod hr (by intro h2; omega))
          have hmr := hm.two hr
          have Hx28 := hid (Hx24.out.mod hmr (by intro k h1 h2; omega))
          clear Hx24
          clear hmr
          have Cx29 := hid (Cx26.out.goM hm hr (fun _ _ h => h))
          clear Cx26 hm hr Z act E qq2 Hx25
          refine QChain.nil fun vs hl hzz hrows hne => ?_
          obtain ⟨Z, hYZ, hZb, hV⟩ := hzz
          have f2 := fvc hV hl 2
          rw [show vs = [gw vs 0, gw vs 1, gw vs 2, gw vs 3, gw vs 4] from (gw_eta hl).trans rfl]
          have ha0 := HA0.out
          subst ha0
          clear HA0 hV hYZ hZb hsz0 hrows hne oe7
          simp only [putAll, Act.put, List.setIfInBounds_toArray, List.set_cons_zero, List.set_cons_succ, List.set_nil, f2]
          clear hl f2
          have HEL2 := hid (show OpR.rd (fun k => (New u11_0 u11_1a k)) u11_2 ((cutOp y2).cells (Value.slice aop2 (y2.pl.take 260).length capp2)) (cutOp y2) from ⟨_, rfl, HOK2.out, RdR_len Hx28.out.rd⟩)
          go_upto_region 12 with (fail)
          generalize ha0 : Act.mk _ _ = a0
          have oe5 : a0.eval (.tmp 5) = .slice aol2 ((x.os.take k2).map cutOp).length capl2 := by rw [← ha0]; rfl
          have oe7 : a0.eval (.tmp 7) = .pointer (some ⟨q2, 0, none⟩) := by rw [← ha0]; rfl
          have hsz0 : a0.tmps.size = 86 := by rw [← ha0]; rfl
          have HA0 := hid ha0
          clear ha0
          refine wp_region_Q1 86 hsz0 [51, 52, 53, 54, 5] (fun k => (New u3_0 wl2 k)) (fun k j => (k = 1 ∧ ((New u3_0 wl2 j)))) (fun _ _ h => h.2) [qi (.slice aol2 ((x.os.take k2).map cutOp).length capl2), qi (.agg ((cutOp y2).cells (Value.slice aop2 (y2.pl.take 260).length capp2)).toArray), qv 0, qv 1, qv 1] ⟨qi_stable, qi_stable, qv_stable, qv_stable, qv_stable, trivial⟩ [2, 3] ⟨?_, ?_, ?_, ?_, ?_, trivial⟩ ?_
          · exact stq (fun E => ex_move rfl ((E.pre 4 5 rfl (by kernel_rfl)).trans oe5))
          · exact stq (fun E => ex_loadA rfl Try.underlying87 rfl (off := 0) (cs := ((cutOp y2).cells (Value.slice aop2 (y2.pl.take 260).length capp2))) (by rw [op_len (cutOp y2) _ HOK2.out.2.1]; kernel_rfl) (E.v oe7) (Cs.whole (Hx27.out.mod E.m (by intro h2; omega))))
          · exact stepq_chain rfl
          · exact stepq_chain rfl
          · refine stepq_env rfl rfl rfl fun _ _ _ _ _ _ _ _ _ hd _ _ => ?_
            have h3 := hd ⟨3, .data⟩ (by simp) rfl _ rfl
            exact qe_run rfl (wanted_none rfl) (ex_assign rfl rfl) QE.refl h3
          intro u12_0 hr
          have zu12_0 := hr.size
          have Cx30 := hid (hr.new (S := (fun k => (New u3_0 wl2 k))))
          have Hx31 := hid ((((HAL2.out.mod Cx19.out (fun _ _ h => h) (fun _ _ h => h)).mod Cx20.out (fun _ _ h => h) (fun _ _ h => h)).mod Cx29.out (by intro k h1 h2; omega) (by intro k h1 h2; rcases h1 with h1 | h1 <;> first | omega | (have hb := HBT.out k h1; omega))).mod hr (by intro k h1 h2; omega) (by intro k h1 h2; rcases h1 with h1 | h1 <;> first | omega | (have hb := HBT.out k h1; omega)))
          clear HAL2
          clear hr
          refine QChain.go fun Z act E => ?_
          refine qc_buildS (e := 87) (cs := ((cutOp y2).cells (Value.slice aop2 (y2.pl.take 260).length capp2))) (zc := [.int .i64 0, .slice none 0 0, .int .u8 0, .int .u8 0, .int .u8 0, .int .u8 0, .int .u8 0, .int .u8 0, .int .u8 0, .int .u8 0, .int .u8 0, .int .u8 0, .int .u8 0, .int .u8 0, .int .u8 0, .int .u8 0, .int .u8 0, .int .u8 0, .int .u8 0, .int .u8 0, .int .u8 0, .int .u8 0, .int .u8 0, .int .u8 0, .int .u8 0, .int .u8 0, .int .u8 0, .int .u8 0, .int .u8 0, .int .u8 0, .int .u8 0, .int .u8 0, .int .u8 0, .int .u8 0]) (sz := 34) rfl (wanted_none rfl) rfl Try.underlying57 (by kernel_rfl) rfl (by decide) (by decide) (E.d 1) (OpR.len (HEL2.out.mod Cx30.out (by intro k h1 h2; omega))) ?_
          intro u12_1a qrow hm
          have zl12_2 := qrow.lt
          have zu12_1a := hm.size
          refine ⟨hm.mono (fun _ _ h => h.elim), (fun _ => rfl), ?_⟩
          intro u12_1 hr
          have zu12_1 := hr.size
          have Hx32 := hid (qrow.mod hr (by intro h2; omega))
          have hmr := Mod.after hm hr
          have Hx33 := hid (Hx31.out.mod hmr (by intro k h1 h2; omega) (by intro k h1 h2; rcases h1 with h1 | h1 <;> first | omega | (have hb := HBT.out k h1; omega)))
          clear Hx31
          clear hmr
          have Cx34 := hid (Cx30.out.go hm hr)
          clear Cx30 hm hr Z act E qrow
          refine QChain.go fun Z act E => ?_
          refine qc_appS (A := OpR) (e := 87) rfl (wanted_none rfl) rfl (.agg #[.int .i64 0, .slice none 0 0, .int .u8 0, .int .u8 0, .int .u8 0, .int .u8 0, .int .u8 0, .int .u8 0, .int .u8 0, .int .u8 0, .int .u8 0, .int .u8 0, .int .u8 0, .int .u8 0, .int .u8 0, .int .u8 0, .int .u8 0, .int .u8 0, .int .u8 0, .int .u8 0, .int .u8 0, .int .u8 0, .int .u8 0, .int .u8 0, .int .u8 0, .int .u8 0, .int .u8 0, .int .u8 0, .int .u8 0, .int .u8 0, .int .u8 0, .int .u8 0, .int .u8 0, .int .u8 0]) 64 Try.underlying57 info_Op (by rfl) (of_decide_eq_true (by kernel_rfl)) (E.d 0) (chv (v := .slice (some ⟨u12_0.heap.size, 0, none⟩) 1 1) (E.d 2)) (Hx33.out) (RdS.single (R := (fun k => (New u11_0 u11_1a k) ∨ (k = u12_0.heap.size))) Hx32.out ((HEL2.out.mod Cx34.out (by intro k h1 h2; omega)).widen (by intro k h1; first | omega | exact h1.elim | exact Or.inl h1 | exact Or.inr (h1))) (by first | exact Or.inr rfl | exact Or.inr (Or.inr rfl) | (right; omega))) (by intro k h1 h2; omega) (by rw [HLN2.out]; simp only [List.length_cons, List.length_nil]; omega) (by rw [HLN2.out, maxLen_val]; simp only [List.length_cons, List.length_nil]; omega) ?_
          intro ao14 cap14 u12_2a qacc2 hm
          have zu12_2a := hm.size
          refine ⟨hm.mono (by intro k hk h; omega), (fun _ => rfl), ?_⟩
          intro u12_2 hr
          have zu12_2 := hr.size
          have Hx35 := hid ((qacc2.widen (R' := (fun k => (New u3_0 wl2 k) ∨ (New u12_1 u12_2a k))) (E' := (fun k => (R2 k) ∨ (New u3_0 wl2 k) ∨ (New u11_0 u11_1a k) ∨ (k = u12_0.heap.size))) (fun _ h => h) (by intro k h1; rcases h1 with (h1 | h1) | (h1 | h1) <;> first | omega | exact h1.elim | exact Or.inl h1 | exact Or.inr (Or.inl h1) | exact Or.inr (Or.inr (Or.inl h1)) | exact Or.inr (Or.inr (Or.inr (h1))))).mod hr (by intro k h1 h2; omega) (by intro k h1 h2; rcases h1 with h1 | h1 | h1 | h1 <;> first | omega | (have hb := HBT.out k h1; omega)))
          have hmr := hm.two hr
          have Hx36 := hid (Hx32.out.mod hmr (by intro h2; omega))
          clear Hx32
          clear hmr
          have Cx37 := hid (Cx34.out.goM hm hr (fun _ _ h => h))
          clear Cx34 hm hr Z act E qacc2 Hx33
          refine QChain.nil fun vs hl hzz hrows hne => ?_
          obtain ⟨Z, hYZ, hZb, hV⟩ := hzz
          have f0 := fvi hV hl 0
          have f2 := fvc hV hl 2
          have f3 := fvc hV hl 3
          have f4 := fvc hV hl 4
          rw [show vs = [gw vs 0, gw vs 1, gw vs 2, gw vs 3, gw vs 4] from (gw_eta hl).trans rfl]
          have ha0 := HA0.out
          subst ha0
          clear HA0 hV hYZ hZb hsz0 hrows hne oe5 oe7
          simp only [putAll, Act.put, List.setIfInBounds_toArray, List.set_cons_zero, List.set_cons_succ, f0, f2, f3, f4]
          clear hl f0 f2 f3 f4
          have hq := Hx35.out
          rw [HE2.out] at hq
          have HQ2 := Lib.hid hq
          clear hq
          go_wp2
          go_roundw
          case rel => exact ⟨k2 + 1, by go_num, by omega, by omega, by omega, (HQ2.out.widen (by intro b h1; omega) (by intro k h1; rcases h1 with h1 | h1 | h1 | h1 <;> first | omega | exact h1.elim | exact Or.inl h1 | exact Or.inr (h1))), ((((HKL2_0.out.mod Cx19.out (fun _ _ h => h)).mod Cx20.out (fun _ _ h => h)).mod Cx29.out (by intro k h1 h2; have hb := HBT.out k h1; omega)).mod Cx37.out (by intro k h1 h2; have hb := HBT.out k h1; omega)), ((((HKL2_1.out.mod Cx19.out (fun _ _ h => h)).mod Cx20.out (fun _ _ h => h)).mod Cx29.out (by intro k h1 h2; have hb := HBT.out k h1; omega)).mod Cx37.out (by intro k h1 h2; have hb := HBT.out k h1; omega)), ((((HKL2_2.out.mod Cx19.out (fun _ _ h => h)).mod Cx20.out (fun _ _ h => h)).mod Cx29.out (by intro k h1 h2; have hb := HBT.out k h1; omega)).mod Cx37.out (by intro k h1 h2; have hb := HBT.out k h1; omega)), ((((HKL2_3.out.mod Cx19.out (fun h => h)).mod Cx20.out (fun h => h)).mod Cx29.out (by intro h2; omega)).mod Cx37.out (by intro h2; omega)), ((((HKL2_4.out.mod Cx19.out (fun h => h)).mod Cx20.out (fun h => h)).mod Cx29.out (by intro h2; omega)).mod Cx37.out (by intro h2; omega)), ((((HKL2_5.out.mod Cx19.out (fun _ _ h => h) (fun _ _ h => h)).mod Cx20.out (fun _ _ h => h) (fun _ _ h => h)).mod Cx29.out (by intro k h1 h2; omega) (by intro k h1 h2; rcases h1 with h1 | h1 <;> first | omega | (have hb := HBT.out k h1; omega))).mod Cx37.out (by intro k h1 h2; omega) (by intro k h1 h2; rcases h1 with h1 | h1 <;> first | omega | (have hb := HBT.out k h1; omega))), ((((HML2.out.trans Cx19.out (fun _ _ h => h.elim)).trans Cx20.out (fun _ _ h => h.elim)).trans Cx29.out (by intro k h1 h2; omega)).trans Cx37.out (by intro k h1 h2; omega))⟩
          case measure => simp [intOf]; omega
        · skip
          obtain ⟨bA2, hbA2⟩ : ∃ b : Bool, b = decide (((k2 : Nat) : Int) < (x.os.length : Int)) := ⟨_, rfl⟩
          obtain ⟨bB2, hbB2⟩ : ∃ b : Bool, b = decide (((k2 : Nat) : Int) < 4) := ⟨_, rfl⟩
          go_upto_region 8 with (fail)
          generalize ha0 : Act.mk _ _ = a0
          have oe1 : a0.eval (.tmp 1) = .pointer (some ⟨w.heap.size, 0, none⟩) := by rw [← ha0]; rfl
          have oe6 : a0.eval (.tmp 6) = .int .i64 ((k2 : Nat) : Int) := by rw [← ha0]; rfl
          have hsz0 : a0.tmps.size = 86 := by rw [← ha0]; rfl
          have HA0 := hid ha0
          clear ha0
          refine wp_region_Q0 86 hsz0 [31, 32, 33, 34, 35, 36, 37, 38, 39] [qi (.int .i64 ((k2 : Nat) : Int)), qi (.pointer (some ⟨w.heap.size, 3, none⟩)), qi (.slice ao_os x.os.length cap_os), qi (.int .i64 x.os.length), qi (.bool bA2), qi (.bool bA2), qc bA2 (qi (.int .i64 ((k2 : Nat) : Int))), qc bA2 (qi (.bool bB2)), qi (.bool (bA2 && bB2))] ⟨qi_stable, qi_stable, qi_stable, qi_stable, qi_stable, qi_stable, (qc_stable qi_stable), (qc_stable qi_stable), qi_stable, trivial⟩ [] ⟨?_, ?_, ?_, ?_, ?_, ?_, ?_, ?_, ?_, trivial⟩ ?_
          · exact stq (fun E => ex_move rfl (E.v oe6))
          · exact stq (fun E => ex_field rfl Try.underlying60 rfl (by kernel_rfl) (E.v oe1))
          · exact stq (fun E => ex_load1 rfl Try.underlying57 rfl (E.d 1) (Cs.lit1 (HKL2_3.out.mod E.m.old (by intro h2; omega)) rfl))
          · exact stq (fun E => ex_lenS rfl (E.d 2) Try.underlying57)
          · exact stq (fun E => ex_binE rfl (E.d 0) (E.d 3) (guard_ints _ _ _ _ _ _) (run_lss_i _ _ _ Try.underlying3) (congrArg Value.bool hbA2.symm))
          · exact stq (fun E => ex_move rfl (E.d 4))
          · refine stepq_env rfl rfl rfl fun _ _ _ _ _ _ _ hout hsz hd _ _ => ?_
            have h5 := hd ⟨5, .guard⟩ (by simp) rfl _ rfl
            refine qe_guard rfl (b := bA2) ((wanted_of rfl rfl (hsz 36 (by decide)) h5).trans (by simp)) rfl (fun hb l' hl' => ?_)
            refine qe_run rfl ((wanted_of rfl rfl (hsz 36 (by decide)) h5).trans (by first | exact hb | simpa using hb)) (ex_move rfl ((hout 6 (by decide)).trans oe6)) QE.refl ?_
            rw [hl']; rfl
          · refine stepq_env rfl rfl rfl fun _ _ _ _ _ _ _ _ hsz hd _ _ => ?_
            have h5 := hd ⟨5, .guard⟩ (by simp) rfl _ rfl
            have h6 := hd ⟨6, .data⟩ (by simp) rfl _ rfl
            refine qe_guard rfl (b := bA2) ((wanted_of rfl rfl (hsz 36 (by decide)) h5).trans (by simp)) rfl (fun hb l' hl' => ?_)
            refine qe_run rfl ((wanted_of rfl rfl (hsz 36 (by decide)) h5).trans (by first | exact hb | simpa using hb)) (ex_binE rfl (h6.1 hb) rfl (guard_ints _ _ _ _ _ _) (run_lss_i _ _ _ Try.underlying3) (congrArg Value.bool hbB2.symm)) QE.refl ?_
            rw [hl']; rfl
          · exact stq (fun E => ex_pickE rfl (E.d 5) rfl rfl (and_val fun hb => (E.d 7).1 hb))
          intro u8_0 hr
          have zu8_0 := hr.size
          have Cx38 := hid (hr.new (S := (fun _ => False)))
          clear hr
          refine QChain.nil fun vs hl hzz hrows hne => ?_
          obtain ⟨Z, hYZ, hZb, hV⟩ := hzz
          have f0 := fvi hV hl 0
          have f3 := fvi hV hl 3
          have f5 := fvi hV hl 5
          have f8 := fvi hV hl 8
          rw [show vs = [gw vs 0, gw vs 1, gw vs 2, gw vs 3, gw vs 4, gw vs 5, gw vs 6, gw vs 7, gw vs 8] from (gw_eta hl).trans rfl]
          have ha0 := HA0.out
          subst ha0
          clear HA0 hV hYZ hZb hsz0 hrows hne oe1 oe6
          simp only [putAll, Act.put, List.setIfInBounds_toArray, List.set_cons_zero, List.set_cons_succ, f0, f3, f5, f8]
          clear hl f0 f3 f5 f8
          rw [show (bA2 && bB2) = false by rw [hbA2, hbB2, Bool.and_eq_false_iff, decide_eq_false_iff_not, decide_eq_false_iff_not]; omega]
          have HTK2 := hid (show x.os.take k2 = x.os.take 4 from take_two (by omega) (by omega))
          go_wp2
          go_loopw [8, 9] (fun ta ti wr => ∃ k : Nat, ti = .int .i64 (k : Int) ∧ k ≤ x.ts.length ∧ k ≤ 4 ∧ u8_0.heap.size ≤ wr.heap.size ∧ OwS TbR 90 (fun b => u8_0.heap.size ≤ b ∧ b < wr.heap.size) (fun b => R2 b ∨ (u8_0.heap.size ≤ b ∧ b < wr.heap.size)) wr ta ((x.ts.take k).map cutTb) ∧ RdS PmR R2 wr (.slice ao_ps x.ps.length cap_ps) x.ps ∧ RdS OpR R2 wr (.slice ao_os x.os.length cap_os) x.os ∧ RdS TbR R2 wr (.slice ao_ts x.ts.length cap_ts) x.ts ∧ Cs wr (w.heap.size) (x.cells (.slice ao_ps x.ps.length cap_ps) (.slice ao_os x.os.length cap_os) (.slice ao_ts x.ts.length cap_ts) : List Value).toArray 60 ∧ Cs wr (w.heap.size + 1) #[.int .i64 0, .int .u64 0, .slice none 0 0, .slice none 0 0, .slice none 0 0] 60 ∧ OwS PmR 55 (fun b => w1.heap.size ≤ b ∧ b < wl1.heap.size) (fun b => R2 b ∨ (w1.heap.size ≤ b ∧ b < wl1.heap.size)) wr (.slice aol1 ((x.ps.take k1).map cutPm).length capl1) ((x.ps.take k1).map cutPm) ∧ OwS OpR 87 (fun b => u3_0.heap.size ≤ b ∧ b < wl2.heap.size) (fun b => R2 b ∨ (u3_0.heap.size ≤ b ∧ b < wl2.heap.size)) wr (.slice aol2 ((x.os.take k2).map cutOp).length capl2) ((x.os.take k2).map cutOp) ∧ Mod (fun _ => False) w wr) (fun _ ti _ => x.ts.length - (intOf ti).toNat)
          case atStart => exact ⟨0, rfl, Nat.zero_le _, Nat.zero_le _, Nat.le_refl _, OwS.nil _ _ _ _ _, (HKL2_0.out.mod Cx38.out (fun _ _ h => h)), (HKL2_1.out.mod Cx38.out (fun _ _ h => h)), (HKL2_2.out.mod Cx38.out (fun _ _ h => h)), (HKL2_3.out.mod Cx38.out (fun h => h)), (HKL2_4.out.mod Cx38.out (fun h => h)), (HKL2_5.out.mod Cx38.out (fun _ _ h => h) (fun _ _ h => h)), (HAL2.out.mod Cx38.out (fun _ _ h => h) (fun _ _ h => h)), (HML2.out.trans Cx38.out (fun _ _ h => h.elim))⟩
          case round =>
            obtain ⟨k3, rfl, hk, hkN, hz, ha, hk_0, hk_1, hk_2, hk_3, hk_4, hk_5, hk_6, hm⟩ := hrel
            obtain ⟨wl3, rfl⟩ : ∃ x, x = wr := ⟨_, rfl⟩
            obtain ⟨aol3, capl3, rfl⟩ := ha.shape
            have HAL3 := Lib.hid ha
            have HKL3_0 := Lib.hid hk_0
            have HKL3_1 := Lib.hid hk_1
            have HKL3_2 := Lib.hid hk_2
            have HKL3_3 := Lib.hid hk_3
            have HKL3_4 := Lib.hid hk_4
            have HKL3_5 := Lib.hid hk_5
            have HKL3_6 := Lib.hid hk_6
            have HML3 := Lib.hid hm
            clear ha hm hk_0 hk_1 hk_2 hk_3 hk_4 hk_5 hk_6 HKL2_0 HKL2_1 HKL2_2 HKL2_3 HKL2_4 HKL2_5 HML2 HAL2
            by_cases hlt3 : k3 < x.ts.length ∧ k3 < 4
            · obtain ⟨hlt3, hlN3⟩ := hlt3
              go_upto_region 15 with (fail)
              generalize ha0 : Act.mk _ _ = a0
              have oe1 : a0.eval (.tmp 1) = .pointer (some ⟨w.heap.size, 0, none⟩) := by rw [← ha0]; rfl
              have oe9 : a0.eval (.tmp 9) = .int .i64 ((k3 : Nat) : Int) := by rw [← ha0]; rfl
              have hsz0 : a0.tmps.size = 86 := by rw [← ha0]; rfl
              have HA0 := hid ha0
              clear ha0
              refine wp_region_Q0 86 hsz0 [55, 56, 57, 58, 59, 60, 61, 62, 63] [qi (.int .i64 ((k3 : Nat) : Int)), qi (.pointer (some ⟨w.heap.size, 4, none⟩)), qi (.slice ao_ts x.ts.length cap_ts), qi (.int .i64 x.ts.length), qi (.bool true), qi (.bool true), qi (.int .i64 ((k3 : Nat) : Int)), qi (.bool true), qi (.bool true)] ⟨qi_stable, qi_stable, qi_stable, qi_stable, qi_stable, qi_stable, qi_stable, qi_stable, qi_stable, trivial⟩ [] ⟨?_, ?_, ?_, ?_, ?_, ?_, ?_, ?_, ?_, trivial⟩ ?_
              · exact stq (fun E => ex_move rfl (E.v oe9))
              · exact stq (fun E => ex_field rfl Try.underlying60 rfl (by kernel_rfl) (E.v oe1))
              · exact stq (fun E => ex_load1 rfl Try.underlying58 rfl (E.d 1) (Cs.lit1 (HKL3_3.out.mod E.m.old (by intro h2; omega)) rfl))
              · exact stq (fun E => ex_lenS rfl (E.d 2) Try.underlying58)
              · exact stq (fun E => ex_binE rfl (E.d 0) (E.d 3) (guard_ints _ _ _ _ _ _) (run_lss_i _ _ _ Try.underlying3) (congrArg Value.bool (decide_eq_true (by omega))))
              · exact stq (fun E => ex_move rfl (E.d 4))
              · refine stepq_env rfl rfl rfl fun _ _ _ _ _ _ _ hout hsz hd _ _ => ?_
                have h5 := hd ⟨5, .guard⟩ (by simp) rfl _ rfl
                refine qe_run rfl ((wanted_of rfl rfl (hsz 60 (by decide)) h5).trans rfl) (ex_move rfl ((hout 9 (by decide)).trans oe9)) QE.refl ?_
                rfl
              · refine stepq_env rfl rfl rfl fun _ _ _ _ _ _ _ _ hsz hd _ _ => ?_
                have h5 := hd ⟨5, .guard⟩ (by simp) rfl _ rfl
                have h6 := hd ⟨6, .data⟩ (by simp) rfl _ rfl
                refine qe_run rfl ((wanted_of rfl rfl (hsz 60 (by decide)) h5).trans rfl) (ex_binE rfl h6 rfl (guard_ints _ _ _ _ _ _) (run_lss_i _ _ _ Try.underlying3) (congrArg Value.bool (decide_eq_true (by omega)))) QE.refl ?_
                rfl
              · exact stq (fun E => ex_pick rfl (E.d 5) (E.d 7) rfl)
              intro u15_0 hr
              have zu15_0 := hr.size
              have Cx39 := hid (hr.new (S := (fun _ => False)))
              clear hr
              refine QChain.nil fun vs hl hzz hrows hne => ?_
              obtain ⟨Z, hYZ, hZb, hV⟩ := hzz
              have f0 := fvi hV hl 0
              have f3 := fvi hV hl 3
              have f5 := fvi hV hl 5
              have f6 := fvi hV hl 6
              have f8 := fvi hV hl 8
              rw [show vs = [gw vs 0, gw vs 1, gw vs 2, gw vs 3, gw vs 4, gw vs 5, gw vs 6, gw vs 7, gw vs 8] from (gw_eta hl).trans rfl]
              have ha0 := HA0.out
              subst ha0
              clear HA0 hV hYZ hZb hsz0 hrows hne oe1 oe9
              simp only [putAll, Act.put, List.setIfInBounds_toArray, List.set_cons_zero, List.set_cons_succ, f0, f3, f5, f6, f8]
              clear hl f0 f3 f5 f6 f8
              have hat := (HKL3_2.out.mod Cx39.out (fun _ _ h => h)).at hlt3
              obtain ⟨g3, o3, cs3, eao, hrg, hrd, hcs⟩ := hat
              subst eao
              have hcl : cs3.length = 2 := TbR.len hrd
              have HCL3 := Lib.hid hcl
              have HAT3 := hid (show CellsAt R2 u15_0 g3 (o3 + k3 * 2) cs3 from ⟨hrg, hcs⟩)
              have HRD3 := Lib.hid hrd
              have HOC3 := hid (TbR.one hrd)
              clear hcl hcs hrd hrg
              have HE3 : Hid (((x.ts.take k3).map cutTb) ++ [cutTb x.ts[k3]] = (x.ts.take (k3 + 1)).map cutTb) := hid (by rw [List.take_succ_eq_append_getElem hlt3, List.map_append]; rfl)
              have HLN3 : Hid (((x.ts.take k3).map cutTb).length = k3) := hid (by rw [List.length_map, List.length_take]; omega)
              obtain ⟨y3, hy3⟩ : ∃ y, y = x.ts[k3] := ⟨_, rfl⟩
              rw [← hy3] at HRD3 HE3
              clear hy3
              obtain ⟨v_e, rfl, hoke, hse⟩ := HRD3.out
              obtain ⟨aoe3, cape3, rfl⟩ := hse.shape
              have HOK3 := Lib.hid hoke
              have HSE3 := Lib.hid hse
              clear hoke hse HRD3
              go_upto_region 17 with (fail)
              generalize ha0 : Act.mk _ _ = a0
              have oe1 : a0.eval (.tmp 1) = .pointer (some ⟨w.heap.size, 0, none⟩) := by rw [← ha0]; rfl
              have oe9 : a0.eval (.tmp 9) = .int .i64 ((k3 : Nat) : Int) := by rw [← ha0]; rfl
              have hsz0 : a0.tmps.size = 86 := by rw [← ha0]; rfl
              have HA0 := hid ha0
              clear ha0
              refine wp_region_Q 86 hsz0 (by kernel_rfl) (by kernel_rfl) [66, 67, 68, 69, 70, 10, 92] (by kernel_rfl) (by decide) (fun _ => False) (fun _ _ => False) (fun _ _ h => h) [qi (.pointer (some ⟨w.heap.size, 4, none⟩)), qi (.slice (some ⟨g3, o3, none⟩) x.ts.length cap_ts), qi (.int .i64 ((k3 : Nat) : Int)), qi (.pointer (some ⟨g3, o3 + k3 * 2, none⟩)), qi (.agg (y3.cells (.slice aoe3 y3.l.length cape3)).toArray), qa, qa] ⟨qi_stable, qi_stable, qi_stable, qi_stable, qi_stable, qa_stable, qa_stable, trivial⟩ [] (by kernel_rfl) (by decide) (by kernel_rfl) [⟨5, 6, 90, [.int .i64 0, .slice none 0 0], 0, (fun t => (y3.cells (.slice aoe3 y3.l.length cape3)))⟩] (by kernel_rfl) (by intro r hr; simp only [List.mem_cons, List.not_mem_nil, or_false] at hr; rcases hr with rfl <;> exact ⟨by kernel_rfl, by kernel_rfl⟩) (by intro r hr; simp only [List.mem_cons, List.not_mem_nil, or_false] at hr; rcases hr with rfl <;> exact ⟨of_decide_eq_true (by kernel_rfl), of_decide_eq_true (by kernel_rfl)⟩) (by intro r hr; simp only [List.mem_cons, List.not_mem_nil, or_false] at hr; rcases hr with rfl <;> exact fun _ _ _ _ => ⟨trivial, trivial⟩) ⟨?_, ?_, ?_, ?_, ?_, ?_, ?_, trivial⟩ ?_
              · exact stq (fun E => ex_field rfl Try.underlying60 rfl (by kernel_rfl) (E.v oe1))
              · exact stq (fun E => ex_load1 rfl Try.underlying58 rfl (E.d 0) (Cs.lit1 ((HKL3_3.out.mod Cx39.out (fun h => h)).mod E.m.old (by intro h2; omega)) rfl))
              · exact stq (fun E => ex_move rfl (E.v oe9))
              · exact stq (fun E => ex_idxS (i := k3) (s := 2) rfl Try.underlying58 (by kernel_rfl) (E.d 1) (E.d 2) hlt3)
              · exact stq (fun E => ex_loadA rfl Try.underlying90 rfl (off := o3 + k3 * 2) (cs := (y3.cells (.slice aoe3 y3.l.length cape3))) (by rw [HCL3.out]; kernel_rfl) (E.d 3) (fun j u hu => ((HAT3.out.mod E.m.old (by intro k h1 h2; have hb := HBT.out k h1; omega))).2 j u hu))
              · exact stepq_make rfl rfl ⟨rfl, rfl, by kernel_rfl, by kernel_rfl⟩
              · refine stepq_write rfl rfl rfl ⟨rfl, 10, (.tmp 70), rfl, by decide, rfl, by kernel_rfl, fun Z tr act w' hm hout hsz hd hpre => ?_⟩
                have h4 := hd ⟨4, .data⟩ (by simp) rfl _ rfl
                exact ⟨Nat.zero_le _, (by rw [show act.eval ((.tmp 70)) = _ from h4]; rfl), (by rw [HCL3.out]; rfl), HOC3.out⟩
              intro u17_0 hr
              have zu17_0 := hr.size
              have Cx40 := hid (hr.new (S := (fun _ => False)))
              clear hr
              refine QChain.nil fun vs hl hzz hrows hne => ?_
              obtain ⟨Z, hYZ, hZb, hV⟩ := hzz
              obtain ⟨q3, g5, hBq3, hYq3, hCq3⟩ := hrows _ (by simp only [List.mem_cons, List.not_mem_nil, or_false]; trivial)
              have f5 : gw vs 5 = _ := getv g5
              (try dsimp only at hBq3 hYq3); (try simp only [false_or] at hBq3 hYq3)
              have zqq3 := hCq3.lt
              have Hx41 := hid (show Cs u17_0 q3 ((y3.cells (.slice aoe3 y3.l.length cape3)) : List Value).toArray 90 from hCq3)
              have f2 := fvi hV hl 2
              rw [show vs = [gw vs 0, gw vs 1, gw vs 2, gw vs 3, gw vs 4, gw vs 5, gw vs 6] from (gw_eta hl).trans rfl]
              have ha0 := HA0.out
              subst ha0
              clear HA0 hV hYZ hZb hsz0 hrows hne oe1 oe9 hCq3 g5
              simp only [putAll, Act.put, List.setIfInBounds_toArray, List.set_cons_zero, List.set_cons_succ, List.set_nil, f5, f2]
              clear hl f5 f2
              go_upto_region 18 with (fail)
              generalize ha0 : Act.mk _ _ = a0
              have oe10 : a0.eval (.tmp 10) = .pointer (some ⟨q3, 0, none⟩) := by rw [← ha0]; rfl
              have hsz0 : a0.tmps.size = 86 := by rw [← ha0]; rfl
              have HA0 := hid ha0
              clear ha0
              refine wp_region_Q1 86 hsz0 [71, 72, 73, 74, 90] (fun k => (k = q3)) (fun k j => (k = 1 ∧ ((j = q3)))) (fun _ _ h => h.2) [qi (.pointer (some ⟨q3, 1, none⟩)), qi (.slice aoe3 y3.l.length cape3), qv 0, qi (.pointer (some ⟨q3, 1, none⟩)), qv 1] ⟨qi_stable, qi_stable, qv_stable, qi_stable, qv_stable, trivial⟩ [2, 4] ⟨?_, ?_, ?_, ?_, ?_, trivial⟩ ?_
              · exact stq (fun E => ex_field rfl Try.underlying90 rfl (by kernel_rfl) (E.v oe10))
              · refine stepq_env rfl rfl rfl fun _ _ _ _ _ _ hm0 _ _ hd hub _ => ?_
                have h0 := hd ⟨0, .data⟩ (by simp) rfl _ rfl
                refine qe_run rfl (wanted_none rfl) (ex_load1 rfl Try.underlying88 rfl h0 (Cs.lit1 (Hx41.out.mod hm0 (by intro h2; have hu := hub 1 4 rfl (by kernel_rfl); rcases h2 with ⟨h0, kk, hk, h2⟩ | h2 <;> omega)) rfl)) QE.refl ?_
                rfl
              · exact stepq_chain rfl
              · exact stq (fun E => ex_field rfl Try.underlying90 rfl (by kernel_rfl) (E.v oe10))
              · exact stepq_chain rfl
              intro u18_0 hr
              have zu18_0 := hr.size
              have Cx42 := hid (hr.new (S := (fun k => (k = q3))))
              have Hx43 := hid (Hx41.out.mod hr (by intro h2; omega))
              clear Hx41
              clear hr
              refine QChain.go fun Z act E => ?_
              refine qc_callF (args := #[.slice aoe3 y3.l.length cape3, .int .i64 5]) rfl (wanted_none rfl) rfl Try.func78 (args2 (E.d 1) rfl) (Cut_Dn _ _ y3.l 5 _ ((HSE3.out.mod Cx40.out (fun _ _ h => h)).mod Cx42.out (by intro k h1 h2; have hb := HBT.out k h1; omega)) (by intro k h1; have hb := HBT.out k h1; omega) (by omega)) ?_
              rintro e u18_1a ⟨v', rfl, qpc, hm⟩
              obtain ⟨aop3, capp3, rfl⟩ := qpc.shape
              have zu18_1a := hm.size
              refine ⟨_, rfl, hm.mono (fun _ _ h => h.elim), (fun _ => rfl), ?_⟩
              intro u18_1 hr
              have zu18_1 := hr.size
              have Hx44 := hid ((qpc.widen (R' := (fun k => (New u18_0 u18_1a k))) (E' := (fun k => (R2 k))) (fun _ h => h) (fun _ h => h)).mod hr (by intro k h1 h2; omega) (by intro k h1 h2; have hb := HBT.out k h1; omega))
              have hmr := Mod.after hm hr
              have Hx45 := hid (Hx43.out.mod hmr (by intro h2; omega))
              clear Hx43
              clear hmr
              have Cx46 := hid (Cx42.out.go hm hr)
              clear Cx42 hm hr Z act E qpc
              refine QChain.go fun Z act E => ?_
              refine qc_store rfl (wanted_none rfl) rfl Hx45.out (off := 1) (vs := [Value.slice aop3 (y3.l.take 5).length capp3]) (by kernel_rfl) (by intro u hu; simp at hu; subst hu; rfl) (by show 1 + 1 ≤ 2; decide) (E.d 3) (by rw [show act.eval ((.tmp 73)) = _ from (chv (v := .slice aop3 (y3.l.take 5).length capp3) (E.d 2))]; rfl) ?_
              intro u18_2a qc0 hm
              have qq3 : Cs u18_2a (q3) (((cutTb y3).cells (Value.slice aop3 (y3.l.take 5).length capp3)) : List Value).toArray 90 := by rw [show lay _ 1 _ = (((cutTb y3).cells (Value.slice aop3 (y3.l.take 5).length capp3)) : List Value).toArray from lay_tl y3 (cutTb y3) _ _ rfl] at qc0; exact qc0
              clear qc0
              have zu18_2a := hm.size
              refine ⟨hm.mono (by intro k hk h; omega), (fun _ => rfl), ?_⟩
              intro u18_2 hr
              have zu18_2 := hr.size
              have Hx47 := hid (qq3.mod hr (by intro h2; omega))
              have hmr := hm.two hr
              have Hx48 := hid (Hx44.out.mod hmr (by intro k h1 h2; omega) (by intro k h1 h2; have hb := HBT.out k h1; omega))
              clear Hx44
              clear hmr
              have Cx49 := hid (Cx46.out.goM hm hr (fun _ _ h => h))
              clear Cx46 hm hr Z act E qq3 Hx45
              refine QChain.nil fun vs hl hzz hrows hne => ?_
              obtain ⟨Z, hYZ, hZb, hV⟩ := hzz
              have f2 := fvc hV hl 2
              rw [show vs = [gw vs 0, gw vs 1, gw vs 2, gw vs 3, gw vs 4] from (gw_eta hl).trans rfl]
              have ha0 := HA0.out
              subst ha0
              clear HA0 hV hYZ hZb hsz0 hrows hne oe10
              simp only [putAll, Act.put, List.setIfInBounds_toArray, List.set_cons_zero, List.set_cons_succ, List.set_nil, f2]
              clear hl f2
              have HEL3 := hid (show TbR.rd (fun k => (New u18_0 u18_1a k) ∨ (R2 k)) u18_2 ((cutTb y3).cells (Value.slice aop3 (y3.l.take 5).length capp3)) (cutTb y3) from ⟨_, rfl, HOK3.out, Hx48.out.rd.widen (by intro k h1; rcases h1 with h1 | h1 <;> first | omega | exact h1.elim | exact Or.inl h1 | exact Or.inr (h1))⟩)
              go_upto_region 19 with (fail)
              generalize ha0 : Act.mk _ _ = a0
              have oe8 : a0.eval (.tmp 8) = .slice aol3 ((x.ts.take k3).map cutTb).length capl3 := by rw [← ha0]; rfl
              have oe10 : a0.eval (.tmp 10) = .pointer (some ⟨q3, 0, none⟩) := by rw [← ha0]; rfl
              have hsz0 : a0.tmps.size = 86 := by rw [← ha0]; rfl
              have HA0 := hid ha0
              clear ha0
              refine wp_region_Q1 86 hsz0 [75, 76, 77, 78, 8] (fun k => (New u8_0 wl3 k)) (fun k j => (k = 1 ∧ ((New u8_0 wl3 j)))) (fun _ _ h => h.2) [qi (.slice aol3 ((x.ts.take k3).map cutTb).length capl3), qi (.agg ((cutTb y3).cells (Value.slice aop3 (y3.l.take 5).length capp3)).toArray), qv 0, qv 1, qv 1] ⟨qi_stable, qi_stable, qv_stable, qv_stable, qv_stable, trivial⟩ [2, 3] ⟨?_, ?_, ?_, ?_, ?_, trivial⟩ ?_
              · exact stq (fun E => ex_move rfl ((E.pre 4 8 rfl (by kernel_rfl)).trans oe8))
              · exact stq (fun E => ex_loadA rfl Try.underlying90 rfl (off := 0) (cs := ((cutTb y3).cells (Value.slice aop3 (y3.l.take 5).length capp3))) (by kernel_rfl) (E.v oe10) (Cs.whole (Hx47.out.mod E.m (by intro h2; omega))))
              · exact stepq_chain rfl
              · exact stepq_chain rfl
              · refine stepq_env rfl rfl rfl fun _ _ _ _ _ _ _ _ _ hd _ _ => ?_
                have h3 := hd ⟨3, .data⟩ (by simp) rfl _ rfl
                exact qe_run rfl (wanted_none rfl) (ex_assign rfl rfl) QE.refl h3
              intro u19_0 hr
              have zu19_0 := hr.size
              have Cx50 := hid (hr.new (S := (fun k => (New u8_0 wl3 k))))
              have Hx51 := hid ((((HAL3.out.mod Cx39.out (fun _ _ h => h) (fun _ _ h => h)).mod Cx40.out (fun _ _ h => h) (fun _ _ h => h)).mod Cx49.out (by intro k h1 h2; omega) (by intro k h1 h2; rcases h1 with h1 | h1 <;> first | omega | (have hb := HBT.out k h1; omega))).mod hr (by intro k h1 h2; omega) (by intro k h1 h2; rcases h1 with h1 | h1 <;> first | omega | (have hb := HBT.out k h1; omega)))
              clear HAL3
              clear hr
              refine QChain.go fun Z act E => ?_
              refine qc_buildS (e := 90) (cs := ((cutTb y3).cells (Value.slice aop3 (y3.l.take 5).length capp3))) (zc := [.int .i64 0, .slice none 0 0]) (sz := 2) rfl (wanted_none rfl) rfl Try.underlying58 (by kernel_rfl) rfl (by decide) (by decide) (E.d 1) (TbR.len (HEL3.out.mod Cx50.out (by intro k h1 h2; rcases h1 with h1 | h1 <;> first | omega | (have hb := HBT.out k h1; omega)))) ?_
              intro u19_1a qrow hm
              have zl19_2 := qrow.lt
              have zu19_1a := hm.size
              refine ⟨hm.mono (fun _ _ h => h.elim), (fun _ => rfl), ?_⟩
              intro u19_1 hr
              have zu19_1 := hr.size
              have Hx52 := hid (qrow.mod hr (by intro h2; omega))
              have hmr := Mod.after hm hr
              have Hx53 := hid (Hx51.out.mod hmr (by intro k h1 h2; omega) (by intro k h1 h2; rcases h1 with h1 | h1 <;> first | omega | (have hb := HBT.out k h1; omega)))
              clear Hx51
              clear hmr
              have Cx54 := hid (Cx50.out.go hm hr)
              clear Cx50 hm hr Z act E qrow
              refine QChain.go fun Z act E => ?_
              refine qc_appS (A := TbR) (e := 90) rfl (wanted_none rfl) rfl (.agg #[.int .i64 0, .slice none 0 0]) 32 Try.underlying58 info_Tb (by rfl) (of_decide_eq_true (by kernel_rfl)) (E.d 0) (chv (v := .slice (some ⟨u19_0.heap.size, 0, none⟩) 1 1) (E.d 2)) (Hx53.out) (RdS.single (R := (fun k => (New u18_0 u18_1a k) ∨ (R2 k) ∨ (k = u19_0.heap.size))) Hx52.out ((HEL3.out.mod Cx54.out (by intro k h1 h2; rcases h1 with h1 | h1 <;> first | omega | (have hb := HBT.out k h1; omega))).widen (by intro k h1; rcases h1 with h1 | h1 <;> first | omega | exact h1.elim | exact Or.inl h1 | exact Or.inr (Or.inl h1) | exact Or.inr (Or.inr (h1)))) (by first | exact Or.inr rfl | exact Or.inr (Or.inr rfl) | (right; omega))) (by intro k h1 h2; rcases h1 with h1 | h1 | h1 <;> first | omega | (have hb := HBT.out k h1; omega)) (by rw [HLN3.out]; simp only [List.length_cons, List.length_nil]; omega) (by rw [HLN3.out, maxLen_val]; simp only [List.length_cons, List.length_nil]; omega) ?_
              intro ao16 cap16 u19_2a qacc3 hm
              have zu19_2a := hm.size
              refine ⟨hm.mono (by intro k hk h; omega), (fun _ => rfl), ?_⟩
              intro u19_2 hr
              have zu19_2 := hr.size
              have Hx55 := hid ((qacc3.widen (R' := (fun k => (New u8_0 wl3 k) ∨ (New u19_1 u19_2a k))) (E' := (fun k => (R2 k) ∨ (New u8_0 wl3 k) ∨ (New u18_0 u18_1a k) ∨ (k = u19_0.heap.size))) (fun _ h => h) (by intro k h1; rcases h1 with (h1 | h1) | (h1 | h1 | h1) <;> first | omega | exact h1.elim | exact Or.inl h1 | exact Or.inr (Or.inl h1) | exact Or.inr (Or.inr (Or.inl h1)) | exact Or.inr (Or.inr (Or.inr (h1))))).mod hr (by intro k h1 h2; omega) (by intro k h1 h2; rcases h1 with h1 | h1 | h1 | h1 <;> first | omega | (have hb := HBT.out k h1; omega)))
              have hmr := hm.two hr
              have Hx56 := hid (Hx52.out.mod hmr (by intro h2; omega))
              clear Hx52
              clear hmr
              have Cx57 := hid (Cx54.out.goM hm hr (fun _ _ h => h))
              clear Cx54 hm hr Z act E qacc3 Hx53
              refine QChain.nil fun vs hl hzz hrows hne => ?_
              obtain ⟨Z, hYZ, hZb, hV⟩ := hzz
              have f0 := fvi hV hl 0
              have f2 := fvc hV hl 2
              have f3 := fvc hV hl 3
              have f4 := fvc hV hl 4
              rw [show vs = [gw vs 0, gw vs 1, gw vs 2, gw vs 3, gw vs 4] from (gw_eta hl).trans rfl]
              have ha0 := HA0.out
              subst ha0
              clear HA0 hV hYZ hZb hsz0 hrows hne oe8 oe10
              simp only [putAll, Act.put, List.setIfInBounds_toArray, List.set_cons_zero, List.set_cons_succ, f0, f2, f3, f4]
              clear hl f0 f2 f3 f4
              have hq := Hx55.out
              rw [HE3.out] at hq
              have HQ3 := Lib.hid hq
              clear hq
              go_wp2
              go_roundw
              case rel => exact ⟨k3 + 1, by go_num, by omega, by omega, by omega, (HQ3.out.widen (by intro b h1; omega) (by intro k h1; rcases h1 with h1 | h1 | h1 | h1 <;> first | omega | exact h1.elim | exact Or.inl h1 | exact Or.inr (h1))), ((((HKL3_0.out.mod Cx39.out (fun _ _ h => h)).mod Cx40.out (fun _ _ h => h)).mod Cx49.out (by intro k h1 h2; have hb := HBT.out k h1; omega)).mod Cx57.out (by intro k h1 h2; have hb := HBT.out k h1; omega)), ((((HKL3_1.out.mod Cx39.out (fun _ _ h => h)).mod Cx40.out (fun _ _ h => h)).mod Cx49.out (by intro k h1 h2; have hb := HBT.out k h1; omega)).mod Cx57.out (by intro k h1 h2; have hb := HBT.out k h1; omega)), ((((HKL3_2.out.mod Cx39.out (fun _ _ h => h)).mod Cx40.out (fun _ _ h => h)).mod Cx49.out (by intro k h1 h2; have hb := HBT.out k h1; omega)).mod Cx57.out (by intro k h1 h2; have hb := HBT.out k h1; omega)), ((((HKL3_3.out.mod Cx39.out (fun h => h)).mod Cx40.out (fun h => h)).mod Cx49.out (by intro h2; omega)).mod Cx57.out (by intro h2; omega)), ((((HKL3_4.out.mod Cx39.out (fun h => h)).mod Cx40.out (fun h => h)).mod Cx49.out (by intro h2; omega)).mod Cx57.out (by intro h2; omega)), ((((HKL3_5.out.mod Cx39.out (fun _ _ h => h) (fun _ _ h => h)).mod Cx40.out (fun _ _ h => h) (fun _ _ h => h)).mod Cx49.out (by intro k h1 h2; omega) (by intro k h1 h2; rcases h1 with h1 | h1 <;> first | omega | (have hb := HBT.out k h1; omega))).mod Cx57.out (by intro k h1 h2; omega) (by intro k h1 h2; rcases h1 with h1 | h1 <;> first | omega | (have hb := HBT.out k h1; omega))), ((((HKL3_6.out.mod Cx39.out (fun _ _ h => h) (fun _ _ h => h)).mod Cx40.out (fun _ _ h => h) (fun _ _ h => h)).mod Cx49.out (by intro k h1 h2; omega) (by intro k h1 h2; rcases h1 with h1 | h1 <;> first | omega | (have hb := HBT.out k h1; omega))).mod Cx57.out (by intro k h1 h2; omega) (by intro k h1 h2; rcases h1 with h1 | h1 <;> first | omega | (have hb := HBT.out k h1; omega))), ((((HML3.out.trans Cx39.out (fun _ _ h => h.elim)).trans Cx40.out (fun _ _ h => h.elim)).trans Cx49.out (by intro k h1 h2; omega)).trans Cx57.out (by intro k h1 h2; omega))⟩
              case measure => simp [intOf]; omega
            · skip
              obtain ⟨bA3, hbA3⟩ : ∃ b : Bool, b = decide (((k3 : Nat) : Int) < (x.ts.length : Int)) := ⟨_, rfl⟩
              obtain ⟨bB3, hbB3⟩ : ∃ b : Bool, b = decide (((k3 : Nat) : Int) < 4) := ⟨_, rfl⟩
              go_upto_region 15 with (fail)
              generalize ha0 : Act.mk _ _ = a0
              have oe1 : a0.eval (.tmp 1) = .pointer (some ⟨w.heap.size, 0, none⟩) := by rw [← ha0]; rfl
              have oe9 : a0.eval (.tmp 9) = .int .i64 ((k3 : Nat) : Int) := by rw [← ha0]; rfl
              have hsz0 : a0.tmps.size = 86 := by rw [← ha0]; rfl
              have HA0 := hid ha0
              clear ha0
              refine wp_region_Q0 86 hsz0 [55, 56, 57, 58, 59, 60, 61, 62, 63] [qi (.int .i64 ((k3 : Nat) : Int)), qi (.pointer (some ⟨w.heap.size, 4, none⟩)), qi (.slice ao_ts x.ts.length cap_ts), qi (.int .i64 x.ts.length), qi (.bool bA3), qi (.bool bA3), qc bA3 (qi (.int .i64 ((k3 : Nat) : Int))), qc bA3 (qi (.bool bB3)), qi (.bool (bA3 && bB3))] ⟨qi_stable, qi_stable, qi_stable, qi_stable, qi_stable, qi_stable, (qc_stable qi_stable), (qc_stable qi_stable), qi_stable, trivial⟩ [] ⟨?_, ?_, ?_, ?_, ?_, ?_, ?_, ?_, ?_, trivial⟩ ?_
              · exact stq (fun E => ex_move rfl (E.v oe9))
              · exact stq (fun E => ex_field rfl Try.underlying60 rfl (by kernel_rfl) (E.v oe1))
              · exact stq (fun E => ex_load1 rfl Try.underlying58 rfl (E.d 1) (Cs.lit1 (HKL3_3.out.mod E.m.old (by intro h2; omega)) rfl))
              · exact stq (fun E => ex_lenS rfl (E.d 2) Try.underlying58)
              · exact stq (fun E => ex_binE rfl (E.d 0) (E.d 3) (guard_ints _ _ _ _ _ _) (run_lss_i _ _ _ Try.underlying3) (congrArg Value.bool hbA3.symm))
              · exact stq (fun E => ex_move rfl (E.d 4))
              · refine stepq_env rfl rfl rfl fun _ _ _ _ _ _ _ hout hsz hd _ _ => ?_
                have h5 := hd ⟨5, .guard⟩ (by simp) rfl _ rfl
                refine qe_guard rfl (b := bA3) ((wanted_of rfl rfl (hsz 60 (by decide)) h5).trans (by simp)) rfl (fun hb l' hl' => ?_)
                refine qe_run rfl ((wanted_of rfl rfl (hsz 60 (by decide)) h5).trans (by first | exact hb | simpa using hb)) (ex_move rfl ((hout 9 (by decide)).trans oe9)) QE.refl ?_
                rw [hl']; rfl
              · refine stepq_env rfl rfl rfl fun _ _ _ _ _ _ _ _ hsz hd _ _ => ?_
                have h5 := hd ⟨5, .guard⟩ (by simp) rfl _ rfl
                have h6 := hd ⟨6, .data⟩ (by simp) rfl _ rfl
                refine qe_guard rfl (b := bA3) ((wanted_of rfl rfl (hsz 60 (by decide)) h5).trans (by simp)) rfl (fun hb l' hl' => ?_)
                refine qe_run rfl ((wanted_of rfl rfl (hsz 60 (by decide)) h5).trans (by first | exact hb | simpa using hb)) (ex_binE rfl (h6.1 hb) rfl (guard_ints _ _ _ _ _ _) (run_lss_i _ _ _ Try.underlying3) (congrArg Value.bool hbB3.symm)) QE.refl ?_
                rw [hl']; rfl
              · exact stq (fun E => ex_pickE rfl (E.d 5) rfl rfl (and_val fun hb => (E.d 7).1 hb))
              intro u15_0 hr
              have zu15_0 := hr.size
              have Cx58 := hid (hr.new (S := (fun _ => False)))
              clear hr
              refine QChain.nil fun vs hl hzz hrows hne => ?_
              obtain ⟨Z, hYZ, hZb, hV⟩ := hzz
              have f0 := fvi hV hl 0
              have f3 := fvi hV hl 3
              have f5 := fvi hV hl 5
              have f8 := fvi hV hl 8
              rw [show vs = [gw vs 0, gw vs 1, gw vs 2, gw vs 3, gw vs 4, gw vs 5, gw vs 6, gw vs 7, gw vs 8] from (gw_eta hl).trans rfl]
              have ha0 := HA0.out
              subst ha0
              clear HA0 hV hYZ hZb hsz0 hrows hne oe1 oe9
              simp only [putAll, Act.put, List.setIfInBounds_toArray, List.set_cons_zero, List.set_cons_succ, f0, f3, f5, f8]
              clear hl f0 f3 f5 f8
              rw [show (bA3 && bB3) = false by rw [hbA3, hbB3, Bool.and_eq_false_iff, decide_eq_false_iff_not, decide_eq_false_iff_not]; omega]
              have HTK3 := hid (show x.ts.take k3 = x.ts.take 4 from take_two (by omega) (by omega))
              go_upto_region 20 with (fail)
              generalize ha0 : Act.mk _ _ = a0
              have oe1 : a0.eval (.tmp 1) = .pointer (some ⟨w.heap.size, 0, none⟩) := by rw [← ha0]; rfl
              have oe3 : a0.eval (.tmp 3) = .slice aol1 ((x.ps.take k1).map cutPm).length capl1 := by rw [← ha0]; rfl
              have oe5 : a0.eval (.tmp 5) = .slice aol2 ((x.os.take k2).map cutOp).length capl2 := by rw [← ha0]; rfl
              have oe8 : a0.eval (.tmp 8) = .slice aol3 ((x.ts.take k3).map cutTb).length capl3 := by rw [← ha0]; rfl
              have hsz0 : a0.tmps.size = 86 := by rw [← ha0]; rfl
              have HA0 := hid ha0
              clear ha0
              refine wp_region_Q1 86 hsz0 [79, 80, 81, 82, 90, 83, 92, 84, 94] (fun k => (k = w.heap.size)) (fun k j => (k = 0 ∧ ((j = w.heap.size))) ∨ (k = 1 ∧ ((j = w.heap.size))) ∨ (k = 2 ∧ ((j = w.heap.size)))) (by intro k j h; (try dsimp only at h ⊢); omega) [qi (.slice aol1 ((x.ps.take k1).map cutPm).length capl1), qi (.slice aol2 ((x.os.take k2).map cutOp).length capl2), qi (.slice aol3 ((x.ts.take k3).map cutTb).length capl3), qi (.pointer (some ⟨w.heap.size, 2, none⟩)), qv 0, qi (.pointer (some ⟨w.heap.size, 3, none⟩)), qv 1, qi (.pointer (some ⟨w.heap.size, 4, none⟩)), qv 2] ⟨qi_stable, qi_stable, qi_stable, qi_stable, qv_stable, qi_stable, qv_stable, qi_stable, qv_stable, trivial⟩ [4, 6, 8] ⟨?_, ?_, ?_, ?_, ?_, ?_, ?_, ?_, ?_, trivial⟩ ?_
              · exact stq (fun E => ex_move rfl (E.v oe3))
              · exact stq (fun E => ex_move rfl (E.v oe5))
              · exact stq (fun E => ex_move rfl (E.v oe8))
              · exact stq (fun E => ex_field rfl Try.underlying60 rfl (by kernel_rfl) (E.v oe1))
              · exact stepq_chain rfl
              · exact stq (fun E => ex_field rfl Try.underlying60 rfl (by kernel_rfl) (E.v oe1))
              · exact stepq_chain rfl
              · exact stq (fun E => ex_field rfl Try.underlying60 rfl (by kernel_rfl) (E.v oe1))
              · exact stepq_chain rfl
              intro u20_0 hr
              have zu20_0 := hr.size
              have Cx59 := hid (hr.new (S := (fun k => (k = w.heap.size))))
              have Hx60 := hid ((HKL3_3.out.mod Cx58.out (fun h => h)).mod hr (by intro h2; omega))
              clear HKL3_3
              clear hr
              refine QChain.go fun Z act E => ?_
              refine qc_store rfl (wanted_none rfl) rfl Hx60.out (off := 2) (vs := [Value.slice aol1 ((x.ps.take k1).map cutPm).length capl1]) (by kernel_rfl) (by intro u hu; simp at hu; subst hu; rfl) (by simp) (E.d 3) (by rw [show act.eval ((.tmp 79)) = _ from (E.d 0)]; rfl) ?_
              intro u20_1a qc0 hm
              have qB1 : Cs u20_1a (w.heap.size) #[.int .i64 x.ep, .int .u64 (x.tm : Nat), Value.slice aol1 ((x.ps.take k1).map cutPm).length capl1, Value.slice ao_os x.os.length cap_os, Value.slice ao_ts x.ts.length cap_ts] 60 := by rw [show lay _ 2 _ = #[.int .i64 x.ep, .int .u64 (x.tm : Nat), Value.slice aol1 ((x.ps.take k1).map cutPm).length capl1, Value.slice ao_os x.os.length cap_os, Value.slice ao_ts x.ts.length cap_ts] from rfl] at qc0; exact qc0
              clear qc0
              have zu20_1a := hm.size
              refine ⟨hm.mono (by intro k hk h; omega), (fun _ => rfl), ?_⟩
              intro u20_1 hr
              have zu20_1 := hr.size
              have Hx61 := hid (qB1.mod hr (by intro h2; omega))
              have Cx62 := hid (Cx59.out.goM hm hr (fun _ _ h => h))
              clear Cx59 hm hr Z act E qB1 Hx60
              refine QChain.go fun Z act E => ?_
              refine qc_store rfl (wanted_none rfl) rfl Hx61.out (off := 3) (vs := [Value.slice aol2 ((x.os.take k2).map cutOp).length capl2]) (by kernel_rfl) (by intro u hu; simp at hu; subst hu; rfl) (by simp) (E.d 5) (by rw [show act.eval ((.tmp 80)) = _ from (E.d 1)]; rfl) ?_
              intro u20_2a qc0 hm
              have qB1 : Cs u20_2a (w.heap.size) #[.int .i64 x.ep, .int .u64 (x.tm : Nat), Value.slice aol1 ((x.ps.take k1).map cutPm).length capl1, Value.slice aol2 ((x.os.take k2).map cutOp).length capl2, Value.slice ao_ts x.ts.length cap_ts] 60 := by rw [show lay _ 3 _ = #[.int .i64 x.ep, .int .u64 (x.tm : Nat), Value.slice aol1 ((x.ps.take k1).map cutPm).length capl1, Value.slice aol2 ((x.os.take k2).map cutOp).length capl2, Value.slice ao_ts x.ts.length cap_ts] from rfl] at qc0; exact qc0
              clear qc0
              have zu20_2a := hm.size
              refine ⟨hm.mono (by intro k hk h; omega), (fun _ => rfl), ?_⟩
              intro u20_2 hr
              have zu20_2 := hr.size
              have Hx63 := hid (qB1.mod hr (by intro h2; omega))
              have Cx64 := hid (Cx62.out.goM hm hr (fun _ _ h => h))
              clear Cx62 hm hr Z act E qB1 Hx61
              refine QChain.go fun Z act E => ?_
              refine qc_store rfl (wanted_none rfl) rfl Hx63.out (off := 4) (vs := [Value.slice aol3 ((x.ts.take k3).map cutTb).length capl3]) (by kernel_rfl) (by intro u hu; simp at hu; subst hu; rfl) (by simp) (E.d 7) (by rw [show act.eval ((.tmp 81)) = _ from (E.d 2)]; rfl) ?_
              intro u20_3a qc0 hm
              have qB1 : Cs u20_3a (w.heap.size) #[.int .i64 x.ep, .int .u64 (x.tm : Nat), Value.slice aol1 ((x.ps.take k1).map cutPm).length capl1, Value.slice aol2 ((x.os.take k2).map cutOp).length capl2, Value.slice aol3 ((x.ts.take k3).map cutTb).length capl3] 60 := by rw [show lay _ 4 _ = #[.int .i64 x.ep, .int .u64 (x.tm : Nat), Value.slice aol1 ((x.ps.take k1).map cutPm).length capl1, Value.slice aol2 ((x.os.take k2).map cutOp).length capl2, Value.slice aol3 ((x.ts.take k3).map cutTb).length capl3] from rfl] at qc0; exact qc0
              clear qc0
              have zu20_3a := hm.size
              refine ⟨hm.mono (by intro k hk h; omega), (fun _ => rfl), ?_⟩
              intro u20_3 hr
              have zu20_3 := hr.size
              have Hx65 := hid (qB1.mod hr (by intro h2; omega))
              have Cx66 := hid (Cx64.out.goM hm hr (fun _ _ h => h))
              clear Cx64 hm hr Z act E qB1 Hx63
              refine QChain.nil fun vs hl hzz hrows hne => ?_
              obtain ⟨Z, hYZ, hZb, hV⟩ := hzz
              have f0 := fvi hV hl 0
              have f1 := fvi hV hl 1
              have f2 := fvi hV hl 2
              rw [show vs = [gw vs 0, gw vs 1, gw vs 2, gw vs 3, gw vs 4, gw vs 5, gw vs 6, gw vs 7, gw vs 8] from (gw_eta hl).trans rfl]
              have ha0 := HA0.out
              subst ha0
              clear HA0 hV hYZ hZb hsz0 hrows hne oe1 oe3 oe5 oe8
              simp only [putAll, Act.put, List.setIfInBounds_toArray, List.set_cons_zero, List.set_cons_succ, List.set_nil, f0, f1, f2]
              clear hl f0 f1 f2
              go_upto_region 21 with (fail)
              generalize ha0 : Act.mk _ _ = a0
              have oe1 : a0.eval (.tmp 1) = .pointer (some ⟨w.heap.size, 0, none⟩) := by rw [← ha0]; rfl
              have oe2 : a0.eval (.tmp 2) = .pointer (some ⟨w.heap.size + 1, 0, none⟩) := by rw [← ha0]; rfl
              have hsz0 : a0.tmps.size = 86 := by rw [← ha0]; rfl
              have HA0 := hid ha0
              clear ha0
              refine wp_region_Q1 86 hsz0 [85, 87] (fun k => (k = w.heap.size + 1)) (fun k j => (k = 0 ∧ ((j = w.heap.size + 1)))) (fun _ _ h => h.2) [qi (.agg #[.int .i64 x.ep, .int .u64 (x.tm : Nat), Value.slice aol1 ((x.ps.take k1).map cutPm).length capl1, Value.slice aol2 ((x.os.take k2).map cutOp).length capl2, Value.slice aol3 ((x.ts.take k3).map cutTb).length capl3]), qv 0] ⟨qi_stable, qv_stable, trivial⟩ [1] ⟨?_, ?_, trivial⟩ ?_
              · exact stq (fun E => ex_loadA rfl Try.underlying60 rfl (off := 0) (cs := [.int .i64 x.ep, .int .u64 (x.tm : Nat), Value.slice aol1 ((x.ps.take k1).map cutPm).length capl1, Value.slice aol2 ((x.os.take k2).map cutOp).length capl2, Value.slice aol3 ((x.ts.take k3).map cutTb).length capl3]) (by kernel_rfl) (E.v oe1) (Cs.whole (Hx65.out.mod E.m (by intro h2; omega))))
              · exact stepq_chain rfl
              intro u21_0 hr
              have zu21_0 := hr.size
              have Cx67 := hid (hr.new (S := (fun k => (k = w.heap.size + 1))))
              have Hx68 := hid (((HKL3_4.out.mod Cx58.out (fun h => h)).mod Cx66.out (by intro h2; omega)).mod hr (by intro h2; omega))
              clear HKL3_4
              clear hr
              refine QChain.go fun Z act E => ?_
              refine qc_store rfl (wanted_none rfl) rfl Hx68.out (off := 0) (vs := [.int .i64 x.ep, .int .u64 (x.tm : Nat), Value.slice aol1 ((x.ps.take k1).map cutPm).length capl1, Value.slice aol2 ((x.os.take k2).map cutOp).length capl2, Value.slice aol3 ((x.ts.take k3).map cutTb).length capl3]) (by kernel_rfl) (by intro u hu; simp at hu; rcases hu with rfl | rfl | rfl | rfl | rfl <;> rfl) (by simp) (E.v oe2) (by rw [show act.eval ((.tmp 85)) = _ from (E.d 0)]; rfl) ?_
              intro u21_1a qc0 hm
              have qB2 : Cs u21_1a (w.heap.size + 1) #[.int .i64 x.ep, .int .u64 (x.tm : Nat), Value.slice aol1 ((x.ps.take k1).map cutPm).length capl1, Value.slice aol2 ((x.os.take k2).map cutOp).length capl2, Value.slice aol3 ((x.ts.take k3).map cutTb).length capl3] 60 := by rw [show lay _ 0 _ = #[.int .i64 x.ep, .int .u64 (x.tm : Nat), Value.slice aol1 ((x.ps.take k1).map cutPm).length capl1, Value.slice aol2 ((x.os.take k2).map cutOp).length capl2, Value.slice aol3 ((x.ts.take k3).map cutTb).length capl3] from rfl] at qc0; exact qc0
              clear qc0
              have zu21_1a := hm.size
              refine ⟨hm.mono (by intro k hk h; omega), (fun _ => rfl), ?_⟩
              intro u21_1 hr
              have zu21_1 := hr.size
              have Hx69 := hid (qB2.mod hr (by intro h2; omega))
              have Cx70 := hid (Cx67.out.goM hm hr (fun _ _ h => h))
              clear Cx67 hm hr Z act E qB2 Hx68
              refine QChain.nil fun vs hl hzz hrows hne => ?_
              obtain ⟨Z, hYZ, hZb, hV⟩ := hzz
              rw [show vs = [gw vs 0, gw vs 1] from (gw_eta hl).trans rfl]
              have ha0 := HA0.out
              subst ha0
              clear HA0 hV hYZ hZb hsz0 hrows hne oe1 oe2
              simp only [putAll, Act.put, List.setIfInBounds_toArray, List.set_cons_zero, List.set_cons_succ, List.set_nil]
              clear hl
              go_wp2
              refine bodyPost_ret (results_cellA rfl _ _ (w.heap.size + 1) ([.int .i64 x.ep, .int .u64 (x.tm : Nat), Value.slice aol1 ((x.ps.take k1).map cutPm).length capl1, Value.slice aol2 ((x.os.take k2).map cutOp).length capl2, Value.slice aol3 ((x.ts.take k3).map cutTb).length capl3]) rfl (fun k u hu => by rw [Hx69.out.cell]; simpa using hu) Try.underlying60 rfl (by kernel_rfl)) rfl ⟨_, rfl, ⟨_, _, _, rfl, HOK.out, ?_, ?_, ?_⟩, (((HML3.out.trans Cx58.out (fun _ _ h => h.elim)).trans Cx66.out (by intro k h1 h2; omega)).trans Cx70.out (by intro k h1 h2; omega))⟩
              · rw [show (cutBa x).ps = (x.ps.take k1).map cutPm from congrArg (List.map cutPm) HTK1.out.symm]
                refine ((((HKL3_5.out.mod Cx58.out (fun _ _ h => h) (fun _ _ h => h)).mod Cx66.out (by intro k h1 h2; omega) (by intro k h1 h2; rcases h1 with h1 | h1 <;> first | omega | (have hb := HBT.out k h1; omega))).mod Cx70.out (by intro k h1 h2; omega) (by intro k h1 h2; rcases h1 with h1 | h1 <;> first | omega | (have hb := HBT.out k h1; omega))).rd).widen ?_
                intro k h
                (try dsimp only at h ⊢)
                rcases h with h | h | h
                · right; omega
                · exact Or.inl h
                · right; omega
              · rw [show (cutBa x).os = (x.os.take k2).map cutOp from congrArg (List.map cutOp) HTK2.out.symm]
                refine ((((HKL3_6.out.mod Cx58.out (fun _ _ h => h) (fun _ _ h => h)).mod Cx66.out (by intro k h1 h2; omega) (by intro k h1 h2; rcases h1 with h1 | h1 <;> first | omega | (have hb := HBT.out k h1; omega))).mod Cx70.out (by intro k h1 h2; omega) (by intro k h1 h2; rcases h1 with h1 | h1 <;> first | omega | (have hb := HBT.out k h1; omega))).rd).widen ?_
                intro k h
                (try dsimp only at h ⊢)
                rcases h with h | h | h
                · right; omega
                · exact Or.inl h
                · right; omega
              · rw [show (cutBa x).ts = (x.ts.take k3).map cutTb from congrArg (List.map cutTb) HTK3.out.symm]
                refine ((((HAL3.out.mod Cx58.out (fun _ _ h => h) (fun _ _ h => h)).mod Cx66.out (by intro k h1 h2; omega) (by intro k h1 h2; rcases h1 with h1 | h1 <;> first | omega | (have hb := HBT.out k h1; omega))).mod Cx70.out (by intro k h1 h2; omega) (by intro k h1 h2; rcases h1 with h1 | h1 <;> first | omega | (have hb := HBT.out k h1; omega))).rd).widen ?_
                intro k h
                (try dsimp only at h ⊢)
                rcases h with h | h | h
                · right; omega
                · exact Or.inl h
                · right; omega
end Go.Proofs.Ytknpapcfhnhheaa

/- Parts of messages, put as bytes. -/
set_option maxRecDepth 100000
set_option linter.unusedVariables false
namespace Go.Proofs.Ytknpapcfhnhheaa
open Go Go.RowKit Go.Gv

end Go.Proofs.Ytknpapcfhnhheaa

/- Package wire: the texts that are signed, a batch's hash. -/
set_option maxRecDepth 100000
set_option linter.unusedVariables false
namespace Go.Proofs.Ytknpapcfhnhheaa
open Go Go.RowKit Go.Gv


/-- a function from a thing to bytes; to a hash -/
def Makes {α : Type} (A : Rep α) (F : FuncId) (f : α → List Int) : Prop := ∀ (R2 : Nat → Prop) (cs : List Value) (x : α) (w : World), A.rd R2 w cs x → (∀ k, R2 k → k < w.heap.size) → (f x).length ≤ 900000 →
  Calls Try.prog F #[.agg cs.toArray] w fun e w' => ∃ v', e = .returned v' ∧ OwR (New w w') 900000 w' v' (f x) ∧ Mod (fun _ => False) w w'
def Hashes {α : Type} (A : Rep α) (F : FuncId) (f : α → List Int) : Prop := ∀ (R2 : Nat → Prop) (cs : List Value) (x : α) (w : World), A.rd R2 w cs x → (∀ k, R2 k → k < w.heap.size) → (f x).length ≤ 900000 →
  Calls Try.prog F #[.agg cs.toArray] w fun e w' => e = .returned (hv (shaF (f x))) ∧ Mod (fun _ => False) w w'
end Go.Proofs.Ytknpapcfhnhheaa

/- The reference's bytes of small things. -/
set_option maxRecDepth 100000
set_option linter.unusedVariables false
namespace Go.Proofs.Ytknpapcfhnhheaa
open Go Go.RowKit Go.Gv


theorem RefInt_Q (n : Int) (hn : I64 n) (w : World) : Calls Try.prog 70 #[.int .i64 n] w fun e w' => ∃ v', e = .returned v' ∧ OwR (New w w') 900000 w' v' (encI n) ∧ Mod (fun _ => False) w w' :=
  (RefInt_R n hn w).mono fun e w' ⟨v', he, ho, hm⟩ => ⟨v', he, ho.widen (fun _ h => h) (by omega), hm⟩
theorem RefNum_Q (n : Nat) (hn : n < U64) (w : World) : Calls Try.prog 75 #[.int .u64 n] w fun e w' => ∃ v', e = .returned v' ∧ OwR (New w w') 900000 w' v' (encN n) ∧ Mod (fun _ => False) w w' :=
  (RefNum_R n hn w).mono fun e w' ⟨v', he, ho, hm⟩ => ⟨v', he, ho.widen (fun _ h => h) (by omega), hm⟩
theorem RefRow_Q {R : Nat → Prop} {N : Nat} {v : Value} {bs : List Int} {w : World} (hr : RdR R N w v bs) (hl : (encN bs.length ++ bs).length ≤ 900000) : Calls Try.prog 102 #[v] w fun e w' => ∃ v', e = .returned v' ∧ OwR (New w w') 900000 w' v' (encN bs.length ++ bs) ∧ Mod (fun _ => False) w w' := by
  have h1 : bs.length ≤ 900000 := by simp only [List.length_append] at hl; omega
  exact (RefRow_R (N := bs.length) ⟨hr.1, hr.2.1, Nat.le_refl _⟩ h1).mono fun e w' ⟨v', he, ho, hm⟩ => ⟨v', he, ⟨ho.1, ho.2.1, hl⟩, hm⟩
theorem RdB_arr3 {w : World} {g off : Nat} {h : List Int} (hc : ∀ j u, (h.map bv)[j]? = some u → w.cell? ⟨g, off + j, none⟩ = some u) (hk : HK h) : RdB w (.slice (some ⟨g, off, none⟩) 32 32) h := by
  refine ⟨hk.2, ?_⟩
  rw [hk.1]
  exact Rd.mk (Nat.le_refl _) (by rw [maxLen_val]; omega) (by simp [hk.1]) fun j y hy => hc j y hy
def bareT (x : St) : List Int := encI x.rp ++ (nameB x.cl x.sq ++ (x.h ++ encN x.tm))
def bareP (x : Pm) : List Int := encI x.rp ++ (encI x.ep ++ (encN x.fl ++ listB ceB x.l))
theorem acc_len {α : Type} (f : α → List Int) (bs : List Int) (l : List α) (k : Nat) {n : Nat} (h : (bs ++ (l.map f).flatten).length ≤ n) : (bs ++ ((l.take k).map f).flatten).length ≤ n := by
  have e : (l.map f).flatten = ((l.take k).map f).flatten ++ ((l.drop k).map f).flatten := by rw [← List.flatten_append, ← List.map_append, List.take_append_drop]
  rw [e] at h
  simp only [List.length_append] at h ⊢
  omega
theorem encI_len0 (n : Int) (h : I64 n) : (encI n).length ≤ 10 := (encI_len n h.2).2
set_option maxHeartbeats 2000000 in
theorem RefSig_Q {a b : Int} (ha : I64 a) (hb : I64 b) (w : World) : Calls Try.prog 74 #[.agg #[.int .i64 a, .int .i64 b]] w fun e w' => ∃ v', e = .returned v' ∧ OwR (New w w') 900000 w' v' (sigB a b) ∧ Mod (fun _ => False) w w' := by
  have HA := Lib.hid ha
  have HB := Lib.hid hb
  have HL := hid (show (encI a ++ encI b).length ≤ 900000 by have := encI_len a ha.2; have := encI_len b hb.2; simp only [List.length_append]; omega)
  clear ha hb
  change Calls _ _ #[.agg #[.int .i64 a, .int .i64 b]] _ _
  go_enter Try.func74, Try.ntmps74
  go_upto_region 1 with (fail)
  obtain ⟨w1, hw1⟩ : ∃ zz, zz = (w.alloc (.cells #[.int .i64 a, .int .i64 b] 28)) := ⟨_, rfl⟩
  change Code.wp _ _ _ _ (w.alloc (.cells #[.int .i64 a, .int .i64 b] 28))
  rw [← hw1]
  have HB1 := hid (show Cs w1 (w.heap.size) #[.int .i64 a, .int .i64 b] 28 by rw [hw1]; exact Cs.new _ _ _)
  have hm : Mod (fun _ => False) w w1 := by rw [hw1]; exact (Mod.refl _ _).alloc _
  have HM0 := hid (show Mod (fun _ => False) w w1 from hm.mono (fun _ _ h => h.elim))
  have hs1 : w1.heap.size = w.heap.size + 1 := by rw [hw1]; simp
  clear hw1 hm
  go_upto_region 1 with (fail)
  generalize ha0 : Act.mk _ _ = a0
  have oe1 : a0.eval (.tmp 1) = .pointer (some ⟨w.heap.size, 0, none⟩) := by rw [← ha0]; rfl
  have hsz0 : a0.tmps.size = 11 := by rw [← ha0]; rfl
  have HA0 := hid ha0
  clear ha0
  refine wp_region_Q0 11 hsz0 [3, 4, 5, 6, 7, 8, 9, 10, 2] [qi (.pointer (some ⟨w.heap.size, 0, none⟩)), qi (.int .i64 a), qv 0, qi (.pointer (some ⟨w.heap.size, 1, none⟩)), qi (.int .i64 b), qv 1, qv 2, qv 3, qv 3] ⟨qi_stable, qi_stable, qv_stable, qi_stable, qi_stable, qv_stable, qv_stable, qv_stable, qv_stable, trivial⟩ [2, 5, 6, 7] ⟨?_, ?_, ?_, ?_, ?_, ?_, ?_, ?_, ?_, trivial⟩ ?_
  · exact stq (fun E => ex_field rfl Try.underlying28 rfl (by kernel_rfl) (E.v oe1))
  · exact stq (fun E => ex_load1 rfl Try.underlying3 rfl (E.d 0) (Cs.lit1 (HB1.out.mod E.m.old (by intro h2; omega)) rfl))
  · exact stepq_chain rfl
  · exact stq (fun E => ex_field rfl Try.underlying28 rfl (by kernel_rfl) (E.v oe1))
  · exact stq (fun E => ex_load1 rfl Try.underlying3 rfl (E.d 3) (Cs.lit1 (HB1.out.mod E.m.old (by intro h2; omega)) rfl))
  · exact stepq_chain rfl
  · exact stepq_chain rfl
  · exact stepq_chain rfl
  · refine stepq_env rfl rfl rfl fun _ _ _ _ _ _ _ _ _ hd _ _ => ?_
    have h7 := hd ⟨7, .data⟩ (by simp) rfl _ rfl
    exact qe_run rfl (wanted_none rfl) (ex_assign rfl rfl) QE.refl h7
  intro u1_0 hr
  have zu1_0 := hr.size
  have Cx1 := hid (hr.new (S := (fun _ => False)))
  clear hr
  refine QChain.go fun Z act E => ?_
  refine qc_callF (args := #[.int .i64 a]) rfl (wanted_none rfl) rfl Try.func70 (args1 (E.d 1)) (RefInt_Q _ HA.out _) ?_
  rintro e u1_1a ⟨v_a1, rfl, qa1, hm⟩
  obtain ⟨ao_a1, cap_a1, rfl⟩ := qa1.shape
  have zu1_1a := hm.size
  refine ⟨_, rfl, hm.mono (fun _ _ h => h.elim), (fun _ => rfl), ?_⟩
  intro u1_1 hr
  have zu1_1 := hr.size
  have Hx2 := hid ((qa1.widen (R' := (fun k => (New u1_0 u1_1a k))) (fun _ h => h) (Nat.le_refl _)).mod hr (by intro k h1 h2; omega))
  have Cx3 := hid (Cx1.out.go hm hr)
  clear Cx1 hm hr Z act E qa1
  refine QChain.go fun Z act E => ?_
  refine qc_callF (args := #[.int .i64 b]) rfl (wanted_none rfl) rfl Try.func70 (args1 (E.d 4)) (RefInt_Q _ HB.out _) ?_
  rintro e u1_2a ⟨v_a2, rfl, qa2, hm⟩
  obtain ⟨ao_a2, cap_a2, rfl⟩ := qa2.shape
  have zu1_2a := hm.size
  refine ⟨_, rfl, hm.mono (fun _ _ h => h.elim), (fun _ => rfl), ?_⟩
  intro u1_2 hr
  have zu1_2 := hr.size
  have Hx4 := hid ((qa2.widen (R' := (fun k => (New u1_1 u1_2a k))) (fun _ h => h) (Nat.le_refl _)).mod hr (by intro k h1 h2; omega))
  have hmr := Mod.after hm hr
  have Hx5 := hid (Hx2.out.mod hmr (by intro k h1 h2; omega))
  clear Hx2
  clear hmr
  have Cx6 := hid (Cx3.out.go hm hr)
  clear Cx3 hm hr Z act E qa2
  refine QChain.go fun Z act E => ?_
  have ea5 : act.eval (.tmp 5) = .slice ao_a1 ((encI a).length) cap_a1 := (chv (v := .slice ao_a1 ((encI a).length) cap_a1) (E.d 2))
  have ea8 : act.eval (.tmp 8) = .slice ao_a2 ((encI b).length) cap_a2 := (chv (v := .slice ao_a2 ((encI b).length) cap_a2) (E.d 5))
  refine qc_rows rfl (wanted_none rfl) rfl Try.underlying144 (by decide) (C := #[.slice ao_a1 ((encI a).length) cap_a1, .slice ao_a2 ((encI b).length) cap_a2]) (by simp only [List.map_toArray, List.map_cons, List.map_nil, ea5, ea8]; kernel_rfl) ?_
  intro u1_3a qrow6 hm
  have zl1_6 := qrow6.lt
  have zu1_3a := hm.size
  refine ⟨hm.mono (fun _ _ h => h.elim), (fun _ => rfl), ?_⟩
  intro u1_3 hr
  have zu1_3 := hr.size
  have Hx7 := hid (qrow6.mod hr (by intro h2; omega))
  have hmr := Mod.after hm hr
  have Hx8 := hid (Hx5.out.mod hmr (by intro k h1 h2; omega))
  have Hx9 := hid (Hx4.out.mod hmr (by intro k h1 h2; omega))
  clear Hx5 Hx4
  clear hmr
  have Cx10 := hid (Cx6.out.go hm hr)
  clear Cx6 hm hr Z act E qrow6 ea5 ea8
  refine QChain.go fun Z act E => ?_
  refine qc_callF (args := #[.slice (some ⟨u1_2.heap.size, 0, none⟩) 2 2]) rfl (wanted_none rfl) rfl Try.func68 (args1 (chv (v := .slice (some ⟨u1_2.heap.size, 0, none⟩) 2 2) (E.d 6))) (Join_Q (n := 2)  Hx7.out [(.slice ao_a1 ((encI a).length) cap_a1, encI a), (.slice ao_a2 ((encI b).length) cap_a2, encI b)] rfl rfl (by intro p hp; simp only [List.mem_cons, List.not_mem_nil, or_false] at hp; rcases hp with rfl | rfl <;> first | exact Hx8.out.rd.1 | exact Hx9.out.rd.1) (by simp) (show flat _ = encI a ++ encI b from by simp only [flat, List.map_cons, List.map_nil, List.flatten_cons, List.flatten_nil, List.append_nil]) (by have := HL.out; simp only [List.length_append] at this ⊢; omega)) ?_
  rintro e u1_4a ⟨v_join1, rfl, qjoin1, hm⟩
  have zu1_4a := hm.size
  refine ⟨_, rfl, hm.mono (fun _ _ h => h.elim), (fun _ => rfl), ?_⟩
  intro u1_4 hr
  have zu1_4 := hr.size
  have Hx11 := hid ((qjoin1.widen (R' := (fun k => (New u1_3 u1_4a k))) (fun _ h => h) (Nat.le_refl _)).mod hr (by intro k h1 h2; omega))
  have hmr := Mod.after hm hr
  have Hx12 := hid (Hx8.out.mod hmr (by intro k h1 h2; omega))
  have Hx13 := hid (Hx9.out.mod hmr (by intro k h1 h2; omega))
  have Hx14 := hid (Hx7.out.mod hmr (by intro h2; omega))
  clear Hx8 Hx9 Hx7
  clear hmr
  have Cx15 := hid (Cx10.out.go hm hr)
  clear Cx10 hm hr Z act E qjoin1
  refine QChain.nil fun vs hl hzz hrows hne => ?_
  obtain ⟨Z, hYZ, hZb, hV⟩ := hzz
  have f2 := fvc hV hl 2
  have f5 := fvc hV hl 5
  have f6 := fvc hV hl 6
  have f7 := fvc hV hl 7
  have f8 := fvc hV hl 8
  rw [show vs = [gw vs 0, gw vs 1, gw vs 2, gw vs 3, gw vs 4, gw vs 5, gw vs 6, gw vs 7, gw vs 8] from (gw_eta hl).trans rfl]
  have ha0 := HA0.out
  subst ha0
  clear HA0 hV hYZ hZb hsz0 hrows hne oe1
  simp only [putAll, Act.put, List.setIfInBounds_toArray, List.set_cons_zero, List.set_cons_succ, f2, f5, f6, f7, f8]
  clear hl f2 f5 f6 f7 f8
  go_wp2
  go_ret
  exact ⟨v_join1, rfl, (Hx11.out.widen (R' := (fun k => New w u1_4 k)) (by intro k h1; omega) (Nat.le_refl _)), (HM0.out.trans Cx15.out (fun _ _ h => h.elim))⟩
set_option maxHeartbeats 2000000 in
theorem RefName_Q {a b : Int} (ha : I64 a) (hb : I64 b) (w : World) : Calls Try.prog 108 #[.agg #[.int .i64 a, .int .i64 b]] w fun e w' => ∃ v', e = .returned v' ∧ OwR (New w w') 900000 w' v' (nameB a b) ∧ Mod (fun _ => False) w w' := by
  have HA := Lib.hid ha
  have HB := Lib.hid hb
  have HL := hid (show (encI a ++ encI b).length ≤ 900000 by have := encI_len a ha.2; have := encI_len b hb.2; simp only [List.length_append]; omega)
  clear ha hb
  change Calls _ _ #[.agg #[.int .i64 a, .int .i64 b]] _ _
  go_enter Try.func108, Try.ntmps108
  go_upto_region 1 with (fail)
  obtain ⟨w1, hw1⟩ : ∃ zz, zz = (w.alloc (.cells #[.int .i64 a, .int .i64 b] 23)) := ⟨_, rfl⟩
  change Code.wp _ _ _ _ (w.alloc (.cells #[.int .i64 a, .int .i64 b] 23))
  rw [← hw1]
  have HB1 := hid (show Cs w1 (w.heap.size) #[.int .i64 a, .int .i64 b] 23 by rw [hw1]; exact Cs.new _ _ _)
  have hm : Mod (fun _ => False) w w1 := by rw [hw1]; exact (Mod.refl _ _).alloc _
  have HM0 := hid (show Mod (fun _ => False) w w1 from hm.mono (fun _ _ h => h.elim))
  have hs1 : w1.heap.size = w.heap.size + 1 := by rw [hw1]; simp
  clear hw1 hm
  go_upto_region 1 with (fail)
  generalize ha0 : Act.mk _ _ = a0
  have oe1 : a0.eval (.tmp 1) = .pointer (some ⟨w.heap.size, 0, none⟩) := by rw [← ha0]; rfl
  have hsz0 : a0.tmps.size = 11 := by rw [← ha0]; rfl
  have HA0 := hid ha0
  clear ha0
  refine wp_region_Q0 11 hsz0 [3, 4, 5, 6, 7, 8, 9, 10, 2] [qi (.pointer (some ⟨w.heap.size, 0, none⟩)), qi (.int .i64 a), qv 0, qi (.pointer (some ⟨w.heap.size, 1, none⟩)), qi (.int .i64 b), qv 1, qv 2, qv 3, qv 3] ⟨qi_stable, qi_stable, qv_stable, qi_stable, qi_stable, qv_stable, qv_stable, qv_stable, qv_stable, trivial⟩ [2, 5, 6, 7] ⟨?_, ?_, ?_, ?_, ?_, ?_, ?_, ?_, ?_, trivial⟩ ?_
  · exact stq (fun E => ex_field rfl Try.underlying23 rfl (by kernel_rfl) (E.v oe1))
  · exact stq (fun E => ex_load1 rfl Try.underlying3 rfl (E.d 0) (Cs.lit1 (HB1.out.mod E.m.old (by intro h2; omega)) rfl))
  · exact stepq_chain rfl
  · exact stq (fun E => ex_field rfl Try.underlying23 rfl (by kernel_rfl) (E.v oe1))
  · exact stq (fun E => ex_load1 rfl Try.underlying3 rfl (E.d 3) (Cs.lit1 (HB1.out.mod E.m.old (by intro h2; omega)) rfl))
  · exact stepq_chain rfl
  · exact stepq_chain rfl
  · exact stepq_chain rfl
  · refine stepq_env rfl rfl rfl fun _ _ _ _ _ _ _ _ _ hd _ _ => ?_
    have h7 := hd ⟨7, .data⟩ (by simp) rfl _ rfl
    exact qe_run rfl (wanted_none rfl) (ex_assign rfl rfl) QE.refl h7
  intro u1_0 hr
  have zu1_0 := hr.size
  have Cx1 := hid (hr.new (S := (fun _ => False)))
  clear hr
  refine QChain.go fun Z act E => ?_
  refine qc_callF (args := #[.int .i64 a]) rfl (wanted_none rfl) rfl Try.func70 (args1 (E.d 1)) (RefInt_Q _ HA.out _) ?_
  rintro e u1_1a ⟨v_a1, rfl, qa1, hm⟩
  obtain ⟨ao_a1, cap_a1, rfl⟩ := qa1.shape
  have zu1_1a := hm.size
  refine ⟨_, rfl, hm.mono (fun _ _ h => h.elim), (fun _ => rfl), ?_⟩
  intro u1_1 hr
  have zu1_1 := hr.size
  have Hx2 := hid ((qa1.widen (R' := (fun k => (New u1_0 u1_1a k))) (fun _ h => h) (Nat.le_refl _)).mod hr (by intro k h1 h2; omega))
  have Cx3 := hid (Cx1.out.go hm hr)
  clear Cx1 hm hr Z act E qa1
  refine QChain.go fun Z act E => ?_
  refine qc_callF (args := #[.int .i64 b]) rfl (wanted_none rfl) rfl Try.func70 (args1 (E.d 4)) (RefInt_Q _ HB.out _) ?_
  rintro e u1_2a ⟨v_a2, rfl, qa2, hm⟩
  obtain ⟨ao_a2, cap_a2, rfl⟩ := qa2.shape
  have zu1_2a := hm.size
  refine ⟨_, rfl, hm.mono (fun _ _ h => h.elim), (fun _ => rfl), ?_⟩
  intro u1_2 hr
  have zu1_2 := hr.size
  have Hx4 := hid ((qa2.widen (R' := (fun k => (New u1_1 u1_2a k))) (fun _ h => h) (Nat.le_refl _)).mod hr (by intro k h1 h2; omega))
  have hmr := Mod.after hm hr
  have Hx5 := hid (Hx2.out.mod hmr (by intro k h1 h2; omega))
  clear Hx2
  clear hmr
  have Cx6 := hid (Cx3.out.go hm hr)
  clear Cx3 hm hr Z act E qa2
  refine QChain.go fun Z act E => ?_
  have ea5 : act.eval (.tmp 5) = .slice ao_a1 ((encI a).length) cap_a1 := (chv (v := .slice ao_a1 ((encI a).length) cap_a1) (E.d 2))
  have ea8 : act.eval (.tmp 8) = .slice ao_a2 ((encI b).length) cap_a2 := (chv (v := .slice ao_a2 ((encI b).length) cap_a2) (E.d 5))
  refine qc_rows rfl (wanted_none rfl) rfl Try.underlying144 (by decide) (C := #[.slice ao_a1 ((encI a).length) cap_a1, .slice ao_a2 ((encI b).length) cap_a2]) (by simp only [List.map_toArray, List.map_cons, List.map_nil, ea5, ea8]; kernel_rfl) ?_
  intro u1_3a qrow6 hm
  have zl1_6 := qrow6.lt
  have zu1_3a := hm.size
  refine ⟨hm.mono (fun _ _ h => h.elim), (fun _ => rfl), ?_⟩
  intro u1_3 hr
  have zu1_3 := hr.size
  have Hx7 := hid (qrow6.mod hr (by intro h2; omega))
  have hmr := Mod.after hm hr
  have Hx8 := hid (Hx5.out.mod hmr (by intro k h1 h2; omega))
  have Hx9 := hid (Hx4.out.mod hmr (by intro k h1 h2; omega))
  clear Hx5 Hx4
  clear hmr
  have Cx10 := hid (Cx6.out.go hm hr)
  clear Cx6 hm hr Z act E qrow6 ea5 ea8
  refine QChain.go fun Z act E => ?_
  refine qc_callF (args := #[.slice (some ⟨u1_2.heap.size, 0, none⟩) 2 2]) rfl (wanted_none rfl) rfl Try.func68 (args1 (chv (v := .slice (some ⟨u1_2.heap.size, 0, none⟩) 2 2) (E.d 6))) (Join_Q (n := 2)  Hx7.out [(.slice ao_a1 ((encI a).length) cap_a1, encI a), (.slice ao_a2 ((encI b).length) cap_a2, encI b)] rfl rfl (by intro p hp; simp only [List.mem_cons, List.not_mem_nil, or_false] at hp; rcases hp with rfl | rfl <;> first | exact Hx8.out.rd.1 | exact Hx9.out.rd.1) (by simp) (show flat _ = encI a ++ encI b from by simp only [flat, List.map_cons, List.map_nil, List.flatten_cons, List.flatten_nil, List.append_nil]) (by have := HL.out; simp only [List.length_append] at this ⊢; omega)) ?_
  rintro e u1_4a ⟨v_join1, rfl, qjoin1, hm⟩
  have zu1_4a := hm.size
  refine ⟨_, rfl, hm.mono (fun _ _ h => h.elim), (fun _ => rfl), ?_⟩
  intro u1_4 hr
  have zu1_4 := hr.size
  have Hx11 := hid ((qjoin1.widen (R' := (fun k => (New u1_3 u1_4a k))) (fun _ h => h) (Nat.le_refl _)).mod hr (by intro k h1 h2; omega))
  have hmr := Mod.after hm hr
  have Hx12 := hid (Hx8.out.mod hmr (by intro k h1 h2; omega))
  have Hx13 := hid (Hx9.out.mod hmr (by intro k h1 h2; omega))
  have Hx14 := hid (Hx7.out.mod hmr (by intro h2; omega))
  clear Hx8 Hx9 Hx7
  clear hmr
  have Cx15 := hid (Cx10.out.go hm hr)
  clear Cx10 hm hr Z act E qjoin1
  refine QChain.nil fun vs hl hzz hrows hne => ?_
  obtain ⟨Z, hYZ, hZb, hV⟩ := hzz
  have f2 := fvc hV hl 2
  have f5 := fvc hV hl 5
  have f6 := fvc hV hl 6
  have f7 := fvc hV hl 7
  have f8 := fvc hV hl 8
  rw [show vs = [gw vs 0, gw vs 1, gw vs 2, gw vs 3, gw vs 4, gw vs 5, gw vs 6, gw vs 7, gw vs 8] from (gw_eta hl).trans rfl]
  have ha0 := HA0.out
  subst ha0
  clear HA0 hV hYZ hZb hsz0 hrows hne oe1
  simp only [putAll, Act.put, List.setIfInBounds_toArray, List.set_cons_zero, List.set_cons_succ, f2, f5, f6, f7, f8]
  clear hl f2 f5 f6 f7 f8
  go_wp2
  go_ret
  exact ⟨v_join1, rfl, (Hx11.out.widen (R' := (fun k => New w u1_4 k)) (by intro k h1; omega) (Nat.le_refl _)), (HM0.out.trans Cx15.out (fun _ _ h => h.elim))⟩
set_option maxHeartbeats 4000000 in
theorem RefCm_Q : Makes CmR 69 cmB := by
  intro R2 cs x w hx hB2 hl
  obtain ⟨rfl, hok⟩ := hx
  have HBT := Lib.hid hB2
  have HOK := Lib.hid hok
  have HL := Lib.hid hl
  clear hB2 hl hok
  unfold cmB at HL
  go_enter Try.func69, Try.ntmps69
  go_upto_region 1 with (fail)
  obtain ⟨w1, hw1⟩ : ∃ zz, zz = (w.alloc (.cells (x.cells : List Value).toArray 49)) := ⟨_, rfl⟩
  change Code.wp _ _ _ _ (w.alloc (.cells (x.cells : List Value).toArray 49))
  rw [← hw1]
  have HB1 := hid (show Cs w1 (w.heap.size) (x.cells : List Value).toArray 49 by rw [hw1]; exact Cs.new _ _ _)
  have hm : Mod (fun _ => False) w w1 := by rw [hw1]; exact (Mod.refl _ _).alloc _
  have HM0 := hid (show Mod (fun _ => False) w w1 from hm.mono (fun _ _ h => h.elim))
  have hs1 : w1.heap.size = w.heap.size + 1 := by rw [hw1]; simp
  clear hw1 hm
  go_upto_region 1 with (fail)
  generalize ha0 : Act.mk _ _ = a0
  have oe1 : a0.eval (.tmp 1) = .pointer (some ⟨w.heap.size, 0, none⟩) := by rw [← ha0]; rfl
  have hsz0 : a0.tmps.size = 16 := by rw [← ha0]; rfl
  have HA0 := hid ha0
  clear ha0
  refine wp_region_Q0 16 hsz0 [3, 4, 5, 6, 7, 8, 9, 10, 11, 12, 13, 14, 15, 2] [qi (.pointer (some ⟨w.heap.size, 0, none⟩)), qi (.agg #[.int .i64 x.cl, .int .i64 x.sq]), qv 0, qi (.pointer (some ⟨w.heap.size, 2, none⟩)), qi (.slice (some ⟨w.heap.size, 2, none⟩) 32 32), qi (.pointer (some ⟨w.heap.size, 34, none⟩)), qi (.int .i64 x.ln), qv 1, qi (.pointer (some ⟨w.heap.size, 35, none⟩)), qi (.agg #[.int .i64 x.sb, .int .i64 x.mr]), qv 2, qv 3, qv 4, qv 4] ⟨qi_stable, qi_stable, qv_stable, qi_stable, qi_stable, qi_stable, qi_stable, qv_stable, qi_stable, qi_stable, qv_stable, qv_stable, qv_stable, qv_stable, trivial⟩ [2, 7, 10, 11, 12] ⟨?_, ?_, ?_, ?_, ?_, ?_, ?_, ?_, ?_, ?_, ?_, ?_, ?_, ?_, trivial⟩ ?_
  · exact stq (fun E => ex_field rfl Try.underlying49 rfl (by kernel_rfl) (E.v oe1))
  · exact stq (fun E => ex_loadA rfl Try.underlying23 rfl (off := 0) (cs := [.int .i64 x.cl, .int .i64 x.sq]) (by kernel_rfl) (E.d 0) (Cs.preA (pre := [.int .i64 x.cl, .int .i64 x.sq]) (mid := x.h.map bv) (post := [.int .i64 x.ln, .int .i64 x.sb, .int .i64 x.mr]) (HB1.out.mod E.m.old (by intro h2; omega)) rfl))
  · exact stepq_chain rfl
  · exact stq (fun E => ex_field rfl Try.underlying49 rfl (by kernel_rfl) (E.v oe1))
  · exact stq (fun E => ex_sliceArr rfl Try.underlying25 (by kernel_rfl) (E.d 3) (by decide))
  · exact stq (fun E => ex_field rfl Try.underlying49 rfl (by kernel_rfl) (E.v oe1))
  · exact stq (fun E => ex_load1 rfl Try.underlying3 rfl (E.d 5) ((HB1.out.mod E.m.old (by intro h2; omega)).c34 HOK.out.2.1))
  · exact stepq_chain rfl
  · exact stq (fun E => ex_field rfl Try.underlying49 rfl (by kernel_rfl) (E.v oe1))
  · exact stq (fun E => ex_loadA rfl Try.underlying28 rfl (off := 35) (cs := [.int .i64 x.sb, .int .i64 x.mr]) (by kernel_rfl) (E.d 8) ((HB1.out.mod E.m.old (by intro h2; omega)).sig HOK.out.2.1))
  · exact stepq_chain rfl
  · exact stepq_chain rfl
  · exact stepq_chain rfl
  · refine stepq_env rfl rfl rfl fun _ _ _ _ _ _ _ _ _ hd _ _ => ?_
    have h12 := hd ⟨12, .data⟩ (by simp) rfl _ rfl
    exact qe_run rfl (wanted_none rfl) (ex_assign rfl rfl) QE.refl h12
  intro u1_0 hr
  have zu1_0 := hr.size
  have Cx1 := hid (hr.new (S := (fun _ => False)))
  clear hr
  refine QChain.go fun Z act E => ?_
  refine qc_callF (args := #[.agg #[.int .i64 x.cl, .int .i64 x.sq]]) rfl (wanted_none rfl) rfl Try.func108 (args1 (E.d 1)) (RefName_Q HOK.out.1.1 HOK.out.1.2.1 _) ?_
  rintro e u1_1a ⟨v_a1, rfl, qa1, hm⟩
  obtain ⟨ao_a1, cap_a1, rfl⟩ := qa1.shape
  have zu1_1a := hm.size
  refine ⟨_, rfl, hm.mono (fun _ _ h => h.elim), (fun _ => rfl), ?_⟩
  intro u1_1 hr
  have zu1_1 := hr.size
  have Hx2 := hid ((qa1.widen (R' := (fun k => (New u1_0 u1_1a k))) (fun _ h => h) (Nat.le_refl _)).mod hr (by intro k h1 h2; omega))
  have Cx3 := hid (Cx1.out.go hm hr)
  clear Cx1 hm hr Z act E qa1
  refine QChain.go fun Z act E => ?_
  refine qc_callF (args := #[.int .i64 x.ln]) rfl (wanted_none rfl) rfl Try.func70 (args1 (E.d 6)) (RefInt_Q _ HOK.out.1.2.2.1 _) ?_
  rintro e u1_2a ⟨v_a2, rfl, qa2, hm⟩
  obtain ⟨ao_a2, cap_a2, rfl⟩ := qa2.shape
  have zu1_2a := hm.size
  refine ⟨_, rfl, hm.mono (fun _ _ h => h.elim), (fun _ => rfl), ?_⟩
  intro u1_2 hr
  have zu1_2 := hr.size
  have Hx4 := hid ((qa2.widen (R' := (fun k => (New u1_1 u1_2a k))) (fun _ h => h) (Nat.le_refl _)).mod hr (by intro k h1 h2; omega))
  have hmr := Mod.after hm hr
  have Hx5 := hid (Hx2.out.mod hmr (by intro k h1 h2; omega))
  clear Hx2
  clear hmr
  have Cx6 := hid (Cx3.out.go hm hr)
  clear Cx3 hm hr Z act E qa2
  refine QChain.go fun Z act E => ?_
  refine qc_callF (args := #[.agg #[.int .i64 x.sb, .int .i64 x.mr]]) rfl (wanted_none rfl) rfl Try.func74 (args1 (E.d 9)) (RefSig_Q HOK.out.1.2.2.2.1 HOK.out.1.2.2.2.2 _) ?_
  rintro e u1_3a ⟨v_a3, rfl, qa3, hm⟩
  obtain ⟨ao_a3, cap_a3, rfl⟩ := qa3.shape
  have zu1_3a := hm.size
  refine ⟨_, rfl, hm.mono (fun _ _ h => h.elim), (fun _ => rfl), ?_⟩
  intro u1_3 hr
  have zu1_3 := hr.size
  have Hx7 := hid ((qa3.widen (R' := (fun k => (New u1_2 u1_3a k))) (fun _ h => h) (Nat.le_refl _)).mod hr (by intro k h1 h2; omega))
  have hmr := Mod.after hm hr
  have Hx8 := hid (Hx5.out.mod hmr (by intro k h1 h2; omega))
  have Hx9 := hid (Hx4.out.mod hmr (by intro k h1 h2; omega))
  clear Hx5 Hx4
  clear hmr
  have Cx10 := hid (Cx6.out.go hm hr)
  clear Cx6 hm hr Z act E qa3
  refine QChain.go fun Z act E => ?_
  have ea5 : act.eval (.tmp 5) = .slice ao_a1 ((nameB x.cl x.sq).length) cap_a1 := (chv (v := .slice ao_a1 ((nameB x.cl x.sq).length) cap_a1) (E.d 2))
  have ea7 : act.eval (.tmp 7) = .slice (some ⟨w.heap.size, 2, none⟩) 32 32 := (E.d 4)
  have ea10 : act.eval (.tmp 10) = .slice ao_a2 ((encI x.ln).length) cap_a2 := (chv (v := .slice ao_a2 ((encI x.ln).length) cap_a2) (E.d 7))
  have ea13 : act.eval (.tmp 13) = .slice ao_a3 ((sigB x.sb x.mr).length) cap_a3 := (chv (v := .slice ao_a3 ((sigB x.sb x.mr).length) cap_a3) (E.d 10))
  refine qc_rows rfl (wanted_none rfl) rfl Try.underlying144 (by decide) (C := #[.slice ao_a1 ((nameB x.cl x.sq).length) cap_a1, .slice (some ⟨w.heap.size, 2, none⟩) 32 32, .slice ao_a2 ((encI x.ln).length) cap_a2, .slice ao_a3 ((sigB x.sb x.mr).length) cap_a3]) (by simp only [List.map_toArray, List.map_cons, List.map_nil, ea5, ea7, ea10, ea13]; kernel_rfl) ?_
  intro u1_4a qrow11 hm
  have zl1_11 := qrow11.lt
  have zu1_4a := hm.size
  refine ⟨hm.mono (fun _ _ h => h.elim), (fun _ => rfl), ?_⟩
  intro u1_4 hr
  have zu1_4 := hr.size
  have Hx11 := hid (qrow11.mod hr (by intro h2; omega))
  have hmr := Mod.after hm hr
  have Hx12 := hid (Hx8.out.mod hmr (by intro k h1 h2; omega))
  have Hx13 := hid (Hx9.out.mod hmr (by intro k h1 h2; omega))
  have Hx14 := hid (Hx7.out.mod hmr (by intro k h1 h2; omega))
  clear Hx8 Hx9 Hx7
  clear hmr
  have Cx15 := hid (Cx10.out.go hm hr)
  clear Cx10 hm hr Z act E qrow11 ea5 ea7 ea10 ea13
  refine QChain.go fun Z act E => ?_
  refine qc_callF (args := #[.slice (some ⟨u1_3.heap.size, 0, none⟩) 4 4]) rfl (wanted_none rfl) rfl Try.func68 (args1 (chv (v := .slice (some ⟨u1_3.heap.size, 0, none⟩) 4 4) (E.d 11))) (Join_Q (n := 4)  Hx11.out [(.slice ao_a1 ((nameB x.cl x.sq).length) cap_a1, nameB x.cl x.sq), (.slice (some ⟨w.heap.size, 2, none⟩) 32 32, x.h), (.slice ao_a2 ((encI x.ln).length) cap_a2, encI x.ln), (.slice ao_a3 ((sigB x.sb x.mr).length) cap_a3, sigB x.sb x.mr)] rfl rfl (by intro p hp; simp only [List.mem_cons, List.not_mem_nil, or_false] at hp; rcases hp with rfl | rfl | rfl | rfl <;> first | exact Hx12.out.rd.1 | exact RdB_arr3 ((HB1.out.mod Cx15.out (fun h => h)).hash) HOK.out.2 | exact Hx13.out.rd.1 | exact Hx14.out.rd.1) (by simp) (show flat _ = nameB x.cl x.sq ++ (x.h ++ (encI x.ln ++ sigB x.sb x.mr)) from by simp only [flat, List.map_cons, List.map_nil, List.flatten_cons, List.flatten_nil, List.append_nil]) (by have := HL.out; simp only [List.length_append] at this ⊢; omega)) ?_
  rintro e u1_5a ⟨v_join1, rfl, qjoin1, hm⟩
  have zu1_5a := hm.size
  refine ⟨_, rfl, hm.mono (fun _ _ h => h.elim), (fun _ => rfl), ?_⟩
  intro u1_5 hr
  have zu1_5 := hr.size
  have Hx16 := hid ((qjoin1.widen (R' := (fun k => (New u1_4 u1_5a k))) (fun _ h => h) (Nat.le_refl _)).mod hr (by intro k h1 h2; omega))
  have hmr := Mod.after hm hr
  have Hx17 := hid (Hx12.out.mod hmr (by intro k h1 h2; omega))
  have Hx18 := hid (Hx13.out.mod hmr (by intro k h1 h2; omega))
  have Hx19 := hid (Hx14.out.mod hmr (by intro k h1 h2; omega))
  have Hx20 := hid (Hx11.out.mod hmr (by intro h2; omega))
  clear Hx12 Hx13 Hx14 Hx11
  clear hmr
  have Cx21 := hid (Cx15.out.go hm hr)
  clear Cx15 hm hr Z act E qjoin1
  refine QChain.nil fun vs hl hzz hrows hne => ?_
  obtain ⟨Z, hYZ, hZb, hV⟩ := hzz
  have f2 := fvc hV hl 2
  have f7 := fvc hV hl 7
  have f10 := fvc hV hl 10
  have f11 := fvc hV hl 11
  have f12 := fvc hV hl 12
  have f13 := fvc hV hl 13
  rw [show vs = [gw vs 0, gw vs 1, gw vs 2, gw vs 3, gw vs 4, gw vs 5, gw vs 6, gw vs 7, gw vs 8, gw vs 9, gw vs 10, gw vs 11, gw vs 12, gw vs 13] from (gw_eta hl).trans rfl]
  have ha0 := HA0.out
  subst ha0
  clear HA0 hV hYZ hZb hsz0 hrows hne oe1
  simp only [putAll, Act.put, List.setIfInBounds_toArray, List.set_cons_zero, List.set_cons_succ, f2, f7, f10, f11, f12, f13]
  clear hl f2 f7 f10 f11 f12 f13
  go_wp2
  go_ret
  have hq := (Hx16.out.widen (R' := (fun k => New w u1_5 k)) (by intro k h1; omega) (Nat.le_refl _))
  (try simp only [List.append_assoc] at hq)
  exact ⟨v_join1, rfl, by simpa only [cmB, List.append_assoc] using hq, (HM0.out.trans Cx21.out (fun _ _ h => h.elim))⟩
set_option maxHeartbeats 4000000 in
theorem RefBare_Q : Makes StR 103 bareT := by
  intro R2 cs x w hx hB2 hl
  obtain ⟨rfl, hok⟩ := hx
  have HBT := Lib.hid hB2
  have HOK := Lib.hid hok
  have HL := Lib.hid hl
  clear hB2 hl hok
  unfold bareT at HL
  go_enter Try.func103, Try.ntmps103
  go_upto_region 1 with (fail)
  obtain ⟨w1, hw1⟩ : ∃ zz, zz = (w.alloc (.cells (x.cells : List Value).toArray 30)) := ⟨_, rfl⟩
  change Code.wp _ _ _ _ (w.alloc (.cells (x.cells : List Value).toArray 30))
  rw [← hw1]
  have HB1 := hid (show Cs w1 (w.heap.size) (x.cells : List Value).toArray 30 by rw [hw1]; exact Cs.new _ _ _)
  have hm : Mod (fun _ => False) w w1 := by rw [hw1]; exact (Mod.refl _ _).alloc _
  have HM0 := hid (show Mod (fun _ => False) w w1 from hm.mono (fun _ _ h => h.elim))
  have hs1 : w1.heap.size = w.heap.size + 1 := by rw [hw1]; simp
  clear hw1 hm
  go_upto_region 1 with (fail)
  generalize ha0 : Act.mk _ _ = a0
  have oe1 : a0.eval (.tmp 1) = .pointer (some ⟨w.heap.size, 0, none⟩) := by rw [← ha0]; rfl
  have hsz0 : a0.tmps.size = 16 := by rw [← ha0]; rfl
  have HA0 := hid ha0
  clear ha0
  refine wp_region_Q0 16 hsz0 [3, 4, 5, 6, 7, 8, 9, 10, 11, 12, 13, 14, 15, 2] [qi (.pointer (some ⟨w.heap.size, 0, none⟩)), qi (.int .i64 x.rp), qv 0, qi (.pointer (some ⟨w.heap.size, 1, none⟩)), qi (.agg #[.int .i64 x.cl, .int .i64 x.sq]), qv 1, qi (.pointer (some ⟨w.heap.size, 3, none⟩)), qi (.slice (some ⟨w.heap.size, 3, none⟩) 32 32), qi (.pointer (some ⟨w.heap.size, 35, none⟩)), qi (.int .u64 (x.tm : Nat)), qv 2, qv 3, qv 4, qv 4] ⟨qi_stable, qi_stable, qv_stable, qi_stable, qi_stable, qv_stable, qi_stable, qi_stable, qi_stable, qi_stable, qv_stable, qv_stable, qv_stable, qv_stable, trivial⟩ [2, 5, 10, 11, 12] ⟨?_, ?_, ?_, ?_, ?_, ?_, ?_, ?_, ?_, ?_, ?_, ?_, ?_, ?_, trivial⟩ ?_
  · exact stq (fun E => ex_field rfl Try.underlying30 rfl (by kernel_rfl) (E.v oe1))
  · exact stq (fun E => ex_load1 rfl Try.underlying3 rfl (E.d 0) (Cs.pre1 (HB1.out.mod E.m.old (by intro h2; omega)) rfl))
  · exact stepq_chain rfl
  · exact stq (fun E => ex_field rfl Try.underlying30 rfl (by kernel_rfl) (E.v oe1))
  · exact stq (fun E => ex_loadA rfl Try.underlying23 rfl (off := 1) (cs := [.int .i64 x.cl, .int .i64 x.sq]) (by kernel_rfl) (E.d 3) (Cs.preA (HB1.out.mod E.m.old (by intro h2; omega)) rfl))
  · exact stepq_chain rfl
  · exact stq (fun E => ex_field rfl Try.underlying30 rfl (by kernel_rfl) (E.v oe1))
  · exact stq (fun E => ex_sliceArr rfl Try.underlying25 (by kernel_rfl) (E.d 6) (by decide))
  · exact stq (fun E => ex_field rfl Try.underlying30 rfl (by kernel_rfl) (E.v oe1))
  · exact stq (fun E => ex_load1 rfl Try.underlying26 rfl (E.d 8) (Cs.post1 (m := 32) (k := 0) (HB1.out.mod E.m.old (by intro h2; omega)) (by rw [List.length_map]; exact HOK.out.h.1) rfl rfl))
  · exact stepq_chain rfl
  · exact stepq_chain rfl
  · exact stepq_chain rfl
  · refine stepq_env rfl rfl rfl fun _ _ _ _ _ _ _ _ _ hd _ _ => ?_
    have h12 := hd ⟨12, .data⟩ (by simp) rfl _ rfl
    exact qe_run rfl (wanted_none rfl) (ex_assign rfl rfl) QE.refl h12
  intro u1_0 hr
  have zu1_0 := hr.size
  have Cx1 := hid (hr.new (S := (fun _ => False)))
  clear hr
  refine QChain.go fun Z act E => ?_
  refine qc_callF (args := #[.int .i64 x.rp]) rfl (wanted_none rfl) rfl Try.func70 (args1 (E.d 1)) (RefInt_Q _ HOK.out.rp _) ?_
  rintro e u1_1a ⟨v_a1, rfl, qa1, hm⟩
  obtain ⟨ao_a1, cap_a1, rfl⟩ := qa1.shape
  have zu1_1a := hm.size
  refine ⟨_, rfl, hm.mono (fun _ _ h => h.elim), (fun _ => rfl), ?_⟩
  intro u1_1 hr
  have zu1_1 := hr.size
  have Hx2 := hid ((qa1.widen (R' := (fun k => (New u1_0 u1_1a k))) (fun _ h => h) (Nat.le_refl _)).mod hr (by intro k h1 h2; omega))
  have Cx3 := hid (Cx1.out.go hm hr)
  clear Cx1 hm hr Z act E qa1
  refine QChain.go fun Z act E => ?_
  refine qc_callF (args := #[.agg #[.int .i64 x.cl, .int .i64 x.sq]]) rfl (wanted_none rfl) rfl Try.func108 (args1 (E.d 4)) (RefName_Q HOK.out.cl HOK.out.sq _) ?_
  rintro e u1_2a ⟨v_a2, rfl, qa2, hm⟩
  obtain ⟨ao_a2, cap_a2, rfl⟩ := qa2.shape
  have zu1_2a := hm.size
  refine ⟨_, rfl, hm.mono (fun _ _ h => h.elim), (fun _ => rfl), ?_⟩
  intro u1_2 hr
  have zu1_2 := hr.size
  have Hx4 := hid ((qa2.widen (R' := (fun k => (New u1_1 u1_2a k))) (fun _ h => h) (Nat.le_refl _)).mod hr (by intro k h1 h2; omega))
  have hmr := Mod.after hm hr
  have Hx5 := hid (Hx2.out.mod hmr (by intro k h1 h2; omega))
  clear Hx2
  clear hmr
  have Cx6 := hid (Cx3.out.go hm hr)
  clear Cx3 hm hr Z act E qa2
  refine QChain.go fun Z act E => ?_
  refine qc_callF (args := #[.int .u64 (x.tm : Nat)]) rfl (wanted_none rfl) rfl Try.func75 (args1 (E.d 9)) (RefNum_Q _ HOK.out.tm _) ?_
  rintro e u1_3a ⟨v_a3, rfl, qa3, hm⟩
  obtain ⟨ao_a3, cap_a3, rfl⟩ := qa3.shape
  have zu1_3a := hm.size
  refine ⟨_, rfl, hm.mono (fun _ _ h => h.elim), (fun _ => rfl), ?_⟩
  intro u1_3 hr
  have zu1_3 := hr.size
  have Hx7 := hid ((qa3.widen (R' := (fun k => (New u1_2 u1_3a k))) (fun _ h => h) (Nat.le_refl _)).mod hr (by intro k h1 h2; omega))
  have hmr := Mod.after hm hr
  have Hx8 := hid (Hx5.out.mod hmr (by intro k h1 h2; omega))
  have Hx9 := hid (Hx4.out.mod hmr (by intro k h1 h2; omega))
  clear Hx5 Hx4
  clear hmr
  have Cx10 := hid (Cx6.out.go hm hr)
  clear Cx6 hm hr Z act E qa3
  refine QChain.go fun Z act E => ?_
  have ea5 : act.eval (.tmp 5) = .slice ao_a1 ((encI x.rp).length) cap_a1 := (chv (v := .slice ao_a1 ((encI x.rp).length) cap_a1) (E.d 2))
  have ea8 : act.eval (.tmp 8) = .slice ao_a2 ((nameB x.cl x.sq).length) cap_a2 := (chv (v := .slice ao_a2 ((nameB x.cl x.sq).length) cap_a2) (E.d 5))
  have ea10 : act.eval (.tmp 10) = .slice (some ⟨w.heap.size, 3, none⟩) 32 32 := (E.d 7)
  have ea13 : act.eval (.tmp 13) = .slice ao_a3 ((encN x.tm).length) cap_a3 := (chv (v := .slice ao_a3 ((encN x.tm).length) cap_a3) (E.d 10))
  refine qc_rows rfl (wanted_none rfl) rfl Try.underlying144 (by decide) (C := #[.slice ao_a1 ((encI x.rp).length) cap_a1, .slice ao_a2 ((nameB x.cl x.sq).length) cap_a2, .slice (some ⟨w.heap.size, 3, none⟩) 32 32, .slice ao_a3 ((encN x.tm).length) cap_a3]) (by simp only [List.map_toArray, List.map_cons, List.map_nil, ea5, ea8, ea10, ea13]; kernel_rfl) ?_
  intro u1_4a qrow11 hm
  have zl1_11 := qrow11.lt
  have zu1_4a := hm.size
  refine ⟨hm.mono (fun _ _ h => h.elim), (fun _ => rfl), ?_⟩
  intro u1_4 hr
  have zu1_4 := hr.size
  have Hx11 := hid (qrow11.mod hr (by intro h2; omega))
  have hmr := Mod.after hm hr
  have Hx12 := hid (Hx8.out.mod hmr (by intro k h1 h2; omega))
  have Hx13 := hid (Hx9.out.mod hmr (by intro k h1 h2; omega))
  have Hx14 := hid (Hx7.out.mod hmr (by intro k h1 h2; omega))
  clear Hx8 Hx9 Hx7
  clear hmr
  have Cx15 := hid (Cx10.out.go hm hr)
  clear Cx10 hm hr Z act E qrow11 ea5 ea8 ea10 ea13
  refine QChain.go fun Z act E => ?_
  refine qc_callF (args := #[.slice (some ⟨u1_3.heap.size, 0, none⟩) 4 4]) rfl (wanted_none rfl) rfl Try.func68 (args1 (chv (v := .slice (some ⟨u1_3.heap.size, 0, none⟩) 4 4) (E.d 11))) (Join_Q (n := 4)  Hx11.out [(.slice ao_a1 ((encI x.rp).length) cap_a1, encI x.rp), (.slice ao_a2 ((nameB x.cl x.sq).length) cap_a2, nameB x.cl x.sq), (.slice (some ⟨w.heap.size, 3, none⟩) 32 32, x.h), (.slice ao_a3 ((encN x.tm).length) cap_a3, encN x.tm)] rfl rfl (by intro p hp; simp only [List.mem_cons, List.not_mem_nil, or_false] at hp; rcases hp with rfl | rfl | rfl | rfl <;> first | exact Hx12.out.rd.1 | exact Hx13.out.rd.1 | exact RdB_arr3 (Cs.midA (HB1.out.mod Cx15.out (fun h => h)) rfl) HOK.out.h | exact Hx14.out.rd.1) (by simp) (show flat _ = encI x.rp ++ (nameB x.cl x.sq ++ (x.h ++ encN x.tm)) from by simp only [flat, List.map_cons, List.map_nil, List.flatten_cons, List.flatten_nil, List.append_nil]) (by have := HL.out; simp only [List.length_append] at this ⊢; omega)) ?_
  rintro e u1_5a ⟨v_join1, rfl, qjoin1, hm⟩
  have zu1_5a := hm.size
  refine ⟨_, rfl, hm.mono (fun _ _ h => h.elim), (fun _ => rfl), ?_⟩
  intro u1_5 hr
  have zu1_5 := hr.size
  have Hx16 := hid ((qjoin1.widen (R' := (fun k => (New u1_4 u1_5a k))) (fun _ h => h) (Nat.le_refl _)).mod hr (by intro k h1 h2; omega))
  have hmr := Mod.after hm hr
  have Hx17 := hid (Hx12.out.mod hmr (by intro k h1 h2; omega))
  have Hx18 := hid (Hx13.out.mod hmr (by intro k h1 h2; omega))
  have Hx19 := hid (Hx14.out.mod hmr (by intro k h1 h2; omega))
  have Hx20 := hid (Hx11.out.mod hmr (by intro h2; omega))
  clear Hx12 Hx13 Hx14 Hx11
  clear hmr
  have Cx21 := hid (Cx15.out.go hm hr)
  clear Cx15 hm hr Z act E qjoin1
  refine QChain.nil fun vs hl hzz hrows hne => ?_
  obtain ⟨Z, hYZ, hZb, hV⟩ := hzz
  have f2 := fvc hV hl 2
  have f5 := fvc hV hl 5
  have f10 := fvc hV hl 10
  have f11 := fvc hV hl 11
  have f12 := fvc hV hl 12
  have f13 := fvc hV hl 13
  rw [show vs = [gw vs 0, gw vs 1, gw vs 2, gw vs 3, gw vs 4, gw vs 5, gw vs 6, gw vs 7, gw vs 8, gw vs 9, gw vs 10, gw vs 11, gw vs 12, gw vs 13] from (gw_eta hl).trans rfl]
  have ha0 := HA0.out
  subst ha0
  clear HA0 hV hYZ hZb hsz0 hrows hne oe1
  simp only [putAll, Act.put, List.setIfInBounds_toArray, List.set_cons_zero, List.set_cons_succ, f2, f5, f10, f11, f12, f13]
  clear hl f2 f5 f10 f11 f12 f13
  go_wp2
  go_ret
  have hq := (Hx16.out.widen (R' := (fun k => New w u1_5 k)) (by intro k h1; omega) (Nat.le_refl _))
  (try simp only [List.append_assoc] at hq)
  exact ⟨v_join1, rfl, by simpa only [bareT, List.append_assoc] using hq, (HM0.out.trans Cx21.out (fun _ _ h => h.elim))⟩
set_option maxHeartbeats 4000000 in
theorem RefDn_Q : Makes DnR 77 dnB := by
  intro R2 cs x w hx hB2 hl
  obtain ⟨rfl, hok⟩ := hx
  have HBT := Lib.hid hB2
  have HOK := Lib.hid hok
  have HL := Lib.hid hl
  clear hB2 hl hok
  unfold dnB at HL
  go_enter Try.func77, Try.ntmps77
  go_upto_region 1 with (fail)
  obtain ⟨w1, hw1⟩ : ∃ zz, zz = (w.alloc (.cells (x.cells : List Value).toArray 34)) := ⟨_, rfl⟩
  change Code.wp _ _ _ _ (w.alloc (.cells (x.cells : List Value).toArray 34))
  rw [← hw1]
  have HB1 := hid (show Cs w1 (w.heap.size) (x.cells : List Value).toArray 34 by rw [hw1]; exact Cs.new _ _ _)
  have hm : Mod (fun _ => False) w w1 := by rw [hw1]; exact (Mod.refl _ _).alloc _
  have HM0 := hid (show Mod (fun _ => False) w w1 from hm.mono (fun _ _ h => h.elim))
  have hs1 : w1.heap.size = w.heap.size + 1 := by rw [hw1]; simp
  clear hw1 hm
  go_upto_region 1 with (fail)
  generalize ha0 : Act.mk _ _ = a0
  have oe1 : a0.eval (.tmp 1) = .pointer (some ⟨w.heap.size, 0, none⟩) := by rw [← ha0]; rfl
  have hsz0 : a0.tmps.size = 14 := by rw [← ha0]; rfl
  have HA0 := hid ha0
  clear ha0
  refine wp_region_Q0 14 hsz0 [3, 4, 5, 6, 7, 8, 9, 10, 11, 12, 13, 2] [qi (.pointer (some ⟨w.heap.size, 0, none⟩)), qi (.int .i64 x.rp), qv 0, qi (.pointer (some ⟨w.heap.size, 1, none⟩)), qi (.int .i64 x.ix), qv 1, qi (.pointer (some ⟨w.heap.size, 2, none⟩)), qi (.agg #[.int .i64 x.sb, .int .i64 x.mr]), qv 2, qv 3, qv 4, qv 4] ⟨qi_stable, qi_stable, qv_stable, qi_stable, qi_stable, qv_stable, qi_stable, qi_stable, qv_stable, qv_stable, qv_stable, qv_stable, trivial⟩ [2, 5, 8, 9, 10] ⟨?_, ?_, ?_, ?_, ?_, ?_, ?_, ?_, ?_, ?_, ?_, ?_, trivial⟩ ?_
  · exact stq (fun E => ex_field rfl Try.underlying34 rfl (by kernel_rfl) (E.v oe1))
  · exact stq (fun E => ex_load1 rfl Try.underlying3 rfl (E.d 0) (Cs.lit1 (HB1.out.mod E.m.old (by intro h2; omega)) rfl))
  · exact stepq_chain rfl
  · exact stq (fun E => ex_field rfl Try.underlying34 rfl (by kernel_rfl) (E.v oe1))
  · exact stq (fun E => ex_load1 rfl Try.underlying3 rfl (E.d 3) (Cs.lit1 (HB1.out.mod E.m.old (by intro h2; omega)) rfl))
  · exact stepq_chain rfl
  · exact stq (fun E => ex_field rfl Try.underlying34 rfl (by kernel_rfl) (E.v oe1))
  · exact stq (fun E => ex_loadA rfl Try.underlying28 rfl (off := 2) (cs := [.int .i64 x.sb, .int .i64 x.mr]) (by kernel_rfl) (E.d 6) (Cs.litA (HB1.out.mod E.m.old (by intro h2; omega)) rfl))
  · exact stepq_chain rfl
  · exact stepq_chain rfl
  · exact stepq_chain rfl
  · refine stepq_env rfl rfl rfl fun _ _ _ _ _ _ _ _ _ hd _ _ => ?_
    have h10 := hd ⟨10, .data⟩ (by simp) rfl _ rfl
    exact qe_run rfl (wanted_none rfl) (ex_assign rfl rfl) QE.refl h10
  intro u1_0 hr
  have zu1_0 := hr.size
  have Cx1 := hid (hr.new (S := (fun _ => False)))
  clear hr
  refine QChain.go fun Z act E => ?_
  refine qc_callF (args := #[.int .i64 x.rp]) rfl (wanted_none rfl) rfl Try.func70 (args1 (E.d 1)) (RefInt_Q _ HOK.out.rp _) ?_
  rintro e u1_1a ⟨v_a1, rfl, qa1, hm⟩
  obtain ⟨ao_a1, cap_a1, rfl⟩ := qa1.shape
  have zu1_1a := hm.size
  refine ⟨_, rfl, hm.mono (fun _ _ h => h.elim), (fun _ => rfl), ?_⟩
  intro u1_1 hr
  have zu1_1 := hr.size
  have Hx2 := hid ((qa1.widen (R' := (fun k => (New u1_0 u1_1a k))) (fun _ h => h) (Nat.le_refl _)).mod hr (by intro k h1 h2; omega))
  have Cx3 := hid (Cx1.out.go hm hr)
  clear Cx1 hm hr Z act E qa1
  refine QChain.go fun Z act E => ?_
  refine qc_callF (args := #[.int .i64 x.ix]) rfl (wanted_none rfl) rfl Try.func70 (args1 (E.d 4)) (RefInt_Q _ HOK.out.ix _) ?_
  rintro e u1_2a ⟨v_a2, rfl, qa2, hm⟩
  obtain ⟨ao_a2, cap_a2, rfl⟩ := qa2.shape
  have zu1_2a := hm.size
  refine ⟨_, rfl, hm.mono (fun _ _ h => h.elim), (fun _ => rfl), ?_⟩
  intro u1_2 hr
  have zu1_2 := hr.size
  have Hx4 := hid ((qa2.widen (R' := (fun k => (New u1_1 u1_2a k))) (fun _ h => h) (Nat.le_refl _)).mod hr (by intro k h1 h2; omega))
  have hmr := Mod.after hm hr
  have Hx5 := hid (Hx2.out.mod hmr (by intro k h1 h2; omega))
  clear Hx2
  clear hmr
  have Cx6 := hid (Cx3.out.go hm hr)
  clear Cx3 hm hr Z act E qa2
  refine QChain.go fun Z act E => ?_
  refine qc_callF (args := #[.agg #[.int .i64 x.sb, .int .i64 x.mr]]) rfl (wanted_none rfl) rfl Try.func74 (args1 (E.d 7)) (RefSig_Q HOK.out.sb HOK.out.mr _) ?_
  rintro e u1_3a ⟨v_a3, rfl, qa3, hm⟩
  obtain ⟨ao_a3, cap_a3, rfl⟩ := qa3.shape
  have zu1_3a := hm.size
  refine ⟨_, rfl, hm.mono (fun _ _ h => h.elim), (fun _ => rfl), ?_⟩
  intro u1_3 hr
  have zu1_3 := hr.size
  have Hx7 := hid ((qa3.widen (R' := (fun k => (New u1_2 u1_3a k))) (fun _ h => h) (Nat.le_refl _)).mod hr (by intro k h1 h2; omega))
  have hmr := Mod.after hm hr
  have Hx8 := hid (Hx5.out.mod hmr (by intro k h1 h2; omega))
  have Hx9 := hid (Hx4.out.mod hmr (by intro k h1 h2; omega))
  clear Hx5 Hx4
  clear hmr
  have Cx10 := hid (Cx6.out.go hm hr)
  clear Cx6 hm hr Z act E qa3
  refine QChain.go fun Z act E => ?_
  have ea5 : act.eval (.tmp 5) = .slice ao_a1 ((encI x.rp).length) cap_a1 := (chv (v := .slice ao_a1 ((encI x.rp).length) cap_a1) (E.d 2))
  have ea8 : act.eval (.tmp 8) = .slice ao_a2 ((encI x.ix).length) cap_a2 := (chv (v := .slice ao_a2 ((encI x.ix).length) cap_a2) (E.d 5))
  have ea11 : act.eval (.tmp 11) = .slice ao_a3 ((sigB x.sb x.mr).length) cap_a3 := (chv (v := .slice ao_a3 ((sigB x.sb x.mr).length) cap_a3) (E.d 8))
  refine qc_rows rfl (wanted_none rfl) rfl Try.underlying144 (by decide) (C := #[.slice ao_a1 ((encI x.rp).length) cap_a1, .slice ao_a2 ((encI x.ix).length) cap_a2, .slice ao_a3 ((sigB x.sb x.mr).length) cap_a3]) (by simp only [List.map_toArray, List.map_cons, List.map_nil, ea5, ea8, ea11]; kernel_rfl) ?_
  intro u1_4a qrow9 hm
  have zl1_9 := qrow9.lt
  have zu1_4a := hm.size
  refine ⟨hm.mono (fun _ _ h => h.elim), (fun _ => rfl), ?_⟩
  intro u1_4 hr
  have zu1_4 := hr.size
  have Hx11 := hid (qrow9.mod hr (by intro h2; omega))
  have hmr := Mod.after hm hr
  have Hx12 := hid (Hx8.out.mod hmr (by intro k h1 h2; omega))
  have Hx13 := hid (Hx9.out.mod hmr (by intro k h1 h2; omega))
  have Hx14 := hid (Hx7.out.mod hmr (by intro k h1 h2; omega))
  clear Hx8 Hx9 Hx7
  clear hmr
  have Cx15 := hid (Cx10.out.go hm hr)
  clear Cx10 hm hr Z act E qrow9 ea5 ea8 ea11
  refine QChain.go fun Z act E => ?_
  refine qc_callF (args := #[.slice (some ⟨u1_3.heap.size, 0, none⟩) 3 3]) rfl (wanted_none rfl) rfl Try.func68 (args1 (chv (v := .slice (some ⟨u1_3.heap.size, 0, none⟩) 3 3) (E.d 9))) (Join_Q (n := 3)  Hx11.out [(.slice ao_a1 ((encI x.rp).length) cap_a1, encI x.rp), (.slice ao_a2 ((encI x.ix).length) cap_a2, encI x.ix), (.slice ao_a3 ((sigB x.sb x.mr).length) cap_a3, sigB x.sb x.mr)] rfl rfl (by intro p hp; simp only [List.mem_cons, List.not_mem_nil, or_false] at hp; rcases hp with rfl | rfl | rfl <;> first | exact Hx12.out.rd.1 | exact Hx13.out.rd.1 | exact Hx14.out.rd.1) (by simp) (show flat _ = encI x.rp ++ (encI x.ix ++ sigB x.sb x.mr) from by simp only [flat, List.map_cons, List.map_nil, List.flatten_cons, List.flatten_nil, List.append_nil]) (by have := HL.out; simp only [List.length_append] at this ⊢; omega)) ?_
  rintro e u1_5a ⟨v_join1, rfl, qjoin1, hm⟩
  have zu1_5a := hm.size
  refine ⟨_, rfl, hm.mono (fun _ _ h => h.elim), (fun _ => rfl), ?_⟩
  intro u1_5 hr
  have zu1_5 := hr.size
  have Hx16 := hid ((qjoin1.widen (R' := (fun k => (New u1_4 u1_5a k))) (fun _ h => h) (Nat.le_refl _)).mod hr (by intro k h1 h2; omega))
  have hmr := Mod.after hm hr
  have Hx17 := hid (Hx12.out.mod hmr (by intro k h1 h2; omega))
  have Hx18 := hid (Hx13.out.mod hmr (by intro k h1 h2; omega))
  have Hx19 := hid (Hx14.out.mod hmr (by intro k h1 h2; omega))
  have Hx20 := hid (Hx11.out.mod hmr (by intro h2; omega))
  clear Hx12 Hx13 Hx14 Hx11
  clear hmr
  have Cx21 := hid (Cx15.out.go hm hr)
  clear Cx15 hm hr Z act E qjoin1
  refine QChain.nil fun vs hl hzz hrows hne => ?_
  obtain ⟨Z, hYZ, hZb, hV⟩ := hzz
  have f2 := fvc hV hl 2
  have f5 := fvc hV hl 5
  have f8 := fvc hV hl 8
  have f9 := fvc hV hl 9
  have f10 := fvc hV hl 10
  have f11 := fvc hV hl 11
  rw [show vs = [gw vs 0, gw vs 1, gw vs 2, gw vs 3, gw vs 4, gw vs 5, gw vs 6, gw vs 7, gw vs 8, gw vs 9, gw vs 10, gw vs 11] from (gw_eta hl).trans rfl]
  have ha0 := HA0.out
  subst ha0
  clear HA0 hV hYZ hZb hsz0 hrows hne oe1
  simp only [putAll, Act.put, List.setIfInBounds_toArray, List.set_cons_zero, List.set_cons_succ, f2, f5, f8, f9, f10, f11]
  clear hl f2 f5 f8 f9 f10 f11
  go_wp2
  go_ret
  have hq := (Hx16.out.widen (R' := (fun k => New w u1_5 k)) (by intro k h1; omega) (Nat.le_refl _))
  (try simp only [List.append_assoc] at hq)
  exact ⟨v_join1, rfl, by simpa only [dnB, List.append_assoc] using hq, (HM0.out.trans Cx21.out (fun _ _ h => h.elim))⟩
set_option maxHeartbeats 4000000 in
theorem RefOp_Q : Makes OpR 76 opB := by
  intro R2 cs x w hx hB2 hl
  obtain ⟨v_pl, rfl, hok, hs0⟩ := hx
  have HS0 := Lib.hid hs0
  clear hs0
  have HBT := Lib.hid hB2
  have HOK := Lib.hid hok
  have HL := Lib.hid hl
  clear hB2 hl hok
  unfold opB at HL
  go_enter Try.func76, Try.ntmps76
  go_upto_region 1 with (fail)
  obtain ⟨w1, hw1⟩ : ∃ zz, zz = (w.alloc (.cells (x.cells v_pl : List Value).toArray 87)) := ⟨_, rfl⟩
  change Code.wp _ _ _ _ (w.alloc (.cells (x.cells v_pl : List Value).toArray 87))
  rw [← hw1]
  have HB1 := hid (show Cs w1 (w.heap.size) (x.cells v_pl : List Value).toArray 87 by rw [hw1]; exact Cs.new _ _ _)
  have hm : Mod (fun _ => False) w w1 := by rw [hw1]; exact (Mod.refl _ _).alloc _
  have HM0 := hid (show Mod (fun _ => False) w w1 from hm.mono (fun _ _ h => h.elim))
  have hs1 : w1.heap.size = w.heap.size + 1 := by rw [hw1]; simp
  have Hx1 := hid (HS0.out.mod hm (fun _ _ h => h))
  clear HS0
  clear hw1 hm
  go_upto_region 1 with (fail)
  generalize ha0 : Act.mk _ _ = a0
  have oe1 : a0.eval (.tmp 1) = .pointer (some ⟨w.heap.size, 0, none⟩) := by rw [← ha0]; rfl
  have hsz0 : a0.tmps.size = 13 := by rw [← ha0]; rfl
  have HA0 := hid ha0
  clear ha0
  refine wp_region_Q0 13 hsz0 [3, 4, 5, 6, 7, 8, 9, 10, 11, 12, 2] [qi (.pointer (some ⟨w.heap.size, 0, none⟩)), qi (.int .i64 x.ix), qv 0, qi (.pointer (some ⟨w.heap.size, 1, none⟩)), qi (v_pl), qv 1, qi (.pointer (some ⟨w.heap.size, 2, none⟩)), qi (.slice (some ⟨w.heap.size, 2, none⟩) 32 32), qv 2, qv 3, qv 3] ⟨qi_stable, qi_stable, qv_stable, qi_stable, qi_stable, qv_stable, qi_stable, qi_stable, qv_stable, qv_stable, qv_stable, trivial⟩ [2, 5, 8, 9] ⟨?_, ?_, ?_, ?_, ?_, ?_, ?_, ?_, ?_, ?_, ?_, trivial⟩ ?_
  · exact stq (fun E => ex_field rfl Try.underlying87 rfl (by kernel_rfl) (E.v oe1))
  · exact stq (fun E => ex_load1 rfl Try.underlying3 rfl (E.d 0) (Cs.hd1 (HB1.out.mod E.m.old (by intro h2; omega)) rfl))
  · exact stepq_chain rfl
  · exact stq (fun E => ex_field rfl Try.underlying87 rfl (by kernel_rfl) (E.v oe1))
  · exact stq (fun E => ex_load1 rfl Try.underlying38 rfl (E.d 3) (Cs.hd1 (HB1.out.mod E.m.old (by intro h2; omega)) rfl))
  · exact stepq_chain rfl
  · exact stq (fun E => ex_field rfl Try.underlying87 rfl (by kernel_rfl) (E.v oe1))
  · exact stq (fun E => ex_sliceArr rfl Try.underlying25 (by kernel_rfl) (E.d 6) (by decide))
  · exact stepq_chain rfl
  · exact stepq_chain rfl
  · refine stepq_env rfl rfl rfl fun _ _ _ _ _ _ _ _ _ hd _ _ => ?_
    have h9 := hd ⟨9, .data⟩ (by simp) rfl _ rfl
    exact qe_run rfl (wanted_none rfl) (ex_assign rfl rfl) QE.refl h9
  intro u1_0 hr
  have zu1_0 := hr.size
  have Cx2 := hid (hr.new (S := (fun _ => False)))
  clear hr
  refine QChain.go fun Z act E => ?_
  refine qc_callF (args := #[.int .i64 x.ix]) rfl (wanted_none rfl) rfl Try.func70 (args1 (E.d 1)) (RefInt_Q _ HOK.out.1 _) ?_
  rintro e u1_1a ⟨v_a1, rfl, qa1, hm⟩
  obtain ⟨ao_a1, cap_a1, rfl⟩ := qa1.shape
  have zu1_1a := hm.size
  refine ⟨_, rfl, hm.mono (fun _ _ h => h.elim), (fun _ => rfl), ?_⟩
  intro u1_1 hr
  have zu1_1 := hr.size
  have Hx3 := hid ((qa1.widen (R' := (fun k => (New u1_0 u1_1a k))) (fun _ h => h) (Nat.le_refl _)).mod hr (by intro k h1 h2; omega))
  have Cx4 := hid (Cx2.out.go hm hr)
  clear Cx2 hm hr Z act E qa1
  refine QChain.go fun Z act E => ?_
  refine qc_callF (args := #[v_pl]) rfl (wanted_none rfl) rfl Try.func102 (args1 (E.d 4)) (RefRow_Q (Hx1.out.mod Cx4.out (fun _ _ h => h)) (by have := HL.out; simp only [List.length_append] at this ⊢; omega)) ?_
  rintro e u1_2a ⟨v_a2, rfl, qa2, hm⟩
  obtain ⟨ao_a2, cap_a2, rfl⟩ := qa2.shape
  have zu1_2a := hm.size
  refine ⟨_, rfl, hm.mono (fun _ _ h => h.elim), (fun _ => rfl), ?_⟩
  intro u1_2 hr
  have zu1_2 := hr.size
  have Hx5 := hid ((qa2.widen (R' := (fun k => (New u1_1 u1_2a k))) (fun _ h => h) (Nat.le_refl _)).mod hr (by intro k h1 h2; omega))
  have hmr := Mod.after hm hr
  have Hx6 := hid (Hx3.out.mod hmr (by intro k h1 h2; omega))
  clear Hx3
  clear hmr
  have Cx7 := hid (Cx4.out.go hm hr)
  clear Cx4 hm hr Z act E qa2
  refine QChain.go fun Z act E => ?_
  have ea5 : act.eval (.tmp 5) = .slice ao_a1 ((encI x.ix).length) cap_a1 := (chv (v := .slice ao_a1 ((encI x.ix).length) cap_a1) (E.d 2))
  have ea8 : act.eval (.tmp 8) = .slice ao_a2 (((encN x.pl.length ++ x.pl)).length) cap_a2 := (chv (v := .slice ao_a2 (((encN x.pl.length ++ x.pl)).length) cap_a2) (E.d 5))
  have ea10 : act.eval (.tmp 10) = .slice (some ⟨w.heap.size, 2, none⟩) 32 32 := (E.d 7)
  refine qc_rows rfl (wanted_none rfl) rfl Try.underlying144 (by decide) (C := #[.slice ao_a1 ((encI x.ix).length) cap_a1, .slice ao_a2 (((encN x.pl.length ++ x.pl)).length) cap_a2, .slice (some ⟨w.heap.size, 2, none⟩) 32 32]) (by simp only [List.map_toArray, List.map_cons, List.map_nil, ea5, ea8, ea10]; kernel_rfl) ?_
  intro u1_3a qrow8 hm
  have zl1_8 := qrow8.lt
  have zu1_3a := hm.size
  refine ⟨hm.mono (fun _ _ h => h.elim), (fun _ => rfl), ?_⟩
  intro u1_3 hr
  have zu1_3 := hr.size
  have Hx8 := hid (qrow8.mod hr (by intro h2; omega))
  have hmr := Mod.after hm hr
  have Hx9 := hid (Hx6.out.mod hmr (by intro k h1 h2; omega))
  have Hx10 := hid (Hx5.out.mod hmr (by intro k h1 h2; omega))
  clear Hx6 Hx5
  clear hmr
  have Cx11 := hid (Cx7.out.go hm hr)
  clear Cx7 hm hr Z act E qrow8 ea5 ea8 ea10
  refine QChain.go fun Z act E => ?_
  refine qc_callF (args := #[.slice (some ⟨u1_2.heap.size, 0, none⟩) 3 3]) rfl (wanted_none rfl) rfl Try.func68 (args1 (chv (v := .slice (some ⟨u1_2.heap.size, 0, none⟩) 3 3) (E.d 8))) (Join_Q (n := 3)  Hx8.out [(.slice ao_a1 ((encI x.ix).length) cap_a1, encI x.ix), (.slice ao_a2 (((encN x.pl.length ++ x.pl)).length) cap_a2, (encN x.pl.length ++ x.pl)), (.slice (some ⟨w.heap.size, 2, none⟩) 32 32, x.nc)] rfl rfl (by intro p hp; simp only [List.mem_cons, List.not_mem_nil, or_false] at hp; rcases hp with rfl | rfl | rfl <;> first | exact Hx9.out.rd.1 | exact Hx10.out.rd.1 | exact RdB_arr3 (Cs.tlA (HB1.out.mod Cx11.out (fun h => h)) rfl) HOK.out.2) (by simp) (show flat _ = encI x.ix ++ (((encN x.pl.length ++ x.pl)) ++ x.nc) from by simp only [flat, List.map_cons, List.map_nil, List.flatten_cons, List.flatten_nil, List.append_nil]) (by have := HL.out; simp only [List.length_append] at this ⊢; omega)) ?_
  rintro e u1_4a ⟨v_join1, rfl, qjoin1, hm⟩
  have zu1_4a := hm.size
  refine ⟨_, rfl, hm.mono (fun _ _ h => h.elim), (fun _ => rfl), ?_⟩
  intro u1_4 hr
  have zu1_4 := hr.size
  have Hx12 := hid ((qjoin1.widen (R' := (fun k => (New u1_3 u1_4a k))) (fun _ h => h) (Nat.le_refl _)).mod hr (by intro k h1 h2; omega))
  have hmr := Mod.after hm hr
  have Hx13 := hid (Hx9.out.mod hmr (by intro k h1 h2; omega))
  have Hx14 := hid (Hx10.out.mod hmr (by intro k h1 h2; omega))
  have Hx15 := hid (Hx8.out.mod hmr (by intro h2; omega))
  clear Hx9 Hx10 Hx8
  clear hmr
  have Cx16 := hid (Cx11.out.go hm hr)
  clear Cx11 hm hr Z act E qjoin1
  refine QChain.nil fun vs hl hzz hrows hne => ?_
  obtain ⟨Z, hYZ, hZb, hV⟩ := hzz
  have f2 := fvc hV hl 2
  have f5 := fvc hV hl 5
  have f8 := fvc hV hl 8
  have f9 := fvc hV hl 9
  have f10 := fvc hV hl 10
  rw [show vs = [gw vs 0, gw vs 1, gw vs 2, gw vs 3, gw vs 4, gw vs 5, gw vs 6, gw vs 7, gw vs 8, gw vs 9, gw vs 10] from (gw_eta hl).trans rfl]
  have ha0 := HA0.out
  subst ha0
  clear HA0 hV hYZ hZb hsz0 hrows hne oe1
  simp only [putAll, Act.put, List.setIfInBounds_toArray, List.set_cons_zero, List.set_cons_succ, f2, f5, f8, f9, f10]
  clear hl f2 f5 f8 f9 f10
  go_wp2
  go_ret
  have hq := (Hx12.out.widen (R' := (fun k => New w u1_4 k)) (by intro k h1; omega) (Nat.le_refl _))
  (try simp only [List.append_assoc] at hq)
  exact ⟨v_join1, rfl, by simpa only [opB, List.append_assoc] using hq, (HM0.out.trans Cx16.out (fun _ _ h => h.elim))⟩
set_option maxHeartbeats 4000000 in
theorem RefSt_Q : Makes StR 71 stB := by
  intro R2 cs x w hx hB2 hl
  obtain ⟨rfl, hok⟩ := hx
  have HBT := Lib.hid hB2
  have HOK := Lib.hid hok
  have HL := Lib.hid hl
  clear hB2 hl hok
  unfold stB at HL
  go_enter Try.func71, Try.ntmps71
  go_upto_region 1 with (fail)
  obtain ⟨w1, hw1⟩ : ∃ zz, zz = (w.alloc (.cells (x.cells : List Value).toArray 30)) := ⟨_, rfl⟩
  change Code.wp _ _ _ _ (w.alloc (.cells (x.cells : List Value).toArray 30))
  rw [← hw1]
  have HB1 := hid (show Cs w1 (w.heap.size) (x.cells : List Value).toArray 30 by rw [hw1]; exact Cs.new _ _ _)
  have hm : Mod (fun _ => False) w w1 := by rw [hw1]; exact (Mod.refl _ _).alloc _
  have HM0 := hid (show Mod (fun _ => False) w w1 from hm.mono (fun _ _ h => h.elim))
  have hs1 : w1.heap.size = w.heap.size + 1 := by rw [hw1]; simp
  clear hw1 hm
  go_upto_region 1 with (fail)
  generalize ha0 : Act.mk _ _ = a0
  have oe1 : a0.eval (.tmp 1) = .pointer (some ⟨w.heap.size, 0, none⟩) := by rw [← ha0]; rfl
  have hsz0 : a0.tmps.size = 10 := by rw [← ha0]; rfl
  have HA0 := hid ha0
  clear ha0
  refine wp_region_Q0 10 hsz0 [3, 4, 5, 6, 7, 8, 9, 2] [qi (.agg (x.cells).toArray), qv 0, qi (.pointer (some ⟨w.heap.size, 36, none⟩)), qi (.agg #[.int .i64 x.sb, .int .i64 x.mr]), qv 1, qv 2, qv 3, qv 3] ⟨qi_stable, qv_stable, qi_stable, qi_stable, qv_stable, qv_stable, qv_stable, qv_stable, trivial⟩ [1, 4, 5, 6] ⟨?_, ?_, ?_, ?_, ?_, ?_, ?_, ?_, trivial⟩ ?_
  · exact stq (fun E => ex_loadA rfl Try.underlying30 rfl (off := 0) (cs := x.cells) (by rw [St.len HOK.out]; kernel_rfl) (E.v oe1) (Cs.whole (HB1.out.mod E.m.old (by intro h2; omega))))
  · exact stepq_chain rfl
  · exact stq (fun E => ex_field rfl Try.underlying30 rfl (by kernel_rfl) (E.v oe1))
  · exact stq (fun E => ex_loadA rfl Try.underlying28 rfl (off := 36) (cs := [.int .i64 x.sb, .int .i64 x.mr]) (by kernel_rfl) (E.d 2) (Cs.postA (m := 32) (k := 1) (HB1.out.mod E.m.old (by intro h2; omega)) (by rw [List.length_map]; exact HOK.out.h.1) rfl rfl))
  · exact stepq_chain rfl
  · exact stepq_chain rfl
  · exact stepq_chain rfl
  · refine stepq_env rfl rfl rfl fun _ _ _ _ _ _ _ _ _ hd _ _ => ?_
    have h6 := hd ⟨6, .data⟩ (by simp) rfl _ rfl
    exact qe_run rfl (wanted_none rfl) (ex_assign rfl rfl) QE.refl h6
  intro u1_0 hr
  have zu1_0 := hr.size
  have Cx1 := hid (hr.new (S := (fun _ => False)))
  clear hr
  refine QChain.go fun Z act E => ?_
  refine qc_callF (args := #[.agg (x.cells).toArray]) rfl (wanted_none rfl) rfl Try.func103 (args1 (E.d 0)) (RefBare_Q (fun _ => False) _ x _ ⟨rfl, HOK.out⟩ (fun _ h => h.elim) (by have := HL.out; unfold bareT; simp only [List.length_append] at this ⊢; omega)) ?_
  rintro e u1_1a ⟨v_a1, rfl, qa1, hm⟩
  obtain ⟨ao_a1, cap_a1, rfl⟩ := qa1.shape
  have zu1_1a := hm.size
  refine ⟨_, rfl, hm.mono (fun _ _ h => h.elim), (fun _ => rfl), ?_⟩
  intro u1_1 hr
  have zu1_1 := hr.size
  have Hx2 := hid ((qa1.widen (R' := (fun k => (New u1_0 u1_1a k))) (fun _ h => h) (Nat.le_refl _)).mod hr (by intro k h1 h2; omega))
  have Cx3 := hid (Cx1.out.go hm hr)
  clear Cx1 hm hr Z act E qa1
  refine QChain.go fun Z act E => ?_
  refine qc_callF (args := #[.agg #[.int .i64 x.sb, .int .i64 x.mr]]) rfl (wanted_none rfl) rfl Try.func74 (args1 (E.d 3)) (RefSig_Q HOK.out.sb HOK.out.mr _) ?_
  rintro e u1_2a ⟨v_a2, rfl, qa2, hm⟩
  obtain ⟨ao_a2, cap_a2, rfl⟩ := qa2.shape
  have zu1_2a := hm.size
  refine ⟨_, rfl, hm.mono (fun _ _ h => h.elim), (fun _ => rfl), ?_⟩
  intro u1_2 hr
  have zu1_2 := hr.size
  have Hx4 := hid ((qa2.widen (R' := (fun k => (New u1_1 u1_2a k))) (fun _ h => h) (Nat.le_refl _)).mod hr (by intro k h1 h2; omega))
  have hmr := Mod.after hm hr
  have Hx5 := hid (Hx2.out.mod hmr (by intro k h1 h2; omega))
  clear Hx2
  clear hmr
  have Cx6 := hid (Cx3.out.go hm hr)
  clear Cx3 hm hr Z act E qa2
  refine QChain.go fun Z act E => ?_
  have ea4 : act.eval (.tmp 4) = .slice ao_a1 ((bareT x).length) cap_a1 := (chv (v := .slice ao_a1 ((bareT x).length) cap_a1) (E.d 1))
  have ea7 : act.eval (.tmp 7) = .slice ao_a2 ((sigB x.sb x.mr).length) cap_a2 := (chv (v := .slice ao_a2 ((sigB x.sb x.mr).length) cap_a2) (E.d 4))
  refine qc_rows rfl (wanted_none rfl) rfl Try.underlying144 (by decide) (C := #[.slice ao_a1 ((bareT x).length) cap_a1, .slice ao_a2 ((sigB x.sb x.mr).length) cap_a2]) (by simp only [List.map_toArray, List.map_cons, List.map_nil, ea4, ea7]; kernel_rfl) ?_
  intro u1_3a qrow5 hm
  have zl1_5 := qrow5.lt
  have zu1_3a := hm.size
  refine ⟨hm.mono (fun _ _ h => h.elim), (fun _ => rfl), ?_⟩
  intro u1_3 hr
  have zu1_3 := hr.size
  have Hx7 := hid (qrow5.mod hr (by intro h2; omega))
  have hmr := Mod.after hm hr
  have Hx8 := hid (Hx5.out.mod hmr (by intro k h1 h2; omega))
  have Hx9 := hid (Hx4.out.mod hmr (by intro k h1 h2; omega))
  clear Hx5 Hx4
  clear hmr
  have Cx10 := hid (Cx6.out.go hm hr)
  clear Cx6 hm hr Z act E qrow5 ea4 ea7
  refine QChain.go fun Z act E => ?_
  refine qc_callF (args := #[.slice (some ⟨u1_2.heap.size, 0, none⟩) 2 2]) rfl (wanted_none rfl) rfl Try.func68 (args1 (chv (v := .slice (some ⟨u1_2.heap.size, 0, none⟩) 2 2) (E.d 5))) (Join_Q (n := 2)  Hx7.out [(.slice ao_a1 ((bareT x).length) cap_a1, bareT x), (.slice ao_a2 ((sigB x.sb x.mr).length) cap_a2, sigB x.sb x.mr)] rfl rfl (by intro p hp; simp only [List.mem_cons, List.not_mem_nil, or_false] at hp; rcases hp with rfl | rfl <;> first | exact Hx8.out.rd.1 | exact Hx9.out.rd.1) (by simp) (show flat _ = bareT x ++ sigB x.sb x.mr from by simp only [flat, List.map_cons, List.map_nil, List.flatten_cons, List.flatten_nil, List.append_nil]) (by have := HL.out; simp only [bareT, List.length_append] at this ⊢; omega)) ?_
  rintro e u1_4a ⟨v_join1, rfl, qjoin1, hm⟩
  have zu1_4a := hm.size
  refine ⟨_, rfl, hm.mono (fun _ _ h => h.elim), (fun _ => rfl), ?_⟩
  intro u1_4 hr
  have zu1_4 := hr.size
  have Hx11 := hid ((qjoin1.widen (R' := (fun k => (New u1_3 u1_4a k))) (fun _ h => h) (Nat.le_refl _)).mod hr (by intro k h1 h2; omega))
  have hmr := Mod.after hm hr
  have Hx12 := hid (Hx8.out.mod hmr (by intro k h1 h2; omega))
  have Hx13 := hid (Hx9.out.mod hmr (by intro k h1 h2; omega))
  have Hx14 := hid (Hx7.out.mod hmr (by intro h2; omega))
  clear Hx8 Hx9 Hx7
  clear hmr
  have Cx15 := hid (Cx10.out.go hm hr)
  clear Cx10 hm hr Z act E qjoin1
  refine QChain.nil fun vs hl hzz hrows hne => ?_
  obtain ⟨Z, hYZ, hZb, hV⟩ := hzz
  have f1 := fvc hV hl 1
  have f4 := fvc hV hl 4
  have f5 := fvc hV hl 5
  have f6 := fvc hV hl 6
  have f7 := fvc hV hl 7
  rw [show vs = [gw vs 0, gw vs 1, gw vs 2, gw vs 3, gw vs 4, gw vs 5, gw vs 6, gw vs 7] from (gw_eta hl).trans rfl]
  have ha0 := HA0.out
  subst ha0
  clear HA0 hV hYZ hZb hsz0 hrows hne oe1
  simp only [putAll, Act.put, List.setIfInBounds_toArray, List.set_cons_zero, List.set_cons_succ, f1, f4, f5, f6, f7]
  clear hl f1 f4 f5 f6 f7
  go_wp2
  go_ret
  have hq := (Hx11.out.widen (R' := (fun k => New w u1_4 k)) (by intro k h1; omega) (Nat.le_refl _))
  (try simp only [List.append_assoc] at hq)
  exact ⟨v_join1, rfl, by simpa only [stB, bareT, List.append_assoc] using hq, (HM0.out.trans Cx15.out (fun _ _ h => h.elim))⟩
end Go.Proofs.Ytknpapcfhnhheaa

/- The reference's bytes of certificates, promises, batches; its texts. -/
set_option maxRecDepth 100000
set_option linter.unusedVariables false
namespace Go.Proofs.Ytknpapcfhnhheaa
open Go Go.RowKit Go.Gv

set_option maxHeartbeats 4000000 in
theorem RefCe_Q : Makes CeR 20 ceB := by
  intro R2 cs x w hx hB2 hl
  obtain ⟨v_l, rfl, hok, hs0⟩ := hx
  obtain ⟨ao_sl_l, cap_sl_l, rfl⟩ := hs0.shape
  have hb0 : x.l.length ≤ maxLen := hs0.bd
  rw [maxLen_val] at hb0
  have HI0 := hid (show I64 (x.l.length : Int) by unfold I64; omega)
  have HS0 := Lib.hid hs0
  clear hs0
  have HBT := Lib.hid hB2
  have HOK := Lib.hid hok
  have HL := Lib.hid hl
  clear hB2 hl hok
  unfold ceB at HL
  go_enter Try.func20, Try.ntmps20
  go_upto_region 1 with (fail)
  obtain ⟨w1, hw1⟩ : ∃ zz, zz = (w.alloc (.cells (x.cells (.slice ao_sl_l x.l.length cap_sl_l) : List Value).toArray 52)) := ⟨_, rfl⟩
  change Code.wp _ _ _ _ (w.alloc (.cells (x.cells (.slice ao_sl_l x.l.length cap_sl_l) : List Value).toArray 52))
  rw [← hw1]
  have HB1 := hid (show Cs w1 (w.heap.size) (x.cells (.slice ao_sl_l x.l.length cap_sl_l) : List Value).toArray 52 by rw [hw1]; exact Cs.new _ _ _)
  have hm : Mod (fun _ => False) w w1 := by rw [hw1]; exact (Mod.refl _ _).alloc _
  have HM0 := hid (show Mod (fun _ => False) w w1 from hm.mono (fun _ _ h => h.elim))
  have hs1 : w1.heap.size = w.heap.size + 1 := by rw [hw1]; simp
  have Hx1 := hid (HS0.out.mod hm (fun _ _ h => h))
  clear HS0
  clear hw1 hm
  go_upto_region 1 with (fail)
  generalize ha0 : Act.mk _ _ = a0
  have oe1 : a0.eval (.tmp 1) = .pointer (some ⟨w.heap.size, 0, none⟩) := by rw [← ha0]; rfl
  have hsz0 : a0.tmps.size = 30 := by rw [← ha0]; rfl
  have HA0 := hid ha0
  clear ha0
  refine wp_region_Q0 30 hsz0 [5, 6, 7, 8, 9, 10, 11, 12, 13, 3] [qi (.pointer (some ⟨w.heap.size, 0, none⟩)), qi (x.c.val), qv 0, qi (.pointer (some ⟨w.heap.size, 37, none⟩)), qi (.slice ao_sl_l x.l.length cap_sl_l), qi (.int .i64 x.l.length), qv 1, qv 2, qv 3, qv 3] ⟨qi_stable, qi_stable, qv_stable, qi_stable, qi_stable, qi_stable, qv_stable, qv_stable, qv_stable, qv_stable, trivial⟩ [2, 6, 7, 8] ⟨?_, ?_, ?_, ?_, ?_, ?_, ?_, ?_, ?_, ?_, trivial⟩ ?_
  · exact stq (fun E => ex_field rfl Try.underlying52 rfl (by kernel_rfl) (E.v oe1))
  · exact stq (fun E => ex_loadA rfl Try.underlying49 rfl (off := 0) (cs := x.c.cells) (by rw [Cm.len HOK.out.2.1]; exact size_commit) (E.d 0) (Cs.midA (pre := []) (mid := x.c.cells) (post := [.slice ao_sl_l x.l.length cap_sl_l]) (HB1.out.mod E.m.old (by intro h2; omega)) rfl))
  · exact stepq_chain rfl
  · exact stq (fun E => ex_field rfl Try.underlying52 rfl (by kernel_rfl) (E.v oe1))
  · exact stq (fun E => ex_load1 rfl Try.underlying50 rfl (E.d 3) (Cs.post1 (pre := []) (mid := x.c.cells) (post := [.slice ao_sl_l x.l.length cap_sl_l]) (m := 37) (k := 0) (HB1.out.mod E.m.old (by intro h2; omega)) (Cm.len HOK.out.2.1) rfl rfl))
  · exact stq (fun E => ex_lenS rfl (E.d 4) Try.underlying50)
  · exact stepq_chain rfl
  · exact stepq_chain rfl
  · exact stepq_chain rfl
  · refine stepq_env rfl rfl rfl fun _ _ _ _ _ _ _ _ _ hd _ _ => ?_
    have h8 := hd ⟨8, .data⟩ (by simp) rfl _ rfl
    exact qe_run rfl (wanted_none rfl) (ex_assign rfl rfl) QE.refl h8
  intro u1_0 hr
  have zu1_0 := hr.size
  have Cx2 := hid (hr.new (S := (fun _ => False)))
  clear hr
  refine QChain.go fun Z act E => ?_
  refine qc_callF (args := #[x.c.val]) rfl (wanted_none rfl) rfl Try.func69 (args1 (E.d 1)) (RefCm_Q (fun _ => False) _ x.c _ ⟨rfl, HOK.out⟩ (fun _ h => h.elim) (by have := HL.out; simp only [List.length_append] at this ⊢; omega)) ?_
  rintro e u1_1a ⟨v_a1, rfl, qa1, hm⟩
  obtain ⟨ao_a1, cap_a1, rfl⟩ := qa1.shape
  have zu1_1a := hm.size
  refine ⟨_, rfl, hm.mono (fun _ _ h => h.elim), (fun _ => rfl), ?_⟩
  intro u1_1 hr
  have zu1_1 := hr.size
  have Hx3 := hid ((qa1.widen (R' := (fun k => (New u1_0 u1_1a k))) (fun _ h => h) (Nat.le_refl _)).mod hr (by intro k h1 h2; omega))
  have Cx4 := hid (Cx2.out.go hm hr)
  clear Cx2 hm hr Z act E qa1
  refine QChain.go fun Z act E => ?_
  refine qc_callF (args := #[.int .i64 x.l.length]) rfl (wanted_none rfl) rfl Try.func70 (args1 (E.d 5)) (RefInt_Q _ HI0.out _) ?_
  rintro e u1_2a ⟨v_a2, rfl, qa2, hm⟩
  obtain ⟨ao_a2, cap_a2, rfl⟩ := qa2.shape
  have zu1_2a := hm.size
  refine ⟨_, rfl, hm.mono (fun _ _ h => h.elim), (fun _ => rfl), ?_⟩
  intro u1_2 hr
  have zu1_2 := hr.size
  have Hx5 := hid ((qa2.widen (R' := (fun k => (New u1_1 u1_2a k))) (fun _ h => h) (Nat.le_refl _)).mod hr (by intro k h1 h2; omega))
  have hmr := Mod.after hm hr
  have Hx6 := hid (Hx3.out.mod hmr (by intro k h1 h2; omega))
  clear Hx3
  clear hmr
  have Cx7 := hid (Cx4.out.go hm hr)
  clear Cx4 hm hr Z act E qa2
  refine QChain.go fun Z act E => ?_
  have ea7 : act.eval (.tmp 7) = .slice ao_a1 ((cmB x.c).length) cap_a1 := (chv (v := .slice ao_a1 ((cmB x.c).length) cap_a1) (E.d 2))
  have ea11 : act.eval (.tmp 11) = .slice ao_a2 ((encI x.l.length).length) cap_a2 := (chv (v := .slice ao_a2 ((encI x.l.length).length) cap_a2) (E.d 6))
  refine qc_rows rfl (wanted_none rfl) rfl Try.underlying144 (by decide) (C := #[.slice ao_a1 ((cmB x.c).length) cap_a1, .slice ao_a2 ((encI x.l.length).length) cap_a2]) (by simp only [List.map_toArray, List.map_cons, List.map_nil, ea7, ea11]; kernel_rfl) ?_
  intro u1_3a qrow7 hm
  have zl1_7 := qrow7.lt
  have zu1_3a := hm.size
  refine ⟨hm.mono (fun _ _ h => h.elim), (fun _ => rfl), ?_⟩
  intro u1_3 hr
  have zu1_3 := hr.size
  have Hx8 := hid (qrow7.mod hr (by intro h2; omega))
  have hmr := Mod.after hm hr
  have Hx9 := hid (Hx6.out.mod hmr (by intro k h1 h2; omega))
  have Hx10 := hid (Hx5.out.mod hmr (by intro k h1 h2; omega))
  clear Hx6 Hx5
  clear hmr
  have Cx11 := hid (Cx7.out.go hm hr)
  clear Cx7 hm hr Z act E qrow7 ea7 ea11
  refine QChain.go fun Z act E => ?_
  refine qc_callF (args := #[.slice (some ⟨u1_2.heap.size, 0, none⟩) 2 2]) rfl (wanted_none rfl) rfl Try.func68 (args1 (chv (v := .slice (some ⟨u1_2.heap.size, 0, none⟩) 2 2) (E.d 7))) (Join_Q (n := 2)  Hx8.out [(.slice ao_a1 ((cmB x.c).length) cap_a1, cmB x.c), (.slice ao_a2 ((encI x.l.length).length) cap_a2, encI x.l.length)] rfl rfl (by intro p hp; simp only [List.mem_cons, List.not_mem_nil, or_false] at hp; rcases hp with rfl | rfl <;> first | exact Hx9.out.rd.1 | exact Hx10.out.rd.1) (by simp) (show flat _ = cmB x.c ++ encI x.l.length from by simp only [flat, List.map_cons, List.map_nil, List.flatten_cons, List.flatten_nil, List.append_nil]) (by have := HL.out; simp only [listB, List.length_append] at this ⊢; omega)) ?_
  rintro e u1_4a ⟨v_join1, rfl, qjoin1, hm⟩
  have zu1_4a := hm.size
  refine ⟨_, rfl, hm.mono (fun _ _ h => h.elim), (fun _ => rfl), ?_⟩
  intro u1_4 hr
  have zu1_4 := hr.size
  have Hx12 := hid ((qjoin1.widen (R' := (fun k => (New u1_3 u1_4a k))) (fun _ h => h) (Nat.le_refl _)).mod hr (by intro k h1 h2; omega))
  have hmr := Mod.after hm hr
  have Hx13 := hid (Hx9.out.mod hmr (by intro k h1 h2; omega))
  have Hx14 := hid (Hx10.out.mod hmr (by intro k h1 h2; omega))
  have Hx15 := hid (Hx8.out.mod hmr (by intro h2; omega))
  clear Hx9 Hx10 Hx8
  clear hmr
  have Cx16 := hid (Cx11.out.go hm hr)
  clear Cx11 hm hr Z act E qjoin1
  refine QChain.nil fun vs hl hzz hrows hne => ?_
  obtain ⟨Z, hYZ, hZb, hV⟩ := hzz
  have f2 := fvc hV hl 2
  have f5 := fvi hV hl 5
  have f6 := fvc hV hl 6
  have f7 := fvc hV hl 7
  have f8 := fvc hV hl 8
  have f9 := fvc hV hl 9
  rw [show vs = [gw vs 0, gw vs 1, gw vs 2, gw vs 3, gw vs 4, gw vs 5, gw vs 6, gw vs 7, gw vs 8, gw vs 9] from (gw_eta hl).trans rfl]
  have ha0 := HA0.out
  subst ha0
  clear HA0 hV hYZ hZb hsz0 hrows hne oe1
  simp only [putAll, Act.put, List.setIfInBounds_toArray, List.set_cons_zero, List.set_cons_succ, f2, f5, f6, f7, f8, f9]
  clear hl f2 f5 f6 f7 f8 f9
  go_upto_region 2 with (fail)
  generalize ha0 : Act.mk _ _ = a0
  have oe1 : a0.eval (.tmp 1) = .pointer (some ⟨w.heap.size, 0, none⟩) := by rw [← ha0]; rfl
  have hsz0 : a0.tmps.size = 30 := by rw [← ha0]; rfl
  have HA0 := hid ha0
  clear ha0
  refine wp_region_Q0 30 hsz0 [14, 15, 16, 17] [qi (.pointer (some ⟨w.heap.size, 37, none⟩)), qi (.slice ao_sl_l x.l.length cap_sl_l), qi (.int .i64 x.l.length), qi (.int .i64 0)] ⟨qi_stable, qi_stable, qi_stable, qi_stable, trivial⟩ [] ⟨?_, ?_, ?_, ?_, trivial⟩ ?_
  · exact stq (fun E => ex_field rfl Try.underlying52 rfl (by kernel_rfl) (E.v oe1))
  · exact stq (fun E => ex_load1 rfl Try.underlying50 rfl (E.d 0) (Cs.post1 (pre := []) (mid := x.c.cells) (post := [.slice ao_sl_l x.l.length cap_sl_l]) (m := 37) (k := 0) ((HB1.out.mod Cx16.out (fun h => h)).mod E.m.old (by intro h2; omega)) (Cm.len HOK.out.2.1) rfl rfl))
  · exact stq (fun E => ex_lenS rfl (E.d 1) Try.underlying50)
  · exact stq (fun E => ex_move rfl rfl)
  intro u2_0 hr
  have zu2_0 := hr.size
  have Cx17 := hid (hr.new (S := (fun _ => False)))
  clear hr
  refine QChain.nil fun vs hl hzz hrows hne => ?_
  obtain ⟨Z, hYZ, hZb, hV⟩ := hzz
  have f2 := fvi hV hl 2
  have f3 := fvi hV hl 3
  rw [show vs = [gw vs 0, gw vs 1, gw vs 2, gw vs 3] from (gw_eta hl).trans rfl]
  have ha0 := HA0.out
  subst ha0
  clear HA0 hV hYZ hZb hsz0 hrows hne oe1
  simp only [putAll, Act.put, List.setIfInBounds_toArray, List.set_cons_zero, List.set_cons_succ, f2, f3]
  clear hl f2 f3
  go_wp2
  go_loopw [3, 17] (fun ta ti wr => ∃ k : Nat, ti = .int .i64 (k : Int) ∧ k ≤ x.l.length ∧ u2_0.heap.size ≤ wr.heap.size ∧ OwR (fun b => w1.heap.size ≤ b ∧ b < wr.heap.size) 900000 wr ta ((cmB x.c ++ encI x.l.length) ++ ((x.l.take k).map stB).flatten) ∧ RdS StR R2 wr (.slice ao_sl_l x.l.length cap_sl_l) x.l ∧ Cs wr (w.heap.size) (x.cells (.slice ao_sl_l x.l.length cap_sl_l) : List Value).toArray 52 ∧ Mod (fun _ => False) w wr) (fun _ ti _ => x.l.length - (intOf ti).toNat)
  case atStart => exact ⟨0, rfl, Nat.zero_le _, Nat.le_refl _, by have hq := ((Hx12.out.mod Cx17.out (fun _ _ h => h)).widen (R' := (fun b => w1.heap.size ≤ b ∧ b < u2_0.heap.size)) (by intro k h1; omega) (Nat.le_refl _)); simpa only [List.take_zero, List.map_nil, List.flatten_nil, List.append_nil, List.append_assoc] using hq, ((Hx1.out.mod Cx16.out (fun _ _ h => h)).mod Cx17.out (fun _ _ h => h)), ((HB1.out.mod Cx16.out (fun h => h)).mod Cx17.out (fun h => h)), ((HM0.out.trans Cx16.out (fun _ _ h => h.elim)).trans Cx17.out (fun _ _ h => h.elim))⟩
  case round =>
    obtain ⟨k1, rfl, hk, hz, ha, hk_0, hk_1, hm⟩ := hrel
    obtain ⟨wl1, rfl⟩ : ∃ x, x = wr := ⟨_, rfl⟩
    obtain ⟨aol1, capl1, rfl⟩ := ha.shape
    have HAL1 := Lib.hid ha
    have HKL1_0 := Lib.hid hk_0
    have HKL1_1 := Lib.hid hk_1
    have HML1 := Lib.hid hm
    clear ha hm hk_0 hk_1 Hx1 HB1 HM0 Hx13 Hx14 Hx15 Hx12
    by_cases hlt1 : k1 < x.l.length
    · skip
      have hat := HKL1_0.out.at hlt1
      obtain ⟨g1, o1, cs1, eao, hrg, hrd, hcs⟩ := hat
      subst eao
      have hcl : cs1.length = 38 := StR.len hrd
      have HCL1 := Lib.hid hcl
      have HAT1 := hid (show CellsAt R2 wl1 g1 (o1 + k1 * 38) cs1 from ⟨hrg, hcs⟩)
      have HRD1 := Lib.hid hrd
      clear hcl hcs hrd hrg
      have HE1 : Hid (((cmB x.c ++ encI x.l.length) ++ ((x.l.take k1).map stB).flatten) ++ stB x.l[k1] = (cmB x.c ++ encI x.l.length) ++ ((x.l.take (k1 + 1)).map stB).flatten) := hid (by rw [List.take_succ_eq_append_getElem hlt1, List.map_append, List.flatten_append]; simp [List.append_assoc])
      have HB1' := hid (show (((cmB x.c ++ encI x.l.length) ++ ((x.l.take k1).map stB).flatten) ++ stB x.l[k1]).length ≤ 900000 by rw [HE1.out]; exact acc_len _ _ _ _ (by have := HL.out; simp only [listB, List.length_append] at this ⊢; omega))
      have HBE1 := hid (show (stB x.l[k1]).length ≤ 900000 by have := HB1'.out; simp only [List.length_append] at this ⊢; omega)
      go_upto_region 4 with (fail)
      generalize ha0 : Act.mk _ _ = a0
      have oe17 : a0.eval (.tmp 17) = .int .i64 ((k1 : Nat) : Int) := by rw [← ha0]; rfl
      have hsz0 : a0.tmps.size = 30 := by rw [← ha0]; rfl
      have HA0 := hid ha0
      clear ha0
      refine wp_region_Q0 30 hsz0 [19, 4] [qi (.int .i64 ((k1 : Nat) : Int)), qi (.int .i64 ((k1 : Nat) : Int))] ⟨qi_stable, qi_stable, trivial⟩ [] ⟨?_, ?_, trivial⟩ ?_
      · exact stq (fun E => ex_move rfl (E.v oe17))
      · exact stq (fun E => ex_assign rfl (E.d 0))
      intro u4_0 hr
      have zu4_0 := hr.size
      have Cx18 := hid (hr.new (S := (fun _ => False)))
      clear hr
      refine QChain.nil fun vs hl hzz hrows hne => ?_
      obtain ⟨Z, hYZ, hZb, hV⟩ := hzz
      have f0 := fvi hV hl 0
      have f1 := fvi hV hl 1
      rw [show vs = [gw vs 0, gw vs 1] from (gw_eta hl).trans rfl]
      have ha0 := HA0.out
      subst ha0
      clear HA0 hV hYZ hZb hsz0 hrows hne oe17
      simp only [putAll, Act.put, List.setIfInBounds_toArray, List.set_cons_zero, List.set_cons_succ, f0, f1]
      clear hl f0 f1
      go_upto_region 5 with (fail)
      generalize ha0 : Act.mk _ _ = a0
      have oe1 : a0.eval (.tmp 1) = .pointer (some ⟨w.heap.size, 0, none⟩) := by rw [← ha0]; rfl
      have oe3 : a0.eval (.tmp 3) = .slice aol1 (((cmB x.c ++ encI x.l.length) ++ ((x.l.take k1).map stB).flatten).length) capl1 := by rw [← ha0]; rfl
      have oe4 : a0.eval (.tmp 4) = .int .i64 ((k1 : Nat) : Int) := by rw [← ha0]; rfl
      have hsz0 : a0.tmps.size = 30 := by rw [← ha0]; rfl
      have HA0 := hid ha0
      clear ha0
      refine wp_region_Q1 30 hsz0 [20, 21, 22, 23, 24, 25, 26, 27, 3] (fun k => (New w1 wl1 k)) (fun k j => (k = 1 ∧ ((New w1 wl1 j)))) (fun _ _ h => h.2) [qi (.slice aol1 (((cmB x.c ++ encI x.l.length) ++ ((x.l.take k1).map stB).flatten).length) capl1), qi (.pointer (some ⟨w.heap.size, 37, none⟩)), qi (.slice (some ⟨g1, o1, none⟩) x.l.length cap_sl_l), qi (.int .i64 ((k1 : Nat) : Int)), qi (.pointer (some ⟨g1, o1 + k1 * 38, none⟩)), qi (.agg cs1.toArray), qv 0, qv 1, qv 1] ⟨qi_stable, qi_stable, qi_stable, qi_stable, qi_stable, qi_stable, qv_stable, qv_stable, qv_stable, trivial⟩ [6, 7] ⟨?_, ?_, ?_, ?_, ?_, ?_, ?_, ?_, ?_, trivial⟩ ?_
      · exact stq (fun E => ex_move rfl ((E.pre 8 3 rfl (by kernel_rfl)).trans oe3))
      · exact stq (fun E => ex_field rfl Try.underlying52 rfl (by kernel_rfl) (E.v oe1))
      · exact stq (fun E => ex_load1 rfl Try.underlying50 rfl (E.d 1) (Cs.post1 (pre := []) (mid := x.c.cells) (post := [.slice (some ⟨g1, o1, none⟩) x.l.length cap_sl_l]) (m := 37) (k := 0) ((HKL1_1.out.mod Cx18.out (fun h => h)).mod E.m (by intro h2; omega)) (Cm.len HOK.out.2.1) rfl rfl))
      · exact stq (fun E => ex_move rfl (E.v oe4))
      · exact stq (fun E => ex_idxS (i := k1) (s := 38) rfl Try.underlying50 (by kernel_rfl) (E.d 2) (E.d 3) hlt1)
      · exact stq (fun E => ex_loadA rfl Try.underlying30 rfl (off := o1 + k1 * 38) (cs := cs1) (by rw [HCL1.out]; kernel_rfl) (E.d 4) (fun j u hu => (((HAT1.out.mod Cx18.out (fun _ _ h => h)).mod E.m (by intro k h1 h2; rcases h2 with ⟨h0, h2⟩ | h2 <;> (first | omega | (have hb := HBT.out k h1; omega))))).2 j u hu))
      · exact stepq_chain rfl
      · exact stepq_chain rfl
      · refine stepq_env rfl rfl rfl fun _ _ _ _ _ _ _ _ _ hd _ _ => ?_
        have h7 := hd ⟨7, .data⟩ (by simp) rfl _ rfl
        exact qe_run rfl (wanted_none rfl) (ex_assign rfl rfl) QE.refl h7
      intro u5_0 hr
      have zu5_0 := hr.size
      have Cx19 := hid (hr.new (S := (fun k => (New w1 wl1 k))))
      have Hx20 := hid ((HAL1.out.mod Cx18.out (fun _ _ h => h)).mod hr (by intro k h1 h2; omega))
      clear HAL1
      clear hr
      refine QChain.go fun Z act E => ?_
      refine qc_callF (args := #[.agg cs1.toArray]) rfl (wanted_none rfl) rfl Try.func71 (args1 (E.d 5)) (RefSt_Q _ _ (x.l[k1]) _ ((HRD1.out.mod Cx18.out (fun _ _ h => h)).mod Cx19.out (by intro k h1 h2; have hb := HBT.out k h1; omega)) (by intro k h1; have hb := HBT.out k h1; omega) HBE1.out) ?_
      rintro e u5_1a ⟨v_a3, rfl, qa3, hm⟩
      obtain ⟨ao_a3, cap_a3, rfl⟩ := qa3.shape
      have zu5_1a := hm.size
      refine ⟨_, rfl, hm.mono (fun _ _ h => h.elim), (fun _ => rfl), ?_⟩
      intro u5_1 hr
      have zu5_1 := hr.size
      have Hx21 := hid ((qa3.widen (R' := (fun k => (New u5_0 u5_1a k))) (fun _ h => h) (Nat.le_refl _)).mod hr (by intro k h1 h2; omega))
      have hmr := Mod.after hm hr
      have Hx22 := hid (Hx20.out.mod hmr (by intro k h1 h2; omega))
      clear Hx20
      clear hmr
      have Cx23 := hid (Cx19.out.go hm hr)
      clear Cx19 hm hr Z act E qa3
      refine QChain.go fun Z act E => ?_
      refine qc_appR rfl (wanted_none rfl) rfl (E.d 0) (chv (v := .slice ao_a3 ((stB x.l[k1]).length) cap_a3) (E.d 6)) Hx22.out Hx21.out.rd HB1'.out ?_
      intro ao16 cap16 u5_2a qjoin1 hm
      have zu5_2a := hm.size
      refine ⟨hm.mono (by intro k hk h; omega), (fun _ => rfl), ?_⟩
      intro u5_2 hr
      have zu5_2 := hr.size
      have Hx24 := hid ((qjoin1.widen (R' := (fun k => (New w1 wl1 k) ∨ (New u5_1 u5_2a k))) (fun _ h => h) (Nat.le_refl _)).mod hr (by intro k h1 h2; omega))
      have hmr := hm.two hr
      have Hx25 := hid (Hx21.out.mod hmr (by intro k h1 h2; omega))
      clear Hx21
      clear hmr
      have Cx26 := hid (Cx23.out.goM hm hr (fun _ _ h => h))
      clear Cx23 hm hr Z act E qjoin1 Hx22
      refine QChain.nil fun vs hl hzz hrows hne => ?_
      obtain ⟨Z, hYZ, hZb, hV⟩ := hzz
      have f0 := fvi hV hl 0
      have f3 := fvi hV hl 3
      have f6 := fvc hV hl 6
      have f7 := fvc hV hl 7
      have f8 := fvc hV hl 8
      rw [show vs = [gw vs 0, gw vs 1, gw vs 2, gw vs 3, gw vs 4, gw vs 5, gw vs 6, gw vs 7, gw vs 8] from (gw_eta hl).trans rfl]
      have ha0 := HA0.out
      subst ha0
      clear HA0 hV hYZ hZb hsz0 hrows hne oe1 oe3 oe4
      simp only [putAll, Act.put, List.setIfInBounds_toArray, List.set_cons_zero, List.set_cons_succ, f0, f3, f6, f7, f8]
      clear hl f0 f3 f6 f7 f8
      have hq := Hx24.out
      rw [HE1.out] at hq
      have HQ1 := Lib.hid hq
      clear hq
      go_wp2
      go_roundw
      case rel => exact ⟨k1 + 1, by go_num, by omega, by omega, (HQ1.out.widen (by intro b h1; omega) (Nat.le_refl _)), ((HKL1_0.out.mod Cx18.out (fun _ _ h => h)).mod Cx26.out (by intro k h1 h2; have hb := HBT.out k h1; omega)), ((HKL1_1.out.mod Cx18.out (fun h => h)).mod Cx26.out (by intro h2; omega)), ((HML1.out.trans Cx18.out (fun _ _ h => h.elim)).trans Cx26.out (by intro k h1 h2; omega))⟩
      case measure => simp [intOf]; omega
    · obtain rfl : k1 = x.l.length := by omega
      have hq := HAL1.out
      rw [List.take_length] at hq
      have HAF1 := Lib.hid hq
      clear hq
      rw [List.take_length]
      go_wp2
      go_ret
      have hq := (HAF1.out.widen (R' := (fun k => New w wl1 k)) (by intro k h1; omega) (Nat.le_refl _))
      have hb : ((cmB x.c ++ encI x.l.length) ++ (x.l.map stB).flatten) = ceB x := by simp only [ceB, listB, List.append_assoc]
      rw [hb] at hq
      try rw [hb]
      exact ⟨_, rfl, hq, HML1.out⟩
end Go.Proofs.Ytknpapcfhnhheaa
