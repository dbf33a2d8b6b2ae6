/- Texts that are built one behind the other: XCut3, XNi, XQ5, XS, XPt1, XGp, XRead2, XRead3, XRead4, XRead5. No condition. -/
import Derived.Test.YtknpapcfhnhheaaHb2
/- Batches that are cut. -/
set_option maxRecDepth 100000
set_option linter.unusedVariables false
namespace Go.Proofs.Ytknpapcfhnhheaa
open Go Go.RowKit Go.Gv


def cutOp (x : Op) : Op := { x with pl := x.pl.take 260 }
def cutTb (x : Tb) : Tb := { x with l := x.l.take 5 }
def cutBa (x : Ba) : Ba := { x with ps := (x.ps.take 4).map cutPm, os := (x.os.take 4).map cutOp, ts := (x.ts.take 4).map cutTb }
theorem RdR_len {R : Nat → Prop} {N : Nat} {w : World} {v : Value} {bs : List Int} (h : RdR R N w v bs) : RdR R bs.length w v bs := ⟨h.1, h.2.1, Nat.le_refl _⟩
theorem op_len (x : Op) (v : Value) (h : x.nc.length = 32) : (x.cells v).length = 34 := by simp [Op.cells, h]
theorem lay_pl (x y : Op) (u v : Value) (h : y.ix = x.ix ∧ y.nc = x.nc) : lay (x.cells u).toArray 1 [v] = (y.cells v).toArray := by
  obtain ⟨h1, h2⟩ := h
  simp [lay, Op.cells, h1, h2]
theorem lay_tl (x y : Tb) (u v : Value) (h : y.ix = x.ix) : lay (x.cells u).toArray 1 [v] = (y.cells v).toArray := by
  simp [lay, Tb.cells, h]
set_option maxHeartbeats 8000000 in
theorem LBatch_c : CutR BaR 25 cutBa := by
  intro R2 x cs w hx hB2
  obtain ⟨v_ps, v_os, v_ts, rfl, hok, hs0, hs1, hs2⟩ := hx
  obtain ⟨ao_ps, cap_ps, rfl⟩ := hs0.shape
  obtain ⟨ao_os, cap_os, rfl⟩ := hs1.shape
  obtain ⟨ao_ts, cap_ts, rfl⟩ := hs2.shape
  have HS0 := Lib.hid hs0
  have HS1 := Lib.hid hs1
  have HS2 := Lib.hid hs2
  have HBT := Lib.hid hB2
  have HOK := Lib.hid hok
  clear hs0 hs1 hs2 hB2 hok
  go_enter Try.func25, Try.ntmps25
  go_upto_region 1 with (fail)
  obtain ⟨w1, hw1⟩ : ∃ zz, zz = ((w.alloc (.cells (x.cells (.slice ao_ps x.ps.length cap_ps) (.slice ao_os x.os.length cap_os) (.slice ao_ts x.ts.length cap_ts) : List Value).toArray 60)).alloc (.cells #[.int .i64 0, .int .u64 0, .slice none 0 0, .slice none 0 0, .slice none 0 0] 60)) := ⟨_, rfl⟩
  change Code.wp _ _ _ _ ((w.alloc (.cells (x.cells (.slice ao_ps x.ps.length cap_ps) (.slice ao_os x.os.length cap_os) (.slice ao_ts x.ts.length cap_ts) : List Value).toArray 60)).alloc (.cells #[.int .i64 0, .int .u64 0, .slice none 0 0, .slice none 0 0, .slice none 0 0] 60))
  rw [← hw1]
  have HB1 := hid (show Cs w1 (w.heap.size) (x.cells (.slice ao_ps x.ps.length cap_ps) (.slice ao_os x.os.length cap_os) (.slice ao_ts x.ts.length cap_ts) : List Value).toArray 60 by rw [hw1]; exact (Cs.new _ _ _).alloc _)
  have HB2 := hid (show Cs w1 (w.heap.size + 1) #[.int .i64 0, .int .u64 0, .slice none 0 0, .slice none 0 0, .slice none 0 0] 60 by rw [hw1]; exact Cs_newN _ _ _ (by simp))
  have hm : Mod (fun _ => False) w w1 := by rw [hw1]; exact ((Mod.refl _ _).alloc _).alloc _
  have HM0 := hid (show Mod (fun _ => False) w w1 from hm.mono (fun _ _ h => h.elim))
  have hs1 : w1.heap.size = w.heap.size + 2 := by rw [hw1]; simp
  have Hx1 := hid (HS0.out.mod hm (fun _ _ h => h))
  clear HS0
  have Hx2 := hid (HS1.out.mod hm (fun _ _ h => h))
  clear HS1
  have Hx3 := hid (HS2.out.mod hm (fun _ _ h => h))
  clear HS2
  clear hw1 hm
  go_wp2
  go_loopw [3, 4] (fun ta ti wr => ∃ k : Nat, ti = .int .i64 (k : Int) ∧ k ≤ x.ps.length ∧ k ≤ 4 ∧ w1.heap.size ≤ wr.heap.size ∧ OwS PmR 55 (fun b => w1.heap.size ≤ b ∧ b < wr.heap.size) (fun b => R2 b ∨ (w1.heap.size ≤ b ∧ b < wr.heap.size)) wr ta ((x.ps.take k).map cutPm) ∧ RdS PmR R2 wr (.slice ao_ps x.ps.length cap_ps) x.ps ∧ RdS OpR R2 wr (.slice ao_os x.os.length cap_os) x.os ∧ RdS TbR R2 wr (.slice ao_ts x.ts.length cap_ts) x.ts ∧ Cs wr (w.heap.size) (x.cells (.slice ao_ps x.ps.length cap_ps) (.slice ao_os x.os.length cap_os) (.slice ao_ts x.ts.length cap_ts) : List Value).toArray 60 ∧ Cs wr (w.heap.size + 1) #[.int .i64 0, .int .u64 0, .slice none 0 0, .slice none 0 0, .slice none 0 0] 60 ∧ Mod (fun _ => False) w wr) (fun _ ti _ => x.ps.length - (intOf ti).toNat)
  case atStart => exact ⟨0, rfl, Nat.zero_le _, Nat.zero_le _, Nat.le_refl _, OwS.nil _ _ _ _ _, Hx1.out, Hx2.out, Hx3.out, HB1.out, HB2.out, HM0.out⟩
  case round =>
    obtain ⟨k1, rfl, hk, hkN, hz, ha, hk_0, hk_1, hk_2, hk_3, hk_4, hm⟩ := hrel
    obtain ⟨wl1, rfl⟩ : ∃ x, x = wr := ⟨_, rfl⟩
    obtain ⟨aol1, capl1, rfl⟩ := ha.shape
    have HAL1 := Lib.hid ha
    have HKL1_0 := Lib.hid hk_0
    have HKL1_1 := Lib.hid hk_1
    have HKL1_2 := Lib.hid hk_2
    have HKL1_3 := Lib.hid hk_3
    have HKL1_4 := Lib.hid hk_4
    have HML1 := Lib.hid hm
    clear ha hm hk_0 hk_1 hk_2 hk_3 hk_4 Hx1 Hx2 Hx3 HB1 HB2 HM0
    by_cases hlt1 : k1 < x.ps.length ∧ k1 < 4
    · obtain ⟨hlt1, hlN1⟩ := hlt1
      go_upto_region 3 with (fail)
      generalize ha0 : Act.mk _ _ = a0
      have oe1 : a0.eval (.tmp 1) = .pointer (some ⟨w.heap.size, 0, none⟩) := by rw [← ha0]; rfl
      have oe4 : a0.eval (.tmp 4) = .int .i64 ((k1 : Nat) : Int) := by rw [← ha0]; rfl
      have hsz0 : a0.tmps.size = 86 := by rw [← ha0]; rfl
      have HA0 := hid ha0
      clear ha0
      refine wp_region_Q0 86 hsz0 [11, 12, 13, 14, 15, 16, 17, 18, 19] [qi (.int .i64 ((k1 : Nat) : Int)), qi (.pointer (some ⟨w.heap.size, 2, none⟩)), qi (.slice ao_ps x.ps.length cap_ps), qi (.int .i64 x.ps.length), qi (.bool true), qi (.bool true), qi (.int .i64 ((k1 : Nat) : Int)), qi (.bool true), qi (.bool true)] ⟨qi_stable, qi_stable, qi_stable, qi_stable, qi_stable, qi_stable, qi_stable, qi_stable, qi_stable, trivial⟩ [] ⟨?_, ?_, ?_, ?_, ?_, ?_, ?_, ?_, ?_, trivial⟩ ?_
      · exact stq (fun E => ex_move rfl (E.v oe4))
      · exact stq (fun E => ex_field rfl Try.underlying60 rfl (by kernel_rfl) (E.v oe1))
      · exact stq (fun E => ex_load1 rfl Try.underlying56 rfl (E.d 1) (Cs.lit1 (HKL1_3.out.mod E.m.old (by intro h2; omega)) rfl))
      · exact stq (fun E => ex_lenS rfl (E.d 2) Try.underlying56)
      · exact stq (fun E => ex_binE rfl (E.d 0) (E.d 3) (guard_ints _ _ _ _ _ _) (run_lss_i _ _ _ Try.underlying3) (congrArg Value.bool (decide_eq_true (by omega))))
      · exact stq (fun E => ex_move rfl (E.d 4))
      · refine stepq_env rfl rfl rfl fun _ _ _ _ _ _ _ hout hsz hd _ _ => ?_
        have h5 := hd ⟨5, .guard⟩ (by simp) rfl _ rfl
        refine qe_run rfl ((wanted_of rfl rfl (hsz 16 (by decide)) h5).trans rfl) (ex_move rfl ((hout 4 (by decide)).trans oe4)) QE.refl ?_
        rfl
      · refine stepq_env rfl rfl rfl fun _ _ _ _ _ _ _ _ hsz hd _ _ => ?_
        have h5 := hd ⟨5, .guard⟩ (by simp) rfl _ rfl
        have h6 := hd ⟨6, .data⟩ (by simp) rfl _ rfl
        refine qe_run rfl ((wanted_of rfl rfl (hsz 16 (by decide)) h5).trans rfl) (ex_binE rfl h6 rfl (guard_ints _ _ _ _ _ _) (run_lss_i _ _ _ Try.underlying3) (congrArg Value.bool (decide_eq_true (by omega)))) QE.refl ?_
        rfl
      · exact stq (fun E => ex_pick rfl (E.d 5) (E.d 7) rfl)
      intro u3_0 hr
      have zu3_0 := hr.size
      have Cx4 := hid (hr.new (S := (fun _ => False)))
      clear hr
      refine QChain.nil fun vs hl hzz hrows hne => ?_
      obtain ⟨Z, hYZ, hZb, hV⟩ := hzz
      have f0 := fvi hV hl 0
      have f3 := fvi hV hl 3
      have f5 := fvi hV hl 5
      have f6 := fvi hV hl 6
      have f8 := fvi hV hl 8
      rw [show vs = [gw vs 0, gw vs 1, gw vs 2, gw vs 3, gw vs 4, gw vs 5, gw vs 6, gw vs 7, gw vs 8] from (gw_eta hl).trans rfl]
      have ha0 := HA0.out
      subst ha0
      clear HA0 hV hYZ hZb hsz0 hrows hne oe1 oe4
      simp only [putAll, Act.put, List.setIfInBounds_toArray, List.set_cons_zero, List.set_cons_succ, f0, f3, f5, f6, f8]
      clear hl f0 f3 f5 f6 f8
      have hat := (HKL1_0.out.mod Cx4.out (fun _ _ h => h)).at hlt1
      obtain ⟨g1, o1, cs1, eao, hrg, hrd, hcs⟩ := hat
      subst eao
      have hcl : cs1.length = 6 := PmR.len hrd
      have HCL1 := Lib.hid hcl
      have HAT1 := hid (show CellsAt R2 u3_0 g1 (o1 + k1 * 6) cs1 from ⟨hrg, hcs⟩)
      have HRD1 := Lib.hid hrd
      have HOC1 := hid (PmR.one hrd)
      clear hcl hcs hrd hrg
      have HE1 : Hid (((x.ps.take k1).map cutPm) ++ [cutPm x.ps[k1]] = (x.ps.take (k1 + 1)).map cutPm) := hid (by rw [List.take_succ_eq_append_getElem hlt1, List.map_append]; rfl)
      have HLN1 : Hid (((x.ps.take k1).map cutPm).length = k1) := hid (by rw [List.length_map, List.length_take]; omega)
      go_upto_region 5 with (fail)
      generalize ha0 : Act.mk _ _ = a0
      have oe1 : a0.eval (.tmp 1) = .pointer (some ⟨w.heap.size, 0, none⟩) := by rw [← ha0]; rfl
      have oe3 : a0.eval (.tmp 3) = .slice aol1 ((x.ps.take k1).map cutPm).length capl1 := by rw [← ha0]; rfl
      have oe4 : a0.eval (.tmp 4) = .int .i64 ((k1 : Nat) : Int) := by rw [← ha0]; rfl
      have hsz0 : a0.tmps.size = 86 := by rw [← ha0]; rfl
      have HA0 := hid ha0
      clear ha0
      refine wp_region_Q1 86 hsz0 [22, 23, 24, 25, 26, 27, 28, 29, 30, 3] (fun k => (New w1 wl1 k)) (fun k j => (k = 2 ∧ ((New w1 wl1 j)))) (fun _ _ h => h.2) [qi (.slice aol1 ((x.ps.take k1).map cutPm).length capl1), qi (.pointer (some ⟨w.heap.size, 2, none⟩)), qi (.slice (some ⟨g1, o1, none⟩) x.ps.length cap_ps), qi (.int .i64 ((k1 : Nat) : Int)), qi (.pointer (some ⟨g1, o1 + k1 * 6, none⟩)), qi (.agg cs1.toArray), qv 0, qv 1, qv 2, qv 2] ⟨qi_stable, qi_stable, qi_stable, qi_stable, qi_stable, qi_stable, qv_stable, qv_stable, qv_stable, qv_stable, trivial⟩ [6, 7, 8] ⟨?_, ?_, ?_, ?_, ?_, ?_, ?_, ?_, ?_, ?_, trivial⟩ ?_
      · exact stq (fun E => ex_move rfl ((E.pre 9 3 rfl (by kernel_rfl)).trans oe3))
      · exact stq (fun E => ex_field rfl Try.underlying60 rfl (by kernel_rfl) (E.v oe1))
      · exact stq (fun E => ex_load1 rfl Try.underlying56 rfl (E.d 1) (Cs.lit1 ((HKL1_3.out.mod Cx4.out (fun h => h)).mod E.m (by intro h2; omega)) rfl))
      · exact stq (fun E => ex_move rfl (E.v oe4))
      · exact stq (fun E => ex_idxS (i := k1) (s := 6) rfl Try.underlying56 (by kernel_rfl) (E.d 2) (E.d 3) hlt1)
      · exact stq (fun E => ex_loadA rfl Try.underlying55 rfl (off := o1 + k1 * 6) (cs := cs1) (by rw [HCL1.out]; kernel_rfl) (E.d 4) (fun j u hu => ((HAT1.out.mod E.m (by intro k h1 h2; rcases h2 with ⟨h0, h2⟩ | h2 <;> (first | omega | (have hb := HBT.out k h1; omega))))).2 j u hu))
      · exact stepq_chain rfl
      · exact stepq_chain rfl
      · exact stepq_chain rfl
      · refine stepq_env rfl rfl rfl fun _ _ _ _ _ _ _ _ _ hd _ _ => ?_
        have h8 := hd ⟨8, .data⟩ (by simp) rfl _ rfl
        exact qe_run rfl (wanted_none rfl) (ex_assign rfl rfl) QE.refl h8
      intro u5_0 hr
      have zu5_0 := hr.size
      have Cx5 := hid (hr.new (S := (fun k => (New w1 wl1 k))))
      have Hx6 := hid ((HAL1.out.mod Cx4.out (fun _ _ h => h) (fun _ _ h => h)).mod hr (by intro k h1 h2; omega) (by intro k h1 h2; rcases h1 with h1 | h1 <;> first | omega | (have hb := HBT.out k h1; omega)))
      clear HAL1
      clear hr
      refine QChain.go fun Z act E => ?_
      refine qc_callF (args := #[.agg cs1.toArray]) rfl (wanted_none rfl) rfl Try.func23 (args1 (E.d 5)) (LPromise_c _ _ _ _ (HRD1.out.mod Cx5.out (by intro k h1 h2; have hb := HBT.out k h1; omega)) (by intro k h1; have hb := HBT.out k h1; omega)) ?_
      rintro e u5_1a ⟨cs', rfl, qel, hm⟩
      have zu5_1a := hm.size
      refine ⟨_, rfl, hm.mono (fun _ _ h => h.elim), (fun _ => rfl), ?_⟩
      intro u5_1 hr
      have zu5_1 := hr.size
      have Hx7 := hid ((qel.widen (R' := (fun k => (R2 k) ∨ (New u5_0 u5_1a k))) (fun _ h => h)).mod hr (by intro k h1 h2; rcases h1 with h1 | h1 <;> first | omega | (have hb := HBT.out k h1; omega)))
      have hmr := Mod.after hm hr
      have Hx8 := hid (Hx6.out.mod hmr (by intro k h1 h2; omega) (by intro k h1 h2; rcases h1 with h1 | h1 <;> first | omega | (have hb := HBT.out k h1; omega)))
      clear Hx6
      clear hmr
      have Cx9 := hid (Cx5.out.go hm hr)
      clear Cx5 hm hr Z act E qel HRD1
      refine QChain.go fun Z act E => ?_
      refine qc_buildS (e := 55) (cs := cs') (zc := [.int .i64 0, .int .i64 0, .int .u64 0, .slice none 0 0, .int .i64 0, .int .i64 0]) (sz := 6) rfl (wanted_none rfl) rfl Try.underlying56 (by kernel_rfl) rfl (by decide) (by decide) (chv (v := .agg cs'.toArray) (E.d 6)) (PmR.len Hx7.out) ?_
      intro u5_2a qrow hm
      have zl5_7 := qrow.lt
      have zu5_2a := hm.size
      refine ⟨hm.mono (fun _ _ h => h.elim), (fun _ => rfl), ?_⟩
      intro u5_2 hr
      have zu5_2 := hr.size
      have Hx10 := hid (qrow.mod hr (by intro h2; omega))
      have hmr := Mod.after hm hr
      have Hx11 := hid (Hx8.out.mod hmr (by intro k h1 h2; omega) (by intro k h1 h2; rcases h1 with h1 | h1 <;> first | omega | (have hb := HBT.out k h1; omega)))
      have Hx12 := hid (Hx7.out.mod hmr (by intro k h1 h2; rcases h1 with h1 | h1 <;> first | omega | (have hb := HBT.out k h1; omega)))
      clear Hx8 Hx7
      clear hmr
      have Cx13 := hid (Cx9.out.go hm hr)
      clear Cx9 hm hr Z act E qrow
      refine QChain.go fun Z act E => ?_
      refine qc_appS (A := PmR) (e := 55) rfl (wanted_none rfl) rfl (.agg #[.int .i64 0, .int .i64 0, .int .u64 0, .slice none 0 0, .int .i64 0, .int .i64 0]) 64 Try.underlying56 info_Pm (by rfl) (of_decide_eq_true (by kernel_rfl)) (E.d 0) (chv (v := .slice (some ⟨u5_1.heap.size, 0, none⟩) 1 1) (E.d 7)) (Hx11.out) (RdS.single (R := (fun k => (R2 k) ∨ (New u5_0 u5_1a k) ∨ (k = u5_1.heap.size))) Hx10.out (Hx12.out.widen (by intro k h1; rcases h1 with h1 | h1 <;> first | omega | exact h1.elim | exact Or.inl h1 | exact Or.inr (Or.inl h1) | exact Or.inr (Or.inr (h1)))) (by first | exact Or.inr rfl | exact Or.inr (Or.inr rfl) | (right; omega))) (by intro k h1 h2; rcases h1 with h1 | h1 | h1 <;> first | omega | (have hb := HBT.out k h1; omega)) (by rw [HLN1.out]; simp only [List.length_cons, List.length_nil]; omega) (by rw [HLN1.out, maxLen_val]; simp only [List.length_cons, List.length_nil]; omega) ?_
      intro ao8 cap8 u5_3a qacc1 hm
      have zu5_3a := hm.size
      refine ⟨hm.mono (by intro k hk h; omega), (fun _ => rfl), ?_⟩
      intro u5_3 hr
      have zu5_3 := hr.size
      have Hx14 := hid ((qacc1.widen (R' := (fun k => (New w1 wl1 k) ∨ (New u5_2 u5_3a k))) (E' := (fun k => (R2 k) ∨ (New w1 wl1 k) ∨ (New u5_0 u5_1a k) ∨ (k = u5_1.heap.size))) (fun _ h => h) (by intro k h1; rcases h1 with (h1 | h1) | (h1 | h1 | h1) <;> first | omega | exact h1.elim | exact Or.inl h1 | exact Or.inr (Or.inl h1) | exact Or.inr (Or.inr (Or.inl h1)) | exact Or.inr (Or.inr (Or.inr (h1))))).mod hr (by intro k h1 h2; omega) (by intro k h1 h2; rcases h1 with h1 | h1 | h1 | h1 <;> first | omega | (have hb := HBT.out k h1; omega)))
      have hmr := hm.two hr
      have Hx15 := hid (Hx12.out.mod hmr (by intro k h1 h2; rcases h1 with h1 | h1 <;> first | omega | (have hb := HBT.out k h1; omega)))
      have Hx16 := hid (Hx10.out.mod hmr (by intro h2; omega))
      clear Hx12 Hx10
      clear hmr
      have Cx17 := hid (Cx13.out.goM hm hr (fun _ _ h => h))
      clear Cx13 hm hr Z act E qacc1 Hx11
      refine QChain.nil fun vs hl hzz hrows hne => ?_
      obtain ⟨Z, hYZ, hZb, hV⟩ := hzz
      have f0 := fvi hV hl 0
      have f3 := fvi hV hl 3
      have f6 := fvc hV hl 6
      have f7 := fvc hV hl 7
      have f8 := fvc hV hl 8
      have f9 := fvc hV hl 9
      rw [show vs = [gw vs 0, gw vs 1, gw vs 2, gw vs 3, gw vs 4, gw vs 5, gw vs 6, gw vs 7, gw vs 8, gw vs 9] from (gw_eta hl).trans rfl]
      have ha0 := HA0.out
      subst ha0
      clear HA0 hV hYZ hZb hsz0 hrows hne oe1 oe3 oe4
      simp only [putAll, Act.put, List.setIfInBounds_toArray, List.set_cons_zero, List.set_cons_succ, f0, f3, f6, f7, f8, f9]
      clear hl f0 f3 f6 f7 f8 f9
      have hq := Hx14.out
      rw [HE1.out] at hq
      have HQ1 := Lib.hid hq
      clear hq
      go_wp2
      go_roundw
      case rel => exact ⟨k1 + 1, by go_num, by omega, by omega, by omega, (HQ1.out.widen (by intro b h1; omega) (by intro k h1; rcases h1 with h1 | h1 | h1 | h1 <;> first | omega | exact h1.elim | exact Or.inl h1 | exact Or.inr (h1))), ((HKL1_0.out.mod Cx4.out (fun _ _ h => h)).mod Cx17.out (by intro k h1 h2; have hb := HBT.out k h1; omega)), ((HKL1_1.out.mod Cx4.out (fun _ _ h => h)).mod Cx17.out (by intro k h1 h2; have hb := HBT.out k h1; omega)), ((HKL1_2.out.mod Cx4.out (fun _ _ h => h)).mod Cx17.out (by intro k h1 h2; have hb := HBT.out k h1; omega)), ((HKL1_3.out.mod Cx4.out (fun h => h)).mod Cx17.out (by intro h2; omega)), ((HKL1_4.out.mod Cx4.out (fun h => h)).mod Cx17.out (by intro h2; omega)), ((HML1.out.trans Cx4.out (fun _ _ h => h.elim)).trans Cx17.out (by intro k h1 h2; omega))⟩
      case measure => simp [intOf]; omega
    · skip
      obtain ⟨bA1, hbA1⟩ : ∃ b : Bool, b = decide (((k1 : Nat) : Int) < (x.ps.length : Int)) := ⟨_, rfl⟩
      obtain ⟨bB1, hbB1⟩ : ∃ b : Bool, b = decide (((k1 : Nat) : Int) < 4) := ⟨_, rfl⟩
      go_upto_region 3 with (fail)
      generalize ha0 : Act.mk _ _ = a0
      have oe1 : a0.eval (.tmp 1) = .pointer (some ⟨w.heap.size, 0, none⟩) := by rw [← ha0]; rfl
      have oe4 : a0.eval (.tmp 4) = .int .i64 ((k1 : Nat) : Int) := by rw [← ha0]; rfl
      have hsz0 : a0.tmps.size = 86 := by rw [← ha0]; rfl
      have HA0 := hid ha0
      clear ha0
      refine wp_region_Q0 86 hsz0 [11, 12, 13, 14, 15, 16, 17, 18, 19] [qi (.int .i64 ((k1 : Nat) : Int)), qi (.pointer (some ⟨w.heap.size, 2, none⟩)), qi (.slice ao_ps x.ps.length cap_ps), qi (.int .i64 x.ps.length), qi (.bool bA1), qi (.bool bA1), qc bA1 (qi (.int .i64 ((k1 : Nat) : Int))), qc bA1 (qi (.bool bB1)), qi (.bool (bA1 && bB1))] ⟨qi_stable, qi_stable, qi_stable, qi_stable, qi_stable, qi_stable, (qc_stable qi_stable), (qc_stable qi_stable), qi_stable, trivial⟩ [] ⟨?_, ?_, ?_, ?_, ?_, ?_, ?_, ?_, ?_, trivial⟩ ?_
      · exact stq (fun E => ex_move rfl (E.v oe4))
      · exact stq (fun E => ex_field rfl Try.underlying60 rfl (by kernel_rfl) (E.v oe1))
      · exact stq (fun E => ex_load1 rfl Try.underlying56 rfl (E.d 1) (Cs.lit1 (HKL1_3.out.mod E.m.old (by intro h2; omega)) rfl))
      · exact stq (fun E => ex_lenS rfl (E.d 2) Try.underlying56)
      · exact stq (fun E => ex_binE rfl (E.d 0) (E.d 3) (guard_ints _ _ _ _ _ _) (run_lss_i _ _ _ Try.underlying3) (congrArg Value.bool hbA1.symm))
      · exact stq (fun E => ex_move rfl (E.d 4))
      · refine stepq_env rfl rfl rfl fun _ _ _ _ _ _ _ hout hsz hd _ _ => ?_
        have h5 := hd ⟨5, .guard⟩ (by simp) rfl _ rfl
        refine qe_guard rfl (b := bA1) ((wanted_of rfl rfl (hsz 16 (by decide)) h5).trans (by simp)) rfl (fun hb l' hl' => ?_)
        refine qe_run rfl ((wanted_of rfl rfl (hsz 16 (by decide)) h5).trans (by first | exact hb | simpa using hb)) (ex_move rfl ((hout 4 (by decide)).trans oe4)) QE.refl ?_
        rw [hl']; rfl
      · refine stepq_env rfl rfl rfl fun _ _ _ _ _ _ _ _ hsz hd _ _ => ?_
        have h5 := hd ⟨5, .guard⟩ (by simp) rfl _ rfl
        have h6 := hd ⟨6, .data⟩ (by simp) rfl _ rfl
        refine qe_guard rfl (b := bA1) ((wanted_of rfl rfl (hsz 16 (by decide)) h5).trans (by simp)) rfl (fun hb l' hl' => ?_)
        refine qe_run rfl ((wanted_of rfl rfl (hsz 16 (by decide)) h5).trans (by first | exact hb | simpa using hb)) (ex_binE rfl (h6.1 hb) rfl (guard_ints _ _ _ _ _ _) (run_lss_i _ _ _ Try.underlying3) (congrArg Value.bool hbB1.symm)) QE.refl ?_
        rw [hl']; rfl
      · exact stq (fun E => ex_pickE rfl (E.d 5) rfl rfl (and_val fun hb => (E.d 7).1 hb))
      intro u3_0 hr
      have zu3_0 := hr.size
      have Cx18 := hid (hr.new (S := (fun _ => False)))
      clear hr
      refine QChain.nil fun vs hl hzz hrows hne => ?_
      obtain ⟨Z, hYZ, hZb, hV⟩ := hzz
      have f0 := fvi hV hl 0
      have f3 := fvi hV hl 3
      have f5 := fvi hV hl 5
      have f8 := fvi hV hl 8
      rw [show vs = [gw vs 0, gw vs 1, gw vs 2, gw vs 3, gw vs 4, gw vs 5, gw vs 6, gw vs 7, gw vs 8] from (gw_eta hl).trans rfl]
      have ha0 := HA0.out
      subst ha0
      clear HA0 hV hYZ hZb hsz0 hrows hne oe1 oe4
      simp only [putAll, Act.put, List.setIfInBounds_toArray, List.set_cons_zero, List.set_cons_succ, f0, f3, f5, f8]
      clear hl f0 f3 f5 f8
      rw [show (bA1 && bB1) = false by rw [hbA1, hbB1, Bool.and_eq_false_iff, decide_eq_false_iff_not, decide_eq_false_iff_not]; omega]
      have HTK1 := hid (show x.ps.take k1 = x.ps.take 4 from take_two (by omega) (by omega))
      go_wp2
      go_loopw [5, 6] (fun ta ti wr => ∃ k : Nat, ti = .int .i64 (k : Int) ∧ k ≤ x.os.length ∧ k ≤ 4 ∧ u3_0.heap.size ≤ wr.heap.size ∧ OwS OpR 87 (fun b => u3_0.heap.size ≤ b ∧ b < wr.heap.size) (fun b => R2 b ∨ (u3_0.heap.size ≤ b ∧ b < wr.heap.size)) wr ta ((x.os.take k).map cutOp) ∧ RdS PmR R2 wr (.slice ao_ps x.ps.length cap_ps) x.ps ∧ RdS OpR R2 wr (.slice ao_os x.os.length cap_os) x.os ∧ RdS TbR R2 wr (.slice ao_ts x.ts.length cap_ts) x.ts ∧ Cs wr (w.heap.size) (x.cells (.slice ao_ps x.ps.length cap_ps) (.slice ao_os x.os.length cap_os) (.slice ao_ts x.ts.length cap_ts) : List Value).toArray 60 ∧ Cs wr (w.heap.size + 1) #[.int .i64 0, .int .u64 0, .slice none 0 0, .slice none 0 0, .slice none 0 0] 60 ∧ OwS PmR 55 (fun b => w1.heap.size ≤ b ∧ b < wl1.heap.size) (fun b => R2 b ∨ (w1.heap.size ≤ b ∧ b < wl1.heap.size)) wr (.slice aol1 ((x.ps.take k1).map cutPm).length capl1) ((x.ps.take k1).map cutPm) ∧ Mod (fun _ => False) w wr) (fun _ ti _ => x.os.length - (intOf ti).toNat)
      case atStart => exact ⟨0, rfl, Nat.zero_le _, Nat.zero_le _, Nat.le_refl _, OwS.nil _ _ _ _ _, (HKL1_0.out.mod Cx18.out (fun _ _ h => h)), (HKL1_1.out.mod Cx18.out (fun _ _ h => h)), (HKL1_2.out.mod Cx18.out (fun _ _ h => h)), (HKL1_3.out.mod Cx18.out (fun h => h)), (HKL1_4.out.mod Cx18.out (fun h => h)), (HAL1.out.mod Cx18.out (fun _ _ h => h) (fun _ _ h => h)), (HML1.out.trans Cx18.out (fun _ _ h => h.elim))⟩
      case round =>
        obtain ⟨k2, rfl, hk, hkN, hz, ha, hk_0, hk_1, hk_2, hk_3, hk_4, hk_5, hm⟩ := hrel
        obtain ⟨wl2, rfl⟩ : ∃ x, x = wr := ⟨_, rfl⟩
        obtain ⟨aol2, capl2, rfl⟩ := ha.shape
        have HAL2 := Lib.hid ha
        have HKL2_0 := Lib.hid hk_0
        have HKL2_1 := Lib.hid hk_1
        have HKL2_2 := Lib.hid hk_2
        have HKL2_3 := Lib.hid hk_3
        have HKL2_4 := Lib.hid hk_4
        have HKL2_5 := Lib.hid hk_5
        have HML2 := Lib.hid hm
        clear ha hm hk_0 hk_1 hk_2 hk_3 hk_4 hk_5 HKL1_0 HKL1_1 HKL1_2 HKL1_3 HKL1_4 HML1 HAL1
        by_cases hlt2 : k2 < x.os.length ∧ k2 < 4
        · obtain ⟨hlt2, hlN2⟩ := hlt2
          go_upto_region 8 with (fail)
          generalize ha0 : Act.mk _ _ = a0
          have oe1 : a0.eval (.tmp 1) = .pointer (some ⟨w.heap.size, 0, none⟩) := by rw [← ha0]; rfl
          have oe6 : a0.eval (.tmp 6) = .int .i64 ((k2 : Nat) : Int) := by rw [← ha0]; rfl
          have hsz0 : a0.tmps.size = 86 := by rw [← ha0]; rfl
          have HA0 := hid ha0
          clear ha0
          refine wp_region_Q0 86 hsz0 [31, 32, 33, 34, 35, 36, 37, 38, 39] [qi (.int .i64 ((k2 : Nat) : Int)), qi (.pointer (some ⟨w.heap.size, 3, none⟩)), qi (.slice ao_os x.os.length cap_os), qi (.int .i64 x.os.length), qi (.bool true), qi (.bool true), qi (.int .i64 ((k2 : Nat) : Int)), qi (.bool true), qi (.bool true)] ⟨qi_stable, qi_stable, qi_stable, qi_stable, qi_stable, qi_stable, qi_stable, qi_stable, qi_stable, trivial⟩ [] ⟨?_, ?_, ?_, ?_, ?_, ?_, ?_, ?_, ?_, trivial⟩ ?_
          · exact stq (fun E => ex_move rfl (E.v oe6))
          · exact stq (fun E => ex_field rfl Try.underlying60 rfl (by kernel_rfl) (E.v oe1))
          · exact stq (fun E => ex_load1 rfl Try.underlying57 rfl (E.d 1) (Cs.lit1 (HKL2_3.out.mod E.m.old (by intro h2; omega)) rfl))
          · exact stq (fun E => ex_lenS rfl (E.d 2) Try.underlying57)
          · exact stq (fun E => ex_binE rfl (E.d 0) (E.d 3) (guard_ints _ _ _ _ _ _) (run_lss_i _ _ _ Try.underlying3) (congrArg Value.bool (decide_eq_true (by omega))))
          · exact stq (fun E => ex_move rfl (E.d 4))
          · refine stepq_env rfl rfl rfl fun _ _ _ _ _ _ _ hout hsz hd _ _ => ?_
            have h5 := hd ⟨5, .guard⟩ (by simp) rfl _ rfl
            refine qe_run rfl ((wanted_of rfl rfl (hsz 36 (by decide)) h5).trans rfl) (ex_move rfl ((hout 6 (by decide)).trans oe6)) QE.refl ?_
            rfl
          · refine stepq_env rfl rfl rfl fun _ _ _ _ _ _ _ _ hsz hd _ _ => ?_
            have h5 := hd ⟨5, .guard⟩ (by simp) rfl _ rfl
            have h6 := hd ⟨6, .data⟩ (by simp) rfl _ rfl
            refine qe_run rfl ((wanted_of rfl rfl (hsz 36 (by decide)) h5).trans rfl) (ex_binE rfl h6 rfl (guard_ints _ _ _ _ _ _) (run_lss_i _ _ _ Try.underlying3) (congrArg Value.bool (decide_eq_true (by omega)))) QE.refl ?_
            rfl
          · exact stq (fun E => ex_pick rfl (E.d 5) (E.d 7) rfl)
          intro u8_0 hr
          have zu8_0 := hr.size
          have Cx19 := hid (hr.new (S := (fun _ => False)))
          clear hr
          refine QChain.nil fun vs hl hzz hrows hne => ?_
          obtain ⟨Z, hYZ, hZb, hV⟩ := hzz
          have f0 := fvi hV hl 0
          have f3 := fvi hV hl 3
          have f5 := fvi hV hl 5
          have f6 := fvi hV hl 6
          have f8 := fvi hV hl 8
          rw [show vs = [gw vs 0, gw vs 1, gw vs 2, gw vs 3, gw vs 4, gw vs 5, gw vs 6, gw vs 7, gw vs 8] from (gw_eta hl).trans rfl]
          have ha0 := HA0.out
          subst ha0
          clear HA0 hV hYZ hZb hsz0 hrows hne oe1 oe6
          simp only [putAll, Act.put, List.setIfInBounds_toArray, List.set_cons_zero, List.set_cons_succ, f0, f3, f5, f6, f8]
          clear hl f0 f3 f5 f6 f8
          have hat := (HKL2_1.out.mod Cx19.out (fun _ _ h => h)).at hlt2
          obtain ⟨g2, o2, cs2, eao, hrg, hrd, hcs⟩ := hat
          subst eao
          have hcl : cs2.length = 34 := OpR.len hrd
          have HCL2 := Lib.hid hcl
          have HAT2 := hid (show CellsAt R2 u8_0 g2 (o2 + k2 * 34) cs2 from ⟨hrg, hcs⟩)
          have HRD2 := Lib.hid hrd
          have HOC2 := hid (OpR.one hrd)
          clear hcl hcs hrd hrg
          have HE2 : Hid (((x.os.take k2).map cutOp) ++ [cutOp x.os[k2]] = (x.os.take (k2 + 1)).map cutOp) := hid (by rw [List.take_succ_eq_append_getElem hlt2, List.map_append]; rfl)
          have HLN2 : Hid (((x.os.take k2).map cutOp).length = k2) := hid (by rw [List.length_map, List.length_take]; omega)
          obtain ⟨y2, hy2⟩ : ∃ y, y = x.os[k2] := ⟨_, rfl⟩
          rw [← hy2] at HRD2 HE2
          clear hy2
          obtain ⟨v_e, rfl, hoke, hse⟩ := HRD2.out
          obtain ⟨aoe2, cape2, rfl⟩ := hse.shape
          have HOK2 := Lib.hid hoke
          have HSE2 := Lib.hid hse
          clear hoke hse HRD2
          go_upto_region 10 with (fail)
          generalize ha0 : Act.mk _ _ = a0
          have oe1 : a0.eval (.tmp 1) = .pointer (some ⟨w.heap.size, 0, none⟩) := by rw [← ha0]; rfl
          have oe6 : a0.eval (.tmp 6) = .int .i64 ((k2 : Nat) : Int) := by rw [← ha0]; rfl
          have hsz0 : a0.tmps.size = 86 := by rw [← ha0]; rfl
          have HA0 := hid ha0
          clear ha0
          refine wp_region_Q 86 hsz0 (by kernel_rfl) (by kernel_rfl) [42, 43, 44, 45, 46, 7, 92] (by kernel_rfl) (by decide) (fun _ => False) (fun _ _ => False) (fun _ _ h => h) [qi (.pointer (some ⟨w.heap.size, 3, none⟩)), qi (.slice (some ⟨g2, o2, none⟩) x.os.length cap_os), qi (.int .i64 ((k2 : Nat) : Int)), qi (.pointer (some ⟨g2, o2 + k2 * 34, none⟩)), qi (.agg (y2.cells (.slice aoe2 y2.pl.length cape2)).toArray), qa, qa] ⟨qi_stable, qi_stable, qi_stable, qi_stable, qi_stable, qa_stable, qa_stable, trivial⟩ [] (by kernel_rfl) (by decide) (by kernel_rfl) [⟨5, 6, 87, [.int .i64 0, .slice none 0 0, .int .u8 0, .int .u8 0, .int .u8 0, .int .u8 0, .int .u8 0, .int .u8 0, .int .u8 0, .int .u8 0, .int .u8 0, .int .u8 0, .int .u8 0, .int .u8 0, .int .u8 0, .int .u8 0, .int .u8 0, .int .u8 0, .int .u8 0, .int .u8 0, .int .u8 0, .int .u8 0, .int .u8 0, .int .u8 0, .int .u8 0, .int .u8 0, .int .u8 0, .int .u8 0, .int .u8 0, .int .u8 0, .int .u8 0, .int .u8 0, .int .u8 0, .int .u8 0], 0, (fun t => (y2.cells (.slice aoe2 y2.pl.length cape2)))⟩] (by kernel_rfl) (by intro r hr; simp only [List.mem_cons, List.not_mem_nil, or_false] at hr; rcases hr with rfl <;> exact ⟨by kernel_rfl, by kernel_rfl⟩) (by intro r hr; simp only [List.mem_cons, List.not_mem_nil, or_false] at hr; rcases hr with rfl <;> exact ⟨of_decide_eq_true (by kernel_rfl), of_decide_eq_true (by kernel_rfl)⟩) (by intro r hr; simp only [List.mem_cons, List.not_mem_nil, or_false] at hr; rcases hr with rfl <;> exact fun _ _ _ _ => ⟨trivial, trivial⟩) ⟨?_, ?_, ?_, ?_, ?_, ?_, ?_, trivial⟩ ?_
          · exact stq (fun E => ex_field rfl Try.underlying60 rfl (by kernel_rfl) (E.v oe1))
          · exact stq (fun E => ex_load1 rfl Try.underlying57 rfl (E.d 0) (Cs.lit1 ((HKL2_3.out.mod Cx19.out (fun h => h)).mod E.m.old (by intro h2; omega)) rfl))
          · exact stq (fun E => ex_move rfl (E.v oe6))
          · exact stq (fun E => ex_idxS (i := k2) (s := 34) rfl Try.underlying57 (by kernel_rfl) (E.d 1) (E.d 2) hlt2)
          · exact stq (fun E => ex_loadA rfl Try.underlying87 rfl (off := o2 + k2 * 34) (cs := (y2.cells (.slice aoe2 y2.pl.length cape2))) (by rw [HCL2.out]; kernel_rfl) (E.d 3) (fun j u hu => ((HAT2.out.mod E.m.old (by intro k h1 h2; have hb := HBT.out k h1; omega))).2 j u hu))
          · exact stepq_make rfl rfl ⟨rfl, rfl, by kernel_rfl, by kernel_rfl⟩
          · refine stepq_write rfl rfl rfl ⟨rfl, 7, (.tmp 46), rfl, by decide, rfl, by kernel_rfl, fun Z tr act w' hm hout hsz hd hpre => ?_⟩
            have h4 := hd ⟨4, .data⟩ (by simp) rfl _ rfl
            exact ⟨Nat.zero_le _, (by rw [show act.eval ((.tmp 46)) = _ from h4]; rfl), (by rw [HCL2.out]; rfl), HOC2.out⟩
          intro u10_0 hr
          have zu10_0 := hr.size
          have Cx20 := hid (hr.new (S := (fun _ => False)))
          clear hr
          refine QChain.nil fun vs hl hzz hrows hne => ?_
          obtain ⟨Z, hYZ, hZb, hV⟩ := hzz
          obtain ⟨q2, g5, hBq2, hYq2, hCq2⟩ := hrows _ (by simp only [List.mem_cons, List.not_mem_nil, or_false]; trivial)
          have f5 : gw vs 5 = _ := getv g5
          (try dsimp only at hBq2 hYq2); (try simp only [false_or] at hBq2 hYq2)
          have zqq2 := hCq2.lt
          have Hx21 := hid (show Cs u10_0 q2 ((y2.cells (.slice aoe2 y2.pl.length cape2)) : List Value).toArray 87 from hCq2)
          have f2 := fvi hV hl 2
          rw [show vs = [gw vs 0, gw vs 1, gw vs 2, gw vs 3, gw vs 4, gw vs 5, gw vs 6] from (gw_eta hl).trans rfl]
          have ha0 := HA0.out
          subst ha0
          clear HA0 hV hYZ hZb hsz0 hrows hne oe1 oe6 hCq2 g5
          simp only [putAll, Act.put, List.setIfInBounds_toArray, List.set_cons_zero, List.set_cons_succ, List.set_nil, f5, f2]
          clear hl f5 f2
          go_upto_region 11 with (fail)
          generalize ha0 : Act.mk _ _ = a0
          have oe7 : a0.eval (.tmp 7) = .pointer (some ⟨q2, 0, none⟩) := by rw [← ha0]; rfl
          have hsz0 : a0.tmps.size = 86 := by rw [← ha0]; rfl
          have HA0 := hid ha0
          clear ha0
          refine wp_region_Q1 86 hsz0 [47, 48, 49, 50, 90] (fun k => (k = q2)) (fun k j => (k = 1 ∧ ((j = q2)))) (fun _ _ h => h.2) [qi (.pointer (some ⟨q2, 1, none⟩)), qi (.slice aoe2 y2.pl.length cape2), qv 0, qi (.pointer (some ⟨q2, 1, none⟩)), qv 1] ⟨qi_stable, qi_stable, qv_stable, qi_stable, qv_stable, trivial⟩ [2, 4] ⟨?_, ?_, ?_, ?_, ?_, trivial⟩ ?_
          · exact stq (fun E => ex_field rfl Try.underlying87 rfl (by kernel_rfl) (E.v oe7))
          · refine stepq_env rfl rfl rfl fun _ _ _ _ _ _ hm0 _ _ hd hub _ => ?_
            have h0 := hd ⟨0, .data⟩ (by simp) rfl _ rfl
            refine qe_run rfl (wanted_none rfl) (ex_load1 rfl Try.underlying38 rfl h0 (Cs.hd1 (Hx21.out.mod hm0 (by intro h2; have hu := hub 1 4 rfl (by kernel_rfl); rcases h2 with ⟨h0, kk, hk, h2⟩ | h2 <;> omega)) rfl)) QE.refl ?_
            rfl
          · exact stepq_chain rfl
          · exact stq (fun E => ex_field rfl Try.underlying87 rfl (by kernel_rfl) (E.v oe7))
          · exact stepq_chain rfl
          intro u11_0 hr
          have zu11_0 := hr.size
          have Cx22 := hid (hr.new (S := (fun k => (k = q2))))
          have Hx23 := hid (Hx21.out.mod hr (by intro h2; omega))
          clear Hx21
          clear hr
          refine QChain.go fun Z act E => ?_
          refine qc_callF (args := #[.slice aoe2 y2.pl.length cape2, .int .i64 260]) rfl (wanted_none rfl) rfl Try.func26 (args2 (E.d 1) rfl) (Cut_R 260 ((HSE2.out.mod Cx20.out (fun _ _ h => h)).mod Cx22.out (by intro k h1 h2; have hb := HBT.out k h1; omega)) (by decide)) ?_
          rintro e u11_1a ⟨v', rfl, qpc, hm⟩
          obtain ⟨aop2, capp2, rfl⟩ := qpc.shape
          have zu11_1a := hm.size
          refine ⟨_, rfl, hm.mono (fun _ _ h => h.elim), (fun _ => rfl), ?_⟩
          intro u11_1 hr
          have zu11_1 := hr.size
          have Hx24 := hid ((qpc.widen (R' := (fun k => (New u11_0 u11_1a k))) (fun _ h => h) (Nat.le_refl _)).mod hr (by intro k h1 h2; omega))
          have hmr := Mod.after hm hr
          have Hx25 := hid (Hx23.out.mod hmr (by intro h2; omega))
          clear Hx23
          clear hmr
          have Cx26 := hid (Cx22.out.go hm hr)
          clear Cx22 hm hr Z act E qpc
          refine QChain.go fun Z act E => ?_
          refine qc_store rfl (wanted_none rfl) rfl Hx25.out (off := 1) (vs := [Value.slice aop2 (y2.pl.take 260).length capp2]) (by kernel_rfl) (by intro u hu; simp at hu; subst hu; rfl) (by rw [List.size_toArray, op_len _ _ HOK2.out.2.1]; show 1 + 1 ≤ 34; decide) (E.d 3) (by rw [show act.eval ((.tmp 49)) = _ from (chv (v := .slice aop2 (y2.pl.take 260).length capp2) (E.d 2))]; rfl) ?_
          intro u11_2a qc0 hm
          have qq2 : Cs u11_2a (q2) (((cutOp y2).cells (Value.slice aop2 (y2.pl.take 260).length capp2)) : List Value).toArray 87 := by rw [show lay _ 1 _ = (((cutOp y2).cells (Value.slice aop2 (y2.pl.take 260).length capp2)) : List Value).toArray from lay_pl y2 (cutOp y2) _ _ ⟨rfl, rfl⟩] at qc0; exact qc0
          clear qc0
          have zu11_2a := hm.size
          refine ⟨hm.mono (by intro k hk h; omega), (fun _ => rfl), ?_⟩
          intro u11_2 hr
          have zu11_2 := hr.size
          have Hx27 := hid (qq2.mod hr (by intro h2; omega))
          have hmr := hm.two hr
          have Hx28 := hid (Hx24.out.mod hmr (by intro k h1 h2; omega))
          clear Hx24
          clear hmr
          have Cx29 := hid (Cx26.out.goM hm hr (fun _ _ h => h))
          clear Cx26 hm hr Z act E qq2 Hx25
          refine QChain.nil fun vs hl hzz hrows hne => ?_
          obtain ⟨Z, hYZ, hZb, hV⟩ := hzz
          have f2 := fvc hV hl 2
          rw [show vs = [gw vs 0, gw vs 1, gw vs 2, gw vs 3, gw vs 4] from (gw_eta hl).trans rfl]
          have ha0 := HA0.out
          subst ha0
          clear HA0 hV hYZ hZb hsz0 hrows hne oe7
          simp only [putAll, Act.put, List.setIfInBounds_toArray, List.set_cons_zero, List.set_cons_succ, List.set_nil, f2]
          clear hl f2
          have HEL2 := hid (show OpR.rd (fun k => (New u11_0 u11_1a k)) u11_2 ((cutOp y2).cells (Value.slice aop2 (y2.pl.take 260).length capp2)) (cutOp y2) from ⟨_, rfl, HOK2.out, RdR_len Hx28.out.rd⟩)
          go_upto_region 12 with (fail)
          generalize ha0 : Act.mk _ _ = a0
          have oe5 : a0.eval (.tmp 5) = .slice aol2 ((x.os.take k2).map cutOp).length capl2 := by rw [← ha0]; rfl
          have oe7 : a0.eval (.tmp 7) = .pointer (some ⟨q2, 0, none⟩) := by rw [← ha0]; rfl
          have hsz0 : a0.tmps.size = 86 := by rw [← ha0]; rfl
          have HA0 := hid ha0
          clear ha0
          refine wp_region_Q1 86 hsz0 [51, 52, 53, 54, 5] (fun k => (New u3_0 wl2 k)) (fun k j => (k = 1 ∧ ((New u3_0 wl2 j)))) (fun _ _ h => h.2) [qi (.slice aol2 ((x.os.take k2).map cutOp).length capl2), qi (.agg ((cutOp y2).cells (Value.slice aop2 (y2.pl.take 260).length capp2)).toArray), qv 0, qv 1, qv 1] ⟨qi_stable, qi_stable, qv_stable, qv_stable, qv_stable, trivial⟩ [2, 3] ⟨?_, ?_, ?_, ?_, ?_, trivial⟩ ?_
          · exact stq (fun E => ex_move rfl ((E.pre 4 5 rfl (by kernel_rfl)).trans oe5))
          · exact stq (fun E => ex_loadA rfl Try.underlying87 rfl (off := 0) (cs := ((cutOp y2).cells (Value.slice aop2 (y2.pl.take 260).length capp2))) (by rw [op_len (cutOp y2) _ HOK2.out.2.1]; kernel_rfl) (E.v oe7) (Cs.whole (Hx27.out.mod E.m (by intro h2; omega))))
          · exact stepq_chain rfl
          · exact stepq_chain rfl
          · refine stepq_env rfl rfl rfl fun _ _ _ _ _ _ _ _ _ hd _ _ => ?_
            have h3 := hd ⟨3, .data⟩ (by simp) rfl _ rfl
            exact qe_run rfl (wanted_none rfl) (ex_assign rfl rfl) QE.refl h3
          intro u12_0 hr
          have zu12_0 := hr.size
          have Cx30 := hid (hr.new (S := (fun k => (New u3_0 wl2 k))))
          have Hx31 := hid ((((HAL2.out.mod Cx19.out (fun _ _ h => h) (fun _ _ h => h)).mod Cx20.out (fun _ _ h => h) (fun _ _ h => h)).mod Cx29.out (by intro k h1 h2; omega) (by intro k h1 h2; rcases h1 with h1 | h1 <;> first | omega | (have hb := HBT.out k h1; omega))).mod hr (by intro k h1 h2; omega) (by intro k h1 h2; rcases h1 with h1 | h1 <;> first | omega | (have hb := HBT.out k h1; omega)))
          clear HAL2
          clear hr
          refine QChain.go fun Z act E => ?_
          refine qc_buildS (e := 87) (cs := ((cutOp y2).cells (Value.slice aop2 (y2.pl.take 260).length capp2))) (zc := [.int .i64 0, .slice none 0 0, .int .u8 0, .int .u8 0, .int .u8 0, .int .u8 0, .int .u8 0, .int .u8 0, .int .u8 0, .int .u8 0, .int .u8 0, .int .u8 0, .int .u8 0, .int .u8 0, .int .u8 0, .int .u8 0, .int .u8 0, .int .u8 0, .int .u8 0, .int .u8 0, .int .u8 0, .int .u8 0, .int .u8 0, .int .u8 0, .int .u8 0, .int .u8 0, .int .u8 0, .int .u8 0, .int .u8 0, .int .u8 0, .int .u8 0, .int .u8 0, .int .u8 0, .int .u8 0]) (sz := 34) rfl (wanted_none rfl) rfl Try.underlying57 (by kernel_rfl) rfl (by decide) (by decide) (E.d 1) (OpR.len (HEL2.out.mod Cx30.out (by intro k h1 h2; omega))) ?_
          intro u12_1a qrow hm
          have zl12_2 := qrow.lt
          have zu12_1a := hm.size
          refine ⟨hm.mono (fun _ _ h => h.elim), (fun _ => rfl), ?_⟩
          intro u12_1 hr
          have zu12_1 := hr.size
          have Hx32 := hid (qrow.mod hr (by intro h2; omega))
          have hmr := Mod.after hm hr
          have Hx33 := hid (Hx31.out.mod hmr (by intro k h1 h2; omega) (by intro k h1 h2; rcases h1 with h1 | h1 <;> first | omega | (have hb := HBT.out k h1; omega)))
          clear Hx31
          clear hmr
          have Cx34 := hid (Cx30.out.go hm hr)
          clear Cx30 hm hr Z act E qrow
          refine QChain.go fun Z act E => ?_
          refine qc_appS (A := OpR) (e := 87) rfl (wanted_none rfl) rfl (.agg #[.int .i64 0, .slice none 0 0, .int .u8 0, .int .u8 0, .int .u8 0, .int .u8 0, .int .u8 0, .int .u8 0, .int .u8 0, .int .u8 0, .int .u8 0, .int .u8 0, .int .u8 0, .int .u8 0, .int .u8 0, .int .u8 0, .int .u8 0, .int .u8 0, .int .u8 0, .int .u8 0, .int .u8 0, .int .u8 0, .int .u8 0, .int .u8 0, .int .u8 0, .int .u8 0, .int .u8 0, .int .u8 0, .int .u8 0, .int .u8 0, .int .u8 0, .int .u8 0, .int .u8 0, .int .u8 0]) 64 Try.underlying57 info_Op (by rfl) (of_decide_eq_true (by kernel_rfl)) (E.d 0) (chv (v := .slice (some ⟨u12_0.heap.size, 0, none⟩) 1 1) (E.d 2)) (Hx33.out) (RdS.single (R := (fun k => (New u11_0 u11_1a k) ∨ (k = u12_0.heap.size))) Hx32.out ((HEL2.out.mod Cx34.out (by intro k h1 h2; omega)).widen (by intro k h1; first | omega | exact h1.elim | exact Or.inl h1 | exact Or.inr (h1))) (by first | exact Or.inr rfl | exact Or.inr (Or.inr rfl) | (right; omega))) (by intro k h1 h2; omega) (by rw [HLN2.out]; simp only [List.length_cons, List.length_nil]; omega) (by rw [HLN2.out, maxLen_val]; simp only [List.length_cons, List.length_nil]; omega) ?_
          intro ao14 cap14 u12_2a qacc2 hm
          have zu12_2a := hm.size
          refine ⟨hm.mono (by intro k hk h; omega), (fun _ => rfl), ?_⟩
          intro u12_2 hr
          have zu12_2 := hr.size
          have Hx35 := hid ((qacc2.widen (R' := (fun k => (New u3_0 wl2 k) ∨ (New u12_1 u12_2a k))) (E' := (fun k => (R2 k) ∨ (New u3_0 wl2 k) ∨ (New u11_0 u11_1a k) ∨ (k = u12_0.heap.size))) (fun _ h => h) (by intro k h1; rcases h1 with (h1 | h1) | (h1 | h1) <;> first | omega | exact h1.elim | exact Or.inl h1 | exact Or.inr (Or.inl h1) | exact Or.inr (Or.inr (Or.inl h1)) | exact Or.inr (Or.inr (Or.inr (h1))))).mod hr (by intro k h1 h2; omega) (by intro k h1 h2; rcases h1 with h1 | h1 | h1 | h1 <;> first | omega | (have hb := HBT.out k h1; omega)))
          have hmr := hm.two hr
          have Hx36 := hid (Hx32.out.mod hmr (by intro h2; omega))
          clear Hx32
          clear hmr
          have Cx37 := hid (Cx34.out.goM hm hr (fun _ _ h => h))
          clear Cx34 hm hr Z act E qacc2 Hx33
          refine QChain.nil fun vs hl hzz hrows hne => ?_
          obtain ⟨Z, hYZ, hZb, hV⟩ := hzz
          have f0 := fvi hV hl 0
          have f2 := fvc hV hl 2
          have f3 := fvc hV hl 3
          have f4 := fvc hV hl 4
          rw [show vs = [gw vs 0, gw vs 1, gw vs 2, gw vs 3, gw vs 4] from (gw_eta hl).trans rfl]
          have ha0 := HA0.out
          subst ha0
          clear HA0 hV hYZ hZb hsz0 hrows hne oe5 oe7
          simp only [putAll, Act.put, List.setIfInBounds_toArray, List.set_cons_zero, List.set_cons_succ, f0, f2, f3, f4]
          clear hl f0 f2 f3 f4
          have hq := Hx35.out
          rw [HE2.out] at hq
          have HQ2 := Lib.hid hq
          clear hq
          go_wp2
          go_roundw
          case rel => exact ⟨k2 + 1, by go_num, by omega, by omega, by omega, (HQ2.out.widen (by intro b h1; omega) (by intro k h1; rcases h1 with h1 | h1 | h1 | h1 <;> first | omega | exact h1.elim | exact Or.inl h1 | exact Or.inr (h1))), ((((HKL2_0.out.mod Cx19.out (fun _ _ h => h)).mod Cx20.out (fun _ _ h => h)).mod Cx29.out (by intro k h1 h2; have hb := HBT.out k h1; omega)).mod Cx37.out (by intro k h1 h2; have hb := HBT.out k h1; omega)), ((((HKL2_1.out.mod Cx19.out (fun _ _ h => h)).mod Cx20.out (fun _ _ h => h)).mod Cx29.out (by intro k h1 h2; have hb := HBT.out k h1; omega)).mod Cx37.out (by intro k h1 h2; have hb := HBT.out k h1; omega)), ((((HKL2_2.out.mod Cx19.out (fun _ _ h => h)).mod Cx20.out (fun _ _ h => h)).mod Cx29.out (by intro k h1 h2; have hb := HBT.out k h1; omega)).mod Cx37.out (by intro k h1 h2; have hb := HBT.out k h1; omega)), ((((HKL2_3.out.mod Cx19.out (fun h => h)).mod Cx20.out (fun h => h)).mod Cx29.out (by intro h2; omega)).mod Cx37.out (by intro h2; omega)), ((((HKL2_4.out.mod Cx19.out (fun h => h)).mod Cx20.out (fun h => h)).mod Cx29.out (by intro h2; omega)).mod Cx37.out (by intro h2; omega)), ((((HKL2_5.out.mod Cx19.out (fun _ _ h => h) (fun _ _ h => h)).mod Cx20.out (fun _ _ h => h) (fun _ _ h => h)).mod Cx29.out (by intro k h1 h2; omega) (by intro k h1 h2; rcases h1 with h1 | h1 <;> first | omega | (have hb := HBT.out k h1; omega))).mod Cx37.out (by intro k h1 h2; omega) (by intro k h1 h2; rcases h1 with h1 | h1 <;> first | omega | (have hb := HBT.out k h1; omega))), ((((HML2.out.trans Cx19.out (fun _ _ h => h.elim)).trans Cx20.out (fun _ _ h => h.elim)).trans Cx29.out (by intro k h1 h2; omega)).trans Cx37.out (by intro k h1 h2; omega))⟩
          case measure => simp [intOf]; omega
        · skip
          obtain ⟨bA2, hbA2⟩ : ∃ b : Bool, b = decide (((k2 : Nat) : Int) < (x.os.length : Int)) := ⟨_, rfl⟩
          obtain ⟨bB2, hbB2⟩ : ∃ b : Bool, b = decide (((k2 : Nat) : Int) < 4) := ⟨_, rfl⟩
          go_upto_region 8 with (fail)
          generalize ha0 : Act.mk _ _ = a0
          have oe1 : a0.eval (.tmp 1) = .pointer (some ⟨w.heap.size, 0, none⟩) := by rw [← ha0]; rfl
          have oe6 : a0.eval (.tmp 6) = .int .i64 ((k2 : Nat) : Int) := by rw [← ha0]; rfl
          have hsz0 : a0.tmps.size = 86 := by rw [← ha0]; rfl
          have HA0 := hid ha0
          clear ha0
          refine wp_region_Q0 86 hsz0 [31, 32, 33, 34, 35, 36, 37, 38, 39] [qi (.int .i64 ((k2 : Nat) : Int)), qi (.pointer (some ⟨w.heap.size, 3, none⟩)), qi (.slice ao_os x.os.length cap_os), qi (.int .i64 x.os.length), qi (.bool bA2), qi (.bool bA2), qc bA2 (qi (.int .i64 ((k2 : Nat) : Int))), qc bA2 (qi (.bool bB2)), qi (.bool (bA2 && bB2))] ⟨qi_stable, qi_stable, qi_stable, qi_stable, qi_stable, qi_stable, (qc_stable qi_stable), (qc_stable qi_stable), qi_stable, trivial⟩ [] ⟨?_, ?_, ?_, ?_, ?_, ?_, ?_, ?_, ?_, trivial⟩ ?_
          · exact stq (fun E => ex_move rfl (E.v oe6))
          · exact stq (fun E => ex_field rfl Try.underlying60 rfl (by kernel_rfl) (E.v oe1))
          · exact stq (fun E => ex_load1 rfl Try.underlying57 rfl (E.d 1) (Cs.lit1 (HKL2_3.out.mod E.m.old (by intro h2; omega)) rfl))
          · exact stq (fun E => ex_lenS rfl (E.d 2) Try.underlying57)
          · exact stq (fun E => ex_binE rfl (E.d 0) (E.d 3) (guard_ints _ _ _ _ _ _) (run_lss_i _ _ _ Try.underlying3) (congrArg Value.bool hbA2.symm))
          · exact stq (fun E => ex_move rfl (E.d 4))
          · refine stepq_env rfl rfl rfl fun _ _ _ _ _ _ _ hout hsz hd _ _ => ?_
            have h5 := hd ⟨5, .guard⟩ (by simp) rfl _ rfl
            refine qe_guard rfl (b := bA2) ((wanted_of rfl rfl (hsz 36 (by decide)) h5).trans (by simp)) rfl (fun hb l' hl' => ?_)
            refine qe_run rfl ((wanted_of rfl rfl (hsz 36 (by decide)) h5).trans (by first | exact hb | simpa using hb)) (ex_move rfl ((hout 6 (by decide)).trans oe6)) QE.refl ?_
            rw [hl']; rfl
          · refine stepq_env rfl rfl rfl fun _ _ _ _ _ _ _ _ hsz hd _ _ => ?_
            have h5 := hd ⟨5, .guard⟩ (by simp) rfl _ rfl
            have h6 := hd ⟨6, .data⟩ (by simp) rfl _ rfl
            refine qe_guard rfl (b := bA2) ((wanted_of rfl rfl (hsz 36 (by decide)) h5).trans (by simp)) rfl (fun hb l' hl' => ?_)
            refine qe_run rfl ((wanted_of rfl rfl (hsz 36 (by decide)) h5).trans (by first | exact hb | simpa using hb)) (ex_binE rfl (h6.1 hb) rfl (guard_ints _ _ _ _ _ _) (run_lss_i _ _ _ Try.underlying3) (congrArg Value.bool hbB2.symm)) QE.refl ?_
            rw [hl']; rfl
          · exact stq (fun E => ex_pickE rfl (E.d 5) rfl rfl (and_val fun hb => (E.d 7).1 hb))
          intro u8_0 hr
          have zu8_0 := hr.size
          have Cx38 := hid (hr.new (S := (fun _ => False)))
          clear hr
          refine QChain.nil fun vs hl hzz hrows hne => ?_
          obtain ⟨Z, hYZ, hZb, hV⟩ := hzz
          have f0 := fvi hV hl 0
          have f3 := fvi hV hl 3
          have f5 := fvi hV hl 5
          have f8 := fvi hV hl 8
          rw [show vs = [gw vs 0, gw vs 1, gw vs 2, gw vs 3, gw vs 4, gw vs 5, gw vs 6, gw vs 7, gw vs 8] from (gw_eta hl).trans rfl]
          have ha0 := HA0.out
          subst ha0
          clear HA0 hV hYZ hZb hsz0 hrows hne oe1 oe6
          simp only [putAll, Act.put, List.setIfInBounds_toArray, List.set_cons_zero, List.set_cons_succ, f0, f3, f5, f8]
          clear hl f0 f3 f5 f8
          rw [show (bA2 && bB2) = false by rw [hbA2, hbB2, Bool.and_eq_false_iff, decide_eq_false_iff_not, decide_eq_false_iff_not]; omega]
          have HTK2 := hid (show x.os.take k2 = x.os.take 4 from take_two (by omega) (by omega))
          go_wp2
          go_loopw [8, 9] (fun ta ti wr => ∃ k : Nat, ti = .int .i64 (k : Int) ∧ k ≤ x.ts.length ∧ k ≤ 4 ∧ u8_0.heap.size ≤ wr.heap.size ∧ OwS TbR 90 (fun b => u8_0.heap.size ≤ b ∧ b < wr.heap.size) (fun b => R2 b ∨ (u8_0.heap.size ≤ b ∧ b < wr.heap.size)) wr ta ((x.ts.take k).map cutTb) ∧ RdS PmR R2 wr (.slice ao_ps x.ps.length cap_ps) x.ps ∧ RdS OpR R2 wr (.slice ao_os x.os.length cap_os) x.os ∧ RdS TbR R2 wr (.slice ao_ts x.ts.length cap_ts) x.ts ∧ Cs wr (w.heap.size) (x.cells (.slice ao_ps x.ps.length cap_ps) (.slice ao_os x.os.length cap_os) (.slice ao_ts x.ts.length cap_ts) : List Value).toArray 60 ∧ Cs wr (w.heap.size + 1) #[.int .i64 0, .int .u64 0, .slice none 0 0, .slice none 0 0, .slice none 0 0] 60 ∧ OwS PmR 55 (fun b => w1.heap.size ≤ b ∧ b < wl1.heap.size) (fun b => R2 b ∨ (w1.heap.size ≤ b ∧ b < wl1.heap.size)) wr (.slice aol1 ((x.ps.take k1).map cutPm).length capl1) ((x.ps.take k1).map cutPm) ∧ OwS OpR 87 (fun b => u3_0.heap.size ≤ b ∧ b < wl2.heap.size) (fun b => R2 b ∨ (u3_0.heap.size ≤ b ∧ b < wl2.heap.size)) wr (.slice aol2 ((x.os.take k2).map cutOp).length capl2) ((x.os.take k2).map cutOp) ∧ Mod (fun _ => False) w wr) (fun _ ti _ => x.ts.length - (intOf ti).toNat)
          case atStart => exact ⟨0, rfl, Nat.zero_le _, Nat.zero_le _, Nat.le_refl _, OwS.nil _ _ _ _ _, (HKL2_0.out.mod Cx38.out (fun _ _ h => h)), (HKL2_1.out.mod Cx38.out (fun _ _ h => h)), (HKL2_2.out.mod Cx38.out (fun _ _ h => h)), (HKL2_3.out.mod Cx38.out (fun h => h)), (HKL2_4.out.mod Cx38.out (fun h => h)), (HKL2_5.out.mod Cx38.out (fun _ _ h => h) (fun _ _ h => h)), (HAL2.out.mod Cx38.out (fun _ _ h => h) (fun _ _ h => h)), (HML2.out.trans Cx38.out (fun _ _ h => h.elim))⟩
          case round =>
            obtain ⟨k3, rfl, hk, hkN, hz, ha, hk_0, hk_1, hk_2, hk_3, hk_4, hk_5, hk_6, hm⟩ := hrel
            obtain ⟨wl3, rfl⟩ : ∃ x, x = wr := ⟨_, rfl⟩
            obtain ⟨aol3, capl3, rfl⟩ := ha.shape
            have HAL3 := Lib.hid ha
            have HKL3_0 := Lib.hid hk_0
            have HKL3_1 := Lib.hid hk_1
            have HKL3_2 := Lib.hid hk_2
            have HKL3_3 := Lib.hid hk_3
            have HKL3_4 := Lib.hid hk_4
            have HKL3_5 := Lib.hid hk_5
            have HKL3_6 := Lib.hid hk_6
            have HML3 := Lib.hid hm
            clear ha hm hk_0 hk_1 hk_2 hk_3 hk_4 hk_5 hk_6 HKL2_0 HKL2_1 HKL2_2 HKL2_3 HKL2_4 HKL2_5 HML2 HAL2
            by_cases hlt3 : k3 < x.ts.length ∧ k3 < 4
            · obtain ⟨hlt3, hlN3⟩ := hlt3
              go_upto_region 15 with (fail)
              generalize ha0 : Act.mk _ _ = a0
              have oe1 : a0.eval (.tmp 1) = .pointer (some ⟨w.heap.size, 0, none⟩) := by rw [← ha0]; rfl
              have oe9 : a0.eval (.tmp 9) = .int .i64 ((k3 : Nat) : Int) := by rw [← ha0]; rfl
              have hsz0 : a0.tmps.size = 86 := by rw [← ha0]; rfl
              have HA0 := hid ha0
              clear ha0
              refine wp_region_Q0 86 hsz0 [55, 56, 57, 58, 59, 60, 61, 62, 63] [qi (.int .i64 ((k3 : Nat) : Int)), qi (.pointer (some ⟨w.heap.size, 4, none⟩)), qi (.slice ao_ts x.ts.length cap_ts), qi (.int .i64 x.ts.length), qi (.bool true), qi (.bool true), qi (.int .i64 ((k3 : Nat) : Int)), qi (.bool true), qi (.bool true)] ⟨qi_stable, qi_stable, qi_stable, qi_stable, qi_stable, qi_stable, qi_stable, qi_stable, qi_stable, trivial⟩ [] ⟨?_, ?_, ?_, ?_, ?_, ?_, ?_, ?_, ?_, trivial⟩ ?_
              · exact stq (fun E => ex_move rfl (E.v oe9))
              · exact stq (fun E => ex_field rfl Try.underlying60 rfl (by kernel_rfl) (E.v oe1))
              · exact stq (fun E => ex_load1 rfl Try.underlying58 rfl (E.d 1) (Cs.lit1 (HKL3_3.out.mod E.m.old (by intro h2; omega)) rfl))
              · exact stq (fun E => ex_lenS rfl (E.d 2) Try.underlying58)
              · exact stq (fun E => ex_binE rfl (E.d 0) (E.d 3) (guard_ints _ _ _ _ _ _) (run_lss_i _ _ _ Try.underlying3) (congrArg Value.bool (decide_eq_true (by omega))))
              · exact stq (fun E => ex_move rfl (E.d 4))
              · refine stepq_env rfl rfl rfl fun _ _ _ _ _ _ _ hout hsz hd _ _ => ?_
                have h5 := hd ⟨5, .guard⟩ (by simp) rfl _ rfl
                refine qe_run rfl ((wanted_of rfl rfl (hsz 60 (by decide)) h5).trans rfl) (ex_move rfl ((hout 9 (by decide)).trans oe9)) QE.refl ?_
                rfl
              · refine stepq_env rfl rfl rfl fun _ _ _ _ _ _ _ _ hsz hd _ _ => ?_
                have h5 := hd ⟨5, .guard⟩ (by simp) rfl _ rfl
                have h6 := hd ⟨6, .data⟩ (by simp) rfl _ rfl
                refine qe_run rfl ((wanted_of rfl rfl (hsz 60 (by decide)) h5).trans rfl) (ex_binE rfl h6 rfl (guard_ints _ _ _ _ _ _) (run_lss_i _ _ _ Try.underlying3) (congrArg Value.bool (decide_eq_true (by omega)))) QE.refl ?_
                rfl
              · exact stq (fun E => ex_pick rfl (E.d 5) (E.d 7) rfl)
              intro u15_0 hr
              have zu15_0 := hr.size
              have Cx39 := hid (hr.new (S := (fun _ => False)))
              clear hr
              refine QChain.nil fun vs hl hzz hrows hne => ?_
              obtain ⟨Z, hYZ, hZb, hV⟩ := hzz
              have f0 := fvi hV hl 0
              have f3 := fvi hV hl 3
              have f5 := fvi hV hl 5
              have f6 := fvi hV hl 6
              have f8 := fvi hV hl 8
              rw [show vs = [gw vs 0, gw vs 1, gw vs 2, gw vs 3, gw vs 4, gw vs 5, gw vs 6, gw vs 7, gw vs 8] from (gw_eta hl).trans rfl]
              have ha0 := HA0.out
              subst ha0
              clear HA0 hV hYZ hZb hsz0 hrows hne oe1 oe9
              simp only [putAll, Act.put, List.setIfInBounds_toArray, List.set_cons_zero, List.set_cons_succ, f0, f3, f5, f6, f8]
              clear hl f0 f3 f5 f6 f8
              have hat := (HKL3_2.out.mod Cx39.out (fun _ _ h => h)).at hlt3
              obtain ⟨g3, o3, cs3, eao, hrg, hrd, hcs⟩ := hat
              subst eao
              have hcl : cs3.length = 2 := TbR.len hrd
              have HCL3 := Lib.hid hcl
              have HAT3 := hid (show CellsAt R2 u15_0 g3 (o3 + k3 * 2) cs3 from ⟨hrg, hcs⟩)
              have HRD3 := Lib.hid hrd
              have HOC3 := hid (TbR.one hrd)
              clear hcl hcs hrd hrg
              have HE3 : Hid (((x.ts.take k3).map cutTb) ++ [cutTb x.ts[k3]] = (x.ts.take (k3 + 1)).map cutTb) := hid (by rw [List.take_succ_eq_append_getElem hlt3, List.map_append]; rfl)
              have HLN3 : Hid (((x.ts.take k3).map cutTb).length = k3) := hid (by rw [List.length_map, List.length_take]; omega)
              obtain ⟨y3, hy3⟩ : ∃ y, y = x.ts[k3] := ⟨_, rfl⟩
              rw [← hy3] at HRD3 HE3
              clear hy3
              obtain ⟨v_e, rfl, hoke, hse⟩ := HRD3.out
              obtain ⟨aoe3, cape3, rfl⟩ := hse.shape
              have HOK3 := Lib.hid hoke
              have HSE3 := Lib.hid hse
              clear hoke hse HRD3
              go_upto_region 17 with (fail)
              generalize ha0 : Act.mk _ _ = a0
              have oe1 : a0.eval (.tmp 1) = .pointer (some ⟨w.heap.size, 0, none⟩) := by rw [← ha0]; rfl
              have oe9 : a0.eval (.tmp 9) = .int .i64 ((k3 : Nat) : Int) := by rw [← ha0]; rfl
              have hsz0 : a0.tmps.size = 86 := by rw [← ha0]; rfl
              have HA0 := hid ha0
              clear ha0
              refine wp_region_Q 86 hsz0 (by kernel_rfl) (by kernel_rfl) [66, 67, 68, 69, 70, 10, 92] (by kernel_rfl) (by decide) (fun _ => False) (fun _ _ => False) (fun _ _ h => h) [qi (.pointer (some ⟨w.heap.size, 4, none⟩)), qi (.slice (some ⟨g3, o3, none⟩) x.ts.length cap_ts), qi (.int .i64 ((k3 : Nat) : Int)), qi (.pointer (some ⟨g3, o3 + k3 * 2, none⟩)), qi (.agg (y3.cells (.slice aoe3 y3.l.length cape3)).toArray), qa, qa] ⟨qi_stable, qi_stable, qi_stable, qi_stable, qi_stable, qa_stable, qa_stable, trivial⟩ [] (by kernel_rfl) (by decide) (by kernel_rfl) [⟨5, 6, 90, [.int .i64 0, .slice none 0 0], 0, (fun t => (y3.cells (.slice aoe3 y3.l.length cape3)))⟩] (by kernel_rfl) (by intro r hr; simp only [List.mem_cons, List.not_mem_nil, or_false] at hr; rcases hr with rfl <;> exact ⟨by kernel_rfl, by kernel_rfl⟩) (by intro r hr; simp only [List.mem_cons, List.not_mem_nil, or_false] at hr; rcases hr with rfl <;> exact ⟨of_decide_eq_true (by kernel_rfl), of_decide_eq_true (by kernel_rfl)⟩) (by intro r hr; simp only [List.mem_cons, List.not_mem_nil, or_false] at hr; rcases hr with rfl <;> exact fun _ _ _ _ => ⟨trivial, trivial⟩) ⟨?_, ?_, ?_, ?_, ?_, ?_, ?_, trivial⟩ ?_
              · exact stq (fun E => ex_field rfl Try.underlying60 rfl (by kernel_rfl) (E.v oe1))
              · exact stq (fun E => ex_load1 rfl Try.underlying58 rfl (E.d 0) (Cs.lit1 ((HKL3_3.out.mod Cx39.out (fun h => h)).mod E.m.old (by intro h2; omega)) rfl))
              · exact stq (fun E => ex_move rfl (E.v oe9))
              · exact stq (fun E => ex_idxS (i := k3) (s := 2) rfl Try.underlying58 (by kernel_rfl) (E.d 1) (E.d 2) hlt3)
              · exact stq (fun E => ex_loadA rfl Try.underlying90 rfl (off := o3 + k3 * 2) (cs := (y3.cells (.slice aoe3 y3.l.length cape3))) (by rw [HCL3.out]; kernel_rfl) (E.d 3) (fun j u hu => ((HAT3.out.mod E.m.old (by intro k h1 h2; have hb := HBT.out k h1; omega))).2 j u hu))
              · exact stepq_make rfl rfl ⟨rfl, rfl, by kernel_rfl, by kernel_rfl⟩
              · refine stepq_write rfl rfl rfl ⟨rfl, 10, (.tmp 70), rfl, by decide, rfl, by kernel_rfl, fun Z tr act w' hm hout hsz hd hpre => ?_⟩
                have h4 := hd ⟨4, .data⟩ (by simp) rfl _ rfl
                exact ⟨Nat.zero_le _, (by rw [show act.eval ((.tmp 70)) = _ from h4]; rfl), (by rw [HCL3.out]; rfl), HOC3.out⟩
              intro u17_0 hr
              have zu17_0 := hr.size
              have Cx40 := hid (hr.new (S := (fun _ => False)))
              clear hr
              refine QChain.nil fun vs hl hzz hrows hne => ?_
              obtain ⟨Z, hYZ, hZb, hV⟩ := hzz
              obtain ⟨q3, g5, hBq3, hYq3, hCq3⟩ := hrows _ (by simp only [List.mem_cons, List.not_mem_nil, or_false]; trivial)
              have f5 : gw vs 5 = _ := getv g5
              (try dsimp only at hBq3 hYq3); (try simp only [false_or] at hBq3 hYq3)
              have zqq3 := hCq3.lt
              have Hx41 := hid (show Cs u17_0 q3 ((y3.cells (.slice aoe3 y3.l.length cape3)) : List Value).toArray 90 from hCq3)
              have f2 := fvi hV hl 2
              rw [show vs = [gw vs 0, gw vs 1, gw vs 2, gw vs 3, gw vs 4, gw vs 5, gw vs 6] from (gw_eta hl).trans rfl]
              have ha0 := HA0.out
              subst ha0
              clear HA0 hV hYZ hZb hsz0 hrows hne oe1 oe9 hCq3 g5
              simp only [putAll, Act.put, List.setIfInBounds_toArray, List.set_cons_zero, List.set_cons_succ, List.set_nil, f5, f2]
              clear hl f5 f2
              go_upto_region 18 with (fail)
              generalize ha0 : Act.mk _ _ = a0
              have oe10 : a0.eval (.tmp 10) = .pointer (some ⟨q3, 0, none⟩) := by rw [← ha0]; rfl
              have hsz0 : a0.tmps.size = 86 := by rw [← ha0]; rfl
              have HA0 := hid ha0
              clear ha0
              refine wp_region_Q1 86 hsz0 [71, 72, 73, 74, 90] (fun k => (k = q3)) (fun k j => (k = 1 ∧ ((j = q3)))) (fun _ _ h => h.2) [qi (.pointer (some ⟨q3, 1, none⟩)), qi (.slice aoe3 y3.l.length cape3), qv 0, qi (.pointer (some ⟨q3, 1, none⟩)), qv 1] ⟨qi_stable, qi_stable, qv_stable, qi_stable, qv_stable, trivial⟩ [2, 4] ⟨?_, ?_, ?_, ?_, ?_, trivial⟩ ?_
              · exact stq (fun E => ex_field rfl Try.underlying90 rfl (by kernel_rfl) (E.v oe10))
              · refine stepq_env rfl rfl rfl fun _ _ _ _ _ _ hm0 _ _ hd hub _ => ?_
                have h0 := hd ⟨0, .data⟩ (by simp) rfl _ rfl
                refine qe_run rfl (wanted_none rfl) (ex_load1 rfl Try.underlying88 rfl h0 (Cs.lit1 (Hx41.out.mod hm0 (by intro h2; have hu := hub 1 4 rfl (by kernel_rfl); rcases h2 with ⟨h0, kk, hk, h2⟩ | h2 <;> omega)) rfl)) QE.refl ?_
                rfl
              · exact stepq_chain rfl
              · exact stq (fun E => ex_field rfl Try.underlying90 rfl (by kernel_rfl) (E.v oe10))
              · exact stepq_chain rfl
              intro u18_0 hr
              have zu18_0 := hr.size
              have Cx42 := hid (hr.new (S := (fun k => (k = q3))))
              have Hx43 := hid (Hx41.out.mod hr (by intro h2; omega))
              clear Hx41
              clear hr
              refine QChain.go fun Z act E => ?_
              refine qc_callF (args := #[.slice aoe3 y3.l.length cape3, .int .i64 5]) rfl (wanted_none rfl) rfl Try.func78 (args2 (E.d 1) rfl) (Cut_Dn _ _ y3.l 5 _ ((HSE3.out.mod Cx40.out (fun _ _ h => h)).mod Cx42.out (by intro k h1 h2; have hb := HBT.out k h1; omega)) (by intro k h1; have hb := HBT.out k h1; omega) (by omega)) ?_
              rintro e u18_1a ⟨v', rfl, qpc, hm⟩
              obtain ⟨aop3, capp3, rfl⟩ := qpc.shape
              have zu18_1a := hm.size
              refine ⟨_, rfl, hm.mono (fun _ _ h => h.elim), (fun _ => rfl), ?_⟩
              intro u18_1 hr
              have zu18_1 := hr.size
              have Hx44 := hid ((qpc.widen (R' := (fun k => (New u18_0 u18_1a k))) (E' := (fun k => (R2 k))) (fun _ h => h) (fun _ h => h)).mod hr (by intro k h1 h2; omega) (by intro k h1 h2; have hb := HBT.out k h1; omega))
              have hmr := Mod.after hm hr
              have Hx45 := hid (Hx43.out.mod hmr (by intro h2; omega))
              clear Hx43
              clear hmr
              have Cx46 := hid (Cx42.out.go hm hr)
              clear Cx42 hm hr Z act E qpc
              refine QChain.go fun Z act E => ?_
              refine qc_store rfl (wanted_none rfl) rfl Hx45.out (off := 1) (vs := [Value.slice aop3 (y3.l.take 5).length capp3]) (by kernel_rfl) (by intro u hu; simp at hu; subst hu; rfl) (by show 1 + 1 ≤ 2; decide) (E.d 3) (by rw [show act.eval ((.tmp 73)) = _ from (chv (v := .slice aop3 (y3.l.take 5).length capp3) (E.d 2))]; rfl) ?_
              intro u18_2a qc0 hm
              have qq3 : Cs u18_2a (q3) (((cutTb y3).cells (Value.slice aop3 (y3.l.take 5).length capp3)) : List Value).toArray 90 := by rw [show lay _ 1 _ = (((cutTb y3).cells (Value.slice aop3 (y3.l.take 5).length capp3)) : List Value).toArray from lay_tl y3 (cutTb y3) _ _ rfl] at qc0; exact qc0
              clear qc0
              have zu18_2a := hm.size
              refine ⟨hm.mono (by intro k hk h; omega), (fun _ => rfl), ?_⟩
              intro u18_2 hr
              have zu18_2 := hr.size
              have Hx47 := hid (qq3.mod hr (by intro h2; omega))
              have hmr := hm.two hr
              have Hx48 := hid (Hx44.out.mod hmr (by intro k h1 h2; omega) (by intro k h1 h2; have hb := HBT.out k h1; omega))
              clear Hx44
              clear hmr
              have Cx49 := hid (Cx46.out.goM hm hr (fun _ _ h => h))
              clear Cx46 hm hr Z act E qq3 Hx45
              refine QChain.nil fun vs hl hzz hrows hne => ?_
              obtain ⟨Z, hYZ, hZb, hV⟩ := hzz
              have f2 := fvc hV hl 2
              rw [show vs = [gw vs 0, gw vs 1, gw vs 2, gw vs 3, gw vs 4] from (gw_eta hl).trans rfl]
              have ha0 := HA0.out
              subst ha0
              clear HA0 hV hYZ hZb hsz0 hrows hne oe10
              simp only [putAll, Act.put, List.setIfInBounds_toArray, List.set_cons_zero, List.set_cons_succ, List.set_nil, f2]
              clear hl f2
              have HEL3 := hid (show TbR.rd (fun k => (New u18_0 u18_1a k) ∨ (R2 k)) u18_2 ((cutTb y3).cells (Value.slice aop3 (y3.l.take 5).length capp3)) (cutTb y3) from ⟨_, rfl, HOK3.out, Hx48.out.rd.widen (by intro k h1; rcases h1 with h1 | h1 <;> first | omega | exact h1.elim | exact Or.inl h1 | exact Or.inr (h1))⟩)
              go_upto_region 19 with (fail)
              generalize ha0 : Act.mk _ _ = a0
              have oe8 : a0.eval (.tmp 8) = .slice aol3 ((x.ts.take k3).map cutTb).length capl3 := by rw [← ha0]; rfl
              have oe10 : a0.eval (.tmp 10) = .pointer (some ⟨q3, 0, none⟩) := by rw [← ha0]; rfl
              have hsz0 : a0.tmps.size = 86 := by rw [← ha0]; rfl
              have HA0 := hid ha0
              clear ha0
              refine wp_region_Q1 86 hsz0 [75, 76, 77, 78, 8] (fun k => (New u8_0 wl3 k)) (fun k j => (k = 1 ∧ ((New u8_0 wl3 j)))) (fun _ _ h => h.2) [qi (.slice aol3 ((x.ts.take k3).map cutTb).length capl3), qi (.agg ((cutTb y3).cells (Value.slice aop3 (y3.l.take 5).length capp3)).toArray), qv 0, qv 1, qv 1] ⟨qi_stable, qi_stable, qv_stable, qv_stable, qv_stable, trivial⟩ [2, 3] ⟨?_, ?_, ?_, ?_, ?_, trivial⟩ ?_
              · exact stq (fun E => ex_move rfl ((E.pre 4 8 rfl (by kernel_rfl)).trans oe8))
              · exact stq (fun E => ex_loadA rfl Try.underlying90 rfl (off := 0) (cs := ((cutTb y3).cells (Value.slice aop3 (y3.l.take 5).length capp3))) (by kernel_rfl) (E.v oe10) (Cs.whole (Hx47.out.mod E.m (by intro h2; omega))))
              · exact stepq_chain rfl
              · exact stepq_chain rfl
              · refine stepq_env rfl rfl rfl fun _ _ _ _ _ _ _ _ _ hd _ _ => ?_
                have h3 := hd ⟨3, .data⟩ (by simp) rfl _ rfl
                exact qe_run rfl (wanted_none rfl) (ex_assign rfl rfl) QE.refl h3
              intro u19_0 hr
              have zu19_0 := hr.size
              have Cx50 := hid (hr.new (S := (fun k => (New u8_0 wl3 k))))
              have Hx51 := hid ((((HAL3.out.mod Cx39.out (fun _ _ h => h) (fun _ _ h => h)).mod Cx40.out (fun _ _ h => h) (fun _ _ h => h)).mod Cx49.out (by intro k h1 h2; omega) (by intro k h1 h2; rcases h1 with h1 | h1 <;> first | omega | (have hb := HBT.out k h1; omega))).mod hr (by intro k h1 h2; omega) (by intro k h1 h2; rcases h1 with h1 | h1 <;> first | omega | (have hb := HBT.out k h1; omega)))
              clear HAL3
              clear hr
              refine QChain.go fun Z act E => ?_
              refine qc_buildS (e := 90) (cs := ((cutTb y3).cells (Value.slice aop3 (y3.l.take 5).length capp3))) (zc := [.int .i64 0, .slice none 0 0]) (sz := 2) rfl (wanted_none rfl) rfl Try.underlying58 (by kernel_rfl) rfl (by decide) (by decide) (E.d 1) (TbR.len (HEL3.out.mod Cx50.out (by intro k h1 h2; rcases h1 with h1 | h1 <;> first | omega | (have hb := HBT.out k h1; omega)))) ?_
              intro u19_1a qrow hm
              have zl19_2 := qrow.lt
              have zu19_1a := hm.size
              refine ⟨hm.mono (fun _ _ h => h.elim), (fun _ => rfl), ?_⟩
              intro u19_1 hr
              have zu19_1 := hr.size
              have Hx52 := hid (qrow.mod hr (by intro h2; omega))
              have hmr := Mod.after hm hr
              have Hx53 := hid (Hx51.out.mod hmr (by intro k h1 h2; omega) (by intro k h1 h2; rcases h1 with h1 | h1 <;> first | omega | (have hb := HBT.out k h1; omega)))
              clear Hx51
              clear hmr
              have Cx54 := hid (Cx50.out.go hm hr)
              clear Cx50 hm hr Z act E qrow
              refine QChain.go fun Z act E => ?_
              refine qc_appS (A := TbR) (e := 90) rfl (wanted_none rfl) rfl (.agg #[.int .i64 0, .slice none 0 0]) 32 Try.underlying58 info_Tb (by rfl) (of_decide_eq_true (by kernel_rfl)) (E.d 0) (chv (v := .slice (some ⟨u19_0.heap.size, 0, none⟩) 1 1) (E.d 2)) (Hx53.out) (RdS.single (R := (fun k => (New u18_0 u18_1a k) ∨ (R2 k) ∨ (k = u19_0.heap.size))) Hx52.out ((HEL3.out.mod Cx54.out (by intro k h1 h2; rcases h1 with h1 | h1 <;> first | omega | (have hb := HBT.out k h1; omega))).widen (by intro k h1; rcases h1 with h1 | h1 <;> first | omega | exact h1.elim | exact Or.inl h1 | exact Or.inr (Or.inl h1) | exact Or.inr (Or.inr (h1)))) (by first | exact Or.inr rfl | exact Or.inr (Or.inr rfl) | (right; omega))) (by intro k h1 h2; rcases h1 with h1 | h1 | h1 <;> first | omega | (have hb := HBT.out k h1; omega)) (by rw [HLN3.out]; simp only [List.length_cons, List.length_nil]; omega) (by rw [HLN3.out, maxLen_val]; simp only [List.length_cons, List.length_nil]; omega) ?_
              intro ao16 cap16 u19_2a qacc3 hm
              have zu19_2a := hm.size
              refine ⟨hm.mono (by intro k hk h; omega), (fun _ => rfl), ?_⟩
              intro u19_2 hr
              have zu19_2 := hr.size
              have Hx55 := hid ((qacc3.widen (R' := (fun k => (New u8_0 wl3 k) ∨ (New u19_1 u19_2a k))) (E' := (fun k => (R2 k) ∨ (New u8_0 wl3 k) ∨ (New u18_0 u18_1a k) ∨ (k = u19_0.heap.size))) (fun _ h => h) (by intro k h1; rcases h1 with (h1 | h1) | (h1 | h1 | h1) <;> first | omega | exact h1.elim | exact Or.inl h1 | exact Or.inr (Or.inl h1) | exact Or.inr (Or.inr (Or.inl h1)) | exact Or.inr (Or.inr (Or.inr (h1))))).mod hr (by intro k h1 h2; omega) (by intro k h1 h2; rcases h1 with h1 | h1 | h1 | h1 <;> first | omega | (have hb := HBT.out k h1; omega)))
              have hmr := hm.two hr
              have Hx56 := hid (Hx52.out.mod hmr (by intro h2; omega))
              clear Hx52
              clear hmr
              have Cx57 := hid (Cx54.out.goM hm hr (fun _ _ h => h))
              clear Cx54 hm hr Z act E qacc3 Hx53
              refine QChain.nil fun vs hl hzz hrows hne => ?_
              obtain ⟨Z, hYZ, hZb, hV⟩ := hzz
              have f0 := fvi hV hl 0
              have f2 := fvc hV hl 2
              have f3 := fvc hV hl 3
              have f4 := fvc hV hl 4
              rw [show vs = [gw vs 0, gw vs 1, gw vs 2, gw vs 3, gw vs 4] from (gw_eta hl).trans rfl]
              have ha0 := HA0.out
              subst ha0
              clear HA0 hV hYZ hZb hsz0 hrows hne oe8 oe10
              simp only [putAll, Act.put, List.setIfInBounds_toArray, List.set_cons_zero, List.set_cons_succ, f0, f2, f3, f4]
              clear hl f0 f2 f3 f4
              have hq := Hx55.out
              rw [HE3.out] at hq
              have HQ3 := Lib.hid hq
              clear hq
              go_wp2
              go_roundw
              case rel => exact ⟨k3 + 1, by go_num, by omega, by omega, by omega, (HQ3.out.widen (by intro b h1; omega) (by intro k h1; rcases h1 with h1 | h1 | h1 | h1 <;> first | omega | exact h1.elim | exact Or.inl h1 | exact Or.inr (h1))), ((((HKL3_0.out.mod Cx39.out (fun _ _ h => h)).mod Cx40.out (fun _ _ h => h)).mod Cx49.out (by intro k h1 h2; have hb := HBT.out k h1; omega)).mod Cx57.out (by intro k h1 h2; have hb := HBT.out k h1; omega)), ((((HKL3_1.out.mod Cx39.out (fun _ _ h => h)).mod Cx40.out (fun _ _ h => h)).mod Cx49.out (by intro k h1 h2; have hb := HBT.out k h1; omega)).mod Cx57.out (by intro k h1 h2; have hb := HBT.out k h1; omega)), ((((HKL3_2.out.mod Cx39.out (fun _ _ h => h)).mod Cx40.out (fun _ _ h => h)).mod Cx49.out (by intro k h1 h2; have hb := HBT.out k h1; omega)).mod Cx57.out (by intro k h1 h2; have hb := HBT.out k h1; omega)), ((((HKL3_3.out.mod Cx39.out (fun h => h)).mod Cx40.out (fun h => h)).mod Cx49.out (by intro h2; omega)).mod Cx57.out (by intro h2; omega)), ((((HKL3_4.out.mod Cx39.out (fun h => h)).mod Cx40.out (fun h => h)).mod Cx49.out (by intro h2; omega)).mod Cx57.out (by intro h2; omega)), ((((HKL3_5.out.mod Cx39.out (fun _ _ h => h) (fun _ _ h => h)).mod Cx40.out (fun _ _ h => h) (fun _ _ h => h)).mod Cx49.out (by intro k h1 h2; omega) (by intro k h1 h2; rcases h1 with h1 | h1 <;> first | omega | (have hb := HBT.out k h1; omega))).mod Cx57.out (by intro k h1 h2; omega) (by intro k h1 h2; rcases h1 with h1 | h1 <;> first | omega | (have hb := HBT.out k h1; omega))), ((((HKL3_6.out.mod Cx39.out (fun _ _ h => h) (fun _ _ h => h)).mod Cx40.out (fun _ _ h => h) (fun _ _ h => h)).mod Cx49.out (by intro k h1 h2; omega) (by intro k h1 h2; rcases h1 with h1 | h1 <;> first | omega | (have hb := HBT.out k h1; omega))).mod Cx57.out (by intro k h1 h2; omega) (by intro k h1 h2; rcases h1 with h1 | h1 <;> first | omega | (have hb := HBT.out k h1; omega))), ((((HML3.out.trans Cx39.out (fun _ _ h => h.elim)).trans Cx40.out (fun _ _ h => h.elim)).trans Cx49.out (by intro k h1 h2; omega)).trans Cx57.out (by intro k h1 h2; omega))⟩
              case measure => simp [intOf]; omega
            · skip
              obtain ⟨bA3, hbA3⟩ : ∃ b : Bool, b = decide (((k3 : Nat) : Int) < (x.ts.length : Int)) := ⟨_, rfl⟩
              obtain ⟨bB3, hbB3⟩ : ∃ b : Bool, b = decide (((k3 : Nat) : Int) < 4) := ⟨_, rfl⟩
              go_upto_region 15 with (fail)
              generalize ha0 : Act.mk _ _ = a0
              have oe1 : a0.eval (.tmp 1) = .pointer (some ⟨w.heap.size, 0, none⟩) := by rw [← ha0]; rfl
              have oe9 : a0.eval (.tmp 9) = .int .i64 ((k3 : Nat) : Int) := by rw [← ha0]; rfl
              have hsz0 : a0.tmps.size = 86 := by rw [← ha0]; rfl
              have HA0 := hid ha0
              clear ha0
              refine wp_region_Q0 86 hsz0 [55, 56, 57, 58, 59, 60, 61, 62, 63] [qi (.int .i64 ((k3 : Nat) : Int)), qi (.pointer (some ⟨w.heap.size, 4, none⟩)), qi (.slice ao_ts x.ts.length cap_ts), qi (.int .i64 x.ts.length), qi (.bool bA3), qi (.bool bA3), qc bA3 (qi (.int .i64 ((k3 : Nat) : Int))), qc bA3 (qi (.bool bB3)), qi (.bool (bA3 && bB3))] ⟨qi_stable, qi_stable, qi_stable, qi_stable, qi_stable, qi_stable, (qc_stable qi_stable), (qc_stable qi_stable), qi_stable, trivial⟩ [] ⟨?_, ?_, ?_, ?_, ?_, ?_, ?_, ?_, ?_, trivial⟩ ?_
              · exact stq (fun E => ex_move rfl (E.v oe9))
              · exact stq (fun E => ex_field rfl Try.underlying60 rfl (by kernel_rfl) (E.v oe1))
              · exact stq (fun E => ex_load1 rfl Try.underlying58 rfl (E.d 1) (Cs.lit1 (HKL3_3.out.mod E.m.old (by intro h2; omega)) rfl))
              · exact stq (fun E => ex_lenS rfl (E.d 2) Try.underlying58)
              · exact stq (fun E => ex_binE rfl (E.d 0) (E.d 3) (guard_ints _ _ _ _ _ _) (run_lss_i _ _ _ Try.underlying3) (congrArg Value.bool hbA3.symm))
              · exact stq (fun E => ex_move rfl (E.d 4))
              · refine stepq_env rfl rfl rfl fun _ _ _ _ _ _ _ hout hsz hd _ _ => ?_
                have h5 := hd ⟨5, .guard⟩ (by simp) rfl _ rfl
                refine qe_guard rfl (b := bA3) ((wanted_of rfl rfl (hsz 60 (by decide)) h5).trans (by simp)) rfl (fun hb l' hl' => ?_)
                refine qe_run rfl ((wanted_of rfl rfl (hsz 60 (by decide)) h5).trans (by first | exact hb | simpa using hb)) (ex_move rfl ((hout 9 (by decide)).trans oe9)) QE.refl ?_
                rw [hl']; rfl
              · refine stepq_env rfl rfl rfl fun _ _ _ _ _ _ _ _ hsz hd _ _ => ?_
                have h5 := hd ⟨5, .guard⟩ (by simp) rfl _ rfl
                have h6 := hd ⟨6, .data⟩ (by simp) rfl _ rfl
                refine qe_guard rfl (b := bA3) ((wanted_of rfl rfl (hsz 60 (by decide)) h5).trans (by simp)) rfl (fun hb l' hl' => ?_)
                refine qe_run rfl ((wanted_of rfl rfl (hsz 60 (by decide)) h5).trans (by first | exact hb | simpa using hb)) (ex_binE rfl (h6.1 hb) rfl (guard_ints _ _ _ _ _ _) (run_lss_i _ _ _ Try.underlying3) (congrArg Value.bool hbB3.symm)) QE.refl ?_
                rw [hl']; rfl
              · exact stq (fun E => ex_pickE rfl (E.d 5) rfl rfl (and_val fun hb => (E.d 7).1 hb))
              intro u15_0 hr
              have zu15_0 := hr.size
              have Cx58 := hid (hr.new (S := (fun _ => False)))
              clear hr
              refine QChain.nil fun vs hl hzz hrows hne => ?_
              obtain ⟨Z, hYZ, hZb, hV⟩ := hzz
              have f0 := fvi hV hl 0
              have f3 := fvi hV hl 3
              have f5 := fvi hV hl 5
              have f8 := fvi hV hl 8
              rw [show vs = [gw vs 0, gw vs 1, gw vs 2, gw vs 3, gw vs 4, gw vs 5, gw vs 6, gw vs 7, gw vs 8] from (gw_eta hl).trans rfl]
              have ha0 := HA0.out
              subst ha0
              clear HA0 hV hYZ hZb hsz0 hrows hne oe1 oe9
              simp only [putAll, Act.put, List.setIfInBounds_toArray, List.set_cons_zero, List.set_cons_succ, f0, f3, f5, f8]
              clear hl f0 f3 f5 f8
              rw [show (bA3 && bB3) = false by rw [hbA3, hbB3, Bool.and_eq_false_iff, decide_eq_false_iff_not, decide_eq_false_iff_not]; omega]
              have HTK3 := hid (show x.ts.take k3 = x.ts.take 4 from take_two (by omega) (by omega))
              go_upto_region 20 with (fail)
              generalize ha0 : Act.mk _ _ = a0
              have oe1 : a0.eval (.tmp 1) = .pointer (some ⟨w.heap.size, 0, none⟩) := by rw [← ha0]; rfl
              have oe3 : a0.eval (.tmp 3) = .slice aol1 ((x.ps.take k1).map cutPm).length capl1 := by rw [← ha0]; rfl
              have oe5 : a0.eval (.tmp 5) = .slice aol2 ((x.os.take k2).map cutOp).length capl2 := by rw [← ha0]; rfl
              have oe8 : a0.eval (.tmp 8) = .slice aol3 ((x.ts.take k3).map cutTb).length capl3 := by rw [← ha0]; rfl
              have hsz0 : a0.tmps.size = 86 := by rw [← ha0]; rfl
              have HA0 := hid ha0
              clear ha0
              refine wp_region_Q1 86 hsz0 [79, 80, 81, 82, 90, 83, 92, 84, 94] (fun k => (k = w.heap.size)) (fun k j => (k = 0 ∧ ((j = w.heap.size))) ∨ (k = 1 ∧ ((j = w.heap.size))) ∨ (k = 2 ∧ ((j = w.heap.size)))) (by intro k j h; (try dsimp only at h ⊢); omega) [qi (.slice aol1 ((x.ps.take k1).map cutPm).length capl1), qi (.slice aol2 ((x.os.take k2).map cutOp).length capl2), qi (.slice aol3 ((x.ts.take k3).map cutTb).length capl3), qi (.pointer (some ⟨w.heap.size, 2, none⟩)), qv 0, qi (.pointer (some ⟨w.heap.size, 3, none⟩)), qv 1, qi (.pointer (some ⟨w.heap.size, 4, none⟩)), qv 2] ⟨qi_stable, qi_stable, qi_stable, qi_stable, qv_stable, qi_stable, qv_stable, qi_stable, qv_stable, trivial⟩ [4, 6, 8] ⟨?_, ?_, ?_, ?_, ?_, ?_, ?_, ?_, ?_, trivial⟩ ?_
              · exact stq (fun E => ex_move rfl (E.v oe3))
              · exact stq (fun E => ex_move rfl (E.v oe5))
              · exact stq (fun E => ex_move rfl (E.v oe8))
              · exact stq (fun E => ex_field rfl Try.underlying60 rfl (by kernel_rfl) (E.v oe1))
              · exact stepq_chain rfl
              · exact stq (fun E => ex_field rfl Try.underlying60 rfl (by kernel_rfl) (E.v oe1))
              · exact stepq_chain rfl
              · exact stq (fun E => ex_field rfl Try.underlying60 rfl (by kernel_rfl) (E.v oe1))
              · exact stepq_chain rfl
              intro u20_0 hr
              have zu20_0 := hr.size
              have Cx59 := hid (hr.new (S := (fun k => (k = w.heap.size))))
              have Hx60 := hid ((HKL3_3.out.mod Cx58.out (fun h => h)).mod hr (by intro h2; omega))
              clear HKL3_3
              clear hr
              refine QChain.go fun Z act E => ?_
              refine qc_store rfl (wanted_none rfl) rfl Hx60.out (off := 2) (vs := [Value.slice aol1 ((x.ps.take k1).map cutPm).length capl1]) (by kernel_rfl) (by intro u hu; simp at hu; subst hu; rfl) (by simp) (E.d 3) (by rw [show act.eval ((.tmp 79)) = _ from (E.d 0)]; rfl) ?_
              intro u20_1a qc0 hm
              have qB1 : Cs u20_1a (w.heap.size) #[.int .i64 x.ep, .int .u64 (x.tm : Nat), Value.slice aol1 ((x.ps.take k1).map cutPm).length capl1, Value.slice ao_os x.os.length cap_os, Value.slice ao_ts x.ts.length cap_ts] 60 := by rw [show lay _ 2 _ = #[.int .i64 x.ep, .int .u64 (x.tm : Nat), Value.slice aol1 ((x.ps.take k1).map cutPm).length capl1, Value.slice ao_os x.os.length cap_os, Value.slice ao_ts x.ts.length cap_ts] from rfl] at qc0; exact qc0
              clear qc0
              have zu20_1a := hm.size
              refine ⟨hm.mono (by intro k hk h; omega), (fun _ => rfl), ?_⟩
              intro u20_1 hr
              have zu20_1 := hr.size
              have Hx61 := hid (qB1.mod hr (by intro h2; omega))
              have Cx62 := hid (Cx59.out.goM hm hr (fun _ _ h => h))
              clear Cx59 hm hr Z act E qB1 Hx60
              refine QChain.go fun Z act E => ?_
              refine qc_store rfl (wanted_none rfl) rfl Hx61.out (off := 3) (vs := [Value.slice aol2 ((x.os.take k2).map cutOp).length capl2]) (by kernel_rfl) (by intro u hu; simp at hu; subst hu; rfl) (by simp) (E.d 5) (by rw [show act.eval ((.tmp 80)) = _ from (E.d 1)]; rfl) ?_
              intro u20_2a qc0 hm
              have qB1 : Cs u20_2a (w.heap.size) #[.int .i64 x.ep, .int .u64 (x.tm : Nat), Value.slice aol1 ((x.ps.take k1).map cutPm).length capl1, Value.slice aol2 ((x.os.take k2).map cutOp).length capl2, Value.slice ao_ts x.ts.length cap_ts] 60 := by rw [show lay _ 3 _ = #[.int .i64 x.ep, .int .u64 (x.tm : Nat), Value.slice aol1 ((x.ps.take k1).map cutPm).length capl1, Value.slice aol2 ((x.os.take k2).map cutOp).length capl2, Value.slice ao_ts x.ts.length cap_ts] from rfl] at qc0; exact qc0
              clear qc0
              have zu20_2a := hm.size
              refine ⟨hm.mono (by intro k hk h; omega), (fun _ => rfl), ?_⟩
              intro u20_2 hr
              have zu20_2 := hr.size
              have Hx63 := hid (qB1.mod hr (by intro h2; omega))
              have Cx64 := hid (Cx62.out.goM hm hr (fun _ _ h => h))
              clear Cx62 hm hr Z act E qB1 Hx61
              refine QChain.go fun Z act E => ?_
              refine qc_store rfl (wanted_none rfl) rfl Hx63.out (off := 4) (vs := [Value.slice aol3 ((x.ts.take k3).map cutTb).length capl3]) (by kernel_rfl) (by intro u hu; simp at hu; subst hu; rfl) (by simp) (E.d 7) (by rw [show act.eval ((.tmp 81)) = _ from (E.d 2)]; rfl) ?_
              intro u20_3a qc0 hm
              have qB1 : Cs u20_3a (w.heap.size) #[.int .i64 x.ep, .int .u64 (x.tm : Nat), Value.slice aol1 ((x.ps.take k1).map cutPm).length capl1, Value.slice aol2 ((x.os.take k2).map cutOp).length capl2, Value.slice aol3 ((x.ts.take k3).map cutTb).length capl3] 60 := by rw [show lay _ 4 _ = #[.int .i64 x.ep, .int .u64 (x.tm : Nat), Value.slice aol1 ((x.ps.take k1).map cutPm).length capl1, Value.slice aol2 ((x.os.take k2).map cutOp).length capl2, Value.slice aol3 ((x.ts.take k3).map cutTb).length capl3] from rfl] at qc0; exact qc0
              clear qc0
              have zu20_3a := hm.size
              refine ⟨hm.mono (by intro k hk h; omega), (fun _ => rfl), ?_⟩
              intro u20_3 hr
              have zu20_3 := hr.size
              have Hx65 := hid (qB1.mod hr (by intro h2; omega))
              have Cx66 := hid (Cx64.out.goM hm hr (fun _ _ h => h))
              clear Cx64 hm hr Z act E qB1 Hx63
              refine QChain.nil fun vs hl hzz hrows hne => ?_
              obtain ⟨Z, hYZ, hZb, hV⟩ := hzz
              have f0 := fvi hV hl 0
              have f1 := fvi hV hl 1
              have f2 := fvi hV hl 2
              rw [show vs = [gw vs 0, gw vs 1, gw vs 2, gw vs 3, gw vs 4, gw vs 5, gw vs 6, gw vs 7, gw vs 8] from (gw_eta hl).trans rfl]
              have ha0 := HA0.out
              subst ha0
              clear HA0 hV hYZ hZb hsz0 hrows hne oe1 oe3 oe5 oe8
              simp only [putAll, Act.put, List.setIfInBounds_toArray, List.set_cons_zero, List.set_cons_succ, List.set_nil, f0, f1, f2]
              clear hl f0 f1 f2
              go_upto_region 21 with (fail)
              generalize ha0 : Act.mk _ _ = a0
              have oe1 : a0.eval (.tmp 1) = .pointer (some ⟨w.heap.size, 0, none⟩) := by rw [← ha0]; rfl
              have oe2 : a0.eval (.tmp 2) = .pointer (some ⟨w.heap.size + 1, 0, none⟩) := by rw [← ha0]; rfl
              have hsz0 : a0.tmps.size = 86 := by rw [← ha0]; rfl
              have HA0 := hid ha0
              clear ha0
              refine wp_region_Q1 86 hsz0 [85, 87] (fun k => (k = w.heap.size + 1)) (fun k j => (k = 0 ∧ ((j = w.heap.size + 1)))) (fun _ _ h => h.2) [qi (.agg #[.int .i64 x.ep, .int .u64 (x.tm : Nat), Value.slice aol1 ((x.ps.take k1).map cutPm).length capl1, Value.slice aol2 ((x.os.take k2).map cutOp).length capl2, Value.slice aol3 ((x.ts.take k3).map cutTb).length capl3]), qv 0] ⟨qi_stable, qv_stable, trivial⟩ [1] ⟨?_, ?_, trivial⟩ ?_
              · exact stq (fun E => ex_loadA rfl Try.underlying60 rfl (off := 0) (cs := [.int .i64 x.ep, .int .u64 (x.tm : Nat), Value.slice aol1 ((x.ps.take k1).map cutPm).length capl1, Value.slice aol2 ((x.os.take k2).map cutOp).length capl2, Value.slice aol3 ((x.ts.take k3).map cutTb).length capl3]) (by kernel_rfl) (E.v oe1) (Cs.whole (Hx65.out.mod E.m (by intro h2; omega))))
              · exact stepq_chain rfl
              intro u21_0 hr
              have zu21_0 := hr.size
              have Cx67 := hid (hr.new (S := (fun k => (k = w.heap.size + 1))))
              have Hx68 := hid (((HKL3_4.out.mod Cx58.out (fun h => h)).mod Cx66.out (by intro h2; omega)).mod hr (by intro h2; omega))
              clear HKL3_4
              clear hr
              refine QChain.go fun Z act E => ?_
              refine qc_store rfl (wanted_none rfl) rfl Hx68.out (off := 0) (vs := [.int .i64 x.ep, .int .u64 (x.tm : Nat), Value.slice aol1 ((x.ps.take k1).map cutPm).length capl1, Value.slice aol2 ((x.os.take k2).map cutOp).length capl2, Value.slice aol3 ((x.ts.take k3).map cutTb).length capl3]) (by kernel_rfl) (by intro u hu; simp at hu; rcases hu with rfl | rfl | rfl | rfl | rfl <;> rfl) (by simp) (E.v oe2) (by rw [show act.eval ((.tmp 85)) = _ from (E.d 0)]; rfl) ?_
              intro u21_1a qc0 hm
              have qB2 : Cs u21_1a (w.heap.size + 1) #[.int .i64 x.ep, .int .u64 (x.tm : Nat), Value.slice aol1 ((x.ps.take k1).map cutPm).length capl1, Value.slice aol2 ((x.os.take k2).map cutOp).length capl2, Value.slice aol3 ((x.ts.take k3).map cutTb).length capl3] 60 := by rw [show lay _ 0 _ = #[.int .i64 x.ep, .int .u64 (x.tm : Nat), Value.slice aol1 ((x.ps.take k1).map cutPm).length capl1, Value.slice aol2 ((x.os.take k2).map cutOp).length capl2, Value.slice aol3 ((x.ts.take k3).map cutTb).length capl3] from rfl] at qc0; exact qc0
              clear qc0
              have zu21_1a := hm.size
              refine ⟨hm.mono (by intro k hk h; omega), (fun _ => rfl), ?_⟩
              intro u21_1 hr
              have zu21_1 := hr.size
              have Hx69 := hid (qB2.mod hr (by intro h2; omega))
              have Cx70 := hid (Cx67.out.goM hm hr (fun _ _ h => h))
              clear Cx67 hm hr Z act E qB2 Hx68
              refine QChain.nil fun vs hl hzz hrows hne => ?_
              obtain ⟨Z, hYZ, hZb, hV⟩ := hzz
              rw [show vs = [gw vs 0, gw vs 1] from (gw_eta hl).trans rfl]
              have ha0 := HA0.out
              subst ha0
              clear HA0 hV hYZ hZb hsz0 hrows hne oe1 oe2
              simp only [putAll, Act.put, List.setIfInBounds_toArray, List.set_cons_zero, List.set_cons_succ, List.set_nil]
              clear hl
              go_wp2
              refine bodyPost_ret (results_cellA rfl _ _ (w.heap.size + 1) ([.int .i64 x.ep, .int .u64 (x.tm : Nat), Value.slice aol1 ((x.ps.take k1).map cutPm).length capl1, Value.slice aol2 ((x.os.take k2).map cutOp).length capl2, Value.slice aol3 ((x.ts.take k3).map cutTb).length capl3]) rfl (fun k u hu => by rw [Hx69.out.cell]; simpa using hu) Try.underlying60 rfl (by kernel_rfl)) rfl ⟨_, rfl, ⟨_, _, _, rfl, HOK.out, ?_, ?_, ?_⟩, (((HML3.out.trans Cx58.out (fun _ _ h => h.elim)).trans Cx66.out (by intro k h1 h2; omega)).trans Cx70.out (by intro k h1 h2; omega))⟩
              · rw [show (cutBa x).ps = (x.ps.take k1).map cutPm from congrArg (List.map cutPm) HTK1.out.symm]
                refine ((((HKL3_5.out.mod Cx58.out (fun _ _ h => h) (fun _ _ h => h)).mod Cx66.out (by intro k h1 h2; omega) (by intro k h1 h2; rcases h1 with h1 | h1 <;> first | omega | (have hb := HBT.out k h1; omega))).mod Cx70.out (by intro k h1 h2; omega) (by intro k h1 h2; rcases h1 with h1 | h1 <;> first | omega | (have hb := HBT.out k h1; omega))).rd).widen ?_
                intro k h
                (try dsimp only at h ⊢)
                rcases h with h | h | h
                · right; omega
                · exact Or.inl h
                · right; omega
              · rw [show (cutBa x).os = (x.os.take k2).map cutOp from congrArg (List.map cutOp) HTK2.out.symm]
                refine ((((HKL3_6.out.mod Cx58.out (fun _ _ h => h) (fun _ _ h => h)).mod Cx66.out (by intro k h1 h2; omega) (by intro k h1 h2; rcases h1 with h1 | h1 <;> first | omega | (have hb := HBT.out k h1; omega))).mod Cx70.out (by intro k h1 h2; omega) (by intro k h1 h2; rcases h1 with h1 | h1 <;> first | omega | (have hb := HBT.out k h1; omega))).rd).widen ?_
                intro k h
                (try dsimp only at h ⊢)
                rcases h with h | h | h
                · right; omega
                · exact Or.inl h
                · right; omega
              · rw [show (cutBa x).ts = (x.ts.take k3).map cutTb from congrArg (List.map cutTb) HTK3.out.symm]
                refine ((((HAL3.out.mod Cx58.out (fun _ _ h => h) (fun _ _ h => h)).mod Cx66.out (by intro k h1 h2; omega) (by intro k h1 h2; rcases h1 with h1 | h1 <;> first | omega | (have hb := HBT.out k h1; omega))).mod Cx70.out (by intro k h1 h2; omega) (by intro k h1 h2; rcases h1 with h1 | h1 <;> first | omega | (have hb := HBT.out k h1; omega))).rd).widen ?_
                intro k h
                (try dsimp only at h ⊢)
                rcases h with h | h | h
                · right; omega
                · exact Or.inl h
                · right; omega
end Go.Proofs.Ytknpapcfhnhheaa

/- Things stored in place: the i-th of a slice of one's own. No program here. -/
set_option linter.unusedVariables false
namespace Go.Gv
open Go Go.RowKit

/-- the first k are turned, the others not yet -/
def upto {α : Type} (f : α → α) (k : Nat) (l : List α) : List α := (l.take k).map f ++ l.drop k
section
variable {α : Type} {f : α → α} {k : Nat} {l : List α}
theorem upto_len : (upto f k l).length = l.length := by unfold upto; simp; omega
theorem upto_zero : upto f 0 l = l := by simp [upto]
theorem upto_all (h : l.length ≤ k) : upto f k l = l.map f := by unfold upto; rw [List.take_of_length_le h, List.drop_of_length_le h, List.append_nil]
theorem upto_get (h : k < l.length) : (upto f k l)[k]? = some l[k] := by
  unfold upto
  rw [List.getElem?_append_right (by simp; omega)]
  simp [Nat.min_eq_left (Nat.le_of_lt h), h]
theorem upto_set (h : k < l.length) : (upto f k l).set k (f l[k]) = upto f (k + 1) l := by
  unfold upto
  have h1 : ((l.take k).map f).length = k := by rw [List.length_map, List.length_take]; omega
  rw [List.set_append_right _ _ (by omega), h1, Nat.sub_self, List.drop_eq_getElem_cons h, List.take_succ_eq_append_getElem h, List.set_cons_zero, List.map_append, List.append_assoc]
  rfl
end
theorem flat_set {css : List (List Value)} {s : Nat} (h : ∀ cs ∈ css, cs.length = s) : ∀ (i : Nat) (cs : List Value), i < css.length → (css.set i cs).flatten = css.flatten.take (i * s) ++ cs ++ css.flatten.drop (i * s + s) := by
  induction css with
  | nil => intro i cs hi; simp at hi
  | cons c r ih =>
    intro i cs hi
    have hc : c.length = s := h c (by simp)
    cases i with
    | zero =>
      simp only [List.set_cons_zero, List.flatten_cons, Nat.zero_mul, List.take_zero, List.nil_append, Nat.zero_add]
      rw [List.drop_append_of_le_length (by omega), List.drop_of_length_le (by omega), List.nil_append]
    | succ i =>
      have h9 : (i + 1) * s = c.length + i * s := by rw [Nat.succ_mul, hc]; omega
      simp only [List.set_cons_succ, List.flatten_cons]
      rw [ih (fun x hx => h x (by simp [hx])) i cs (by simpa using hi), h9, List.take_length_add_append, Nat.add_assoc, List.drop_length_add_append]
      simp [List.append_assoc]
section
variable {α : Type} {A : Rep α} {e : TypeId} {R E R' : Nat → Prop} {w w' : World} {v : Value} {l : List α}
theorem OwS.at {ao : Option Addr} {n cap : Nat} (h : OwS A e R E w (.slice ao n cap) l) {i : Nat} {x : α} (hi : l[i]? = some x) :
    ∃ g cs cur, ao = some ⟨g, 0, none⟩ ∧ R g ∧ A.rd E w cs x ∧ (∀ j u, cs[j]? = some u → w.cell? ⟨g, 0 + i * A.sz + j, none⟩ = some u) ∧ Cs w g cur e ∧ i * A.sz + A.sz ≤ cur.size := by
  obtain ⟨css, h1, h2, ⟨hl, hE, h3⟩, h4⟩ := h
  have hil := (List.getElem?_eq_some_iff.1 hi).1
  have hcl := css_len h1 h2 (fun cs a h => A.len h)
  have hg1 : css[i]? = some css[i] := List.getElem?_eq_getElem (by omega)
  have hfl := flat_get hcl i css[i] hg1
  rcases h3 with ⟨he, h0⟩ | ⟨g, cap', cur, he, hc, k1, k2, k3, k4, k5⟩
  · omega
  · cases he
    have hm : i * A.sz + A.sz ≤ l.length * A.sz := by rw [← Nat.succ_mul]; exact Nat.mul_le_mul_right _ hil
    have hm2 := Nat.mul_le_mul_right A.sz k1
    refine ⟨g, css[i], cur, rfl, h4 g rfl, A.wid (h2 i _ x hg1 hi) (fun k h => h.1), fun j u hu => ?_, hc, by omega⟩
    have hj : j < A.sz := by have := (List.getElem?_eq_some_iff.1 hu).1; rw [hcl css[i] (List.getElem_mem _)] at this; exact this
    have h9 := hfl j u hu
    rw [← k4, List.getElem?_take, if_pos (by omega)] at h9
    rw [Nat.zero_add, hc.cell]
    simpa using h9
theorem OwS.put {g n cap i off : Nat} {cs : List Value} {x : α} {cur : Array Value} (h : OwS A e R E w (.slice (some ⟨g, 0, none⟩) n cap) l) (hi : i < l.length) (ho : off = i * A.sz) (hx : A.rd R' w cs x) (hR : ∀ k, R' k → E k ∧ ¬ R k)
    (hE : ∀ k, E k → ¬ R k) (hc : Cs w g cur e) (hc' : Cs w' g (lay cur off cs) e) (hm : Mod (fun k => k = g) w w') : OwS A e R E w' (.slice (some ⟨g, 0, none⟩) n cap) (l.set i x) := by
  subst ho
  obtain ⟨css, h1, h2, ⟨hl, hE1, h3⟩, h4⟩ := h
  have hg : R g := h4 g rfl
  have hcl := css_len h1 h2 (fun cs a h => A.len h)
  have hxl := A.len hx
  rcases h3 with ⟨he, h0⟩ | ⟨g', cap', cur', he, hc1, k1, k2, k3, k4, k5⟩
  · cases he
  cases he
  obtain rfl : cur = cur' := by have := hc.symm.trans hc1; cases this; rfl
  have hmm : i * A.sz + A.sz ≤ l.length * A.sz := by rw [← Nat.succ_mul]; exact Nat.mul_le_mul_right _ hi
  have hm2 := Nat.mul_le_mul_right A.sz k1
  have hsz : cur.toList.length = cur.size := by simp
  have hlen : (cur.toList.take (i * A.sz) ++ cs ++ cur.toList.drop (i * A.sz + cs.length)).length = cur.size := by simp; omega
  have hfs := flat_set hcl i cs (by omega)
  refine ⟨css.set i cs, by simp [h1], fun j c a hj ha => ?_, ⟨?_, ?_, .inr ⟨g, cap, _, by rw [List.length_set], hc', by rw [List.length_set]; exact k1, k2, ?_, ?_, ?_⟩⟩, fun k hk => h4 k hk⟩
  · by_cases hij : i = j
    · subst hij
      rw [List.getElem?_set_self (by omega)] at hj ha
      cases hj; cases ha
      refine A.keep (A.wid hx (fun k hk => ⟨(hR k hk).1, fun e => (hR k hk).2 (by cases e; exact hg)⟩)) ?_
      intro p u hp hu
      exact hm.cell hu (fun hS => hp.2 (by rw [hS]; rfl))
    · rw [List.getElem?_set_ne hij] at hj ha
      refine A.keep (h2 j c a hj ha) ?_
      intro p u hp hu
      exact hm.cell hu (fun hS => hp.2 (by rw [hS]; rfl))
  · have h6 : css.flatten.length = l.length * A.sz := hl
    rw [hfs, List.length_set, List.length_append, List.length_append, List.length_take, List.length_drop, h6, hxl]; omega
  · intro u hu
    rw [hfs] at hu
    simp only [List.mem_append] at hu
    rcases hu with (hu | hu) | hu
    · exact hE1 u (List.mem_of_mem_take hu)
    · exact A.one hx u hu
    · exact hE1 u (List.mem_of_mem_drop hu)
  · show cap * A.sz ≤ (lay cur (i * A.sz) cs).size
    unfold lay
    rw [List.size_toArray, hlen]
    exact k3
  · unfold lay
    rw [hfs, ← k4, List.length_set, hxl]
    show List.take (l.length * A.sz) (cur.toList.take (i * A.sz) ++ cs ++ cur.toList.drop (i * A.sz + A.sz)) = _
    rw [List.take_take, Nat.min_eq_left (by omega), List.append_assoc, List.take_append, List.take_append, List.drop_take]
    rw [List.take_take, Nat.min_eq_right (by omega)]
    rw [List.take_of_length_le (l := cs) (by simp; omega)]
    simp only [List.length_take, hsz, hxl, List.append_assoc]
    rw [show l.length * A.sz - min (i * A.sz) cur.size - A.sz = l.length * A.sz - (i * A.sz + A.sz) by omega]
  · intro u hu
    unfold lay at hu
    rw [List.toList_toArray] at hu
    simp only [List.mem_append] at hu
    rcases hu with (hu | hu) | hu
    · exact k5 u (List.mem_of_mem_take hu)
    · exact A.one hx u hu
    · exact k5 u (List.mem_of_mem_drop hu)
end
/-- one of the chain stores a thing over the i-th -/
theorem qc_putS {P : Program} {ops : Array Oper} {Q : Exit → Act → World → Prop} {i : Nat} {o : Oper} {a : Act} {w : World} {KQ : Value → World → Prop} {α : Type} {A : Rep α} {e ty : TypeId} {R E R' : Nat → Prop} {g n cap k off : Nat} {l : List α} {cs : List Value} {z : α} {x y : Operand}
    (ho : ops[i]? = some o) (hw : Region.wanted o (yielded ops a.tmps) = true) (hop : o.op = .store ty x y) (h : OwS A e R E w (.slice (some ⟨g, 0, none⟩) n cap) l) (hk : k < l.length) (hoff : off = k * A.sz) (hA : A.rd R' w cs z) (hR : ∀ k, R' k → E k ∧ ¬ R k) (hE : ∀ k, E k → ¬ R k)
    (hi : (P.info? ty).map (·.size) = some A.sz) (hx : a.eval x = .pointer (some ⟨g, off, none⟩)) (hy : (a.eval y).cells = cs.toArray)
    (hq : ∀ w', OwS A e R E w' (.slice (some ⟨g, 0, none⟩) n cap) (l.set k z) → Mod R w w' → KQ undef w') : wpOp P ops Q i (fun a' w' => ∃ v, a' = a.put o.dst v ∧ KQ v w') a w := by
  obtain ⟨g', cs0, cur, he, hg, -, -, hc, hsz⟩ := h.at (i := k) (x := l[k]) (List.getElem?_eq_getElem hk)
  cases he
  have hl := A.len hA
  refine qc_store ho hw hop hc (vs := cs) (by rw [hi, hl]) (A.one hA) (by rw [hl, hoff]; exact hsz) hx hy ?_
  intro w' h1 h2
  exact hq w' (h.put hk hoff hA hR hE hc h1 h2) (h2.mono (fun j _ hj => by rw [hj]; exact hg))
end Go.Gv

/- Answers of the chain of which more is known than what they are: new variables that are written whole with them. No program here. -/
set_option linter.unusedVariables false
namespace Go.Gv
open Go Go.RowKit

end Go.Gv

/- A region that keeps its order, told operation by operation. No program here. -/
set_option linter.unusedVariables false
namespace Go.Gv
open Go Go.RowKit

theorem putAll_snoc : ∀ (ss : List Nat) (t : List Value) (a : Act) (s : Nat) (v : Value), ss[t.length]? = some s → (putAll a ss t).put (some s) v = putAll a ss (t ++ [v])
  | [], t, a, s, v, h => by simp at h
  | s :: ss, [], a, s', v, h => by
    simp only [List.length_nil, List.getElem?_cons_zero, Option.some.injEq] at h
    subst h
    cases ss <;> rfl
  | s :: ss, u :: t, a, s', v, h => by
    simp only [List.length_cons, List.getElem?_cons_succ] at h
    simp only [List.cons_append, putAll]
    exact putAll_snoc ss t _ s' v h
theorem putAll_take : ∀ (ss : List Nat) (t : List Value) (a : Act), putAll a ss t = putAll a (ss.take t.length) t
  | [], t, a => by simp
  | s :: ss, [], a => rfl
  | s :: ss, u :: t, a => by
    simp only [List.length_cons, List.take_succ_cons, putAll]
    exact putAll_take ss t _
theorem putAll_at : ∀ (ss : List Nat) (t : List Value) (a : Act) (p s : Nat) (v : Value), ss.Nodup → ss[p]? = some s → t[p]? = some v → s < a.tmps.size → (putAll a ss t).tmps[s]? = some v
  | [], t, a, p, s, v, hn, h, hv, hs => by simp at h
  | s :: ss, [], a, p, s', v, hn, h, hv, hs => by simp at hv
  | s :: ss, u :: t, a, 0, s', v, hn, h, hv, hs => by
    simp only [List.getElem?_cons_zero, Option.some.injEq] at h hv
    subst h hv
    simp only [putAll]
    rw [putAll_out ss t _ s (List.nodup_cons.1 hn).1, put_tmps]
    simp [hs]
  | s :: ss, u :: t, a, p + 1, s', v, hn, h, hv, hs => by
    simp only [List.getElem?_cons_succ] at h hv
    simp only [putAll]
    exact putAll_at ss t _ p s' v (List.nodup_cons.1 hn).2 h hv (by simpa [put_tmps] using hs)
/-- what is known of the frame where an operation stands: t: the answers of those ahead of it, the last one first -/
structure SqE (a0 : Act) (n : Nat) (ss : List Nat) (t : List Value) (a : Act) : Prop where
  out : ∀ s : Nat, s ∉ ss → a.eval (.tmp s) = a0.eval (.tmp s)
  sz : ∀ s : Nat, s < n → s < a.tmps.size
  on : ∀ (k p s : Nat) (v : Value), ss[k]? = some s → t[p]? = some v → p + k + 1 = t.length → s < n → a.eval (.tmp s) = v
  yet : ∀ (k s : Nat), t.length ≤ k → ss[k]? = some s → a.eval (.tmp s) = a0.eval (.tmp s)
section
variable {P : Program} {ops : Array Oper} {Q : Exit → Act → World → Prop} {a0 : Act} {n : Nat} {ss : List Nat} {c : List Nat} {i : Nat} {o : Oper} {t : List Value} {w w' : World} {a : Act}
theorem SqE.v (E : SqE a0 n ss t a) {k : Nat} {v : Value} (h : a0.eval (.tmp k) = v) (hk : k ∉ ss := by decide) : a.eval (.tmp k) = v := (E.out k hk).trans h
theorem SqE.y (E : SqE a0 n ss t a) (k : Nat) {s : Nat} {v : Value} (h : a0.eval (.tmp s) = v) (hs : ss[k]? = some s := by rfl) (hk : Nat.ble t.length k = true := by rfl) : a.eval (.tmp s) = v := (E.yet k s (Nat.le_of_ble_eq_true hk) hs).trans h
theorem SqE.d (E : SqE a0 n ss t a) (k p : Nat) {s : Nat} {v : Value} (hs : ss[k]? = some s := by rfl) (hv : t[p]? = some v := by rfl) (hp : p + k + 1 = t.length := by rfl) (hn : s < n := by decide) : a.eval (.tmp s) = v := E.on k p s v hs hv hp hn
theorem SqE.q (E : SqE a0 n ss t a) (k p : Nat) {s : Nat} {v x : Value} {b : Bool} (h : (b = true → v = x) ∧ (b = false → v = undef)) (hs : ss[k]? = some s := by rfl) (hv : t[p]? = some v := by rfl) (hp : p + k + 1 = t.length := by rfl) (hn : s < n := by decide) : (b = true → a.eval (.tmp s) = x) ∧ (b = false → a.eval (.tmp s) = undef) := by
  rw [E.on k p s v hs hv hp hn]
  exact h
def QSeq (P : Program) (ops : Array Oper) (Q : Exit → Act → World → Prop) (a0 : Act) (n : Nat) (ss : List Nat) : List Nat → List Value → World → Prop
  | [], t, w => Q .normal (putAll a0 ss t.reverse) w
  | i :: c, t, w => ∀ a, SqE a0 n ss t a → wpOp P ops Q i (fun a' w' => ∃ o v, ops[i]? = some o ∧ a' = a.put o.dst v ∧ QSeq P ops Q a0 n ss c (v :: t) w') a w
theorem QSeq.go (h : ∀ a, SqE a0 n ss t a → wpOp P ops Q i (fun a' w' => ∃ v, a' = a.put o.dst v ∧ QSeq P ops Q a0 n ss c (v :: t) w') a w) (ho : ops[i]? = some o := by rfl) : QSeq P ops Q a0 n ss (i :: c) t w :=
  fun a E => wpOp_mono (fun a' w' ⟨v, e, hq⟩ => ⟨o, v, ho, e, hq⟩) (h a E)
theorem QSeq.nil {t' : List Value} (e : t.reverse = t') (h : Q .normal (putAll a0 ss t') w) : QSeq P ops Q a0 n ss [] t w := by subst e; exact h
theorem QSeq.pure {v' : Value} (ho : ops[i]? = some o) (v : Value) (hs : ∀ {a}, SqE a0 n ss t a → (execOp a.eval o).run P w = .ok (.value v') w) (h : QSeq P ops Q a0 n ss c (v :: t) w) (hg : o.guard = none := by rfl) (hv : v' = v := by rfl) : QSeq P ops Q a0 n ss (i :: c) t w :=
  QSeq.go (fun a E => qc_run ho (wanted_none hg) (hv ▸ hs E) h) ho
theorem QSeq.pureG {v' : Value} (ho : ops[i]? = some o) (v : Value) (hw : ∀ {a}, SqE a0 n ss t a → Region.wanted o (yielded ops a.tmps) = true) (hs : ∀ {a}, SqE a0 n ss t a → (execOp a.eval o).run P w = .ok (.value v') w) (h : QSeq P ops Q a0 n ss c (v :: t) w) (hv : v' = v := by rfl) : QSeq P ops Q a0 n ss (i :: c) t w :=
  QSeq.go (fun a E => qc_run ho (hw E) (hv ▸ hs E) h) ho
theorem QSeq.skip (ho : ops[i]? = some o) (hw : ∀ {a}, SqE a0 n ss t a → Region.wanted o (yielded ops a.tmps) = false) (h : QSeq P ops Q a0 n ss c (undef :: t) w) : QSeq P ops Q a0 n ss (i :: c) t w := by
  refine QSeq.go (fun a E => ?_) ho
  unfold wpOp
  rw [ho]
  simp only [hw E]
  exact ⟨undef, rfl, h⟩
/-- one that a test may leave out -/
theorem QSeq.may {b : Bool} {x' : Value} (ho : ops[i]? = some o) (x : Value) (hw : ∀ {a}, SqE a0 n ss t a → Region.wanted o (yielded ops a.tmps) = b) (hs : ∀ {a}, SqE a0 n ss t a → b = true → (execOp a.eval o).run P w = .ok (.value x') w)
    (h : ∀ v, ((b = true → v = x) ∧ (b = false → v = undef)) → QSeq P ops Q a0 n ss c (v :: t) w) (hv : x' = x := by rfl) : QSeq P ops Q a0 n ss (i :: c) t w := by
  cases b with
  | false => exact QSeq.skip ho hw (h undef ⟨(fun e => by cases e), fun _ => rfl⟩)
  | true => exact QSeq.pureG ho x hw (fun E => hs E rfl) (h x ⟨fun _ => rfl, fun e => by cases e⟩) hv
/-- a call that turns nothing, which a test may leave out -/
theorem QSeq.mayCall {b : Bool} (ho : ops[i]? = some o) (x : Value) {F : FuncId} {xs : Array Operand} {ts : Array TypeId} {args : Array Value} {fn : Func} (hw : ∀ {a}, SqE a0 n ss t a → Region.wanted o (yielded ops a.tmps) = b) (hop : o.op = .call { callee := .value (.func F), args := xs, argTypes := ts }) (hf : P.funcs[F]? = some fn)
    (ha : ∀ {a}, SqE a0 n ss t a → b = true → xs.map a.eval = args) (hcl : b = true → Calls P F args w (fun e w' => e = .returned x ∧ Mod (fun _ => False) w w'))
    (h : ∀ v w', ((b = true → v = x) ∧ (b = false → v = undef)) → Mod (fun _ => False) w w' → QSeq P ops Q a0 n ss c (v :: t) w') (hn : (fn.name == "runtime.NumGoroutine") = false := by kernel_rfl) (hb : fn.body.isNone = false := by kernel_rfl) : QSeq P ops Q a0 n ss (i :: c) t w := by
  cases b with
  | false => exact QSeq.skip ho hw (h undef w ⟨(fun e => by cases e), fun _ => rfl⟩ (Mod.refl _ _))
  | true =>
    refine QSeq.go (fun a E => ?_) ho
    refine qc_callF ho (hw E) hop hf (ha E rfl) (hcl rfl) (fun e w' ⟨he, hm⟩ => ⟨x, he, h x w' ⟨fun _ => rfl, fun e => by cases e⟩ hm⟩) hn hb
theorem wp_region_S {id : Nat} (n : Nat) (hn : a0.tmps.size = n) (ss : List Nat) (c : List Nat) (h : QSeq P ops Q a0 n ss c [] w) (hc : c = List.range ops.size := by kernel_rfl) (hss : okSlots ops n ss = true := by kernel_rfl) (hnd : ss.Nodup := by decide) : (Code.region id ops false).wp P Q a0 w := by
  subst hc
  refine wp_region ?_
  have key : ∀ (m i : Nat) (t : List Value) (w : World), i + m = ops.size → t.length = i → QSeq P ops Q a0 n ss (List.range' i m) t w → wpOps P ops Q (List.range' i m) (putAll a0 ss t.reverse) w := by
    intro m
    induction m with
    | zero => intro i t w _ _ h; exact h
    | succ m ih =>
      intro i t w him hti h
      rw [List.range'_succ] at h ⊢
      rw [wpOps_cons]
      refine wpOp_mono ?_ (h (putAll a0 ss t.reverse) ⟨fun s hs => eval_out _ _ _ _ hs, fun s hs => by rw [putAll_size, hn]; exact hs, fun k p s v hk hv hp hsn => ?_, fun k s hk hks => ?_⟩)
      · rintro a' w' ⟨o, v, ho, rfl, hq⟩
        obtain ⟨s, hs, hds⟩ := okSlots_at hss ho
        have e : (putAll a0 ss t.reverse).put o.dst v = putAll a0 ss (v :: t).reverse := by
          have e1 := putAll_snoc ss t.reverse a0 s v (by rw [List.length_reverse, hti]; exact hs)
          rw [List.reverse_cons]
          rcases hds with ⟨h1, h2⟩ | ⟨h1, h2⟩
          · rw [h1]; exact e1
          · rw [h1, ← e1, put_far _ (by rw [putAll_size, hn]; exact h2)]; rfl
        rw [e]
        exact ih (i + 1) (v :: t) w' (by omega) (by simp [hti]) hq
      · have hv' : t.reverse[k]? = some v := by
          rw [List.getElem?_reverse (by omega), show t.length - 1 - k = p by omega]
          exact hv
        have := putAll_at ss t.reverse a0 k s v hnd hk hv' (by rw [hn]; exact hsn)
        simp only [Act.eval, Array.getD_eq_getD_getElem?]
        rw [this]
        rfl
      · rw [putAll_take]
        refine eval_out _ _ _ _ fun hm => ?_
        obtain ⟨j, hj, e⟩ := List.getElem_of_mem hm
        rw [List.getElem_take] at e
        have hj2 : j < t.length := by rw [List.length_take, List.length_reverse] at hj; omega
        have hj3 : ss[j]? = some s := by rw [← e]; exact List.getElem?_eq_getElem _
        have := (List.getElem?_inj (List.getElem?_eq_some_iff.1 hj3).1 hnd).1 (hj3.trans hks.symm)
        omega
  rw [List.range_eq_range'] at h ⊢
  have hk := key ops.size 0 [] w (by omega) rfl h
  rw [show putAll a0 ss ([] : List Value).reverse = a0 by cases ss <;> rfl] at hk
  exact hk
theorem beq_t (b : Bool) : (b == true) = b := by cases b <;> rfl
theorem beq_f (b : Bool) : (b == false) = !b := by cases b <;> rfl
theorem Mod.goS {S S' T : Nat → Prop} {w a b : World} (h : Mod S w a) (hm : Mod T a b) (hS : ∀ k, S k → S' k) (hT : ∀ k, k < w.heap.size → T k → S' k) : Mod S' w b := (h.mono (fun k _ h => hS k h)).trans hm hT
theorem Mod.goE {S : Nat → Prop} {w a b : World} (h : Mod S w a) (hm : Mod (fun _ => False) a b) : Mod S w b := h.trans hm (fun _ _ h => h.elim)
end
end Go.Gv

/- Small parts of messages, put as bytes. -/
set_option maxRecDepth 100000
set_option linter.unusedVariables false
namespace Go.Proofs.Ytknpapcfhnhheaa
open Go Go.RowKit Go.Gv


/-- a signature's bytes, a name's, those of a list of things, and so on -/
def sigB (a b : Int) : List Int := encI a ++ encI b
def nameB (a b : Int) : List Int := encI a ++ encI b
def listB {α : Type} (f : α → List Int) (l : List α) : List Int := encI l.length ++ (l.map f).flatten
def cmB (x : Cm) : List Int := nameB x.cl x.sq ++ (x.h ++ (encI x.ln ++ sigB x.sb x.mr))
def stB (x : St) : List Int := encI x.rp ++ (nameB x.cl x.sq ++ (x.h ++ (encN x.tm ++ sigB x.sb x.mr)))
def ceB (x : Ce) : List Int := cmB x.c ++ listB stB x.l
def pmB (x : Pm) : List Int := encI x.rp ++ (encI x.ep ++ (encN x.fl ++ (listB ceB x.l ++ sigB x.sb x.mr)))
def opB (x : Op) : List Int := encI x.ix ++ ((encN x.pl.length ++ x.pl) ++ x.nc)
def dnB (x : Dn) : List Int := encI x.rp ++ (encI x.ix ++ sigB x.sb x.mr)
def tbB (x : Tb) : List Int := encI x.ix ++ listB dnB x.l
def baB (x : Ba) : List Int := encI x.ep ++ (encN x.tm ++ (listB pmB x.ps ++ (listB opB x.os ++ listB tbB x.ts)))
theorem WInt_Q {R : Nat → Prop} {g : Nat} {n : Int} {bs : List Int} {w : World} (hW : WrR R 900000 w g bs) (hn : I64 n) (hl : (bs ++ encI n).length ≤ 900000) :
    Calls Try.prog 64 #[.pointer (some ⟨g, 0, none⟩), .int .i64 n] w fun e w' => e = .returned (.pointer (some ⟨g, 0, none⟩)) ∧ WrR (fun k => R k ∨ New w w' k) 900000 w' g (bs ++ encI n) ∧ Mod R w w' := by
  obtain ⟨v, h1, h2, h3, h4⟩ := hW
  exact (WInt_any g n v bs w h1 hn (by unfold Room; omega)).mono fun _ _ ⟨he, h⟩ => ⟨he, WrTo_R _ h2 h3 h hl⟩
theorem WNum_Q {R : Nat → Prop} {g : Nat} {n : Nat} {bs : List Int} {w : World} (hW : WrR R 900000 w g bs) (hn : n < U64) (hl : (bs ++ encN n).length ≤ 900000) :
    Calls Try.prog 67 #[.pointer (some ⟨g, 0, none⟩), .int .u64 n] w fun e w' => e = .returned (.pointer (some ⟨g, 0, none⟩)) ∧ WrR (fun k => R k ∨ New w w' k) 900000 w' g (bs ++ encN n) ∧ Mod R w w' := by
  obtain ⟨v, h1, h2, h3, h4⟩ := hW
  exact (Num_any g n v bs w h1 hn (by unfold Room; omega)).mono fun _ _ ⟨he, h⟩ => ⟨he, WrTo_R _ h2 h3 h hl⟩
theorem WHash_Q {R : Nat → Prop} {g : Nat} {h bs : List Int} {w : World} (hW : WrR R 900000 w g bs) (hh : HK h) (hl : (bs ++ h).length ≤ 900000) :
    Calls Try.prog 66 #[.pointer (some ⟨g, 0, none⟩), hv h] w fun e w' => e = .returned (.pointer (some ⟨g, 0, none⟩)) ∧ WrR (fun k => R k ∨ New w w' k) 900000 w' g (bs ++ h) ∧ Mod R w w' := by
  obtain ⟨v, h1, h2, h3, h4⟩ := hW
  exact (WHash_any g v bs h w h1 hh.1 hh.2 (by unfold Room; omega)).mono fun _ _ ⟨he, h⟩ => ⟨he, WrTo_R _ h2 h3 h hl⟩
theorem WRow_Q {R R' : Nat → Prop} {M g : Nat} {bs : List Int} {v2 : Value} {cs : List Int} {w : World} (hW : WrR R 900000 w g bs) (hr : RdR R' M w v2 cs) (hs : ∀ k, R' k → R k → False) (hl : (bs ++ (encN cs.length ++ cs)).length ≤ 900000) :
    Calls Try.prog 107 #[.pointer (some ⟨g, 0, none⟩), v2] w fun e w' => e = .returned (.pointer (some ⟨g, 0, none⟩)) ∧ WrR (fun k => R k ∨ New w w' k) 900000 w' g (bs ++ (encN cs.length ++ cs)) ∧ Mod R w w' := by
  obtain ⟨v, h1, h2, h3, h4⟩ := hW
  obtain ⟨ao, cap, rfl⟩ := hr.shape
  have hlc : cs.length ≤ 900000 := by simp only [List.length_append] at hl; omega
  refine (WRow_any g v bs ao cap cs w h1 hr.1 ?_ (by unfold Room; omega)).mono fun _ _ ⟨he, h⟩ => ⟨he, WrTo_R _ h2 h3 h hl⟩
  intro h0 k hg hk
  rcases hk with rfl | hk
  · exact hs _ (hr.2.1 h0 _ hg) h2
  · exact hs _ (hr.2.1 h0 _ hg) (h3 k hk.symm)
/-- a function that puts things of a kind -/
def Puts {α : Type} (A : Rep α) (F : FuncId) (f : α → List Int) : Prop := ∀ (R R2 : Nat → Prop) (g : Nat) (bs : List Int) (cs : List Value) (x : α) (w : World), WrR R 900000 w g bs → (∀ k, R k → k < w.heap.size) → A.rd R2 w cs x → (∀ k, R2 k → k < w.heap.size) → (∀ k, R k → R2 k → False) → (bs ++ f x).length ≤ 900000 →
  Calls Try.prog F #[.pointer (some ⟨g, 0, none⟩), .agg cs.toArray] w fun e w' => e = .returned (.tuple #[]) ∧ WrR (fun k => R k ∨ New w w' k) 900000 w' g (bs ++ f x) ∧ Mod R w w'
/-- one that puts lists of them -/
def PutsL {α : Type} (A : Rep α) (F Fe : FuncId) (f : α → List Int) : Prop := ∀ (R R2 : Nat → Prop) (g : Nat) (bs : List Int) (v : Value) (l : List α) (w : World), WrR R 900000 w g bs → (∀ k, R k → k < w.heap.size) → RdS A R2 w v l → (∀ k, R2 k → k < w.heap.size) → (∀ k, R k → R2 k → False) → (bs ++ listB f l).length ≤ 900000 →
  Calls Try.prog F #[.pointer (some ⟨g, 0, none⟩), v, .func (.func Fe) #[] #[]] w fun e w' => e = .returned (.tuple #[]) ∧ WrR (fun k => R k ∨ New w w' k) 900000 w' g (bs ++ listB f l) ∧ Mod R w w'
theorem put_len {α : Type} (f : α → List Int) (bs : List Int) (n : List Int) (l : List α) (k : Nat) : (bs ++ (n ++ ((l.take k).map f).flatten)).length ≤ (bs ++ (n ++ (l.map f).flatten)).length := by
  have h : (l.map f).flatten = ((l.take k).map f).flatten ++ ((l.drop k).map f).flatten := by rw [← List.flatten_append, ← List.map_append, List.take_append_drop]
  rw [h]
  simp only [List.length_append]
  omega
set_option maxHeartbeats 2000000 in
theorem PutSig_Q {R : Nat → Prop} {g : Nat} {bs : List Int} {a b : Int} {w : World} (hW : WrR R 900000 w g bs) (hB : ∀ k, R k → k < w.heap.size) (ha : I64 a) (hb : I64 b) (hl : (bs ++ sigB a b).length ≤ 900000) :
    Calls Try.prog 142 #[.pointer (some ⟨g, 0, none⟩), .agg #[.int .i64 a, .int .i64 b]] w fun e w' => e = .returned (.tuple #[]) ∧ WrR (fun k => R k ∨ New w w' k) 900000 w' g (bs ++ sigB a b) ∧ Mod R w w' := by
  have HW := Lib.hid hW
  have HBR := Lib.hid hB
  have HL := hid (show (bs ++ (encI a ++ encI b)).length ≤ 900000 from hl)
  have HA := Lib.hid ha
  have HB := Lib.hid hb
  clear hW hB hl ha hb
  change Calls _ _ #[.pointer (some ⟨g, 0, none⟩), .agg #[.int .i64 a, .int .i64 b]] _ _
  go_enter Try.func142, Try.ntmps142
  go_upto_region 1 with (fail)
  obtain ⟨w1, hw1⟩ : ∃ zz, zz = (w.alloc (.cells #[.int .i64 a, .int .i64 b] 28)) := ⟨_, rfl⟩
  change Code.wp _ _ _ _ (w.alloc (.cells #[.int .i64 a, .int .i64 b] 28))
  rw [← hw1]
  have HB3 := hid (show Cs w1 (w.heap.size) #[.int .i64 a, .int .i64 b] 28 by rw [hw1]; exact Cs.new _ _ _)
  have hm : Mod (fun _ => False) w w1 := by rw [hw1]; exact (Mod.refl _ _).alloc _
  have HM0 := hid (show Mod (fun k => (R k)) w w1 from hm.mono (fun _ _ h => h.elim))
  have hs1 : w1.heap.size = w.heap.size + 1 := by rw [hw1]; simp
  have Hx1 := hid (HW.out.mod hm (fun _ _ h => h))
  clear HW
  clear hw1 hm
  go_upto_region 1 with (fail)
  generalize ha0 : Act.mk _ _ = a0
  have oe0 : a0.eval (.tmp 0) = .pointer (some ⟨g, 0, none⟩) := by rw [← ha0]; rfl
  have oe3 : a0.eval (.tmp 3) = .pointer (some ⟨w.heap.size, 0, none⟩) := by rw [← ha0]; rfl
  have hsz0 : a0.tmps.size = 11 := by rw [← ha0]; rfl
  have HA0 := hid ha0
  clear ha0
  refine wp_region_Q1 11 hsz0 [4, 5, 6, 7, 8, 9, 10] (fun k => (R k)) (fun k j => (k = 0 ∧ ((R j))) ∨ (k = 1 ∧ ((R j)))) (by intro k j h; (try dsimp only at h ⊢); rcases h with ⟨-, h⟩ | ⟨-, h⟩; (exact h); (exact h)) [qi (.pointer (some ⟨g, 0, none⟩)), qi (.pointer (some ⟨w.heap.size, 0, none⟩)), qi (.int .i64 a), qi (.pointer (some ⟨g, 0, none⟩)), qi (.pointer (some ⟨w.heap.size, 1, none⟩)), qi (.int .i64 b), qi (.pointer (some ⟨g, 0, none⟩))] ⟨qi_stable, qi_stable, qi_stable, qi_stable, qi_stable, qi_stable, qi_stable, trivial⟩ [3, 6] ⟨?_, ?_, ?_, ?_, ?_, ?_, ?_, trivial⟩ ?_
  · exact stq (fun E => ex_move rfl (E.v oe0))
  · exact stq (fun E => ex_field rfl Try.underlying28 rfl (by kernel_rfl) (E.v oe3))
  · exact stq (fun E => ex_load1 rfl Try.underlying3 rfl (E.d 1) (Cs.lit1 (HB3.out.mod E.m (by intro h2; rcases h2 with ⟨h0, h2⟩ | h2 <;> first | omega | (have hb := HBR.out _ h2; omega))) rfl))
  · exact stepq_chain rfl
  · exact stq (fun E => ex_field rfl Try.underlying28 rfl (by kernel_rfl) (E.v oe3))
  · exact stq (fun E => ex_load1 rfl Try.underlying3 rfl (E.d 4) (Cs.lit1 (HB3.out.mod E.m (by intro h2; rcases h2 with ⟨h0, h2⟩ | h2 <;> first | omega | (have hb := HBR.out _ h2; omega))) rfl))
  · exact stepq_chain rfl
  intro u1_0 hr
  have zu1_0 := hr.size
  have Cx2 := hid (hr.new (S := (fun k => (R k))))
  have Hx3 := hid (Hx1.out.mod hr (by intro k h1 h2; have hb := HBR.out k h1; omega))
  clear Hx1
  clear hr
  refine QChain.go fun Z act E => ?_
  refine qc_callF (args := #[.pointer (some ⟨g, 0, none⟩), .int .i64 a]) rfl (wanted_none rfl) rfl Try.func64 (args2 (E.d 0) (E.d 2)) (WInt_Q Hx3.out HA.out (by have := HL.out; simp only [List.length_append] at this ⊢; omega)) ?_
  rintro e u1_1a ⟨rfl, qwr, hm⟩
  have zu1_1a := hm.size
  refine ⟨_, rfl, hm.mono (by intro k hk h; first | omega | exact Or.inl ⟨(by have hb := HBR.out k h; omega), Or.inl ⟨rfl, h⟩⟩), (fun _ => rfl), ?_⟩
  intro u1_1 hr
  have zu1_1 := hr.size
  have Hx4 := hid ((qwr.widen (R' := (fun k => (R k) ∨ (New u1_0 u1_1a k))) (fun _ h => h) (Nat.le_refl _)).mod hr (by intro k h1 h2; rcases h1 with h1 | h1 <;> first | omega | (have hb := HBR.out k h1; omega)))
  have Cx5 := hid (Cx2.out.goM hm hr (fun _ _ h => h))
  clear Cx2 hm hr Z act E qwr Hx3
  refine QChain.go fun Z act E => ?_
  refine qc_callF (args := #[.pointer (some ⟨g, 0, none⟩), .int .i64 b]) rfl (wanted_none rfl) rfl Try.func64 (args2 (E.d 3) (E.d 5)) (WInt_Q Hx4.out HB.out (by have := HL.out; simp only [List.length_append] at this ⊢; omega)) ?_
  rintro e u1_2a ⟨rfl, qwr, hm⟩
  have zu1_2a := hm.size
  refine ⟨_, rfl, hm.mono (by intro k hk h; rcases h with h | h <;> first | omega | exact Or.inl ⟨(by have hb := HBR.out k h; omega), Or.inr (⟨rfl, h⟩)⟩), (fun _ => rfl), ?_⟩
  intro u1_2 hr
  have zu1_2 := hr.size
  have Hx6 := hid ((qwr.widen (R' := (fun k => (R k) ∨ (New u1_0 u1_1a k) ∨ (New u1_1 u1_2a k))) (by intro k h1; simp only [or_assoc] at h1 ⊢; exact h1) (Nat.le_refl _)).mod hr (by intro k h1 h2; rcases h1 with h1 | h1 | h1 <;> first | omega | (have hb := HBR.out k h1; omega)))
  have Cx7 := hid (Cx5.out.goM hm hr (by intro k h0 h2; rcases h2 with h2 | h2 <;> first | omega | exact h2))
  clear Cx5 hm hr Z act E qwr Hx4
  refine QChain.nil fun vs hl hzz hrows hne => ?_
  obtain ⟨Z, hYZ, hZb, hV⟩ := hzz
  have f0 := fvi hV hl 0
  have f3 := fvi hV hl 3
  have f6 := fvi hV hl 6
  rw [show vs = [gw vs 0, gw vs 1, gw vs 2, gw vs 3, gw vs 4, gw vs 5, gw vs 6] from (gw_eta hl).trans rfl]
  have ha0 := HA0.out
  subst ha0
  clear HA0 hV hYZ hZb hsz0 hrows hne oe0 oe3
  simp only [putAll, Act.put, List.setIfInBounds_toArray, List.set_cons_zero, List.set_cons_succ, f0, f3, f6]
  clear hl f0 f3 f6
  go_wp2
  go_end0
  have hq := (Hx6.out.widen (R' := (fun k => R k ∨ New w u1_2 k)) (by intro k h1; rcases h1 with h1 | h1 | h1 <;> first | exact Or.inl h1 | (right; omega)) (Nat.le_refl _))
  simp only [List.append_assoc] at hq
  exact ⟨rfl, by simpa only [sigB, List.append_assoc] using hq, (HM0.out.trans Cx7.out (fun _ _ h => h))⟩
set_option maxHeartbeats 2000000 in
theorem PutName_Q {R : Nat → Prop} {g : Nat} {bs : List Int} {a b : Int} {w : World} (hW : WrR R 900000 w g bs) (hB : ∀ k, R k → k < w.heap.size) (ha : I64 a) (hb : I64 b) (hl : (bs ++ nameB a b).length ≤ 900000) :
    Calls Try.prog 65 #[.pointer (some ⟨g, 0, none⟩), .agg #[.int .i64 a, .int .i64 b]] w fun e w' => e = .returned (.tuple #[]) ∧ WrR (fun k => R k ∨ New w w' k) 900000 w' g (bs ++ nameB a b) ∧ Mod R w w' := by
  have HW := Lib.hid hW
  have HBR := Lib.hid hB
  have HL := hid (show (bs ++ (encI a ++ encI b)).length ≤ 900000 from hl)
  have HA := Lib.hid ha
  have HB := Lib.hid hb
  clear hW hB hl ha hb
  change Calls _ _ #[.pointer (some ⟨g, 0, none⟩), .agg #[.int .i64 a, .int .i64 b]] _ _
  go_enter Try.func65, Try.ntmps65
  go_upto_region 1 with (fail)
  obtain ⟨w1, hw1⟩ : ∃ zz, zz = (w.alloc (.cells #[.int .i64 a, .int .i64 b] 23)) := ⟨_, rfl⟩
  change Code.wp _ _ _ _ (w.alloc (.cells #[.int .i64 a, .int .i64 b] 23))
  rw [← hw1]
  have HB3 := hid (show Cs w1 (w.heap.size) #[.int .i64 a, .int .i64 b] 23 by rw [hw1]; exact Cs.new _ _ _)
  have hm : Mod (fun _ => False) w w1 := by rw [hw1]; exact (Mod.refl _ _).alloc _
  have HM0 := hid (show Mod (fun k => (R k)) w w1 from hm.mono (fun _ _ h => h.elim))
  have hs1 : w1.heap.size = w.heap.size + 1 := by rw [hw1]; simp
  have Hx1 := hid (HW.out.mod hm (fun _ _ h => h))
  clear HW
  clear hw1 hm
  go_upto_region 1 with (fail)
  generalize ha0 : Act.mk _ _ = a0
  have oe0 : a0.eval (.tmp 0) = .pointer (some ⟨g, 0, none⟩) := by rw [← ha0]; rfl
  have oe3 : a0.eval (.tmp 3) = .pointer (some ⟨w.heap.size, 0, none⟩) := by rw [← ha0]; rfl
  have hsz0 : a0.tmps.size = 11 := by rw [← ha0]; rfl
  have HA0 := hid ha0
  clear ha0
  refine wp_region_Q1 11 hsz0 [4, 5, 6, 7, 8, 9, 10] (fun k => (R k)) (fun k j => (k = 0 ∧ ((R j))) ∨ (k = 1 ∧ ((R j)))) (by intro k j h; (try dsimp only at h ⊢); rcases h with ⟨-, h⟩ | ⟨-, h⟩; (exact h); (exact h)) [qi (.pointer (some ⟨g, 0, none⟩)), qi (.pointer (some ⟨w.heap.size, 0, none⟩)), qi (.int .i64 a), qi (.pointer (some ⟨g, 0, none⟩)), qi (.pointer (some ⟨w.heap.size, 1, none⟩)), qi (.int .i64 b), qi (.pointer (some ⟨g, 0, none⟩))] ⟨qi_stable, qi_stable, qi_stable, qi_stable, qi_stable, qi_stable, qi_stable, trivial⟩ [3, 6] ⟨?_, ?_, ?_, ?_, ?_, ?_, ?_, trivial⟩ ?_
  · exact stq (fun E => ex_move rfl (E.v oe0))
  · exact stq (fun E => ex_field rfl Try.underlying23 rfl (by kernel_rfl) (E.v oe3))
  · exact stq (fun E => ex_load1 rfl Try.underlying3 rfl (E.d 1) (Cs.lit1 (HB3.out.mod E.m (by intro h2; rcases h2 with ⟨h0, h2⟩ | h2 <;> first | omega | (have hb := HBR.out _ h2; omega))) rfl))
  · exact stepq_chain rfl
  · exact stq (fun E => ex_field rfl Try.underlying23 rfl (by kernel_rfl) (E.v oe3))
  · exact stq (fun E => ex_load1 rfl Try.underlying3 rfl (E.d 4) (Cs.lit1 (HB3.out.mod E.m (by intro h2; rcases h2 with ⟨h0, h2⟩ | h2 <;> first | omega | (have hb := HBR.out _ h2; omega))) rfl))
  · exact stepq_chain rfl
  intro u1_0 hr
  have zu1_0 := hr.size
  have Cx2 := hid (hr.new (S := (fun k => (R k))))
  have Hx3 := hid (Hx1.out.mod hr (by intro k h1 h2; have hb := HBR.out k h1; omega))
  clear Hx1
  clear hr
  refine QChain.go fun Z act E => ?_
  refine qc_callF (args := #[.pointer (some ⟨g, 0, none⟩), .int .i64 a]) rfl (wanted_none rfl) rfl Try.func64 (args2 (E.d 0) (E.d 2)) (WInt_Q Hx3.out HA.out (by have := HL.out; simp only [List.length_append] at this ⊢; omega)) ?_
  rintro e u1_1a ⟨rfl, qwr, hm⟩
  have zu1_1a := hm.size
  refine ⟨_, rfl, hm.mono (by intro k hk h; first | omega | exact Or.inl ⟨(by have hb := HBR.out k h; omega), Or.inl ⟨rfl, h⟩⟩), (fun _ => rfl), ?_⟩
  intro u1_1 hr
  have zu1_1 := hr.size
  have Hx4 := hid ((qwr.widen (R' := (fun k => (R k) ∨ (New u1_0 u1_1a k))) (fun _ h => h) (Nat.le_refl _)).mod hr (by intro k h1 h2; rcases h1 with h1 | h1 <;> first | omega | (have hb := HBR.out k h1; omega)))
  have Cx5 := hid (Cx2.out.goM hm hr (fun _ _ h => h))
  clear Cx2 hm hr Z act E qwr Hx3
  refine QChain.go fun Z act E => ?_
  refine qc_callF (args := #[.pointer (some ⟨g, 0, none⟩), .int .i64 b]) rfl (wanted_none rfl) rfl Try.func64 (args2 (E.d 3) (E.d 5)) (WInt_Q Hx4.out HB.out (by have := HL.out; simp only [List.length_append] at this ⊢; omega)) ?_
  rintro e u1_2a ⟨rfl, qwr, hm⟩
  have zu1_2a := hm.size
  refine ⟨_, rfl, hm.mono (by intro k hk h; rcases h with h | h <;> first | omega | exact Or.inl ⟨(by have hb := HBR.out k h; omega), Or.inr (⟨rfl, h⟩)⟩), (fun _ => rfl), ?_⟩
  intro u1_2 hr
  have zu1_2 := hr.size
  have Hx6 := hid ((qwr.widen (R' := (fun k => (R k) ∨ (New u1_0 u1_1a k) ∨ (New u1_1 u1_2a k))) (by intro k h1; simp only [or_assoc] at h1 ⊢; exact h1) (Nat.le_refl _)).mod hr (by intro k h1 h2; rcases h1 with h1 | h1 | h1 <;> first | omega | (have hb := HBR.out k h1; omega)))
  have Cx7 := hid (Cx5.out.goM hm hr (by intro k h0 h2; rcases h2 with h2 | h2 <;> first | omega | exact h2))
  clear Cx5 hm hr Z act E qwr Hx4
  refine QChain.nil fun vs hl hzz hrows hne => ?_
  obtain ⟨Z, hYZ, hZb, hV⟩ := hzz
  have f0 := fvi hV hl 0
  have f3 := fvi hV hl 3
  have f6 := fvi hV hl 6
  rw [show vs = [gw vs 0, gw vs 1, gw vs 2, gw vs 3, gw vs 4, gw vs 5, gw vs 6] from (gw_eta hl).trans rfl]
  have ha0 := HA0.out
  subst ha0
  clear HA0 hV hYZ hZb hsz0 hrows hne oe0 oe3
  simp only [putAll, Act.put, List.setIfInBounds_toArray, List.set_cons_zero, List.set_cons_succ, f0, f3, f6]
  clear hl f0 f3 f6
  go_wp2
  go_end0
  have hq := (Hx6.out.widen (R' := (fun k => R k ∨ New w u1_2 k)) (by intro k h1; rcases h1 with h1 | h1 | h1 <;> first | exact Or.inl h1 | (right; omega)) (Nat.le_refl _))
  simp only [List.append_assoc] at hq
  exact ⟨rfl, by simpa only [nameB, List.append_assoc] using hq, (HM0.out.trans Cx7.out (fun _ _ h => h))⟩
set_option maxHeartbeats 4000000 in
theorem PutCm_Q : Puts CmR 139 cmB := by
  intro R R2 g bs cs x w hW hB hx hB2 hD hl
  obtain ⟨rfl, hok⟩ := hx
  have HW := Lib.hid hW
  have HBR := Lib.hid hB
  have HBT := Lib.hid hB2
  have HDJ := Lib.hid hD
  have HOK := Lib.hid hok
  have HL := Lib.hid hl
  clear hW hB hB2 hD hl hok
  unfold cmB at HL
  go_enter Try.func139, Try.ntmps139
  go_upto_region 1 with (fail)
  obtain ⟨w1, hw1⟩ : ∃ zz, zz = (w.alloc (.cells (x.cells : List Value).toArray 49)) := ⟨_, rfl⟩
  change Code.wp _ _ _ _ (w.alloc (.cells (x.cells : List Value).toArray 49))
  rw [← hw1]
  have HB3 := hid (show Cs w1 (w.heap.size) (x.cells : List Value).toArray 49 by rw [hw1]; exact Cs.new _ _ _)
  have hm : Mod (fun _ => False) w w1 := by rw [hw1]; exact (Mod.refl _ _).alloc _
  have HM0 := hid (show Mod (fun k => (R k)) w w1 from hm.mono (fun _ _ h => h.elim))
  have hs1 : w1.heap.size = w.heap.size + 1 := by rw [hw1]; simp
  have Hx1 := hid (HW.out.mod hm (fun _ _ h => h))
  clear HW
  clear hw1 hm
  go_upto_region 1 with (fail)
  generalize ha0 : Act.mk _ _ = a0
  have oe0 : a0.eval (.tmp 0) = .pointer (some ⟨g, 0, none⟩) := by rw [← ha0]; rfl
  have oe3 : a0.eval (.tmp 3) = .pointer (some ⟨w.heap.size, 0, none⟩) := by rw [← ha0]; rfl
  have hsz0 : a0.tmps.size = 19 := by rw [← ha0]; rfl
  have HA0 := hid ha0
  clear ha0
  refine wp_region_Q1 19 hsz0 [4, 5, 6, 7] (fun k => (R k)) (fun k j => (k = 0 ∧ ((R j)))) (fun _ _ h => h.2) [qi (.pointer (some ⟨g, 0, none⟩)), qi (.pointer (some ⟨w.heap.size, 0, none⟩)), qi (.agg #[.int .i64 x.cl, .int .i64 x.sq]), qi (.tuple #[])] ⟨qi_stable, qi_stable, qi_stable, qi_stable, trivial⟩ [3] ⟨?_, ?_, ?_, ?_, trivial⟩ ?_
  · exact stq (fun E => ex_move rfl (E.v oe0))
  · exact stq (fun E => ex_field rfl Try.underlying49 rfl (by kernel_rfl) (E.v oe3))
  · exact stq (fun E => ex_loadA rfl Try.underlying23 rfl (off := 0) (cs := [.int .i64 x.cl, .int .i64 x.sq]) (by kernel_rfl) (E.d 1) (Cs.preA (pre := [.int .i64 x.cl, .int .i64 x.sq]) (mid := x.h.map bv) (post := [.int .i64 x.ln, .int .i64 x.sb, .int .i64 x.mr]) (HB3.out.mod E.m (by intro h2; rcases h2 with ⟨h0, h2⟩ | h2 <;> first | omega | (have hb := HBR.out _ h2; omega))) rfl))
  · exact stepq_chain rfl
  intro u1_0 hr
  have zu1_0 := hr.size
  have Cx2 := hid (hr.new (S := (fun k => (R k))))
  have Hx3 := hid (Hx1.out.mod hr (by intro k h1 h2; have hb := HBR.out k h1; omega))
  clear Hx1
  clear hr
  refine QChain.go fun Z act E => ?_
  refine qc_callF (args := #[.pointer (some ⟨g, 0, none⟩), .agg #[.int .i64 x.cl, .int .i64 x.sq]]) rfl (wanted_none rfl) rfl Try.func65 (args2 (E.d 0) (E.d 2)) (PutName_Q Hx3.out (by intro k h1; have hb := HBR.out k h1; omega) HOK.out.1.1 HOK.out.1.2.1 (by have := HL.out; simp only [List.length_append] at this ⊢; omega)) ?_
  rintro e u1_1a ⟨rfl, qwr, hm⟩
  have zu1_1a := hm.size
  refine ⟨_, rfl, hm.mono (by intro k hk h; first | omega | exact Or.inl ⟨(by have hb := HBR.out k h; omega), ⟨rfl, h⟩⟩), (fun _ => rfl), ?_⟩
  intro u1_1 hr
  have zu1_1 := hr.size
  have Hx4 := hid ((qwr.widen (R' := (fun k => (R k) ∨ (New u1_0 u1_1a k))) (fun _ h => h) (Nat.le_refl _)).mod hr (by intro k h1 h2; rcases h1 with h1 | h1 <;> first | omega | (have hb := HBR.out k h1; omega)))
  have Cx5 := hid (Cx2.out.goM hm hr (fun _ _ h => h))
  clear Cx2 hm hr Z act E qwr Hx3
  refine QChain.nil fun vs hl hzz hrows hne => ?_
  obtain ⟨Z, hYZ, hZb, hV⟩ := hzz
  have f0 := fvi hV hl 0
  have f3 := fvi hV hl 3
  rw [show vs = [gw vs 0, gw vs 1, gw vs 2, gw vs 3] from (gw_eta hl).trans rfl]
  have ha0 := HA0.out
  subst ha0
  clear HA0 hV hYZ hZb hsz0 hrows hne oe0 oe3
  simp only [putAll, Act.put, List.setIfInBounds_toArray, List.set_cons_zero, List.set_cons_succ, f0, f3]
  clear hl f0 f3
  go_upto_region 2 with (fail)
  generalize ha0 : Act.mk _ _ = a0
  have oe0 : a0.eval (.tmp 0) = .pointer (some ⟨g, 0, none⟩) := by rw [← ha0]; rfl
  have oe3 : a0.eval (.tmp 3) = .pointer (some ⟨w.heap.size, 0, none⟩) := by rw [← ha0]; rfl
  have hsz0 : a0.tmps.size = 19 := by rw [← ha0]; rfl
  have HA0 := hid ha0
  clear ha0
  refine wp_region_Q1 19 hsz0 [8, 9, 10, 11, 12, 13, 14] (fun k => (R k) ∨ (New u1_0 u1_1a k)) (fun k j => (k = 0 ∧ ((R j) ∨ (New u1_0 u1_1a j))) ∨ (k = 1 ∧ ((R j) ∨ (New u1_0 u1_1a j)))) (by intro k j h; (try dsimp only at h ⊢); rcases h with ⟨-, h | h⟩ | ⟨-, h | h⟩; (exact Or.inl (h)); (exact Or.inr (h)); (exact Or.inl (h)); (exact Or.inr (h))) [qi (.pointer (some ⟨g, 0, none⟩)), qi (.pointer (some ⟨w.heap.size, 2, none⟩)), qi (hv x.h), qi (.pointer (some ⟨g, 0, none⟩)), qi (.pointer (some ⟨w.heap.size, 34, none⟩)), qi (.int .i64 x.ln), qi (.pointer (some ⟨g, 0, none⟩))] ⟨qi_stable, qi_stable, qi_stable, qi_stable, qi_stable, qi_stable, qi_stable, trivial⟩ [3, 6] ⟨?_, ?_, ?_, ?_, ?_, ?_, ?_, trivial⟩ ?_
  · exact stq (fun E => ex_move rfl (E.v oe0))
  · exact stq (fun E => ex_field rfl Try.underlying49 rfl (by kernel_rfl) (E.v oe3))
  · exact stq (fun E => ex_loadA rfl Try.underlying25 rfl (off := 2) (cs := x.h.map bv) (by rw [List.length_map, HOK.out.2.1]; exact size_hash) (E.d 1) (((HB3.out.mod Cx5.out (by intro h2; first | omega | (have hb := HBR.out _ h2; omega))).mod E.m (by intro h2; rcases h2 with ⟨h0, h2 | h2⟩ | h2 <;> first | omega | (have hb := HBR.out _ h2; omega))).hash))
  · exact stepq_chain rfl
  · exact stq (fun E => ex_field rfl Try.underlying49 rfl (by kernel_rfl) (E.v oe3))
  · exact stq (fun E => ex_load1 rfl Try.underlying3 rfl (E.d 4) (((HB3.out.mod Cx5.out (by intro h2; first | omega | (have hb := HBR.out _ h2; omega))).mod E.m (by intro h2; rcases h2 with ⟨h0, h2 | h2⟩ | h2 <;> first | omega | (have hb := HBR.out _ h2; omega))).c34 HOK.out.2.1))
  · exact stepq_chain rfl
  intro u2_0 hr
  have zu2_0 := hr.size
  have Cx6 := hid (hr.new (S := (fun k => (R k) ∨ (New u1_0 u1_1a k))))
  have Hx7 := hid (Hx4.out.mod hr (by intro k h1 h2; rcases h1 with h1 | h1 <;> first | omega | (have hb := HBR.out k h1; omega)))
  clear Hx4
  clear hr
  refine QChain.go fun Z act E => ?_
  refine qc_callF (args := #[.pointer (some ⟨g, 0, none⟩), hv x.h]) rfl (wanted_none rfl) rfl Try.func66 (args2 (E.d 0) (E.d 2)) (WHash_Q Hx7.out HOK.out.2 (by have := HL.out; simp only [List.length_append] at this ⊢; omega)) ?_
  rintro e u2_1a ⟨rfl, qwr, hm⟩
  have zu2_1a := hm.size
  refine ⟨_, rfl, hm.mono (by intro k hk h; rcases h with h | h <;> first | omega | exact Or.inl ⟨(by have hb := HBR.out k h; omega), Or.inl ⟨rfl, Or.inl h⟩⟩), (fun _ => rfl), ?_⟩
  intro u2_1 hr
  have zu2_1 := hr.size
  have Hx8 := hid ((qwr.widen (R' := (fun k => (R k) ∨ (New u1_0 u1_1a k) ∨ (New u2_0 u2_1a k))) (by intro k h1; simp only [or_assoc] at h1 ⊢; exact h1) (Nat.le_refl _)).mod hr (by intro k h1 h2; rcases h1 with h1 | h1 | h1 <;> first | omega | (have hb := HBR.out k h1; omega)))
  have Cx9 := hid (Cx6.out.goM hm hr (fun _ _ h => h))
  clear Cx6 hm hr Z act E qwr Hx7
  refine QChain.go fun Z act E => ?_
  refine qc_callF (args := #[.pointer (some ⟨g, 0, none⟩), .int .i64 x.ln]) rfl (wanted_none rfl) rfl Try.func64 (args2 (E.d 3) (E.d 5)) (WInt_Q Hx8.out HOK.out.1.2.2.1 (by have := HL.out; simp only [List.length_append] at this ⊢; omega)) ?_
  rintro e u2_2a ⟨rfl, qwr, hm⟩
  have zu2_2a := hm.size
  refine ⟨_, rfl, hm.mono (by intro k hk h; rcases h with h | h | h <;> first | omega | exact Or.inl ⟨(by have hb := HBR.out k h; omega), Or.inr (⟨rfl, Or.inl h⟩)⟩), (fun _ => rfl), ?_⟩
  intro u2_2 hr
  have zu2_2 := hr.size
  have Hx10 := hid ((qwr.widen (R' := (fun k => (R k) ∨ (New u1_0 u1_1a k) ∨ (New u2_0 u2_1a k) ∨ (New u2_1 u2_2a k))) (by intro k h1; simp only [or_assoc] at h1 ⊢; exact h1) (Nat.le_refl _)).mod hr (by intro k h1 h2; rcases h1 with h1 | h1 | h1 | h1 <;> first | omega | (have hb := HBR.out k h1; omega)))
  have Cx11 := hid (Cx9.out.goM hm hr (by intro k h0 h2; rcases h2 with h2 | h2 | h2 <;> first | omega | exact Or.inl h2 | exact Or.inr (h2)))
  clear Cx9 hm hr Z act E qwr Hx8
  refine QChain.nil fun vs hl hzz hrows hne => ?_
  obtain ⟨Z, hYZ, hZb, hV⟩ := hzz
  have f0 := fvi hV hl 0
  have f3 := fvi hV hl 3
  have f6 := fvi hV hl 6
  rw [show vs = [gw vs 0, gw vs 1, gw vs 2, gw vs 3, gw vs 4, gw vs 5, gw vs 6] from (gw_eta hl).trans rfl]
  have ha0 := HA0.out
  subst ha0
  clear HA0 hV hYZ hZb hsz0 hrows hne oe0 oe3
  simp only [putAll, Act.put, List.setIfInBounds_toArray, List.set_cons_zero, List.set_cons_succ, f0, f3, f6]
  clear hl f0 f3 f6
  go_upto_region 3 with (fail)
  generalize ha0 : Act.mk _ _ = a0
  have oe0 : a0.eval (.tmp 0) = .pointer (some ⟨g, 0, none⟩) := by rw [← ha0]; rfl
  have oe3 : a0.eval (.tmp 3) = .pointer (some ⟨w.heap.size, 0, none⟩) := by rw [← ha0]; rfl
  have hsz0 : a0.tmps.size = 19 := by rw [← ha0]; rfl
  have HA0 := hid ha0
  clear ha0
  refine wp_region_Q1 19 hsz0 [15, 16, 17, 18] (fun k => (R k) ∨ (New u1_0 u1_1a k) ∨ (New u2_0 u2_1a k) ∨ (New u2_1 u2_2a k)) (fun k j => (k = 0 ∧ ((R j) ∨ (New u1_0 u1_1a j) ∨ (New u2_0 u2_1a j) ∨ (New u2_1 u2_2a j)))) (fun _ _ h => h.2) [qi (.pointer (some ⟨g, 0, none⟩)), qi (.pointer (some ⟨w.heap.size, 35, none⟩)), qi (.agg #[.int .i64 x.sb, .int .i64 x.mr]), qi (.tuple #[])] ⟨qi_stable, qi_stable, qi_stable, qi_stable, trivial⟩ [3] ⟨?_, ?_, ?_, ?_, trivial⟩ ?_
  · exact stq (fun E => ex_move rfl (E.v oe0))
  · exact stq (fun E => ex_field rfl Try.underlying49 rfl (by kernel_rfl) (E.v oe3))
  · exact stq (fun E => ex_loadA rfl Try.underlying28 rfl (off := 35) (cs := [.int .i64 x.sb, .int .i64 x.mr]) (by kernel_rfl) (E.d 1) ((((HB3.out.mod Cx5.out (by intro h2; first | omega | (have hb := HBR.out _ h2; omega))).mod Cx11.out (by intro h2; rcases h2 with h2 | h2 <;> first | omega | (have hb := HBR.out _ h2; omega))).mod E.m (by intro h2; rcases h2 with ⟨h0, h2 | h2 | h2 | h2⟩ | h2 <;> first | omega | (have hb := HBR.out _ h2; omega))).sig HOK.out.2.1))
  · exact stepq_chain rfl
  intro u3_0 hr
  have zu3_0 := hr.size
  have Cx12 := hid (hr.new (S := (fun k => (R k) ∨ (New u1_0 u1_1a k) ∨ (New u2_0 u2_1a k) ∨ (New u2_1 u2_2a k))))
  have Hx13 := hid (Hx10.out.mod hr (by intro k h1 h2; rcases h1 with h1 | h1 | h1 | h1 <;> first | omega | (have hb := HBR.out k h1; omega)))
  clear Hx10
  clear hr
  refine QChain.go fun Z act E => ?_
  refine qc_callF (args := #[.pointer (some ⟨g, 0, none⟩), .agg #[.int .i64 x.sb, .int .i64 x.mr]]) rfl (wanted_none rfl) rfl Try.func142 (args2 (E.d 0) (E.d 2)) (PutSig_Q Hx13.out (by intro k h1; rcases h1 with h1 | h1 | h1 | h1 <;> first | omega | (have hb := HBR.out k h1; omega)) HOK.out.1.2.2.2.1 HOK.out.1.2.2.2.2 (by have := HL.out; simp only [List.length_append] at this ⊢; omega)) ?_
  rintro e u3_1a ⟨rfl, qwr, hm⟩
  have zu3_1a := hm.size
  refine ⟨_, rfl, hm.mono (by intro k hk h; rcases h with h | h | h | h <;> first | omega | exact Or.inl ⟨(by have hb := HBR.out k h; omega), ⟨rfl, Or.inl h⟩⟩), (fun _ => rfl), ?_⟩
  intro u3_1 hr
  have zu3_1 := hr.size
  have Hx14 := hid ((qwr.widen (R' := (fun k => (R k) ∨ (New u1_0 u1_1a k) ∨ (New u2_0 u2_1a k) ∨ (New u2_1 u2_2a k) ∨ (New u3_0 u3_1a k))) (by intro k h1; simp only [or_assoc] at h1 ⊢; exact h1) (Nat.le_refl _)).mod hr (by intro k h1 h2; rcases h1 with h1 | h1 | h1 | h1 | h1 <;> first | omega | (have hb := HBR.out k h1; omega)))
  have Cx15 := hid (Cx12.out.goM hm hr (fun _ _ h => h))
  clear Cx12 hm hr Z act E qwr Hx13
  refine QChain.nil fun vs hl hzz hrows hne => ?_
  obtain ⟨Z, hYZ, hZb, hV⟩ := hzz
  have f0 := fvi hV hl 0
  have f3 := fvi hV hl 3
  rw [show vs = [gw vs 0, gw vs 1, gw vs 2, gw vs 3] from (gw_eta hl).trans rfl]
  have ha0 := HA0.out
  subst ha0
  clear HA0 hV hYZ hZb hsz0 hrows hne oe0 oe3
  simp only [putAll, Act.put, List.setIfInBounds_toArray, List.set_cons_zero, List.set_cons_succ, f0, f3]
  clear hl f0 f3
  go_wp2
  go_end0
  have hq := (Hx14.out.widen (R' := (fun k => R k ∨ New w u3_1 k)) (by intro k h1; rcases h1 with h1 | h1 | h1 | h1 | h1 <;> first | exact Or.inl h1 | (right; omega)) (Nat.le_refl _))
  simp only [List.append_assoc] at hq
  exact ⟨rfl, by simpa only [cmB, List.append_assoc] using hq, (((HM0.out.trans Cx5.out (fun _ _ h => h)).trans Cx11.out (by intro k h1 h2; rcases h2 with h2 | h2 <;> first | exact h2 | omega | (have hb := HBR.out k h2; omega))).trans Cx15.out (by intro k h1 h2; rcases h2 with h2 | h2 | h2 | h2 <;> first | exact h2 | omega | (have hb := HBR.out k h2; omega)))⟩
set_option maxHeartbeats 4000000 in
theorem PutSt_Q : Puts StR 141 stB := by
  intro R R2 g bs cs x w hW hB hx hB2 hD hl
  obtain ⟨rfl, hok⟩ := hx
  have HW := Lib.hid hW
  have HBR := Lib.hid hB
  have HBT := Lib.hid hB2
  have HDJ := Lib.hid hD
  have HOK := Lib.hid hok
  have HL := Lib.hid hl
  clear hW hB hB2 hD hl hok
  unfold stB at HL
  go_enter Try.func141, Try.ntmps141
  go_upto_region 1 with (fail)
  obtain ⟨w1, hw1⟩ : ∃ zz, zz = (w.alloc (.cells (x.cells : List Value).toArray 30)) := ⟨_, rfl⟩
  change Code.wp _ _ _ _ (w.alloc (.cells (x.cells : List Value).toArray 30))
  rw [← hw1]
  have HB3 := hid (show Cs w1 (w.heap.size) (x.cells : List Value).toArray 30 by rw [hw1]; exact Cs.new _ _ _)
  have hm : Mod (fun _ => False) w w1 := by rw [hw1]; exact (Mod.refl _ _).alloc _
  have HM0 := hid (show Mod (fun k => (R k)) w w1 from hm.mono (fun _ _ h => h.elim))
  have hs1 : w1.heap.size = w.heap.size + 1 := by rw [hw1]; simp
  have Hx1 := hid (HW.out.mod hm (fun _ _ h => h))
  clear HW
  clear hw1 hm
  go_upto_region 1 with (fail)
  generalize ha0 : Act.mk _ _ = a0
  have oe0 : a0.eval (.tmp 0) = .pointer (some ⟨g, 0, none⟩) := by rw [← ha0]; rfl
  have oe3 : a0.eval (.tmp 3) = .pointer (some ⟨w.heap.size, 0, none⟩) := by rw [← ha0]; rfl
  have hsz0 : a0.tmps.size = 23 := by rw [← ha0]; rfl
  have HA0 := hid ha0
  clear ha0
  refine wp_region_Q1 23 hsz0 [4, 5, 6, 7] (fun k => (R k)) (fun k j => (k = 0 ∧ ((R j)))) (fun _ _ h => h.2) [qi (.pointer (some ⟨g, 0, none⟩)), qi (.pointer (some ⟨w.heap.size, 0, none⟩)), qi (.int .i64 x.rp), qi (.pointer (some ⟨g, 0, none⟩))] ⟨qi_stable, qi_stable, qi_stable, qi_stable, trivial⟩ [3] ⟨?_, ?_, ?_, ?_, trivial⟩ ?_
  · exact stq (fun E => ex_move rfl (E.v oe0))
  · exact stq (fun E => ex_field rfl Try.underlying30 rfl (by kernel_rfl) (E.v oe3))
  · exact stq (fun E => ex_load1 rfl Try.underlying3 rfl (E.d 1) (Cs.pre1 (HB3.out.mod E.m (by intro h2; rcases h2 with ⟨h0, h2⟩ | h2 <;> first | omega | (have hb := HBR.out _ h2; omega))) rfl))
  · exact stepq_chain rfl
  intro u1_0 hr
  have zu1_0 := hr.size
  have Cx2 := hid (hr.new (S := (fun k => (R k))))
  have Hx3 := hid (Hx1.out.mod hr (by intro k h1 h2; have hb := HBR.out k h1; omega))
  clear Hx1
  clear hr
  refine QChain.go fun Z act E => ?_
  refine qc_callF (args := #[.pointer (some ⟨g, 0, none⟩), .int .i64 x.rp]) rfl (wanted_none rfl) rfl Try.func64 (args2 (E.d 0) (E.d 2)) (WInt_Q Hx3.out HOK.out.rp (by have := HL.out; simp only [List.length_append] at this ⊢; omega)) ?_
  rintro e u1_1a ⟨rfl, qwr, hm⟩
  have zu1_1a := hm.size
  refine ⟨_, rfl, hm.mono (by intro k hk h; first | omega | exact Or.inl ⟨(by have hb := HBR.out k h; omega), ⟨rfl, h⟩⟩), (fun _ => rfl), ?_⟩
  intro u1_1 hr
  have zu1_1 := hr.size
  have Hx4 := hid ((qwr.widen (R' := (fun k => (R k) ∨ (New u1_0 u1_1a k))) (fun _ h => h) (Nat.le_refl _)).mod hr (by intro k h1 h2; rcases h1 with h1 | h1 <;> first | omega | (have hb := HBR.out k h1; omega)))
  have Cx5 := hid (Cx2.out.goM hm hr (fun _ _ h => h))
  clear Cx2 hm hr Z act E qwr Hx3
  refine QChain.nil fun vs hl hzz hrows hne => ?_
  obtain ⟨Z, hYZ, hZb, hV⟩ := hzz
  have f0 := fvi hV hl 0
  have f3 := fvi hV hl 3
  rw [show vs = [gw vs 0, gw vs 1, gw vs 2, gw vs 3] from (gw_eta hl).trans rfl]
  have ha0 := HA0.out
  subst ha0
  clear HA0 hV hYZ hZb hsz0 hrows hne oe0 oe3
  simp only [putAll, Act.put, List.setIfInBounds_toArray, List.set_cons_zero, List.set_cons_succ, f0, f3]
  clear hl f0 f3
  go_upto_region 2 with (fail)
  generalize ha0 : Act.mk _ _ = a0
  have oe0 : a0.eval (.tmp 0) = .pointer (some ⟨g, 0, none⟩) := by rw [← ha0]; rfl
  have oe3 : a0.eval (.tmp 3) = .pointer (some ⟨w.heap.size, 0, none⟩) := by rw [← ha0]; rfl
  have hsz0 : a0.tmps.size = 23 := by rw [← ha0]; rfl
  have HA0 := hid ha0
  clear ha0
  refine wp_region_Q1 23 hsz0 [8, 9, 10, 11] (fun k => (R k) ∨ (New u1_0 u1_1a k)) (fun k j => (k = 0 ∧ ((R j) ∨ (New u1_0 u1_1a j)))) (fun _ _ h => h.2) [qi (.pointer (some ⟨g, 0, none⟩)), qi (.pointer (some ⟨w.heap.size, 1, none⟩)), qi (.agg #[.int .i64 x.cl, .int .i64 x.sq]), qi (.tuple #[])] ⟨qi_stable, qi_stable, qi_stable, qi_stable, trivial⟩ [3] ⟨?_, ?_, ?_, ?_, trivial⟩ ?_
  · exact stq (fun E => ex_move rfl (E.v oe0))
  · exact stq (fun E => ex_field rfl Try.underlying30 rfl (by kernel_rfl) (E.v oe3))
  · exact stq (fun E => ex_loadA rfl Try.underlying23 rfl (off := 1) (cs := [.int .i64 x.cl, .int .i64 x.sq]) (by kernel_rfl) (E.d 1) (Cs.preA ((HB3.out.mod Cx5.out (by intro h2; first | omega | (have hb := HBR.out _ h2; omega))).mod E.m (by intro h2; rcases h2 with ⟨h0, h2 | h2⟩ | h2 <;> first | omega | (have hb := HBR.out _ h2; omega))) rfl))
  · exact stepq_chain rfl
  intro u2_0 hr
  have zu2_0 := hr.size
  have Cx6 := hid (hr.new (S := (fun k => (R k) ∨ (New u1_0 u1_1a k))))
  have Hx7 := hid (Hx4.out.mod hr (by intro k h1 h2; rcases h1 with h1 | h1 <;> first | omega | (have hb := HBR.out k h1; omega)))
  clear Hx4
  clear hr
  refine QChain.go fun Z act E => ?_
  refine qc_callF (args := #[.pointer (some ⟨g, 0, none⟩), .agg #[.int .i64 x.cl, .int .i64 x.sq]]) rfl (wanted_none rfl) rfl Try.func65 (args2 (E.d 0) (E.d 2)) (PutName_Q Hx7.out (by intro k h1; rcases h1 with h1 | h1 <;> first | omega | (have hb := HBR.out k h1; omega)) HOK.out.cl HOK.out.sq (by have := HL.out; simp only [List.length_append] at this ⊢; omega)) ?_
  rintro e u2_1a ⟨rfl, qwr, hm⟩
  have zu2_1a := hm.size
  refine ⟨_, rfl, hm.mono (by intro k hk h; rcases h with h | h <;> first | omega | exact Or.inl ⟨(by have hb := HBR.out k h; omega), ⟨rfl, Or.inl h⟩⟩), (fun _ => rfl), ?_⟩
  intro u2_1 hr
  have zu2_1 := hr.size
  have Hx8 := hid ((qwr.widen (R' := (fun k => (R k) ∨ (New u1_0 u1_1a k) ∨ (New u2_0 u2_1a k))) (by intro k h1; simp only [or_assoc] at h1 ⊢; exact h1) (Nat.le_refl _)).mod hr (by intro k h1 h2; rcases h1 with h1 | h1 | h1 <;> first | omega | (have hb := HBR.out k h1; omega)))
  have Cx9 := hid (Cx6.out.goM hm hr (fun _ _ h => h))
  clear Cx6 hm hr Z act E qwr Hx7
  refine QChain.nil fun vs hl hzz hrows hne => ?_
  obtain ⟨Z, hYZ, hZb, hV⟩ := hzz
  have f0 := fvi hV hl 0
  have f3 := fvi hV hl 3
  rw [show vs = [gw vs 0, gw vs 1, gw vs 2, gw vs 3] from (gw_eta hl).trans rfl]
  have ha0 := HA0.out
  subst ha0
  clear HA0 hV hYZ hZb hsz0 hrows hne oe0 oe3
  simp only [putAll, Act.put, List.setIfInBounds_toArray, List.set_cons_zero, List.set_cons_succ, f0, f3]
  clear hl f0 f3
  go_upto_region 3 with (fail)
  generalize ha0 : Act.mk _ _ = a0
  have oe0 : a0.eval (.tmp 0) = .pointer (some ⟨g, 0, none⟩) := by rw [← ha0]; rfl
  have oe3 : a0.eval (.tmp 3) = .pointer (some ⟨w.heap.size, 0, none⟩) := by rw [← ha0]; rfl
  have hsz0 : a0.tmps.size = 23 := by rw [← ha0]; rfl
  have HA0 := hid ha0
  clear ha0
  refine wp_region_Q1 23 hsz0 [12, 13, 14, 15, 16, 17, 18] (fun k => (R k) ∨ (New u1_0 u1_1a k) ∨ (New u2_0 u2_1a k)) (fun k j => (k = 0 ∧ ((R j) ∨ (New u1_0 u1_1a j) ∨ (New u2_0 u2_1a j))) ∨ (k = 1 ∧ ((R j) ∨ (New u1_0 u1_1a j) ∨ (New u2_0 u2_1a j)))) (by intro k j h; (try dsimp only at h ⊢); rcases h with ⟨-, h | h | h⟩ | ⟨-, h | h | h⟩; (exact Or.inl (h)); (exact Or.inr (Or.inl (h))); (exact Or.inr (Or.inr (h))); (exact Or.inl (h)); (exact Or.inr (Or.inl (h))); (exact Or.inr (Or.inr (h)))) [qi (.pointer (some ⟨g, 0, none⟩)), qi (.pointer (some ⟨w.heap.size, 3, none⟩)), qi (hv x.h), qi (.pointer (some ⟨g, 0, none⟩)), qi (.pointer (some ⟨w.heap.size, 35, none⟩)), qi (.int .u64 (x.tm : Nat)), qi (.pointer (some ⟨g, 0, none⟩))] ⟨qi_stable, qi_stable, qi_stable, qi_stable, qi_stable, qi_stable, qi_stable, trivial⟩ [3, 6] ⟨?_, ?_, ?_, ?_, ?_, ?_, ?_, trivial⟩ ?_
  · exact stq (fun E => ex_move rfl (E.v oe0))
  · exact stq (fun E => ex_field rfl Try.underlying30 rfl (by kernel_rfl) (E.v oe3))
  · exact stq (fun E => ex_loadA rfl Try.underlying25 rfl (off := 3) (cs := x.h.map bv) (by rw [List.length_map, HOK.out.h.1]; exact size_hash) (E.d 1) (Cs.midA (((HB3.out.mod Cx5.out (by intro h2; first | omega | (have hb := HBR.out _ h2; omega))).mod Cx9.out (by intro h2; rcases h2 with h2 | h2 <;> first | omega | (have hb := HBR.out _ h2; omega))).mod E.m (by intro h2; rcases h2 with ⟨h0, h2 | h2 | h2⟩ | h2 <;> first | omega | (have hb := HBR.out _ h2; omega))) rfl))
  · exact stepq_chain rfl
  · exact stq (fun E => ex_field rfl Try.underlying30 rfl (by kernel_rfl) (E.v oe3))
  · exact stq (fun E => ex_load1 rfl Try.underlying26 rfl (E.d 4) (Cs.post1 (m := 32) (k := 0) (((HB3.out.mod Cx5.out (by intro h2; first | omega | (have hb := HBR.out _ h2; omega))).mod Cx9.out (by intro h2; rcases h2 with h2 | h2 <;> first | omega | (have hb := HBR.out _ h2; omega))).mod E.m (by intro h2; rcases h2 with ⟨h0, h2 | h2 | h2⟩ | h2 <;> first | omega | (have hb := HBR.out _ h2; omega))) (by rw [List.length_map]; exact HOK.out.h.1) rfl rfl))
  · exact stepq_chain rfl
  intro u3_0 hr
  have zu3_0 := hr.size
  have Cx10 := hid (hr.new (S := (fun k => (R k) ∨ (New u1_0 u1_1a k) ∨ (New u2_0 u2_1a k))))
  have Hx11 := hid (Hx8.out.mod hr (by intro k h1 h2; rcases h1 with h1 | h1 | h1 <;> first | omega | (have hb := HBR.out k h1; omega)))
  clear Hx8
  clear hr
  refine QChain.go fun Z act E => ?_
  refine qc_callF (args := #[.pointer (some ⟨g, 0, none⟩), hv x.h]) rfl (wanted_none rfl) rfl Try.func66 (args2 (E.d 0) (E.d 2)) (WHash_Q Hx11.out HOK.out.h (by have := HL.out; simp only [List.length_append] at this ⊢; omega)) ?_
  rintro e u3_1a ⟨rfl, qwr, hm⟩
  have zu3_1a := hm.size
  refine ⟨_, rfl, hm.mono (by intro k hk h; rcases h with h | h | h <;> first | omega | exact Or.inl ⟨(by have hb := HBR.out k h; omega), Or.inl ⟨rfl, Or.inl h⟩⟩), (fun _ => rfl), ?_⟩
  intro u3_1 hr
  have zu3_1 := hr.size
  have Hx12 := hid ((qwr.widen (R' := (fun k => (R k) ∨ (New u1_0 u1_1a k) ∨ (New u2_0 u2_1a k) ∨ (New u3_0 u3_1a k))) (by intro k h1; simp only [or_assoc] at h1 ⊢; exact h1) (Nat.le_refl _)).mod hr (by intro k h1 h2; rcases h1 with h1 | h1 | h1 | h1 <;> first | omega | (have hb := HBR.out k h1; omega)))
  have Cx13 := hid (Cx10.out.goM hm hr (fun _ _ h => h))
  clear Cx10 hm hr Z act E qwr Hx11
  refine QChain.go fun Z act E => ?_
  refine qc_callF (args := #[.pointer (some ⟨g, 0, none⟩), .int .u64 (x.tm : Nat)]) rfl (wanted_none rfl) rfl Try.func67 (args2 (E.d 3) (E.d 5)) (WNum_Q Hx12.out HOK.out.tm (by have := HL.out; simp only [List.length_append] at this ⊢; omega)) ?_
  rintro e u3_2a ⟨rfl, qwr, hm⟩
  have zu3_2a := hm.size
  refine ⟨_, rfl, hm.mono (by intro k hk h; rcases h with h | h | h | h <;> first | omega | exact Or.inl ⟨(by have hb := HBR.out k h; omega), Or.inr (⟨rfl, Or.inl h⟩)⟩), (fun _ => rfl), ?_⟩
  intro u3_2 hr
  have zu3_2 := hr.size
  have Hx14 := hid ((qwr.widen (R' := (fun k => (R k) ∨ (New u1_0 u1_1a k) ∨ (New u2_0 u2_1a k) ∨ (New u3_0 u3_1a k) ∨ (New u3_1 u3_2a k))) (by intro k h1; simp only [or_assoc] at h1 ⊢; exact h1) (Nat.le_refl _)).mod hr (by intro k h1 h2; rcases h1 with h1 | h1 | h1 | h1 | h1 <;> first | omega | (have hb := HBR.out k h1; omega)))
  have Cx15 := hid (Cx13.out.goM hm hr (by intro k h0 h2; rcases h2 with h2 | h2 | h2 | h2 <;> first | omega | exact Or.inl h2 | exact Or.inr (Or.inl h2) | exact Or.inr (Or.inr (h2))))
  clear Cx13 hm hr Z act E qwr Hx12
  refine QChain.nil fun vs hl hzz hrows hne => ?_
  obtain ⟨Z, hYZ, hZb, hV⟩ := hzz
  have f0 := fvi hV hl 0
  have f3 := fvi hV hl 3
  have f6 := fvi hV hl 6
  rw [show vs = [gw vs 0, gw vs 1, gw vs 2, gw vs 3, gw vs 4, gw vs 5, gw vs 6] from (gw_eta hl).trans rfl]
  have ha0 := HA0.out
  subst ha0
  clear HA0 hV hYZ hZb hsz0 hrows hne oe0 oe3
  simp only [putAll, Act.put, List.setIfInBounds_toArray, List.set_cons_zero, List.set_cons_succ, f0, f3, f6]
  clear hl f0 f3 f6
  go_upto_region 4 with (fail)
  generalize ha0 : Act.mk _ _ = a0
  have oe0 : a0.eval (.tmp 0) = .pointer (some ⟨g, 0, none⟩) := by rw [← ha0]; rfl
  have oe3 : a0.eval (.tmp 3) = .pointer (some ⟨w.heap.size, 0, none⟩) := by rw [← ha0]; rfl
  have hsz0 : a0.tmps.size = 23 := by rw [← ha0]; rfl
  have HA0 := hid ha0
  clear ha0
  refine wp_region_Q1 23 hsz0 [19, 20, 21, 22] (fun k => (R k) ∨ (New u1_0 u1_1a k) ∨ (New u2_0 u2_1a k) ∨ (New u3_0 u3_1a k) ∨ (New u3_1 u3_2a k)) (fun k j => (k = 0 ∧ ((R j) ∨ (New u1_0 u1_1a j) ∨ (New u2_0 u2_1a j) ∨ (New u3_0 u3_1a j) ∨ (New u3_1 u3_2a j)))) (fun _ _ h => h.2) [qi (.pointer (some ⟨g, 0, none⟩)), qi (.pointer (some ⟨w.heap.size, 36, none⟩)), qi (.agg #[.int .i64 x.sb, .int .i64 x.mr]), qi (.tuple #[])] ⟨qi_stable, qi_stable, qi_stable, qi_stable, trivial⟩ [3] ⟨?_, ?_, ?_, ?_, trivial⟩ ?_
  · exact stq (fun E => ex_move rfl (E.v oe0))
  · exact stq (fun E => ex_field rfl Try.underlying30 rfl (by kernel_rfl) (E.v oe3))
  · exact stq (fun E => ex_loadA rfl Try.underlying28 rfl (off := 36) (cs := [.int .i64 x.sb, .int .i64 x.mr]) (by kernel_rfl) (E.d 1) (Cs.postA (m := 32) (k := 1) ((((HB3.out.mod Cx5.out (by intro h2; first | omega | (have hb := HBR.out _ h2; omega))).mod Cx9.out (by intro h2; rcases h2 with h2 | h2 <;> first | omega | (have hb := HBR.out _ h2; omega))).mod Cx15.out (by intro h2; rcases h2 with h2 | h2 | h2 <;> first | omega | (have hb := HBR.out _ h2; omega))).mod E.m (by intro h2; rcases h2 with ⟨h0, h2 | h2 | h2 | h2 | h2⟩ | h2 <;> first | omega | (have hb := HBR.out _ h2; omega))) (by rw [List.length_map]; exact HOK.out.h.1) rfl rfl))
  · exact stepq_chain rfl
  intro u4_0 hr
  have zu4_0 := hr.size
  have Cx16 := hid (hr.new (S := (fun k => (R k) ∨ (New u1_0 u1_1a k) ∨ (New u2_0 u2_1a k) ∨ (New u3_0 u3_1a k) ∨ (New u3_1 u3_2a k))))
  have Hx17 := hid (Hx14.out.mod hr (by intro k h1 h2; rcases h1 with h1 | h1 | h1 | h1 | h1 <;> first | omega | (have hb := HBR.out k h1; omega)))
  clear Hx14
  clear hr
  refine QChain.go fun Z act E => ?_
  refine qc_callF (args := #[.pointer (some ⟨g, 0, none⟩), .agg #[.int .i64 x.sb, .int .i64 x.mr]]) rfl (wanted_none rfl) rfl Try.func142 (args2 (E.d 0) (E.d 2)) (PutSig_Q Hx17.out (by intro k h1; rcases h1 with h1 | h1 | h1 | h1 | h1 <;> first | omega | (have hb := HBR.out k h1; omega)) HOK.out.sb HOK.out.mr (by have := HL.out; simp only [List.length_append] at this ⊢; omega)) ?_
  rintro e u4_1a ⟨rfl, qwr, hm⟩
  have zu4_1a := hm.size
  refine ⟨_, rfl, hm.mono (by intro k hk h; rcases h with h | h | h | h | h <;> first | omega | exact Or.inl ⟨(by have hb := HBR.out k h; omega), ⟨rfl, Or.inl h⟩⟩), (fun _ => rfl), ?_⟩
  intro u4_1 hr
  have zu4_1 := hr.size
  have Hx18 := hid ((qwr.widen (R' := (fun k => (R k) ∨ (New u1_0 u1_1a k) ∨ (New u2_0 u2_1a k) ∨ (New u3_0 u3_1a k) ∨ (New u3_1 u3_2a k) ∨ (New u4_0 u4_1a k))) (by intro k h1; simp only [or_assoc] at h1 ⊢; exact h1) (Nat.le_refl _)).mod hr (by intro k h1 h2; rcases h1 with h1 | h1 | h1 | h1 | h1 | h1 <;> first | omega | (have hb := HBR.out k h1; omega)))
  have Cx19 := hid (Cx16.out.goM hm hr (fun _ _ h => h))
  clear Cx16 hm hr Z act E qwr Hx17
  refine QChain.nil fun vs hl hzz hrows hne => ?_
  obtain ⟨Z, hYZ, hZb, hV⟩ := hzz
  have f0 := fvi hV hl 0
  have f3 := fvi hV hl 3
  rw [show vs = [gw vs 0, gw vs 1, gw vs 2, gw vs 3] from (gw_eta hl).trans rfl]
  have ha0 := HA0.out
  subst ha0
  clear HA0 hV hYZ hZb hsz0 hrows hne oe0 oe3
  simp only [putAll, Act.put, List.setIfInBounds_toArray, List.set_cons_zero, List.set_cons_succ, f0, f3]
  clear hl f0 f3
  go_wp2
  go_end0
  have hq := (Hx18.out.widen (R' := (fun k => R k ∨ New w u4_1 k)) (by intro k h1; rcases h1 with h1 | h1 | h1 | h1 | h1 | h1 <;> first | exact Or.inl h1 | (right; omega)) (Nat.le_refl _))
  simp only [List.append_assoc] at hq
  exact ⟨rfl, by simpa only [stB, List.append_assoc] using hq, ((((HM0.out.trans Cx5.out (fun _ _ h => h)).trans Cx9.out (by intro k h1 h2; rcases h2 with h2 | h2 <;> first | exact h2 | omega | (have hb := HBR.out k h2; omega))).trans Cx15.out (by intro k h1 h2; rcases h2 with h2 | h2 | h2 <;> first | exact h2 | omega | (have hb := HBR.out k h2; omega))).trans Cx19.out (by intro k h1 h2; rcases h2 with h2 | h2 | h2 | h2 | h2 <;> first | exact h2 | omega | (have hb := HBR.out k h2; omega)))⟩
set_option maxHeartbeats 4000000 in
theorem PutList_St : PutsL StR 140 141 stB := by
  intro R R2 g bs v l w hW hB hs hB2 hD hl
  obtain ⟨ao, cap, rfl⟩ := hs.shape
  have hb64 : l.length ≤ maxLen := hs.bd
  rw [maxLen_val] at hb64
  have HI64 := hid (show I64 (l.length : Int) by unfold I64; omega)
  have HW := Lib.hid hW
  have HS := Lib.hid hs
  have HBR := Lib.hid hB
  have HBT := Lib.hid hB2
  have HDJ := Lib.hid hD
  have HL := Lib.hid hl
  clear hW hB hs hB2 hD hl
  unfold listB at HL
  go_enter Try.func140, Try.ntmps140
  go_upto_region 0 with (fail)
  have HM0 := hid (Mod.refl (fun k => (R k)) w)
  go_upto_region 0 with (fail)
  generalize ha0 : Act.mk _ _ = a0
  have oe0 : a0.eval (.tmp 0) = .pointer (some ⟨g, 0, none⟩) := by rw [← ha0]; rfl
  have oe1 : a0.eval (.tmp 1) = .slice ao l.length cap := by rw [← ha0]; rfl
  have hsz0 : a0.tmps.size = 23 := by rw [← ha0]; rfl
  have HA0 := hid ha0
  clear ha0
  refine wp_region_Q1 23 hsz0 [8, 9, 10, 11] (fun k => (R k)) (fun k j => (k = 0 ∧ ((R j)))) (fun _ _ h => h.2) [qi (.pointer (some ⟨g, 0, none⟩)), qi (.slice ao l.length cap), qi (.int .i64 l.length), qi (.pointer (some ⟨g, 0, none⟩))] ⟨qi_stable, qi_stable, qi_stable, qi_stable, trivial⟩ [3] ⟨?_, ?_, ?_, ?_, trivial⟩ ?_
  · exact stq (fun E => ex_move rfl (E.v oe0))
  · exact stq (fun E => ex_move rfl (E.v oe1))
  · exact stq (fun E => ex_lenS rfl (E.d 1) Try.underlying50)
  · exact stepq_chain rfl
  intro u0_0 hr
  have zu0_0 := hr.size
  have Cx1 := hid (hr.new (S := (fun k => (R k))))
  have Hx2 := hid (HW.out.mod hr (by intro k h1 h2; have hb := HBR.out k h1; omega))
  clear HW
  clear hr
  refine QChain.go fun Z act E => ?_
  refine qc_callF (args := #[.pointer (some ⟨g, 0, none⟩), .int .i64 l.length]) rfl (wanted_none rfl) rfl Try.func64 (args2 (E.d 0) (E.d 2)) (WInt_Q Hx2.out HI64.out (by have := HL.out; simp only [List.length_append] at this ⊢; omega)) ?_
  rintro e u0_1a ⟨rfl, qwr, hm⟩
  have zu0_1a := hm.size
  refine ⟨_, rfl, hm.mono (by intro k hk h; first | omega | exact Or.inl ⟨(by have hb := HBR.out k h; omega), ⟨rfl, h⟩⟩), (fun _ => rfl), ?_⟩
  intro u0_1 hr
  have zu0_1 := hr.size
  have Hx3 := hid ((qwr.widen (R' := (fun k => (R k) ∨ (New u0_0 u0_1a k))) (fun _ h => h) (Nat.le_refl _)).mod hr (by intro k h1 h2; rcases h1 with h1 | h1 <;> first | omega | (have hb := HBR.out k h1; omega)))
  have Cx4 := hid (Cx1.out.goM hm hr (fun _ _ h => h))
  clear Cx1 hm hr Z act E qwr Hx2
  refine QChain.nil fun vs hl hzz hrows hne => ?_
  obtain ⟨Z, hYZ, hZb, hV⟩ := hzz
  have f0 := fvi hV hl 0
  have f1 := fvi hV hl 1
  have f2 := fvi hV hl 2
  have f3 := fvi hV hl 3
  rw [show vs = [gw vs 0, gw vs 1, gw vs 2, gw vs 3] from (gw_eta hl).trans rfl]
  have ha0 := HA0.out
  subst ha0
  clear HA0 hV hYZ hZb hsz0 hrows hne oe0 oe1
  simp only [putAll, Act.put, List.setIfInBounds_toArray, List.set_cons_zero, List.set_cons_succ, f0, f1, f2, f3]
  clear hl f0 f1 f2 f3
  go_wp2
  go_loopw [14] (fun t wr => ∃ k : Nat, t = .int .i64 (k : Int) ∧ k ≤ l.length ∧ u0_1.heap.size ≤ wr.heap.size ∧ WrR (fun b => R b ∨ (w.heap.size ≤ b ∧ b < wr.heap.size)) 900000 wr g (bs ++ (encI l.length ++ ((l.take k).map stB).flatten)) ∧ RdS StR R2 wr (.slice ao l.length cap) l ∧ Mod R w wr) (fun t _ => l.length - (intOf t).toNat)
  case atStart => exact ⟨0, rfl, Nat.zero_le _, Nat.le_refl _, by have hq := (Hx3.out.widen (R' := (fun k => R k ∨ (w.heap.size ≤ k ∧ k < u0_1.heap.size))) (by intro k h1; rcases h1 with h1 | h1 <;> first | exact Or.inl h1 | (right; omega)) (Nat.le_refl _)); simpa only [List.take_zero, List.map_nil, List.flatten_nil, List.append_nil] using hq, (HS.out.mod Cx4.out (by intro k h1 h2; first | omega | (have hb := HBT.out k h1; omega) | (have hb := HBR.out k h2; omega) | exact HDJ.out k h1 h2 | exact HDJ.out k h2 h1 | (have hb := HBT.out k h1; have hb2 := HBR.out k h2; omega))), (HM0.out.trans Cx4.out (fun _ _ h => h))⟩
  case round =>
    obtain ⟨k, rfl, hk, hz, hw, hs, hm⟩ := hrel
    have HW2 := Lib.hid hw
    have HS2 := Lib.hid hs
    have HM2 := Lib.hid hm
    clear hw hs hm Hx3 HS HM0
    obtain ⟨wo, rfl⟩ : ∃ x, x = wr := ⟨_, rfl⟩
    by_cases hlt : k < l.length
    · skip
      obtain ⟨g0, o0, cs, rfl, hrg, hrd, hcs⟩ := HS2.out.at hlt
      have hcl : cs.length = 38 := StR.len hrd
      have HCL := Lib.hid hcl
      have HAT := hid (show CellsAt R2 wo g0 (o0 + k * 38) cs from ⟨hrg, hcs⟩)
      have HRD := Lib.hid hrd
      have HOC := hid (StR.one hrd)
      clear hcl hcs hrd hrg
      have HE : Hid (bs ++ (encI l.length ++ ((l.take k).map stB).flatten) ++ stB l[k] = bs ++ (encI l.length ++ ((l.take (k + 1)).map stB).flatten)) := hid (by rw [List.take_succ_eq_append_getElem hlt, List.map_append, List.flatten_append]; simp [List.append_assoc])
      have HLk := hid (show (bs ++ (encI l.length ++ ((l.take k).map stB).flatten) ++ stB l[k]).length ≤ 900000 by rw [HE.out]; exact Nat.le_trans (put_len _ _ _ _ _) HL.out)
      go_upto_region 3 with (fail)
      generalize ha0 : Act.mk _ _ = a0
      have oe12 : a0.eval (.tmp 12) = .slice (some ⟨g0, o0, none⟩) l.length cap := by rw [← ha0]; rfl
      have oe14 : a0.eval (.tmp 14) = .int .i64 ((k : Nat) : Int) := by rw [← ha0]; rfl
      have hsz0 : a0.tmps.size = 23 := by rw [← ha0]; rfl
      have HA0 := hid ha0
      clear ha0
      refine wp_region_Q 23 hsz0 (by kernel_rfl) (by kernel_rfl) [16, 17, 7, 26] (by kernel_rfl) (by decide) (fun _ => False) (fun _ _ => False) (fun _ _ h => h) [qi (.pointer (some ⟨g0, o0 + k * 38, none⟩)), qi (.agg cs.toArray), qa, qa] ⟨qi_stable, qi_stable, qa_stable, qa_stable, trivial⟩ [] (by kernel_rfl) (by decide) (by kernel_rfl) [⟨2, 3, 30, [.int .i64 0, .int .i64 0, .int .i64 0, .int .u8 0, .int .u8 0, .int .u8 0, .int .u8 0, .int .u8 0, .int .u8 0, .int .u8 0, .int .u8 0, .int .u8 0, .int .u8 0, .int .u8 0, .int .u8 0, .int .u8 0, .int .u8 0, .int .u8 0, .int .u8 0, .int .u8 0, .int .u8 0, .int .u8 0, .int .u8 0, .int .u8 0, .int .u8 0, .int .u8 0, .int .u8 0, .int .u8 0, .int .u8 0, .int .u8 0, .int .u8 0, .int .u8 0, .int .u8 0, .int .u8 0, .int .u8 0, .int .u64 0, .int .i64 0, .int .i64 0], 0, (fun t => cs)⟩] (by kernel_rfl) (by intro r hr; simp only [List.mem_cons, List.not_mem_nil, or_false] at hr; rcases hr with rfl <;> exact ⟨by kernel_rfl, by kernel_rfl⟩) (by intro r hr; simp only [List.mem_cons, List.not_mem_nil, or_false] at hr; rcases hr with rfl <;> exact ⟨of_decide_eq_true (by kernel_rfl), of_decide_eq_true (by kernel_rfl)⟩) (by intro r hr; simp only [List.mem_cons, List.not_mem_nil, or_false] at hr; rcases hr with rfl <;> exact fun _ _ _ _ => ⟨trivial, trivial⟩) ⟨?_, ?_, ?_, ?_, trivial⟩ ?_
      · exact stq (fun E => ex_idxS (i := k) (s := 38) rfl Try.underlying50 (by kernel_rfl) (E.v oe12) (E.v oe14) (by omega))
      · exact stq (fun E => ex_loadA rfl Try.underlying30 rfl (off := o0 + k * 38) (cs := cs) (by rw [HCL.out]; kernel_rfl) (E.d 0) (fun j u hu => ((HAT.out.mod E.m.old (by intro k h1 h2; have hb := HBT.out k h1; omega))).2 j u hu))
      · exact stepq_make rfl rfl ⟨rfl, rfl, by kernel_rfl, by kernel_rfl⟩
      · refine stepq_write rfl rfl rfl ⟨rfl, 7, (.tmp 17), rfl, by decide, rfl, by kernel_rfl, fun Z tr act w' hm hout hsz hd hpre => ?_⟩
        have h1 := hd ⟨1, .data⟩ (by simp) rfl _ rfl
        exact ⟨Nat.zero_le _, (by rw [show act.eval ((.tmp 17)) = _ from h1]; rfl), (by rw [HCL.out]; rfl), HOC.out⟩
      intro u3_0 hr
      have zu3_0 := hr.size
      have Cx5 := hid (hr.new (S := (fun _ => False)))
      clear hr
      refine QChain.nil fun vs hl hzz hrows hne => ?_
      obtain ⟨Z, hYZ, hZb, hV⟩ := hzz
      obtain ⟨q, g2, hBq, hYq, hCq⟩ := hrows _ (by simp only [List.mem_cons, List.not_mem_nil, or_false]; trivial)
      have f2 : gw vs 2 = _ := getv g2
      (try dsimp only at hBq hYq); (try simp only [false_or] at hBq hYq)
      have zqq := hCq.lt
      have Hx6 := hid (show Cs u3_0 q (cs : List Value).toArray 30 from hCq)
      rw [show vs = [gw vs 0, gw vs 1, gw vs 2, gw vs 3] from (gw_eta hl).trans rfl]
      have ha0 := HA0.out
      subst ha0
      clear HA0 hV hYZ hZb hsz0 hrows hne oe12 oe14 hCq g2
      simp only [putAll, Act.put, List.setIfInBounds_toArray, List.set_cons_zero, List.set_cons_succ, List.set_nil, f2]
      clear hl f2
      go_upto_region 4 with (fail)
      generalize ha0 : Act.mk _ _ = a0
      have oe0 : a0.eval (.tmp 0) = .pointer (some ⟨g, 0, none⟩) := by rw [← ha0]; rfl
      have oe2 : a0.eval (.tmp 2) = .func (.func 141) #[] #[] := by rw [← ha0]; rfl
      have oe7 : a0.eval (.tmp 7) = .pointer (some ⟨q, 0, none⟩) := by rw [← ha0]; rfl
      have hsz0 : a0.tmps.size = 23 := by rw [← ha0]; rfl
      have HA0 := hid ha0
      clear ha0
      refine wp_region_Q1 23 hsz0 [18, 19, 20, 21] (fun k => (R k) ∨ (New w wo k)) (fun k j => (k = 0 ∧ ((R j) ∨ (New w wo j)))) (fun _ _ h => h.2) [qi (.func (.func 141) #[] #[]), qi (.pointer (some ⟨g, 0, none⟩)), qi (.agg cs.toArray), qi (.tuple #[])] ⟨qi_stable, qi_stable, qi_stable, qi_stable, trivial⟩ [3] ⟨?_, ?_, ?_, ?_, trivial⟩ ?_
      · exact stq (fun E => ex_move rfl (E.v oe2))
      · exact stq (fun E => ex_move rfl (E.v oe0))
      · exact stq (fun E => ex_loadA rfl Try.underlying30 rfl (off := 0) (cs := cs) (by rw [HCL.out]; kernel_rfl) (E.v oe7) (Cs.whole (Hx6.out.mod E.m (by intro h2; rcases h2 with ⟨h0, h2 | h2⟩ | h2 <;> first | omega | (have hb := HBR.out _ h2; omega)))))
      · exact stepq_chain rfl
      intro u4_0 hr
      have zu4_0 := hr.size
      have Cx7 := hid (hr.new (S := (fun k => (R k) ∨ (New w wo k))))
      have Hx8 := hid ((HW2.out.mod Cx5.out (fun _ _ h => h)).mod hr (by intro k h1 h2; rcases h1 with h1 | h1 <;> first | omega | (have hb := HBR.out k h1; omega)))
      clear HW2
      clear hr
      refine QChain.go fun Z act E => ?_
      have ea19 : act.eval (.tmp 19) = .pointer (some ⟨g, 0, none⟩) := (E.d 1)
      have ea20 : act.eval (.tmp 20) = .agg cs.toArray := (E.d 2)
      refine qc_call (args := #[.pointer (some ⟨g, 0, none⟩), .agg cs.toArray]) rfl (wanted_none rfl) (by rw [ex_callV rfl (E.d 0) Try.func141 (by kernel_rfl) (by kernel_rfl)]; exact congrArg (fun z => Result.ok (Next.enter _ z) _) (by simp only [List.map_toArray, List.map_cons, List.map_nil, ea19, ea20]; try rfl)) (PutSt_Q _ _ _ _ _ _ _ Hx8.out (by intro k h1; rcases h1 with h1 | h1 <;> first | omega | (have hb := HBR.out k h1; omega)) ((HRD.out.mod Cx5.out (fun _ _ h => h)).mod Cx7.out (by intro k h1 h2; rcases h2 with h2 | h2 <;> first | omega | (have hb := HBT.out k h1; omega) | (have hb := HBR.out k h2; omega) | exact HDJ.out k h1 h2 | exact HDJ.out k h2 h1 | (have hb := HBT.out k h1; have hb2 := HBR.out k h2; omega))) (by intro k h1; have hb := HBT.out k h1; omega) (by intro k h1 h2; rcases h1 with h1 | h1 <;> first | omega | (have hb := HBR.out k h1; omega) | (have hb := HBT.out k h2; omega) | exact HDJ.out k h1 h2 | exact HDJ.out k h2 h1 | (have hb := HBR.out k h1; have hb2 := HBT.out k h2; omega)) HLk.out) ?_
      rintro e u4_1a ⟨rfl, qwr, hm⟩
      have zu4_1a := hm.size
      refine ⟨_, rfl, hm.mono (by intro k hk h; rcases h with h | h <;> first | omega | exact Or.inl ⟨(by have hb := HBR.out k h; omega), ⟨rfl, Or.inl h⟩⟩), (fun _ => rfl), ?_⟩
      intro u4_1 hr
      have zu4_1 := hr.size
      have Hx9 := hid ((qwr.widen (R' := (fun k => (R k) ∨ (New w wo k) ∨ (New u4_0 u4_1a k))) (by intro k h1; simp only [or_assoc] at h1 ⊢; exact h1) (Nat.le_refl _)).mod hr (by intro k h1 h2; rcases h1 with h1 | h1 | h1 <;> first | omega | (have hb := HBR.out k h1; omega)))
      have Cx10 := hid (Cx7.out.goM hm hr (fun _ _ h => h))
      clear Cx7 hm hr Z act E qwr Hx8 ea19 ea20
      refine QChain.nil fun vs hl hzz hrows hne => ?_
      obtain ⟨Z, hYZ, hZb, hV⟩ := hzz
      have f0 := fvi hV hl 0
      have f1 := fvi hV hl 1
      have f3 := fvi hV hl 3
      rw [show vs = [gw vs 0, gw vs 1, gw vs 2, gw vs 3] from (gw_eta hl).trans rfl]
      have ha0 := HA0.out
      subst ha0
      clear HA0 hV hYZ hZb hsz0 hrows hne oe0 oe2 oe7
      simp only [putAll, Act.put, List.setIfInBounds_toArray, List.set_cons_zero, List.set_cons_succ, f0, f1, f3]
      clear hl f0 f1 f3
      have hq := Hx9.out
      rw [HE.out] at hq
      have HQ := Lib.hid hq
      clear hq
      go_wp2
      go_roundw
      case rel => exact ⟨k + 1, by go_num, by omega, by omega, (HQ.out.widen (by intro b h1; rcases h1 with h1 | h1 | h1 <;> first | exact Or.inl h1 | (right; omega)) (Nat.le_refl _)), ((HS2.out.mod Cx5.out (fun _ _ h => h)).mod Cx10.out (by intro k h1 h2; rcases h2 with h2 | h2 <;> first | omega | (have hb := HBT.out k h1; omega) | (have hb := HBR.out k h2; omega) | exact HDJ.out k h1 h2 | exact HDJ.out k h2 h1 | (have hb := HBT.out k h1; have hb2 := HBR.out k h2; omega))), ((HM2.out.trans Cx5.out (fun _ _ h => h.elim)).trans Cx10.out (by intro k h1 h2; rcases h2 with h2 | h2 <;> first | exact h2 | omega | (have hb := HBR.out k h2; omega)))⟩
      case measure => simp [intOf]; omega
    · have hkk : k = l.length := by omega
      subst hkk
      go_wp2
      go_end0
      have hq := HW2.out
      rw [List.take_length] at hq
      exact ⟨rfl, hq, HM2.out⟩
set_option maxHeartbeats 4000000 in
theorem PutCe_Q : Puts CeR 98 ceB := by
  intro R R2 g bs cs x w hW hB hx hB2 hD hl
  obtain ⟨v_l, rfl, hok, hs0⟩ := hx
  have HS0 := Lib.hid hs0
  clear hs0
  have HW := Lib.hid hW
  have HBR := Lib.hid hB
  have HBT := Lib.hid hB2
  have HDJ := Lib.hid hD
  have HOK := Lib.hid hok
  have HL := Lib.hid hl
  clear hW hB hB2 hD hl hok
  unfold ceB at HL
  go_enter Try.func98, Try.ntmps98
  go_upto_region 1 with (fail)
  obtain ⟨w1, hw1⟩ : ∃ zz, zz = (w.alloc (.cells (x.cells v_l : List Value).toArray 52)) := ⟨_, rfl⟩
  change Code.wp _ _ _ _ (w.alloc (.cells (x.cells v_l : List Value).toArray 52))
  rw [← hw1]
  have HB3 := hid (show Cs w1 (w.heap.size) (x.cells v_l : List Value).toArray 52 by rw [hw1]; exact Cs.new _ _ _)
  have hm : Mod (fun _ => False) w w1 := by rw [hw1]; exact (Mod.refl _ _).alloc _
  have HM0 := hid (show Mod (fun k => (R k)) w w1 from hm.mono (fun _ _ h => h.elim))
  have hs1 : w1.heap.size = w.heap.size + 1 := by rw [hw1]; simp
  have Hx1 := hid (HW.out.mod hm (fun _ _ h => h))
  clear HW
  have Hx2 := hid (HS0.out.mod hm (fun _ _ h => h))
  clear HS0
  clear hw1 hm
  go_upto_region 1 with (fail)
  generalize ha0 : Act.mk _ _ = a0
  have oe0 : a0.eval (.tmp 0) = .pointer (some ⟨g, 0, none⟩) := by rw [← ha0]; rfl
  have oe3 : a0.eval (.tmp 3) = .pointer (some ⟨w.heap.size, 0, none⟩) := by rw [← ha0]; rfl
  have hsz0 : a0.tmps.size = 12 := by rw [← ha0]; rfl
  have HA0 := hid ha0
  clear ha0
  refine wp_region_Q1 12 hsz0 [4, 5, 6, 7] (fun k => (R k)) (fun k j => (k = 0 ∧ ((R j)))) (fun _ _ h => h.2) [qi (.pointer (some ⟨g, 0, none⟩)), qi (.pointer (some ⟨w.heap.size, 0, none⟩)), qi (x.c.val), qi (.tuple #[])] ⟨qi_stable, qi_stable, qi_stable, qi_stable, trivial⟩ [3] ⟨?_, ?_, ?_, ?_, trivial⟩ ?_
  · exact stq (fun E => ex_move rfl (E.v oe0))
  · exact stq (fun E => ex_field rfl Try.underlying52 rfl (by kernel_rfl) (E.v oe3))
  · exact stq (fun E => ex_loadA rfl Try.underlying49 rfl (off := 0) (cs := x.c.cells) (by rw [Cm.len HOK.out.2.1]; exact size_commit) (E.d 1) (Cs.midA (pre := []) (mid := x.c.cells) (post := [v_l]) (HB3.out.mod E.m (by intro h2; rcases h2 with ⟨h0, h2⟩ | h2 <;> first | omega | (have hb := HBR.out _ h2; omega))) rfl))
  · exact stepq_chain rfl
  intro u1_0 hr
  have zu1_0 := hr.size
  have Cx3 := hid (hr.new (S := (fun k => (R k))))
  have Hx4 := hid (Hx1.out.mod hr (by intro k h1 h2; have hb := HBR.out k h1; omega))
  clear Hx1
  clear hr
  refine QChain.go fun Z act E => ?_
  refine qc_callF (args := #[.pointer (some ⟨g, 0, none⟩), x.c.val]) rfl (wanted_none rfl) rfl Try.func139 (args2 (E.d 0) (E.d 2)) (PutCm_Q _ (fun _ => False) _ _ _ _ _ Hx4.out (by intro k h1; have hb := HBR.out k h1; omega) ⟨rfl, HOK.out⟩ (fun _ h => h.elim) (fun _ _ h => h.elim) (by have := HL.out; simp only [List.length_append] at this ⊢; omega)) ?_
  rintro e u1_1a ⟨rfl, qwr, hm⟩
  have zu1_1a := hm.size
  refine ⟨_, rfl, hm.mono (by intro k hk h; first | omega | exact Or.inl ⟨(by have hb := HBR.out k h; omega), ⟨rfl, h⟩⟩), (fun _ => rfl), ?_⟩
  intro u1_1 hr
  have zu1_1 := hr.size
  have Hx5 := hid ((qwr.widen (R' := (fun k => (R k) ∨ (New u1_0 u1_1a k))) (fun _ h => h) (Nat.le_refl _)).mod hr (by intro k h1 h2; rcases h1 with h1 | h1 <;> first | omega | (have hb := HBR.out k h1; omega)))
  have Cx6 := hid (Cx3.out.goM hm hr (fun _ _ h => h))
  clear Cx3 hm hr Z act E qwr Hx4
  refine QChain.nil fun vs hl hzz hrows hne => ?_
  obtain ⟨Z, hYZ, hZb, hV⟩ := hzz
  have f0 := fvi hV hl 0
  have f3 := fvi hV hl 3
  rw [show vs = [gw vs 0, gw vs 1, gw vs 2, gw vs 3] from (gw_eta hl).trans rfl]
  have ha0 := HA0.out
  subst ha0
  clear HA0 hV hYZ hZb hsz0 hrows hne oe0 oe3
  simp only [putAll, Act.put, List.setIfInBounds_toArray, List.set_cons_zero, List.set_cons_succ, f0, f3]
  clear hl f0 f3
  go_upto_region 2 with (fail)
  generalize ha0 : Act.mk _ _ = a0
  have oe0 : a0.eval (.tmp 0) = .pointer (some ⟨g, 0, none⟩) := by rw [← ha0]; rfl
  have oe3 : a0.eval (.tmp 3) = .pointer (some ⟨w.heap.size, 0, none⟩) := by rw [← ha0]; rfl
  have hsz0 : a0.tmps.size = 12 := by rw [← ha0]; rfl
  have HA0 := hid ha0
  clear ha0
  refine wp_region_Q1 12 hsz0 [8, 9, 10, 11] (fun k => (R k) ∨ (New u1_0 u1_1a k)) (fun k j => (k = 0 ∧ ((R j) ∨ (New u1_0 u1_1a j)))) (fun _ _ h => h.2) [qi (.pointer (some ⟨g, 0, none⟩)), qi (.pointer (some ⟨w.heap.size, 37, none⟩)), qi (v_l), qi (.tuple #[])] ⟨qi_stable, qi_stable, qi_stable, qi_stable, trivial⟩ [3] ⟨?_, ?_, ?_, ?_, trivial⟩ ?_
  · exact stq (fun E => ex_move rfl (E.v oe0))
  · exact stq (fun E => ex_field rfl Try.underlying52 rfl (by kernel_rfl) (E.v oe3))
  · exact stq (fun E => ex_load1 rfl Try.underlying50 rfl (E.d 1) (Cs.post1 (pre := []) (mid := x.c.cells) (post := [v_l]) (m := 37) (k := 0) ((HB3.out.mod Cx6.out (by intro h2; first | omega | (have hb := HBR.out _ h2; omega))).mod E.m (by intro h2; rcases h2 with ⟨h0, h2 | h2⟩ | h2 <;> first | omega | (have hb := HBR.out _ h2; omega))) (Cm.len HOK.out.2.1) rfl rfl))
  · exact stepq_chain rfl
  intro u2_0 hr
  have zu2_0 := hr.size
  have Cx7 := hid (hr.new (S := (fun k => (R k) ∨ (New u1_0 u1_1a k))))
  have Hx8 := hid (Hx5.out.mod hr (by intro k h1 h2; rcases h1 with h1 | h1 <;> first | omega | (have hb := HBR.out k h1; omega)))
  clear Hx5
  clear hr
  refine QChain.go fun Z act E => ?_
  refine qc_callF (args := #[.pointer (some ⟨g, 0, none⟩), v_l, .func (.func 141) #[] #[]]) rfl (wanted_none rfl) rfl Try.func140 (args3 (E.d 0) (E.d 2) rfl) (PutList_St _ _ _ _ _ _ _ Hx8.out (by intro k h1; rcases h1 with h1 | h1 <;> first | omega | (have hb := HBR.out k h1; omega)) ((Hx2.out.mod Cx6.out (by intro k h1 h2; first | omega | (have hb := HBT.out k h1; omega) | (have hb := HBR.out k h2; omega) | exact HDJ.out k h1 h2 | exact HDJ.out k h2 h1 | (have hb := HBT.out k h1; have hb2 := HBR.out k h2; omega))).mod Cx7.out (by intro k h1 h2; rcases h2 with h2 | h2 <;> first | omega | (have hb := HBT.out k h1; omega) | (have hb := HBR.out k h2; omega) | exact HDJ.out k h1 h2 | exact HDJ.out k h2 h1 | (have hb := HBT.out k h1; have hb2 := HBR.out k h2; omega))) (by intro k h1; have hb := HBT.out k h1; omega) (by intro k h1 h2; rcases h1 with h1 | h1 <;> first | omega | (have hb := HBR.out k h1; omega) | (have hb := HBT.out k h2; omega) | exact HDJ.out k h1 h2 | exact HDJ.out k h2 h1 | (have hb := HBR.out k h1; have hb2 := HBT.out k h2; omega)) (by have := HL.out; simp only [List.length_append] at this ⊢; omega)) ?_
  rintro e u2_1a ⟨rfl, qwr, hm⟩
  have zu2_1a := hm.size
  refine ⟨_, rfl, hm.mono (by intro k hk h; rcases h with h | h <;> first | omega | exact Or.inl ⟨(by have hb := HBR.out k h; omega), ⟨rfl, Or.inl h⟩⟩), (fun _ => rfl), ?_⟩
  intro u2_1 hr
  have zu2_1 := hr.size
  have Hx9 := hid ((qwr.widen (R' := (fun k => (R k) ∨ (New u1_0 u1_1a k) ∨ (New u2_0 u2_1a k))) (by intro k h1; simp only [or_assoc] at h1 ⊢; exact h1) (Nat.le_refl _)).mod hr (by intro k h1 h2; rcases h1 with h1 | h1 | h1 <;> first | omega | (have hb := HBR.out k h1; omega)))
  have Cx10 := hid (Cx7.out.goM hm hr (fun _ _ h => h))
  clear Cx7 hm hr Z act E qwr Hx8
  refine QChain.nil fun vs hl hzz hrows hne => ?_
  obtain ⟨Z, hYZ, hZb, hV⟩ := hzz
  have f0 := fvi hV hl 0
  have f3 := fvi hV hl 3
  rw [show vs = [gw vs 0, gw vs 1, gw vs 2, gw vs 3] from (gw_eta hl).trans rfl]
  have ha0 := HA0.out
  subst ha0
  clear HA0 hV hYZ hZb hsz0 hrows hne oe0 oe3
  simp only [putAll, Act.put, List.setIfInBounds_toArray, List.set_cons_zero, List.set_cons_succ, f0, f3]
  clear hl f0 f3
  go_wp2
  go_end0
  have hq := (Hx9.out.widen (R' := (fun k => R k ∨ New w u2_1 k)) (by intro k h1; rcases h1 with h1 | h1 | h1 <;> first | exact Or.inl h1 | (right; omega)) (Nat.le_refl _))
  simp only [List.append_assoc] at hq
  exact ⟨rfl, by simpa only [ceB, List.append_assoc] using hq, ((HM0.out.trans Cx6.out (fun _ _ h => h)).trans Cx10.out (by intro k h1 h2; rcases h2 with h2 | h2 <;> first | exact h2 | omega | (have hb := HBR.out k h2; omega)))⟩
end Go.Proofs.Ytknpapcfhnhheaa

/- What the readers of parts answer, in plain words; that what was put is read as it was, and that what is read was put so. -/
set_option maxRecDepth 100000
set_option linter.unusedVariables false
namespace Go.Proofs.Ytknpapcfhnhheaa
open Go Go.RowKit Go.Gv

/-- one read behind the other -/
def gb {α β : Type} (g : RSt → α × RSt) (k : α → RSt → β × RSt) (s : RSt) : β × RSt := k (g s).1 (g s).2
/-- a number up to 2^40 -/
def gI (s : RSt) : Int × RSt := (((rInt 1099511627776 s).1 : Nat), (rInt 1099511627776 s).2)
def gItems {α : Type} (g : RSt → α × RSt) : Nat → List α → RSt → List α × RSt
  | 0, acc, s => (acc, s)
  | n + 1, acc, s => if (g s).2 = none then ([], none) else gItems g n (acc ++ [(g s).1]) (g s).2
def gList {α : Type} (g : RSt → α × RSt) (s : RSt) : List α × RSt := gItems g (rInt 100 s).1 [] (rInt 100 s).2
def gSig : RSt → (Int × Int) × RSt := gb gI fun a => gb gI fun b s => ((a, b), s)
def gCm : RSt → Cm × RSt := gb gSig fun n => gb rHash fun h => gb gI fun l => gb gSig fun g s => (⟨n.1, n.2, h, l, g.1, g.2⟩, s)
def gSt : RSt → St × RSt := gb gI fun p => gb gSig fun n => gb rHash fun h => gb rNum fun t => gb gSig fun g s => (⟨p, n.1, n.2, h, t, g.1, g.2⟩, s)
def gCe : RSt → Ce × RSt := gb gCm fun c => gb (gList gSt) fun l s => (⟨c, l⟩, s)
def gPm : RSt → Pm × RSt := gb gI fun p => gb gI fun e => gb rNum fun f => gb (gList gCe) fun l => gb gSig fun g s => (⟨p, e, f, l, g.1, g.2⟩, s)
def gOp : RSt → Op × RSt := gb gI fun i => gb (rRow 256) fun p => gb rHash fun h s => (⟨i, p, h⟩, s)
def gDn : RSt → Dn × RSt := gb gI fun p => gb gI fun i => gb gSig fun g s => (⟨p, i, g.1, g.2⟩, s)
def gTb : RSt → Tb × RSt := gb gI fun i => gb (gList gDn) fun l s => (⟨i, l⟩, s)
def gBa : RSt → Ba × RSt := gb gI fun e => gb rNum fun t => gb (gList gPm) fun p => gb (gList gOp) fun o => gb (gList gTb) fun m s => (⟨e, t, p, o, m⟩, s)
/-- what was put is read as it was -/
def Ed {α : Type} (g : RSt → α × RSt) (put : α → List Int) (ok : α → Prop) : Prop := ∀ x r, ok x → g (some (put x ++ r)) = (x, some r)
/-- what is read was put so -/
def De {α : Type} (g : RSt → α × RSt) (Q : α → List Int → List Int → Prop) : Prop := ∀ s r, (g s).2 = some r → ∃ l, s = some l ∧ (Bytes l → Q (g s).1 l r)
def Was {α : Type} (put : α → List Int) (ok : α → Prop) (x : α) (l r : List Int) : Prop := l = put x ++ r ∧ ok x
/-- the numbers that are read -/
def UpI (x : Int) : Prop := 0 ≤ x ∧ x ≤ 1099511627776
theorem gI_ed : Ed gI encI UpI := by
  intro x r h
  obtain ⟨h0, h1⟩ := h
  obtain ⟨n, rfl⟩ := Int.eq_ofNat_of_zero_le h0
  unfold gI
  rw [encI_nat, rInt_enc (by unfold U64; omega), if_neg (by omega)]
theorem rNum_ed : Ed rNum encN (· < U64) := fun x r h => rNum_enc h r
theorem rHash_ed : Ed rHash (fun h => h) (fun h => h.length = 32) := fun x r h => rHash_app h r
theorem rRow_ed (most : Int) (hm : most ≤ 1000000) : Ed (rRow most) (fun b => encN b.length ++ b) (fun b => (b.length : Int) ≤ most) := by
  intro x r h
  have := rRow_enc (bs := x) (by unfold U64; omega) most r
  rw [if_neg (by omega)] at this
  simpa only [List.append_assoc] using this
theorem De.bind {α β : Type} {g : RSt → α × RSt} {k : α → RSt → β × RSt} {put : α → List Int} {ok : α → Prop} {Q : α → β → List Int → List Int → Prop} (hg : De g (Was put ok)) (hk : ∀ a, De (k a) (Q a)) :
    De (gb g k) (fun y l r => ∃ a l1, ok a ∧ l = put a ++ l1 ∧ Q a y l1 r) := by
  intro s r h
  obtain ⟨l1, e1, h1⟩ := hk _ _ _ h
  obtain ⟨l, rfl, h2⟩ := hg _ _ e1
  refine ⟨l, rfl, fun hb => ?_⟩
  obtain ⟨h3, h4⟩ := h2 hb
  refine ⟨_, l1, h4, h3, h1 (fun x hx => hb x ?_)⟩
  rw [h3]
  exact List.mem_append_right _ hx
theorem De.pure {β : Type} (y : β) : De (fun s => (y, s)) (fun y' l r => y' = y ∧ l = r) := by
  intro s r h
  exact ⟨r, h, fun _ => ⟨rfl, rfl⟩⟩
theorem De.mono {β : Type} {g : RSt → β × RSt} {Q Q' : β → List Int → List Int → Prop} (h : De g Q) (hq : ∀ y l r, Q y l r → Q' y l r) : De g Q' := by
  intro s r hr
  obtain ⟨l, e, h2⟩ := h s r hr
  exact ⟨l, e, fun hb => hq _ _ _ (h2 hb)⟩
/-- lists -/
def listOk {α : Type} (ok : α → Prop) (l : List α) : Prop := l.length ≤ 100 ∧ ∀ a ∈ l, ok a
theorem gItems_ed {α : Type} {g : RSt → α × RSt} {put : α → List Int} {ok : α → Prop} (h : Ed g put ok) : ∀ (l acc : List α) (r : List Int), (∀ a ∈ l, ok a) → gItems g l.length acc (some ((l.map put).flatten ++ r)) = (acc ++ l, some r) := by
  intro l
  induction l with
  | nil => intro acc r _; simp [gItems]
  | cons a l ih =>
    intro acc r ha
    simp only [List.length_cons, List.map_cons, List.flatten_cons, List.append_assoc, gItems]
    rw [h a _ (ha a (List.mem_cons_self ..)), if_neg (by simp), ih _ _ (fun b hb => ha b (List.mem_cons_of_mem _ hb))]
    simp
theorem gList_ed {α : Type} {g : RSt → α × RSt} {put : α → List Int} {ok : α → Prop} (h : Ed g put ok) : Ed (gList g) (listB put) (listOk ok) := by
  intro l r ⟨h1, h2⟩
  unfold gList listB
  rw [List.append_assoc, encI_nat, rInt_enc (by unfold U64; omega), if_neg (by omega)]
  simpa using gItems_ed h l [] r h2
theorem De.none {α : Type} {g : RSt → α × RSt} {Q : α → List Int → List Int → Prop} (h : De g Q) : ∀ s, s = none → (g s).2 = none := by
  intro s e
  cases hq : (g s).2 with
  | none => rfl
  | some r => obtain ⟨l, e2, -⟩ := h s r hq; rw [e] at e2; cases e2
/-! printed -/
def sgB (p : Int × Int) : List Int := encI p.1 ++ encI p.2
def sgOk (p : Int × Int) : Prop := UpI p.1 ∧ UpI p.2
def CmOk (x : Cm) : Prop := UpI x.cl ∧ UpI x.sq ∧ HK x.h ∧ UpI x.ln ∧ UpI x.sb ∧ UpI x.mr
def StOk (x : St) : Prop := UpI x.rp ∧ UpI x.cl ∧ UpI x.sq ∧ HK x.h ∧ x.tm < U64 ∧ UpI x.sb ∧ UpI x.mr
def CeOk (x : Ce) : Prop := CmOk x.c ∧ listOk StOk x.l
def PmOk (x : Pm) : Prop := UpI x.rp ∧ UpI x.ep ∧ x.fl < U64 ∧ listOk CeOk x.l ∧ UpI x.sb ∧ UpI x.mr
def OpOk (x : Op) : Prop := UpI x.ix ∧ (x.pl.length : Int) ≤ 256 ∧ HK x.nc
def DnOk (x : Dn) : Prop := UpI x.rp ∧ UpI x.ix ∧ UpI x.sb ∧ UpI x.mr
def TbOk (x : Tb) : Prop := UpI x.ix ∧ listOk DnOk x.l
def BaOk (x : Ba) : Prop := UpI x.ep ∧ x.tm < U64 ∧ listOk PmOk x.ps ∧ listOk OpOk x.os ∧ listOk TbOk x.ts
theorem gSig_ed : Ed gSig sgB sgOk := by
  intro x r ⟨h1, h2⟩
  simp only [gSig, gb, sgB, List.append_assoc, gI_ed _ _ h1, gI_ed _ _ h2]
theorem sgB_sig (a b : Int) : sgB (a, b) = sigB a b := rfl
theorem sgB_name (a b : Int) : sgB (a, b) = nameB a b := rfl
theorem gCm_ed : Ed gCm cmB CmOk := by
  intro x r h
  obtain ⟨hc, hs, hh, hl, hb, hm⟩ := h
  simp only [gCm, gb, cmB, ← sgB_sig, ← sgB_name, List.append_assoc, gSig_ed (x.cl, x.sq) _ ⟨hc, hs⟩, rHash_ed _ _ hh.1, gI_ed _ _ hl, gSig_ed (x.sb, x.mr) _ ⟨hb, hm⟩]
theorem gSt_ed : Ed gSt stB StOk := by
  intro x r h
  obtain ⟨hr, hc, hs, hh, ht, hb, hm⟩ := h
  simp only [gSt, gb, stB, ← sgB_sig, ← sgB_name, List.append_assoc, gI_ed _ _ hr, gSig_ed (x.cl, x.sq) _ ⟨hc, hs⟩, rHash_ed _ _ hh.1, rNum_ed _ _ ht, gSig_ed (x.sb, x.mr) _ ⟨hb, hm⟩]
theorem gCe_ed : Ed gCe ceB CeOk := by
  intro x r h
  obtain ⟨hc, hl⟩ := h
  simp only [gCe, gb, ceB, ← sgB_sig, ← sgB_name, List.append_assoc, gCm_ed _ _ hc, gList_ed gSt_ed _ _ hl]
theorem gPm_ed : Ed gPm pmB PmOk := by
  intro x r h
  obtain ⟨hr, he, hf, hl, hb, hm⟩ := h
  simp only [gPm, gb, pmB, ← sgB_sig, ← sgB_name, List.append_assoc, gI_ed _ _ hr, gI_ed _ _ he, rNum_ed _ _ hf, gList_ed gCe_ed _ _ hl, gSig_ed (x.sb, x.mr) _ ⟨hb, hm⟩]
theorem rowx {b r : List Int} (h : (b.length : Int) ≤ 256) : rRow 256 (some (encN b.length ++ (b ++ r))) = (b, some r) := by
  have := rRow_ed 256 (by decide) b r h
  simpa only [List.append_assoc] using this
theorem gOp_ed : Ed gOp opB OpOk := by
  intro x r h
  obtain ⟨hi, hp, hn⟩ := h
  simp only [gOp, gb, opB, ← sgB_sig, ← sgB_name, List.append_assoc, gI_ed _ _ hi, rowx hp, rHash_ed _ _ hn.1]
theorem gDn_ed : Ed gDn dnB DnOk := by
  intro x r h
  obtain ⟨hr, hi, hb, hm⟩ := h
  simp only [gDn, gb, dnB, ← sgB_sig, ← sgB_name, List.append_assoc, gI_ed _ _ hr, gI_ed _ _ hi, gSig_ed (x.sb, x.mr) _ ⟨hb, hm⟩]
theorem gTb_ed : Ed gTb tbB TbOk := by
  intro x r h
  obtain ⟨hi, hl⟩ := h
  simp only [gTb, gb, tbB, ← sgB_sig, ← sgB_name, List.append_assoc, gI_ed _ _ hi, gList_ed gDn_ed _ _ hl]
theorem gBa_ed : Ed gBa baB BaOk := by
  intro x r h
  obtain ⟨he, ht, hp, ho, hb⟩ := h
  simp only [gBa, gb, baB, ← sgB_sig, ← sgB_name, List.append_assoc, gI_ed _ _ he, rNum_ed _ _ ht, gList_ed gPm_ed _ _ hp, gList_ed gOp_ed _ _ ho, gList_ed gTb_ed _ _ hb]
end Go.Proofs.Ytknpapcfhnhheaa

/- gavelref01.Reader: numbers, rows, hashes as the document reads them; code.Reader.Row for any bound. -/
set_option maxRecDepth 100000
set_option linter.unusedVariables false
namespace Go.Proofs.Ytknpapcfhnhheaa
open Go Go.RowKit Go.Gv

end Go.Proofs.Ytknpapcfhnhheaa

/- gavelref01.Reader: rows. -/
set_option maxRecDepth 100000
set_option linter.unusedVariables false
namespace Go.Proofs.Ytknpapcfhnhheaa
open Go Go.RowKit Go.Gv

end Go.Proofs.Ytknpapcfhnhheaa

/- gavelref01.Reader: hashes. -/
set_option maxRecDepth 100000
set_option linter.unusedVariables false
namespace Go.Proofs.Ytknpapcfhnhheaa
open Go Go.RowKit Go.Gv

section
variable {R : Nat → Prop} {r : Nat} {s : RSt} {w : World}
end
end Go.Proofs.Ytknpapcfhnhheaa

/- code.Reader.Row with any bound, over a text that is not long. -/
set_option maxRecDepth 100000
set_option linter.unusedVariables false
namespace Go.Proofs.Ytknpapcfhnhheaa
open Go Go.RowKit Go.Gv

end Go.Proofs.Ytknpapcfhnhheaa
