/- Texts that are built one behind the other: XCut3, XPt1. No condition. -/
import Derived.Test.YtpnikilkcifncaaGreatOnl2
set_option maxRecDepth 100000
set_option linter.unusedVariables false
open List renaming setIfInBounds_toArray → sIB, set_cons_zero → sCZ, set_cons_succ → sCS
/- Batches that are cut. -/
namespace Go.Proofs.YtpnikilkcifncaaGreat
open Go Go.RowKit Go.Gv


def cutOp (x : Op) : Op := { x with pl := x.pl.take 260 }
def cutTb (x : Tb) : Tb := { x with l := x.l.take 5 }
def cutBa (x : Ba) : Ba := { x with ps := (x.ps.take 4).map cutPm, os := (x.os.take 4).map cutOp, ts := (x.ts.take 4).map cutTb }
theorem RdR_len {R : Nat → Prop} {N : Nat} {w : World} {v : Value} {bs : List Int} (h : RdR R N w v bs) : RdR R bs.length w v bs := ⟨h.1, h.2.1, Nat.le_refl _⟩
theorem op_len (x : Op) (v : Value) (h : x.nc.length = 32) : (x.cells v).length = 34 := by simp [Op.cells, h]
theorem lay_pl (x y : Op) (u v : Value) (h : y.ix = x.ix ∧ y.nc = x.nc) : lay (x.cells u).toArray 1 [v] = (y.cells v).toArray := by
 obtain ⟨h1, h2⟩ := h
 simp [lay, Op.cells, h1, h2]
theorem lay_tl (x y : Tb) (u v : Value) (h : y.ix = x.ix) : lay (x.cells u).toArray 1 [v] = (y.cells v).toArray := by
 simp [lay, Tb.cells, h]
set_option maxHeartbeats 8000000 in
theorem LBatch_c : CutR BaR 39 cutBa := by
 intro R2 x cs w hx hB2
 obtain ⟨v_ps, v_os, v_ts, rfl, hok, hs0, hs1, hs2⟩ := hx
 obtain ⟨ao_ps, cap_ps, rfl⟩ := hs0.shape
 obtain ⟨ao_os, cap_os, rfl⟩ := hs1.shape
 obtain ⟨ao_ts, cap_ts, rfl⟩ := hs2.shape
 have HS0 := Lib.hid hs0
 have HS1 := Lib.hid hs1
 have HS2 := Lib.hid hs2
 have HBT := Lib.hid hB2
 have HOK := Lib.hid hok
 clear hs0 hs1 hs2 hB2 hok
 go_enter Tryz.func39, Tryz.ntmps39
 go_upto_region 1 with (fail)
 obtain ⟨w1, hw1⟩ : ∃ zz, zz = ((w.alloc (.cells (x.cells (.slice ao_ps x.ps.length cap_ps) (.slice ao_os x.os.length cap_os) (.slice ao_ts x.ts.length cap_ts) : List Value).toArray 45)).alloc (.cells #[.int .i64 0, .int .u64 0, .slice none 0 0, .slice none 0 0, .slice none 0 0] 45)) := ⟨_, rfl⟩
 change Code.wp _ _ _ _ ((w.alloc (.cells (x.cells (.slice ao_ps x.ps.length cap_ps) (.slice ao_os x.os.length cap_os) (.slice ao_ts x.ts.length cap_ts) : List Value).toArray 45)).alloc (.cells #[.int .i64 0, .int .u64 0, .slice none 0 0, .slice none 0 0, .slice none 0 0] 45))
 rw [← hw1]
 have HB1 := hid (show Cs w1 (w.heap.size) (x.cells (.slice ao_ps x.ps.length cap_ps) (.slice ao_os x.os.length cap_os) (.slice ao_ts x.ts.length cap_ts) : List Value).toArray 45 by rw [hw1]; exact (Cs.new _ _ _).alloc _)
 have HB2 := hid (show Cs w1 (w.heap.size + 1) #[.int .i64 0, .int .u64 0, .slice none 0 0, .slice none 0 0, .slice none 0 0] 45 by rw [hw1]; exact Cs_newN _ _ _ (by simp))
 have hm : Mod (fun _ => False) w w1 := by rw [hw1]; exact ((Mod.refl _ _).alloc _).alloc _
 have HM0 := hid (show Mod (fun _ => False) w w1 from hm.mono (fun _ _ h => h.elim))
 have hs1 : w1.heap.size = w.heap.size + 2 := by rw [hw1]; simp
 have Hx1 := hid (HS0.out.mod hm (fun _ _ h => h))
 clear HS0
 have Hx2 := hid (HS1.out.mod hm (fun _ _ h => h))
 clear HS1
 have Hx3 := hid (HS2.out.mod hm (fun _ _ h => h))
 clear HS2
 clear hw1 hm
 go_wp2
 go_loopw [3, 4] (fun ta ti wr => ∃ k : Nat, ti = .int .i64 (k : Int) ∧ k ≤ x.ps.length ∧ k ≤ 4 ∧ w1.heap.size ≤ wr.heap.size ∧ OwS PmR 40 (fun b => w1.heap.size ≤ b ∧ b < wr.heap.size) (fun b => R2 b ∨ (w1.heap.size ≤ b ∧ b < wr.heap.size)) wr ta ((x.ps.take k).map cutPm) ∧ RdS PmR R2 wr (.slice ao_ps x.ps.length cap_ps) x.ps ∧ RdS OpR R2 wr (.slice ao_os x.os.length cap_os) x.os ∧ RdS TbR R2 wr (.slice ao_ts x.ts.length cap_ts) x.ts ∧ Cs wr (w.heap.size) (x.cells (.slice ao_ps x.ps.length cap_ps) (.slice ao_os x.os.length cap_os) (.slice ao_ts x.ts.length cap_ts) : List Value).toArray 45 ∧ Cs wr (w.heap.size + 1) #[.int .i64 0, .int .u64 0, .slice none 0 0, .slice none 0 0, .slice none 0 0] 45 ∧ Mod (fun _ => False) w wr) (fun _ ti _ => x.ps.length - (intOf ti).toNat)
 case atStart => exact ⟨0, rfl, Nat.zero_le _, Nat.zero_le _, Nat.le_refl _, OwS.nil _ _ _ _ _, Hx1.out, Hx2.out, Hx3.out, HB1.out, HB2.out, HM0.out⟩
 case round =>
  obtain ⟨k1, rfl, hk, hkN, hz, ha, hk_0, hk_1, hk_2, hk_3, hk_4, hm⟩ := hrel
  obtain ⟨wl1, rfl⟩ : ∃ x, x = wr := ⟨_, rfl⟩
  obtain ⟨aol1, capl1, rfl⟩ := ha.shape
  have HAL1 := Lib.hid ha
  have HKL1_0 := Lib.hid hk_0
  have HKL1_1 := Lib.hid hk_1
  have HKL1_2 := Lib.hid hk_2
  have HKL1_3 := Lib.hid hk_3
  have HKL1_4 := Lib.hid hk_4
  have HML1 := Lib.hid hm
  clear ha hm hk_0 hk_1 hk_2 hk_3 hk_4 Hx1 Hx2 Hx3 HB1 HB2 HM0
  by_cases hlt1 : k1 < x.ps.length ∧ k1 < 4
  ·obtain ⟨hlt1, hlN1⟩ := hlt1
   go_upto_region 3 with (fail)
   refine wp_region_U 86 [11, 12, 13, 14, 15, 16, 17, 18, 19] [0, 1, 2, 3, 4, 5, 6, 7, 8] (fun a0 HA0 => ?_)
   have oe1 := ev HA0 1 rfl
   have oe4 := ev HA0 4 rfl
   refine QSeq.pure rfl _ (fun E => ex_move rfl (E.v oe4)) ?_
   refine QSeq.pure rfl (.pointer (some ⟨w.heap.size, 2, none⟩)) (fun E => ex_field rfl Tryz.underlying45 rfl (by kernel_rfl) (E.v oe1)) ?_
   refine QSeq.pure rfl _ (fun E => ex_load1 rfl Tryz.underlying41 rfl (E.d 1 0) (Cs.lit1 HKL1_3.out rfl)) ?_
   refine QSeq.pure rfl (.int .i64 x.ps.length) (fun E => ex_lenS rfl (E.d 2 0) Tryz.underlying41) ?_
   refine QSeq.pure rfl (.bool true) (fun E => ex_binE rfl (E.d 0 3) (E.d 3 0) (guard_ints _ _ _ _ _ _) (run_lss_i _ _ _ Tryz.underlying3) (congrArg Value.bool (decide_eq_true (by omega)))) ?_
   refine QSeq.pure rfl _ (fun E => ex_move rfl (E.d 4 0)) ?_
   refine QSeq.pureG rfl (.int .i64 ((k1 : Nat) : Int)) (fun E => ((wanted_of rfl rfl (E.sz 16 (by decide)) (E.d 5 0)).trans rfl)) (fun E => ex_move rfl (E.v oe4)) ?_
   refine QSeq.pureG rfl (.bool true) (fun E => ((wanted_of rfl rfl (E.sz 16 (by decide)) (E.d 5 1)).trans rfl)) (fun E => ex_binE rfl (E.d 6 0) rfl (guard_ints _ _ _ _ _ _) (run_lss_i _ _ _ Tryz.underlying3) (congrArg Value.bool (decide_eq_true (by omega)))) ?_
   refine QSeq.pure rfl (.bool true) (fun E => ex_pick rfl (E.d 5 2) (E.d 7 0) rfl) ?_
   refine QSeq.nil (t' := [_, _, _, _, _, _, _, _, _]) rfl ?_
   obtain rfl := HA0.out
   clear HA0 oe1 oe4
   simp only [pz, Act.put, sIB, sCZ, sCS]
   have hat := HKL1_0.out.at hlt1
   obtain ⟨g1, o1, cs1, eao, hrg, hrd, hcs⟩ := hat
   subst eao
   have hcl : cs1.length = 6 := PmR.len hrd
   have HCL1 := Lib.hid hcl
   have HAT1 := hid (show CellsAt R2 wl1 g1 (o1 + k1 * 6) cs1 from ⟨hrg, hcs⟩)
   have HRD1 := Lib.hid hrd
   have HOC1 := hid (PmR.one hrd)
   clear hcl hcs hrd hrg
   have HE1 : Hid (((x.ps.take k1).map cutPm) ++ [cutPm x.ps[k1]] = (x.ps.take (k1 + 1)).map cutPm) := hid (by rw [List.take_succ_eq_append_getElem hlt1, List.map_append]; rfl)
   have HLN1 : Hid (((x.ps.take k1).map cutPm).length = k1) := hid (by rw [List.length_map, List.length_take]; omega)
   go_upto_region 5 with (fail)
   refine wp_region_U 86 [22, 23, 24, 25, 26, 27, 28, 29, 30, 3] [0, 1, 2, 3, 4, 5, 6, 7, 8, 9] (fun a0 HA0 => ?_)
   have oe1 := ev HA0 1 rfl
   have oe3 := ev HA0 3 rfl
   have oe4 := ev HA0 4 rfl
   refine QSeq.pure rfl _ (fun E => ex_move rfl (E.y 9 oe3)) ?_
   refine QSeq.pure rfl (.pointer (some ⟨w.heap.size, 2, none⟩)) (fun E => ex_field rfl Tryz.underlying45 rfl (by kernel_rfl) (E.v oe1)) ?_
   refine QSeq.pure rfl _ (fun E => ex_load1 rfl Tryz.underlying41 rfl (E.d 1 0) (Cs.lit1 HKL1_3.out rfl)) ?_
   refine QSeq.pure rfl _ (fun E => ex_move rfl (E.v oe4)) ?_
   refine QSeq.pure rfl (.pointer (some ⟨g1, o1 + k1 * 6, none⟩)) (fun E => ex_idxS (i := k1) (s := 6) rfl Tryz.underlying41 (by kernel_rfl) (E.d 2 1) (E.d 3 0) hlt1) ?_
   refine QSeq.pure rfl _ (fun E => ex_loadA rfl Tryz.underlying40 rfl (off := o1 + k1 * 6) (cs := cs1) (by rw [HCL1.out]; kernel_rfl) (E.d 4 0) (fun j u hu => (HAT1.out).2 j u hu)) ?_
   refine QSeq.call rfl rfl Tryz.func38 (LPromise_c _ _ _ _ HRD1.out (by intro k h1; have hb := HBT.out k h1; omega)) (fun E => args1 (E.d 5 0)) ?_
   rintro e u5_6 ⟨cs', rfl, qel, hm⟩
   refine ⟨_, rfl, ?_⟩
   have Hx4 := hid (qel.widen (R' := (fun k => (R2 k) ∨ (New wl1 u5_6 k))) (fun _ h => h))
   have zu5_6 := hm.size
   have Cx5 := hid (show Mod (fun _ => False) wl1 u5_6 from hm)
   clear hm
   clear qel HRD1
   refine QSeq.go fun act E => ?_
   refine qc_buildS (e := 40) (cs := cs') (zc := [.int .i64 0, .int .i64 0, .int .u64 0, .slice none 0 0, .int .i64 0, .int .i64 0]) (sz := 6) rfl (wanted_none rfl) rfl Tryz.underlying41 (by kernel_rfl) rfl (by decide) (by decide) (E.d 6 0) (PmR.len Hx4.out) ?_
   intro u5_7 qrow hm
   have zl5_7 := qrow.lt
   have Hx6 := hid qrow
   have zu5_7 := hm.size
   have HMu5_7 := hid hm
   have Cx7 := hid (Cx5.out.goE hm)
   clear hm Cx5
   clear act E qrow
   refine QSeq.go fun act E => ?_
   refine qc_appS (A := PmR) (e := 40) rfl (wanted_none rfl) rfl (.agg #[.int .i64 0, .int .i64 0, .int .u64 0, .slice none 0 0, .int .i64 0, .int .i64 0]) 64 Tryz.underlying41 info_Pm (by rfl) (of_decide_eq_true (by kernel_rfl)) (E.d 0 7) (E.d 7 0) ((HAL1.out.mod Cx7.out (fun _ _ h => h) (fun _ _ h => h))) (RdS.single (R := (fun k => (R2 k) ∨ (New wl1 u5_6 k) ∨ (k = u5_6.heap.size))) Hx6.out ((Hx4.out.mod HMu5_7.out (fun _ _ h => h)).widen (by intro k h1; rcases h1 with h1 | h1 <;> first | omega | exact h1.elim | exact Or.inl h1 | exact Or.inr (Or.inl h1) | exact Or.inr (Or.inr (h1)))) (by first | exact Or.inr rfl | exact Or.inr (Or.inr rfl) | (right; omega))) (by intro k h1 h2; rcases h1 with h1 | h1 | h1 <;> first | omega | (have hb := HBT.out k h1; omega)) (by rw [HLN1.out]; simp only [List.length_cons, List.length_nil]; omega) (by rw [HLN1.out, maxLen_val]; simp only [List.length_cons, List.length_nil]; omega) ?_
   intro ao4 cap4 u5_8 qacc1 hm
   have Hx8 := hid (qacc1.widen (R' := (fun k => (New w1 wl1 k) ∨ (New u5_7 u5_8 k))) (E' := (fun k => (R2 k) ∨ (New w1 wl1 k) ∨ (New wl1 u5_6 k) ∨ (k = u5_6.heap.size))) (fun _ h => h) (by intro k h1; rcases h1 with (h1 | h1) | (h1 | h1 | h1) <;> first | omega | exact h1.elim | exact Or.inl h1 | exact Or.inr (Or.inl h1) | exact Or.inr (Or.inr (Or.inl h1)) | exact Or.inr (Or.inr (Or.inr (h1)))))
   have zu5_8 := hm.size
   have HMu5_8 := hid hm
   have Cx9 := hid (Mod.goS (S' := (fun k => (New w1 wl1 k))) Cx7.out hm (fun _ h => h.elim) (by intro k h0 h2; exact h2))
   clear hm Cx7
   clear act E qacc1 HAL1
   refine QSeq.pure rfl _ (fun E => ex_assign rfl (E.d 8 0)) ?_
   have Hx10 := hid ((Hx4.out.mod HMu5_7.out (fun _ _ h => h)).mod HMu5_8.out (by intro k h1 h2; rcases h1 with h1 | h1 <;> first | omega | (have hb := HBT.out k h1; omega)))
   have Hx11 := hid (Hx6.out.mod HMu5_8.out (by intro h2; omega))
   clear Hx4 Hx6 HMu5_7 HMu5_8
   refine QSeq.nil (t' := [_, _, _, _, _, _, _, _, _, _]) rfl ?_
   obtain rfl := HA0.out
   clear HA0 oe1 oe3 oe4
   simp only [pz, Act.put, sIB, sCZ, sCS]
   have hq := Hx8.out
   rw [HE1.out] at hq
   have HQ1 := Lib.hid hq
   clear hq
   go_wp2
   go_roundw
   case rel => exact ⟨k1 + 1, by go_num, by omega, by omega, by omega, (HQ1.out.widen (by intro b h1; omega) (by intro k h1; rcases h1 with h1 | h1 | h1 | h1 <;> first | omega | exact h1.elim | exact Or.inl h1 | exact Or.inr (h1))), (HKL1_0.out.mod Cx9.out (sN HBT)), (HKL1_1.out.mod Cx9.out (sN HBT)), (HKL1_2.out.mod Cx9.out (sN HBT)), (HKL1_3.out.mod Cx9.out (by intro h2; omega)), (HKL1_4.out.mod Cx9.out (by intro h2; omega)), (HML1.out.trans Cx9.out (by intro k h1 h2; omega))⟩
   case measure => simp [intOf]; omega
  ·skip
   obtain ⟨bA1, hbA1⟩ : ∃ b : Bool, b = decide (((k1 : Nat) : Int) < (x.ps.length : Int)) := ⟨_, rfl⟩
   obtain ⟨bB1, hbB1⟩ : ∃ b : Bool, b = decide (((k1 : Nat) : Int) < 4) := ⟨_, rfl⟩
   go_upto_region 3 with (fail)
   refine wp_region_U 86 [11, 12, 13, 14, 15, 16, 17, 18, 19] [0, 1, 2, 3, 4, 5, 6, 7, 8] (fun a0 HA0 => ?_)
   have oe1 := ev HA0 1 rfl
   have oe4 := ev HA0 4 rfl
   refine QSeq.pure rfl _ (fun E => ex_move rfl (E.v oe4)) ?_
   refine QSeq.pure rfl (.pointer (some ⟨w.heap.size, 2, none⟩)) (fun E => ex_field rfl Tryz.underlying45 rfl (by kernel_rfl) (E.v oe1)) ?_
   refine QSeq.pure rfl _ (fun E => ex_load1 rfl Tryz.underlying41 rfl (E.d 1 0) (Cs.lit1 HKL1_3.out rfl)) ?_
   refine QSeq.pure rfl (.int .i64 x.ps.length) (fun E => ex_lenS rfl (E.d 2 0) Tryz.underlying41) ?_
   refine QSeq.pure rfl (.bool bA1) (fun E => ex_binE rfl (E.d 0 3) (E.d 3 0) (guard_ints _ _ _ _ _ _) (run_lss_i _ _ _ Tryz.underlying3) (congrArg Value.bool hbA1.symm)) ?_
   refine QSeq.pure rfl _ (fun E => ex_move rfl (E.d 4 0)) ?_
   refine QSeq.may (b := bA1) rfl (.int .i64 ((k1 : Nat) : Int)) (fun E => ((wanted_of rfl rfl (E.sz 16 (by decide)) (E.d 5 0)).trans (beq_t _))) (fun E hb => ex_move rfl (E.v oe4)) ?_
   intro v3_6 hw
   have hv3_6 := hid hw
   clear hw
   refine QSeq.may (b := bA1) rfl (.bool bB1) (fun E => ((wanted_of rfl rfl (E.sz 16 (by decide)) (E.d 5 1)).trans (beq_t _))) (fun E hb => ex_binE rfl ((E.q 6 0 hv3_6.out).1 hb) rfl (guard_ints _ _ _ _ _ _) (run_lss_i _ _ _ Tryz.underlying3) (congrArg Value.bool hbB1.symm)) ?_
   intro v3_7 hw
   have hv3_7 := hid hw
   clear hw
   refine QSeq.pure rfl (.bool (bA1 && bB1)) (fun E => ex_pickE rfl (E.d 5 2) rfl rfl (and_val fun hb => (E.q 7 0 hv3_7.out).1 hb)) ?_
   clear hv3_6 hv3_7
   refine QSeq.nil (t' := [_, _, _, _, _, _, _, _, _]) rfl ?_
   obtain rfl := HA0.out
   clear HA0 oe1 oe4
   simp only [pz, Act.put, sIB, sCZ, sCS]
   rw [show (bA1 && bB1) = false by rw [hbA1, hbB1, Bool.and_eq_false_iff, decide_eq_false_iff_not, decide_eq_false_iff_not]; omega]
   have HTK1 := hid (show x.ps.take k1 = x.ps.take 4 from take_two (by omega) (by omega))
   go_wp2
   go_loopw [5, 6] (fun ta ti wr => ∃ k : Nat, ti = .int .i64 (k : Int) ∧ k ≤ x.os.length ∧ k ≤ 4 ∧ wl1.heap.size ≤ wr.heap.size ∧ OwS OpR 54 (fun b => wl1.heap.size ≤ b ∧ b < wr.heap.size) (fun b => R2 b ∨ (wl1.heap.size ≤ b ∧ b < wr.heap.size)) wr ta ((x.os.take k).map cutOp) ∧ RdS PmR R2 wr (.slice ao_ps x.ps.length cap_ps) x.ps ∧ RdS OpR R2 wr (.slice ao_os x.os.length cap_os) x.os ∧ RdS TbR R2 wr (.slice ao_ts x.ts.length cap_ts) x.ts ∧ Cs wr (w.heap.size) (x.cells (.slice ao_ps x.ps.length cap_ps) (.slice ao_os x.os.length cap_os) (.slice ao_ts x.ts.length cap_ts) : List Value).toArray 45 ∧ Cs wr (w.heap.size + 1) #[.int .i64 0, .int .u64 0, .slice none 0 0, .slice none 0 0, .slice none 0 0] 45 ∧ OwS PmR 40 (fun b => w1.heap.size ≤ b ∧ b < wl1.heap.size) (fun b => R2 b ∨ (w1.heap.size ≤ b ∧ b < wl1.heap.size)) wr (.slice aol1 ((x.ps.take k1).map cutPm).length capl1) ((x.ps.take k1).map cutPm) ∧ Mod (fun _ => False) w wr) (fun _ ti _ => x.os.length - (intOf ti).toNat)
   case atStart => exact ⟨0, rfl, Nat.zero_le _, Nat.zero_le _, Nat.le_refl _, OwS.nil _ _ _ _ _, HKL1_0.out, HKL1_1.out, HKL1_2.out, HKL1_3.out, HKL1_4.out, HAL1.out, HML1.out⟩
   case round =>
    obtain ⟨k2, rfl, hk, hkN, hz, ha, hk_0, hk_1, hk_2, hk_3, hk_4, hk_5, hm⟩ := hrel
    obtain ⟨wl2, rfl⟩ : ∃ x, x = wr := ⟨_, rfl⟩
    obtain ⟨aol2, capl2, rfl⟩ := ha.shape
    have HAL2 := Lib.hid ha
    have HKL2_0 := Lib.hid hk_0
    have HKL2_1 := Lib.hid hk_1
    have HKL2_2 := Lib.hid hk_2
    have HKL2_3 := Lib.hid hk_3
    have HKL2_4 := Lib.hid hk_4
    have HKL2_5 := Lib.hid hk_5
    have HML2 := Lib.hid hm
    clear ha hm hk_0 hk_1 hk_2 hk_3 hk_4 hk_5 HKL1_0 HKL1_1 HKL1_2 HKL1_3 HKL1_4 HML1 HAL1
    by_cases hlt2 : k2 < x.os.length ∧ k2 < 4
    ·obtain ⟨hlt2, hlN2⟩ := hlt2
     go_upto_region 8 with (fail)
     refine wp_region_U 86 [31, 32, 33, 34, 35, 36, 37, 38, 39] [0, 1, 2, 3, 4, 5, 6, 7, 8] (fun a0 HA0 => ?_)
     have oe1 := ev HA0 1 rfl
     have oe6 := ev HA0 6 rfl
     refine QSeq.pure rfl _ (fun E => ex_move rfl (E.v oe6)) ?_
     refine QSeq.pure rfl (.pointer (some ⟨w.heap.size, 3, none⟩)) (fun E => ex_field rfl Tryz.underlying45 rfl (by kernel_rfl) (E.v oe1)) ?_
     refine QSeq.pure rfl _ (fun E => ex_load1 rfl Tryz.underlying42 rfl (E.d 1 0) (Cs.lit1 HKL2_3.out rfl)) ?_
     refine QSeq.pure rfl (.int .i64 x.os.length) (fun E => ex_lenS rfl (E.d 2 0) Tryz.underlying42) ?_
     refine QSeq.pure rfl (.bool true) (fun E => ex_binE rfl (E.d 0 3) (E.d 3 0) (guard_ints _ _ _ _ _ _) (run_lss_i _ _ _ Tryz.underlying3) (congrArg Value.bool (decide_eq_true (by omega)))) ?_
     refine QSeq.pure rfl _ (fun E => ex_move rfl (E.d 4 0)) ?_
     refine QSeq.pureG rfl (.int .i64 ((k2 : Nat) : Int)) (fun E => ((wanted_of rfl rfl (E.sz 36 (by decide)) (E.d 5 0)).trans rfl)) (fun E => ex_move rfl (E.v oe6)) ?_
     refine QSeq.pureG rfl (.bool true) (fun E => ((wanted_of rfl rfl (E.sz 36 (by decide)) (E.d 5 1)).trans rfl)) (fun E => ex_binE rfl (E.d 6 0) rfl (guard_ints _ _ _ _ _ _) (run_lss_i _ _ _ Tryz.underlying3) (congrArg Value.bool (decide_eq_true (by omega)))) ?_
     refine QSeq.pure rfl (.bool true) (fun E => ex_pick rfl (E.d 5 2) (E.d 7 0) rfl) ?_
     refine QSeq.nil (t' := [_, _, _, _, _, _, _, _, _]) rfl ?_
     obtain rfl := HA0.out
     clear HA0 oe1 oe6
     simp only [pz, Act.put, sIB, sCZ, sCS]
     have hat := HKL2_1.out.at hlt2
     obtain ⟨g2, o2, cs2, eao, hrg, hrd, hcs⟩ := hat
     subst eao
     have hcl : cs2.length = 34 := OpR.len hrd
     have HCL2 := Lib.hid hcl
     have HAT2 := hid (show CellsAt R2 wl2 g2 (o2 + k2 * 34) cs2 from ⟨hrg, hcs⟩)
     have HRD2 := Lib.hid hrd
     have HOC2 := hid (OpR.one hrd)
     clear hcl hcs hrd hrg
     have HE2 : Hid (((x.os.take k2).map cutOp) ++ [cutOp x.os[k2]] = (x.os.take (k2 + 1)).map cutOp) := hid (by rw [List.take_succ_eq_append_getElem hlt2, List.map_append]; rfl)
     have HLN2 : Hid (((x.os.take k2).map cutOp).length = k2) := hid (by rw [List.length_map, List.length_take]; omega)
     obtain ⟨y2, hy2⟩ : ∃ y, y = x.os[k2] := ⟨_, rfl⟩
     rw [← hy2] at HRD2 HE2
     clear hy2
     obtain ⟨v_e, rfl, hoke, hse⟩ := HRD2.out
     obtain ⟨aoe2, cape2, rfl⟩ := hse.shape
     have HOK2 := Lib.hid hoke
     have HSE2 := Lib.hid hse
     clear hoke hse HRD2
     go_upto_region 10 with (fail)
     refine wp_region_U 86 [42, 43, 44, 45, 46, 7, 92] [0, 1, 2, 3, 4, 5, 6] (fun a0 HA0 => ?_)
     have oe1 := ev HA0 1 rfl
     have oe6 := ev HA0 6 rfl
     refine QSeq.pure rfl (.pointer (some ⟨w.heap.size, 3, none⟩)) (fun E => ex_field rfl Tryz.underlying45 rfl (by kernel_rfl) (E.v oe1)) ?_
     refine QSeq.pure rfl _ (fun E => ex_load1 rfl Tryz.underlying42 rfl (E.d 0 0) (Cs.lit1 HKL2_3.out rfl)) ?_
     refine QSeq.pure rfl _ (fun E => ex_move rfl (E.v oe6)) ?_
     refine QSeq.pure rfl (.pointer (some ⟨g2, o2 + k2 * 34, none⟩)) (fun E => ex_idxS (i := k2) (s := 34) rfl Tryz.underlying42 (by kernel_rfl) (E.d 1 1) (E.d 2 0) hlt2) ?_
     refine QSeq.pure rfl _ (fun E => ex_loadA rfl Tryz.underlying54 rfl (off := o2 + k2 * 34) (cs := (y2.cells (.slice aoe2 y2.pl.length cape2))) (by rw [HCL2.out]; kernel_rfl) (E.d 3 0) (fun j u hu => (HAT2.out).2 j u hu)) ?_
     refine QSeq.go fun act E => ?_
     refine qc_alloc rfl (wanted_none rfl) rfl (z := [.int .i64 0, .slice none 0 0, .int .u8 0, .int .u8 0, .int .u8 0, .int .u8 0, .int .u8 0, .int .u8 0, .int .u8 0, .int .u8 0, .int .u8 0, .int .u8 0, .int .u8 0, .int .u8 0, .int .u8 0, .int .u8 0, .int .u8 0, .int .u8 0, .int .u8 0, .int .u8 0, .int .u8 0, .int .u8 0, .int .u8 0, .int .u8 0, .int .u8 0, .int .u8 0, .int .u8 0, .int .u8 0, .int .u8 0, .int .u8 0, .int .u8 0, .int .u8 0, .int .u8 0, .int .u8 0]) (by kernel_rfl) ?_
     intro u10_5 qq2 hm
     have zl10_5 := qq2.lt
     have Hx12 := hid qq2
     have zu10_5 := hm.size
     have Cx13 := hid (show Mod (fun _ => False) wl2 u10_5 from hm)
     clear hm
     clear act E qq2
     refine QSeq.go fun act E => ?_
     have hlz : ((y2.cells (.slice aoe2 y2.pl.length cape2))).length = List.length ([.int .i64 0, .slice none 0 0, .int .u8 0, .int .u8 0, .int .u8 0, .int .u8 0, .int .u8 0, .int .u8 0, .int .u8 0, .int .u8 0, .int .u8 0, .int .u8 0, .int .u8 0, .int .u8 0, .int .u8 0, .int .u8 0, .int .u8 0, .int .u8 0, .int .u8 0, .int .u8 0, .int .u8 0, .int .u8 0, .int .u8 0, .int .u8 0, .int .u8 0, .int .u8 0, .int .u8 0, .int .u8 0, .int .u8 0, .int .u8 0, .int .u8 0, .int .u8 0, .int .u8 0, .int .u8 0] : List Value) := (by rw [HCL2.out]; rfl)
     refine qc_store rfl (wanted_none rfl) rfl Hx12.out (off := 0) (vs := (y2.cells (.slice aoe2 y2.pl.length cape2))) (by rw [hlz]; kernel_rfl) HOC2.out (by rw [hlz]; exact Nat.le_of_eq (Nat.zero_add _)) (E.d 5 0) (ec (E.d 4 1)) ?_
     intro u10_6 qc0 hm
     have qq2 := qc0.eqv (b := ((y2.cells (.slice aoe2 y2.pl.length cape2)) : List Value).toArray) (lay_whole #[.int .i64 0, .slice none 0 0, .int .u8 0, .int .u8 0, .int .u8 0, .int .u8 0, .int .u8 0, .int .u8 0, .int .u8 0, .int .u8 0, .int .u8 0, .int .u8 0, .int .u8 0, .int .u8 0, .int .u8 0, .int .u8 0, .int .u8 0, .int .u8 0, .int .u8 0, .int .u8 0, .int .u8 0, .int .u8 0, .int .u8 0, .int .u8 0, .int .u8 0, .int .u8 0, .int .u8 0, .int .u8 0, .int .u8 0, .int .u8 0, .int .u8 0, .int .u8 0, .int .u8 0, .int .u8 0] _ (by rw [hlz]; rfl))
     clear qc0 hlz
     have Hx14 := hid qq2
     have zu10_6 := hm.size
     have HMu10_6 := hid hm
     have Cx15 := hid (Mod.goS (S' := (fun _ => False)) Cx13.out hm (fun _ h => h) (by intro k h0 h2; omega))
     clear hm Cx13
     clear act E qq2 Hx12
     clear HMu10_6
     refine QSeq.nil (t' := [_, _, _, _, _, _, _]) rfl ?_
     obtain rfl := HA0.out
     clear HA0 oe1 oe6
     simp only [pz, Act.put, sIB, sCZ, sCS, List.set_nil]
     go_upto_region 11 with (fail)
     refine wp_region_U 86 [47, 48, 49, 50, 90] [0, 1, 2, 3, 4] (fun a0 HA0 => ?_)
     have oe7 := ev HA0 7 rfl
     refine QSeq.pure rfl (.pointer (some ⟨wl2.heap.size, 1, none⟩)) (fun E => ex_field rfl Tryz.underlying54 rfl (by kernel_rfl) (E.v oe7)) ?_
     refine QSeq.pure rfl _ (fun E => ex_load1 rfl Tryz.underlying52 rfl (E.d 0 0) (Cs.hd1 Hx14.out rfl)) ?_
     refine QSeq.call rfl rfl Tryz.func10 (Cut_R 260 (HSE2.out.mod Cx15.out (fun _ _ h => h)) (by decide)) (fun E => args2 (E.d 1 0) rfl) ?_
     rintro e u11_2 ⟨v', rfl, qpc, hm⟩
     obtain ⟨aop2, capp2, rfl⟩ := qpc.shape
     refine ⟨_, rfl, ?_⟩
     have Hx16 := hid qpc
     have zu11_2 := hm.size
     have Cx17 := hid (show Mod (fun _ => False) u10_6 u11_2 from hm)
     clear hm
     clear qpc
     refine QSeq.pure rfl (.pointer (some ⟨wl2.heap.size, 1, none⟩)) (fun E => ex_field rfl Tryz.underlying54 rfl (by kernel_rfl) (E.v oe7)) ?_
     refine QSeq.go fun act E => ?_
     refine qc_store rfl (wanted_none rfl) rfl (Hx14.out.mod Cx17.out (fun h => h)) (off := 1) (vs := [Value.slice aop2 (y2.pl.take 260).length capp2]) (by kernel_rfl) one1 (by rw [List.size_toArray, op_len _ _ HOK2.out.2.1]; show 1 + 1 ≤ 34; decide) (E.d 3 0) (ec (E.d 2 1)) ?_
     intro u11_4 qc0 hm
     have qq2 := qc0.eqv (b := (((cutOp y2).cells (Value.slice aop2 (y2.pl.take 260).length capp2)) : List Value).toArray) (lay_pl y2 (cutOp y2) _ _ ⟨rfl, rfl⟩)
     clear qc0
     have Hx18 := hid qq2
     have zu11_4 := hm.size
     have HMu11_4 := hid hm
     have Cx19 := hid (Mod.goS (S' := (fun k => (k = wl2.heap.size))) Cx17.out hm (fun _ h => h.elim) (by intro k h0 h2; exact h2))
     clear hm Cx17
     clear act E qq2 Hx14
     have Hx20 := hid (Hx16.out.mod HMu11_4.out (by intro k h1 h2; omega))
     clear Hx16 HMu11_4
     refine QSeq.nil (t' := [_, _, _, _, _]) rfl ?_
     obtain rfl := HA0.out
     clear HA0 oe7
     simp only [pz, Act.put, sIB, sCZ, sCS, List.set_nil]
     have HEL2 := hid (show OpR.rd (fun k => (New u10_6 u11_2 k)) u11_4 ((cutOp y2).cells (Value.slice aop2 (y2.pl.take 260).length capp2)) (cutOp y2) from ⟨_, rfl, HOK2.out, RdR_len Hx20.out.rd⟩)
     go_upto_region 12 with (fail)
     refine wp_region_U 86 [51, 52, 53, 54, 5] [0, 1, 2, 3, 4] (fun a0 HA0 => ?_)
     have oe5 := ev HA0 5 rfl
     have oe7 := ev HA0 7 rfl
     refine QSeq.pure rfl _ (fun E => ex_move rfl (E.y 4 oe5)) ?_
     refine QSeq.pure rfl _ (fun E => ex_loadA rfl Tryz.underlying54 rfl (off := 0) (cs := ((cutOp y2).cells (Value.slice aop2 (y2.pl.take 260).length capp2))) (by rw [op_len (cutOp y2) _ HOK2.out.2.1]; kernel_rfl) (E.v oe7) (Cs.whole Hx18.out)) ?_
     refine QSeq.go fun act E => ?_
     refine qc_buildS (e := 54) (cs := ((cutOp y2).cells (Value.slice aop2 (y2.pl.take 260).length capp2))) (zc := [.int .i64 0, .slice none 0 0, .int .u8 0, .int .u8 0, .int .u8 0, .int .u8 0, .int .u8 0, .int .u8 0, .int .u8 0, .int .u8 0, .int .u8 0, .int .u8 0, .int .u8 0, .int .u8 0, .int .u8 0, .int .u8 0, .int .u8 0, .int .u8 0, .int .u8 0, .int .u8 0, .int .u8 0, .int .u8 0, .int .u8 0, .int .u8 0, .int .u8 0, .int .u8 0, .int .u8 0, .int .u8 0, .int .u8 0, .int .u8 0, .int .u8 0, .int .u8 0, .int .u8 0, .int .u8 0]) (sz := 34) rfl (wanted_none rfl) rfl Tryz.underlying42 (by kernel_rfl) rfl (by decide) (by decide) (E.d 1 0) (OpR.len HEL2.out) ?_
     intro u12_2 qrow hm
     have zl12_2 := qrow.lt
     have Hx21 := hid qrow
     have zu12_2 := hm.size
     have Cx22 := hid (show Mod (fun _ => False) u11_4 u12_2 from hm)
     clear hm
     clear act E qrow
     refine QSeq.go fun act E => ?_
     refine qc_appS (A := OpR) (e := 54) rfl (wanted_none rfl) rfl (.agg #[.int .i64 0, .slice none 0 0, .int .u8 0, .int .u8 0, .int .u8 0, .int .u8 0, .int .u8 0, .int .u8 0, .int .u8 0, .int .u8 0, .int .u8 0, .int .u8 0, .int .u8 0, .int .u8 0, .int .u8 0, .int .u8 0, .int .u8 0, .int .u8 0, .int .u8 0, .int .u8 0, .int .u8 0, .int .u8 0, .int .u8 0, .int .u8 0, .int .u8 0, .int .u8 0, .int .u8 0, .int .u8 0, .int .u8 0, .int .u8 0, .int .u8 0, .int .u8 0, .int .u8 0, .int .u8 0]) 64 Tryz.underlying42 info_Op (by rfl) (of_decide_eq_true (by kernel_rfl)) (E.d 0 2) (E.d 2 0) ((((HAL2.out.mod Cx15.out (fun _ _ h => h) (fun _ _ h => h)).mod Cx19.out (by intro k h1 h2; omega) (by intro k h1 h2; rcases h1 with h1 | h1 <;> first | omega | (have hb := HBT.out k h1; omega))).mod Cx22.out (fun _ _ h => h) (fun _ _ h => h))) (RdS.single (R := (fun k => (New u10_6 u11_2 k) ∨ (k = u11_4.heap.size))) Hx21.out ((HEL2.out.mod Cx22.out (fun _ _ h => h)).widen (by intro k h1; first | omega | exact h1.elim | exact Or.inl h1 | exact Or.inr (h1))) (by first | exact Or.inr rfl | exact Or.inr (Or.inr rfl) | (right; omega))) (by intro k h1 h2; omega) (by rw [HLN2.out]; simp only [List.length_cons, List.length_nil]; omega) (by rw [HLN2.out, maxLen_val]; simp only [List.length_cons, List.length_nil]; omega) ?_
     intro ao8 cap8 u12_3 qacc2 hm
     have Hx23 := hid (qacc2.widen (R' := (fun k => (New wl1 wl2 k) ∨ (New u12_2 u12_3 k))) (E' := (fun k => (R2 k) ∨ (New wl1 wl2 k) ∨ (New u10_6 u11_2 k) ∨ (k = u11_4.heap.size))) (fun _ h => h) (by intro k h1; rcases h1 with (h1 | h1) | (h1 | h1) <;> first | omega | exact h1.elim | exact Or.inl h1 | exact Or.inr (Or.inl h1) | exact Or.inr (Or.inr (Or.inl h1)) | exact Or.inr (Or.inr (Or.inr (h1)))))
     have zu12_3 := hm.size
     have HMu12_3 := hid hm
     have Cx24 := hid (Mod.goS (S' := (fun k => (New wl1 wl2 k))) Cx22.out hm (fun _ h => h.elim) (by intro k h0 h2; exact h2))
     clear hm Cx22
     clear act E qacc2 HAL2
     refine QSeq.pure rfl _ (fun E => ex_assign rfl (E.d 3 0)) ?_
     have Hx25 := hid (Hx21.out.mod HMu12_3.out (by intro h2; omega))
     clear Hx21 HMu12_3
     refine QSeq.nil (t' := [_, _, _, _, _]) rfl ?_
     obtain rfl := HA0.out
     clear HA0 oe5 oe7
     simp only [pz, Act.put, sIB, sCZ, sCS]
     have hq := Hx23.out
     rw [HE2.out] at hq
     have HQ2 := Lib.hid hq
     clear hq
     go_wp2
     go_roundw
     case rel => exact ⟨k2 + 1, by go_num, by omega, by omega, by omega, (HQ2.out.widen (by intro b h1; omega) (by intro k h1; rcases h1 with h1 | h1 | h1 | h1 <;> first | omega | exact h1.elim | exact Or.inl h1 | exact Or.inr (h1))), (((HKL2_0.out.mod Cx15.out (fun _ _ h => h)).mod Cx19.out (sB HBT)).mod Cx24.out (sN HBT)), (((HKL2_1.out.mod Cx15.out (fun _ _ h => h)).mod Cx19.out (sB HBT)).mod Cx24.out (sN HBT)), (((HKL2_2.out.mod Cx15.out (fun _ _ h => h)).mod Cx19.out (sB HBT)).mod Cx24.out (sN HBT)), (((HKL2_3.out.mod Cx15.out (fun h => h)).mod Cx19.out (by intro h2; omega)).mod Cx24.out (by intro h2; omega)), (((HKL2_4.out.mod Cx15.out (fun h => h)).mod Cx19.out (by intro h2; omega)).mod Cx24.out (by intro h2; omega)), (((HKL2_5.out.mod Cx15.out (fun _ _ h => h) (fun _ _ h => h)).mod Cx19.out (by intro k h1 h2; omega) (by intro k h1 h2; rcases h1 with h1 | h1 <;> first | omega | (have hb := HBT.out k h1; omega))).mod Cx24.out (by intro k h1 h2; omega) (by intro k h1 h2; rcases h1 with h1 | h1 <;> first | omega | (have hb := HBT.out k h1; omega))), (((HML2.out.trans Cx15.out (fun _ _ h => h.elim)).trans Cx19.out (by intro k h1 h2; omega)).trans Cx24.out (by intro k h1 h2; omega))⟩
     case measure => simp [intOf]; omega
    ·skip
     obtain ⟨bA2, hbA2⟩ : ∃ b : Bool, b = decide (((k2 : Nat) : Int) < (x.os.length : Int)) := ⟨_, rfl⟩
     obtain ⟨bB2, hbB2⟩ : ∃ b : Bool, b = decide (((k2 : Nat) : Int) < 4) := ⟨_, rfl⟩
     go_upto_region 8 with (fail)
     refine wp_region_U 86 [31, 32, 33, 34, 35, 36, 37, 38, 39] [0, 1, 2, 3, 4, 5, 6, 7, 8] (fun a0 HA0 => ?_)
     have oe1 := ev HA0 1 rfl
     have oe6 := ev HA0 6 rfl
     refine QSeq.pure rfl _ (fun E => ex_move rfl (E.v oe6)) ?_
     refine QSeq.pure rfl (.pointer (some ⟨w.heap.size, 3, none⟩)) (fun E => ex_field rfl Tryz.underlying45 rfl (by kernel_rfl) (E.v oe1)) ?_
     refine QSeq.pure rfl _ (fun E => ex_load1 rfl Tryz.underlying42 rfl (E.d 1 0) (Cs.lit1 HKL2_3.out rfl)) ?_
     refine QSeq.pure rfl (.int .i64 x.os.length) (fun E => ex_lenS rfl (E.d 2 0) Tryz.underlying42) ?_
     refine QSeq.pure rfl (.bool bA2) (fun E => ex_binE rfl (E.d 0 3) (E.d 3 0) (guard_ints _ _ _ _ _ _) (run_lss_i _ _ _ Tryz.underlying3) (congrArg Value.bool hbA2.symm)) ?_
     refine QSeq.pure rfl _ (fun E => ex_move rfl (E.d 4 0)) ?_
     refine QSeq.may (b := bA2) rfl (.int .i64 ((k2 : Nat) : Int)) (fun E => ((wanted_of rfl rfl (E.sz 36 (by decide)) (E.d 5 0)).trans (beq_t _))) (fun E hb => ex_move rfl (E.v oe6)) ?_
     intro v8_6 hw
     have hv8_6 := hid hw
     clear hw
     refine QSeq.may (b := bA2) rfl (.bool bB2) (fun E => ((wanted_of rfl rfl (E.sz 36 (by decide)) (E.d 5 1)).trans (beq_t _))) (fun E hb => ex_binE rfl ((E.q 6 0 hv8_6.out).1 hb) rfl (guard_ints _ _ _ _ _ _) (run_lss_i _ _ _ Tryz.underlying3) (congrArg Value.bool hbB2.symm)) ?_
     intro v8_7 hw
     have hv8_7 := hid hw
     clear hw
     refine QSeq.pure rfl (.bool (bA2 && bB2)) (fun E => ex_pickE rfl (E.d 5 2) rfl rfl (and_val fun hb => (E.q 7 0 hv8_7.out).1 hb)) ?_
     clear hv8_6 hv8_7
     refine QSeq.nil (t' := [_, _, _, _, _, _, _, _, _]) rfl ?_
     obtain rfl := HA0.out
     clear HA0 oe1 oe6
     simp only [pz, Act.put, sIB, sCZ, sCS]
     rw [show (bA2 && bB2) = false by rw [hbA2, hbB2, Bool.and_eq_false_iff, decide_eq_false_iff_not, decide_eq_false_iff_not]; omega]
     have HTK2 := hid (show x.os.take k2 = x.os.take 4 from take_two (by omega) (by omega))
     go_wp2
     go_loopw [8, 9] (fun ta ti wr => ∃ k : Nat, ti = .int .i64 (k : Int) ∧ k ≤ x.ts.length ∧ k ≤ 4 ∧ wl2.heap.size ≤ wr.heap.size ∧ OwS TbR 128 (fun b => wl2.heap.size ≤ b ∧ b < wr.heap.size) (fun b => R2 b ∨ (wl2.heap.size ≤ b ∧ b < wr.heap.size)) wr ta ((x.ts.take k).map cutTb) ∧ RdS PmR R2 wr (.slice ao_ps x.ps.length cap_ps) x.ps ∧ RdS OpR R2 wr (.slice ao_os x.os.length cap_os) x.os ∧ RdS TbR R2 wr (.slice ao_ts x.ts.length cap_ts) x.ts ∧ Cs wr (w.heap.size) (x.cells (.slice ao_ps x.ps.length cap_ps) (.slice ao_os x.os.length cap_os) (.slice ao_ts x.ts.length cap_ts) : List Value).toArray 45 ∧ Cs wr (w.heap.size + 1) #[.int .i64 0, .int .u64 0, .slice none 0 0, .slice none 0 0, .slice none 0 0] 45 ∧ OwS PmR 40 (fun b => w1.heap.size ≤ b ∧ b < wl1.heap.size) (fun b => R2 b ∨ (w1.heap.size ≤ b ∧ b < wl1.heap.size)) wr (.slice aol1 ((x.ps.take k1).map cutPm).length capl1) ((x.ps.take k1).map cutPm) ∧ OwS OpR 54 (fun b => wl1.heap.size ≤ b ∧ b < wl2.heap.size) (fun b => R2 b ∨ (wl1.heap.size ≤ b ∧ b < wl2.heap.size)) wr (.slice aol2 ((x.os.take k2).map cutOp).length capl2) ((x.os.take k2).map cutOp) ∧ Mod (fun _ => False) w wr) (fun _ ti _ => x.ts.length - (intOf ti).toNat)
     case atStart => exact ⟨0, rfl, Nat.zero_le _, Nat.zero_le _, Nat.le_refl _, OwS.nil _ _ _ _ _, HKL2_0.out, HKL2_1.out, HKL2_2.out, HKL2_3.out, HKL2_4.out, HKL2_5.out, HAL2.out, HML2.out⟩
     case round =>
      obtain ⟨k3, rfl, hk, hkN, hz, ha, hk_0, hk_1, hk_2, hk_3, hk_4, hk_5, hk_6, hm⟩ := hrel
      obtain ⟨wl3, rfl⟩ : ∃ x, x = wr := ⟨_, rfl⟩
      obtain ⟨aol3, capl3, rfl⟩ := ha.shape
      have HAL3 := Lib.hid ha
      have HKL3_0 := Lib.hid hk_0
      have HKL3_1 := Lib.hid hk_1
      have HKL3_2 := Lib.hid hk_2
      have HKL3_3 := Lib.hid hk_3
      have HKL3_4 := Lib.hid hk_4
      have HKL3_5 := Lib.hid hk_5
      have HKL3_6 := Lib.hid hk_6
      have HML3 := Lib.hid hm
      clear ha hm hk_0 hk_1 hk_2 hk_3 hk_4 hk_5 hk_6 HKL2_0 HKL2_1 HKL2_2 HKL2_3 HKL2_4 HKL2_5 HML2 HAL2
      by_cases hlt3 : k3 < x.ts.length ∧ k3 < 4
      ·obtain ⟨hlt3, hlN3⟩ := hlt3
       go_upto_region 15 with (fail)
       refine wp_region_U 86 [55, 56, 57, 58, 59, 60, 61, 62, 63] [0, 1, 2, 3, 4, 5, 6, 7, 8] (fun a0 HA0 => ?_)
       have oe1 := ev HA0 1 rfl
       have oe9 := ev HA0 9 rfl
       refine QSeq.pure rfl _ (fun E => ex_move rfl (E.v oe9)) ?_
       refine QSeq.pure rfl (.pointer (some ⟨w.heap.size, 4, none⟩)) (fun E => ex_field rfl Tryz.underlying45 rfl (by kernel_rfl) (E.v oe1)) ?_
       refine QSeq.pure rfl _ (fun E => ex_load1 rfl Tryz.underlying43 rfl (E.d 1 0) (Cs.lit1 HKL3_3.out rfl)) ?_
       refine QSeq.pure rfl (.int .i64 x.ts.length) (fun E => ex_lenS rfl (E.d 2 0) Tryz.underlying43) ?_
       refine QSeq.pure rfl (.bool true) (fun E => ex_binE rfl (E.d 0 3) (E.d 3 0) (guard_ints _ _ _ _ _ _) (run_lss_i _ _ _ Tryz.underlying3) (congrArg Value.bool (decide_eq_true (by omega)))) ?_
       refine QSeq.pure rfl _ (fun E => ex_move rfl (E.d 4 0)) ?_
       refine QSeq.pureG rfl (.int .i64 ((k3 : Nat) : Int)) (fun E => ((wanted_of rfl rfl (E.sz 60 (by decide)) (E.d 5 0)).trans rfl)) (fun E => ex_move rfl (E.v oe9)) ?_
       refine QSeq.pureG rfl (.bool true) (fun E => ((wanted_of rfl rfl (E.sz 60 (by decide)) (E.d 5 1)).trans rfl)) (fun E => ex_binE rfl (E.d 6 0) rfl (guard_ints _ _ _ _ _ _) (run_lss_i _ _ _ Tryz.underlying3) (congrArg Value.bool (decide_eq_true (by omega)))) ?_
       refine QSeq.pure rfl (.bool true) (fun E => ex_pick rfl (E.d 5 2) (E.d 7 0) rfl) ?_
       refine QSeq.nil (t' := [_, _, _, _, _, _, _, _, _]) rfl ?_
       obtain rfl := HA0.out
       clear HA0 oe1 oe9
       simp only [pz, Act.put, sIB, sCZ, sCS]
       have hat := HKL3_2.out.at hlt3
       obtain ⟨g3, o3, cs3, eao, hrg, hrd, hcs⟩ := hat
       subst eao
       have hcl : cs3.length = 2 := TbR.len hrd
       have HCL3 := Lib.hid hcl
       have HAT3 := hid (show CellsAt R2 wl3 g3 (o3 + k3 * 2) cs3 from ⟨hrg, hcs⟩)
       have HRD3 := Lib.hid hrd
       have HOC3 := hid (TbR.one hrd)
       clear hcl hcs hrd hrg
       have HE3 : Hid (((x.ts.take k3).map cutTb) ++ [cutTb x.ts[k3]] = (x.ts.take (k3 + 1)).map cutTb) := hid (by rw [List.take_succ_eq_append_getElem hlt3, List.map_append]; rfl)
       have HLN3 : Hid (((x.ts.take k3).map cutTb).length = k3) := hid (by rw [List.length_map, List.length_take]; omega)
       obtain ⟨y3, hy3⟩ : ∃ y, y = x.ts[k3] := ⟨_, rfl⟩
       rw [← hy3] at HRD3 HE3
       clear hy3
       obtain ⟨v_e, rfl, hoke, hse⟩ := HRD3.out
       obtain ⟨aoe3, cape3, rfl⟩ := hse.shape
       have HOK3 := Lib.hid hoke
       have HSE3 := Lib.hid hse
       clear hoke hse HRD3
       go_upto_region 17 with (fail)
       refine wp_region_U 86 [66, 67, 68, 69, 70, 10, 92] [0, 1, 2, 3, 4, 5, 6] (fun a0 HA0 => ?_)
       have oe1 := ev HA0 1 rfl
       have oe9 := ev HA0 9 rfl
       refine QSeq.pure rfl (.pointer (some ⟨w.heap.size, 4, none⟩)) (fun E => ex_field rfl Tryz.underlying45 rfl (by kernel_rfl) (E.v oe1)) ?_
       refine QSeq.pure rfl _ (fun E => ex_load1 rfl Tryz.underlying43 rfl (E.d 0 0) (Cs.lit1 HKL3_3.out rfl)) ?_
       refine QSeq.pure rfl _ (fun E => ex_move rfl (E.v oe9)) ?_
       refine QSeq.pure rfl (.pointer (some ⟨g3, o3 + k3 * 2, none⟩)) (fun E => ex_idxS (i := k3) (s := 2) rfl Tryz.underlying43 (by kernel_rfl) (E.d 1 1) (E.d 2 0) hlt3) ?_
       refine QSeq.pure rfl _ (fun E => ex_loadA rfl Tryz.underlying128 rfl (off := o3 + k3 * 2) (cs := (y3.cells (.slice aoe3 y3.l.length cape3))) (by rw [HCL3.out]; kernel_rfl) (E.d 3 0) (fun j u hu => (HAT3.out).2 j u hu)) ?_
       refine QSeq.go fun act E => ?_
       refine qc_alloc rfl (wanted_none rfl) rfl (z := [.int .i64 0, .slice none 0 0]) (by kernel_rfl) ?_
       intro u17_5 qq3 hm
       have zl17_5 := qq3.lt
       have Hx26 := hid qq3
       have zu17_5 := hm.size
       have Cx27 := hid (show Mod (fun _ => False) wl3 u17_5 from hm)
       clear hm
       clear act E qq3
       refine QSeq.go fun act E => ?_
       have hlz : ((y3.cells (.slice aoe3 y3.l.length cape3))).length = List.length ([.int .i64 0, .slice none 0 0] : List Value) := (by rw [HCL3.out]; rfl)
       refine qc_store rfl (wanted_none rfl) rfl Hx26.out (off := 0) (vs := (y3.cells (.slice aoe3 y3.l.length cape3))) (by rw [hlz]; kernel_rfl) HOC3.out (by rw [hlz]; exact Nat.le_of_eq (Nat.zero_add _)) (E.d 5 0) (ec (E.d 4 1)) ?_
       intro u17_6 qc0 hm
       have qq3 := qc0.eqv (b := ((y3.cells (.slice aoe3 y3.l.length cape3)) : List Value).toArray) (lay_whole #[.int .i64 0, .slice none 0 0] _ (by rw [hlz]; rfl))
       clear qc0 hlz
       have Hx28 := hid qq3
       have zu17_6 := hm.size
       have HMu17_6 := hid hm
       have Cx29 := hid (Mod.goS (S' := (fun _ => False)) Cx27.out hm (fun _ h => h) (by intro k h0 h2; omega))
       clear hm Cx27
       clear act E qq3 Hx26
       clear HMu17_6
       refine QSeq.nil (t' := [_, _, _, _, _, _, _]) rfl ?_
       obtain rfl := HA0.out
       clear HA0 oe1 oe9
       simp only [pz, Act.put, sIB, sCZ, sCS, List.set_nil]
       go_upto_region 18 with (fail)
       refine wp_region_U 86 [71, 72, 73, 74, 90] [0, 1, 2, 3, 4] (fun a0 HA0 => ?_)
       have oe10 := ev HA0 10 rfl
       refine QSeq.pure rfl (.pointer (some ⟨wl3.heap.size, 1, none⟩)) (fun E => ex_field rfl Tryz.underlying128 rfl (by kernel_rfl) (E.v oe10)) ?_
       refine QSeq.pure rfl _ (fun E => ex_load1 rfl Tryz.underlying126 rfl (E.d 0 0) (Cs.lit1 Hx28.out rfl)) ?_
       refine QSeq.call rfl rfl Tryz.func75 (Cut_Dn _ _ y3.l 5 _ (HSE3.out.mod Cx29.out (fun _ _ h => h)) (by intro k h1; have hb := HBT.out k h1; omega) (by omega)) (fun E => args2 (E.d 1 0) rfl) ?_
       rintro e u18_2 ⟨v', rfl, qpc, hm⟩
       obtain ⟨aop3, capp3, rfl⟩ := qpc.shape
       refine ⟨_, rfl, ?_⟩
       have Hx30 := hid (qpc.widen (R' := (fun k => (New u17_6 u18_2 k))) (E' := (fun k => (R2 k))) (fun _ h => h) (fun _ h => h))
       have zu18_2 := hm.size
       have Cx31 := hid (show Mod (fun _ => False) u17_6 u18_2 from hm)
       clear hm
       clear qpc
       refine QSeq.pure rfl (.pointer (some ⟨wl3.heap.size, 1, none⟩)) (fun E => ex_field rfl Tryz.underlying128 rfl (by kernel_rfl) (E.v oe10)) ?_
       refine QSeq.go fun act E => ?_
       refine qc_store rfl (wanted_none rfl) rfl (Hx28.out.mod Cx31.out (fun h => h)) (off := 1) (vs := [Value.slice aop3 (y3.l.take 5).length capp3]) (by kernel_rfl) one1 (by show 1 + 1 ≤ 2; decide) (E.d 3 0) (ec (E.d 2 1)) ?_
       intro u18_4 qc0 hm
       have qq3 := qc0.eqv (b := (((cutTb y3).cells (Value.slice aop3 (y3.l.take 5).length capp3)) : List Value).toArray) (lay_tl y3 (cutTb y3) _ _ rfl)
       clear qc0
       have Hx32 := hid qq3
       have zu18_4 := hm.size
       have HMu18_4 := hid hm
       have Cx33 := hid (Mod.goS (S' := (fun k => (k = wl3.heap.size))) Cx31.out hm (fun _ h => h.elim) (by intro k h0 h2; exact h2))
       clear hm Cx31
       clear act E qq3 Hx28
       have Hx34 := hid (Hx30.out.mod HMu18_4.out (by intro k h1 h2; omega) (sB HBT))
       clear Hx30 HMu18_4
       refine QSeq.nil (t' := [_, _, _, _, _]) rfl ?_
       obtain rfl := HA0.out
       clear HA0 oe10
       simp only [pz, Act.put, sIB, sCZ, sCS, List.set_nil]
       have HEL3 := hid (show TbR.rd (fun k => (New u17_6 u18_2 k) ∨ (R2 k)) u18_4 ((cutTb y3).cells (Value.slice aop3 (y3.l.take 5).length capp3)) (cutTb y3) from ⟨_, rfl, HOK3.out, Hx34.out.rd.widen (by intro k h1; rcases h1 with h1 | h1 <;> first | omega | exact h1.elim | exact Or.inl h1 | exact Or.inr (h1))⟩)
       go_upto_region 19 with (fail)
       refine wp_region_U 86 [75, 76, 77, 78, 8] [0, 1, 2, 3, 4] (fun a0 HA0 => ?_)
       have oe8 := ev HA0 8 rfl
       have oe10 := ev HA0 10 rfl
       refine QSeq.pure rfl _ (fun E => ex_move rfl (E.y 4 oe8)) ?_
       refine QSeq.pure rfl _ (fun E => ex_loadA rfl Tryz.underlying128 rfl (off := 0) (cs := ((cutTb y3).cells (Value.slice aop3 (y3.l.take 5).length capp3))) (by kernel_rfl) (E.v oe10) (Cs.whole Hx32.out)) ?_
       refine QSeq.go fun act E => ?_
       refine qc_buildS (e := 128) (cs := ((cutTb y3).cells (Value.slice aop3 (y3.l.take 5).length capp3))) (zc := [.int .i64 0, .slice none 0 0]) (sz := 2) rfl (wanted_none rfl) rfl Tryz.underlying43 (by kernel_rfl) rfl (by decide) (by decide) (E.d 1 0) (TbR.len HEL3.out) ?_
       intro u19_2 qrow hm
       have zl19_2 := qrow.lt
       have Hx35 := hid qrow
       have zu19_2 := hm.size
       have Cx36 := hid (show Mod (fun _ => False) u18_4 u19_2 from hm)
       clear hm
       clear act E qrow
       refine QSeq.go fun act E => ?_
       refine qc_appS (A := TbR) (e := 128) rfl (wanted_none rfl) rfl (.agg #[.int .i64 0, .slice none 0 0]) 32 Tryz.underlying43 info_Tb (by rfl) (of_decide_eq_true (by kernel_rfl)) (E.d 0 2) (E.d 2 0) ((((HAL3.out.mod Cx29.out (fun _ _ h => h) (fun _ _ h => h)).mod Cx33.out (by intro k h1 h2; omega) (by intro k h1 h2; rcases h1 with h1 | h1 <;> first | omega | (have hb := HBT.out k h1; omega))).mod Cx36.out (fun _ _ h => h) (fun _ _ h => h))) (RdS.single (R := (fun k => (New u17_6 u18_2 k) ∨ (R2 k) ∨ (k = u18_4.heap.size))) Hx35.out ((HEL3.out.mod Cx36.out (fun _ _ h => h)).widen (by intro k h1; rcases h1 with h1 | h1 <;> first | omega | exact h1.elim | exact Or.inl h1 | exact Or.inr (Or.inl h1) | exact Or.inr (Or.inr (h1)))) (by first | exact Or.inr rfl | exact Or.inr (Or.inr rfl) | (right; omega))) (by intro k h1 h2; rcases h1 with h1 | h1 | h1 <;> first | omega | (have hb := HBT.out k h1; omega)) (by rw [HLN3.out]; simp only [List.length_cons, List.length_nil]; omega) (by rw [HLN3.out, maxLen_val]; simp only [List.length_cons, List.length_nil]; omega) ?_
       intro ao9 cap9 u19_3 qacc3 hm
       have Hx37 := hid (qacc3.widen (R' := (fun k => (New wl2 wl3 k) ∨ (New u19_2 u19_3 k))) (E' := (fun k => (R2 k) ∨ (New wl2 wl3 k) ∨ (New u17_6 u18_2 k) ∨ (k = u18_4.heap.size))) (fun _ h => h) (by intro k h1; rcases h1 with (h1 | h1) | (h1 | h1 | h1) <;> first | omega | exact h1.elim | exact Or.inl h1 | exact Or.inr (Or.inl h1) | exact Or.inr (Or.inr (Or.inl h1)) | exact Or.inr (Or.inr (Or.inr (h1)))))
       have zu19_3 := hm.size
       have HMu19_3 := hid hm
       have Cx38 := hid (Mod.goS (S' := (fun k => (New wl2 wl3 k))) Cx36.out hm (fun _ h => h.elim) (by intro k h0 h2; exact h2))
       clear hm Cx36
       clear act E qacc3 HAL3
       refine QSeq.pure rfl _ (fun E => ex_assign rfl (E.d 3 0)) ?_
       have Hx39 := hid (Hx35.out.mod HMu19_3.out (by intro h2; omega))
       clear Hx35 HMu19_3
       refine QSeq.nil (t' := [_, _, _, _, _]) rfl ?_
       obtain rfl := HA0.out
       clear HA0 oe8 oe10
       simp only [pz, Act.put, sIB, sCZ, sCS]
       have hq := Hx37.out
       rw [HE3.out] at hq
       have HQ3 := Lib.hid hq
       clear hq
       go_wp2
       go_roundw
       case rel => exact ⟨k3 + 1, by go_num, by omega, by omega, by omega, (HQ3.out.widen (by intro b h1; omega) (by intro k h1; rcases h1 with h1 | h1 | h1 | h1 <;> first | omega | exact h1.elim | exact Or.inl h1 | exact Or.inr (h1))), (((HKL3_0.out.mod Cx29.out (fun _ _ h => h)).mod Cx33.out (sB HBT)).mod Cx38.out (sN HBT)), (((HKL3_1.out.mod Cx29.out (fun _ _ h => h)).mod Cx33.out (sB HBT)).mod Cx38.out (sN HBT)), (((HKL3_2.out.mod Cx29.out (fun _ _ h => h)).mod Cx33.out (sB HBT)).mod Cx38.out (sN HBT)), (((HKL3_3.out.mod Cx29.out (fun h => h)).mod Cx33.out (by intro h2; omega)).mod Cx38.out (by intro h2; omega)), (((HKL3_4.out.mod Cx29.out (fun h => h)).mod Cx33.out (by intro h2; omega)).mod Cx38.out (by intro h2; omega)), (((HKL3_5.out.mod Cx29.out (fun _ _ h => h) (fun _ _ h => h)).mod Cx33.out (by intro k h1 h2; omega) (by intro k h1 h2; rcases h1 with h1 | h1 <;> first | omega | (have hb := HBT.out k h1; omega))).mod Cx38.out (by intro k h1 h2; omega) (by intro k h1 h2; rcases h1 with h1 | h1 <;> first | omega | (have hb := HBT.out k h1; omega))), (((HKL3_6.out.mod Cx29.out (fun _ _ h => h) (fun _ _ h => h)).mod Cx33.out (by intro k h1 h2; omega) (by intro k h1 h2; rcases h1 with h1 | h1 <;> first | omega | (have hb := HBT.out k h1; omega))).mod Cx38.out (by intro k h1 h2; omega) (by intro k h1 h2; rcases h1 with h1 | h1 <;> first | omega | (have hb := HBT.out k h1; omega))), (((HML3.out.trans Cx29.out (fun _ _ h => h.elim)).trans Cx33.out (by intro k h1 h2; omega)).trans Cx38.out (by intro k h1 h2; omega))⟩
       case measure => simp [intOf]; omega
      ·skip
       obtain ⟨bA3, hbA3⟩ : ∃ b : Bool, b = decide (((k3 : Nat) : Int) < (x.ts.length : Int)) := ⟨_, rfl⟩
       obtain ⟨bB3, hbB3⟩ : ∃ b : Bool, b = decide (((k3 : Nat) : Int) < 4) := ⟨_, rfl⟩
       go_upto_region 15 with (fail)
       refine wp_region_U 86 [55, 56, 57, 58, 59, 60, 61, 62, 63] [0, 1, 2, 3, 4, 5, 6, 7, 8] (fun a0 HA0 => ?_)
       have oe1 := ev HA0 1 rfl
       have oe9 := ev HA0 9 rfl
       refine QSeq.pure rfl _ (fun E => ex_move rfl (E.v oe9)) ?_
       refine QSeq.pure rfl (.pointer (some ⟨w.heap.size, 4, none⟩)) (fun E => ex_field rfl Tryz.underlying45 rfl (by kernel_rfl) (E.v oe1)) ?_
       refine QSeq.pure rfl _ (fun E => ex_load1 rfl Tryz.underlying43 rfl (E.d 1 0) (Cs.lit1 HKL3_3.out rfl)) ?_
       refine QSeq.pure rfl (.int .i64 x.ts.length) (fun E => ex_lenS rfl (E.d 2 0) Tryz.underlying43) ?_
       refine QSeq.pure rfl (.bool bA3) (fun E => ex_binE rfl (E.d 0 3) (E.d 3 0) (guard_ints _ _ _ _ _ _) (run_lss_i _ _ _ Tryz.underlying3) (congrArg Value.bool hbA3.symm)) ?_
       refine QSeq.pure rfl _ (fun E => ex_move rfl (E.d 4 0)) ?_
       refine QSeq.may (b := bA3) rfl (.int .i64 ((k3 : Nat) : Int)) (fun E => ((wanted_of rfl rfl (E.sz 60 (by decide)) (E.d 5 0)).trans (beq_t _))) (fun E hb => ex_move rfl (E.v oe9)) ?_
       intro v15_6 hw
       have hv15_6 := hid hw
       clear hw
       refine QSeq.may (b := bA3) rfl (.bool bB3) (fun E => ((wanted_of rfl rfl (E.sz 60 (by decide)) (E.d 5 1)).trans (beq_t _))) (fun E hb => ex_binE rfl ((E.q 6 0 hv15_6.out).1 hb) rfl (guard_ints _ _ _ _ _ _) (run_lss_i _ _ _ Tryz.underlying3) (congrArg Value.bool hbB3.symm)) ?_
       intro v15_7 hw
       have hv15_7 := hid hw
       clear hw
       refine QSeq.pure rfl (.bool (bA3 && bB3)) (fun E => ex_pickE rfl (E.d 5 2) rfl rfl (and_val fun hb => (E.q 7 0 hv15_7.out).1 hb)) ?_
       clear hv15_6 hv15_7
       refine QSeq.nil (t' := [_, _, _, _, _, _, _, _, _]) rfl ?_
       obtain rfl := HA0.out
       clear HA0 oe1 oe9
       simp only [pz, Act.put, sIB, sCZ, sCS]
       rw [show (bA3 && bB3) = false by rw [hbA3, hbB3, Bool.and_eq_false_iff, decide_eq_false_iff_not, decide_eq_false_iff_not]; omega]
       have HTK3 := hid (show x.ts.take k3 = x.ts.take 4 from take_two (by omega) (by omega))
       go_upto_region 20 with (fail)
       refine wp_region_U 86 [79, 80, 81, 82, 90, 83, 92, 84, 94] [0, 1, 2, 3, 4, 5, 6, 7, 8] (fun a0 HA0 => ?_)
       have oe1 := ev HA0 1 rfl
       have oe3 := ev HA0 3 rfl
       have oe5 := ev HA0 5 rfl
       have oe8 := ev HA0 8 rfl
       refine QSeq.pure rfl _ (fun E => ex_move rfl (E.v oe3)) ?_
       refine QSeq.pure rfl _ (fun E => ex_move rfl (E.v oe5)) ?_
       refine QSeq.pure rfl _ (fun E => ex_move rfl (E.v oe8)) ?_
       refine QSeq.pure rfl (.pointer (some ⟨w.heap.size, 2, none⟩)) (fun E => ex_field rfl Tryz.underlying45 rfl (by kernel_rfl) (E.v oe1)) ?_
       refine QSeq.go fun act E => ?_
       refine qc_store rfl (wanted_none rfl) rfl HKL3_3.out (off := 2) (vs := [Value.slice aol1 ((x.ps.take k1).map cutPm).length capl1]) (by kernel_rfl) one1 (by simp) (E.d 3 0) (ec (E.d 0 3)) ?_
       intro u20_4 qc0 hm
       have qB1 := qc0.eqv (b := #[.int .i64 x.ep, .int .u64 (x.tm : Nat), Value.slice aol1 ((x.ps.take k1).map cutPm).length capl1, Value.slice ao_os x.os.length cap_os, Value.slice ao_ts x.ts.length cap_ts]) rfl
       clear qc0
       have Hx40 := hid qB1
       have zu20_4 := hm.size
       have Cx41 := hid (show Mod (fun k => (k = w.heap.size)) wl3 u20_4 from hm)
       clear hm
       clear act E qB1 HKL3_3
       refine QSeq.pure rfl (.pointer (some ⟨w.heap.size, 3, none⟩)) (fun E => ex_field rfl Tryz.underlying45 rfl (by kernel_rfl) (E.v oe1)) ?_
       refine QSeq.go fun act E => ?_
       refine qc_store rfl (wanted_none rfl) rfl Hx40.out (off := 3) (vs := [Value.slice aol2 ((x.os.take k2).map cutOp).length capl2]) (by kernel_rfl) one1 (by simp) (E.d 5 0) (ec (E.d 1 4)) ?_
       intro u20_6 qc0 hm
       have qB1 := qc0.eqv (b := #[.int .i64 x.ep, .int .u64 (x.tm : Nat), Value.slice aol1 ((x.ps.take k1).map cutPm).length capl1, Value.slice aol2 ((x.os.take k2).map cutOp).length capl2, Value.slice ao_ts x.ts.length cap_ts]) rfl
       clear qc0
       have Hx42 := hid qB1
       have zu20_6 := hm.size
       have HMu20_6 := hid hm
       have Cx43 := hid (Mod.goS (S' := (fun k => (k = w.heap.size))) Cx41.out hm (fun _ h => h) (by intro k h0 h2; exact h2))
       clear hm Cx41
       clear act E qB1 Hx40
       refine QSeq.pure rfl (.pointer (some ⟨w.heap.size, 4, none⟩)) (fun E => ex_field rfl Tryz.underlying45 rfl (by kernel_rfl) (E.v oe1)) ?_
       refine QSeq.go fun act E => ?_
       refine qc_store rfl (wanted_none rfl) rfl Hx42.out (off := 4) (vs := [Value.slice aol3 ((x.ts.take k3).map cutTb).length capl3]) (by kernel_rfl) one1 (by simp) (E.d 7 0) (ec (E.d 2 5)) ?_
       intro u20_8 qc0 hm
       have qB1 := qc0.eqv (b := #[.int .i64 x.ep, .int .u64 (x.tm : Nat), Value.slice aol1 ((x.ps.take k1).map cutPm).length capl1, Value.slice aol2 ((x.os.take k2).map cutOp).length capl2, Value.slice aol3 ((x.ts.take k3).map cutTb).length capl3]) rfl
       clear qc0
       have Hx44 := hid qB1
       have zu20_8 := hm.size
       have HMu20_8 := hid hm
       have Cx45 := hid (Mod.goS (S' := (fun k => (k = w.heap.size))) Cx43.out hm (fun _ h => h) (by intro k h0 h2; exact h2))
       clear hm Cx43
       clear act E qB1 Hx42
       clear HMu20_6 HMu20_8
       refine QSeq.nil (t' := [_, _, _, _, _, _, _, _, _]) rfl ?_
       obtain rfl := HA0.out
       clear HA0 oe1 oe3 oe5 oe8
       simp only [pz, Act.put, sIB, sCZ, sCS, List.set_nil]
       go_upto_region 21 with (fail)
       refine wp_region_U 86 [85, 87] [0, 1] (fun a0 HA0 => ?_)
       have oe1 := ev HA0 1 rfl
       have oe2 := ev HA0 2 rfl
       refine QSeq.pure rfl _ (fun E => ex_loadA rfl Tryz.underlying45 rfl (off := 0) (cs := [.int .i64 x.ep, .int .u64 (x.tm : Nat), Value.slice aol1 ((x.ps.take k1).map cutPm).length capl1, Value.slice aol2 ((x.os.take k2).map cutOp).length capl2, Value.slice aol3 ((x.ts.take k3).map cutTb).length capl3]) (by kernel_rfl) (E.v oe1) (Cs.whole Hx44.out)) ?_
       refine QSeq.go fun act E => ?_
       refine qc_store rfl (wanted_none rfl) rfl (HKL3_4.out.mod Cx45.out (by intro h2; omega)) (off := 0) (vs := [.int .i64 x.ep, .int .u64 (x.tm : Nat), Value.slice aol1 ((x.ps.take k1).map cutPm).length capl1, Value.slice aol2 ((x.os.take k2).map cutOp).length capl2, Value.slice aol3 ((x.ts.take k3).map cutTb).length capl3]) (by kernel_rfl) (by intro u hu; simp at hu; rcases hu with rfl | rfl | rfl | rfl | rfl <;> rfl) (by simp) (E.v oe2) (ec (E.d 0 0)) ?_
       intro u21_1 qc0 hm
       have qB2 := qc0.eqv (b := #[.int .i64 x.ep, .int .u64 (x.tm : Nat), Value.slice aol1 ((x.ps.take k1).map cutPm).length capl1, Value.slice aol2 ((x.os.take k2).map cutOp).length capl2, Value.slice aol3 ((x.ts.take k3).map cutTb).length capl3]) rfl
       clear qc0
       have Hx46 := hid qB2
       have zu21_1 := hm.size
       have Cx47 := hid (show Mod (fun k => (k = w.heap.size + 1)) u20_8 u21_1 from hm)
       clear hm
       clear act E qB2 HKL3_4
       refine QSeq.nil (t' := [_, _]) rfl ?_
       obtain rfl := HA0.out
       clear HA0 oe1 oe2
       simp only [pz, Act.put, sIB, sCZ, sCS, List.set_nil]
       go_wp2
       refine bodyPost_ret (results_cellA rfl _ _ (w.heap.size + 1) ([.int .i64 x.ep, .int .u64 (x.tm : Nat), Value.slice aol1 ((x.ps.take k1).map cutPm).length capl1, Value.slice aol2 ((x.os.take k2).map cutOp).length capl2, Value.slice aol3 ((x.ts.take k3).map cutTb).length capl3]) rfl (fun k u hu => by rw [Hx46.out.cell]; simpa using hu) Tryz.underlying45 rfl (by kernel_rfl)) rfl ⟨_, rfl, ⟨_, _, _, rfl, HOK.out, ?_, ?_, ?_⟩, ((HML3.out.trans Cx45.out (by intro k h1 h2; omega)).trans Cx47.out (by intro k h1 h2; omega))⟩
       ·rw [show (cutBa x).ps = (x.ps.take k1).map cutPm from congrArg (List.map cutPm) HTK1.out.symm]
        refine (((HKL3_5.out.mod Cx45.out (by intro k h1 h2; omega) (by intro k h1 h2; rcases h1 with h1 | h1 <;> first | omega | (have hb := HBT.out k h1; omega))).mod Cx47.out (by intro k h1 h2; omega) (by intro k h1 h2; rcases h1 with h1 | h1 <;> first | omega | (have hb := HBT.out k h1; omega))).rd).widen ?_
        intro k h
        (try dsimp only at h ⊢)
        rcases h with h | h | h
        ·right; omega
        ·exact Or.inl h
        ·right; omega
       ·rw [show (cutBa x).os = (x.os.take k2).map cutOp from congrArg (List.map cutOp) HTK2.out.symm]
        refine (((HKL3_6.out.mod Cx45.out (by intro k h1 h2; omega) (by intro k h1 h2; rcases h1 with h1 | h1 <;> first | omega | (have hb := HBT.out k h1; omega))).mod Cx47.out (by intro k h1 h2; omega) (by intro k h1 h2; rcases h1 with h1 | h1 <;> first | omega | (have hb := HBT.out k h1; omega))).rd).widen ?_
        intro k h
        (try dsimp only at h ⊢)
        rcases h with h | h | h
        ·right; omega
        ·exact Or.inl h
        ·right; omega
       ·rw [show (cutBa x).ts = (x.ts.take k3).map cutTb from congrArg (List.map cutTb) HTK3.out.symm]
        refine (((HAL3.out.mod Cx45.out (by intro k h1 h2; omega) (by intro k h1 h2; rcases h1 with h1 | h1 <;> first | omega | (have hb := HBT.out k h1; omega))).mod Cx47.out (by intro k h1 h2; omega) (by intro k h1 h2; rcases h1 with h1 | h1 <;> first | omega | (have hb := HBT.out k h1; omega))).rd).widen ?_
        intro k h
        (try dsimp only at h ⊢)
        rcases h with h | h | h
        ·right; omega
        ·exact Or.inl h
        ·right; omega
end Go.Proofs.YtpnikilkcifncaaGreat

/- Small parts of messages, put as bytes. -/
namespace Go.Proofs.YtpnikilkcifncaaGreat
open Go Go.RowKit Go.Gv


/-- a signature's bytes, a name's, those of a list of things, and so on -/
def sigB (a b : Int) : List Int := encI a ++ encI b
def nameB (a b : Int) : List Int := encI a ++ encI b
def listB {α : Type} (f : α → List Int) (l : List α) : List Int := encI l.length ++ (l.map f).flatten
def cmB (x : Cm) : List Int := nameB x.cl x.sq ++ (x.h ++ (encI x.ln ++ sigB x.sb x.mr))
def stB (x : St) : List Int := encI x.rp ++ (nameB x.cl x.sq ++ (x.h ++ (encN x.tm ++ sigB x.sb x.mr)))
def ceB (x : Ce) : List Int := cmB x.c ++ listB stB x.l
def pmB (x : Pm) : List Int := encI x.rp ++ (encI x.ep ++ (encN x.fl ++ (listB ceB x.l ++ sigB x.sb x.mr)))
def opB (x : Op) : List Int := encI x.ix ++ ((encN x.pl.length ++ x.pl) ++ x.nc)
def dnB (x : Dn) : List Int := encI x.rp ++ (encI x.ix ++ sigB x.sb x.mr)
def tbB (x : Tb) : List Int := encI x.ix ++ listB dnB x.l
def baB (x : Ba) : List Int := encI x.ep ++ (encN x.tm ++ (listB pmB x.ps ++ (listB opB x.os ++ listB tbB x.ts)))
def vtB (x : Vt) : List Int := encI x.kd ++ (encI x.ep ++ (encI x.rd ++ (encI x.rp ++ (x.h ++ sigB x.sb x.mr))))
def enB (x : En) : List Int := nameB x.cl x.sq ++ (x.h ++ encN x.tm)
theorem WInt_Q {R : Nat → Prop} {g : Nat} {n : Int} {bs : List Int} {w : World} (hW : WrR R 900000 w g bs) (hn : I64 n) (hl : (bs ++ encI n).length ≤ 900000) :
    Calls Tryz.prog 69 #[.pointer (some ⟨g, 0, none⟩), .int .i64 n] w fun e w' => e = .returned (.pointer (some ⟨g, 0, none⟩)) ∧ WrR (fun k => R k ∨ New w w' k) 900000 w' g (bs ++ encI n) ∧ Mod R w w' := by
  obtain ⟨v, h1, h2, h3, h4⟩ := hW
  exact (WInt_any g n v bs w h1 hn (by unfold Room; omega)).mono fun _ _ ⟨he, h⟩ => ⟨he, WrTo_R _ h2 h3 h hl⟩
theorem WNum_Q {R : Nat → Prop} {g : Nat} {n : Nat} {bs : List Int} {w : World} (hW : WrR R 900000 w g bs) (hn : n < U64) (hl : (bs ++ encN n).length ≤ 900000) :
    Calls Tryz.prog 103 #[.pointer (some ⟨g, 0, none⟩), .int .u64 n] w fun e w' => e = .returned (.pointer (some ⟨g, 0, none⟩)) ∧ WrR (fun k => R k ∨ New w w' k) 900000 w' g (bs ++ encN n) ∧ Mod R w w' := by
  obtain ⟨v, h1, h2, h3, h4⟩ := hW
  exact (Num_any g n v bs w h1 hn (by unfold Room; omega)).mono fun _ _ ⟨he, h⟩ => ⟨he, WrTo_R _ h2 h3 h hl⟩
theorem WHash_Q {R : Nat → Prop} {g : Nat} {h bs : List Int} {w : World} (hW : WrR R 900000 w g bs) (hh : HK h) (hl : (bs ++ h).length ≤ 900000) :
    Calls Tryz.prog 138 #[.pointer (some ⟨g, 0, none⟩), hv h] w fun e w' => e = .returned (.pointer (some ⟨g, 0, none⟩)) ∧ WrR (fun k => R k ∨ New w w' k) 900000 w' g (bs ++ h) ∧ Mod R w w' := by
  obtain ⟨v, h1, h2, h3, h4⟩ := hW
  exact (WHash_any g v bs h w h1 hh.1 hh.2 (by unfold Room; omega)).mono fun _ _ ⟨he, h⟩ => ⟨he, WrTo_R _ h2 h3 h hl⟩
theorem WRow_Q {R R' : Nat → Prop} {M g : Nat} {bs : List Int} {v2 : Value} {cs : List Int} {w : World} (hW : WrR R 900000 w g bs) (hr : RdR R' M w v2 cs) (hs : ∀ k, R' k → R k → False) (hl : (bs ++ (encN cs.length ++ cs)).length ≤ 900000) :
    Calls Tryz.prog 114 #[.pointer (some ⟨g, 0, none⟩), v2] w fun e w' => e = .returned (.pointer (some ⟨g, 0, none⟩)) ∧ WrR (fun k => R k ∨ New w w' k) 900000 w' g (bs ++ (encN cs.length ++ cs)) ∧ Mod R w w' := by
  obtain ⟨v, h1, h2, h3, h4⟩ := hW
  obtain ⟨ao, cap, rfl⟩ := hr.shape
  have hlc : cs.length ≤ 900000 := by simp only [List.length_append] at hl; omega
  refine (WRow_any g v bs ao cap cs w h1 hr.1 ?_ (by unfold Room; omega)).mono fun _ _ ⟨he, h⟩ => ⟨he, WrTo_R _ h2 h3 h hl⟩
  intro h0 k hg hk
  rcases hk with rfl | hk
  · exact hs _ (hr.2.1 h0 _ hg) h2
  · exact hs _ (hr.2.1 h0 _ hg) (h3 k hk.symm)
/-- a function that puts things of a kind -/
def Puts {α : Type} (A : Rep α) (F : FuncId) (f : α → List Int) : Prop := ∀ (R R2 : Nat → Prop) (g : Nat) (bs : List Int) (cs : List Value) (x : α) (w : World), WrR R 900000 w g bs → (∀ k, R k → k < w.heap.size) → A.rd R2 w cs x → (∀ k, R2 k → k < w.heap.size) → (∀ k, R k → R2 k → False) → (bs ++ f x).length ≤ 900000 →
  Calls Tryz.prog F #[.pointer (some ⟨g, 0, none⟩), .agg cs.toArray] w fun e w' => e = .returned (.tuple #[]) ∧ WrR (fun k => R k ∨ New w w' k) 900000 w' g (bs ++ f x) ∧ Mod R w w'
/-- one that puts lists of them -/
def PutsL {α : Type} (A : Rep α) (F Fe : FuncId) (f : α → List Int) : Prop := ∀ (R R2 : Nat → Prop) (g : Nat) (bs : List Int) (v : Value) (l : List α) (w : World), WrR R 900000 w g bs → (∀ k, R k → k < w.heap.size) → RdS A R2 w v l → (∀ k, R2 k → k < w.heap.size) → (∀ k, R k → R2 k → False) → (bs ++ listB f l).length ≤ 900000 →
  Calls Tryz.prog F #[.pointer (some ⟨g, 0, none⟩), v, .func (.func Fe) #[] #[]] w fun e w' => e = .returned (.tuple #[]) ∧ WrR (fun k => R k ∨ New w w' k) 900000 w' g (bs ++ listB f l) ∧ Mod R w w'
theorem put_len {α : Type} (f : α → List Int) (bs : List Int) (n : List Int) (l : List α) (k : Nat) : (bs ++ (n ++ ((l.take k).map f).flatten)).length ≤ (bs ++ (n ++ (l.map f).flatten)).length := by
  have h : (l.map f).flatten = ((l.take k).map f).flatten ++ ((l.drop k).map f).flatten := by rw [← List.flatten_append, ← List.map_append, List.take_append_drop]
  rw [h]
  simp only [List.length_append]
  omega
set_option maxHeartbeats 2000000 in
theorem PutSig_Q {R : Nat → Prop} {g : Nat} {bs : List Int} {a b : Int} {w : World} (hW : WrR R 900000 w g bs) (hB : ∀ k, R k → k < w.heap.size) (ha : I64 a) (hb : I64 b) (hl : (bs ++ sigB a b).length ≤ 900000) :
    Calls Tryz.prog 139 #[.pointer (some ⟨g, 0, none⟩), .agg #[.int .i64 a, .int .i64 b]] w fun e w' => e = .returned (.tuple #[]) ∧ WrR (fun k => R k ∨ New w w' k) 900000 w' g (bs ++ sigB a b) ∧ Mod R w w' := by
  have HW := Lib.hid hW
  have HBR := Lib.hid hB
  have HL := hid (show (bs ++ (encI a ++ encI b)).length ≤ 900000 from hl)
  have HA := Lib.hid ha
  have HB := Lib.hid hb
  clear hW hB hl ha hb
  change Calls _ _ #[.pointer (some ⟨g, 0, none⟩), .agg #[.int .i64 a, .int .i64 b]] _ _
  go_enter Tryz.func139, Tryz.ntmps139
  go_upto_region 1 with (fail)
  obtain ⟨w1, hw1⟩ : ∃ zz, zz = (w.alloc (.cells #[.int .i64 a, .int .i64 b] 27)) := ⟨_, rfl⟩
  change Code.wp _ _ _ _ (w.alloc (.cells #[.int .i64 a, .int .i64 b] 27))
  rw [← hw1]
  have HB3 := hid (show Cs w1 (w.heap.size) #[.int .i64 a, .int .i64 b] 27 by rw [hw1]; exact Cs.new _ _ _)
  have hm : Mod (fun _ => False) w w1 := by rw [hw1]; exact (Mod.refl _ _).alloc _
  have HM0 := hid (show Mod (fun k => (R k)) w w1 from hm.mono (fun _ _ h => h.elim))
  have hs1 : w1.heap.size = w.heap.size + 1 := by rw [hw1]; simp
  have Hx1 := hid (HW.out.mod hm (fun _ _ h => h))
  clear HW
  clear hw1 hm
  go_upto_region 1 with (fail)
  generalize ha0 : Act.mk _ _ = a0
  have oe0 : a0.eval (.tmp 0) = .pointer (some ⟨g, 0, none⟩) := by rw [← ha0]; rfl
  have oe3 : a0.eval (.tmp 3) = .pointer (some ⟨w.heap.size, 0, none⟩) := by rw [← ha0]; rfl
  have hsz0 : a0.tmps.size = 11 := by rw [← ha0]; rfl
  have HA0 := hid ha0
  clear ha0
  refine wp_region_Q1 11 hsz0 [4, 5, 6, 7, 8, 9, 10] (fun k => (R k)) (fun k j => (k = 0 ∧ ((R j))) ∨ (k = 1 ∧ ((R j)))) (by intro k j h; (try dsimp only at h ⊢); rcases h with ⟨-, h⟩ | ⟨-, h⟩; (exact h); (exact h)) [qi (.pointer (some ⟨g, 0, none⟩)), qi (.pointer (some ⟨w.heap.size, 0, none⟩)), qi (.int .i64 a), qi (.pointer (some ⟨g, 0, none⟩)), qi (.pointer (some ⟨w.heap.size, 1, none⟩)), qi (.int .i64 b), qi (.pointer (some ⟨g, 0, none⟩))] ⟨qi_stable, qi_stable, qi_stable, qi_stable, qi_stable, qi_stable, qi_stable, trivial⟩ [3, 6] ⟨?_, ?_, ?_, ?_, ?_, ?_, ?_, trivial⟩ ?_
  · exact stq (fun E => ex_move rfl (E.v oe0))
  · exact stq (fun E => ex_field rfl Tryz.underlying27 rfl (by kernel_rfl) (E.v oe3))
  · exact stq (fun E => ex_load1 rfl Tryz.underlying3 rfl (E.d 1) (Cs.lit1 (HB3.out.mod E.m (by intro h2; rcases h2 with ⟨h0, h2⟩ | h2 <;> first | omega | (have hb := HBR.out _ h2; omega))) rfl))
  · exact stepq_chain rfl
  · exact stq (fun E => ex_field rfl Tryz.underlying27 rfl (by kernel_rfl) (E.v oe3))
  · exact stq (fun E => ex_load1 rfl Tryz.underlying3 rfl (E.d 4) (Cs.lit1 (HB3.out.mod E.m (by intro h2; rcases h2 with ⟨h0, h2⟩ | h2 <;> first | omega | (have hb := HBR.out _ h2; omega))) rfl))
  · exact stepq_chain rfl
  intro u1_0 hr
  have zu1_0 := hr.size
  have Cx2 := hid (hr.new (S := (fun k => (R k))))
  have Hx3 := hid (Hx1.out.mod hr (by intro k h1 h2; have hb := HBR.out k h1; omega))
  clear Hx1
  clear hr
  refine QChain.go fun Z act E => ?_
  refine qc_callF (args := #[.pointer (some ⟨g, 0, none⟩), .int .i64 a]) rfl (wanted_none rfl) rfl Tryz.func69 (args2 (E.d 0) (E.d 2)) (WInt_Q Hx3.out HA.out (by have := HL.out; simp only [List.length_append] at this ⊢; omega)) ?_
  rintro e u1_1a ⟨rfl, qwr, hm⟩
  have zu1_1a := hm.size
  refine ⟨_, rfl, hm.mono (by intro k hk h; first | omega | exact Or.inl ⟨(by have hb := HBR.out k h; omega), Or.inl ⟨rfl, h⟩⟩), (fun _ => rfl), ?_⟩
  intro u1_1 hr
  have zu1_1 := hr.size
  have Hx4 := hid ((qwr.widen (R' := (fun k => (R k) ∨ (New u1_0 u1_1a k))) (fun _ h => h) (Nat.le_refl _)).mod hr (by intro k h1 h2; rcases h1 with h1 | h1 <;> first | omega | (have hb := HBR.out k h1; omega)))
  have Cx5 := hid (Cx2.out.goM hm hr (fun _ _ h => h))
  clear Cx2 hm hr Z act E qwr Hx3
  refine QChain.go fun Z act E => ?_
  refine qc_callF (args := #[.pointer (some ⟨g, 0, none⟩), .int .i64 b]) rfl (wanted_none rfl) rfl Tryz.func69 (args2 (E.d 3) (E.d 5)) (WInt_Q Hx4.out HB.out (by have := HL.out; simp only [List.length_append] at this ⊢; omega)) ?_
  rintro e u1_2a ⟨rfl, qwr, hm⟩
  have zu1_2a := hm.size
  refine ⟨_, rfl, hm.mono (by intro k hk h; rcases h with h | h <;> first | omega | exact Or.inl ⟨(by have hb := HBR.out k h; omega), Or.inr (⟨rfl, h⟩)⟩), (fun _ => rfl), ?_⟩
  intro u1_2 hr
  have zu1_2 := hr.size
  have Hx6 := hid ((qwr.widen (R' := (fun k => (R k) ∨ (New u1_0 u1_1a k) ∨ (New u1_1 u1_2a k))) (by intro k h1; simp only [or_assoc] at h1 ⊢; exact h1) (Nat.le_refl _)).mod hr (by intro k h1 h2; rcases h1 with h1 | h1 | h1 <;> first | omega | (have hb := HBR.out k h1; omega)))
  have Cx7 := hid (Cx5.out.goM hm hr (by intro k h0 h2; rcases h2 with h2 | h2 <;> first | omega | exact h2))
  clear Cx5 hm hr Z act E qwr Hx4
  refine QChain.nil fun vs hl hzz hrows hne => ?_
  obtain ⟨Z, hYZ, hZb, hV⟩ := hzz
  have f0 := fvi hV hl 0
  have f3 := fvi hV hl 3
  have f6 := fvi hV hl 6
  rw [show vs = [gw vs 0, gw vs 1, gw vs 2, gw vs 3, gw vs 4, gw vs 5, gw vs 6] from (gw_eta hl).trans rfl]
  have ha0 := HA0.out
  subst ha0
  clear HA0 hV hYZ hZb hsz0 hrows hne oe0 oe3
  simp only [putAll, Act.put, sIB, sCZ, sCS, f0, f3, f6]
  clear hl f0 f3 f6
  go_wp2
  go_end0
  have hq := (Hx6.out.widen (R' := (fun k => R k ∨ New w u1_2 k)) (by intro k h1; rcases h1 with h1 | h1 | h1 <;> first | exact Or.inl h1 | (right; omega)) (Nat.le_refl _))
  simp only [List.append_assoc] at hq
  exact ⟨rfl, by simpa only [sigB, List.append_assoc] using hq, (HM0.out.trans Cx7.out (fun _ _ h => h))⟩
set_option maxHeartbeats 2000000 in
theorem PutName_Q {R : Nat → Prop} {g : Nat} {bs : List Int} {a b : Int} {w : World} (hW : WrR R 900000 w g bs) (hB : ∀ k, R k → k < w.heap.size) (ha : I64 a) (hb : I64 b) (hl : (bs ++ nameB a b).length ≤ 900000) :
    Calls Tryz.prog 137 #[.pointer (some ⟨g, 0, none⟩), .agg #[.int .i64 a, .int .i64 b]] w fun e w' => e = .returned (.tuple #[]) ∧ WrR (fun k => R k ∨ New w w' k) 900000 w' g (bs ++ nameB a b) ∧ Mod R w w' := by
  have HW := Lib.hid hW
  have HBR := Lib.hid hB
  have HL := hid (show (bs ++ (encI a ++ encI b)).length ≤ 900000 from hl)
  have HA := Lib.hid ha
  have HB := Lib.hid hb
  clear hW hB hl ha hb
  change Calls _ _ #[.pointer (some ⟨g, 0, none⟩), .agg #[.int .i64 a, .int .i64 b]] _ _
  go_enter Tryz.func137, Tryz.ntmps137
  go_upto_region 1 with (fail)
  obtain ⟨w1, hw1⟩ : ∃ zz, zz = (w.alloc (.cells #[.int .i64 a, .int .i64 b] 23)) := ⟨_, rfl⟩
  change Code.wp _ _ _ _ (w.alloc (.cells #[.int .i64 a, .int .i64 b] 23))
  rw [← hw1]
  have HB3 := hid (show Cs w1 (w.heap.size) #[.int .i64 a, .int .i64 b] 23 by rw [hw1]; exact Cs.new _ _ _)
  have hm : Mod (fun _ => False) w w1 := by rw [hw1]; exact (Mod.refl _ _).alloc _
  have HM0 := hid (show Mod (fun k => (R k)) w w1 from hm.mono (fun _ _ h => h.elim))
  have hs1 : w1.heap.size = w.heap.size + 1 := by rw [hw1]; simp
  have Hx1 := hid (HW.out.mod hm (fun _ _ h => h))
  clear HW
  clear hw1 hm
  go_upto_region 1 with (fail)
  generalize ha0 : Act.mk _ _ = a0
  have oe0 : a0.eval (.tmp 0) = .pointer (some ⟨g, 0, none⟩) := by rw [← ha0]; rfl
  have oe3 : a0.eval (.tmp 3) = .pointer (some ⟨w.heap.size, 0, none⟩) := by rw [← ha0]; rfl
  have hsz0 : a0.tmps.size = 11 := by rw [← ha0]; rfl
  have HA0 := hid ha0
  clear ha0
  refine wp_region_Q1 11 hsz0 [4, 5, 6, 7, 8, 9, 10] (fun k => (R k)) (fun k j => (k = 0 ∧ ((R j))) ∨ (k = 1 ∧ ((R j)))) (by intro k j h; (try dsimp only at h ⊢); rcases h with ⟨-, h⟩ | ⟨-, h⟩; (exact h); (exact h)) [qi (.pointer (some ⟨g, 0, none⟩)), qi (.pointer (some ⟨w.heap.size, 0, none⟩)), qi (.int .i64 a), qi (.pointer (some ⟨g, 0, none⟩)), qi (.pointer (some ⟨w.heap.size, 1, none⟩)), qi (.int .i64 b), qi (.pointer (some ⟨g, 0, none⟩))] ⟨qi_stable, qi_stable, qi_stable, qi_stable, qi_stable, qi_stable, qi_stable, trivial⟩ [3, 6] ⟨?_, ?_, ?_, ?_, ?_, ?_, ?_, trivial⟩ ?_
  · exact stq (fun E => ex_move rfl (E.v oe0))
  · exact stq (fun E => ex_field rfl Tryz.underlying23 rfl (by kernel_rfl) (E.v oe3))
  · exact stq (fun E => ex_load1 rfl Tryz.underlying3 rfl (E.d 1) (Cs.lit1 (HB3.out.mod E.m (by intro h2; rcases h2 with ⟨h0, h2⟩ | h2 <;> first | omega | (have hb := HBR.out _ h2; omega))) rfl))
  · exact stepq_chain rfl
  · exact stq (fun E => ex_field rfl Tryz.underlying23 rfl (by kernel_rfl) (E.v oe3))
  · exact stq (fun E => ex_load1 rfl Tryz.underlying3 rfl (E.d 4) (Cs.lit1 (HB3.out.mod E.m (by intro h2; rcases h2 with ⟨h0, h2⟩ | h2 <;> first | omega | (have hb := HBR.out _ h2; omega))) rfl))
  · exact stepq_chain rfl
  intro u1_0 hr
  have zu1_0 := hr.size
  have Cx2 := hid (hr.new (S := (fun k => (R k))))
  have Hx3 := hid (Hx1.out.mod hr (by intro k h1 h2; have hb := HBR.out k h1; omega))
  clear Hx1
  clear hr
  refine QChain.go fun Z act E => ?_
  refine qc_callF (args := #[.pointer (some ⟨g, 0, none⟩), .int .i64 a]) rfl (wanted_none rfl) rfl Tryz.func69 (args2 (E.d 0) (E.d 2)) (WInt_Q Hx3.out HA.out (by have := HL.out; simp only [List.length_append] at this ⊢; omega)) ?_
  rintro e u1_1a ⟨rfl, qwr, hm⟩
  have zu1_1a := hm.size
  refine ⟨_, rfl, hm.mono (by intro k hk h; first | omega | exact Or.inl ⟨(by have hb := HBR.out k h; omega), Or.inl ⟨rfl, h⟩⟩), (fun _ => rfl), ?_⟩
  intro u1_1 hr
  have zu1_1 := hr.size
  have Hx4 := hid ((qwr.widen (R' := (fun k => (R k) ∨ (New u1_0 u1_1a k))) (fun _ h => h) (Nat.le_refl _)).mod hr (by intro k h1 h2; rcases h1 with h1 | h1 <;> first | omega | (have hb := HBR.out k h1; omega)))
  have Cx5 := hid (Cx2.out.goM hm hr (fun _ _ h => h))
  clear Cx2 hm hr Z act E qwr Hx3
  refine QChain.go fun Z act E => ?_
  refine qc_callF (args := #[.pointer (some ⟨g, 0, none⟩), .int .i64 b]) rfl (wanted_none rfl) rfl Tryz.func69 (args2 (E.d 3) (E.d 5)) (WInt_Q Hx4.out HB.out (by have := HL.out; simp only [List.length_append] at this ⊢; omega)) ?_
  rintro e u1_2a ⟨rfl, qwr, hm⟩
  have zu1_2a := hm.size
  refine ⟨_, rfl, hm.mono (by intro k hk h; rcases h with h | h <;> first | omega | exact Or.inl ⟨(by have hb := HBR.out k h; omega), Or.inr (⟨rfl, h⟩)⟩), (fun _ => rfl), ?_⟩
  intro u1_2 hr
  have zu1_2 := hr.size
  have Hx6 := hid ((qwr.widen (R' := (fun k => (R k) ∨ (New u1_0 u1_1a k) ∨ (New u1_1 u1_2a k))) (by intro k h1; simp only [or_assoc] at h1 ⊢; exact h1) (Nat.le_refl _)).mod hr (by intro k h1 h2; rcases h1 with h1 | h1 | h1 <;> first | omega | (have hb := HBR.out k h1; omega)))
  have Cx7 := hid (Cx5.out.goM hm hr (by intro k h0 h2; rcases h2 with h2 | h2 <;> first | omega | exact h2))
  clear Cx5 hm hr Z act E qwr Hx4
  refine QChain.nil fun vs hl hzz hrows hne => ?_
  obtain ⟨Z, hYZ, hZb, hV⟩ := hzz
  have f0 := fvi hV hl 0
  have f3 := fvi hV hl 3
  have f6 := fvi hV hl 6
  rw [show vs = [gw vs 0, gw vs 1, gw vs 2, gw vs 3, gw vs 4, gw vs 5, gw vs 6] from (gw_eta hl).trans rfl]
  have ha0 := HA0.out
  subst ha0
  clear HA0 hV hYZ hZb hsz0 hrows hne oe0 oe3
  simp only [putAll, Act.put, sIB, sCZ, sCS, f0, f3, f6]
  clear hl f0 f3 f6
  go_wp2
  go_end0
  have hq := (Hx6.out.widen (R' := (fun k => R k ∨ New w u1_2 k)) (by intro k h1; rcases h1 with h1 | h1 | h1 <;> first | exact Or.inl h1 | (right; omega)) (Nat.le_refl _))
  simp only [List.append_assoc] at hq
  exact ⟨rfl, by simpa only [nameB, List.append_assoc] using hq, (HM0.out.trans Cx7.out (fun _ _ h => h))⟩
set_option maxHeartbeats 4000000 in
theorem PutCm_Q : Puts CmR 104 cmB := by
  intro R R2 g bs cs x w hW hB hx hB2 hD hl
  obtain ⟨rfl, hok⟩ := hx
  have HW := Lib.hid hW
  have HBR := Lib.hid hB
  have HBT := Lib.hid hB2
  have HDJ := Lib.hid hD
  have HOK := Lib.hid hok
  have HL := Lib.hid hl
  clear hW hB hB2 hD hl hok
  unfold cmB at HL
  go_enter Tryz.func104, Tryz.ntmps104
  go_upto_region 1 with (fail)
  obtain ⟨w1, hw1⟩ : ∃ zz, zz = (w.alloc (.cells (x.cells : List Value).toArray 29)) := ⟨_, rfl⟩
  change Code.wp _ _ _ _ (w.alloc (.cells (x.cells : List Value).toArray 29))
  rw [← hw1]
  have HB3 := hid (show Cs w1 (w.heap.size) (x.cells : List Value).toArray 29 by rw [hw1]; exact Cs.new _ _ _)
  have hm : Mod (fun _ => False) w w1 := by rw [hw1]; exact (Mod.refl _ _).alloc _
  have HM0 := hid (show Mod (fun k => (R k)) w w1 from hm.mono (fun _ _ h => h.elim))
  have hs1 : w1.heap.size = w.heap.size + 1 := by rw [hw1]; simp
  have Hx1 := hid (HW.out.mod hm (fun _ _ h => h))
  clear HW
  clear hw1 hm
  go_upto_region 1 with (fail)
  refine wp_region_U 19 [4, 5, 6, 7] [0, 1, 2, 3] (fun a0 HA0 => ?_)
  have oe0 := ev HA0 0 rfl
  have oe3 := ev HA0 3 rfl
  refine QSeq.pure rfl _ (fun E => ex_move rfl (E.v oe0)) ?_
  refine QSeq.pure rfl (.pointer (some ⟨w.heap.size, 0, none⟩)) (fun E => ex_field rfl Tryz.underlying29 rfl (by kernel_rfl) (E.v oe3)) ?_
  refine QSeq.pure rfl _ (fun E => ex_loadA rfl Tryz.underlying23 rfl (off := 0) (cs := [.int .i64 x.cl, .int .i64 x.sq]) (by kernel_rfl) (E.d 1 0) (Cs.preA (pre := [.int .i64 x.cl, .int .i64 x.sq]) (mid := x.h.map bv) (post := [.int .i64 x.ln, .int .i64 x.sb, .int .i64 x.mr]) HB3.out rfl)) ?_
  refine QSeq.call rfl rfl Tryz.func137 (PutName_Q Hx1.out (by intro k h1; have hb := HBR.out k h1; omega) HOK.out.1.1 HOK.out.1.2.1 (by have := HL.out; simp only [List.length_append] at this ⊢; omega)) (fun E => args2 (E.d 0 2) (E.d 2 0)) ?_
  rintro e u1_3 ⟨rfl, qwr, hm⟩
  refine ⟨_, rfl, ?_⟩
  have Hx2 := hid (qwr.widen (R' := (fun k => (R k) ∨ (New w1 u1_3 k))) (fun _ h => h) (Nat.le_refl _))
  have zu1_3 := hm.size
  have Cx3 := hid (show Mod (fun k => (R k)) w1 u1_3 from hm)
  clear hm
  clear qwr Hx1
  refine QSeq.nil (t' := [_, _, _, _]) rfl ?_
  obtain rfl := HA0.out
  clear HA0 oe0 oe3
  simp only [pz, Act.put, sIB, sCZ, sCS]
  go_upto_region 2 with (fail)
  generalize ha0 : Act.mk _ _ = a0
  have oe0 : a0.eval (.tmp 0) = .pointer (some ⟨g, 0, none⟩) := by rw [← ha0]; rfl
  have oe3 : a0.eval (.tmp 3) = .pointer (some ⟨w.heap.size, 0, none⟩) := by rw [← ha0]; rfl
  have hsz0 : a0.tmps.size = 19 := by rw [← ha0]; rfl
  have HA0 := hid ha0
  clear ha0
  refine wp_region_Q1 19 hsz0 [8, 9, 10, 11, 12, 13, 14] (fun k => (R k) ∨ (New w1 u1_3 k)) (fun k j => (k = 0 ∧ ((R j) ∨ (New w1 u1_3 j))) ∨ (k = 1 ∧ ((R j) ∨ (New w1 u1_3 j)))) (by intro k j h; (try dsimp only at h ⊢); rcases h with ⟨-, h | h⟩ | ⟨-, h | h⟩; (exact Or.inl (h)); (exact Or.inr (h)); (exact Or.inl (h)); (exact Or.inr (h))) [qi (.pointer (some ⟨g, 0, none⟩)), qi (.pointer (some ⟨w.heap.size, 2, none⟩)), qi (hv x.h), qi (.pointer (some ⟨g, 0, none⟩)), qi (.pointer (some ⟨w.heap.size, 34, none⟩)), qi (.int .i64 x.ln), qi (.pointer (some ⟨g, 0, none⟩))] ⟨qi_stable, qi_stable, qi_stable, qi_stable, qi_stable, qi_stable, qi_stable, trivial⟩ [3, 6] ⟨?_, ?_, ?_, ?_, ?_, ?_, ?_, trivial⟩ ?_
  · exact stq (fun E => ex_move rfl (E.v oe0))
  · exact stq (fun E => ex_field rfl Tryz.underlying29 rfl (by kernel_rfl) (E.v oe3))
  · exact stq (fun E => ex_loadA rfl Tryz.underlying25 rfl (off := 2) (cs := x.h.map bv) (by rw [List.length_map, HOK.out.2.1]; exact size_hash) (E.d 1) (((HB3.out.mod Cx3.out (by intro h2; first | omega | (have hb := HBR.out _ h2; omega))).mod E.m (by intro h2; rcases h2 with ⟨h0, h2 | h2⟩ | h2 <;> first | omega | (have hb := HBR.out _ h2; omega))).hash))
  · exact stepq_chain rfl
  · exact stq (fun E => ex_field rfl Tryz.underlying29 rfl (by kernel_rfl) (E.v oe3))
  · exact stq (fun E => ex_load1 rfl Tryz.underlying3 rfl (E.d 4) (((HB3.out.mod Cx3.out (by intro h2; first | omega | (have hb := HBR.out _ h2; omega))).mod E.m (by intro h2; rcases h2 with ⟨h0, h2 | h2⟩ | h2 <;> first | omega | (have hb := HBR.out _ h2; omega))).c34 HOK.out.2.1))
  · exact stepq_chain rfl
  intro u2_0 hr
  have zu2_0 := hr.size
  have Cx4 := hid (hr.new (S := (fun k => (R k) ∨ (New w1 u1_3 k))))
  have Hx5 := hid (Hx2.out.mod hr (by intro k h1 h2; rcases h1 with h1 | h1 <;> first | omega | (have hb := HBR.out k h1; omega)))
  clear Hx2
  clear hr
  refine QChain.go fun Z act E => ?_
  refine qc_callF (args := #[.pointer (some ⟨g, 0, none⟩), hv x.h]) rfl (wanted_none rfl) rfl Tryz.func138 (args2 (E.d 0) (E.d 2)) (WHash_Q Hx5.out HOK.out.2 (by have := HL.out; simp only [List.length_append] at this ⊢; omega)) ?_
  rintro e u2_1a ⟨rfl, qwr, hm⟩
  have zu2_1a := hm.size
  refine ⟨_, rfl, hm.mono (by intro k hk h; rcases h with h | h <;> first | omega | exact Or.inl ⟨(by have hb := HBR.out k h; omega), Or.inl ⟨rfl, Or.inl h⟩⟩), (fun _ => rfl), ?_⟩
  intro u2_1 hr
  have zu2_1 := hr.size
  have Hx6 := hid ((qwr.widen (R' := (fun k => (R k) ∨ (New w1 u1_3 k) ∨ (New u2_0 u2_1a k))) (by intro k h1; simp only [or_assoc] at h1 ⊢; exact h1) (Nat.le_refl _)).mod hr (by intro k h1 h2; rcases h1 with h1 | h1 | h1 <;> first | omega | (have hb := HBR.out k h1; omega)))
  have Cx7 := hid (Cx4.out.goM hm hr (fun _ _ h => h))
  clear Cx4 hm hr Z act E qwr Hx5
  refine QChain.go fun Z act E => ?_
  refine qc_callF (args := #[.pointer (some ⟨g, 0, none⟩), .int .i64 x.ln]) rfl (wanted_none rfl) rfl Tryz.func69 (args2 (E.d 3) (E.d 5)) (WInt_Q Hx6.out HOK.out.1.2.2.1 (by have := HL.out; simp only [List.length_append] at this ⊢; omega)) ?_
  rintro e u2_2a ⟨rfl, qwr, hm⟩
  have zu2_2a := hm.size
  refine ⟨_, rfl, hm.mono (by intro k hk h; rcases h with h | h | h <;> first | omega | exact Or.inl ⟨(by have hb := HBR.out k h; omega), Or.inr (⟨rfl, Or.inl h⟩)⟩), (fun _ => rfl), ?_⟩
  intro u2_2 hr
  have zu2_2 := hr.size
  have Hx8 := hid ((qwr.widen (R' := (fun k => (R k) ∨ (New w1 u1_3 k) ∨ (New u2_0 u2_1a k) ∨ (New u2_1 u2_2a k))) (by intro k h1; simp only [or_assoc] at h1 ⊢; exact h1) (Nat.le_refl _)).mod hr (by intro k h1 h2; rcases h1 with h1 | h1 | h1 | h1 <;> first | omega | (have hb := HBR.out k h1; omega)))
  have Cx9 := hid (Cx7.out.goM hm hr (by intro k h0 h2; rcases h2 with h2 | h2 | h2 <;> first | omega | exact Or.inl h2 | exact Or.inr (h2)))
  clear Cx7 hm hr Z act E qwr Hx6
  refine QChain.nil fun vs hl hzz hrows hne => ?_
  obtain ⟨Z, hYZ, hZb, hV⟩ := hzz
  have f0 := fvi hV hl 0
  have f3 := fvi hV hl 3
  have f6 := fvi hV hl 6
  rw [show vs = [gw vs 0, gw vs 1, gw vs 2, gw vs 3, gw vs 4, gw vs 5, gw vs 6] from (gw_eta hl).trans rfl]
  have ha0 := HA0.out
  subst ha0
  clear HA0 hV hYZ hZb hsz0 hrows hne oe0 oe3
  simp only [putAll, Act.put, sIB, sCZ, sCS, f0, f3, f6]
  clear hl f0 f3 f6
  go_upto_region 3 with (fail)
  refine wp_region_U 19 [15, 16, 17, 18] [0, 1, 2, 3] (fun a0 HA0 => ?_)
  have oe0 := ev HA0 0 rfl
  have oe3 := ev HA0 3 rfl
  refine QSeq.pure rfl _ (fun E => ex_move rfl (E.v oe0)) ?_
  refine QSeq.pure rfl (.pointer (some ⟨w.heap.size, 35, none⟩)) (fun E => ex_field rfl Tryz.underlying29 rfl (by kernel_rfl) (E.v oe3)) ?_
  refine QSeq.pure rfl _ (fun E => ex_loadA rfl Tryz.underlying27 rfl (off := 35) (cs := [.int .i64 x.sb, .int .i64 x.mr]) (by kernel_rfl) (E.d 1 0) (((HB3.out.mod Cx3.out (by intro h2; first | omega | (have hb := HBR.out _ h2; omega))).mod Cx9.out (by intro h2; rcases h2 with h2 | h2 <;> first | omega | (have hb := HBR.out _ h2; omega))).sig HOK.out.2.1)) ?_
  refine QSeq.call rfl rfl Tryz.func139 (PutSig_Q Hx8.out (by intro k h1; rcases h1 with h1 | h1 | h1 | h1 <;> first | omega | (have hb := HBR.out k h1; omega)) HOK.out.1.2.2.2.1 HOK.out.1.2.2.2.2 (by have := HL.out; simp only [List.length_append] at this ⊢; omega)) (fun E => args2 (E.d 0 2) (E.d 2 0)) ?_
  rintro e u3_3 ⟨rfl, qwr, hm⟩
  refine ⟨_, rfl, ?_⟩
  have Hx10 := hid (qwr.widen (R' := (fun k => (R k) ∨ (New w1 u1_3 k) ∨ (New u2_0 u2_1a k) ∨ (New u2_1 u2_2a k) ∨ (New u2_2 u3_3 k))) (by intro k h1; simp only [or_assoc] at h1 ⊢; exact h1) (Nat.le_refl _))
  have zu3_3 := hm.size
  have Cx11 := hid (show Mod (fun k => (R k) ∨ (New w1 u1_3 k) ∨ (New u2_0 u2_1a k) ∨ (New u2_1 u2_2a k)) u2_2 u3_3 from hm)
  clear hm
  clear qwr Hx8
  refine QSeq.nil (t' := [_, _, _, _]) rfl ?_
  obtain rfl := HA0.out
  clear HA0 oe0 oe3
  simp only [pz, Act.put, sIB, sCZ, sCS]
  go_wp2
  go_end0
  have hq := (Hx10.out.widen (R' := (fun k => R k ∨ New w u3_3 k)) (by intro k h1; rcases h1 with h1 | h1 | h1 | h1 | h1 <;> first | exact Or.inl h1 | (right; omega)) (Nat.le_refl _))
  simp only [List.append_assoc] at hq
  exact ⟨rfl, by simpa only [cmB, List.append_assoc] using hq, (((HM0.out.trans Cx3.out (fun _ _ h => h)).trans Cx9.out (by intro k h1 h2; rcases h2 with h2 | h2 <;> first | exact h2 | omega | (have hb := HBR.out k h2; omega))).trans Cx11.out (by intro k h1 h2; rcases h2 with h2 | h2 | h2 | h2 <;> first | exact h2 | omega | (have hb := HBR.out k h2; omega)))⟩
set_option maxHeartbeats 4000000 in
theorem PutSt_Q : Puts StR 105 stB := by
  intro R R2 g bs cs x w hW hB hx hB2 hD hl
  obtain ⟨rfl, hok⟩ := hx
  have HW := Lib.hid hW
  have HBR := Lib.hid hB
  have HBT := Lib.hid hB2
  have HDJ := Lib.hid hD
  have HOK := Lib.hid hok
  have HL := Lib.hid hl
  clear hW hB hB2 hD hl hok
  unfold stB at HL
  go_enter Tryz.func105, Tryz.ntmps105
  go_upto_region 1 with (fail)
  obtain ⟨w1, hw1⟩ : ∃ zz, zz = (w.alloc (.cells (x.cells : List Value).toArray 32)) := ⟨_, rfl⟩
  change Code.wp _ _ _ _ (w.alloc (.cells (x.cells : List Value).toArray 32))
  rw [← hw1]
  have HB3 := hid (show Cs w1 (w.heap.size) (x.cells : List Value).toArray 32 by rw [hw1]; exact Cs.new _ _ _)
  have hm : Mod (fun _ => False) w w1 := by rw [hw1]; exact (Mod.refl _ _).alloc _
  have HM0 := hid (show Mod (fun k => (R k)) w w1 from hm.mono (fun _ _ h => h.elim))
  have hs1 : w1.heap.size = w.heap.size + 1 := by rw [hw1]; simp
  have Hx1 := hid (HW.out.mod hm (fun _ _ h => h))
  clear HW
  clear hw1 hm
  go_upto_region 1 with (fail)
  refine wp_region_U 23 [4, 5, 6, 7] [0, 1, 2, 3] (fun a0 HA0 => ?_)
  have oe0 := ev HA0 0 rfl
  have oe3 := ev HA0 3 rfl
  refine QSeq.pure rfl _ (fun E => ex_move rfl (E.v oe0)) ?_
  refine QSeq.pure rfl (.pointer (some ⟨w.heap.size, 0, none⟩)) (fun E => ex_field rfl Tryz.underlying32 rfl (by kernel_rfl) (E.v oe3)) ?_
  refine QSeq.pure rfl _ (fun E => ex_load1 rfl Tryz.underlying3 rfl (E.d 1 0) (Cs.pre1 HB3.out rfl)) ?_
  refine QSeq.call rfl rfl Tryz.func69 (WInt_Q Hx1.out HOK.out.rp (by have := HL.out; simp only [List.length_append] at this ⊢; omega)) (fun E => args2 (E.d 0 2) (E.d 2 0)) ?_
  rintro e u1_3 ⟨rfl, qwr, hm⟩
  refine ⟨_, rfl, ?_⟩
  have Hx2 := hid (qwr.widen (R' := (fun k => (R k) ∨ (New w1 u1_3 k))) (fun _ h => h) (Nat.le_refl _))
  have zu1_3 := hm.size
  have Cx3 := hid (show Mod (fun k => (R k)) w1 u1_3 from hm)
  clear hm
  clear qwr Hx1
  refine QSeq.nil (t' := [_, _, _, _]) rfl ?_
  obtain rfl := HA0.out
  clear HA0 oe0 oe3
  simp only [pz, Act.put, sIB, sCZ, sCS]
  go_upto_region 2 with (fail)
  refine wp_region_U 23 [8, 9, 10, 11] [0, 1, 2, 3] (fun a0 HA0 => ?_)
  have oe0 := ev HA0 0 rfl
  have oe3 := ev HA0 3 rfl
  refine QSeq.pure rfl _ (fun E => ex_move rfl (E.v oe0)) ?_
  refine QSeq.pure rfl (.pointer (some ⟨w.heap.size, 1, none⟩)) (fun E => ex_field rfl Tryz.underlying32 rfl (by kernel_rfl) (E.v oe3)) ?_
  refine QSeq.pure rfl _ (fun E => ex_loadA rfl Tryz.underlying23 rfl (off := 1) (cs := [.int .i64 x.cl, .int .i64 x.sq]) (by kernel_rfl) (E.d 1 0) (Cs.preA (HB3.out.mod Cx3.out (by intro h2; first | omega | (have hb := HBR.out _ h2; omega))) rfl)) ?_
  refine QSeq.call rfl rfl Tryz.func137 (PutName_Q Hx2.out (by intro k h1; rcases h1 with h1 | h1 <;> first | omega | (have hb := HBR.out k h1; omega)) HOK.out.cl HOK.out.sq (by have := HL.out; simp only [List.length_append] at this ⊢; omega)) (fun E => args2 (E.d 0 2) (E.d 2 0)) ?_
  rintro e u2_3 ⟨rfl, qwr, hm⟩
  refine ⟨_, rfl, ?_⟩
  have Hx4 := hid (qwr.widen (R' := (fun k => (R k) ∨ (New w1 u1_3 k) ∨ (New u1_3 u2_3 k))) (by intro k h1; simp only [or_assoc] at h1 ⊢; exact h1) (Nat.le_refl _))
  have zu2_3 := hm.size
  have Cx5 := hid (show Mod (fun k => (R k) ∨ (New w1 u1_3 k)) u1_3 u2_3 from hm)
  clear hm
  clear qwr Hx2
  refine QSeq.nil (t' := [_, _, _, _]) rfl ?_
  obtain rfl := HA0.out
  clear HA0 oe0 oe3
  simp only [pz, Act.put, sIB, sCZ, sCS]
  go_upto_region 3 with (fail)
  generalize ha0 : Act.mk _ _ = a0
  have oe0 : a0.eval (.tmp 0) = .pointer (some ⟨g, 0, none⟩) := by rw [← ha0]; rfl
  have oe3 : a0.eval (.tmp 3) = .pointer (some ⟨w.heap.size, 0, none⟩) := by rw [← ha0]; rfl
  have hsz0 : a0.tmps.size = 23 := by rw [← ha0]; rfl
  have HA0 := hid ha0
  clear ha0
  refine wp_region_Q1 23 hsz0 [12, 13, 14, 15, 16, 17, 18] (fun k => (R k) ∨ (New w1 u1_3 k) ∨ (New u1_3 u2_3 k)) (fun k j => (k = 0 ∧ ((R j) ∨ (New w1 u1_3 j) ∨ (New u1_3 u2_3 j))) ∨ (k = 1 ∧ ((R j) ∨ (New w1 u1_3 j) ∨ (New u1_3 u2_3 j)))) (by intro k j h; (try dsimp only at h ⊢); rcases h with ⟨-, h | h | h⟩ | ⟨-, h | h | h⟩; (exact Or.inl (h)); (exact Or.inr (Or.inl (h))); (exact Or.inr (Or.inr (h))); (exact Or.inl (h)); (exact Or.inr (Or.inl (h))); (exact Or.inr (Or.inr (h)))) [qi (.pointer (some ⟨g, 0, none⟩)), qi (.pointer (some ⟨w.heap.size, 3, none⟩)), qi (hv x.h), qi (.pointer (some ⟨g, 0, none⟩)), qi (.pointer (some ⟨w.heap.size, 35, none⟩)), qi (.int .u64 (x.tm : Nat)), qi (.pointer (some ⟨g, 0, none⟩))] ⟨qi_stable, qi_stable, qi_stable, qi_stable, qi_stable, qi_stable, qi_stable, trivial⟩ [3, 6] ⟨?_, ?_, ?_, ?_, ?_, ?_, ?_, trivial⟩ ?_
  · exact stq (fun E => ex_move rfl (E.v oe0))
  · exact stq (fun E => ex_field rfl Tryz.underlying32 rfl (by kernel_rfl) (E.v oe3))
  · exact stq (fun E => ex_loadA rfl Tryz.underlying25 rfl (off := 3) (cs := x.h.map bv) (by rw [List.length_map, HOK.out.h.1]; exact size_hash) (E.d 1) (Cs.midA (((HB3.out.mod Cx3.out (by intro h2; first | omega | (have hb := HBR.out _ h2; omega))).mod Cx5.out (by intro h2; rcases h2 with h2 | h2 <;> first | omega | (have hb := HBR.out _ h2; omega))).mod E.m (by intro h2; rcases h2 with ⟨h0, h2 | h2 | h2⟩ | h2 <;> first | omega | (have hb := HBR.out _ h2; omega))) rfl))
  · exact stepq_chain rfl
  · exact stq (fun E => ex_field rfl Tryz.underlying32 rfl (by kernel_rfl) (E.v oe3))
  · exact stq (fun E => ex_load1 rfl Tryz.underlying30 rfl (E.d 4) (Cs.post1 (m := 32) (k := 0) (((HB3.out.mod Cx3.out (by intro h2; first | omega | (have hb := HBR.out _ h2; omega))).mod Cx5.out (by intro h2; rcases h2 with h2 | h2 <;> first | omega | (have hb := HBR.out _ h2; omega))).mod E.m (by intro h2; rcases h2 with ⟨h0, h2 | h2 | h2⟩ | h2 <;> first | omega | (have hb := HBR.out _ h2; omega))) (by rw [List.length_map]; exact HOK.out.h.1) rfl rfl))
  · exact stepq_chain rfl
  intro u3_0 hr
  have zu3_0 := hr.size
  have Cx6 := hid (hr.new (S := (fun k => (R k) ∨ (New w1 u1_3 k) ∨ (New u1_3 u2_3 k))))
  have Hx7 := hid (Hx4.out.mod hr (by intro k h1 h2; rcases h1 with h1 | h1 | h1 <;> first | omega | (have hb := HBR.out k h1; omega)))
  clear Hx4
  clear hr
  refine QChain.go fun Z act E => ?_
  refine qc_callF (args := #[.pointer (some ⟨g, 0, none⟩), hv x.h]) rfl (wanted_none rfl) rfl Tryz.func138 (args2 (E.d 0) (E.d 2)) (WHash_Q Hx7.out HOK.out.h (by have := HL.out; simp only [List.length_append] at this ⊢; omega)) ?_
  rintro e u3_1a ⟨rfl, qwr, hm⟩
  have zu3_1a := hm.size
  refine ⟨_, rfl, hm.mono (by intro k hk h; rcases h with h | h | h <;> first | omega | exact Or.inl ⟨(by have hb := HBR.out k h; omega), Or.inl ⟨rfl, Or.inl h⟩⟩), (fun _ => rfl), ?_⟩
  intro u3_1 hr
  have zu3_1 := hr.size
  have Hx8 := hid ((qwr.widen (R' := (fun k => (R k) ∨ (New w1 u1_3 k) ∨ (New u1_3 u2_3 k) ∨ (New u3_0 u3_1a k))) (by intro k h1; simp only [or_assoc] at h1 ⊢; exact h1) (Nat.le_refl _)).mod hr (by intro k h1 h2; rcases h1 with h1 | h1 | h1 | h1 <;> first | omega | (have hb := HBR.out k h1; omega)))
  have Cx9 := hid (Cx6.out.goM hm hr (fun _ _ h => h))
  clear Cx6 hm hr Z act E qwr Hx7
  refine QChain.go fun Z act E => ?_
  refine qc_callF (args := #[.pointer (some ⟨g, 0, none⟩), .int .u64 (x.tm : Nat)]) rfl (wanted_none rfl) rfl Tryz.func103 (args2 (E.d 3) (E.d 5)) (WNum_Q Hx8.out HOK.out.tm (by have := HL.out; simp only [List.length_append] at this ⊢; omega)) ?_
  rintro e u3_2a ⟨rfl, qwr, hm⟩
  have zu3_2a := hm.size
  refine ⟨_, rfl, hm.mono (by intro k hk h; rcases h with h | h | h | h <;> first | omega | exact Or.inl ⟨(by have hb := HBR.out k h; omega), Or.inr (⟨rfl, Or.inl h⟩)⟩), (fun _ => rfl), ?_⟩
  intro u3_2 hr
  have zu3_2 := hr.size
  have Hx10 := hid ((qwr.widen (R' := (fun k => (R k) ∨ (New w1 u1_3 k) ∨ (New u1_3 u2_3 k) ∨ (New u3_0 u3_1a k) ∨ (New u3_1 u3_2a k))) (by intro k h1; simp only [or_assoc] at h1 ⊢; exact h1) (Nat.le_refl _)).mod hr (by intro k h1 h2; rcases h1 with h1 | h1 | h1 | h1 | h1 <;> first | omega | (have hb := HBR.out k h1; omega)))
  have Cx11 := hid (Cx9.out.goM hm hr (by intro k h0 h2; rcases h2 with h2 | h2 | h2 | h2 <;> first | omega | exact Or.inl h2 | exact Or.inr (Or.inl h2) | exact Or.inr (Or.inr (h2))))
  clear Cx9 hm hr Z act E qwr Hx8
  refine QChain.nil fun vs hl hzz hrows hne => ?_
  obtain ⟨Z, hYZ, hZb, hV⟩ := hzz
  have f0 := fvi hV hl 0
  have f3 := fvi hV hl 3
  have f6 := fvi hV hl 6
  rw [show vs = [gw vs 0, gw vs 1, gw vs 2, gw vs 3, gw vs 4, gw vs 5, gw vs 6] from (gw_eta hl).trans rfl]
  have ha0 := HA0.out
  subst ha0
  clear HA0 hV hYZ hZb hsz0 hrows hne oe0 oe3
  simp only [putAll, Act.put, sIB, sCZ, sCS, f0, f3, f6]
  clear hl f0 f3 f6
  go_upto_region 4 with (fail)
  refine wp_region_U 23 [19, 20, 21, 22] [0, 1, 2, 3] (fun a0 HA0 => ?_)
  have oe0 := ev HA0 0 rfl
  have oe3 := ev HA0 3 rfl
  refine QSeq.pure rfl _ (fun E => ex_move rfl (E.v oe0)) ?_
  refine QSeq.pure rfl (.pointer (some ⟨w.heap.size, 36, none⟩)) (fun E => ex_field rfl Tryz.underlying32 rfl (by kernel_rfl) (E.v oe3)) ?_
  refine QSeq.pure rfl _ (fun E => ex_loadA rfl Tryz.underlying27 rfl (off := 36) (cs := [.int .i64 x.sb, .int .i64 x.mr]) (by kernel_rfl) (E.d 1 0) (Cs.postA (m := 32) (k := 1) (((HB3.out.mod Cx3.out (by intro h2; first | omega | (have hb := HBR.out _ h2; omega))).mod Cx5.out (by intro h2; rcases h2 with h2 | h2 <;> first | omega | (have hb := HBR.out _ h2; omega))).mod Cx11.out (by intro h2; rcases h2 with h2 | h2 | h2 <;> first | omega | (have hb := HBR.out _ h2; omega))) (by rw [List.length_map]; exact HOK.out.h.1) rfl rfl)) ?_
  refine QSeq.call rfl rfl Tryz.func139 (PutSig_Q Hx10.out (by intro k h1; rcases h1 with h1 | h1 | h1 | h1 | h1 <;> first | omega | (have hb := HBR.out k h1; omega)) HOK.out.sb HOK.out.mr (by have := HL.out; simp only [List.length_append] at this ⊢; omega)) (fun E => args2 (E.d 0 2) (E.d 2 0)) ?_
  rintro e u4_3 ⟨rfl, qwr, hm⟩
  refine ⟨_, rfl, ?_⟩
  have Hx12 := hid (qwr.widen (R' := (fun k => (R k) ∨ (New w1 u1_3 k) ∨ (New u1_3 u2_3 k) ∨ (New u3_0 u3_1a k) ∨ (New u3_1 u3_2a k) ∨ (New u3_2 u4_3 k))) (by intro k h1; simp only [or_assoc] at h1 ⊢; exact h1) (Nat.le_refl _))
  have zu4_3 := hm.size
  have Cx13 := hid (show Mod (fun k => (R k) ∨ (New w1 u1_3 k) ∨ (New u1_3 u2_3 k) ∨ (New u3_0 u3_1a k) ∨ (New u3_1 u3_2a k)) u3_2 u4_3 from hm)
  clear hm
  clear qwr Hx10
  refine QSeq.nil (t' := [_, _, _, _]) rfl ?_
  obtain rfl := HA0.out
  clear HA0 oe0 oe3
  simp only [pz, Act.put, sIB, sCZ, sCS]
  go_wp2
  go_end0
  have hq := (Hx12.out.widen (R' := (fun k => R k ∨ New w u4_3 k)) (by intro k h1; rcases h1 with h1 | h1 | h1 | h1 | h1 | h1 <;> first | exact Or.inl h1 | (right; omega)) (Nat.le_refl _))
  simp only [List.append_assoc] at hq
  exact ⟨rfl, by simpa only [stB, List.append_assoc] using hq, ((((HM0.out.trans Cx3.out (fun _ _ h => h)).trans Cx5.out (by intro k h1 h2; rcases h2 with h2 | h2 <;> first | exact h2 | omega | (have hb := HBR.out k h2; omega))).trans Cx11.out (by intro k h1 h2; rcases h2 with h2 | h2 | h2 <;> first | exact h2 | omega | (have hb := HBR.out k h2; omega))).trans Cx13.out (by intro k h1 h2; rcases h2 with h2 | h2 | h2 | h2 | h2 <;> first | exact h2 | omega | (have hb := HBR.out k h2; omega)))⟩
set_option maxHeartbeats 4000000 in
theorem PutList_St : PutsL StR 140 105 stB := by
  intro R R2 g bs v l w hW hB hs hB2 hD hl
  obtain ⟨ao, cap, rfl⟩ := hs.shape
  have hb64 : l.length ≤ maxLen := hs.bd
  rw [maxLen_val] at hb64
  have HI64 := hid (show I64 (l.length : Int) by unfold I64; omega)
  have HW := Lib.hid hW
  have HS := Lib.hid hs
  have HBR := Lib.hid hB
  have HBT := Lib.hid hB2
  have HDJ := Lib.hid hD
  have HL := Lib.hid hl
  clear hW hB hs hB2 hD hl
  unfold listB at HL
  go_enter Tryz.func140, Tryz.ntmps140
  go_upto_region 0 with (fail)
  have HM0 := hid (Mod.refl (fun k => (R k)) w)
  go_upto_region 0 with (fail)
  refine wp_region_U 23 [8, 9, 10, 11] [0, 1, 2, 3] (fun a0 HA0 => ?_)
  have oe0 := ev HA0 0 rfl
  have oe1 := ev HA0 1 rfl
  refine QSeq.pure rfl _ (fun E => ex_move rfl (E.v oe0)) ?_
  refine QSeq.pure rfl _ (fun E => ex_move rfl (E.v oe1)) ?_
  refine QSeq.pure rfl (.int .i64 l.length) (fun E => ex_lenS rfl (E.d 1 0) Tryz.underlying33) ?_
  refine QSeq.call rfl rfl Tryz.func69 (WInt_Q HW.out HI64.out (by have := HL.out; simp only [List.length_append] at this ⊢; omega)) (fun E => args2 (E.d 0 2) (E.d 2 0)) ?_
  rintro e u0_3 ⟨rfl, qwr, hm⟩
  refine ⟨_, rfl, ?_⟩
  have Hx1 := hid (qwr.widen (R' := (fun k => (R k) ∨ (New w u0_3 k))) (fun _ h => h) (Nat.le_refl _))
  have zu0_3 := hm.size
  have Cx2 := hid (show Mod (fun k => (R k)) w u0_3 from hm)
  clear hm
  clear qwr HW
  refine QSeq.nil (t' := [_, _, _, _]) rfl ?_
  obtain rfl := HA0.out
  clear HA0 oe0 oe1
  simp only [pz, Act.put, sIB, sCZ, sCS]
  go_wp2
  go_loopw [14] (fun t wr => ∃ k : Nat, t = .int .i64 (k : Int) ∧ k ≤ l.length ∧ u0_3.heap.size ≤ wr.heap.size ∧ WrR (fun b => R b ∨ (w.heap.size ≤ b ∧ b < wr.heap.size)) 900000 wr g (bs ++ (encI l.length ++ ((l.take k).map stB).flatten)) ∧ RdS StR R2 wr (.slice ao l.length cap) l ∧ Mod R w wr) (fun t _ => l.length - (intOf t).toNat)
  case atStart => exact ⟨0, rfl, Nat.zero_le _, Nat.le_refl _, by have hq := (Hx1.out.widen (R' := (fun k => R k ∨ (w.heap.size ≤ k ∧ k < u0_3.heap.size))) (by intro k h1; rcases h1 with h1 | h1 <;> first | exact Or.inl h1 | (right; omega)) (Nat.le_refl _)); simpa only [List.take_zero, List.map_nil, List.flatten_nil, List.append_nil] using hq, (HS.out.mod Cx2.out (by intro k h1 h2; first | omega | (have hb := HBT.out k h1; omega) | (have hb := HBR.out k h2; omega) | exact HDJ.out k h1 h2 | exact HDJ.out k h2 h1 | (have hb := HBT.out k h1; have hb2 := HBR.out k h2; omega))), (HM0.out.trans Cx2.out (fun _ _ h => h))⟩
  case round =>
    obtain ⟨k, rfl, hk, hz, hw, hs, hm⟩ := hrel
    have HW2 := Lib.hid hw
    have HS2 := Lib.hid hs
    have HM2 := Lib.hid hm
    clear hw hs hm Hx1 HS HM0
    obtain ⟨wo, rfl⟩ : ∃ x, x = wr := ⟨_, rfl⟩
    by_cases hlt : k < l.length
    · skip
      obtain ⟨g0, o0, cs, rfl, hrg, hrd, hcs⟩ := HS2.out.at hlt
      have hcl : cs.length = 38 := StR.len hrd
      have HCL := Lib.hid hcl
      have HAT := hid (show CellsAt R2 wo g0 (o0 + k * 38) cs from ⟨hrg, hcs⟩)
      have HRD := Lib.hid hrd
      have HOC := hid (StR.one hrd)
      clear hcl hcs hrd hrg
      have HE : Hid (bs ++ (encI l.length ++ ((l.take k).map stB).flatten) ++ stB l[k] = bs ++ (encI l.length ++ ((l.take (k + 1)).map stB).flatten)) := hid (by rw [List.take_succ_eq_append_getElem hlt, List.map_append, List.flatten_append]; simp [List.append_assoc])
      have HLk := hid (show (bs ++ (encI l.length ++ ((l.take k).map stB).flatten) ++ stB l[k]).length ≤ 900000 by rw [HE.out]; exact Nat.le_trans (put_len _ _ _ _ _) HL.out)
      go_upto_region 3 with (fail)
      refine wp_region_U 23 [16, 17, 7, 26] [0, 1, 2, 3] (fun a0 HA0 => ?_)
      have oe12 := ev HA0 12 rfl
      have oe14 := ev HA0 14 rfl
      refine QSeq.pure rfl (.pointer (some ⟨g0, o0 + k * 38, none⟩)) (fun E => ex_idxS (i := k) (s := 38) rfl Tryz.underlying33 (by kernel_rfl) (E.v oe12) (E.v oe14) (by omega)) ?_
      refine QSeq.pure rfl _ (fun E => ex_loadA rfl Tryz.underlying32 rfl (off := o0 + k * 38) (cs := cs) (by rw [HCL.out]; kernel_rfl) (E.d 0 0) (fun j u hu => (HAT.out).2 j u hu)) ?_
      refine QSeq.go fun act E => ?_
      refine qc_alloc rfl (wanted_none rfl) rfl (z := [.int .i64 0, .int .i64 0, .int .i64 0, .int .u8 0, .int .u8 0, .int .u8 0, .int .u8 0, .int .u8 0, .int .u8 0, .int .u8 0, .int .u8 0, .int .u8 0, .int .u8 0, .int .u8 0, .int .u8 0, .int .u8 0, .int .u8 0, .int .u8 0, .int .u8 0, .int .u8 0, .int .u8 0, .int .u8 0, .int .u8 0, .int .u8 0, .int .u8 0, .int .u8 0, .int .u8 0, .int .u8 0, .int .u8 0, .int .u8 0, .int .u8 0, .int .u8 0, .int .u8 0, .int .u8 0, .int .u8 0, .int .u64 0, .int .i64 0, .int .i64 0]) (by kernel_rfl) ?_
      intro u3_2 qq hm
      have zl3_2 := qq.lt
      have Hx3 := hid qq
      have zu3_2 := hm.size
      have Cx4 := hid (show Mod (fun _ => False) wo u3_2 from hm)
      clear hm
      clear act E qq
      refine QSeq.go fun act E => ?_
      have hlz : (cs).length = List.length ([.int .i64 0, .int .i64 0, .int .i64 0, .int .u8 0, .int .u8 0, .int .u8 0, .int .u8 0, .int .u8 0, .int .u8 0, .int .u8 0, .int .u8 0, .int .u8 0, .int .u8 0, .int .u8 0, .int .u8 0, .int .u8 0, .int .u8 0, .int .u8 0, .int .u8 0, .int .u8 0, .int .u8 0, .int .u8 0, .int .u8 0, .int .u8 0, .int .u8 0, .int .u8 0, .int .u8 0, .int .u8 0, .int .u8 0, .int .u8 0, .int .u8 0, .int .u8 0, .int .u8 0, .int .u8 0, .int .u8 0, .int .u64 0, .int .i64 0, .int .i64 0] : List Value) := (by rw [HCL.out]; rfl)
      refine qc_store rfl (wanted_none rfl) rfl Hx3.out (off := 0) (vs := cs) (by rw [hlz]; kernel_rfl) HOC.out (by rw [hlz]; exact Nat.le_of_eq (Nat.zero_add _)) (E.d 2 0) (ec (E.d 1 1)) ?_
      intro u3_3 qc0 hm
      have qq := qc0.eqv (b := (cs : List Value).toArray) (lay_whole #[.int .i64 0, .int .i64 0, .int .i64 0, .int .u8 0, .int .u8 0, .int .u8 0, .int .u8 0, .int .u8 0, .int .u8 0, .int .u8 0, .int .u8 0, .int .u8 0, .int .u8 0, .int .u8 0, .int .u8 0, .int .u8 0, .int .u8 0, .int .u8 0, .int .u8 0, .int .u8 0, .int .u8 0, .int .u8 0, .int .u8 0, .int .u8 0, .int .u8 0, .int .u8 0, .int .u8 0, .int .u8 0, .int .u8 0, .int .u8 0, .int .u8 0, .int .u8 0, .int .u8 0, .int .u8 0, .int .u8 0, .int .u64 0, .int .i64 0, .int .i64 0] _ (by rw [hlz]; rfl))
      clear qc0 hlz
      have Hx5 := hid qq
      have zu3_3 := hm.size
      have HMu3_3 := hid hm
      have Cx6 := hid (Mod.goS (S' := (fun _ => False)) Cx4.out hm (fun _ h => h) (by intro k h0 h2; omega))
      clear hm Cx4
      clear act E qq Hx3
      clear HMu3_3
      refine QSeq.nil (t' := [_, _, _, _]) rfl ?_
      obtain rfl := HA0.out
      clear HA0 oe12 oe14
      simp only [pz, Act.put, sIB, sCZ, sCS, List.set_nil]
      go_upto_region 4 with (fail)
      refine wp_region_U 23 [18, 19, 20, 21] [0, 1, 2, 3] (fun a0 HA0 => ?_)
      have oe0 := ev HA0 0 rfl
      have oe2 := ev HA0 2 rfl
      have oe7 := ev HA0 7 rfl
      refine QSeq.pure rfl _ (fun E => ex_move rfl (E.v oe2)) ?_
      refine QSeq.pure rfl _ (fun E => ex_move rfl (E.v oe0)) ?_
      refine QSeq.pure rfl _ (fun E => ex_loadA rfl Tryz.underlying32 rfl (off := 0) (cs := cs) (by rw [HCL.out]; kernel_rfl) (E.v oe7) (Cs.whole Hx5.out)) ?_
      refine QSeq.go fun act E => ?_
      have ea19 : act.eval (.tmp 19) = .pointer (some ⟨g, 0, none⟩) := (E.d 1 1)
      have ea20 : act.eval (.tmp 20) = .agg cs.toArray := (E.d 2 0)
      refine qc_call (args := #[.pointer (some ⟨g, 0, none⟩), .agg cs.toArray]) rfl (wanted_none rfl) (by rw [ex_callV rfl (E.d 0 2) Tryz.func105 (by kernel_rfl) (by kernel_rfl)]; exact congrArg (fun z => Result.ok (Next.enter _ z) _) (by simp only [List.map_toArray, List.map_cons, List.map_nil, ea19, ea20]; try rfl)) (PutSt_Q _ _ _ _ _ _ _ (HW2.out.mod Cx6.out (fun _ _ h => h)) (by intro k h1; rcases h1 with h1 | h1 <;> first | omega | (have hb := HBR.out k h1; omega)) (HRD.out.mod Cx6.out (fun _ _ h => h)) (by intro k h1; have hb := HBT.out k h1; omega) (by intro k h1 h2; rcases h1 with h1 | h1 <;> first | omega | (have hb := HBR.out k h1; omega) | (have hb := HBT.out k h2; omega) | exact HDJ.out k h1 h2 | exact HDJ.out k h2 h1 | (have hb := HBR.out k h1; have hb2 := HBT.out k h2; omega)) HLk.out) ?_
      rintro e u4_3 ⟨rfl, qwr, hm⟩
      refine ⟨_, rfl, ?_⟩
      have Hx7 := hid (qwr.widen (R' := (fun k => (R k) ∨ (New w wo k) ∨ (New u3_3 u4_3 k))) (by intro k h1; simp only [or_assoc] at h1 ⊢; exact h1) (Nat.le_refl _))
      have zu4_3 := hm.size
      have Cx8 := hid (show Mod (fun k => (R k) ∨ (New w wo k)) u3_3 u4_3 from hm)
      clear hm
      clear act E qwr HW2 ea19 ea20
      refine QSeq.nil (t' := [_, _, _, _]) rfl ?_
      obtain rfl := HA0.out
      clear HA0 oe0 oe2 oe7
      simp only [pz, Act.put, sIB, sCZ, sCS]
      have hq := Hx7.out
      rw [HE.out] at hq
      have HQ := Lib.hid hq
      clear hq
      go_wp2
      go_roundw
      case rel => exact ⟨k + 1, by go_num, by omega, by omega, (HQ.out.widen (by intro b h1; rcases h1 with h1 | h1 | h1 <;> first | exact Or.inl h1 | (right; omega)) (Nat.le_refl _)), ((HS2.out.mod Cx6.out (fun _ _ h => h)).mod Cx8.out (by intro k h1 h2; rcases h2 with h2 | h2 <;> first | omega | (have hb := HBT.out k h1; omega) | (have hb := HBR.out k h2; omega) | exact HDJ.out k h1 h2 | exact HDJ.out k h2 h1 | (have hb := HBT.out k h1; have hb2 := HBR.out k h2; omega))), ((HM2.out.trans Cx6.out (fun _ _ h => h.elim)).trans Cx8.out (by intro k h1 h2; rcases h2 with h2 | h2 <;> first | exact h2 | omega | (have hb := HBR.out k h2; omega)))⟩
      case measure => simp [intOf]; omega
    · have hkk : k = l.length := by omega
      subst hkk
      go_wp2
      go_end0
      have hq := HW2.out
      rw [List.take_length] at hq
      exact ⟨rfl, hq, HM2.out⟩
set_option maxHeartbeats 4000000 in
theorem PutCe_Q : Puts CeR 106 ceB := by
  intro R R2 g bs cs x w hW hB hx hB2 hD hl
  obtain ⟨v_l, rfl, hok, hs0⟩ := hx
  have HS0 := Lib.hid hs0
  clear hs0
  have HW := Lib.hid hW
  have HBR := Lib.hid hB
  have HBT := Lib.hid hB2
  have HDJ := Lib.hid hD
  have HOK := Lib.hid hok
  have HL := Lib.hid hl
  clear hW hB hB2 hD hl hok
  unfold ceB at HL
  go_enter Tryz.func106, Tryz.ntmps106
  go_upto_region 1 with (fail)
  obtain ⟨w1, hw1⟩ : ∃ zz, zz = (w.alloc (.cells (x.cells v_l : List Value).toArray 35)) := ⟨_, rfl⟩
  change Code.wp _ _ _ _ (w.alloc (.cells (x.cells v_l : List Value).toArray 35))
  rw [← hw1]
  have HB3 := hid (show Cs w1 (w.heap.size) (x.cells v_l : List Value).toArray 35 by rw [hw1]; exact Cs.new _ _ _)
  have hm : Mod (fun _ => False) w w1 := by rw [hw1]; exact (Mod.refl _ _).alloc _
  have HM0 := hid (show Mod (fun k => (R k)) w w1 from hm.mono (fun _ _ h => h.elim))
  have hs1 : w1.heap.size = w.heap.size + 1 := by rw [hw1]; simp
  have Hx1 := hid (HW.out.mod hm (fun _ _ h => h))
  clear HW
  have Hx2 := hid (HS0.out.mod hm (fun _ _ h => h))
  clear HS0
  clear hw1 hm
  go_upto_region 1 with (fail)
  refine wp_region_U 12 [4, 5, 6, 7] [0, 1, 2, 3] (fun a0 HA0 => ?_)
  have oe0 := ev HA0 0 rfl
  have oe3 := ev HA0 3 rfl
  refine QSeq.pure rfl _ (fun E => ex_move rfl (E.v oe0)) ?_
  refine QSeq.pure rfl (.pointer (some ⟨w.heap.size, 0, none⟩)) (fun E => ex_field rfl Tryz.underlying35 rfl (by kernel_rfl) (E.v oe3)) ?_
  refine QSeq.pure rfl _ (fun E => ex_loadA rfl Tryz.underlying29 rfl (off := 0) (cs := x.c.cells) (by rw [Cm.len HOK.out.2.1]; exact size_commit) (E.d 1 0) (Cs.midA (pre := []) (mid := x.c.cells) (post := [v_l]) HB3.out rfl)) ?_
  refine QSeq.call rfl rfl Tryz.func104 (PutCm_Q _ (fun _ => False) _ _ _ _ _ Hx1.out (by intro k h1; have hb := HBR.out k h1; omega) ⟨rfl, HOK.out⟩ (fun _ h => h.elim) (fun _ _ h => h.elim) (by have := HL.out; simp only [List.length_append] at this ⊢; omega)) (fun E => args2 (E.d 0 2) (E.d 2 0)) ?_
  rintro e u1_3 ⟨rfl, qwr, hm⟩
  refine ⟨_, rfl, ?_⟩
  have Hx3 := hid (qwr.widen (R' := (fun k => (R k) ∨ (New w1 u1_3 k))) (fun _ h => h) (Nat.le_refl _))
  have zu1_3 := hm.size
  have Cx4 := hid (show Mod (fun k => (R k)) w1 u1_3 from hm)
  clear hm
  clear qwr Hx1
  refine QSeq.nil (t' := [_, _, _, _]) rfl ?_
  obtain rfl := HA0.out
  clear HA0 oe0 oe3
  simp only [pz, Act.put, sIB, sCZ, sCS]
  go_upto_region 2 with (fail)
  refine wp_region_U 12 [8, 9, 10, 11] [0, 1, 2, 3] (fun a0 HA0 => ?_)
  have oe0 := ev HA0 0 rfl
  have oe3 := ev HA0 3 rfl
  refine QSeq.pure rfl _ (fun E => ex_move rfl (E.v oe0)) ?_
  refine QSeq.pure rfl (.pointer (some ⟨w.heap.size, 37, none⟩)) (fun E => ex_field rfl Tryz.underlying35 rfl (by kernel_rfl) (E.v oe3)) ?_
  refine QSeq.pure rfl _ (fun E => ex_load1 rfl Tryz.underlying33 rfl (E.d 1 0) (Cs.post1 (pre := []) (mid := x.c.cells) (post := [v_l]) (m := 37) (k := 0) (HB3.out.mod Cx4.out (by intro h2; first | omega | (have hb := HBR.out _ h2; omega))) (Cm.len HOK.out.2.1) rfl rfl)) ?_
  refine QSeq.call rfl rfl Tryz.func140 (PutList_St _ _ _ _ _ _ _ Hx3.out (by intro k h1; rcases h1 with h1 | h1 <;> first | omega | (have hb := HBR.out k h1; omega)) (Hx2.out.mod Cx4.out (by intro k h1 h2; first | omega | (have hb := HBT.out k h1; omega) | (have hb := HBR.out k h2; omega) | exact HDJ.out k h1 h2 | exact HDJ.out k h2 h1 | (have hb := HBT.out k h1; have hb2 := HBR.out k h2; omega))) (by intro k h1; have hb := HBT.out k h1; omega) (by intro k h1 h2; rcases h1 with h1 | h1 <;> first | omega | (have hb := HBR.out k h1; omega) | (have hb := HBT.out k h2; omega) | exact HDJ.out k h1 h2 | exact HDJ.out k h2 h1 | (have hb := HBR.out k h1; have hb2 := HBT.out k h2; omega)) (by have := HL.out; simp only [List.length_append] at this ⊢; omega)) (fun E => args3 (E.d 0 2) (E.d 2 0) rfl) ?_
  rintro e u2_3 ⟨rfl, qwr, hm⟩
  refine ⟨_, rfl, ?_⟩
  have Hx5 := hid (qwr.widen (R' := (fun k => (R k) ∨ (New w1 u1_3 k) ∨ (New u1_3 u2_3 k))) (by intro k h1; simp only [or_assoc] at h1 ⊢; exact h1) (Nat.le_refl _))
  have zu2_3 := hm.size
  have Cx6 := hid (show Mod (fun k => (R k) ∨ (New w1 u1_3 k)) u1_3 u2_3 from hm)
  clear hm
  clear qwr Hx3
  refine QSeq.nil (t' := [_, _, _, _]) rfl ?_
  obtain rfl := HA0.out
  clear HA0 oe0 oe3
  simp only [pz, Act.put, sIB, sCZ, sCS]
  go_wp2
  go_end0
  have hq := (Hx5.out.widen (R' := (fun k => R k ∨ New w u2_3 k)) (by intro k h1; rcases h1 with h1 | h1 | h1 <;> first | exact Or.inl h1 | (right; omega)) (Nat.le_refl _))
  simp only [List.append_assoc] at hq
  exact ⟨rfl, by simpa only [ceB, List.append_assoc] using hq, ((HM0.out.trans Cx4.out (fun _ _ h => h)).trans Cx6.out (by intro k h1 h2; rcases h2 with h2 | h2 <;> first | exact h2 | omega | (have hb := HBR.out k h2; omega)))⟩
end Go.Proofs.YtpnikilkcifncaaGreat
