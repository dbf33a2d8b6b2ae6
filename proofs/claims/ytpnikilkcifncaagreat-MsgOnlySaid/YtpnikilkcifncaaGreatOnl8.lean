/- Texts that are built one behind the other: XMp, XMk, XGt1, XGt2, XGt3, XMq, XMl, XMh, XMw0, XKp1. No condition. -/
import Derived.Test.YtpnikilkcifncaaGreatOnl7
set_option maxRecDepth 100000
set_option linter.unusedVariables false
open List renaming setIfInBounds_toArray → sIB, set_cons_zero → sCZ, set_cons_succ → sCS
/- msgs.put. -/
namespace Go.Proofs.YtpnikilkcifncaaGreat
open Go Go.RowKit Go.Gv

set_option maxHeartbeats 8000000 in
theorem put_Q : ∀ (R R2 : Nat → Prop) (g : Nat) (bs : List Int) (cs : List Value) (x : Mg) (w : World), WrR R 900000 w g bs → (∀ k, R k → k < w.heap.size) → MgR.rd R2 w cs x → (∀ k, R2 k → k < w.heap.size) → (∀ k, R k → R2 k → False) → (bs ++ bodyB x).length ≤ 900000 →
    Calls Tryz.prog 70 #[.pointer (some ⟨g, 0, none⟩), .agg cs.toArray] w fun e w' => e = .returned (.bool (okKd x.kd)) ∧ WrR (fun k => R k ∨ New w w' k) 900000 w' g (bs ++ bodyB x) ∧ Mod R w w' := by
  intro R R2 g bs cs x w hW hB hx hB2 hD hl
  obtain ⟨c5, c10, c11, c15, c18, rfl, hok, h5, h10, h11, h15, h18⟩ := hx
  have HLN := hid (Mg.lns hok h5 h10 h11 h15 h18)
  obtain ⟨d_ps, d_os, d_ts, d_l, rfl, hokd, hd0, hd1, hd2, hd3⟩ := h18
  have HC5 := hid (CeR.len h5)
  have H5 := Lib.hid h5
  have HC10 := hid (PmR.len h10)
  have H10 := Lib.hid h10
  have HC11 := hid (PrR.len h11)
  have H11 := Lib.hid h11
  have HC15 := hid (OpR.len h15)
  have H15 := Lib.hid h15
  have HD0 := Lib.hid hd0
  have HD1 := Lib.hid hd1
  have HD2 := Lib.hid hd2
  have HD3 := Lib.hid hd3
  have HW := Lib.hid hW
  have HBR := Lib.hid hB
  have HBT := Lib.hid hB2
  have HDJ := Lib.hid hD
  have HOK := Lib.hid hok
  have HOD := Lib.hid hokd
  have HL := Lib.hid hl
  clear hW hB hB2 hD hl hok hokd h5 h10 h11 h15 hd0 hd1 hd2 hd3
  go_enter Tryz.func70, Tryz.ntmps70
  go_upto_region 1 with (fail)
  obtain ⟨w1, hw1⟩ : ∃ zz, zz = (w.alloc (.cells ((x.segs c5 c10 c11 c15 (x.dc.cells d_ps d_os d_ts d_l)).flatten : List Value).toArray 61)) := ⟨_, rfl⟩
  change Code.wp _ _ _ _ (w.alloc (.cells ((x.segs c5 c10 c11 c15 (x.dc.cells d_ps d_os d_ts d_l)).flatten : List Value).toArray 61))
  rw [← hw1]
  have HB3 := hid (show Cs w1 (w.heap.size) ((x.segs c5 c10 c11 c15 (x.dc.cells d_ps d_os d_ts d_l)).flatten : List Value).toArray 61 by rw [hw1]; exact Cs.new _ _ _)
  have hm : Mod (fun _ => False) w w1 := by rw [hw1]; exact (Mod.refl _ _).alloc _
  have HM0 := hid (show Mod (fun k => (R k)) w w1 from hm.mono (fun _ _ h => h.elim))
  have hs1 : w1.heap.size = w.heap.size + 1 := by rw [hw1]; simp
  have Hx1 := hid (HW.out.mod hm (fun _ _ h => h))
  clear HW
  have Hx2 := hid (H5.out.mod hm (fun _ _ h => h))
  clear H5
  have Hx3 := hid (H10.out.mod hm (fun _ _ h => h))
  clear H10
  have Hx4 := hid (H11.out.mod hm (fun _ _ h => h))
  clear H11
  have Hx5 := hid (H15.out.mod hm (fun _ _ h => h))
  clear H15
  have Hx6 := hid (HD0.out.mod hm (fun _ _ h => h))
  clear HD0
  have Hx7 := hid (HD1.out.mod hm (fun _ _ h => h))
  clear HD1
  have Hx8 := hid (HD2.out.mod hm (fun _ _ h => h))
  clear HD2
  have Hx9 := hid (HD3.out.mod hm (fun _ _ h => h))
  clear HD3
  clear hw1 hm
  go_upto_region 1 with (fail)
  refine wp_region_U 120 [5, 6] [0, 1] (fun a0 HA0 => ?_)
  have oe3 := ev HA0 3 rfl
  refine QSeq.pure rfl (.pointer (some ⟨w.heap.size, 0, none⟩)) (fun E => ex_field rfl Tryz.underlying61 rfl (by kernel_rfl) (E.v oe3)) ?_
  refine QSeq.pure rfl (.int .i64 x.kd) (fun E => ex_load1 rfl Tryz.underlying3 rfl (E.d 0 0) (Cs.seg1 HB3.out HLN.out 0 rfl (o := 0) (k := 0) rfl rfl rfl)) ?_
  refine QSeq.nil (t' := [_, _]) rfl ?_
  obtain rfl := HA0.out
  clear HA0 oe3
  simp only [pz, Act.put, sIB, sCZ, sCS]
  by_cases h1 : x.kd = 1
  · have K1 := Lib.hid h1
    clear h1
    go_upto_region 3 with (fail)
    refine wp_region_U 120 [8, 7] [0, 1] (fun a0 HA0 => ?_)
    have oe6 := ev HA0 6 rfl
    refine QSeq.pure rfl (.bool true) (fun E => ex_binE rfl (E.v oe6) rfl (guard_ints _ _ _ _ _ _) (run_eql_i _ _ _ Tryz.underlying3) (congrArg Value.bool (eq_tt K1.out))) ?_
    refine QSeq.pure rfl _ (fun E => ex_assign rfl (E.d 0 0)) ?_
    refine QSeq.nil (t' := [_, _]) rfl ?_
    obtain rfl := HA0.out
    clear HA0 oe6
    simp only [pz, Act.put, sIB, sCZ, sCS]
    have HE := hid (show bodyB x = cmB x.cm by unfold bodyB; rw [K1.out]; rfl)
    rw [HE.out] at HL
    have HQ := hid (show okKd x.kd = true by rw [K1.out]; rfl)
    go_upto_region 4 with (fail)
    refine wp_region_U 120 [9, 10, 11, 12] [0, 1, 2, 3] (fun a0 HA0 => ?_)
    have oe0 := ev HA0 0 rfl
    have oe3 := ev HA0 3 rfl
    refine QSeq.pure rfl _ (fun E => ex_move rfl (E.v oe0)) ?_
    refine QSeq.pure rfl (.pointer (some ⟨w.heap.size, 3, none⟩)) (fun E => ex_field rfl Tryz.underlying61 rfl (by kernel_rfl) (E.v oe3)) ?_
    refine QSeq.pure rfl _ (fun E => ex_loadA rfl Tryz.underlying29 rfl (off := 3) (cs := (x.cm.cells)) (by rw [Cm.len HOK.out.cm.2.1]; exact size_commit) (E.d 1 0) (Cs.seg HB3.out HLN.out 3 rfl rfl)) ?_
    refine QSeq.call rfl rfl Tryz.func104 (PutCm_Q _ (fun _ => False) _ _ _ x.cm _ Hx1.out (by intro k h1; have hb := HBR.out k h1; omega) ⟨rfl, HOK.out.cm⟩ (fun _ h => h.elim) (fun _ _ h => h.elim) (by have := HL.out; simp only [List.length_append] at this ⊢; omega)) (fun E => args2 (E.d 0 2) (E.d 2 0)) ?_
    rintro e u4_3 ⟨rfl, qwr, hm⟩
    refine ⟨_, rfl, ?_⟩
    have Hx10 := hid (qwr.widen (R' := (fun k => (R k) ∨ (New w1 u4_3 k))) (fun _ h => h) (Nat.le_refl _))
    have zu4_3 := hm.size
    have Cx11 := hid (show Mod (fun k => (R k)) w1 u4_3 from hm)
    clear hm
    clear qwr Hx1
    refine QSeq.nil (t' := [_, _, _, _]) rfl ?_
    obtain rfl := HA0.out
    clear HA0 oe0 oe3
    simp only [pz, Act.put, sIB, sCZ, sCS]
    go_upto_region 34 with (fail)
    refine wp_region_U 120 [4] [0] (fun a0 HA0 => ?_)
    refine QSeq.pure rfl (.bool true) (fun E => ex_assign rfl rfl) ?_
    refine QSeq.nil (t' := [_]) rfl ?_
    obtain rfl := HA0.out
    clear HA0
    simp only [pz, Act.put, sIB, sCZ, sCS]
    go_wp2
    go_ret
    have hq := (Hx10.out.widen (R' := (fun k => R k ∨ New w u4_3 k)) (by intro k h1; rcases h1 with h1 | h1 <;> first | exact Or.inl h1 | (right; omega)) (Nat.le_refl _))
    (try simp only [List.append_assoc] at hq)
    exact ⟨by rw [HQ.out]; rfl, by rw [HE.out]; simpa only [List.append_assoc] using hq, (HM0.out.trans Cx11.out (fun _ _ h => h))⟩
  have K1 := Lib.hid h1
  clear h1
  go_upto_region 3 with (fail)
  refine wp_region_U 120 [8, 7] [0, 1] (fun a0 HA0 => ?_)
  have oe6 := ev HA0 6 rfl
  refine QSeq.pure rfl (.bool false) (fun E => ex_binE rfl (E.v oe6) rfl (guard_ints _ _ _ _ _ _) (run_eql_i _ _ _ Tryz.underlying3) (congrArg Value.bool (eq_ff K1.out))) ?_
  refine QSeq.pure rfl _ (fun E => ex_assign rfl (E.d 0 0)) ?_
  refine QSeq.nil (t' := [_, _]) rfl ?_
  obtain rfl := HA0.out
  clear HA0 oe6
  simp only [pz, Act.put, sIB, sCZ, sCS]
  by_cases h2 : x.kd = 2
  · have K2 := Lib.hid h2
    clear h2
    go_upto_region 5 with (fail)
    refine wp_region_U 120 [14, 13] [0, 1] (fun a0 HA0 => ?_)
    have oe6 := ev HA0 6 rfl
    refine QSeq.pure rfl (.bool true) (fun E => ex_binE rfl (E.v oe6) rfl (guard_ints _ _ _ _ _ _) (run_eql_i _ _ _ Tryz.underlying3) (congrArg Value.bool (eq_tt K2.out))) ?_
    refine QSeq.pure rfl _ (fun E => ex_assign rfl (E.d 0 0)) ?_
    refine QSeq.nil (t' := [_, _]) rfl ?_
    obtain rfl := HA0.out
    clear HA0 oe6
    simp only [pz, Act.put, sIB, sCZ, sCS]
    have HE := hid (show bodyB x = stB x.st by unfold bodyB; rw [K2.out]; rfl)
    rw [HE.out] at HL
    have HQ := hid (show okKd x.kd = true by rw [K2.out]; rfl)
    go_upto_region 6 with (fail)
    refine wp_region_U 120 [15, 16, 17, 18] [0, 1, 2, 3] (fun a0 HA0 => ?_)
    have oe0 := ev HA0 0 rfl
    have oe3 := ev HA0 3 rfl
    refine QSeq.pure rfl _ (fun E => ex_move rfl (E.v oe0)) ?_
    refine QSeq.pure rfl (.pointer (some ⟨w.heap.size, 40, none⟩)) (fun E => ex_field rfl Tryz.underlying61 rfl (by kernel_rfl) (E.v oe3)) ?_
    refine QSeq.pure rfl _ (fun E => ex_loadA rfl Tryz.underlying32 rfl (off := 40) (cs := (x.st.cells)) (by rw [St.len HOK.out.st]; kernel_rfl) (E.d 1 0) (Cs.seg HB3.out HLN.out 4 rfl rfl)) ?_
    refine QSeq.call rfl rfl Tryz.func105 (PutSt_Q _ (fun _ => False) _ _ _ x.st _ Hx1.out (by intro k h1; have hb := HBR.out k h1; omega) ⟨rfl, HOK.out.st⟩ (fun _ h => h.elim) (fun _ _ h => h.elim) (by have := HL.out; simp only [List.length_append] at this ⊢; omega)) (fun E => args2 (E.d 0 2) (E.d 2 0)) ?_
    rintro e u6_3 ⟨rfl, qwr, hm⟩
    refine ⟨_, rfl, ?_⟩
    have Hx12 := hid (qwr.widen (R' := (fun k => (R k) ∨ (New w1 u6_3 k))) (fun _ h => h) (Nat.le_refl _))
    have zu6_3 := hm.size
    have Cx13 := hid (show Mod (fun k => (R k)) w1 u6_3 from hm)
    clear hm
    clear qwr Hx1
    refine QSeq.nil (t' := [_, _, _, _]) rfl ?_
    obtain rfl := HA0.out
    clear HA0 oe0 oe3
    simp only [pz, Act.put, sIB, sCZ, sCS]
    go_upto_region 34 with (fail)
    refine wp_region_U 120 [4] [0] (fun a0 HA0 => ?_)
    refine QSeq.pure rfl (.bool true) (fun E => ex_assign rfl rfl) ?_
    refine QSeq.nil (t' := [_]) rfl ?_
    obtain rfl := HA0.out
    clear HA0
    simp only [pz, Act.put, sIB, sCZ, sCS]
    go_wp2
    go_ret
    have hq := (Hx12.out.widen (R' := (fun k => R k ∨ New w u6_3 k)) (by intro k h1; rcases h1 with h1 | h1 <;> first | exact Or.inl h1 | (right; omega)) (Nat.le_refl _))
    (try simp only [List.append_assoc] at hq)
    exact ⟨by rw [HQ.out]; rfl, by rw [HE.out]; simpa only [List.append_assoc] using hq, (HM0.out.trans Cx13.out (fun _ _ h => h))⟩
  have K2 := Lib.hid h2
  clear h2
  go_upto_region 5 with (fail)
  refine wp_region_U 120 [14, 13] [0, 1] (fun a0 HA0 => ?_)
  have oe6 := ev HA0 6 rfl
  refine QSeq.pure rfl (.bool false) (fun E => ex_binE rfl (E.v oe6) rfl (guard_ints _ _ _ _ _ _) (run_eql_i _ _ _ Tryz.underlying3) (congrArg Value.bool (eq_ff K2.out))) ?_
  refine QSeq.pure rfl _ (fun E => ex_assign rfl (E.d 0 0)) ?_
  refine QSeq.nil (t' := [_, _]) rfl ?_
  obtain rfl := HA0.out
  clear HA0 oe6
  simp only [pz, Act.put, sIB, sCZ, sCS]
  by_cases h3 : x.kd = 3
  · have K3 := Lib.hid h3
    clear h3
    go_upto_region 7 with (fail)
    refine wp_region_U 120 [20, 19] [0, 1] (fun a0 HA0 => ?_)
    have oe6 := ev HA0 6 rfl
    refine QSeq.pure rfl (.bool true) (fun E => ex_binE rfl (E.v oe6) rfl (guard_ints _ _ _ _ _ _) (run_eql_i _ _ _ Tryz.underlying3) (congrArg Value.bool (eq_tt K3.out))) ?_
    refine QSeq.pure rfl _ (fun E => ex_assign rfl (E.d 0 0)) ?_
    refine QSeq.nil (t' := [_, _]) rfl ?_
    obtain rfl := HA0.out
    clear HA0 oe6
    simp only [pz, Act.put, sIB, sCZ, sCS]
    have HE := hid (show bodyB x = ceB x.ce by unfold bodyB; rw [K3.out]; rfl)
    rw [HE.out] at HL
    have HQ := hid (show okKd x.kd = true by rw [K3.out]; rfl)
    go_upto_region 8 with (fail)
    refine wp_region_U 120 [21, 22, 23, 24] [0, 1, 2, 3] (fun a0 HA0 => ?_)
    have oe0 := ev HA0 0 rfl
    have oe3 := ev HA0 3 rfl
    refine QSeq.pure rfl _ (fun E => ex_move rfl (E.v oe0)) ?_
    refine QSeq.pure rfl (.pointer (some ⟨w.heap.size, 78, none⟩)) (fun E => ex_field rfl Tryz.underlying61 rfl (by kernel_rfl) (E.v oe3)) ?_
    refine QSeq.pure rfl _ (fun E => ex_loadA rfl Tryz.underlying35 rfl (off := 78) (cs := (c5)) (by rw [HC5.out]; kernel_rfl) (E.d 1 0) (Cs.seg HB3.out HLN.out 5 rfl rfl)) ?_
    refine QSeq.call rfl rfl Tryz.func106 (PutCe_Q _ R2 _ _ _ x.ce _ Hx1.out (by intro k h1; have hb := HBR.out k h1; omega) Hx2.out (by intro k h1; have hb := HBT.out k h1; omega) (by intro k h1 h2; first | omega | (have hb := HBR.out k h1; omega) | (have hb := HBT.out k h2; omega) | exact HDJ.out k h1 h2 | exact HDJ.out k h2 h1 | (have hb := HBR.out k h1; have hb2 := HBT.out k h2; omega)) (by have := HL.out; simp only [List.length_append] at this ⊢; omega)) (fun E => args2 (E.d 0 2) (E.d 2 0)) ?_
    rintro e u8_3 ⟨rfl, qwr, hm⟩
    refine ⟨_, rfl, ?_⟩
    have Hx14 := hid (qwr.widen (R' := (fun k => (R k) ∨ (New w1 u8_3 k))) (fun _ h => h) (Nat.le_refl _))
    have zu8_3 := hm.size
    have Cx15 := hid (show Mod (fun k => (R k)) w1 u8_3 from hm)
    clear hm
    clear qwr Hx1
    refine QSeq.nil (t' := [_, _, _, _]) rfl ?_
    obtain rfl := HA0.out
    clear HA0 oe0 oe3
    simp only [pz, Act.put, sIB, sCZ, sCS]
    go_upto_region 34 with (fail)
    refine wp_region_U 120 [4] [0] (fun a0 HA0 => ?_)
    refine QSeq.pure rfl (.bool true) (fun E => ex_assign rfl rfl) ?_
    refine QSeq.nil (t' := [_]) rfl ?_
    obtain rfl := HA0.out
    clear HA0
    simp only [pz, Act.put, sIB, sCZ, sCS]
    go_wp2
    go_ret
    have hq := (Hx14.out.widen (R' := (fun k => R k ∨ New w u8_3 k)) (by intro k h1; rcases h1 with h1 | h1 <;> first | exact Or.inl h1 | (right; omega)) (Nat.le_refl _))
    (try simp only [List.append_assoc] at hq)
    exact ⟨by rw [HQ.out]; rfl, by rw [HE.out]; simpa only [List.append_assoc] using hq, (HM0.out.trans Cx15.out (fun _ _ h => h))⟩
  have K3 := Lib.hid h3
  clear h3
  go_upto_region 7 with (fail)
  refine wp_region_U 120 [20, 19] [0, 1] (fun a0 HA0 => ?_)
  have oe6 := ev HA0 6 rfl
  refine QSeq.pure rfl (.bool false) (fun E => ex_binE rfl (E.v oe6) rfl (guard_ints _ _ _ _ _ _) (run_eql_i _ _ _ Tryz.underlying3) (congrArg Value.bool (eq_ff K3.out))) ?_
  refine QSeq.pure rfl _ (fun E => ex_assign rfl (E.d 0 0)) ?_
  refine QSeq.nil (t' := [_, _]) rfl ?_
  obtain rfl := HA0.out
  clear HA0 oe6
  simp only [pz, Act.put, sIB, sCZ, sCS]
  by_cases h4 : x.kd = 4
  · have K4 := Lib.hid h4
    clear h4
    go_upto_region 9 with (fail)
    refine wp_region_U 120 [26, 25] [0, 1] (fun a0 HA0 => ?_)
    have oe6 := ev HA0 6 rfl
    refine QSeq.pure rfl (.bool true) (fun E => ex_binE rfl (E.v oe6) rfl (guard_ints _ _ _ _ _ _) (run_eql_i _ _ _ Tryz.underlying3) (congrArg Value.bool (eq_tt K4.out))) ?_
    refine QSeq.pure rfl _ (fun E => ex_assign rfl (E.d 0 0)) ?_
    refine QSeq.nil (t' := [_, _]) rfl ?_
    obtain rfl := HA0.out
    clear HA0 oe6
    simp only [pz, Act.put, sIB, sCZ, sCS]
    have HE := hid (show bodyB x = stB x.ak by unfold bodyB; rw [K4.out]; rfl)
    rw [HE.out] at HL
    have HQ := hid (show okKd x.kd = true by rw [K4.out]; rfl)
    go_upto_region 10 with (fail)
    refine wp_region_U 120 [27, 28, 29, 30] [0, 1, 2, 3] (fun a0 HA0 => ?_)
    have oe0 := ev HA0 0 rfl
    have oe3 := ev HA0 3 rfl
    refine QSeq.pure rfl _ (fun E => ex_move rfl (E.v oe0)) ?_
    refine QSeq.pure rfl (.pointer (some ⟨w.heap.size, 116, none⟩)) (fun E => ex_field rfl Tryz.underlying61 rfl (by kernel_rfl) (E.v oe3)) ?_
    refine QSeq.pure rfl _ (fun E => ex_loadA rfl Tryz.underlying37 rfl (off := 116) (cs := (x.ak.cells)) (by rw [St.len HOK.out.ak]; kernel_rfl) (E.d 1 0) (Cs.seg HB3.out HLN.out 6 rfl rfl)) ?_
    refine QSeq.call rfl rfl Tryz.func107 (PutAk_Q _ (fun _ => False) _ _ _ x.ak _ Hx1.out (by intro k h1; have hb := HBR.out k h1; omega) ⟨rfl, HOK.out.ak⟩ (fun _ h => h.elim) (fun _ _ h => h.elim) (by have := HL.out; simp only [List.length_append] at this ⊢; omega)) (fun E => args2 (E.d 0 2) (E.d 2 0)) ?_
    rintro e u10_3 ⟨rfl, qwr, hm⟩
    refine ⟨_, rfl, ?_⟩
    have Hx16 := hid (qwr.widen (R' := (fun k => (R k) ∨ (New w1 u10_3 k))) (fun _ h => h) (Nat.le_refl _))
    have zu10_3 := hm.size
    have Cx17 := hid (show Mod (fun k => (R k)) w1 u10_3 from hm)
    clear hm
    clear qwr Hx1
    refine QSeq.nil (t' := [_, _, _, _]) rfl ?_
    obtain rfl := HA0.out
    clear HA0 oe0 oe3
    simp only [pz, Act.put, sIB, sCZ, sCS]
    go_upto_region 34 with (fail)
    refine wp_region_U 120 [4] [0] (fun a0 HA0 => ?_)
    refine QSeq.pure rfl (.bool true) (fun E => ex_assign rfl rfl) ?_
    refine QSeq.nil (t' := [_]) rfl ?_
    obtain rfl := HA0.out
    clear HA0
    simp only [pz, Act.put, sIB, sCZ, sCS]
    go_wp2
    go_ret
    have hq := (Hx16.out.widen (R' := (fun k => R k ∨ New w u10_3 k)) (by intro k h1; rcases h1 with h1 | h1 <;> first | exact Or.inl h1 | (right; omega)) (Nat.le_refl _))
    (try simp only [List.append_assoc] at hq)
    exact ⟨by rw [HQ.out]; rfl, by rw [HE.out]; simpa only [List.append_assoc] using hq, (HM0.out.trans Cx17.out (fun _ _ h => h))⟩
  have K4 := Lib.hid h4
  clear h4
  go_upto_region 9 with (fail)
  refine wp_region_U 120 [26, 25] [0, 1] (fun a0 HA0 => ?_)
  have oe6 := ev HA0 6 rfl
  refine QSeq.pure rfl (.bool false) (fun E => ex_binE rfl (E.v oe6) rfl (guard_ints _ _ _ _ _ _) (run_eql_i _ _ _ Tryz.underlying3) (congrArg Value.bool (eq_ff K4.out))) ?_
  refine QSeq.pure rfl _ (fun E => ex_assign rfl (E.d 0 0)) ?_
  refine QSeq.nil (t' := [_, _]) rfl ?_
  obtain rfl := HA0.out
  clear HA0 oe6
  simp only [pz, Act.put, sIB, sCZ, sCS]
  by_cases h5 : x.kd = 5
  · have K5 := Lib.hid h5
    clear h5
    go_upto_region 11 with (fail)
    refine wp_region_U 120 [32, 31] [0, 1] (fun a0 HA0 => ?_)
    have oe6 := ev HA0 6 rfl
    refine QSeq.pure rfl (.bool true) (fun E => ex_binE rfl (E.v oe6) rfl (guard_ints _ _ _ _ _ _) (run_eql_i _ _ _ Tryz.underlying3) (congrArg Value.bool (eq_tt K5.out))) ?_
    refine QSeq.pure rfl _ (fun E => ex_assign rfl (E.d 0 0)) ?_
    refine QSeq.nil (t' := [_, _]) rfl ?_
    obtain rfl := HA0.out
    clear HA0 oe6
    simp only [pz, Act.put, sIB, sCZ, sCS]
    have HE := hid (show bodyB x = encI x.ep ++ encI x.rn ++ encN x.tm by unfold bodyB; rw [K5.out]; rfl)
    rw [HE.out] at HL
    have HQ := hid (show okKd x.kd = true by rw [K5.out]; rfl)
    go_upto_region 12 with (fail)
    generalize ha0 : Act.mk _ _ = a0
    have oe0 : a0.eval (.tmp 0) = .pointer (some ⟨g, 0, none⟩) := by rw [← ha0]; rfl
    have oe3 : a0.eval (.tmp 3) = .pointer (some ⟨w.heap.size, 0, none⟩) := by rw [← ha0]; rfl
    have hsz0 : a0.tmps.size = 120 := by rw [← ha0]; rfl
    have HA0 := hid ha0
    clear ha0
    refine wp_region_Q1 120 hsz0 [33, 34, 35, 36, 37, 38, 39, 40, 41, 42] (fun k => (R k)) (fun k j => (k = 0 ∧ ((R j))) ∨ (k = 1 ∧ ((R j))) ∨ (k = 2 ∧ ((R j)))) (by intro k j h; (try dsimp only at h ⊢); rcases h with ⟨-, h⟩ | ⟨-, h⟩ | ⟨-, h⟩; (exact h); (exact h); (exact h)) [qi (.pointer (some ⟨g, 0, none⟩)), qi (.pointer (some ⟨w.heap.size, 154, none⟩)), qi (.int .i64 x.ep), qi (.pointer (some ⟨g, 0, none⟩)), qi (.pointer (some ⟨w.heap.size, 155, none⟩)), qi (.int .i64 x.rn), qi (.pointer (some ⟨g, 0, none⟩)), qi (.pointer (some ⟨w.heap.size, 156, none⟩)), qi (.int .u64 (x.tm : Nat)), qi (.pointer (some ⟨g, 0, none⟩))] ⟨qi_stable, qi_stable, qi_stable, qi_stable, qi_stable, qi_stable, qi_stable, qi_stable, qi_stable, qi_stable, trivial⟩ [3, 6, 9] ⟨?_, ?_, ?_, ?_, ?_, ?_, ?_, ?_, ?_, ?_, trivial⟩ ?_
    · exact stq (fun E => ex_move rfl (E.v oe0))
    · exact stq (fun E => ex_field rfl Tryz.underlying61 rfl (by kernel_rfl) (E.v oe3))
    · exact stq (fun E => ex_load1 rfl Tryz.underlying3 rfl (E.d 1) (Cs.seg1 (HB3.out.mod E.m (by intro h2; rcases h2 with ⟨h0, h2⟩ | h2 <;> first | omega | (have hb := HBR.out _ h2; omega))) HLN.out 7 rfl (o := 154) (k := 0) rfl rfl rfl))
    · exact stepq_chain rfl
    · exact stq (fun E => ex_field rfl Tryz.underlying61 rfl (by kernel_rfl) (E.v oe3))
    · exact stq (fun E => ex_load1 rfl Tryz.underlying3 rfl (E.d 4) (Cs.seg1 (HB3.out.mod E.m (by intro h2; rcases h2 with ⟨h0, h2⟩ | h2 <;> first | omega | (have hb := HBR.out _ h2; omega))) HLN.out 8 rfl (o := 155) (k := 0) rfl rfl rfl))
    · exact stepq_chain rfl
    · exact stq (fun E => ex_field rfl Tryz.underlying61 rfl (by kernel_rfl) (E.v oe3))
    · exact stq (fun E => ex_load1 rfl Tryz.underlying30 rfl (E.d 7) (Cs.seg1 (HB3.out.mod E.m (by intro h2; rcases h2 with ⟨h0, h2⟩ | h2 <;> first | omega | (have hb := HBR.out _ h2; omega))) HLN.out 9 rfl (o := 156) (k := 0) rfl rfl rfl))
    · exact stepq_chain rfl
    intro u12_0 hr
    have zu12_0 := hr.size
    have Cx18 := hid (hr.new (S := (fun k => (R k))))
    have Hx19 := hid (Hx1.out.mod hr (by intro k h1 h2; have hb := HBR.out k h1; omega))
    clear Hx1
    clear hr
    refine QChain.go fun Z act E => ?_
    refine qc_callF (args := #[.pointer (some ⟨g, 0, none⟩), .int .i64 x.ep]) rfl (wanted_none rfl) rfl Tryz.func69 (args2 (E.d 0) (E.d 2)) (WInt_Q Hx19.out HOK.out.ep (by have := HL.out; simp only [List.length_append] at this ⊢; omega)) ?_
    rintro e u12_1a ⟨rfl, qwr, hm⟩
    have zu12_1a := hm.size
    refine ⟨_, rfl, hm.mono (by intro k hk h; first | omega | exact Or.inl ⟨(by have hb := HBR.out k h; omega), Or.inl ⟨rfl, h⟩⟩), (fun _ => rfl), ?_⟩
    intro u12_1 hr
    have zu12_1 := hr.size
    have Hx20 := hid ((qwr.widen (R' := (fun k => (R k) ∨ (New u12_0 u12_1a k))) (fun _ h => h) (Nat.le_refl _)).mod hr (by intro k h1 h2; rcases h1 with h1 | h1 <;> first | omega | (have hb := HBR.out k h1; omega)))
    have Cx21 := hid (Cx18.out.goM hm hr (fun _ _ h => h))
    clear Cx18 hm hr Z act E qwr Hx19
    refine QChain.go fun Z act E => ?_
    refine qc_callF (args := #[.pointer (some ⟨g, 0, none⟩), .int .i64 x.rn]) rfl (wanted_none rfl) rfl Tryz.func69 (args2 (E.d 3) (E.d 5)) (WInt_Q Hx20.out HOK.out.rn (by have := HL.out; simp only [List.length_append] at this ⊢; omega)) ?_
    rintro e u12_2a ⟨rfl, qwr, hm⟩
    have zu12_2a := hm.size
    refine ⟨_, rfl, hm.mono (by intro k hk h; rcases h with h | h <;> first | omega | exact Or.inl ⟨(by have hb := HBR.out k h; omega), Or.inr (Or.inl ⟨rfl, h⟩)⟩), (fun _ => rfl), ?_⟩
    intro u12_2 hr
    have zu12_2 := hr.size
    have Hx22 := hid ((qwr.widen (R' := (fun k => (R k) ∨ (New u12_0 u12_1a k) ∨ (New u12_1 u12_2a k))) (by intro k h1; simp only [or_assoc] at h1 ⊢; exact h1) (Nat.le_refl _)).mod hr (by intro k h1 h2; rcases h1 with h1 | h1 | h1 <;> first | omega | (have hb := HBR.out k h1; omega)))
    have Cx23 := hid (Cx21.out.goM hm hr (by intro k h0 h2; rcases h2 with h2 | h2 <;> first | omega | exact h2))
    clear Cx21 hm hr Z act E qwr Hx20
    refine QChain.go fun Z act E => ?_
    refine qc_callF (args := #[.pointer (some ⟨g, 0, none⟩), .int .u64 (x.tm : Nat)]) rfl (wanted_none rfl) rfl Tryz.func103 (args2 (E.d 6) (E.d 8)) (WNum_Q Hx22.out HOK.out.tm (by have := HL.out; simp only [List.length_append] at this ⊢; omega)) ?_
    rintro e u12_3a ⟨rfl, qwr, hm⟩
    have zu12_3a := hm.size
    refine ⟨_, rfl, hm.mono (by intro k hk h; rcases h with h | h | h <;> first | omega | exact Or.inl ⟨(by have hb := HBR.out k h; omega), Or.inr (Or.inr (⟨rfl, h⟩))⟩), (fun _ => rfl), ?_⟩
    intro u12_3 hr
    have zu12_3 := hr.size
    have Hx24 := hid ((qwr.widen (R' := (fun k => (R k) ∨ (New u12_0 u12_1a k) ∨ (New u12_1 u12_2a k) ∨ (New u12_2 u12_3a k))) (by intro k h1; simp only [or_assoc] at h1 ⊢; exact h1) (Nat.le_refl _)).mod hr (by intro k h1 h2; rcases h1 with h1 | h1 | h1 | h1 <;> first | omega | (have hb := HBR.out k h1; omega)))
    have Cx25 := hid (Cx23.out.goM hm hr (by intro k h0 h2; rcases h2 with h2 | h2 | h2 <;> first | omega | exact h2))
    clear Cx23 hm hr Z act E qwr Hx22
    refine QChain.nil fun vs hl hzz hrows hne => ?_
    obtain ⟨Z, hYZ, hZb, hV⟩ := hzz
    have f0 := fvi hV hl 0
    have f3 := fvi hV hl 3
    have f6 := fvi hV hl 6
    have f9 := fvi hV hl 9
    rw [show vs = [gw vs 0, gw vs 1, gw vs 2, gw vs 3, gw vs 4, gw vs 5, gw vs 6, gw vs 7, gw vs 8, gw vs 9] from (gw_eta hl).trans rfl]
    have ha0 := HA0.out
    subst ha0
    clear HA0 hV hYZ hZb hsz0 hrows hne oe0 oe3
    simp only [putAll, Act.put, sIB, sCZ, sCS, f0, f3, f6, f9]
    clear hl f0 f3 f6 f9
    go_upto_region 34 with (fail)
    refine wp_region_U 120 [4] [0] (fun a0 HA0 => ?_)
    refine QSeq.pure rfl (.bool true) (fun E => ex_assign rfl rfl) ?_
    refine QSeq.nil (t' := [_]) rfl ?_
    obtain rfl := HA0.out
    clear HA0
    simp only [pz, Act.put, sIB, sCZ, sCS]
    go_wp2
    go_ret
    have hq := (Hx24.out.widen (R' := (fun k => R k ∨ New w u12_3 k)) (by intro k h1; rcases h1 with h1 | h1 | h1 | h1 <;> first | exact Or.inl h1 | (right; omega)) (Nat.le_refl _))
    (try simp only [List.append_assoc] at hq)
    exact ⟨by rw [HQ.out]; rfl, by rw [HE.out]; simpa only [List.append_assoc] using hq, (HM0.out.trans Cx25.out (fun _ _ h => h))⟩
  have K5 := Lib.hid h5
  clear h5
  go_upto_region 11 with (fail)
  refine wp_region_U 120 [32, 31] [0, 1] (fun a0 HA0 => ?_)
  have oe6 := ev HA0 6 rfl
  refine QSeq.pure rfl (.bool false) (fun E => ex_binE rfl (E.v oe6) rfl (guard_ints _ _ _ _ _ _) (run_eql_i _ _ _ Tryz.underlying3) (congrArg Value.bool (eq_ff K5.out))) ?_
  refine QSeq.pure rfl _ (fun E => ex_assign rfl (E.d 0 0)) ?_
  refine QSeq.nil (t' := [_, _]) rfl ?_
  obtain rfl := HA0.out
  clear HA0 oe6
  simp only [pz, Act.put, sIB, sCZ, sCS]
  by_cases h6 : x.kd = 6
  · have K6 := Lib.hid h6
    clear h6
    go_upto_region 13 with (fail)
    refine wp_region_U 120 [44, 43] [0, 1] (fun a0 HA0 => ?_)
    have oe6 := ev HA0 6 rfl
    refine QSeq.pure rfl (.bool true) (fun E => ex_binE rfl (E.v oe6) rfl (guard_ints _ _ _ _ _ _) (run_eql_i _ _ _ Tryz.underlying3) (congrArg Value.bool (eq_tt K6.out))) ?_
    refine QSeq.pure rfl _ (fun E => ex_assign rfl (E.d 0 0)) ?_
    refine QSeq.nil (t' := [_, _]) rfl ?_
    obtain rfl := HA0.out
    clear HA0 oe6
    simp only [pz, Act.put, sIB, sCZ, sCS]
    have HE := hid (show bodyB x = pmB x.pm by unfold bodyB; rw [K6.out]; rfl)
    rw [HE.out] at HL
    have HQ := hid (show okKd x.kd = true by rw [K6.out]; rfl)
    go_upto_region 14 with (fail)
    refine wp_region_U 120 [45, 46, 47, 48] [0, 1, 2, 3] (fun a0 HA0 => ?_)
    have oe0 := ev HA0 0 rfl
    have oe3 := ev HA0 3 rfl
    refine QSeq.pure rfl _ (fun E => ex_move rfl (E.v oe0)) ?_
    refine QSeq.pure rfl (.pointer (some ⟨w.heap.size, 157, none⟩)) (fun E => ex_field rfl Tryz.underlying61 rfl (by kernel_rfl) (E.v oe3)) ?_
    refine QSeq.pure rfl _ (fun E => ex_loadA rfl Tryz.underlying40 rfl (off := 157) (cs := (c10)) (by rw [HC10.out]; kernel_rfl) (E.d 1 0) (Cs.seg HB3.out HLN.out 10 rfl rfl)) ?_
    refine QSeq.call rfl rfl Tryz.func108 (PutPm_Q _ R2 _ _ _ x.pm _ Hx1.out (by intro k h1; have hb := HBR.out k h1; omega) Hx3.out (by intro k h1; have hb := HBT.out k h1; omega) (by intro k h1 h2; first | omega | (have hb := HBR.out k h1; omega) | (have hb := HBT.out k h2; omega) | exact HDJ.out k h1 h2 | exact HDJ.out k h2 h1 | (have hb := HBR.out k h1; have hb2 := HBT.out k h2; omega)) (by have := HL.out; simp only [List.length_append] at this ⊢; omega)) (fun E => args2 (E.d 0 2) (E.d 2 0)) ?_
    rintro e u14_3 ⟨rfl, qwr, hm⟩
    refine ⟨_, rfl, ?_⟩
    have Hx26 := hid (qwr.widen (R' := (fun k => (R k) ∨ (New w1 u14_3 k))) (fun _ h => h) (Nat.le_refl _))
    have zu14_3 := hm.size
    have Cx27 := hid (show Mod (fun k => (R k)) w1 u14_3 from hm)
    clear hm
    clear qwr Hx1
    refine QSeq.nil (t' := [_, _, _, _]) rfl ?_
    obtain rfl := HA0.out
    clear HA0 oe0 oe3
    simp only [pz, Act.put, sIB, sCZ, sCS]
    go_upto_region 34 with (fail)
    refine wp_region_U 120 [4] [0] (fun a0 HA0 => ?_)
    refine QSeq.pure rfl (.bool true) (fun E => ex_assign rfl rfl) ?_
    refine QSeq.nil (t' := [_]) rfl ?_
    obtain rfl := HA0.out
    clear HA0
    simp only [pz, Act.put, sIB, sCZ, sCS]
    go_wp2
    go_ret
    have hq := (Hx26.out.widen (R' := (fun k => R k ∨ New w u14_3 k)) (by intro k h1; rcases h1 with h1 | h1 <;> first | exact Or.inl h1 | (right; omega)) (Nat.le_refl _))
    (try simp only [List.append_assoc] at hq)
    exact ⟨by rw [HQ.out]; rfl, by rw [HE.out]; simpa only [List.append_assoc] using hq, (HM0.out.trans Cx27.out (fun _ _ h => h))⟩
  have K6 := Lib.hid h6
  clear h6
  go_upto_region 13 with (fail)
  refine wp_region_U 120 [44, 43] [0, 1] (fun a0 HA0 => ?_)
  have oe6 := ev HA0 6 rfl
  refine QSeq.pure rfl (.bool false) (fun E => ex_binE rfl (E.v oe6) rfl (guard_ints _ _ _ _ _ _) (run_eql_i _ _ _ Tryz.underlying3) (congrArg Value.bool (eq_ff K6.out))) ?_
  refine QSeq.pure rfl _ (fun E => ex_assign rfl (E.d 0 0)) ?_
  refine QSeq.nil (t' := [_, _]) rfl ?_
  obtain rfl := HA0.out
  clear HA0 oe6
  simp only [pz, Act.put, sIB, sCZ, sCS]
  by_cases h7 : x.kd = 7
  · have K7 := Lib.hid h7
    clear h7
    go_upto_region 15 with (fail)
    refine wp_region_U 120 [50, 49] [0, 1] (fun a0 HA0 => ?_)
    have oe6 := ev HA0 6 rfl
    refine QSeq.pure rfl (.bool true) (fun E => ex_binE rfl (E.v oe6) rfl (guard_ints _ _ _ _ _ _) (run_eql_i _ _ _ Tryz.underlying3) (congrArg Value.bool (eq_tt K7.out))) ?_
    refine QSeq.pure rfl _ (fun E => ex_assign rfl (E.d 0 0)) ?_
    refine QSeq.nil (t' := [_, _]) rfl ?_
    obtain rfl := HA0.out
    clear HA0 oe6
    simp only [pz, Act.put, sIB, sCZ, sCS]
    have HE := hid (show bodyB x = prB x.pr by unfold bodyB; rw [K7.out]; rfl)
    rw [HE.out] at HL
    have HQ := hid (show okKd x.kd = true by rw [K7.out]; rfl)
    go_upto_region 16 with (fail)
    refine wp_region_U 120 [51, 52, 53, 54] [0, 1, 2, 3] (fun a0 HA0 => ?_)
    have oe0 := ev HA0 0 rfl
    have oe3 := ev HA0 3 rfl
    refine QSeq.pure rfl _ (fun E => ex_move rfl (E.v oe0)) ?_
    refine QSeq.pure rfl (.pointer (some ⟨w.heap.size, 163, none⟩)) (fun E => ex_field rfl Tryz.underlying61 rfl (by kernel_rfl) (E.v oe3)) ?_
    refine QSeq.pure rfl _ (fun E => ex_loadA rfl Tryz.underlying47 rfl (off := 163) (cs := (c11)) (by rw [HC11.out]; kernel_rfl) (E.d 1 0) (Cs.seg HB3.out HLN.out 11 rfl rfl)) ?_
    refine QSeq.call rfl rfl Tryz.func109 (PutPr_Q _ R2 _ _ _ x.pr _ Hx1.out (by intro k h1; have hb := HBR.out k h1; omega) Hx4.out (by intro k h1; have hb := HBT.out k h1; omega) (by intro k h1 h2; first | omega | (have hb := HBR.out k h1; omega) | (have hb := HBT.out k h2; omega) | exact HDJ.out k h1 h2 | exact HDJ.out k h2 h1 | (have hb := HBR.out k h1; have hb2 := HBT.out k h2; omega)) (by have := HL.out; simp only [List.length_append] at this ⊢; omega)) (fun E => args2 (E.d 0 2) (E.d 2 0)) ?_
    rintro e u16_3 ⟨rfl, qwr, hm⟩
    refine ⟨_, rfl, ?_⟩
    have Hx28 := hid (qwr.widen (R' := (fun k => (R k) ∨ (New w1 u16_3 k))) (fun _ h => h) (Nat.le_refl _))
    have zu16_3 := hm.size
    have Cx29 := hid (show Mod (fun k => (R k)) w1 u16_3 from hm)
    clear hm
    clear qwr Hx1
    refine QSeq.nil (t' := [_, _, _, _]) rfl ?_
    obtain rfl := HA0.out
    clear HA0 oe0 oe3
    simp only [pz, Act.put, sIB, sCZ, sCS]
    go_upto_region 34 with (fail)
    refine wp_region_U 120 [4] [0] (fun a0 HA0 => ?_)
    refine QSeq.pure rfl (.bool true) (fun E => ex_assign rfl rfl) ?_
    refine QSeq.nil (t' := [_]) rfl ?_
    obtain rfl := HA0.out
    clear HA0
    simp only [pz, Act.put, sIB, sCZ, sCS]
    go_wp2
    go_ret
    have hq := (Hx28.out.widen (R' := (fun k => R k ∨ New w u16_3 k)) (by intro k h1; rcases h1 with h1 | h1 <;> first | exact Or.inl h1 | (right; omega)) (Nat.le_refl _))
    (try simp only [List.append_assoc] at hq)
    exact ⟨by rw [HQ.out]; rfl, by rw [HE.out]; simpa only [List.append_assoc] using hq, (HM0.out.trans Cx29.out (fun _ _ h => h))⟩
  have K7 := Lib.hid h7
  clear h7
  go_upto_region 15 with (fail)
  refine wp_region_U 120 [50, 49] [0, 1] (fun a0 HA0 => ?_)
  have oe6 := ev HA0 6 rfl
  refine QSeq.pure rfl (.bool false) (fun E => ex_binE rfl (E.v oe6) rfl (guard_ints _ _ _ _ _ _) (run_eql_i _ _ _ Tryz.underlying3) (congrArg Value.bool (eq_ff K7.out))) ?_
  refine QSeq.pure rfl _ (fun E => ex_assign rfl (E.d 0 0)) ?_
  refine QSeq.nil (t' := [_, _]) rfl ?_
  obtain rfl := HA0.out
  clear HA0 oe6
  simp only [pz, Act.put, sIB, sCZ, sCS]
  by_cases h8 : x.kd = 8
  · have K8 := Lib.hid h8
    clear h8
    go_upto_region 17 with (fail)
    refine wp_region_U 120 [56, 55] [0, 1] (fun a0 HA0 => ?_)
    have oe6 := ev HA0 6 rfl
    refine QSeq.pure rfl (.bool true) (fun E => ex_binE rfl (E.v oe6) rfl (guard_ints _ _ _ _ _ _) (run_eql_i _ _ _ Tryz.underlying3) (congrArg Value.bool (eq_tt K8.out))) ?_
    refine QSeq.pure rfl _ (fun E => ex_assign rfl (E.d 0 0)) ?_
    refine QSeq.nil (t' := [_, _]) rfl ?_
    obtain rfl := HA0.out
    clear HA0 oe6
    simp only [pz, Act.put, sIB, sCZ, sCS]
    have HE := hid (show bodyB x = vtB x.vt by unfold bodyB; rw [K8.out]; rfl)
    rw [HE.out] at HL
    have HQ := hid (show okKd x.kd = true by rw [K8.out]; rfl)
    go_upto_region 18 with (fail)
    refine wp_region_U 120 [57, 58, 59, 60] [0, 1, 2, 3] (fun a0 HA0 => ?_)
    have oe0 := ev HA0 0 rfl
    have oe3 := ev HA0 3 rfl
    refine QSeq.pure rfl _ (fun E => ex_move rfl (E.v oe0)) ?_
    refine QSeq.pure rfl (.pointer (some ⟨w.heap.size, 174, none⟩)) (fun E => ex_field rfl Tryz.underlying61 rfl (by kernel_rfl) (E.v oe3)) ?_
    refine QSeq.pure rfl _ (fun E => ex_loadA rfl Tryz.underlying49 rfl (off := 174) (cs := (x.vt.cells)) (by rw [Vt.len HOK.out.vt]; kernel_rfl) (E.d 1 0) (Cs.seg HB3.out HLN.out 12 rfl rfl)) ?_
    refine QSeq.call rfl rfl Tryz.func110 (PutVt_Q _ (fun _ => False) _ _ _ x.vt _ Hx1.out (by intro k h1; have hb := HBR.out k h1; omega) ⟨rfl, HOK.out.vt⟩ (fun _ h => h.elim) (fun _ _ h => h.elim) (by have := HL.out; simp only [List.length_append] at this ⊢; omega)) (fun E => args2 (E.d 0 2) (E.d 2 0)) ?_
    rintro e u18_3 ⟨rfl, qwr, hm⟩
    refine ⟨_, rfl, ?_⟩
    have Hx30 := hid (qwr.widen (R' := (fun k => (R k) ∨ (New w1 u18_3 k))) (fun _ h => h) (Nat.le_refl _))
    have zu18_3 := hm.size
    have Cx31 := hid (show Mod (fun k => (R k)) w1 u18_3 from hm)
    clear hm
    clear qwr Hx1
    refine QSeq.nil (t' := [_, _, _, _]) rfl ?_
    obtain rfl := HA0.out
    clear HA0 oe0 oe3
    simp only [pz, Act.put, sIB, sCZ, sCS]
    go_upto_region 34 with (fail)
    refine wp_region_U 120 [4] [0] (fun a0 HA0 => ?_)
    refine QSeq.pure rfl (.bool true) (fun E => ex_assign rfl rfl) ?_
    refine QSeq.nil (t' := [_]) rfl ?_
    obtain rfl := HA0.out
    clear HA0
    simp only [pz, Act.put, sIB, sCZ, sCS]
    go_wp2
    go_ret
    have hq := (Hx30.out.widen (R' := (fun k => R k ∨ New w u18_3 k)) (by intro k h1; rcases h1 with h1 | h1 <;> first | exact Or.inl h1 | (right; omega)) (Nat.le_refl _))
    (try simp only [List.append_assoc] at hq)
    exact ⟨by rw [HQ.out]; rfl, by rw [HE.out]; simpa only [List.append_assoc] using hq, (HM0.out.trans Cx31.out (fun _ _ h => h))⟩
  have K8 := Lib.hid h8
  clear h8
  go_upto_region 17 with (fail)
  refine wp_region_U 120 [56, 55] [0, 1] (fun a0 HA0 => ?_)
  have oe6 := ev HA0 6 rfl
  refine QSeq.pure rfl (.bool false) (fun E => ex_binE rfl (E.v oe6) rfl (guard_ints _ _ _ _ _ _) (run_eql_i _ _ _ Tryz.underlying3) (congrArg Value.bool (eq_ff K8.out))) ?_
  refine QSeq.pure rfl _ (fun E => ex_assign rfl (E.d 0 0)) ?_
  refine QSeq.nil (t' := [_, _]) rfl ?_
  obtain rfl := HA0.out
  clear HA0 oe6
  simp only [pz, Act.put, sIB, sCZ, sCS]
  by_cases h9 : x.kd = 9
  · have K9 := Lib.hid h9
    clear h9
    go_upto_region 19 with (fail)
    refine wp_region_U 120 [62, 61] [0, 1] (fun a0 HA0 => ?_)
    have oe6 := ev HA0 6 rfl
    refine QSeq.pure rfl (.bool true) (fun E => ex_binE rfl (E.v oe6) rfl (guard_ints _ _ _ _ _ _) (run_eql_i _ _ _ Tryz.underlying3) (congrArg Value.bool (eq_tt K9.out))) ?_
    refine QSeq.pure rfl _ (fun E => ex_assign rfl (E.d 0 0)) ?_
    refine QSeq.nil (t' := [_, _]) rfl ?_
    obtain rfl := HA0.out
    clear HA0 oe6
    simp only [pz, Act.put, sIB, sCZ, sCS]
    have HE := hid (show bodyB x = encI x.ix ++ enB x.en by unfold bodyB; rw [K9.out]; rfl)
    rw [HE.out] at HL
    have HQ := hid (show okKd x.kd = true by rw [K9.out]; rfl)
    go_upto_region 20 with (fail)
    refine wp_region_U 120 [63, 64, 65, 66] [0, 1, 2, 3] (fun a0 HA0 => ?_)
    have oe0 := ev HA0 0 rfl
    have oe3 := ev HA0 3 rfl
    refine QSeq.pure rfl _ (fun E => ex_move rfl (E.v oe0)) ?_
    refine QSeq.pure rfl (.pointer (some ⟨w.heap.size, 212, none⟩)) (fun E => ex_field rfl Tryz.underlying61 rfl (by kernel_rfl) (E.v oe3)) ?_
    refine QSeq.pure rfl (.int .i64 x.ix) (fun E => ex_load1 rfl Tryz.underlying3 rfl (E.d 1 0) (Cs.seg1 HB3.out HLN.out 13 rfl (o := 212) (k := 0) rfl rfl rfl)) ?_
    refine QSeq.call rfl rfl Tryz.func69 (WInt_Q Hx1.out HOK.out.ix (by have := HL.out; simp only [List.length_append] at this ⊢; omega)) (fun E => args2 (E.d 0 2) (E.d 2 0)) ?_
    rintro e u20_3 ⟨rfl, qwr, hm⟩
    refine ⟨_, rfl, ?_⟩
    have Hx32 := hid (qwr.widen (R' := (fun k => (R k) ∨ (New w1 u20_3 k))) (fun _ h => h) (Nat.le_refl _))
    have zu20_3 := hm.size
    have Cx33 := hid (show Mod (fun k => (R k)) w1 u20_3 from hm)
    clear hm
    clear qwr Hx1
    refine QSeq.nil (t' := [_, _, _, _]) rfl ?_
    obtain rfl := HA0.out
    clear HA0 oe0 oe3
    simp only [pz, Act.put, sIB, sCZ, sCS]
    go_upto_region 21 with (fail)
    refine wp_region_U 120 [67, 68, 69, 70] [0, 1, 2, 3] (fun a0 HA0 => ?_)
    have oe0 := ev HA0 0 rfl
    have oe3 := ev HA0 3 rfl
    refine QSeq.pure rfl _ (fun E => ex_move rfl (E.v oe0)) ?_
    refine QSeq.pure rfl (.pointer (some ⟨w.heap.size, 213, none⟩)) (fun E => ex_field rfl Tryz.underlying61 rfl (by kernel_rfl) (E.v oe3)) ?_
    refine QSeq.pure rfl _ (fun E => ex_loadA rfl Tryz.underlying51 rfl (off := 213) (cs := (x.en.cells)) (by rw [En.len HOK.out.en]; kernel_rfl) (E.d 1 0) (Cs.seg (HB3.out.mod Cx33.out (by intro h2; first | omega | (have hb := HBR.out _ h2; omega))) HLN.out 14 rfl rfl)) ?_
    refine QSeq.call rfl rfl Tryz.func111 (PutEn_Q _ (fun _ => False) _ _ _ x.en _ Hx32.out (by intro k h1; rcases h1 with h1 | h1 <;> first | omega | (have hb := HBR.out k h1; omega)) ⟨rfl, HOK.out.en⟩ (fun _ h => h.elim) (fun _ _ h => h.elim) (by have := HL.out; simp only [List.length_append] at this ⊢; omega)) (fun E => args2 (E.d 0 2) (E.d 2 0)) ?_
    rintro e u21_3 ⟨rfl, qwr, hm⟩
    refine ⟨_, rfl, ?_⟩
    have Hx34 := hid (qwr.widen (R' := (fun k => (R k) ∨ (New w1 u20_3 k) ∨ (New u20_3 u21_3 k))) (by intro k h1; simp only [or_assoc] at h1 ⊢; exact h1) (Nat.le_refl _))
    have zu21_3 := hm.size
    have Cx35 := hid (show Mod (fun k => (R k) ∨ (New w1 u20_3 k)) u20_3 u21_3 from hm)
    clear hm
    clear qwr Hx32
    refine QSeq.nil (t' := [_, _, _, _]) rfl ?_
    obtain rfl := HA0.out
    clear HA0 oe0 oe3
    simp only [pz, Act.put, sIB, sCZ, sCS]
    go_upto_region 34 with (fail)
    refine wp_region_U 120 [4] [0] (fun a0 HA0 => ?_)
    refine QSeq.pure rfl (.bool true) (fun E => ex_assign rfl rfl) ?_
    refine QSeq.nil (t' := [_]) rfl ?_
    obtain rfl := HA0.out
    clear HA0
    simp only [pz, Act.put, sIB, sCZ, sCS]
    go_wp2
    go_ret
    have hq := (Hx34.out.widen (R' := (fun k => R k ∨ New w u21_3 k)) (by intro k h1; rcases h1 with h1 | h1 | h1 <;> first | exact Or.inl h1 | (right; omega)) (Nat.le_refl _))
    (try simp only [List.append_assoc] at hq)
    exact ⟨by rw [HQ.out]; rfl, by rw [HE.out]; simpa only [List.append_assoc] using hq, ((HM0.out.trans Cx33.out (fun _ _ h => h)).trans Cx35.out (by intro k h1 h2; rcases h2 with h2 | h2 <;> first | exact h2 | omega | (have hb := HBR.out k h2; omega)))⟩
  have K9 := Lib.hid h9
  clear h9
  go_upto_region 19 with (fail)
  refine wp_region_U 120 [62, 61] [0, 1] (fun a0 HA0 => ?_)
  have oe6 := ev HA0 6 rfl
  refine QSeq.pure rfl (.bool false) (fun E => ex_binE rfl (E.v oe6) rfl (guard_ints _ _ _ _ _ _) (run_eql_i _ _ _ Tryz.underlying3) (congrArg Value.bool (eq_ff K9.out))) ?_
  refine QSeq.pure rfl _ (fun E => ex_assign rfl (E.d 0 0)) ?_
  refine QSeq.nil (t' := [_, _]) rfl ?_
  obtain rfl := HA0.out
  clear HA0 oe6
  simp only [pz, Act.put, sIB, sCZ, sCS]
  by_cases h10 : x.kd = 10
  · have K10 := Lib.hid h10
    clear h10
    go_upto_region 22 with (fail)
    refine wp_region_U 120 [72, 71] [0, 1] (fun a0 HA0 => ?_)
    have oe6 := ev HA0 6 rfl
    refine QSeq.pure rfl (.bool true) (fun E => ex_binE rfl (E.v oe6) rfl (guard_ints _ _ _ _ _ _) (run_eql_i _ _ _ Tryz.underlying3) (congrArg Value.bool (eq_tt K10.out))) ?_
    refine QSeq.pure rfl _ (fun E => ex_assign rfl (E.d 0 0)) ?_
    refine QSeq.nil (t' := [_, _]) rfl ?_
    obtain rfl := HA0.out
    clear HA0 oe6
    simp only [pz, Act.put, sIB, sCZ, sCS]
    have HE := hid (show bodyB x = opB x.op by unfold bodyB; rw [K10.out]; rfl)
    rw [HE.out] at HL
    have HQ := hid (show okKd x.kd = true by rw [K10.out]; rfl)
    go_upto_region 23 with (fail)
    refine wp_region_U 120 [73, 74, 75, 76] [0, 1, 2, 3] (fun a0 HA0 => ?_)
    have oe0 := ev HA0 0 rfl
    have oe3 := ev HA0 3 rfl
    refine QSeq.pure rfl _ (fun E => ex_move rfl (E.v oe0)) ?_
    refine QSeq.pure rfl (.pointer (some ⟨w.heap.size, 248, none⟩)) (fun E => ex_field rfl Tryz.underlying61 rfl (by kernel_rfl) (E.v oe3)) ?_
    refine QSeq.pure rfl _ (fun E => ex_loadA rfl Tryz.underlying54 rfl (off := 248) (cs := (c15)) (by rw [HC15.out]; kernel_rfl) (E.d 1 0) (Cs.seg HB3.out HLN.out 15 rfl rfl)) ?_
    refine QSeq.call rfl rfl Tryz.func112 (PutOp_Q _ R2 _ _ _ x.op _ Hx1.out (by intro k h1; have hb := HBR.out k h1; omega) Hx5.out (by intro k h1; have hb := HBT.out k h1; omega) (by intro k h1 h2; first | omega | (have hb := HBR.out k h1; omega) | (have hb := HBT.out k h2; omega) | exact HDJ.out k h1 h2 | exact HDJ.out k h2 h1 | (have hb := HBR.out k h1; have hb2 := HBT.out k h2; omega)) (by have := HL.out; simp only [List.length_append] at this ⊢; omega)) (fun E => args2 (E.d 0 2) (E.d 2 0)) ?_
    rintro e u23_3 ⟨rfl, qwr, hm⟩
    refine ⟨_, rfl, ?_⟩
    have Hx36 := hid (qwr.widen (R' := (fun k => (R k) ∨ (New w1 u23_3 k))) (fun _ h => h) (Nat.le_refl _))
    have zu23_3 := hm.size
    have Cx37 := hid (show Mod (fun k => (R k)) w1 u23_3 from hm)
    clear hm
    clear qwr Hx1
    refine QSeq.nil (t' := [_, _, _, _]) rfl ?_
    obtain rfl := HA0.out
    clear HA0 oe0 oe3
    simp only [pz, Act.put, sIB, sCZ, sCS]
    go_upto_region 34 with (fail)
    refine wp_region_U 120 [4] [0] (fun a0 HA0 => ?_)
    refine QSeq.pure rfl (.bool true) (fun E => ex_assign rfl rfl) ?_
    refine QSeq.nil (t' := [_]) rfl ?_
    obtain rfl := HA0.out
    clear HA0
    simp only [pz, Act.put, sIB, sCZ, sCS]
    go_wp2
    go_ret
    have hq := (Hx36.out.widen (R' := (fun k => R k ∨ New w u23_3 k)) (by intro k h1; rcases h1 with h1 | h1 <;> first | exact Or.inl h1 | (right; omega)) (Nat.le_refl _))
    (try simp only [List.append_assoc] at hq)
    exact ⟨by rw [HQ.out]; rfl, by rw [HE.out]; simpa only [List.append_assoc] using hq, (HM0.out.trans Cx37.out (fun _ _ h => h))⟩
  have K10 := Lib.hid h10
  clear h10
  go_upto_region 22 with (fail)
  refine wp_region_U 120 [72, 71] [0, 1] (fun a0 HA0 => ?_)
  have oe6 := ev HA0 6 rfl
  refine QSeq.pure rfl (.bool false) (fun E => ex_binE rfl (E.v oe6) rfl (guard_ints _ _ _ _ _ _) (run_eql_i _ _ _ Tryz.underlying3) (congrArg Value.bool (eq_ff K10.out))) ?_
  refine QSeq.pure rfl _ (fun E => ex_assign rfl (E.d 0 0)) ?_
  refine QSeq.nil (t' := [_, _]) rfl ?_
  obtain rfl := HA0.out
  clear HA0 oe6
  simp only [pz, Act.put, sIB, sCZ, sCS]
  by_cases h11 : x.kd = 11
  · have K11 := Lib.hid h11
    clear h11
    go_upto_region 24 with (fail)
    refine wp_region_U 120 [78, 77] [0, 1] (fun a0 HA0 => ?_)
    have oe6 := ev HA0 6 rfl
    refine QSeq.pure rfl (.bool true) (fun E => ex_binE rfl (E.v oe6) rfl (guard_ints _ _ _ _ _ _) (run_eql_i _ _ _ Tryz.underlying3) (congrArg Value.bool (eq_tt K11.out))) ?_
    refine QSeq.pure rfl _ (fun E => ex_assign rfl (E.d 0 0)) ?_
    refine QSeq.nil (t' := [_, _]) rfl ?_
    obtain rfl := HA0.out
    clear HA0 oe6
    simp only [pz, Act.put, sIB, sCZ, sCS]
    have HE := hid (show bodyB x = encI x.ix by unfold bodyB; rw [K11.out]; rfl)
    rw [HE.out] at HL
    have HQ := hid (show okKd x.kd = true by rw [K11.out]; rfl)
    go_upto_region 25 with (fail)
    refine wp_region_U 120 [79, 80, 81, 82] [0, 1, 2, 3] (fun a0 HA0 => ?_)
    have oe0 := ev HA0 0 rfl
    have oe3 := ev HA0 3 rfl
    refine QSeq.pure rfl _ (fun E => ex_move rfl (E.v oe0)) ?_
    refine QSeq.pure rfl (.pointer (some ⟨w.heap.size, 212, none⟩)) (fun E => ex_field rfl Tryz.underlying61 rfl (by kernel_rfl) (E.v oe3)) ?_
    refine QSeq.pure rfl (.int .i64 x.ix) (fun E => ex_load1 rfl Tryz.underlying3 rfl (E.d 1 0) (Cs.seg1 HB3.out HLN.out 13 rfl (o := 212) (k := 0) rfl rfl rfl)) ?_
    refine QSeq.call rfl rfl Tryz.func69 (WInt_Q Hx1.out HOK.out.ix (by have := HL.out; simp only [List.length_append] at this ⊢; omega)) (fun E => args2 (E.d 0 2) (E.d 2 0)) ?_
    rintro e u25_3 ⟨rfl, qwr, hm⟩
    refine ⟨_, rfl, ?_⟩
    have Hx38 := hid (qwr.widen (R' := (fun k => (R k) ∨ (New w1 u25_3 k))) (fun _ h => h) (Nat.le_refl _))
    have zu25_3 := hm.size
    have Cx39 := hid (show Mod (fun k => (R k)) w1 u25_3 from hm)
    clear hm
    clear qwr Hx1
    refine QSeq.nil (t' := [_, _, _, _]) rfl ?_
    obtain rfl := HA0.out
    clear HA0 oe0 oe3
    simp only [pz, Act.put, sIB, sCZ, sCS]
    go_upto_region 34 with (fail)
    refine wp_region_U 120 [4] [0] (fun a0 HA0 => ?_)
    refine QSeq.pure rfl (.bool true) (fun E => ex_assign rfl rfl) ?_
    refine QSeq.nil (t' := [_]) rfl ?_
    obtain rfl := HA0.out
    clear HA0
    simp only [pz, Act.put, sIB, sCZ, sCS]
    go_wp2
    go_ret
    have hq := (Hx38.out.widen (R' := (fun k => R k ∨ New w u25_3 k)) (by intro k h1; rcases h1 with h1 | h1 <;> first | exact Or.inl h1 | (right; omega)) (Nat.le_refl _))
    (try simp only [List.append_assoc] at hq)
    exact ⟨by rw [HQ.out]; rfl, by rw [HE.out]; simpa only [List.append_assoc] using hq, (HM0.out.trans Cx39.out (fun _ _ h => h))⟩
  have K11 := Lib.hid h11
  clear h11
  go_upto_region 24 with (fail)
  refine wp_region_U 120 [78, 77] [0, 1] (fun a0 HA0 => ?_)
  have oe6 := ev HA0 6 rfl
  refine QSeq.pure rfl (.bool false) (fun E => ex_binE rfl (E.v oe6) rfl (guard_ints _ _ _ _ _ _) (run_eql_i _ _ _ Tryz.underlying3) (congrArg Value.bool (eq_ff K11.out))) ?_
  refine QSeq.pure rfl _ (fun E => ex_assign rfl (E.d 0 0)) ?_
  refine QSeq.nil (t' := [_, _]) rfl ?_
  obtain rfl := HA0.out
  clear HA0 oe6
  simp only [pz, Act.put, sIB, sCZ, sCS]
  by_cases h12 : x.kd = 12
  · have K12 := Lib.hid h12
    clear h12
    go_upto_region 26 with (fail)
    refine wp_region_U 120 [84, 83] [0, 1] (fun a0 HA0 => ?_)
    have oe6 := ev HA0 6 rfl
    refine QSeq.pure rfl (.bool true) (fun E => ex_binE rfl (E.v oe6) rfl (guard_ints _ _ _ _ _ _) (run_eql_i _ _ _ Tryz.underlying3) (congrArg Value.bool (eq_tt K12.out))) ?_
    refine QSeq.pure rfl _ (fun E => ex_assign rfl (E.d 0 0)) ?_
    refine QSeq.nil (t' := [_, _]) rfl ?_
    obtain rfl := HA0.out
    clear HA0 oe6
    simp only [pz, Act.put, sIB, sCZ, sCS]
    have HE := hid (show bodyB x = dnB x.dn by unfold bodyB; rw [K12.out]; rfl)
    rw [HE.out] at HL
    have HQ := hid (show okKd x.kd = true by rw [K12.out]; rfl)
    go_upto_region 27 with (fail)
    refine wp_region_U 120 [85, 86, 87, 88] [0, 1, 2, 3] (fun a0 HA0 => ?_)
    have oe0 := ev HA0 0 rfl
    have oe3 := ev HA0 3 rfl
    refine QSeq.pure rfl _ (fun E => ex_move rfl (E.v oe0)) ?_
    refine QSeq.pure rfl (.pointer (some ⟨w.heap.size, 282, none⟩)) (fun E => ex_field rfl Tryz.underlying61 rfl (by kernel_rfl) (E.v oe3)) ?_
    refine QSeq.pure rfl _ (fun E => ex_loadA rfl Tryz.underlying56 rfl (off := 282) (cs := (x.dn.cells)) (by kernel_rfl) (E.d 1 0) (Cs.seg HB3.out HLN.out 16 rfl rfl)) ?_
    refine QSeq.call rfl rfl Tryz.func113 (PutDn_Q _ (fun _ => False) _ _ _ x.dn _ Hx1.out (by intro k h1; have hb := HBR.out k h1; omega) ⟨rfl, HOK.out.dn⟩ (fun _ h => h.elim) (fun _ _ h => h.elim) (by have := HL.out; simp only [List.length_append] at this ⊢; omega)) (fun E => args2 (E.d 0 2) (E.d 2 0)) ?_
    rintro e u27_3 ⟨rfl, qwr, hm⟩
    refine ⟨_, rfl, ?_⟩
    have Hx40 := hid (qwr.widen (R' := (fun k => (R k) ∨ (New w1 u27_3 k))) (fun _ h => h) (Nat.le_refl _))
    have zu27_3 := hm.size
    have Cx41 := hid (show Mod (fun k => (R k)) w1 u27_3 from hm)
    clear hm
    clear qwr Hx1
    refine QSeq.nil (t' := [_, _, _, _]) rfl ?_
    obtain rfl := HA0.out
    clear HA0 oe0 oe3
    simp only [pz, Act.put, sIB, sCZ, sCS]
    go_upto_region 34 with (fail)
    refine wp_region_U 120 [4] [0] (fun a0 HA0 => ?_)
    refine QSeq.pure rfl (.bool true) (fun E => ex_assign rfl rfl) ?_
    refine QSeq.nil (t' := [_]) rfl ?_
    obtain rfl := HA0.out
    clear HA0
    simp only [pz, Act.put, sIB, sCZ, sCS]
    go_wp2
    go_ret
    have hq := (Hx40.out.widen (R' := (fun k => R k ∨ New w u27_3 k)) (by intro k h1; rcases h1 with h1 | h1 <;> first | exact Or.inl h1 | (right; omega)) (Nat.le_refl _))
    (try simp only [List.append_assoc] at hq)
    exact ⟨by rw [HQ.out]; rfl, by rw [HE.out]; simpa only [List.append_assoc] using hq, (HM0.out.trans Cx41.out (fun _ _ h => h))⟩
  have K12 := Lib.hid h12
  clear h12
  go_upto_region 26 with (fail)
  refine wp_region_U 120 [84, 83] [0, 1] (fun a0 HA0 => ?_)
  have oe6 := ev HA0 6 rfl
  refine QSeq.pure rfl (.bool false) (fun E => ex_binE rfl (E.v oe6) rfl (guard_ints _ _ _ _ _ _) (run_eql_i _ _ _ Tryz.underlying3) (congrArg Value.bool (eq_ff K12.out))) ?_
  refine QSeq.pure rfl _ (fun E => ex_assign rfl (E.d 0 0)) ?_
  refine QSeq.nil (t' := [_, _]) rfl ?_
  obtain rfl := HA0.out
  clear HA0 oe6
  simp only [pz, Act.put, sIB, sCZ, sCS]
  by_cases h13 : x.kd = 13
  · have K13 := Lib.hid h13
    clear h13
    go_upto_region 28 with (fail)
    refine wp_region_U 120 [90, 89] [0, 1] (fun a0 HA0 => ?_)
    have oe6 := ev HA0 6 rfl
    refine QSeq.pure rfl (.bool true) (fun E => ex_binE rfl (E.v oe6) rfl (guard_ints _ _ _ _ _ _) (run_eql_i _ _ _ Tryz.underlying3) (congrArg Value.bool (eq_tt K13.out))) ?_
    refine QSeq.pure rfl _ (fun E => ex_assign rfl (E.d 0 0)) ?_
    refine QSeq.nil (t' := [_, _]) rfl ?_
    obtain rfl := HA0.out
    clear HA0 oe6
    simp only [pz, Act.put, sIB, sCZ, sCS]
    have HE := hid (show bodyB x = encI x.ix ++ (encN (bytesOf x.rp).length ++ bytesOf x.rp) by unfold bodyB; rw [K13.out]; rfl)
    rw [HE.out] at HL
    have HQ := hid (show okKd x.kd = true by rw [K13.out]; rfl)
    go_upto_region 29 with (fail)
    generalize ha0 : Act.mk _ _ = a0
    have oe0 : a0.eval (.tmp 0) = .pointer (some ⟨g, 0, none⟩) := by rw [← ha0]; rfl
    have oe3 : a0.eval (.tmp 3) = .pointer (some ⟨w.heap.size, 0, none⟩) := by rw [← ha0]; rfl
    have hsz0 : a0.tmps.size = 120 := by rw [← ha0]; rfl
    have HA0 := hid ha0
    clear ha0
    refine wp_region_Q1 120 hsz0 [91, 92, 93, 94, 95, 96, 97, 98] (fun k => (R k)) (fun k j => (k = 0 ∧ ((R j))) ∨ (k = 1 ∧ ((R j)))) (by intro k j h; (try dsimp only at h ⊢); rcases h with ⟨-, h⟩ | ⟨-, h⟩; (exact h); (exact h)) [qi (.pointer (some ⟨g, 0, none⟩)), qi (.pointer (some ⟨w.heap.size, 212, none⟩)), qi (.int .i64 x.ix), qi (.pointer (some ⟨g, 0, none⟩)), qi (.pointer (some ⟨w.heap.size, 286, none⟩)), qi (.string x.rp), qr w1.heap.size (fun j => R j) (fun R w v => RdR R 1000000 w v (bytesOf x.rp)), qi (.pointer (some ⟨g, 0, none⟩))] ⟨qi_stable, qi_stable, qi_stable, qi_stable, qi_stable, qi_stable, (qr_stable rdR_cells), qi_stable, trivial⟩ [3, 7] ⟨?_, ?_, ?_, ?_, ?_, ?_, ?_, ?_, trivial⟩ ?_
    · exact stq (fun E => ex_move rfl (E.v oe0))
    · exact stq (fun E => ex_field rfl Tryz.underlying61 rfl (by kernel_rfl) (E.v oe3))
    · exact stq (fun E => ex_load1 rfl Tryz.underlying3 rfl (E.d 1) (Cs.seg1 (HB3.out.mod E.m (by intro h2; rcases h2 with ⟨h0, h2⟩ | h2 <;> first | omega | (have hb := HBR.out _ h2; omega))) HLN.out 13 rfl (o := 212) (k := 0) rfl rfl rfl))
    · exact stepq_chain rfl
    · exact stq (fun E => ex_field rfl Tryz.underlying61 rfl (by kernel_rfl) (E.v oe3))
    · exact stq (fun E => ex_load1 rfl Tryz.underlying9 rfl (E.d 4) (Cs.seg1 (HB3.out.mod E.m (by intro h2; rcases h2 with ⟨h0, h2⟩ | h2 <;> first | omega | (have hb := HBR.out _ h2; omega))) HLN.out 17 rfl (o := 286) (k := 0) rfl rfl rfl))
    · refine stepq_env rfl rfl rfl fun _ _ _ _ hZ hm _ _ _ hd _ _ => ?_
      have h5 := hd ⟨5, .data⟩ (by simp) rfl _ rfl
      exact qe_strB rfl (wanted_none rfl) rfl h5 (by have := HL.out; simp only [List.length_append] at this; rw [← bytesOf_len]; omega) (by have := hm.size; omega) (fun j hj => (hZ j hj).2) (fun _ _ h => h)
    · exact stepq_chain rfl
    intro u29_0 hr
    have zu29_0 := hr.size
    have Cx42 := hid (hr.new (S := (fun k => (R k))))
    have Hx43 := hid (Hx1.out.mod hr (by intro k h1 h2; have hb := HBR.out k h1; omega))
    clear Hx1
    clear hr
    refine QChain.go fun Z act E => ?_
    refine qc_callF (args := #[.pointer (some ⟨g, 0, none⟩), .int .i64 x.ix]) rfl (wanted_none rfl) rfl Tryz.func69 (args2 (E.d 0) (E.d 2)) (WInt_Q Hx43.out HOK.out.ix (by have := HL.out; simp only [List.length_append] at this ⊢; omega)) ?_
    rintro e u29_1a ⟨rfl, qwr, hm⟩
    have zu29_1a := hm.size
    refine ⟨_, rfl, hm.mono (by intro k hk h; first | omega | exact Or.inl ⟨(by have hb := HBR.out k h; omega), Or.inl ⟨rfl, h⟩⟩), (fun _ => rfl), ?_⟩
    intro u29_1 hr
    have zu29_1 := hr.size
    have Hx44 := hid ((qwr.widen (R' := (fun k => (R k) ∨ (New u29_0 u29_1a k))) (fun _ h => h) (Nat.le_refl _)).mod hr (by intro k h1 h2; rcases h1 with h1 | h1 <;> first | omega | (have hb := HBR.out k h1; omega)))
    have Cx45 := hid (Cx42.out.goM hm hr (fun _ _ h => h))
    clear Cx42 hm hr Z act E qwr Hx43
    refine QChain.go fun Z act E => ?_
    have h6q : qr w1.heap.size (fun j => R j) (fun R w v => RdR R 1000000 w v (bytesOf x.rp)) Z ([] ++ [.pointer (some ⟨g, 0, none⟩)]) (act.eval (.tmp 97)) _ := E.d 6
    obtain ⟨R2q, hR2, hrd2⟩ := h6q
    refine qc_callF (args := #[.pointer (some ⟨g, 0, none⟩), act.eval (.tmp 97)]) rfl (wanted_none rfl) rfl Tryz.func114 (args2 (E.d 3) rfl) (WRow_Q Hx44.out hrd2 (by intro k h1 h2; have hr2 := hR2 k h1; rcases h2 with h2 | h2 <;> first | exact hr2.2.1 ⟨(by have hb := HBR.out k h2; omega), h2⟩ | exact hr2.2.2 ⟨by omega, E.YZ k (by (try dsimp only); omega)⟩) (by have := HL.out; simp only [List.length_append] at this ⊢; omega)) ?_
    rintro e u29_2a ⟨rfl, qwr, hm⟩
    have zu29_2a := hm.size
    refine ⟨_, rfl, hm.mono (by intro k hk h; rcases h with h | h <;> first | omega | exact Or.inl ⟨(by have hb := HBR.out k h; omega), Or.inr (⟨rfl, h⟩)⟩), (fun _ => rfl), ?_⟩
    intro u29_2 hr
    have zu29_2 := hr.size
    have Hx46 := hid ((qwr.widen (R' := (fun k => (R k) ∨ (New u29_0 u29_1a k) ∨ (New u29_1 u29_2a k))) (by intro k h1; simp only [or_assoc] at h1 ⊢; exact h1) (Nat.le_refl _)).mod hr (by intro k h1 h2; rcases h1 with h1 | h1 | h1 <;> first | omega | (have hb := HBR.out k h1; omega)))
    have Cx47 := hid (Cx45.out.goM hm hr (by intro k h0 h2; rcases h2 with h2 | h2 <;> first | omega | exact h2))
    clear Cx45 hm hr qwr Hx44
    refine QChain.nil fun vs hl hzz hrows hne => ?_
    obtain ⟨Z, hYZ, hZb, hV⟩ := hzz
    have f0 := fvi hV hl 0
    have f3 := fvi hV hl 3
    have f7 := fvi hV hl 7
    rw [show vs = [gw vs 0, gw vs 1, gw vs 2, gw vs 3, gw vs 4, gw vs 5, gw vs 6, gw vs 7] from (gw_eta hl).trans rfl]
    have ha0 := HA0.out
    subst ha0
    clear HA0 hV hYZ hZb hsz0 hrows hne oe0 oe3
    simp only [putAll, Act.put, sIB, sCZ, sCS, f0, f3, f7]
    clear hl f0 f3 f7
    go_upto_region 34 with (fail)
    refine wp_region_U 120 [4] [0] (fun a0 HA0 => ?_)
    refine QSeq.pure rfl (.bool true) (fun E => ex_assign rfl rfl) ?_
    refine QSeq.nil (t' := [_]) rfl ?_
    obtain rfl := HA0.out
    clear HA0
    simp only [pz, Act.put, sIB, sCZ, sCS]
    go_wp2
    go_ret
    have hq := (Hx46.out.widen (R' := (fun k => R k ∨ New w u29_2 k)) (by intro k h1; rcases h1 with h1 | h1 | h1 <;> first | exact Or.inl h1 | (right; omega)) (Nat.le_refl _))
    (try simp only [List.append_assoc] at hq)
    exact ⟨by rw [HQ.out]; rfl, by rw [HE.out]; simpa only [List.append_assoc] using hq, (HM0.out.trans Cx47.out (fun _ _ h => h))⟩
  have K13 := Lib.hid h13
  clear h13
  go_upto_region 28 with (fail)
  refine wp_region_U 120 [90, 89] [0, 1] (fun a0 HA0 => ?_)
  have oe6 := ev HA0 6 rfl
  refine QSeq.pure rfl (.bool false) (fun E => ex_binE rfl (E.v oe6) rfl (guard_ints _ _ _ _ _ _) (run_eql_i _ _ _ Tryz.underlying3) (congrArg Value.bool (eq_ff K13.out))) ?_
  refine QSeq.pure rfl _ (fun E => ex_assign rfl (E.d 0 0)) ?_
  refine QSeq.nil (t' := [_, _]) rfl ?_
  obtain rfl := HA0.out
  clear HA0 oe6
  simp only [pz, Act.put, sIB, sCZ, sCS]
  by_cases h14 : x.kd = 14
  · have K14 := Lib.hid h14
    clear h14
    go_upto_region 30 with (fail)
    refine wp_region_U 120 [100, 99] [0, 1] (fun a0 HA0 => ?_)
    have oe6 := ev HA0 6 rfl
    refine QSeq.pure rfl (.bool true) (fun E => ex_binE rfl (E.v oe6) rfl (guard_ints _ _ _ _ _ _) (run_eql_i _ _ _ Tryz.underlying3) (congrArg Value.bool (eq_tt K14.out))) ?_
    refine QSeq.pure rfl _ (fun E => ex_assign rfl (E.d 0 0)) ?_
    refine QSeq.nil (t' := [_, _]) rfl ?_
    obtain rfl := HA0.out
    clear HA0 oe6
    simp only [pz, Act.put, sIB, sCZ, sCS]
    have HE := hid (show bodyB x = encI x.dc.ep ++ encI x.dc.rn ++ baB x.dc.ba ++ listB vtB x.dc.l by unfold bodyB; rw [K14.out]; rfl)
    rw [HE.out] at HL
    have HQ := hid (show okKd x.kd = true by rw [K14.out]; rfl)
    go_upto_region 31 with (fail)
    generalize ha0 : Act.mk _ _ = a0
    have oe0 : a0.eval (.tmp 0) = .pointer (some ⟨g, 0, none⟩) := by rw [← ha0]; rfl
    have oe3 : a0.eval (.tmp 3) = .pointer (some ⟨w.heap.size, 0, none⟩) := by rw [← ha0]; rfl
    have hsz0 : a0.tmps.size = 120 := by rw [← ha0]; rfl
    have HA0 := hid ha0
    clear ha0
    refine wp_region_Q1 120 hsz0 [101, 102, 103, 104, 105, 106, 107, 108, 109] (fun k => (R k)) (fun k j => (k = 0 ∧ ((R j))) ∨ (k = 1 ∧ ((R j)))) (by intro k j h; (try dsimp only at h ⊢); rcases h with ⟨-, h⟩ | ⟨-, h⟩; (exact h); (exact h)) [qi (.pointer (some ⟨g, 0, none⟩)), qi (.pointer (some ⟨w.heap.size, 287, none⟩)), qi (.pointer (some ⟨w.heap.size, 287, none⟩)), qi (.int .i64 x.dc.ep), qi (.pointer (some ⟨g, 0, none⟩)), qi (.pointer (some ⟨w.heap.size, 287, none⟩)), qi (.pointer (some ⟨w.heap.size, 288, none⟩)), qi (.int .i64 x.dc.rn), qi (.pointer (some ⟨g, 0, none⟩))] ⟨qi_stable, qi_stable, qi_stable, qi_stable, qi_stable, qi_stable, qi_stable, qi_stable, qi_stable, trivial⟩ [4, 8] ⟨?_, ?_, ?_, ?_, ?_, ?_, ?_, ?_, ?_, trivial⟩ ?_
    · exact stq (fun E => ex_move rfl (E.v oe0))
    · exact stq (fun E => ex_field rfl Tryz.underlying61 rfl (by kernel_rfl) (E.v oe3))
    · exact stq (fun E => ex_field rfl Tryz.underlying59 rfl (by kernel_rfl) (E.d 1))
    · exact stq (fun E => ex_load1 rfl Tryz.underlying3 rfl (E.d 2) (Cs.seg1 (HB3.out.mod E.m (by intro h2; rcases h2 with ⟨h0, h2⟩ | h2 <;> first | omega | (have hb := HBR.out _ h2; omega))) HLN.out 18 rfl (o := 287) (k := 0) rfl rfl rfl))
    · exact stepq_chain rfl
    · exact stq (fun E => ex_field rfl Tryz.underlying61 rfl (by kernel_rfl) (E.v oe3))
    · exact stq (fun E => ex_field rfl Tryz.underlying59 rfl (by kernel_rfl) (E.d 5))
    · exact stq (fun E => ex_load1 rfl Tryz.underlying3 rfl (E.d 6) (Cs.seg1 (HB3.out.mod E.m (by intro h2; rcases h2 with ⟨h0, h2⟩ | h2 <;> first | omega | (have hb := HBR.out _ h2; omega))) HLN.out 18 rfl (o := 287) (k := 1) rfl rfl rfl))
    · exact stepq_chain rfl
    intro u31_0 hr
    have zu31_0 := hr.size
    have Cx48 := hid (hr.new (S := (fun k => (R k))))
    have Hx49 := hid (Hx1.out.mod hr (by intro k h1 h2; have hb := HBR.out k h1; omega))
    clear Hx1
    clear hr
    refine QChain.go fun Z act E => ?_
    refine qc_callF (args := #[.pointer (some ⟨g, 0, none⟩), .int .i64 x.dc.ep]) rfl (wanted_none rfl) rfl Tryz.func69 (args2 (E.d 0) (E.d 3)) (WInt_Q Hx49.out HOD.out.1 (by have := HL.out; simp only [List.length_append] at this ⊢; omega)) ?_
    rintro e u31_1a ⟨rfl, qwr, hm⟩
    have zu31_1a := hm.size
    refine ⟨_, rfl, hm.mono (by intro k hk h; first | omega | exact Or.inl ⟨(by have hb := HBR.out k h; omega), Or.inl ⟨rfl, h⟩⟩), (fun _ => rfl), ?_⟩
    intro u31_1 hr
    have zu31_1 := hr.size
    have Hx50 := hid ((qwr.widen (R' := (fun k => (R k) ∨ (New u31_0 u31_1a k))) (fun _ h => h) (Nat.le_refl _)).mod hr (by intro k h1 h2; rcases h1 with h1 | h1 <;> first | omega | (have hb := HBR.out k h1; omega)))
    have Cx51 := hid (Cx48.out.goM hm hr (fun _ _ h => h))
    clear Cx48 hm hr Z act E qwr Hx49
    refine QChain.go fun Z act E => ?_
    refine qc_callF (args := #[.pointer (some ⟨g, 0, none⟩), .int .i64 x.dc.rn]) rfl (wanted_none rfl) rfl Tryz.func69 (args2 (E.d 4) (E.d 7)) (WInt_Q Hx50.out HOD.out.2.1 (by have := HL.out; simp only [List.length_append] at this ⊢; omega)) ?_
    rintro e u31_2a ⟨rfl, qwr, hm⟩
    have zu31_2a := hm.size
    refine ⟨_, rfl, hm.mono (by intro k hk h; rcases h with h | h <;> first | omega | exact Or.inl ⟨(by have hb := HBR.out k h; omega), Or.inr (⟨rfl, h⟩)⟩), (fun _ => rfl), ?_⟩
    intro u31_2 hr
    have zu31_2 := hr.size
    have Hx52 := hid ((qwr.widen (R' := (fun k => (R k) ∨ (New u31_0 u31_1a k) ∨ (New u31_1 u31_2a k))) (by intro k h1; simp only [or_assoc] at h1 ⊢; exact h1) (Nat.le_refl _)).mod hr (by intro k h1 h2; rcases h1 with h1 | h1 | h1 <;> first | omega | (have hb := HBR.out k h1; omega)))
    have Cx53 := hid (Cx51.out.goM hm hr (by intro k h0 h2; rcases h2 with h2 | h2 <;> first | omega | exact h2))
    clear Cx51 hm hr Z act E qwr Hx50
    refine QChain.nil fun vs hl hzz hrows hne => ?_
    obtain ⟨Z, hYZ, hZb, hV⟩ := hzz
    have f0 := fvi hV hl 0
    have f4 := fvi hV hl 4
    have f8 := fvi hV hl 8
    rw [show vs = [gw vs 0, gw vs 1, gw vs 2, gw vs 3, gw vs 4, gw vs 5, gw vs 6, gw vs 7, gw vs 8] from (gw_eta hl).trans rfl]
    have ha0 := HA0.out
    subst ha0
    clear HA0 hV hYZ hZb hsz0 hrows hne oe0 oe3
    simp only [putAll, Act.put, sIB, sCZ, sCS, f0, f4, f8]
    clear hl f0 f4 f8
    go_upto_region 32 with (fail)
    refine wp_region_U 120 [110, 111, 112, 113, 114] [0, 1, 2, 3, 4] (fun a0 HA0 => ?_)
    have oe0 := ev HA0 0 rfl
    have oe3 := ev HA0 3 rfl
    refine QSeq.pure rfl _ (fun E => ex_move rfl (E.v oe0)) ?_
    refine QSeq.pure rfl (.pointer (some ⟨w.heap.size, 287, none⟩)) (fun E => ex_field rfl Tryz.underlying61 rfl (by kernel_rfl) (E.v oe3)) ?_
    refine QSeq.pure rfl (.pointer (some ⟨w.heap.size, 289, none⟩)) (fun E => ex_field rfl Tryz.underlying59 rfl (by kernel_rfl) (E.d 1 0)) ?_
    refine QSeq.pure rfl _ (fun E => ex_loadA rfl Tryz.underlying45 rfl (off := 289) (cs := [.int .i64 x.dc.ba.ep, .int .u64 (x.dc.ba.tm : Nat), d_ps, d_os, d_ts]) (by kernel_rfl) (E.d 2 0) (Cs.segA (HB3.out.mod Cx53.out (by intro h2; first | omega | (have hb := HBR.out _ h2; omega))) HLN.out 18 rfl (o := 287) (k := 2) rfl rfl rfl)) ?_
    refine QSeq.call rfl rfl Tryz.func115 (PutBa_Q _ R2 _ _ _ x.dc.ba _ Hx52.out (by intro k h1; rcases h1 with h1 | h1 | h1 <;> first | omega | (have hb := HBR.out k h1; omega)) ⟨_, _, _, rfl, HOD.out.2.2, (Hx6.out.mod Cx53.out (by intro k h1 h2; first | omega | (have hb := HBT.out k h1; omega) | (have hb := HBR.out k h2; omega) | exact HDJ.out k h1 h2 | exact HDJ.out k h2 h1 | (have hb := HBT.out k h1; have hb2 := HBR.out k h2; omega))), (Hx7.out.mod Cx53.out (by intro k h1 h2; first | omega | (have hb := HBT.out k h1; omega) | (have hb := HBR.out k h2; omega) | exact HDJ.out k h1 h2 | exact HDJ.out k h2 h1 | (have hb := HBT.out k h1; have hb2 := HBR.out k h2; omega))), (Hx8.out.mod Cx53.out (by intro k h1 h2; first | omega | (have hb := HBT.out k h1; omega) | (have hb := HBR.out k h2; omega) | exact HDJ.out k h1 h2 | exact HDJ.out k h2 h1 | (have hb := HBT.out k h1; have hb2 := HBR.out k h2; omega)))⟩ (by intro k h1; have hb := HBT.out k h1; omega) (by intro k h1 h2; rcases h1 with h1 | h1 | h1 <;> first | omega | (have hb := HBR.out k h1; omega) | (have hb := HBT.out k h2; omega) | exact HDJ.out k h1 h2 | exact HDJ.out k h2 h1 | (have hb := HBR.out k h1; have hb2 := HBT.out k h2; omega)) (by have := HL.out; simp only [List.length_append] at this ⊢; omega)) (fun E => args2 (E.d 0 3) (E.d 3 0)) ?_
    rintro e u32_4 ⟨rfl, qwr, hm⟩
    refine ⟨_, rfl, ?_⟩
    have Hx54 := hid (qwr.widen (R' := (fun k => (R k) ∨ (New u31_0 u31_1a k) ∨ (New u31_1 u31_2a k) ∨ (New u31_2 u32_4 k))) (by intro k h1; simp only [or_assoc] at h1 ⊢; exact h1) (Nat.le_refl _))
    have zu32_4 := hm.size
    have Cx55 := hid (show Mod (fun k => (R k) ∨ (New u31_0 u31_1a k) ∨ (New u31_1 u31_2a k)) u31_2 u32_4 from hm)
    clear hm
    clear qwr Hx52
    refine QSeq.nil (t' := [_, _, _, _, _]) rfl ?_
    obtain rfl := HA0.out
    clear HA0 oe0 oe3
    simp only [pz, Act.put, sIB, sCZ, sCS]
    go_upto_region 33 with (fail)
    refine wp_region_U 120 [115, 116, 117, 118, 119] [0, 1, 2, 3, 4] (fun a0 HA0 => ?_)
    have oe0 := ev HA0 0 rfl
    have oe3 := ev HA0 3 rfl
    refine QSeq.pure rfl _ (fun E => ex_move rfl (E.v oe0)) ?_
    refine QSeq.pure rfl (.pointer (some ⟨w.heap.size, 287, none⟩)) (fun E => ex_field rfl Tryz.underlying61 rfl (by kernel_rfl) (E.v oe3)) ?_
    refine QSeq.pure rfl (.pointer (some ⟨w.heap.size, 294, none⟩)) (fun E => ex_field rfl Tryz.underlying59 rfl (by kernel_rfl) (E.d 1 0)) ?_
    refine QSeq.pure rfl (d_l) (fun E => ex_load1 rfl Tryz.underlying57 rfl (E.d 2 0) (Cs.seg1 ((HB3.out.mod Cx53.out (by intro h2; first | omega | (have hb := HBR.out _ h2; omega))).mod Cx55.out (by intro h2; rcases h2 with h2 | h2 | h2 <;> first | omega | (have hb := HBR.out _ h2; omega))) HLN.out 18 rfl (o := 287) (k := 7) rfl rfl rfl)) ?_
    refine QSeq.call rfl rfl Tryz.func116 (PutList_Vt _ _ _ _ _ _ _ Hx54.out (by intro k h1; rcases h1 with h1 | h1 | h1 | h1 <;> first | omega | (have hb := HBR.out k h1; omega)) ((Hx9.out.mod Cx53.out (by intro k h1 h2; first | omega | (have hb := HBT.out k h1; omega) | (have hb := HBR.out k h2; omega) | exact HDJ.out k h1 h2 | exact HDJ.out k h2 h1 | (have hb := HBT.out k h1; have hb2 := HBR.out k h2; omega))).mod Cx55.out (by intro k h1 h2; rcases h2 with h2 | h2 | h2 <;> first | omega | (have hb := HBT.out k h1; omega) | (have hb := HBR.out k h2; omega) | exact HDJ.out k h1 h2 | exact HDJ.out k h2 h1 | (have hb := HBT.out k h1; have hb2 := HBR.out k h2; omega))) (by intro k h1; have hb := HBT.out k h1; omega) (by intro k h1 h2; rcases h1 with h1 | h1 | h1 | h1 <;> first | omega | (have hb := HBR.out k h1; omega) | (have hb := HBT.out k h2; omega) | exact HDJ.out k h1 h2 | exact HDJ.out k h2 h1 | (have hb := HBR.out k h1; have hb2 := HBT.out k h2; omega)) (by have := HL.out; simp only [List.length_append] at this ⊢; omega)) (fun E => args3 (E.d 0 3) (E.d 3 0) rfl) ?_
    rintro e u33_4 ⟨rfl, qwr, hm⟩
    refine ⟨_, rfl, ?_⟩
    have Hx56 := hid (qwr.widen (R' := (fun k => (R k) ∨ (New u31_0 u31_1a k) ∨ (New u31_1 u31_2a k) ∨ (New u31_2 u32_4 k) ∨ (New u32_4 u33_4 k))) (by intro k h1; simp only [or_assoc] at h1 ⊢; exact h1) (Nat.le_refl _))
    have zu33_4 := hm.size
    have Cx57 := hid (show Mod (fun k => (R k) ∨ (New u31_0 u31_1a k) ∨ (New u31_1 u31_2a k) ∨ (New u31_2 u32_4 k)) u32_4 u33_4 from hm)
    clear hm
    clear qwr Hx54
    refine QSeq.nil (t' := [_, _, _, _, _]) rfl ?_
    obtain rfl := HA0.out
    clear HA0 oe0 oe3
    simp only [pz, Act.put, sIB, sCZ, sCS]
    go_upto_region 34 with (fail)
    refine wp_region_U 120 [4] [0] (fun a0 HA0 => ?_)
    refine QSeq.pure rfl (.bool true) (fun E => ex_assign rfl rfl) ?_
    refine QSeq.nil (t' := [_]) rfl ?_
    obtain rfl := HA0.out
    clear HA0
    simp only [pz, Act.put, sIB, sCZ, sCS]
    go_wp2
    go_ret
    have hq := (Hx56.out.widen (R' := (fun k => R k ∨ New w u33_4 k)) (by intro k h1; rcases h1 with h1 | h1 | h1 | h1 | h1 <;> first | exact Or.inl h1 | (right; omega)) (Nat.le_refl _))
    (try simp only [List.append_assoc] at hq)
    exact ⟨by rw [HQ.out]; rfl, by rw [HE.out]; simpa only [List.append_assoc] using hq, (((HM0.out.trans Cx53.out (fun _ _ h => h)).trans Cx55.out (by intro k h1 h2; rcases h2 with h2 | h2 | h2 <;> first | exact h2 | omega | (have hb := HBR.out k h2; omega))).trans Cx57.out (by intro k h1 h2; rcases h2 with h2 | h2 | h2 | h2 <;> first | exact h2 | omega | (have hb := HBR.out k h2; omega)))⟩
  have K14 := Lib.hid h14
  clear h14
  go_upto_region 30 with (fail)
  refine wp_region_U 120 [100, 99] [0, 1] (fun a0 HA0 => ?_)
  have oe6 := ev HA0 6 rfl
  refine QSeq.pure rfl (.bool false) (fun E => ex_binE rfl (E.v oe6) rfl (guard_ints _ _ _ _ _ _) (run_eql_i _ _ _ Tryz.underlying3) (congrArg Value.bool (eq_ff K14.out))) ?_
  refine QSeq.pure rfl _ (fun E => ex_assign rfl (E.d 0 0)) ?_
  refine QSeq.nil (t' := [_, _]) rfl ?_
  obtain rfl := HA0.out
  clear HA0 oe6
  simp only [pz, Act.put, sIB, sCZ, sCS]
  go_upto_region 2 with (fail)
  refine wp_region_U 120 [4] [0] (fun a0 HA0 => ?_)
  refine QSeq.pure rfl (.bool false) (fun E => ex_assign rfl rfl) ?_
  refine QSeq.nil (t' := [_]) rfl ?_
  obtain rfl := HA0.out
  clear HA0
  simp only [pz, Act.put, sIB, sCZ, sCS]
  have HE := hid (show bodyB x = [] by unfold bodyB; rw [if_neg K1.out, if_neg K2.out, if_neg K3.out, if_neg K4.out, if_neg K5.out, if_neg K6.out, if_neg K7.out, if_neg K8.out, if_neg K9.out, if_neg K10.out, if_neg K11.out, if_neg K12.out, if_neg K13.out, if_neg K14.out])
  have HQ := hid (show okKd x.kd = false by unfold okKd; rw [decide_eq_false_iff_not]; have k1 := K1.out; have k2 := K2.out; have k3 := K3.out; have k4 := K4.out; have k5 := K5.out; have k6 := K6.out; have k7 := K7.out; have k8 := K8.out; have k9 := K9.out; have k10 := K10.out; have k11 := K11.out; have k12 := K12.out; have k13 := K13.out; have k14 := K14.out; omega)
  skip
  go_wp2
  go_ret
  exact ⟨by rw [HQ.out]; rfl, by rw [HE.out, List.append_nil]; exact (Hx1.out.widen (R' := (fun k => R k ∨ New w w1 k)) (fun _ h => Or.inl h) (Nat.le_refl _)), HM0.out⟩
end Go.Proofs.YtpnikilkcifncaaGreat

/- msgs.Pack. -/
namespace Go.Proofs.YtpnikilkcifncaaGreat
open Go Go.RowKit Go.Gv


theorem callsB {P : Program} {F : FuncId} {args : Array Value} {w : World} {b c : Bool} {Q : World → Prop} (h : b = c) (hc : Calls P F args w fun e w' => e = .returned (.bool b) ∧ Q w') : Calls P F args w fun e w' => e = .returned (.bool c) ∧ Q w' := h ▸ hc
set_option maxHeartbeats 4000000 in
theorem Pack_Q : ∀ (R2 : Nat → Prop) (cs : List Value) (x : Mg) (w : World), MgR.rd R2 w cs x → (∀ k, R2 k → k < w.heap.size) → (packB x).length ≤ 900000 →
    Calls Tryz.prog 18 #[.agg cs.toArray] w fun e w' => ∃ v, e = .returned (.tuple #[v, .bool (packs x)]) ∧ OwR (New w w') 900000 w' v (if packs x = true then packB x else []) ∧ Mod (fun _ => False) w w' := by
  intro R2 cs x w hx hB2 hl
  obtain ⟨RB, hRB⟩ : ∃ z, z = (if packs x = true then packB x else []) := ⟨_, rfl⟩
  rw [← hRB]
  obtain ⟨pk, hpk⟩ : ∃ z, z = packs x := ⟨_, rfl⟩
  rw [← hpk]
  have HRB := Lib.hid hRB
  have HPK := Lib.hid hpk
  clear hRB hpk
  have HRD := Lib.hid hx
  obtain ⟨c5, c10, c11, c15, c18, rfl, hok, h5, h10, h11, h15, h18⟩ := hx
  have HLN := hid (Mg.lns hok h5 h10 h11 h15 h18)
  have HCL := hid (MgR.len HRD.out)
  have HOK := Lib.hid hok
  clear hok h5 h10 h11 h15 h18
  have HBT := Lib.hid hB2
  have HL := hid (show ([] ++ encI x.kd ++ encI x.fr ++ encI x.to ++ bodyB x).length ≤ 900000 by simpa only [packB, List.nil_append, List.append_assoc] using hl)
  clear hB2 hl
  go_enter Tryz.func18, Tryz.ntmps18
  go_upto_region 1 with (fail)
  obtain ⟨w1, hw1⟩ : ∃ zz, zz = (w.alloc (.cells ((x.segs c5 c10 c11 c15 c18).flatten : List Value).toArray 61)) := ⟨_, rfl⟩
  change Code.wp _ _ _ _ (w.alloc (.cells ((x.segs c5 c10 c11 c15 c18).flatten : List Value).toArray 61))
  rw [← hw1]
  have HB1 := hid (show Cs w1 (w.heap.size) ((x.segs c5 c10 c11 c15 c18).flatten : List Value).toArray 61 by rw [hw1]; exact Cs.new _ _ _)
  have hm : Mod (fun _ => False) w w1 := by rw [hw1]; exact (Mod.refl _ _).alloc _
  have HM0 := hid (show Mod (fun _ => False) w w1 from hm.mono (fun _ _ h => h.elim))
  have hs1 : w1.heap.size = w.heap.size + 1 := by rw [hw1]; simp
  have Hx1 := hid (HRD.out.mod hm (fun _ _ h => h))
  clear HRD
  clear hw1 hm
  go_upto_region 1 with (fail)
  generalize ha0 : Act.mk _ _ = a0
  have oe1 : a0.eval (.tmp 1) = .pointer (some ⟨w.heap.size, 0, none⟩) := by rw [← ha0]; rfl
  have hsz0 : a0.tmps.size = 26 := by rw [← ha0]; rfl
  have HA0 := hid ha0
  clear ha0
  refine wp_region_Q0 26 hsz0 [6, 7, 8, 9, 10, 11, 12, 13, 14, 15, 4] [qv 0, qi (.pointer (some ⟨w.heap.size, 0, none⟩)), qi (.int .i64 x.kd), qv 1, qi (.pointer (some ⟨w.heap.size, 1, none⟩)), qi (.int .i64 x.fr), qv 2, qi (.pointer (some ⟨w.heap.size, 2, none⟩)), qi (.int .i64 x.to), qv 3, qv 3] ⟨qv_stable, qi_stable, qi_stable, qv_stable, qi_stable, qi_stable, qv_stable, qi_stable, qi_stable, qv_stable, qv_stable, trivial⟩ [0, 3, 6, 9] ⟨?_, ?_, ?_, ?_, ?_, ?_, ?_, ?_, ?_, ?_, ?_, trivial⟩ ?_
  · exact stepq_chain rfl
  · exact stq (fun E => ex_field rfl Tryz.underlying61 rfl (by kernel_rfl) (E.v oe1))
  · exact stq (fun E => ex_load1 rfl Tryz.underlying3 rfl (E.d 1) (Cs.seg1 (HB1.out.mod E.m.old (by intro h2; omega)) HLN.out 0 rfl (o := 0) (k := 0) rfl rfl rfl))
  · exact stepq_chain rfl
  · exact stq (fun E => ex_field rfl Tryz.underlying61 rfl (by kernel_rfl) (E.v oe1))
  · exact stq (fun E => ex_load1 rfl Tryz.underlying3 rfl (E.d 4) (Cs.seg1 (HB1.out.mod E.m.old (by intro h2; omega)) HLN.out 1 rfl (o := 1) (k := 0) rfl rfl rfl))
  · exact stepq_chain rfl
  · exact stq (fun E => ex_field rfl Tryz.underlying61 rfl (by kernel_rfl) (E.v oe1))
  · exact stq (fun E => ex_load1 rfl Tryz.underlying3 rfl (E.d 7) (Cs.seg1 (HB1.out.mod E.m.old (by intro h2; omega)) HLN.out 2 rfl (o := 2) (k := 0) rfl rfl rfl))
  · exact stepq_chain rfl
  · refine stepq_env rfl rfl rfl fun _ _ _ _ _ _ _ _ _ hd _ _ => ?_
    have h9 := hd ⟨9, .data⟩ (by simp) rfl _ rfl
    exact qe_run rfl (wanted_none rfl) (ex_assign rfl rfl) QE.refl h9
  intro u1_0 hr
  have zu1_0 := hr.size
  have Cx2 := hid (hr.new (S := (fun _ => False)))
  clear hr
  refine QChain.go fun Z act E => ?_
  refine qc_callF (args := #[]) rfl (wanted_none rfl) rfl Tryz.func68 args0 (NewWriter_Q _) ?_
  rintro e u1_1a ⟨g, rfl, qwr, hm⟩
  have zu1_1a := hm.size
  refine ⟨_, rfl, hm.mono (fun _ _ h => h.elim), (fun _ => rfl), ?_⟩
  intro u1_1 hr
  have zu1_1 := hr.size
  have Hx3 := hid ((qwr.widen (R' := (fun k => (New u1_0 u1_1a k))) (fun _ h => h) (Nat.le_refl _)).mod hr (by intro k h1 h2; omega))
  have Cx4 := hid (Cx2.out.go hm hr)
  clear Cx2 hm hr Z act E qwr
  refine QChain.go fun Z act E => ?_
  refine qc_callF (args := #[.pointer (some ⟨g, 0, none⟩), .int .i64 x.kd]) rfl (wanted_none rfl) rfl Tryz.func69 (args2 (chv (v := .pointer (some ⟨g, 0, none⟩)) (E.d 0)) (E.d 2)) (WInt_Q Hx3.out HOK.out.kd (by have := HL.out; simp only [List.length_append] at this ⊢; omega)) ?_
  rintro e u1_2a ⟨rfl, qwr, hm⟩
  have zu1_2a := hm.size
  refine ⟨_, rfl, hm.mono (by intro k hk h; omega), (fun _ => rfl), ?_⟩
  intro u1_2 hr
  have zu1_2 := hr.size
  have Hx5 := hid ((qwr.widen (R' := (fun k => (New u1_0 u1_1a k) ∨ (New u1_1 u1_2a k))) (fun _ h => h) (Nat.le_refl _)).mod hr (by intro k h1 h2; omega))
  have Cx6 := hid (Cx4.out.goM hm hr (by intro k h0 h2; omega))
  clear Cx4 hm hr Z act E qwr Hx3
  refine QChain.go fun Z act E => ?_
  refine qc_callF (args := #[.pointer (some ⟨g, 0, none⟩), .int .i64 x.fr]) rfl (wanted_none rfl) rfl Tryz.func69 (args2 (chv (v := .pointer (some ⟨g, 0, none⟩)) (E.d 3)) (E.d 5)) (WInt_Q Hx5.out HOK.out.fr (by have := HL.out; simp only [List.length_append] at this ⊢; omega)) ?_
  rintro e u1_3a ⟨rfl, qwr, hm⟩
  have zu1_3a := hm.size
  refine ⟨_, rfl, hm.mono (by intro k hk h; omega), (fun _ => rfl), ?_⟩
  intro u1_3 hr
  have zu1_3 := hr.size
  have Hx7 := hid ((qwr.widen (R' := (fun k => (New u1_0 u1_1a k) ∨ (New u1_1 u1_2a k) ∨ (New u1_2 u1_3a k))) (by intro k h1; omega) (Nat.le_refl _)).mod hr (by intro k h1 h2; omega))
  have Cx8 := hid (Cx6.out.goM hm hr (by intro k h0 h2; omega))
  clear Cx6 hm hr Z act E qwr Hx5
  refine QChain.go fun Z act E => ?_
  refine qc_callF (args := #[.pointer (some ⟨g, 0, none⟩), .int .i64 x.to]) rfl (wanted_none rfl) rfl Tryz.func69 (args2 (chv (v := .pointer (some ⟨g, 0, none⟩)) (E.d 6)) (E.d 8)) (WInt_Q Hx7.out HOK.out.to (by have := HL.out; simp only [List.length_append] at this ⊢; omega)) ?_
  rintro e u1_4a ⟨rfl, qwr, hm⟩
  have zu1_4a := hm.size
  refine ⟨_, rfl, hm.mono (by intro k hk h; omega), (fun _ => rfl), ?_⟩
  intro u1_4 hr
  have zu1_4 := hr.size
  have Hx9 := hid ((qwr.widen (R' := (fun k => (New u1_0 u1_1a k) ∨ (New u1_1 u1_2a k) ∨ (New u1_2 u1_3a k) ∨ (New u1_3 u1_4a k))) (by intro k h1; omega) (Nat.le_refl _)).mod hr (by intro k h1 h2; omega))
  have Cx10 := hid (Cx8.out.goM hm hr (by intro k h0 h2; omega))
  clear Cx8 hm hr Z act E qwr Hx7
  refine QChain.nil fun vs hl hzz hrows hne => ?_
  obtain ⟨Z, hYZ, hZb, hV⟩ := hzz
  have f0 := fvc hV hl 0
  have f3 := fvc hV hl 3
  have f6 := fvc hV hl 6
  have f9 := fvc hV hl 9
  have f10 := fvc hV hl 10
  rw [show vs = [gw vs 0, gw vs 1, gw vs 2, gw vs 3, gw vs 4, gw vs 5, gw vs 6, gw vs 7, gw vs 8, gw vs 9, gw vs 10] from (gw_eta hl).trans rfl]
  have ha0 := HA0.out
  subst ha0
  clear HA0 hV hYZ hZb hsz0 hrows hne oe1
  simp only [putAll, Act.put, sIB, sCZ, sCS, f0, f3, f6, f9, f10]
  clear hl f0 f3 f6 f9 f10
  by_cases hk : okKd x.kd = true
  · have HK := Lib.hid hk
    clear hk
    go_upto_region 2 with (fail)
    refine wp_region_U 26 [16, 17, 18, 19] [0, 1, 2, 3] (fun a0 HA0 => ?_)
    have oe1 := ev HA0 1 rfl
    have oe4 := ev HA0 4 rfl
    refine QSeq.pure rfl _ (fun E => ex_move rfl (E.v oe4)) ?_
    refine QSeq.pure rfl _ (fun E => ex_loadA rfl Tryz.underlying61 rfl (off := 0) (cs := ((x.segs c5 c10 c11 c15 c18).flatten)) (by rw [HCL.out]; kernel_rfl) (E.v oe1) (Cs.whole (HB1.out.mod Cx10.out (fun h => h)))) ?_
    refine QSeq.call rfl rfl Tryz.func70 (callsB HK.out (put_Q _ R2 _ _ _ x _ Hx9.out (by intro k h1; omega) (Hx1.out.mod Cx10.out (fun _ _ h => h)) (by intro k h1; have hb := HBT.out k h1; omega) (by intro k h1 h2; have hb := HBT.out k h2; omega) (by have := HL.out; simp only [List.length_append] at this ⊢; omega))) (fun E => args2 (E.d 0 1) (E.d 1 0)) ?_
    rintro e u2_2 ⟨rfl, qwr, hm⟩
    refine ⟨_, rfl, ?_⟩
    have Hx11 := hid (qwr.widen (R' := (fun k => (New u1_0 u1_1a k) ∨ (New u1_1 u1_2a k) ∨ (New u1_2 u1_3a k) ∨ (New u1_3 u1_4a k) ∨ (New u1_4 u2_2 k))) (by intro k h1; omega) (Nat.le_refl _))
    have zu2_2 := hm.size
    have Cx12 := hid (show Mod (fun k => (New u1_0 u1_1a k) ∨ (New u1_1 u1_2a k) ∨ (New u1_2 u1_3a k) ∨ (New u1_3 u1_4a k)) u1_4 u2_2 from hm)
    clear hm
    clear qwr Hx9
    refine QSeq.pure rfl (.bool false) (fun E => ex_not rfl (E.d 2 0)) ?_
    refine QSeq.nil (t' := [_, _, _, _]) rfl ?_
    obtain rfl := HA0.out
    clear HA0 oe1 oe4
    simp only [pz, Act.put, sIB, sCZ, sCS]
    go_upto_region 4 with (fail)
    refine wp_region_U 26 [20, 21, 5] [0, 1, 2] (fun a0 HA0 => ?_)
    have oe4 := ev HA0 4 rfl
    refine QSeq.pure rfl _ (fun E => ex_move rfl (E.v oe4)) ?_
    refine QSeq.call rfl rfl Tryz.func71 (WBytes_Q Hx11.out) (fun E => args1 (E.d 0 0)) ?_
    rintro e u4_1 ⟨vb, rfl, qout, hm⟩
    obtain ⟨aob, capb, rfl⟩ := qout.shape
    refine ⟨_, rfl, ?_⟩
    have Hx13 := hid qout
    have zu4_1 := hm.size
    have Cx14 := hid (show Mod (fun _ => False) u2_2 u4_1 from hm)
    clear hm
    clear qout
    refine QSeq.pure rfl _ (fun E => ex_assign rfl (E.d 1 0)) ?_
    refine QSeq.nil (t' := [_, _, _]) rfl ?_
    obtain rfl := HA0.out
    clear HA0 oe4
    simp only [pz, Act.put, sIB, sCZ, sCS]
    have HE := hid (show packB x = [] ++ encI x.kd ++ encI x.fr ++ encI x.to ++ bodyB x by simp only [packB, List.nil_append, List.append_assoc])
    by_cases hn : 65536 < ([] ++ encI x.kd ++ encI x.fr ++ encI x.to ++ bodyB x).length
    · skip
      go_upto_region 5 with (fail)
      refine wp_region_U 26 [22, 23, 24] [0, 1, 2] (fun a0 HA0 => ?_)
      have oe5 := ev HA0 5 rfl
      refine QSeq.pure rfl _ (fun E => ex_move rfl (E.v oe5)) ?_
      refine QSeq.pure rfl (.int .i64 (([] ++ encI x.kd ++ encI x.fr ++ encI x.to ++ bodyB x).length)) (fun E => ex_lenS rfl (E.d 0 0) Tryz.underlying52) ?_
      refine QSeq.pure rfl (.bool true) (fun E => ex_binE rfl (E.d 1 0) rfl (guard_ints _ _ _ _ _ _) (run_gtr_i _ _ _ Tryz.underlying3) (congrArg Value.bool (decide_eq_true (by omega)))) ?_
      refine QSeq.nil (t' := [_, _, _]) rfl ?_
      obtain rfl := HA0.out
      clear HA0 oe5
      simp only [pz, Act.put, sIB, sCZ, sCS]
      go_upto_region 6 with (fail)
      refine wp_region_U 26 [2, 3] [0, 1] (fun a0 HA0 => ?_)
      refine QSeq.pure rfl (.slice none 0 0) (fun E => ex_assign rfl rfl) ?_
      refine QSeq.pure rfl (.bool false) (fun E => ex_assign rfl rfl) ?_
      refine QSeq.nil (t' := [_, _]) rfl ?_
      obtain rfl := HA0.out
      clear HA0
      simp only [pz, Act.put, sIB, sCZ, sCS]
      have HP := hid (show packs x = false by unfold packs; rw [HE.out, HK.out, Bool.true_and, decide_eq_false_iff_not]; omega)
      go_wp2
      go_ret2
      exact ⟨.slice none 0 0, by rw [HPK.out, HP.out]; rfl, by rw [show RB = [] by rw [HRB.out, HP.out]; rfl]; exact ⟨Own.nil _ _ _ _, (fun g h => by cases h), Nat.zero_le _⟩, (((HM0.out.trans Cx10.out (fun _ _ h => h.elim)).trans Cx12.out (by intro k h1 h2; omega)).trans Cx14.out (fun _ _ h => h.elim))⟩
    go_upto_region 5 with (fail)
    refine wp_region_U 26 [22, 23, 24] [0, 1, 2] (fun a0 HA0 => ?_)
    have oe5 := ev HA0 5 rfl
    refine QSeq.pure rfl _ (fun E => ex_move rfl (E.v oe5)) ?_
    refine QSeq.pure rfl (.int .i64 (([] ++ encI x.kd ++ encI x.fr ++ encI x.to ++ bodyB x).length)) (fun E => ex_lenS rfl (E.d 0 0) Tryz.underlying52) ?_
    refine QSeq.pure rfl (.bool false) (fun E => ex_binE rfl (E.d 1 0) rfl (guard_ints _ _ _ _ _ _) (run_gtr_i _ _ _ Tryz.underlying3) (congrArg Value.bool (decide_eq_false (by omega)))) ?_
    refine QSeq.nil (t' := [_, _, _]) rfl ?_
    obtain rfl := HA0.out
    clear HA0 oe5
    simp only [pz, Act.put, sIB, sCZ, sCS]
    go_upto_region 7 with (fail)
    refine wp_region_U 26 [25, 2, 3] [0, 1, 2] (fun a0 HA0 => ?_)
    have oe5 := ev HA0 5 rfl
    refine QSeq.pure rfl _ (fun E => ex_move rfl (E.v oe5)) ?_
    refine QSeq.pure rfl _ (fun E => ex_assign rfl (E.d 0 0)) ?_
    refine QSeq.pure rfl (.bool true) (fun E => ex_assign rfl rfl) ?_
    refine QSeq.nil (t' := [_, _, _]) rfl ?_
    obtain rfl := HA0.out
    clear HA0 oe5
    simp only [pz, Act.put, sIB, sCZ, sCS]
    have HP := hid (show packs x = true by unfold packs; rw [HE.out, HK.out, Bool.true_and, decide_eq_true_eq]; omega)
    go_wp2
    go_ret2
    exact ⟨.slice aob (([] ++ encI x.kd ++ encI x.fr ++ encI x.to ++ bodyB x).length) capb, by rw [HPK.out, HP.out]; rfl, by rw [show RB = [] ++ encI x.kd ++ encI x.fr ++ encI x.to ++ bodyB x by rw [HRB.out, HP.out]; exact HE.out]; exact (Hx13.out.widen (R' := (fun k => New w u4_1 k)) (by intro k h1; omega) (Nat.le_refl _)), (((HM0.out.trans Cx10.out (fun _ _ h => h.elim)).trans Cx12.out (by intro k h1 h2; omega)).trans Cx14.out (fun _ _ h => h.elim))⟩
  have HK := hid (Bool.eq_false_iff.2 hk)
  clear hk
  go_upto_region 2 with (fail)
  refine wp_region_U 26 [16, 17, 18, 19] [0, 1, 2, 3] (fun a0 HA0 => ?_)
  have oe1 := ev HA0 1 rfl
  have oe4 := ev HA0 4 rfl
  refine QSeq.pure rfl _ (fun E => ex_move rfl (E.v oe4)) ?_
  refine QSeq.pure rfl _ (fun E => ex_loadA rfl Tryz.underlying61 rfl (off := 0) (cs := ((x.segs c5 c10 c11 c15 c18).flatten)) (by rw [HCL.out]; kernel_rfl) (E.v oe1) (Cs.whole (HB1.out.mod Cx10.out (fun h => h)))) ?_
  refine QSeq.call rfl rfl Tryz.func70 (callsB HK.out (put_Q _ R2 _ _ _ x _ Hx9.out (by intro k h1; omega) (Hx1.out.mod Cx10.out (fun _ _ h => h)) (by intro k h1; have hb := HBT.out k h1; omega) (by intro k h1 h2; have hb := HBT.out k h2; omega) (by have := HL.out; simp only [List.length_append] at this ⊢; omega))) (fun E => args2 (E.d 0 1) (E.d 1 0)) ?_
  rintro e u2_2 ⟨rfl, qwr, hm⟩
  refine ⟨_, rfl, ?_⟩
  have Hx15 := hid (qwr.widen (R' := (fun k => (New u1_0 u1_1a k) ∨ (New u1_1 u1_2a k) ∨ (New u1_2 u1_3a k) ∨ (New u1_3 u1_4a k) ∨ (New u1_4 u2_2 k))) (by intro k h1; omega) (Nat.le_refl _))
  have zu2_2 := hm.size
  have Cx16 := hid (show Mod (fun k => (New u1_0 u1_1a k) ∨ (New u1_1 u1_2a k) ∨ (New u1_2 u1_3a k) ∨ (New u1_3 u1_4a k)) u1_4 u2_2 from hm)
  clear hm
  clear qwr Hx9
  refine QSeq.pure rfl (.bool true) (fun E => ex_not rfl (E.d 2 0)) ?_
  refine QSeq.nil (t' := [_, _, _, _]) rfl ?_
  obtain rfl := HA0.out
  clear HA0 oe1 oe4
  simp only [pz, Act.put, sIB, sCZ, sCS]
  go_upto_region 3 with (fail)
  refine wp_region_U 26 [2, 3] [0, 1] (fun a0 HA0 => ?_)
  refine QSeq.pure rfl (.slice none 0 0) (fun E => ex_assign rfl rfl) ?_
  refine QSeq.pure rfl (.bool false) (fun E => ex_assign rfl rfl) ?_
  refine QSeq.nil (t' := [_, _]) rfl ?_
  obtain rfl := HA0.out
  clear HA0
  simp only [pz, Act.put, sIB, sCZ, sCS]
  have HP := hid (show packs x = false by unfold packs; rw [HK.out]; rfl)
  go_wp2
  go_ret2
  exact ⟨.slice none 0 0, by rw [HPK.out, HP.out]; rfl, by rw [show RB = [] by rw [HRB.out, HP.out]; rfl]; exact ⟨Own.nil _ _ _ _, (fun g h => by cases h), Nat.zero_le _⟩, ((HM0.out.trans Cx10.out (fun _ _ h => h.elim)).trans Cx16.out (by intro k h1 h2; omega))⟩
end Go.Proofs.YtpnikilkcifncaaGreat

/- Small parts of messages, read. -/
namespace Go.Proofs.YtpnikilkcifncaaGreat
open Go Go.RowKit Go.Gv

end Go.Proofs.YtpnikilkcifncaaGreat

/- Parts of messages, read. -/
namespace Go.Proofs.YtpnikilkcifncaaGreat
open Go Go.RowKit Go.Gv

end Go.Proofs.YtpnikilkcifncaaGreat

/- More parts of messages, read. -/
namespace Go.Proofs.YtpnikilkcifncaaGreat
open Go Go.RowKit Go.Gv

end Go.Proofs.YtpnikilkcifncaaGreat

/- msgs.get. -/
namespace Go.Proofs.YtpnikilkcifncaaGreat
open Go Go.RowKit Go.Gv


end Go.Proofs.YtpnikilkcifncaaGreat

/- What is read of a message was packed so; what was packed is read as it was, but for what its kind does not name. No walk here. -/
namespace Go.Proofs.YtpnikilkcifncaaGreat
open Go Go.RowKit Go.Gv

end Go.Proofs.YtpnikilkcifncaaGreat

/- Messages with nothing in them but their kind, whom they are from and to: packed, read back. No walk here. -/
namespace Go.Proofs.YtpnikilkcifncaaGreat
open Go Go.RowKit Go.Gv

theorem ite_len {c : Prop} [Decidable c] {a b : List Int} {n : Nat} (ha : a.length ≤ n) (hb : b.length ≤ n) : (if c then a else b).length ≤ n := by by_cases h : c <;> simp [h, ha, hb]
theorem encI_len5 (n : Int) (h : I64 n) : (encI n).length ≤ 10 := by
  unfold encI
  refine (encN_len10 ?_).2
  unfold I64 at h
  unfold U64
  omega
theorem zBody_len (k f t : Int) : (bodyB (mg0 k f t)).length ≤ 500 := by
  have e0 := encI_len5 0 (by unfold I64; decide)
  have e1 := encI_len5 (IntKind.i64.wrap (0 + 1)) (I64_wrap _)
  have n0 := (encN_len10 (n := 0) (by unfold U64; decide)).2
  have el : ∀ {α : Type} (f : α → List Int), (listB f []).length ≤ 10 := fun f => by simp only [listB, List.length_append, List.map_nil, List.flatten_nil, List.length_nil]; exact e0
  have l1 := el stB
  have l2 := el ceB
  have l3 := el pmB
  have l4 := el opB
  have l5 := el tbB
  have l6 := el vtB
  have hz : zH32.length = 32 := by simp [zH32]
  have hb : (baB zBa).length ≤ 60 := by simp only [baB, zBa, List.length_append]; omega
  have hs : (stB zSt).length ≤ 150 := by simp only [stB, zSt, nameB, sigB, List.length_append]; omega
  have hc : (cmB zCm).length ≤ 150 := by simp only [cmB, zCm, nameB, sigB, List.length_append]; omega
  have hbe : (bytesOf ByteArray.empty).length = 0 := by rw [bytesOf_len]; rfl
  unfold bodyB
  refine ite_len ?_ ?_
  · exact Nat.le_trans hc (by decide)
  refine ite_len ?_ ?_
  · exact Nat.le_trans hs (by decide)
  refine ite_len ?_ ?_
  · have : (ceB zCe).length ≤ 200 := by
      have h : (cmB zCe.c).length ≤ 150 := hc
      have h2 : (listB stB zCe.l).length ≤ 10 := l1
      simp only [ceB, List.length_append]; omega
    exact Nat.le_trans this (by decide)
  refine ite_len ?_ ?_
  · exact Nat.le_trans hs (by decide)
  refine ite_len ?_ ?_
  · show (encI 0 ++ encI 0 ++ encN 0).length ≤ 500
    simp only [List.length_append]; omega
  refine ite_len ?_ ?_
  · have : (pmB zPm).length ≤ 100 := by simp only [pmB, zPm, sigB, List.length_append]; omega
    exact Nat.le_trans this (by decide)
  refine ite_len ?_ ?_
  · have : (prB zPr).length ≤ 200 := by simp only [prB, zPr, sigB, List.length_append]; omega
    exact Nat.le_trans this (by decide)
  refine ite_len ?_ ?_
  · have : (vtB zVt).length ≤ 200 := by simp only [vtB, zVt, sigB, List.length_append]; omega
    exact Nat.le_trans this (by decide)
  refine ite_len ?_ ?_
  · have : (enB zEn).length ≤ 200 := by simp only [enB, zEn, nameB, List.length_append]; omega
    show (encI 0 ++ enB zEn).length ≤ 500
    simp only [List.length_append]; omega
  refine ite_len ?_ ?_
  · have : (opB zOp).length ≤ 200 := by simp only [opB, zOp, List.length_append, List.length_nil]; omega
    exact Nat.le_trans this (by decide)
  refine ite_len ?_ ?_
  · exact Nat.le_trans e0 (by decide)
  refine ite_len ?_ ?_
  · have : (dnB zDn).length ≤ 200 := by simp only [dnB, zDn, sigB, List.length_append]; omega
    exact Nat.le_trans this (by decide)
  refine ite_len ?_ ?_
  · show (encI 0 ++ (encN (bytesOf ByteArray.empty).length ++ bytesOf ByteArray.empty)).length ≤ 500
    rw [hbe]
    simp only [List.length_append]; omega
  refine ite_len ?_ ?_
  · have : (dcB zDc).length ≤ 200 := by simp only [dcB, zDc, List.length_append]; omega
    exact Nat.le_trans this (by decide)
  exact Nat.zero_le _
theorem packB_mg0_len {k f t : Int} (hk : I64 k) (hf : I64 f) (ht : I64 t) : (packB (mg0 k f t)).length ≤ 600 := by
  have h1 := encI_len5 k hk
  have h2 := encI_len5 f hf
  have h3 := encI_len5 t ht
  have h4 := zBody_len k f t
  show (encI k ++ encI f ++ encI t ++ bodyB (mg0 k f t)).length ≤ 600
  simp only [List.length_append]; omega
theorem packs_mg0 {k f t : Int} (h : okKd k = true) (hk : I64 k) (hf : I64 f) (ht : I64 t) : packs (mg0 k f t) = true := by
  have := packB_mg0_len hk hf ht
  unfold packs
  rw [show okKd (mg0 k f t).kd = true from h, Bool.true_and, decide_eq_true_eq]
  omega
theorem packB_head {x : Mg} (h : okKd x.kd = true) : ∃ l, packB x = x.kd :: l := by
  have hq : 1 ≤ x.kd ∧ x.kd ≤ 14 := by unfold okKd at h; simpa using h
  refine ⟨encI x.fr ++ encI x.to ++ bodyB x, ?_⟩
  unfold packB
  rw [show encI x.kd = [x.kd] by unfold encI; rw [encN_lt (by omega)]; simp; omega]
  simp
end Go.Proofs.YtpnikilkcifncaaGreat

/- gavellaw06.wakes. -/
namespace Go.Proofs.YtpnikilkcifncaaGreat
open Go Go.RowKit Go.Gv

theorem packs_110 : packs (mg0 11 0 0) = true := packs_mg0 rfl (by unfold I64; decide) I64_0 I64_0
theorem packB_pos0 {x : Mg} (h : okKd x.kd = true) : 0 < (packB x).length := by obtain ⟨l, e⟩ := packB_head h; rw [e]; simp
theorem callsP {P : Program} {F : FuncId} {args : Array Value} {w : World} {b c : Bool} {Q : Value → World → Prop} (h : b = c) (hc : Calls P F args w fun e w' => ∃ v, e = .returned (.tuple #[v, .bool b]) ∧ Q v w') : Calls P F args w fun e w' => ∃ v, e = .returned (.tuple #[v, .bool c]) ∧ Q v w' := h ▸ hc
set_option maxHeartbeats 4000000 in
theorem wakes06 (w : World) : Calls Tryz.prog 16 #[] w fun e w' => e = .returned (.bool true) ∧ Mod (fun _ => False) w w' := by
 go_enter Tryz.func16, Tryz.ntmps16
 go_upto_region 1 with (fail)
 have HM0 := hid (Mod.refl (fun _ => False) w)
 have HZO := hid (MgR.one (mg0_rd (k := 0) (f := 0) (t := 0) I64_0 I64_0 I64_0 (fun _ => False) w))
 go_upto_region 1 with (fail)
 refine wp_region_U 24 [6, 5, 7, 8, 1, 29, 2] [0, 1, 2, 3, 4, 5, 6] (fun a0 HA0 => ?_)
 refine QSeq.call rfl rfl Tryz.func12 (Unpack0_Q _) (fun E => args1 rfl) ?_
 rintro e u1_0 ⟨rfl, hm⟩
 refine ⟨_, rfl, ?_⟩
 have zu1_0 := hm.size
 have Cx1 := hid (show Mod (fun _ => False) w u1_0 from hm)
 clear hm
 refine QSeq.pure rfl _ (fun E => ex_move rfl (E.d 0 0)) ?_
 refine QSeq.pure rfl (.agg (mg0C 0 0 0).toArray) (fun E => ex_extract rfl (E.d 1 0) rfl) ?_
 refine QSeq.pure rfl (.bool false) (fun E => ex_extract rfl (E.d 1 1) rfl) ?_
 refine QSeq.go fun act E => ?_
 refine qc_alloc rfl (wanted_none rfl) rfl (z := (mg0C 0 0 0)) (by kernel_rfl) ?_
 intro u1_4 qB1 hm
 have zl1_4 := qB1.lt
 have Hx2 := hid qB1
 have zu1_4 := hm.size
 have HMu1_4 := hid hm
 have Cx3 := hid (Cx1.out.goE hm)
 clear hm Cx1
 clear act E qB1
 refine QSeq.go fun act E => ?_
 refine qc_store rfl (wanted_none rfl) rfl Hx2.out (off := 0) (vs := (mg0C 0 0 0)) (by kernel_rfl) HZO.out (by show 0 + 295 ≤ 295; decide) (E.d 4 0) (ec (E.d 2 2)) ?_
 intro u1_5 qc0 hm
 have qB1 := qc0.eqv (b := ((mg0C 0 0 0) : List Value).toArray) (lay_whole _ _ rfl)
 clear qc0
 have Hx4 := hid qB1
 have zu1_5 := hm.size
 have HMu1_5 := hid hm
 have Cx5 := hid (Mod.goS (S' := (fun _ => False)) Cx3.out hm (fun _ h => h) (by intro k h0 h2; omega))
 clear hm Cx3
 clear act E qB1 Hx2
 refine QSeq.pure rfl _ (fun E => ex_assign rfl (E.d 3 2)) ?_
 clear HMu1_4 HMu1_5
 refine QSeq.nil (t' := [_, _, _, _, _, _, _]) rfl ?_
 obtain rfl := HA0.out
 clear HA0
 simp only [pz, Act.put, sIB, sCZ, sCS, List.set_nil]
 go_upto_region 2 with (fail)
 refine wp_region_U 24 [10, 11, 9, 12, 13, 3, 4] [0, 1, 2, 3, 4, 5, 6] (fun a0 HA0 => ?_)
 refine QSeq.pure rfl (.agg ((mg0C 11 0 0) : List Value).toArray) (fun E => ex_build rfl (z := (mg0C 0 0 0)) (places := [(0, 1), (1, 1), (2, 1), (3, 37), (40, 38), (78, 38), (116, 38), (154, 1), (155, 1), (156, 1), (157, 6), (163, 11), (174, 38), (212, 1), (213, 35), (248, 34), (282, 4), (286, 1), (287, 8)]) (by kernel_rfl) (parts := [(0, .int .i64 11)]) (by simp only [List.map_toArray, List.map_cons, List.map_nil]; try rfl) (r := (mg0C 11 0 0)) (by exact (laid_segs (ns := mgN) rfl [(0, .int .i64 11)] (zMg.segs (zCe.cells zS) (zPm.cells zS) (zPr.cells zS zS zS) (zOp.cells zS) (zDc.cells zS zS zS zS)) rfl ⟨rfl, trivial⟩).trans rfl)) ?_
 refine QSeq.call rfl rfl Tryz.func18 (callsP packs_110 (Pack_Q _ _ (mg0 11 0 0) _ (mg0_rd (k := 11) (f := 0) (t := 0) (by unfold I64; decide) I64_0 I64_0 (fun _ => False) _) (fun _ h => h.elim) (Nat.le_trans (packB_mg0_len (by unfold I64; decide) I64_0 I64_0) (by decide)))) (fun E => args1 (E.d 0 0)) ?_
 rintro e u2_1 ⟨vpb, rfl, qpb, hm⟩
 rw [packs_110] at qpb
 replace qpb := (show OwR _ _ _ _ (packB (mg0 11 0 0)) from qpb)
 obtain ⟨aopb, cappb, rfl⟩ := qpb.shape
 refine ⟨_, rfl, ?_⟩
 have Hx6 := hid qpb
 have zu2_1 := hm.size
 have Cx7 := hid (show Mod (fun _ => False) u1_5 u2_1 from hm)
 clear hm
 clear qpb
 refine QSeq.pure rfl _ (fun E => ex_move rfl (E.d 1 0)) ?_
 refine QSeq.pure rfl (.slice aopb ((packB (mg0 11 0 0)).length) cappb) (fun E => ex_extract rfl (E.d 2 0) rfl) ?_
 refine QSeq.pure rfl (.bool true) (fun E => ex_extract rfl (E.d 2 1) rfl) ?_
 refine QSeq.pure rfl _ (fun E => ex_assign rfl (E.d 3 1)) ?_
 refine QSeq.pure rfl _ (fun E => ex_assign rfl (E.d 4 1)) ?_
 refine QSeq.nil (t' := [_, _, _, _, _, _, _]) rfl ?_
 obtain rfl := HA0.out
 clear HA0
 simp only [pz, Act.put, sIB, sCZ, sCS]
 have HP := hid (packB_pos0 (x := mg0 11 0 0) rfl)
 go_upto_region 3 with (fail)
 refine wp_region_U 24 [14, 15, 16, 17, 18, 19, 20, 21, 22, 23, 0] [0, 1, 2, 3, 4, 5, 6, 7, 8, 9, 10] (fun a0 HA0 => ?_)
 have oe2 := ev HA0 2 rfl
 have oe3 := ev HA0 3 rfl
 have oe4 := ev HA0 4 rfl
 refine QSeq.pure rfl _ (fun E => ex_move rfl (E.v oe2)) ?_
 refine QSeq.pure rfl (.bool true) (fun E => ex_not rfl (E.d 0 0)) ?_
 refine QSeq.pure rfl _ (fun E => ex_move rfl (E.d 1 0)) ?_
 refine QSeq.pureG rfl (.bool true) (fun E => ((wanted_of rfl rfl (E.sz 16 (by decide)) (E.d 2 0)).trans rfl)) (fun E => ex_move rfl (E.v oe4)) ?_
 refine QSeq.pure rfl (.bool true) (fun E => ex_pick rfl (E.d 2 1) (E.d 3 0) rfl) ?_
 refine QSeq.pure rfl _ (fun E => ex_move rfl (E.d 4 0)) ?_
 refine QSeq.pureG rfl (.slice aopb ((packB (mg0 11 0 0)).length) cappb) (fun E => ((wanted_of rfl rfl (E.sz 19 (by decide)) (E.d 5 0)).trans rfl)) (fun E => ex_move rfl (E.v oe3)) ?_
 refine QSeq.pureG rfl (.int .i64 ((packB (mg0 11 0 0)).length)) (fun E => ((wanted_of rfl rfl (E.sz 19 (by decide)) (E.d 5 1)).trans rfl)) (fun E => ex_lenS rfl (E.d 6 0) Tryz.underlying52) ?_
 refine QSeq.pureG rfl (.bool true) (fun E => ((wanted_of rfl rfl (E.sz 19 (by decide)) (E.d 5 2)).trans rfl)) (fun E => ex_binE rfl (E.d 7 0) rfl (guard_ints _ _ _ _ _ _) (run_gtr_i _ _ _ Tryz.underlying3) (congrArg Value.bool (decide_eq_true (show (0 : Int) < (((packB (mg0 11 0 0)).length : Nat) : Int) by have := HP.out; omega)))) ?_
 refine QSeq.pure rfl (.bool true) (fun E => ex_pick rfl (E.d 5 3) (E.d 8 0) rfl) ?_
 refine QSeq.pure rfl _ (fun E => ex_assign rfl (E.d 9 0)) ?_
 refine QSeq.nil (t' := [_, _, _, _, _, _, _, _, _, _, _]) rfl ?_
 obtain rfl := HA0.out
 clear HA0 oe2 oe3 oe4
 simp only [pz, Act.put, sIB, sCZ, sCS]
 go_wp2
 go_ret
 exact ⟨rfl, ((HM0.out.trans Cx5.out (fun _ _ h => h.elim)).trans Cx7.out (fun _ _ h => h.elim))⟩
end Go.Proofs.YtpnikilkcifncaaGreat

/- gavelkeep: comparisons of lists, certificates, promises, openings. -/
namespace Go.Proofs.YtpnikilkcifncaaGreat
open Go Go.RowKit Go.Gv

set_option maxHeartbeats 4000000 in
theorem EqL_St : EqsL StR 93 := by
 intro R R2 v v2 l m w hs ht hB hB2
 obtain ⟨ao, cap, rfl⟩ := hs.shape
 obtain ⟨bo, bcap, rfl⟩ := ht.shape
 have hlm : l.length ≤ maxLen := hs.bd
 rw [maxLen_val] at hlm
 have HS := Lib.hid hs
 have HT := Lib.hid ht
 have HBR := Lib.hid hB
 have HBT := Lib.hid hB2
 clear hs ht hB hB2
 go_enter Tryz.func93, Tryz.ntmps93
 go_upto_region 1 with (fail)
 have HM0 := hid (Mod.refl (fun _ => False) w)
 by_cases hl : l.length = m.length
 rotate_left
 ·skip
  go_upto_region 1 with (fail)
  refine wp_region_U 26 [6, 7, 8, 9, 10] [0, 1, 2, 3, 4] (fun a0 HA0 => ?_)
  have oe0 := ev HA0 0 rfl
  have oe1 := ev HA0 1 rfl
  refine QSeq.pure rfl _ (fun E => ex_move rfl (E.v oe0)) ?_
  refine QSeq.pure rfl (.int .i64 l.length) (fun E => ex_lenS rfl (E.d 0 0) Tryz.underlying33) ?_
  refine QSeq.pure rfl _ (fun E => ex_move rfl (E.v oe1)) ?_
  refine QSeq.pure rfl (.int .i64 m.length) (fun E => ex_lenS rfl (E.d 2 0) Tryz.underlying33) ?_
  refine QSeq.pure rfl (.bool true) (fun E => ex_binE rfl (E.d 1 2) (E.d 3 0) (guard_ints _ _ _ _ _ _) (run_neq_i _ _ _ Tryz.underlying3) (congrArg Value.bool (ne_tt (by omega)))) ?_
  refine QSeq.nil (t' := [_, _, _, _, _]) rfl ?_
  obtain rfl := HA0.out
  clear HA0 oe0 oe1
  simp only [pz, Act.put, sIB, sCZ, sCS]
  go_upto_region 2 with (fail)
  refine wp_region_U 26 [4] [0] (fun a0 HA0 => ?_)
  refine QSeq.pure rfl (.bool false) (fun E => ex_assign rfl rfl) ?_
  refine QSeq.nil (t' := [_]) rfl ?_
  obtain rfl := HA0.out
  clear HA0
  simp only [pz, Act.put, sIB, sCZ, sCS]
  go_wp2
  go_ret
  exact ⟨ret_bool (eqb_ne fun e => hl (by rw [e])).symm, HM0.out⟩
 ·skip
  go_upto_region 1 with (fail)
  refine wp_region_U 26 [6, 7, 8, 9, 10] [0, 1, 2, 3, 4] (fun a0 HA0 => ?_)
  have oe0 := ev HA0 0 rfl
  have oe1 := ev HA0 1 rfl
  refine QSeq.pure rfl _ (fun E => ex_move rfl (E.v oe0)) ?_
  refine QSeq.pure rfl (.int .i64 l.length) (fun E => ex_lenS rfl (E.d 0 0) Tryz.underlying33) ?_
  refine QSeq.pure rfl _ (fun E => ex_move rfl (E.v oe1)) ?_
  refine QSeq.pure rfl (.int .i64 m.length) (fun E => ex_lenS rfl (E.d 2 0) Tryz.underlying33) ?_
  refine QSeq.pure rfl (.bool false) (fun E => ex_binE rfl (E.d 1 2) (E.d 3 0) (guard_ints _ _ _ _ _ _) (run_neq_i _ _ _ Tryz.underlying3) (congrArg Value.bool (ne_ff (by omega)))) ?_
  refine QSeq.nil (t' := [_, _, _, _, _]) rfl ?_
  obtain rfl := HA0.out
  clear HA0 oe0 oe1
  simp only [pz, Act.put, sIB, sCZ, sCS]
  go_upto_region 3 with (fail)
  refine wp_region_U 26 [5] [0] (fun a0 HA0 => ?_)
  refine QSeq.pure rfl (.int .i64 0) (fun E => ex_assign rfl rfl) ?_
  refine QSeq.nil (t' := [_]) rfl ?_
  obtain rfl := HA0.out
  clear HA0
  simp only [pz, Act.put, sIB, sCZ, sCS]
  have HLE := Lib.hid hl
  clear hl
  go_wp2
  go_loopw [5] (fun ti wr => ∃ k : Nat, ti = .int .i64 (k : Int) ∧ k ≤ l.length ∧ l.take k = m.take k ∧ w.heap.size ≤ wr.heap.size ∧ RdS StR R wr (.slice ao l.length cap) l ∧ RdS StR R2 wr (.slice bo m.length bcap) m ∧ Mod (fun _ => False) w wr) (fun ti _ => l.length - (intOf ti).toNat)
  case atStart => exact ⟨0, rfl, Nat.zero_le _, rfl, Nat.le_refl _, HS.out, HT.out, HM0.out⟩
  case round =>
   obtain ⟨k, rfl, hk, htk, hz, hs, ht, hm⟩ := hrel
   obtain ⟨wl, rfl⟩ : ∃ x, x = wr := ⟨_, rfl⟩
   have HS2 := Lib.hid hs
   have HT2 := Lib.hid ht
   have HML := Lib.hid hm
   have HTK := Lib.hid htk
   clear hs ht hm htk HS HT HM0
   by_cases hlt : k < l.length
   ·have hlt2 : k < m.length := by have := HLE.out; omega
    go_upto_region 4 with (fail)
    refine wp_region_U 26 [11, 12, 13, 14] [0, 1, 2, 3] (fun a0 HA0 => ?_)
    have oe0 := ev HA0 0 rfl
    have oe5 := ev HA0 5 rfl
    refine QSeq.pure rfl _ (fun E => ex_move rfl (E.v oe5)) ?_
    refine QSeq.pure rfl _ (fun E => ex_move rfl (E.v oe0)) ?_
    refine QSeq.pure rfl (.int .i64 l.length) (fun E => ex_lenS rfl (E.d 1 0) Tryz.underlying33) ?_
    refine QSeq.pure rfl (.bool true) (fun E => ex_binE rfl (E.d 0 2) (E.d 2 0) (guard_ints _ _ _ _ _ _) (run_lss_i _ _ _ Tryz.underlying3) (congrArg Value.bool (decide_eq_true (by omega)))) ?_
    refine QSeq.nil (t' := [_, _, _, _]) rfl ?_
    obtain rfl := HA0.out
    clear HA0 oe0 oe5
    simp only [pz, Act.put, sIB, sCZ, sCS]
    have hat := HS2.out.at hlt
    obtain ⟨g1, o1, c1, eao, hrg, hrd, hcs⟩ := hat
    subst eao
    obtain ⟨x, hx⟩ : ∃ z, z = l[k] := ⟨_, rfl⟩
    rw [← hx] at hrd
    have HX1 := Lib.hid hx
    have hcl : c1.length = 38 := StR.len hrd
    have HCL1 := Lib.hid hcl
    have HAT1 := hid (show CellsAt R wl g1 (o1 + k * 38) c1 from ⟨hrg, hcs⟩)
    have HRD1 := Lib.hid hrd
    clear hcl hcs hrd hrg hx
    have hat := HT2.out.at hlt2
    obtain ⟨g2, o2, c2, eao, hrg, hrd, hcs⟩ := hat
    subst eao
    obtain ⟨y, hy⟩ : ∃ z, z = m[k] := ⟨_, rfl⟩
    rw [← hy] at hrd
    have HX2 := Lib.hid hy
    have hcl : c2.length = 38 := StR.len hrd
    have HCL2 := Lib.hid hcl
    have HAT2 := hid (show CellsAt R2 wl g2 (o2 + k * 38) c2 from ⟨hrg, hcs⟩)
    have HRD2 := Lib.hid hrd
    clear hcl hcs hrd hrg hy
    obtain ⟨b, hb⟩ : ∃ b, b = eqb x y := ⟨_, rfl⟩
    have HB := Lib.hid hb
    clear hb
    obtain ⟨rfl, hok1⟩ := HRD1.out
    obtain ⟨rfl, hok2⟩ := HRD2.out
    have HO1 := Lib.hid hok1
    have HO2 := Lib.hid hok2
    clear hok1 hok2
    clear HRD1
    clear HRD2
    go_upto_region 6 with (fail)
    generalize ha0 : Act.mk _ _ = a0
    have oe0 : a0.eval (.tmp 0) = .slice (some ⟨g1, o1, none⟩) l.length cap := by rw [← ha0]; rfl
    have oe1 : a0.eval (.tmp 1) = .slice (some ⟨g2, o2, none⟩) m.length bcap := by rw [← ha0]; rfl
    have oe5 : a0.eval (.tmp 5) = .int .i64 ((k : Nat) : Int) := by rw [← ha0]; rfl
    have hsz0 : a0.tmps.size = 26 := by rw [← ha0]; rfl
    have HA0 := hid ha0
    clear ha0
    refine wp_region_Q0 26 hsz0 [17, 18, 19, 20, 21, 22, 23, 24, 25] [qi (.slice (some ⟨g1, o1, none⟩) l.length cap), qi (.int .i64 ((k : Nat) : Int)), qi (.pointer (some ⟨g1, o1 + k * 38, none⟩)), qi (.agg x.cells.toArray), qi (.slice (some ⟨g2, o2, none⟩) m.length bcap), qi (.int .i64 ((k : Nat) : Int)), qi (.pointer (some ⟨g2, o2 + k * 38, none⟩)), qi (.agg y.cells.toArray), qi (.bool (!b))] ⟨qi_stable, qi_stable, qi_stable, qi_stable, qi_stable, qi_stable, qi_stable, qi_stable, qi_stable, trivial⟩ [] ⟨?_, ?_, ?_, ?_, ?_, ?_, ?_, ?_, ?_, trivial⟩ ?_
    ·exact stq (fun E => ex_move rfl (E.v oe0))
    ·exact stq (fun E => ex_move rfl (E.v oe5))
    ·exact stq (fun E => ex_idxS (i := k) (s := 38) rfl Tryz.underlying33 (by kernel_rfl) (E.d 0) (E.d 1) (by first | exact hlt | exact hlt2))
    ·exact stq (fun E => ex_loadA rfl Tryz.underlying32 rfl (off := o1 + k * 38) (cs := x.cells) (by rw [HCL1.out]; kernel_rfl) (E.d 2) (fun j u hu => ((HAT1.out.mod E.m.old (by intro k h1 h2; have hb := HBR.out k h1; omega))).2 j u hu))
    ·exact stq (fun E => ex_move rfl (E.v oe1))
    ·exact stq (fun E => ex_move rfl (E.v oe5))
    ·exact stq (fun E => ex_idxS (i := k) (s := 38) rfl Tryz.underlying33 (by kernel_rfl) (E.d 4) (E.d 5) (by first | exact hlt | exact hlt2))
    ·exact stq (fun E => ex_loadA rfl Tryz.underlying32 rfl (off := o2 + k * 38) (cs := y.cells) (by rw [HCL2.out]; kernel_rfl) (E.d 6) (fun j u hu => ((HAT2.out.mod E.m.old (by intro k h1 h2; have hb := HBT.out k h1; omega))).2 j u hu))
    ·exact stq (fun E => ex_binE rfl (E.d 3) (E.d 7) (agg_guardE _ _ _ _ _ _ (by kernel_rfl) _) (EqW.runN eqW_stamp (ki_st HO1.out) (ki_st HO2.out) (st_iff HO1.out HO2.out) _) (congrArg (fun z => Value.bool (!z)) HB.out.symm))
    intro u6_0 hr
    have zu6_0 := hr.size
    have Cx1 := hid (hr.new (S := (fun _ => False)))
    clear hr
    refine QChain.nil fun vs hl hzz hrows hne => ?_
    obtain ⟨Z, hYZ, hZb, hV⟩ := hzz
    have f0 := fvi hV hl 0
    have f1 := fvi hV hl 1
    have f4 := fvi hV hl 4
    have f5 := fvi hV hl 5
    have f8 := fvi hV hl 8
    rw [show vs = [gw vs 0, gw vs 1, gw vs 2, gw vs 3, gw vs 4, gw vs 5, gw vs 6, gw vs 7, gw vs 8] from (gw_eta hl).trans rfl]
    have ha0 := HA0.out
    subst ha0
    clear HA0 hV hYZ hZb hsz0 hrows hne oe0 oe1 oe5
    simp only [putAll, Act.put, sIB, sCZ, sCS, f0, f1, f4, f5, f8]
    clear hl f0 f1 f4 f5 f8
    cases b with
    | false =>
     go_upto_region 7 with (fail)
     refine wp_region_U 26 [4] [0] (fun a0 HA0 => ?_)
     refine QSeq.pure rfl (.bool false) (fun E => ex_assign rfl rfl) ?_
     refine QSeq.nil (t' := [_]) rfl ?_
     obtain rfl := HA0.out
     clear HA0
     simp only [pz, Act.put, sIB, sCZ, sCS]
     go_wp2
     go_ret
     exact ⟨ret_bool (take_ne hlt hlt2 (fun e => by have h := HB.out; rw [HX1.out, HX2.out, e, eqb_rfl] at h; cases h)).symm, (HML.out.trans Cx1.out (fun _ _ h => h.elim))⟩
    | true =>
     go_upto_region 5 with (fail)
     refine wp_region_U 26 [15, 16, 5] [0, 1, 2] (fun a0 HA0 => ?_)
     have oe5 := ev HA0 5 rfl
     refine QSeq.pure rfl _ (fun E => ex_move rfl (E.y 2 oe5)) ?_
     refine QSeq.pure rfl (.int .i64 (((k : Nat) : Int) + 1)) (fun E => ex_binE rfl (E.d 0 0) rfl (guard_ints _ _ _ _ _ _) (run_add_i _ _ Tryz.underlying3) (congrArg (Value.int .i64) (IntWalk.i64_in _ (by omega)))) ?_
     refine QSeq.pure rfl _ (fun E => ex_assign rfl (E.d 1 0)) ?_
     refine QSeq.nil (t' := [_, _, _]) rfl ?_
     obtain rfl := HA0.out
     clear HA0 oe5
     simp only [pz, Act.put, sIB, sCZ, sCS]
     go_wp2
     go_roundw
     case rel => exact ⟨k + 1, by go_num, by omega, take_succ2 hlt hlt2 HTK.out (by have h := eqb_iff.1 HB.out.symm; rw [HX1.out, HX2.out] at h; exact h), by omega, (HS2.out.mod Cx1.out (fun _ _ h => h)), (HT2.out.mod Cx1.out (fun _ _ h => h)), (HML.out.trans Cx1.out (fun _ _ h => h.elim))⟩
     case measure => simp [intOf] <;> omega
   ·skip
    go_upto_region 4 with (fail)
    refine wp_region_U 26 [11, 12, 13, 14] [0, 1, 2, 3] (fun a0 HA0 => ?_)
    have oe0 := ev HA0 0 rfl
    have oe5 := ev HA0 5 rfl
    refine QSeq.pure rfl _ (fun E => ex_move rfl (E.v oe5)) ?_
    refine QSeq.pure rfl _ (fun E => ex_move rfl (E.v oe0)) ?_
    refine QSeq.pure rfl (.int .i64 l.length) (fun E => ex_lenS rfl (E.d 1 0) Tryz.underlying33) ?_
    refine QSeq.pure rfl (.bool false) (fun E => ex_binE rfl (E.d 0 2) (E.d 2 0) (guard_ints _ _ _ _ _ _) (run_lss_i _ _ _ Tryz.underlying3) (congrArg Value.bool (decide_eq_false (by omega)))) ?_
    refine QSeq.nil (t' := [_, _, _, _]) rfl ?_
    obtain rfl := HA0.out
    clear HA0 oe0 oe5
    simp only [pz, Act.put, sIB, sCZ, sCS]
    go_upto_region 8 with (fail)
    refine wp_region_U 26 [4] [0] (fun a0 HA0 => ?_)
    refine QSeq.pure rfl (.bool true) (fun E => ex_assign rfl rfl) ?_
    refine QSeq.nil (t' := [_]) rfl ?_
    obtain rfl := HA0.out
    clear HA0
    simp only [pz, Act.put, sIB, sCZ, sCS]
    go_wp2
    go_ret
    exact ⟨ret_bool (take_all (by omega) (by have := HLE.out; omega) HTK.out).symm, HML.out⟩
set_option maxHeartbeats 4000000 in
theorem EqL_Dn : EqsL DnR 129 := by
 intro R R2 v v2 l m w hs ht hB hB2
 obtain ⟨ao, cap, rfl⟩ := hs.shape
 obtain ⟨bo, bcap, rfl⟩ := ht.shape
 have hlm : l.length ≤ maxLen := hs.bd
 rw [maxLen_val] at hlm
 have HS := Lib.hid hs
 have HT := Lib.hid ht
 have HBR := Lib.hid hB
 have HBT := Lib.hid hB2
 clear hs ht hB hB2
 go_enter Tryz.func129, Tryz.ntmps129
 go_upto_region 1 with (fail)
 have HM0 := hid (Mod.refl (fun _ => False) w)
 by_cases hl : l.length = m.length
 rotate_left
 ·skip
  go_upto_region 1 with (fail)
  refine wp_region_U 26 [6, 7, 8, 9, 10] [0, 1, 2, 3, 4] (fun a0 HA0 => ?_)
  have oe0 := ev HA0 0 rfl
  have oe1 := ev HA0 1 rfl
  refine QSeq.pure rfl _ (fun E => ex_move rfl (E.v oe0)) ?_
  refine QSeq.pure rfl (.int .i64 l.length) (fun E => ex_lenS rfl (E.d 0 0) Tryz.underlying126) ?_
  refine QSeq.pure rfl _ (fun E => ex_move rfl (E.v oe1)) ?_
  refine QSeq.pure rfl (.int .i64 m.length) (fun E => ex_lenS rfl (E.d 2 0) Tryz.underlying126) ?_
  refine QSeq.pure rfl (.bool true) (fun E => ex_binE rfl (E.d 1 2) (E.d 3 0) (guard_ints _ _ _ _ _ _) (run_neq_i _ _ _ Tryz.underlying3) (congrArg Value.bool (ne_tt (by omega)))) ?_
  refine QSeq.nil (t' := [_, _, _, _, _]) rfl ?_
  obtain rfl := HA0.out
  clear HA0 oe0 oe1
  simp only [pz, Act.put, sIB, sCZ, sCS]
  go_upto_region 2 with (fail)
  refine wp_region_U 26 [4] [0] (fun a0 HA0 => ?_)
  refine QSeq.pure rfl (.bool false) (fun E => ex_assign rfl rfl) ?_
  refine QSeq.nil (t' := [_]) rfl ?_
  obtain rfl := HA0.out
  clear HA0
  simp only [pz, Act.put, sIB, sCZ, sCS]
  go_wp2
  go_ret
  exact ⟨ret_bool (eqb_ne fun e => hl (by rw [e])).symm, HM0.out⟩
 ·skip
  go_upto_region 1 with (fail)
  refine wp_region_U 26 [6, 7, 8, 9, 10] [0, 1, 2, 3, 4] (fun a0 HA0 => ?_)
  have oe0 := ev HA0 0 rfl
  have oe1 := ev HA0 1 rfl
  refine QSeq.pure rfl _ (fun E => ex_move rfl (E.v oe0)) ?_
  refine QSeq.pure rfl (.int .i64 l.length) (fun E => ex_lenS rfl (E.d 0 0) Tryz.underlying126) ?_
  refine QSeq.pure rfl _ (fun E => ex_move rfl (E.v oe1)) ?_
  refine QSeq.pure rfl (.int .i64 m.length) (fun E => ex_lenS rfl (E.d 2 0) Tryz.underlying126) ?_
  refine QSeq.pure rfl (.bool false) (fun E => ex_binE rfl (E.d 1 2) (E.d 3 0) (guard_ints _ _ _ _ _ _) (run_neq_i _ _ _ Tryz.underlying3) (congrArg Value.bool (ne_ff (by omega)))) ?_
  refine QSeq.nil (t' := [_, _, _, _, _]) rfl ?_
  obtain rfl := HA0.out
  clear HA0 oe0 oe1
  simp only [pz, Act.put, sIB, sCZ, sCS]
  go_upto_region 3 with (fail)
  refine wp_region_U 26 [5] [0] (fun a0 HA0 => ?_)
  refine QSeq.pure rfl (.int .i64 0) (fun E => ex_assign rfl rfl) ?_
  refine QSeq.nil (t' := [_]) rfl ?_
  obtain rfl := HA0.out
  clear HA0
  simp only [pz, Act.put, sIB, sCZ, sCS]
  have HLE := Lib.hid hl
  clear hl
  go_wp2
  go_loopw [5] (fun ti wr => ∃ k : Nat, ti = .int .i64 (k : Int) ∧ k ≤ l.length ∧ l.take k = m.take k ∧ w.heap.size ≤ wr.heap.size ∧ RdS DnR R wr (.slice ao l.length cap) l ∧ RdS DnR R2 wr (.slice bo m.length bcap) m ∧ Mod (fun _ => False) w wr) (fun ti _ => l.length - (intOf ti).toNat)
  case atStart => exact ⟨0, rfl, Nat.zero_le _, rfl, Nat.le_refl _, HS.out, HT.out, HM0.out⟩
  case round =>
   obtain ⟨k, rfl, hk, htk, hz, hs, ht, hm⟩ := hrel
   obtain ⟨wl, rfl⟩ : ∃ x, x = wr := ⟨_, rfl⟩
   have HS2 := Lib.hid hs
   have HT2 := Lib.hid ht
   have HML := Lib.hid hm
   have HTK := Lib.hid htk
   clear hs ht hm htk HS HT HM0
   by_cases hlt : k < l.length
   ·have hlt2 : k < m.length := by have := HLE.out; omega
    go_upto_region 4 with (fail)
    refine wp_region_U 26 [11, 12, 13, 14] [0, 1, 2, 3] (fun a0 HA0 => ?_)
    have oe0 := ev HA0 0 rfl
    have oe5 := ev HA0 5 rfl
    refine QSeq.pure rfl _ (fun E => ex_move rfl (E.v oe5)) ?_
    refine QSeq.pure rfl _ (fun E => ex_move rfl (E.v oe0)) ?_
    refine QSeq.pure rfl (.int .i64 l.length) (fun E => ex_lenS rfl (E.d 1 0) Tryz.underlying126) ?_
    refine QSeq.pure rfl (.bool true) (fun E => ex_binE rfl (E.d 0 2) (E.d 2 0) (guard_ints _ _ _ _ _ _) (run_lss_i _ _ _ Tryz.underlying3) (congrArg Value.bool (decide_eq_true (by omega)))) ?_
    refine QSeq.nil (t' := [_, _, _, _]) rfl ?_
    obtain rfl := HA0.out
    clear HA0 oe0 oe5
    simp only [pz, Act.put, sIB, sCZ, sCS]
    have hat := HS2.out.at hlt
    obtain ⟨g1, o1, c1, eao, hrg, hrd, hcs⟩ := hat
    subst eao
    obtain ⟨x, hx⟩ : ∃ z, z = l[k] := ⟨_, rfl⟩
    rw [← hx] at hrd
    have HX1 := Lib.hid hx
    have hcl : c1.length = 4 := DnR.len hrd
    have HCL1 := Lib.hid hcl
    have HAT1 := hid (show CellsAt R wl g1 (o1 + k * 4) c1 from ⟨hrg, hcs⟩)
    have HRD1 := Lib.hid hrd
    clear hcl hcs hrd hrg hx
    have hat := HT2.out.at hlt2
    obtain ⟨g2, o2, c2, eao, hrg, hrd, hcs⟩ := hat
    subst eao
    obtain ⟨y, hy⟩ : ∃ z, z = m[k] := ⟨_, rfl⟩
    rw [← hy] at hrd
    have HX2 := Lib.hid hy
    have hcl : c2.length = 4 := DnR.len hrd
    have HCL2 := Lib.hid hcl
    have HAT2 := hid (show CellsAt R2 wl g2 (o2 + k * 4) c2 from ⟨hrg, hcs⟩)
    have HRD2 := Lib.hid hrd
    clear hcl hcs hrd hrg hy
    obtain ⟨b, hb⟩ : ∃ b, b = eqb x y := ⟨_, rfl⟩
    have HB := Lib.hid hb
    clear hb
    obtain ⟨rfl, hok1⟩ := HRD1.out
    obtain ⟨rfl, hok2⟩ := HRD2.out
    have HO1 := Lib.hid hok1
    have HO2 := Lib.hid hok2
    clear hok1 hok2
    clear HRD1
    clear HRD2
    go_upto_region 6 with (fail)
    generalize ha0 : Act.mk _ _ = a0
    have oe0 : a0.eval (.tmp 0) = .slice (some ⟨g1, o1, none⟩) l.length cap := by rw [← ha0]; rfl
    have oe1 : a0.eval (.tmp 1) = .slice (some ⟨g2, o2, none⟩) m.length bcap := by rw [← ha0]; rfl
    have oe5 : a0.eval (.tmp 5) = .int .i64 ((k : Nat) : Int) := by rw [← ha0]; rfl
    have hsz0 : a0.tmps.size = 26 := by rw [← ha0]; rfl
    have HA0 := hid ha0
    clear ha0
    refine wp_region_Q0 26 hsz0 [17, 18, 19, 20, 21, 22, 23, 24, 25] [qi (.slice (some ⟨g1, o1, none⟩) l.length cap), qi (.int .i64 ((k : Nat) : Int)), qi (.pointer (some ⟨g1, o1 + k * 4, none⟩)), qi (.agg x.cells.toArray), qi (.slice (some ⟨g2, o2, none⟩) m.length bcap), qi (.int .i64 ((k : Nat) : Int)), qi (.pointer (some ⟨g2, o2 + k * 4, none⟩)), qi (.agg y.cells.toArray), qi (.bool (!b))] ⟨qi_stable, qi_stable, qi_stable, qi_stable, qi_stable, qi_stable, qi_stable, qi_stable, qi_stable, trivial⟩ [] ⟨?_, ?_, ?_, ?_, ?_, ?_, ?_, ?_, ?_, trivial⟩ ?_
    ·exact stq (fun E => ex_move rfl (E.v oe0))
    ·exact stq (fun E => ex_move rfl (E.v oe5))
    ·exact stq (fun E => ex_idxS (i := k) (s := 4) rfl Tryz.underlying126 (by kernel_rfl) (E.d 0) (E.d 1) (by first | exact hlt | exact hlt2))
    ·exact stq (fun E => ex_loadA rfl Tryz.underlying56 rfl (off := o1 + k * 4) (cs := x.cells) (by rw [HCL1.out]; kernel_rfl) (E.d 2) (fun j u hu => ((HAT1.out.mod E.m.old (by intro k h1 h2; have hb := HBR.out k h1; omega))).2 j u hu))
    ·exact stq (fun E => ex_move rfl (E.v oe1))
    ·exact stq (fun E => ex_move rfl (E.v oe5))
    ·exact stq (fun E => ex_idxS (i := k) (s := 4) rfl Tryz.underlying126 (by kernel_rfl) (E.d 4) (E.d 5) (by first | exact hlt | exact hlt2))
    ·exact stq (fun E => ex_loadA rfl Tryz.underlying56 rfl (off := o2 + k * 4) (cs := y.cells) (by rw [HCL2.out]; kernel_rfl) (E.d 6) (fun j u hu => ((HAT2.out.mod E.m.old (by intro k h1 h2; have hb := HBT.out k h1; omega))).2 j u hu))
    ·exact stq (fun E => ex_binE rfl (E.d 3) (E.d 7) (agg_guardE _ _ _ _ _ _ (by kernel_rfl) _) (EqW.runN eqW_deny (ki_dn _) (ki_dn _) (dn_iff HO1.out HO2.out) _) (congrArg (fun z => Value.bool (!z)) HB.out.symm))
    intro u6_0 hr
    have zu6_0 := hr.size
    have Cx1 := hid (hr.new (S := (fun _ => False)))
    clear hr
    refine QChain.nil fun vs hl hzz hrows hne => ?_
    obtain ⟨Z, hYZ, hZb, hV⟩ := hzz
    have f0 := fvi hV hl 0
    have f1 := fvi hV hl 1
    have f4 := fvi hV hl 4
    have f5 := fvi hV hl 5
    have f8 := fvi hV hl 8
    rw [show vs = [gw vs 0, gw vs 1, gw vs 2, gw vs 3, gw vs 4, gw vs 5, gw vs 6, gw vs 7, gw vs 8] from (gw_eta hl).trans rfl]
    have ha0 := HA0.out
    subst ha0
    clear HA0 hV hYZ hZb hsz0 hrows hne oe0 oe1 oe5
    simp only [putAll, Act.put, sIB, sCZ, sCS, f0, f1, f4, f5, f8]
    clear hl f0 f1 f4 f5 f8
    cases b with
    | false =>
     go_upto_region 7 with (fail)
     refine wp_region_U 26 [4] [0] (fun a0 HA0 => ?_)
     refine QSeq.pure rfl (.bool false) (fun E => ex_assign rfl rfl) ?_
     refine QSeq.nil (t' := [_]) rfl ?_
     obtain rfl := HA0.out
     clear HA0
     simp only [pz, Act.put, sIB, sCZ, sCS]
     go_wp2
     go_ret
     exact ⟨ret_bool (take_ne hlt hlt2 (fun e => by have h := HB.out; rw [HX1.out, HX2.out, e, eqb_rfl] at h; cases h)).symm, (HML.out.trans Cx1.out (fun _ _ h => h.elim))⟩
    | true =>
     go_upto_region 5 with (fail)
     refine wp_region_U 26 [15, 16, 5] [0, 1, 2] (fun a0 HA0 => ?_)
     have oe5 := ev HA0 5 rfl
     refine QSeq.pure rfl _ (fun E => ex_move rfl (E.y 2 oe5)) ?_
     refine QSeq.pure rfl (.int .i64 (((k : Nat) : Int) + 1)) (fun E => ex_binE rfl (E.d 0 0) rfl (guard_ints _ _ _ _ _ _) (run_add_i _ _ Tryz.underlying3) (congrArg (Value.int .i64) (IntWalk.i64_in _ (by omega)))) ?_
     refine QSeq.pure rfl _ (fun E => ex_assign rfl (E.d 1 0)) ?_
     refine QSeq.nil (t' := [_, _, _]) rfl ?_
     obtain rfl := HA0.out
     clear HA0 oe5
     simp only [pz, Act.put, sIB, sCZ, sCS]
     go_wp2
     go_roundw
     case rel => exact ⟨k + 1, by go_num, by omega, take_succ2 hlt hlt2 HTK.out (by have h := eqb_iff.1 HB.out.symm; rw [HX1.out, HX2.out] at h; exact h), by omega, (HS2.out.mod Cx1.out (fun _ _ h => h)), (HT2.out.mod Cx1.out (fun _ _ h => h)), (HML.out.trans Cx1.out (fun _ _ h => h.elim))⟩
     case measure => simp [intOf] <;> omega
   ·skip
    go_upto_region 4 with (fail)
    refine wp_region_U 26 [11, 12, 13, 14] [0, 1, 2, 3] (fun a0 HA0 => ?_)
    have oe0 := ev HA0 0 rfl
    have oe5 := ev HA0 5 rfl
    refine QSeq.pure rfl _ (fun E => ex_move rfl (E.v oe5)) ?_
    refine QSeq.pure rfl _ (fun E => ex_move rfl (E.v oe0)) ?_
    refine QSeq.pure rfl (.int .i64 l.length) (fun E => ex_lenS rfl (E.d 1 0) Tryz.underlying126) ?_
    refine QSeq.pure rfl (.bool false) (fun E => ex_binE rfl (E.d 0 2) (E.d 2 0) (guard_ints _ _ _ _ _ _) (run_lss_i _ _ _ Tryz.underlying3) (congrArg Value.bool (decide_eq_false (by omega)))) ?_
    refine QSeq.nil (t' := [_, _, _, _]) rfl ?_
    obtain rfl := HA0.out
    clear HA0 oe0 oe5
    simp only [pz, Act.put, sIB, sCZ, sCS]
    go_upto_region 8 with (fail)
    refine wp_region_U 26 [4] [0] (fun a0 HA0 => ?_)
    refine QSeq.pure rfl (.bool true) (fun E => ex_assign rfl rfl) ?_
    refine QSeq.nil (t' := [_]) rfl ?_
    obtain rfl := HA0.out
    clear HA0
    simp only [pz, Act.put, sIB, sCZ, sCS]
    go_wp2
    go_ret
    exact ⟨ret_bool (take_all (by omega) (by have := HLE.out; omega) HTK.out).symm, HML.out⟩
set_option maxHeartbeats 4000000 in
theorem Eq_Ce : Eqs CeR 61 := by
 intro R R2 cs ds x y w hx hy hB hB2
 obtain ⟨vx_l, rfl, hokx, hx_l⟩ := hx
 obtain ⟨ax_l, kx_l, rfl⟩ := hx_l.shape
 have Hx_l := Lib.hid hx_l
 clear hx_l
 have HOKx := Lib.hid hokx
 clear hokx
 obtain ⟨vy_l, rfl, hoky, hy_l⟩ := hy
 obtain ⟨ay_l, ky_l, rfl⟩ := hy_l.shape
 have Hy_l := Lib.hid hy_l
 clear hy_l
 have HOKy := Lib.hid hoky
 clear hoky
 have HBR := Lib.hid hB
 have HBT := Lib.hid hB2
 clear hB hB2
 go_enter Tryz.func61, Tryz.ntmps61
 go_upto_region 1 with (fail)
 obtain ⟨w1, hw1⟩ : ∃ zz, zz = ((w.alloc (.cells (x.cells (.slice ax_l x.l.length kx_l) : List Value).toArray 35)).alloc (.cells (y.cells (.slice ay_l y.l.length ky_l) : List Value).toArray 35)) := ⟨_, rfl⟩
 change Code.wp _ _ _ _ ((w.alloc (.cells (x.cells (.slice ax_l x.l.length kx_l) : List Value).toArray 35)).alloc (.cells (y.cells (.slice ay_l y.l.length ky_l) : List Value).toArray 35))
 rw [← hw1]
 have HB2 := hid (show Cs w1 (w.heap.size) (x.cells (.slice ax_l x.l.length kx_l) : List Value).toArray 35 by rw [hw1]; exact (Cs.new _ _ _).alloc _)
 have HB3 := hid (show Cs w1 (w.heap.size + 1) (y.cells (.slice ay_l y.l.length ky_l) : List Value).toArray 35 by rw [hw1]; exact Cs_newN _ _ _ (by simp))
 have hm : Mod (fun _ => False) w w1 := by rw [hw1]; exact ((Mod.refl _ _).alloc _).alloc _
 have HM0 := hid (show Mod (fun _ => False) w w1 from hm.mono (fun _ _ h => h.elim))
 have hs1 : w1.heap.size = w.heap.size + 2 := by rw [hw1]; simp
 have Hx1 := hid (Hx_l.out.mod hm (fun _ _ h => h))
 clear Hx_l
 have Hx2 := hid (Hy_l.out.mod hm (fun _ _ h => h))
 clear Hy_l
 clear hw1 hm
 go_upto_region 1 with (fail)
 refine wp_region_U 17 [5, 6, 7, 8, 9, 10, 11, 12, 13, 14, 15, 16, 4] [0, 1, 2, 3, 4, 5, 6, 7, 8, 9, 10, 11, 12] (fun a0 HA0 => ?_)
 have oe2 := ev HA0 2 rfl
 have oe3 := ev HA0 3 rfl
 refine QSeq.pure rfl (.pointer (some ⟨w.heap.size, 0, none⟩)) (fun E => ex_field rfl Tryz.underlying35 rfl (by kernel_rfl) (E.v oe2)) ?_
 refine QSeq.pure rfl _ (fun E => ex_loadA rfl Tryz.underlying29 rfl (off := 0) (cs := x.c.cells) (by rw [Cm.len HOKx.out.2.1]; exact size_commit) (E.d 0 0) (Cs.midA (pre := []) (mid := x.c.cells) (post := [.slice ax_l x.l.length kx_l]) HB2.out rfl)) ?_
 refine QSeq.pure rfl (.pointer (some ⟨w.heap.size + 1, 0, none⟩)) (fun E => ex_field rfl Tryz.underlying35 rfl (by kernel_rfl) (E.v oe3)) ?_
 refine QSeq.pure rfl _ (fun E => ex_loadA rfl Tryz.underlying29 rfl (off := 0) (cs := y.c.cells) (by rw [Cm.len HOKy.out.2.1]; exact size_commit) (E.d 2 0) (Cs.midA (pre := []) (mid := y.c.cells) (post := [.slice ay_l y.l.length ky_l]) HB3.out rfl)) ?_
 refine QSeq.pure rfl (.bool (eqb x.c y.c)) (fun E => ex_binE rfl (E.d 1 2) (E.d 3 0) (agg_guardE _ _ _ _ _ _ (by kernel_rfl) _) (EqW.run eqW_commit (ki_cm HOKx.out.2.1) (ki_cm HOKy.out.2.1) (cm_iff HOKx.out HOKy.out) _) rfl) ?_
 refine QSeq.pure rfl _ (fun E => ex_move rfl (E.d 4 0)) ?_
 refine QSeq.may (b := (eqb x.c y.c)) rfl (.pointer (some ⟨w.heap.size, 37, none⟩)) (fun E => ((wanted_of rfl rfl (E.sz 10 (by decide)) (E.d 5 0)).trans (beq_t _))) (fun E hb => ex_field rfl Tryz.underlying35 rfl (by kernel_rfl) (E.v oe2)) ?_
 intro v1_6 hw
 have hv1_6 := hid hw
 clear hw
 refine QSeq.may (b := (eqb x.c y.c)) rfl (.slice ax_l x.l.length kx_l) (fun E => ((wanted_of rfl rfl (E.sz 10 (by decide)) (E.d 5 1)).trans (beq_t _))) (fun E hb => ex_load1 rfl Tryz.underlying33 rfl ((E.q 6 0 hv1_6.out).1 hb) (Cs.post1 (pre := []) (mid := x.c.cells) (post := [.slice ax_l x.l.length kx_l]) (m := 37) (k := 0) HB2.out (Cm.len HOKx.out.2.1) rfl rfl)) ?_
 intro v1_7 hw
 have hv1_7 := hid hw
 clear hw
 refine QSeq.may (b := (eqb x.c y.c)) rfl (.pointer (some ⟨w.heap.size + 1, 37, none⟩)) (fun E => ((wanted_of rfl rfl (E.sz 10 (by decide)) (E.d 5 2)).trans (beq_t _))) (fun E hb => ex_field rfl Tryz.underlying35 rfl (by kernel_rfl) (E.v oe3)) ?_
 intro v1_8 hw
 have hv1_8 := hid hw
 clear hw
 refine QSeq.may (b := (eqb x.c y.c)) rfl (.slice ay_l y.l.length ky_l) (fun E => ((wanted_of rfl rfl (E.sz 10 (by decide)) (E.d 5 3)).trans (beq_t _))) (fun E hb => ex_load1 rfl Tryz.underlying33 rfl ((E.q 8 0 hv1_8.out).1 hb) (Cs.post1 (pre := []) (mid := y.c.cells) (post := [.slice ay_l y.l.length ky_l]) (m := 37) (k := 0) HB3.out (Cm.len HOKy.out.2.1) rfl rfl)) ?_
 intro v1_9 hw
 have hv1_9 := hid hw
 clear hw
 refine QSeq.mayCall (b := (eqb x.c y.c)) rfl (.bool (eqb x.l y.l)) (args := #[.slice ax_l x.l.length kx_l, .slice ay_l y.l.length ky_l]) (fun E => ((wanted_of rfl rfl (E.sz 10 (by decide)) (E.d 5 4)).trans (beq_t _))) rfl Tryz.func93 (fun E hb => args2 ((E.q 7 2 hv1_7.out).1 hb) ((E.q 9 0 hv1_9.out).1 hb)) (fun hb => EqL_St _ _ _ _ _ _ _ Hx1.out Hx2.out (by intro k h1; have hb := HBR.out k h1; (try have := hm.size); omega) (by intro k h1; have hb := HBT.out k h1; (try have := hm.size); omega)) ?_
 intro v1_10 u1_10 hw hm
 have hv1_10 := hid hw
 clear hw
 have zu1_10 := hm.size
 have Cx3 := hid (show Mod (fun _ => False) w1 u1_10 from hm)
 clear hm
 refine QSeq.pure rfl (.bool ((eqb x.c y.c) && (eqb x.l y.l))) (fun E => ex_pickE rfl (E.d 5 5) rfl rfl (and_val fun hb => (E.q 10 0 hv1_10.out).1 hb)) ?_
 refine QSeq.pure rfl _ (fun E => ex_assign rfl (E.d 11 0)) ?_
 clear hv1_6 hv1_7 hv1_8 hv1_9 hv1_10
 refine QSeq.nil (t' := [_, _, _, _, _, _, _, _, _, _, _, _, _]) rfl ?_
 obtain rfl := HA0.out
 clear HA0 oe2 oe3
 simp only [pz, Act.put, sIB, sCZ, sCS]
 go_wp2
 go_ret
 exact ⟨ret_bool (ce_eqb x y), (HM0.out.trans Cx3.out (fun _ _ h => h.elim))⟩
set_option maxHeartbeats 4000000 in
theorem EqL_Ce : EqsL CeR 94 := by
 intro R R2 v v2 l m w hs ht hB hB2
 obtain ⟨ao, cap, rfl⟩ := hs.shape
 obtain ⟨bo, bcap, rfl⟩ := ht.shape
 have hlm : l.length ≤ maxLen := hs.bd
 rw [maxLen_val] at hlm
 have HS := Lib.hid hs
 have HT := Lib.hid ht
 have HBR := Lib.hid hB
 have HBT := Lib.hid hB2
 clear hs ht hB hB2
 go_enter Tryz.func94, Tryz.ntmps94
 go_upto_region 1 with (fail)
 have HM0 := hid (Mod.refl (fun _ => False) w)
 by_cases hl : l.length = m.length
 rotate_left
 ·skip
  go_upto_region 1 with (fail)
  refine wp_region_U 27 [6, 7, 8, 9, 10] [0, 1, 2, 3, 4] (fun a0 HA0 => ?_)
  have oe0 := ev HA0 0 rfl
  have oe1 := ev HA0 1 rfl
  refine QSeq.pure rfl _ (fun E => ex_move rfl (E.v oe0)) ?_
  refine QSeq.pure rfl (.int .i64 l.length) (fun E => ex_lenS rfl (E.d 0 0) Tryz.underlying38) ?_
  refine QSeq.pure rfl _ (fun E => ex_move rfl (E.v oe1)) ?_
  refine QSeq.pure rfl (.int .i64 m.length) (fun E => ex_lenS rfl (E.d 2 0) Tryz.underlying38) ?_
  refine QSeq.pure rfl (.bool true) (fun E => ex_binE rfl (E.d 1 2) (E.d 3 0) (guard_ints _ _ _ _ _ _) (run_neq_i _ _ _ Tryz.underlying3) (congrArg Value.bool (ne_tt (by omega)))) ?_
  refine QSeq.nil (t' := [_, _, _, _, _]) rfl ?_
  obtain rfl := HA0.out
  clear HA0 oe0 oe1
  simp only [pz, Act.put, sIB, sCZ, sCS]
  go_upto_region 2 with (fail)
  refine wp_region_U 27 [4] [0] (fun a0 HA0 => ?_)
  refine QSeq.pure rfl (.bool false) (fun E => ex_assign rfl rfl) ?_
  refine QSeq.nil (t' := [_]) rfl ?_
  obtain rfl := HA0.out
  clear HA0
  simp only [pz, Act.put, sIB, sCZ, sCS]
  go_wp2
  go_ret
  exact ⟨ret_bool (eqb_ne fun e => hl (by rw [e])).symm, HM0.out⟩
 ·skip
  go_upto_region 1 with (fail)
  refine wp_region_U 27 [6, 7, 8, 9, 10] [0, 1, 2, 3, 4] (fun a0 HA0 => ?_)
  have oe0 := ev HA0 0 rfl
  have oe1 := ev HA0 1 rfl
  refine QSeq.pure rfl _ (fun E => ex_move rfl (E.v oe0)) ?_
  refine QSeq.pure rfl (.int .i64 l.length) (fun E => ex_lenS rfl (E.d 0 0) Tryz.underlying38) ?_
  refine QSeq.pure rfl _ (fun E => ex_move rfl (E.v oe1)) ?_
  refine QSeq.pure rfl (.int .i64 m.length) (fun E => ex_lenS rfl (E.d 2 0) Tryz.underlying38) ?_
  refine QSeq.pure rfl (.bool false) (fun E => ex_binE rfl (E.d 1 2) (E.d 3 0) (guard_ints _ _ _ _ _ _) (run_neq_i _ _ _ Tryz.underlying3) (congrArg Value.bool (ne_ff (by omega)))) ?_
  refine QSeq.nil (t' := [_, _, _, _, _]) rfl ?_
  obtain rfl := HA0.out
  clear HA0 oe0 oe1
  simp only [pz, Act.put, sIB, sCZ, sCS]
  go_upto_region 3 with (fail)
  refine wp_region_U 27 [11, 12, 13] [0, 1, 2] (fun a0 HA0 => ?_)
  have oe0 := ev HA0 0 rfl
  refine QSeq.pure rfl _ (fun E => ex_move rfl (E.v oe0)) ?_
  refine QSeq.pure rfl (.int .i64 l.length) (fun E => ex_lenS rfl (E.d 0 0) Tryz.underlying38) ?_
  refine QSeq.pure rfl (.int .i64 0) (fun E => ex_move rfl rfl) ?_
  refine QSeq.nil (t' := [_, _, _]) rfl ?_
  obtain rfl := HA0.out
  clear HA0 oe0
  simp only [pz, Act.put, sIB, sCZ, sCS]
  have HLE := Lib.hid hl
  clear hl
  go_wp2
  go_loopw [13, 5] (fun ti t5 wr => ∃ k : Nat, ti = .int .i64 (k : Int) ∧ k ≤ l.length ∧ l.take k = m.take k ∧ w.heap.size ≤ wr.heap.size ∧ RdS CeR R wr (.slice ao l.length cap) l ∧ RdS CeR R2 wr (.slice bo m.length bcap) m ∧ Mod (fun _ => False) w wr) (fun ti t5 _ => l.length - (intOf ti).toNat)
  case atStart => exact ⟨0, rfl, Nat.zero_le _, rfl, Nat.le_refl _, HS.out, HT.out, HM0.out⟩
  case round =>
   obtain ⟨k, rfl, hk, htk, hz, hs, ht, hm⟩ := hrel
   obtain ⟨wl, rfl⟩ : ∃ x, x = wr := ⟨_, rfl⟩
   have HS2 := Lib.hid hs
   have HT2 := Lib.hid ht
   have HML := Lib.hid hm
   have HTK := Lib.hid htk
   clear hs ht hm htk HS HT HM0
   by_cases hlt : k < l.length
   ·have hlt2 : k < m.length := by have := HLE.out; omega
    go_upto_region 4 with (fail)
    refine wp_region_U 27 [14] [0] (fun a0 HA0 => ?_)
    have oe12 := ev HA0 12 rfl
    have oe13 := ev HA0 13 rfl
    refine QSeq.pure rfl (.bool true) (fun E => ex_binE rfl (E.v oe13) (E.v oe12) (guard_ints _ _ _ _ _ _) (run_lss_i _ _ _ Tryz.underlying3) (congrArg Value.bool (decide_eq_true (by omega)))) ?_
    refine QSeq.nil (t' := [_]) rfl ?_
    obtain rfl := HA0.out
    clear HA0 oe12 oe13
    simp only [pz, Act.put, sIB, sCZ, sCS]
    go_upto_region 5 with (fail)
    refine wp_region_U 27 [15, 5] [0, 1] (fun a0 HA0 => ?_)
    have oe13 := ev HA0 13 rfl
    refine QSeq.pure rfl _ (fun E => ex_move rfl (E.v oe13)) ?_
    refine QSeq.pure rfl _ (fun E => ex_assign rfl (E.d 0 0)) ?_
    refine QSeq.nil (t' := [_, _]) rfl ?_
    obtain rfl := HA0.out
    clear HA0 oe13
    simp only [pz, Act.put, sIB, sCZ, sCS]
    have hat := HS2.out.at hlt
    obtain ⟨g1, o1, c1, eao, hrg, hrd, hcs⟩ := hat
    subst eao
    obtain ⟨x, hx⟩ : ∃ z, z = l[k] := ⟨_, rfl⟩
    rw [← hx] at hrd
    have HX1 := Lib.hid hx
    have hcl : c1.length = 38 := CeR.len hrd
    have HCL1 := Lib.hid hcl
    have HAT1 := hid (show CellsAt R wl g1 (o1 + k * 38) c1 from ⟨hrg, hcs⟩)
    have HRD1 := Lib.hid hrd
    clear hcl hcs hrd hrg hx
    have hat := HT2.out.at hlt2
    obtain ⟨g2, o2, c2, eao, hrg, hrd, hcs⟩ := hat
    subst eao
    obtain ⟨y, hy⟩ : ∃ z, z = m[k] := ⟨_, rfl⟩
    rw [← hy] at hrd
    have HX2 := Lib.hid hy
    have hcl : c2.length = 38 := CeR.len hrd
    have HCL2 := Lib.hid hcl
    have HAT2 := hid (show CellsAt R2 wl g2 (o2 + k * 38) c2 from ⟨hrg, hcs⟩)
    have HRD2 := Lib.hid hrd
    clear hcl hcs hrd hrg hy
    obtain ⟨b, hb⟩ : ∃ b, b = eqb x y := ⟨_, rfl⟩
    have HB := Lib.hid hb
    clear hb
    go_upto_region 6 with (fail)
    generalize ha0 : Act.mk _ _ = a0
    have oe0 : a0.eval (.tmp 0) = .slice (some ⟨g1, o1, none⟩) l.length cap := by rw [← ha0]; rfl
    have oe1 : a0.eval (.tmp 1) = .slice (some ⟨g2, o2, none⟩) m.length bcap := by rw [← ha0]; rfl
    have oe5 : a0.eval (.tmp 5) = .int .i64 ((k : Nat) : Int) := by rw [← ha0]; rfl
    have hsz0 : a0.tmps.size = 27 := by rw [← ha0]; rfl
    have HA0 := hid ha0
    clear ha0
    refine wp_region_Q0 27 hsz0 [16, 17, 18, 19, 20, 21, 22, 23, 24, 25] [qi (.slice (some ⟨g1, o1, none⟩) l.length cap), qi (.int .i64 ((k : Nat) : Int)), qi (.pointer (some ⟨g1, o1 + k * 38, none⟩)), qi (.agg c1.toArray), qi (.slice (some ⟨g2, o2, none⟩) m.length bcap), qi (.int .i64 ((k : Nat) : Int)), qi (.pointer (some ⟨g2, o2 + k * 38, none⟩)), qi (.agg c2.toArray), qi (.bool b), qi (.bool (!b))] ⟨qi_stable, qi_stable, qi_stable, qi_stable, qi_stable, qi_stable, qi_stable, qi_stable, qi_stable, qi_stable, trivial⟩ [8] ⟨?_, ?_, ?_, ?_, ?_, ?_, ?_, ?_, ?_, ?_, trivial⟩ ?_
    ·exact stq (fun E => ex_move rfl (E.v oe0))
    ·exact stq (fun E => ex_move rfl (E.v oe5))
    ·exact stq (fun E => ex_idxS (i := k) (s := 38) rfl Tryz.underlying38 (by kernel_rfl) (E.d 0) (E.d 1) (by first | exact hlt | exact hlt2))
    ·exact stq (fun E => ex_loadA rfl Tryz.underlying35 rfl (off := o1 + k * 38) (cs := c1) (by rw [HCL1.out]; kernel_rfl) (E.d 2) (fun j u hu => ((HAT1.out.mod E.m.old (by intro k h1 h2; have hb := HBR.out k h1; omega))).2 j u hu))
    ·exact stq (fun E => ex_move rfl (E.v oe1))
    ·exact stq (fun E => ex_move rfl (E.v oe5))
    ·exact stq (fun E => ex_idxS (i := k) (s := 38) rfl Tryz.underlying38 (by kernel_rfl) (E.d 4) (E.d 5) (by first | exact hlt | exact hlt2))
    ·exact stq (fun E => ex_loadA rfl Tryz.underlying35 rfl (off := o2 + k * 38) (cs := c2) (by rw [HCL2.out]; kernel_rfl) (E.d 6) (fun j u hu => ((HAT2.out.mod E.m.old (by intro k h1 h2; have hb := HBT.out k h1; omega))).2 j u hu))
    ·exact stepq_chain rfl
    ·exact stq (fun E => ex_not rfl (E.d 8))
    intro u6_0 hr
    have zu6_0 := hr.size
    have Cx1 := hid (hr.new (S := (fun _ => False)))
    clear hr
    refine QChain.go fun Z act E => ?_
    refine qc_callF (args := #[.agg c1.toArray, .agg c2.toArray]) rfl (wanted_none rfl) rfl Tryz.func61 (args2 (E.d 3) (E.d 7)) (HB.out.symm ▸ Eq_Ce _ _ _ _ _ _ _ (HRD1.out.mod Cx1.out (fun _ _ h => h)) (HRD2.out.mod Cx1.out (fun _ _ h => h)) (by intro k h1; have hb := HBR.out k h1; omega) (by intro k h1; have hb := HBT.out k h1; omega)) ?_
    rintro e u6_1a ⟨rfl, hm⟩
    have zu6_1a := hm.size
    refine ⟨_, rfl, hm.mono (fun _ _ h => h.elim), (fun _ => rfl), ?_⟩
    intro u6_1 hr
    have zu6_1 := hr.size
    have Cx2 := hid (Cx1.out.go hm hr)
    clear Cx1 hm hr Z act E
    refine QChain.nil fun vs hl hzz hrows hne => ?_
    obtain ⟨Z, hYZ, hZb, hV⟩ := hzz
    have f0 := fvi hV hl 0
    have f1 := fvi hV hl 1
    have f4 := fvi hV hl 4
    have f5 := fvi hV hl 5
    have f8 := fvi hV hl 8
    have f9 := fvi hV hl 9
    rw [show vs = [gw vs 0, gw vs 1, gw vs 2, gw vs 3, gw vs 4, gw vs 5, gw vs 6, gw vs 7, gw vs 8, gw vs 9] from (gw_eta hl).trans rfl]
    have ha0 := HA0.out
    subst ha0
    clear HA0 hV hYZ hZb hsz0 hrows hne oe0 oe1 oe5
    simp only [putAll, Act.put, sIB, sCZ, sCS, f0, f1, f4, f5, f8, f9]
    clear hl f0 f1 f4 f5 f8 f9
    cases b with
    | false =>
     go_upto_region 7 with (fail)
     refine wp_region_U 27 [4] [0] (fun a0 HA0 => ?_)
     refine QSeq.pure rfl (.bool false) (fun E => ex_assign rfl rfl) ?_
     refine QSeq.nil (t' := [_]) rfl ?_
     obtain rfl := HA0.out
     clear HA0
     simp only [pz, Act.put, sIB, sCZ, sCS]
     go_wp2
     go_ret
     exact ⟨ret_bool (take_ne hlt hlt2 (fun e => by have h := HB.out; rw [HX1.out, HX2.out, e, eqb_rfl] at h; cases h)).symm, (HML.out.trans Cx2.out (fun _ _ h => h.elim))⟩
    | true =>
     go_upto_region 8 with (fail)
     refine wp_region_U 27 [26, 13] [0, 1] (fun a0 HA0 => ?_)
     have oe13 := ev HA0 13 rfl
     refine QSeq.pure rfl (.int .i64 (((k : Nat) : Int) + 1)) (fun E => ex_binE rfl (E.y 1 oe13) rfl (guard_ints _ _ _ _ _ _) (run_add_i _ _ Tryz.underlying3) (congrArg (Value.int .i64) (IntWalk.i64_in _ (by omega)))) ?_
     refine QSeq.pure rfl _ (fun E => ex_move rfl (E.d 0 0)) ?_
     refine QSeq.nil (t' := [_, _]) rfl ?_
     obtain rfl := HA0.out
     clear HA0 oe13
     simp only [pz, Act.put, sIB, sCZ, sCS]
     go_wp2
     go_roundw
     case rel => exact ⟨k + 1, by go_num, by omega, take_succ2 hlt hlt2 HTK.out (by have h := eqb_iff.1 HB.out.symm; rw [HX1.out, HX2.out] at h; exact h), by omega, (HS2.out.mod Cx2.out (fun _ _ h => h)), (HT2.out.mod Cx2.out (fun _ _ h => h)), (HML.out.trans Cx2.out (fun _ _ h => h.elim))⟩
     case measure => simp [intOf] <;> omega
   ·skip
    go_upto_region 4 with (fail)
    refine wp_region_U 27 [14] [0] (fun a0 HA0 => ?_)
    have oe12 := ev HA0 12 rfl
    have oe13 := ev HA0 13 rfl
    refine QSeq.pure rfl (.bool false) (fun E => ex_binE rfl (E.v oe13) (E.v oe12) (guard_ints _ _ _ _ _ _) (run_lss_i _ _ _ Tryz.underlying3) (congrArg Value.bool (decide_eq_false (by omega)))) ?_
    refine QSeq.nil (t' := [_]) rfl ?_
    obtain rfl := HA0.out
    clear HA0 oe12 oe13
    simp only [pz, Act.put, sIB, sCZ, sCS]
    go_upto_region 9 with (fail)
    refine wp_region_U 27 [4] [0] (fun a0 HA0 => ?_)
    refine QSeq.pure rfl (.bool true) (fun E => ex_assign rfl rfl) ?_
    refine QSeq.nil (t' := [_]) rfl ?_
    obtain rfl := HA0.out
    clear HA0
    simp only [pz, Act.put, sIB, sCZ, sCS]
    go_wp2
    go_ret
    exact ⟨ret_bool (take_all (by omega) (by have := HLE.out; omega) HTK.out).symm, HML.out⟩
set_option maxHeartbeats 4000000 in
theorem Eq_Pm : Eqs PmR 62 := by
 intro R R2 cs ds x y w hx hy hB hB2
 obtain ⟨vx_l, rfl, hokx, hx_l⟩ := hx
 obtain ⟨ax_l, kx_l, rfl⟩ := hx_l.shape
 have Hx_l := Lib.hid hx_l
 clear hx_l
 have HOKx := Lib.hid hokx
 clear hokx
 obtain ⟨vy_l, rfl, hoky, hy_l⟩ := hy
 obtain ⟨ay_l, ky_l, rfl⟩ := hy_l.shape
 have Hy_l := Lib.hid hy_l
 clear hy_l
 have HOKy := Lib.hid hoky
 clear hoky
 have HBR := Lib.hid hB
 have HBT := Lib.hid hB2
 clear hB hB2
 go_enter Tryz.func62, Tryz.ntmps62
 go_upto_region 1 with (fail)
 obtain ⟨w1, hw1⟩ : ∃ zz, zz = ((w.alloc (.cells (x.cells (.slice ax_l x.l.length kx_l) : List Value).toArray 40)).alloc (.cells (y.cells (.slice ay_l y.l.length ky_l) : List Value).toArray 40)) := ⟨_, rfl⟩
 change Code.wp _ _ _ _ ((w.alloc (.cells (x.cells (.slice ax_l x.l.length kx_l) : List Value).toArray 40)).alloc (.cells (y.cells (.slice ay_l y.l.length ky_l) : List Value).toArray 40))
 rw [← hw1]
 have HB2 := hid (show Cs w1 (w.heap.size) (x.cells (.slice ax_l x.l.length kx_l) : List Value).toArray 40 by rw [hw1]; exact (Cs.new _ _ _).alloc _)
 have HB3 := hid (show Cs w1 (w.heap.size + 1) (y.cells (.slice ay_l y.l.length ky_l) : List Value).toArray 40 by rw [hw1]; exact Cs_newN _ _ _ (by simp))
 have hm : Mod (fun _ => False) w w1 := by rw [hw1]; exact ((Mod.refl _ _).alloc _).alloc _
 have HM0 := hid (show Mod (fun _ => False) w w1 from hm.mono (fun _ _ h => h.elim))
 have hs1 : w1.heap.size = w.heap.size + 2 := by rw [hw1]; simp
 have Hx1 := hid (Hx_l.out.mod hm (fun _ _ h => h))
 clear Hx_l
 have Hx2 := hid (Hy_l.out.mod hm (fun _ _ h => h))
 clear Hy_l
 clear hw1 hm
 go_upto_region 1 with (fail)
 refine wp_region_U 38 [5, 6, 7, 8, 9, 10, 11, 12, 13, 14, 15, 16, 17, 18, 19, 20, 21, 22, 23, 24, 25, 26, 27, 28, 29, 30, 31, 32, 33, 34, 35, 36, 37, 4] [0, 1, 2, 3, 4, 5, 6, 7, 8, 9, 10, 11, 12, 13, 14, 15, 16, 17, 18, 19, 20, 21, 22, 23, 24, 25, 26, 27, 28, 29, 30, 31, 32, 33] (fun a0 HA0 => ?_)
 have oe2 := ev HA0 2 rfl
 have oe3 := ev HA0 3 rfl
 refine QSeq.pure rfl (.pointer (some ⟨w.heap.size, 0, none⟩)) (fun E => ex_field rfl Tryz.underlying40 rfl (by kernel_rfl) (E.v oe2)) ?_
 refine QSeq.pure rfl _ (fun E => ex_load1 rfl Tryz.underlying3 rfl (E.d 0 0) (Cs.lit1 HB2.out rfl)) ?_
 refine QSeq.pure rfl (.pointer (some ⟨w.heap.size + 1, 0, none⟩)) (fun E => ex_field rfl Tryz.underlying40 rfl (by kernel_rfl) (E.v oe3)) ?_
 refine QSeq.pure rfl _ (fun E => ex_load1 rfl Tryz.underlying3 rfl (E.d 2 0) (Cs.lit1 HB3.out rfl)) ?_
 refine QSeq.pure rfl (.bool (x.rp == y.rp)) (fun E => ex_bin rfl (E.d 1 2) (E.d 3 0) (guard_ints _ _ _ _ _ _) (run_eql_i _ _ _ Tryz.underlying3)) ?_
 refine QSeq.pure rfl _ (fun E => ex_move rfl (E.d 4 0)) ?_
 refine QSeq.may (b := (x.rp == y.rp)) rfl (.pointer (some ⟨w.heap.size, 1, none⟩)) (fun E => ((wanted_of rfl rfl (E.sz 10 (by decide)) (E.d 5 0)).trans (beq_t _))) (fun E hb => ex_field rfl Tryz.underlying40 rfl (by kernel_rfl) (E.v oe2)) ?_
 intro v1_6 hw
 have hv1_6 := hid hw
 clear hw
 refine QSeq.may (b := (x.rp == y.rp)) rfl (.int .i64 x.ep) (fun E => ((wanted_of rfl rfl (E.sz 10 (by decide)) (E.d 5 1)).trans (beq_t _))) (fun E hb => ex_load1 rfl Tryz.underlying3 rfl ((E.q 6 0 hv1_6.out).1 hb) (Cs.lit1 HB2.out rfl)) ?_
 intro v1_7 hw
 have hv1_7 := hid hw
 clear hw
 refine QSeq.may (b := (x.rp == y.rp)) rfl (.pointer (some ⟨w.heap.size + 1, 1, none⟩)) (fun E => ((wanted_of rfl rfl (E.sz 10 (by decide)) (E.d 5 2)).trans (beq_t _))) (fun E hb => ex_field rfl Tryz.underlying40 rfl (by kernel_rfl) (E.v oe3)) ?_
 intro v1_8 hw
 have hv1_8 := hid hw
 clear hw
 refine QSeq.may (b := (x.rp == y.rp)) rfl (.int .i64 y.ep) (fun E => ((wanted_of rfl rfl (E.sz 10 (by decide)) (E.d 5 3)).trans (beq_t _))) (fun E hb => ex_load1 rfl Tryz.underlying3 rfl ((E.q 8 0 hv1_8.out).1 hb) (Cs.lit1 HB3.out rfl)) ?_
 intro v1_9 hw
 have hv1_9 := hid hw
 clear hw
 refine QSeq.may (b := (x.rp == y.rp)) rfl (.bool (x.ep == y.ep)) (fun E => ((wanted_of rfl rfl (E.sz 10 (by decide)) (E.d 5 4)).trans (beq_t _))) (fun E hb => ex_bin rfl ((E.q 7 2 hv1_7.out).1 hb) ((E.q 9 0 hv1_9.out).1 hb) (guard_ints _ _ _ _ _ _) (run_eql_i _ _ _ Tryz.underlying3)) ?_
 intro v1_10 hw
 have hv1_10 := hid hw
 clear hw
 refine QSeq.pure rfl (.bool ((x.rp == y.rp) && (x.ep == y.ep))) (fun E => ex_pickE rfl (E.d 5 5) rfl rfl (and_val fun hb => (E.q 10 0 hv1_10.out).1 hb)) ?_
 refine QSeq.pure rfl _ (fun E => ex_move rfl (E.d 11 0)) ?_
 refine QSeq.may (b := ((x.rp == y.rp) && (x.ep == y.ep))) rfl (.pointer (some ⟨w.heap.size, 2, none⟩)) (fun E => ((wanted_of rfl rfl (E.sz 17 (by decide)) (E.d 12 0)).trans (beq_t _))) (fun E hb => ex_field rfl Tryz.underlying40 rfl (by kernel_rfl) (E.v oe2)) ?_
 intro v1_13 hw
 have hv1_13 := hid hw
 clear hw
 refine QSeq.may (b := ((x.rp == y.rp) && (x.ep == y.ep))) rfl (.int .u64 (x.fl : Nat)) (fun E => ((wanted_of rfl rfl (E.sz 17 (by decide)) (E.d 12 1)).trans (beq_t _))) (fun E hb => ex_load1 rfl Tryz.underlying30 rfl ((E.q 13 0 hv1_13.out).1 hb) (Cs.lit1 HB2.out rfl)) ?_
 intro v1_14 hw
 have hv1_14 := hid hw
 clear hw
 refine QSeq.may (b := ((x.rp == y.rp) && (x.ep == y.ep))) rfl (.pointer (some ⟨w.heap.size + 1, 2, none⟩)) (fun E => ((wanted_of rfl rfl (E.sz 17 (by decide)) (E.d 12 2)).trans (beq_t _))) (fun E hb => ex_field rfl Tryz.underlying40 rfl (by kernel_rfl) (E.v oe3)) ?_
 intro v1_15 hw
 have hv1_15 := hid hw
 clear hw
 refine QSeq.may (b := ((x.rp == y.rp) && (x.ep == y.ep))) rfl (.int .u64 (y.fl : Nat)) (fun E => ((wanted_of rfl rfl (E.sz 17 (by decide)) (E.d 12 3)).trans (beq_t _))) (fun E hb => ex_load1 rfl Tryz.underlying30 rfl ((E.q 15 0 hv1_15.out).1 hb) (Cs.lit1 HB3.out rfl)) ?_
 intro v1_16 hw
 have hv1_16 := hid hw
 clear hw
 refine QSeq.may (b := ((x.rp == y.rp) && (x.ep == y.ep))) rfl (.bool (((x.fl : Nat) : Int) == ((y.fl : Nat) : Int))) (fun E => ((wanted_of rfl rfl (E.sz 17 (by decide)) (E.d 12 4)).trans (beq_t _))) (fun E hb => ex_bin rfl ((E.q 14 2 hv1_14.out).1 hb) ((E.q 16 0 hv1_16.out).1 hb) (guard_ints _ _ _ _ _ _) (run_eql_i _ _ _ Tryz.underlying30)) ?_
 intro v1_17 hw
 have hv1_17 := hid hw
 clear hw
 refine QSeq.pure rfl (.bool (((x.rp == y.rp) && (x.ep == y.ep)) && (((x.fl : Nat) : Int) == ((y.fl : Nat) : Int)))) (fun E => ex_pickE rfl (E.d 12 5) rfl rfl (and_val fun hb => (E.q 17 0 hv1_17.out).1 hb)) ?_
 refine QSeq.pure rfl _ (fun E => ex_move rfl (E.d 18 0)) ?_
 refine QSeq.may (b := (((x.rp == y.rp) && (x.ep == y.ep)) && (((x.fl : Nat) : Int) == ((y.fl : Nat) : Int)))) rfl (.pointer (some ⟨w.heap.size, 4, none⟩)) (fun E => ((wanted_of rfl rfl (E.sz 24 (by decide)) (E.d 19 0)).trans (beq_t _))) (fun E hb => ex_field rfl Tryz.underlying40 rfl (by kernel_rfl) (E.v oe2)) ?_
 intro v1_20 hw
 have hv1_20 := hid hw
 clear hw
 refine QSeq.may (b := (((x.rp == y.rp) && (x.ep == y.ep)) && (((x.fl : Nat) : Int) == ((y.fl : Nat) : Int)))) rfl (.agg #[.int .i64 x.sb, .int .i64 x.mr]) (fun E => ((wanted_of rfl rfl (E.sz 24 (by decide)) (E.d 19 1)).trans (beq_t _))) (fun E hb => ex_loadA rfl Tryz.underlying27 rfl (off := 4) (cs := [.int .i64 x.sb, .int .i64 x.mr]) (by kernel_rfl) ((E.q 20 0 hv1_20.out).1 hb) (Cs.litA HB2.out rfl)) ?_
 intro v1_21 hw
 have hv1_21 := hid hw
 clear hw
 refine QSeq.may (b := (((x.rp == y.rp) && (x.ep == y.ep)) && (((x.fl : Nat) : Int) == ((y.fl : Nat) : Int)))) rfl (.pointer (some ⟨w.heap.size + 1, 4, none⟩)) (fun E => ((wanted_of rfl rfl (E.sz 24 (by decide)) (E.d 19 2)).trans (beq_t _))) (fun E hb => ex_field rfl Tryz.underlying40 rfl (by kernel_rfl) (E.v oe3)) ?_
 intro v1_22 hw
 have hv1_22 := hid hw
 clear hw
 refine QSeq.may (b := (((x.rp == y.rp) && (x.ep == y.ep)) && (((x.fl : Nat) : Int) == ((y.fl : Nat) : Int)))) rfl (.agg #[.int .i64 y.sb, .int .i64 y.mr]) (fun E => ((wanted_of rfl rfl (E.sz 24 (by decide)) (E.d 19 3)).trans (beq_t _))) (fun E hb => ex_loadA rfl Tryz.underlying27 rfl (off := 4) (cs := [.int .i64 y.sb, .int .i64 y.mr]) (by kernel_rfl) ((E.q 22 0 hv1_22.out).1 hb) (Cs.litA HB3.out rfl)) ?_
 intro v1_23 hw
 have hv1_23 := hid hw
 clear hw
 refine QSeq.may (b := (((x.rp == y.rp) && (x.ep == y.ep)) && (((x.fl : Nat) : Int) == ((y.fl : Nat) : Int)))) rfl (.bool (eqb (x.sb, x.mr) (y.sb, y.mr))) (fun E => ((wanted_of rfl rfl (E.sz 24 (by decide)) (E.d 19 4)).trans (beq_t _))) (fun E hb => ex_binE rfl ((E.q 21 2 hv1_21.out).1 hb) ((E.q 23 0 hv1_23.out).1 hb) (agg_guardE _ _ _ _ _ _ (by kernel_rfl) _) (EqW.run eqW_sig (ki_2 x.sb x.mr) (ki_2 y.sb y.mr) (two_iff x.sb x.mr y.sb y.mr) _) rfl) ?_
 intro v1_24 hw
 have hv1_24 := hid hw
 clear hw
 refine QSeq.pure rfl (.bool ((((x.rp == y.rp) && (x.ep == y.ep)) && (((x.fl : Nat) : Int) == ((y.fl : Nat) : Int))) && (eqb (x.sb, x.mr) (y.sb, y.mr)))) (fun E => ex_pickE rfl (E.d 19 5) rfl rfl (and_val fun hb => (E.q 24 0 hv1_24.out).1 hb)) ?_
 refine QSeq.pure rfl _ (fun E => ex_move rfl (E.d 25 0)) ?_
 refine QSeq.may (b := ((((x.rp == y.rp) && (x.ep == y.ep)) && (((x.fl : Nat) : Int) == ((y.fl : Nat) : Int))) && (eqb (x.sb, x.mr) (y.sb, y.mr)))) rfl (.pointer (some ⟨w.heap.size, 3, none⟩)) (fun E => ((wanted_of rfl rfl (E.sz 31 (by decide)) (E.d 26 0)).trans (beq_t _))) (fun E hb => ex_field rfl Tryz.underlying40 rfl (by kernel_rfl) (E.v oe2)) ?_
 intro v1_27 hw
 have hv1_27 := hid hw
 clear hw
 refine QSeq.may (b := ((((x.rp == y.rp) && (x.ep == y.ep)) && (((x.fl : Nat) : Int) == ((y.fl : Nat) : Int))) && (eqb (x.sb, x.mr) (y.sb, y.mr)))) rfl (.slice ax_l x.l.length kx_l) (fun E => ((wanted_of rfl rfl (E.sz 31 (by decide)) (E.d 26 1)).trans (beq_t _))) (fun E hb => ex_load1 rfl Tryz.underlying38 rfl ((E.q 27 0 hv1_27.out).1 hb) (Cs.lit1 HB2.out rfl)) ?_
 intro v1_28 hw
 have hv1_28 := hid hw
 clear hw
 refine QSeq.may (b := ((((x.rp == y.rp) && (x.ep == y.ep)) && (((x.fl : Nat) : Int) == ((y.fl : Nat) : Int))) && (eqb (x.sb, x.mr) (y.sb, y.mr)))) rfl (.pointer (some ⟨w.heap.size + 1, 3, none⟩)) (fun E => ((wanted_of rfl rfl (E.sz 31 (by decide)) (E.d 26 2)).trans (beq_t _))) (fun E hb => ex_field rfl Tryz.underlying40 rfl (by kernel_rfl) (E.v oe3)) ?_
 intro v1_29 hw
 have hv1_29 := hid hw
 clear hw
 refine QSeq.may (b := ((((x.rp == y.rp) && (x.ep == y.ep)) && (((x.fl : Nat) : Int) == ((y.fl : Nat) : Int))) && (eqb (x.sb, x.mr) (y.sb, y.mr)))) rfl (.slice ay_l y.l.length ky_l) (fun E => ((wanted_of rfl rfl (E.sz 31 (by decide)) (E.d 26 3)).trans (beq_t _))) (fun E hb => ex_load1 rfl Tryz.underlying38 rfl ((E.q 29 0 hv1_29.out).1 hb) (Cs.lit1 HB3.out rfl)) ?_
 intro v1_30 hw
 have hv1_30 := hid hw
 clear hw
 refine QSeq.mayCall (b := ((((x.rp == y.rp) && (x.ep == y.ep)) && (((x.fl : Nat) : Int) == ((y.fl : Nat) : Int))) && (eqb (x.sb, x.mr) (y.sb, y.mr)))) rfl (.bool (eqb x.l y.l)) (args := #[.slice ax_l x.l.length kx_l, .slice ay_l y.l.length ky_l]) (fun E => ((wanted_of rfl rfl (E.sz 31 (by decide)) (E.d 26 4)).trans (beq_t _))) rfl Tryz.func94 (fun E hb => args2 ((E.q 28 2 hv1_28.out).1 hb) ((E.q 30 0 hv1_30.out).1 hb)) (fun hb => EqL_Ce _ _ _ _ _ _ _ Hx1.out Hx2.out (by intro k h1; have hb := HBR.out k h1; (try have := hm.size); omega) (by intro k h1; have hb := HBT.out k h1; (try have := hm.size); omega)) ?_
 intro v1_31 u1_31 hw hm
 have hv1_31 := hid hw
 clear hw
 have zu1_31 := hm.size
 have Cx3 := hid (show Mod (fun _ => False) w1 u1_31 from hm)
 clear hm
 refine QSeq.pure rfl (.bool (((((x.rp == y.rp) && (x.ep == y.ep)) && (((x.fl : Nat) : Int) == ((y.fl : Nat) : Int))) && (eqb (x.sb, x.mr) (y.sb, y.mr))) && (eqb x.l y.l))) (fun E => ex_pickE rfl (E.d 26 5) rfl rfl (and_val fun hb => (E.q 31 0 hv1_31.out).1 hb)) ?_
 refine QSeq.pure rfl _ (fun E => ex_assign rfl (E.d 32 0)) ?_
 clear hv1_6 hv1_7 hv1_8 hv1_9 hv1_10 hv1_13 hv1_14 hv1_15 hv1_16 hv1_17 hv1_20 hv1_21 hv1_22 hv1_23 hv1_24 hv1_27 hv1_28 hv1_29 hv1_30 hv1_31
 refine QSeq.nil (t' := [_, _, _, _, _, _, _, _, _, _, _, _, _, _, _, _, _, _, _, _, _, _, _, _, _, _, _, _, _, _, _, _, _, _]) rfl ?_
 obtain rfl := HA0.out
 clear HA0 oe2 oe3
 simp only [pz, Act.put, sIB, sCZ, sCS]
 go_wp2
 go_ret
 exact ⟨ret_bool (pm_eqb x y), (HM0.out.trans Cx3.out (fun _ _ h => h.elim))⟩
set_option maxHeartbeats 4000000 in
theorem Eq_Op : Eqs OpR 64 := by
 intro R R2 cs ds x y w hx hy hB hB2
 obtain ⟨vx_pl, rfl, hokx, hx_pl⟩ := hx
 obtain ⟨ax_pl, kx_pl, rfl⟩ := hx_pl.shape
 have Hx_pl := Lib.hid hx_pl
 clear hx_pl
 have HOKx := Lib.hid hokx
 clear hokx
 obtain ⟨vy_pl, rfl, hoky, hy_pl⟩ := hy
 obtain ⟨ay_pl, ky_pl, rfl⟩ := hy_pl.shape
 have Hy_pl := Lib.hid hy_pl
 clear hy_pl
 have HOKy := Lib.hid hoky
 clear hoky
 have HBR := Lib.hid hB
 have HBT := Lib.hid hB2
 clear hB hB2
 go_enter Tryz.func64, Tryz.ntmps64
 go_upto_region 1 with (fail)
 obtain ⟨w1, hw1⟩ : ∃ zz, zz = ((w.alloc (.cells (x.cells (.slice ax_pl x.pl.length kx_pl) : List Value).toArray 54)).alloc (.cells (y.cells (.slice ay_pl y.pl.length ky_pl) : List Value).toArray 54)) := ⟨_, rfl⟩
 change Code.wp _ _ _ _ ((w.alloc (.cells (x.cells (.slice ax_pl x.pl.length kx_pl) : List Value).toArray 54)).alloc (.cells (y.cells (.slice ay_pl y.pl.length ky_pl) : List Value).toArray 54))
 rw [← hw1]
 have HB2 := hid (show Cs w1 (w.heap.size) (x.cells (.slice ax_pl x.pl.length kx_pl) : List Value).toArray 54 by rw [hw1]; exact (Cs.new _ _ _).alloc _)
 have HB3 := hid (show Cs w1 (w.heap.size + 1) (y.cells (.slice ay_pl y.pl.length ky_pl) : List Value).toArray 54 by rw [hw1]; exact Cs_newN _ _ _ (by simp))
 have hm : Mod (fun _ => False) w w1 := by rw [hw1]; exact ((Mod.refl _ _).alloc _).alloc _
 have HM0 := hid (show Mod (fun _ => False) w w1 from hm.mono (fun _ _ h => h.elim))
 have hs1 : w1.heap.size = w.heap.size + 2 := by rw [hw1]; simp
 have Hx1 := hid (Hx_pl.out.mod hm (fun _ _ h => h))
 clear Hx_pl
 have Hx2 := hid (Hy_pl.out.mod hm (fun _ _ h => h))
 clear Hy_pl
 clear hw1 hm
 go_upto_region 1 with (fail)
 refine wp_region_U 24 [5, 6, 7, 8, 9, 10, 11, 12, 13, 14, 15, 16, 17, 18, 19, 20, 21, 22, 23, 4] [0, 1, 2, 3, 4, 5, 6, 7, 8, 9, 10, 11, 12, 13, 14, 15, 16, 17, 18, 19] (fun a0 HA0 => ?_)
 have oe2 := ev HA0 2 rfl
 have oe3 := ev HA0 3 rfl
 refine QSeq.pure rfl (.pointer (some ⟨w.heap.size, 0, none⟩)) (fun E => ex_field rfl Tryz.underlying54 rfl (by kernel_rfl) (E.v oe2)) ?_
 refine QSeq.pure rfl _ (fun E => ex_load1 rfl Tryz.underlying3 rfl (E.d 0 0) (Cs.hd1 HB2.out rfl)) ?_
 refine QSeq.pure rfl (.pointer (some ⟨w.heap.size + 1, 0, none⟩)) (fun E => ex_field rfl Tryz.underlying54 rfl (by kernel_rfl) (E.v oe3)) ?_
 refine QSeq.pure rfl _ (fun E => ex_load1 rfl Tryz.underlying3 rfl (E.d 2 0) (Cs.hd1 HB3.out rfl)) ?_
 refine QSeq.pure rfl (.bool (x.ix == y.ix)) (fun E => ex_bin rfl (E.d 1 2) (E.d 3 0) (guard_ints _ _ _ _ _ _) (run_eql_i _ _ _ Tryz.underlying3)) ?_
 refine QSeq.pure rfl _ (fun E => ex_move rfl (E.d 4 0)) ?_
 refine QSeq.may (b := (x.ix == y.ix)) rfl (.pointer (some ⟨w.heap.size, 2, none⟩)) (fun E => ((wanted_of rfl rfl (E.sz 10 (by decide)) (E.d 5 0)).trans (beq_t _))) (fun E hb => ex_field rfl Tryz.underlying54 rfl (by kernel_rfl) (E.v oe2)) ?_
 intro v1_6 hw
 have hv1_6 := hid hw
 clear hw
 refine QSeq.may (b := (x.ix == y.ix)) rfl (hv x.nc) (fun E => ((wanted_of rfl rfl (E.sz 10 (by decide)) (E.d 5 1)).trans (beq_t _))) (fun E hb => ex_loadA rfl Tryz.underlying25 rfl (off := 2) (cs := x.nc.map bv) (by rw [List.length_map, HOKx.out.2.1]; exact size_hash) ((E.q 6 0 hv1_6.out).1 hb) (Cs.tlA HB2.out rfl)) ?_
 intro v1_7 hw
 have hv1_7 := hid hw
 clear hw
 refine QSeq.may (b := (x.ix == y.ix)) rfl (.pointer (some ⟨w.heap.size + 1, 2, none⟩)) (fun E => ((wanted_of rfl rfl (E.sz 10 (by decide)) (E.d 5 2)).trans (beq_t _))) (fun E hb => ex_field rfl Tryz.underlying54 rfl (by kernel_rfl) (E.v oe3)) ?_
 intro v1_8 hw
 have hv1_8 := hid hw
 clear hw
 refine QSeq.may (b := (x.ix == y.ix)) rfl (hv y.nc) (fun E => ((wanted_of rfl rfl (E.sz 10 (by decide)) (E.d 5 3)).trans (beq_t _))) (fun E hb => ex_loadA rfl Tryz.underlying25 rfl (off := 2) (cs := y.nc.map bv) (by rw [List.length_map, HOKy.out.2.1]; exact size_hash) ((E.q 8 0 hv1_8.out).1 hb) (Cs.tlA HB3.out rfl)) ?_
 intro v1_9 hw
 have hv1_9 := hid hw
 clear hw
 refine QSeq.may (b := (x.ix == y.ix)) rfl (.bool (eqb x.nc y.nc)) (fun E => ((wanted_of rfl rfl (E.sz 10 (by decide)) (E.d 5 4)).trans (beq_t _))) (fun E hb => ex_binE rfl ((E.q 7 2 hv1_7.out).1 hb) ((E.q 9 0 hv1_9.out).1 hb) (hv_guard2 _ _ _ _ _ _) (hv_eql HOKx.out.2.1 HOKy.out.2.1 _) (congrArg Value.bool (dec_eqb _ _))) ?_
 intro v1_10 hw
 have hv1_10 := hid hw
 clear hw
 refine QSeq.pure rfl (.bool ((x.ix == y.ix) && (eqb x.nc y.nc))) (fun E => ex_pickE rfl (E.d 5 5) rfl rfl (and_val fun hb => (E.q 10 0 hv1_10.out).1 hb)) ?_
 refine QSeq.pure rfl _ (fun E => ex_move rfl (E.d 11 0)) ?_
 refine QSeq.may (b := ((x.ix == y.ix) && (eqb x.nc y.nc))) rfl (.pointer (some ⟨w.heap.size, 1, none⟩)) (fun E => ((wanted_of rfl rfl (E.sz 17 (by decide)) (E.d 12 0)).trans (beq_t _))) (fun E hb => ex_field rfl Tryz.underlying54 rfl (by kernel_rfl) (E.v oe2)) ?_
 intro v1_13 hw
 have hv1_13 := hid hw
 clear hw
 refine QSeq.may (b := ((x.ix == y.ix) && (eqb x.nc y.nc))) rfl (.slice ax_pl x.pl.length kx_pl) (fun E => ((wanted_of rfl rfl (E.sz 17 (by decide)) (E.d 12 1)).trans (beq_t _))) (fun E hb => ex_load1 rfl Tryz.underlying52 rfl ((E.q 13 0 hv1_13.out).1 hb) (Cs.hd1 HB2.out rfl)) ?_
 intro v1_14 hw
 have hv1_14 := hid hw
 clear hw
 refine QSeq.may (b := ((x.ix == y.ix) && (eqb x.nc y.nc))) rfl (.pointer (some ⟨w.heap.size + 1, 1, none⟩)) (fun E => ((wanted_of rfl rfl (E.sz 17 (by decide)) (E.d 12 2)).trans (beq_t _))) (fun E hb => ex_field rfl Tryz.underlying54 rfl (by kernel_rfl) (E.v oe3)) ?_
 intro v1_15 hw
 have hv1_15 := hid hw
 clear hw
 refine QSeq.may (b := ((x.ix == y.ix) && (eqb x.nc y.nc))) rfl (.slice ay_pl y.pl.length ky_pl) (fun E => ((wanted_of rfl rfl (E.sz 17 (by decide)) (E.d 12 3)).trans (beq_t _))) (fun E hb => ex_load1 rfl Tryz.underlying52 rfl ((E.q 15 0 hv1_15.out).1 hb) (Cs.hd1 HB3.out rfl)) ?_
 intro v1_16 hw
 have hv1_16 := hid hw
 clear hw
 refine QSeq.mayCall (b := ((x.ix == y.ix) && (eqb x.nc y.nc))) rfl (.bool (eqb x.pl y.pl)) (args := #[.slice ax_pl x.pl.length kx_pl, .slice ay_pl y.pl.length ky_pl]) (fun E => ((wanted_of rfl rfl (E.sz 17 (by decide)) (E.d 12 4)).trans (beq_t _))) rfl Tryz.func19 (fun E hb => args2 ((E.q 14 2 hv1_14.out).1 hb) ((E.q 16 0 hv1_16.out).1 hb)) (fun hb => Same_B Hx1.out Hx2.out) ?_
 intro v1_17 u1_17 hw hm
 have hv1_17 := hid hw
 clear hw
 have zu1_17 := hm.size
 have Cx3 := hid (show Mod (fun _ => False) w1 u1_17 from hm)
 clear hm
 refine QSeq.pure rfl (.bool (((x.ix == y.ix) && (eqb x.nc y.nc)) && (eqb x.pl y.pl))) (fun E => ex_pickE rfl (E.d 12 5) rfl rfl (and_val fun hb => (E.q 17 0 hv1_17.out).1 hb)) ?_
 refine QSeq.pure rfl _ (fun E => ex_assign rfl (E.d 18 0)) ?_
 clear hv1_6 hv1_7 hv1_8 hv1_9 hv1_10 hv1_13 hv1_14 hv1_15 hv1_16 hv1_17
 refine QSeq.nil (t' := [_, _, _, _, _, _, _, _, _, _, _, _, _, _, _, _, _, _, _, _]) rfl ?_
 obtain rfl := HA0.out
 clear HA0 oe2 oe3
 simp only [pz, Act.put, sIB, sCZ, sCS]
 go_wp2
 go_ret
 exact ⟨ret_bool (op_eqb x y), (HM0.out.trans Cx3.out (fun _ _ h => h.elim))⟩
set_option maxHeartbeats 4000000 in
theorem EqL_Op : EqsL OpR 95 := by
 intro R R2 v v2 l m w hs ht hB hB2
 obtain ⟨ao, cap, rfl⟩ := hs.shape
 obtain ⟨bo, bcap, rfl⟩ := ht.shape
 have hlm : l.length ≤ maxLen := hs.bd
 rw [maxLen_val] at hlm
 have HS := Lib.hid hs
 have HT := Lib.hid ht
 have HBR := Lib.hid hB
 have HBT := Lib.hid hB2
 clear hs ht hB hB2
 go_enter Tryz.func95, Tryz.ntmps95
 go_upto_region 1 with (fail)
 have HM0 := hid (Mod.refl (fun _ => False) w)
 by_cases hl : l.length = m.length
 rotate_left
 ·skip
  go_upto_region 1 with (fail)
  refine wp_region_U 27 [6, 7, 8, 9, 10] [0, 1, 2, 3, 4] (fun a0 HA0 => ?_)
  have oe0 := ev HA0 0 rfl
  have oe1 := ev HA0 1 rfl
  refine QSeq.pure rfl _ (fun E => ex_move rfl (E.v oe0)) ?_
  refine QSeq.pure rfl (.int .i64 l.length) (fun E => ex_lenS rfl (E.d 0 0) Tryz.underlying42) ?_
  refine QSeq.pure rfl _ (fun E => ex_move rfl (E.v oe1)) ?_
  refine QSeq.pure rfl (.int .i64 m.length) (fun E => ex_lenS rfl (E.d 2 0) Tryz.underlying42) ?_
  refine QSeq.pure rfl (.bool true) (fun E => ex_binE rfl (E.d 1 2) (E.d 3 0) (guard_ints _ _ _ _ _ _) (run_neq_i _ _ _ Tryz.underlying3) (congrArg Value.bool (ne_tt (by omega)))) ?_
  refine QSeq.nil (t' := [_, _, _, _, _]) rfl ?_
  obtain rfl := HA0.out
  clear HA0 oe0 oe1
  simp only [pz, Act.put, sIB, sCZ, sCS]
  go_upto_region 2 with (fail)
  refine wp_region_U 27 [4] [0] (fun a0 HA0 => ?_)
  refine QSeq.pure rfl (.bool false) (fun E => ex_assign rfl rfl) ?_
  refine QSeq.nil (t' := [_]) rfl ?_
  obtain rfl := HA0.out
  clear HA0
  simp only [pz, Act.put, sIB, sCZ, sCS]
  go_wp2
  go_ret
  exact ⟨ret_bool (eqb_ne fun e => hl (by rw [e])).symm, HM0.out⟩
 ·skip
  go_upto_region 1 with (fail)
  refine wp_region_U 27 [6, 7, 8, 9, 10] [0, 1, 2, 3, 4] (fun a0 HA0 => ?_)
  have oe0 := ev HA0 0 rfl
  have oe1 := ev HA0 1 rfl
  refine QSeq.pure rfl _ (fun E => ex_move rfl (E.v oe0)) ?_
  refine QSeq.pure rfl (.int .i64 l.length) (fun E => ex_lenS rfl (E.d 0 0) Tryz.underlying42) ?_
  refine QSeq.pure rfl _ (fun E => ex_move rfl (E.v oe1)) ?_
  refine QSeq.pure rfl (.int .i64 m.length) (fun E => ex_lenS rfl (E.d 2 0) Tryz.underlying42) ?_
  refine QSeq.pure rfl (.bool false) (fun E => ex_binE rfl (E.d 1 2) (E.d 3 0) (guard_ints _ _ _ _ _ _) (run_neq_i _ _ _ Tryz.underlying3) (congrArg Value.bool (ne_ff (by omega)))) ?_
  refine QSeq.nil (t' := [_, _, _, _, _]) rfl ?_
  obtain rfl := HA0.out
  clear HA0 oe0 oe1
  simp only [pz, Act.put, sIB, sCZ, sCS]
  go_upto_region 3 with (fail)
  refine wp_region_U 27 [11, 12, 13] [0, 1, 2] (fun a0 HA0 => ?_)
  have oe0 := ev HA0 0 rfl
  refine QSeq.pure rfl _ (fun E => ex_move rfl (E.v oe0)) ?_
  refine QSeq.pure rfl (.int .i64 l.length) (fun E => ex_lenS rfl (E.d 0 0) Tryz.underlying42) ?_
  refine QSeq.pure rfl (.int .i64 0) (fun E => ex_move rfl rfl) ?_
  refine QSeq.nil (t' := [_, _, _]) rfl ?_
  obtain rfl := HA0.out
  clear HA0 oe0
  simp only [pz, Act.put, sIB, sCZ, sCS]
  have HLE := Lib.hid hl
  clear hl
  go_wp2
  go_loopw [13, 5] (fun ti t5 wr => ∃ k : Nat, ti = .int .i64 (k : Int) ∧ k ≤ l.length ∧ l.take k = m.take k ∧ w.heap.size ≤ wr.heap.size ∧ RdS OpR R wr (.slice ao l.length cap) l ∧ RdS OpR R2 wr (.slice bo m.length bcap) m ∧ Mod (fun _ => False) w wr) (fun ti t5 _ => l.length - (intOf ti).toNat)
  case atStart => exact ⟨0, rfl, Nat.zero_le _, rfl, Nat.le_refl _, HS.out, HT.out, HM0.out⟩
  case round =>
   obtain ⟨k, rfl, hk, htk, hz, hs, ht, hm⟩ := hrel
   obtain ⟨wl, rfl⟩ : ∃ x, x = wr := ⟨_, rfl⟩
   have HS2 := Lib.hid hs
   have HT2 := Lib.hid ht
   have HML := Lib.hid hm
   have HTK := Lib.hid htk
   clear hs ht hm htk HS HT HM0
   by_cases hlt : k < l.length
   ·have hlt2 : k < m.length := by have := HLE.out; omega
    go_upto_region 4 with (fail)
    refine wp_region_U 27 [14] [0] (fun a0 HA0 => ?_)
    have oe12 := ev HA0 12 rfl
    have oe13 := ev HA0 13 rfl
    refine QSeq.pure rfl (.bool true) (fun E => ex_binE rfl (E.v oe13) (E.v oe12) (guard_ints _ _ _ _ _ _) (run_lss_i _ _ _ Tryz.underlying3) (congrArg Value.bool (decide_eq_true (by omega)))) ?_
    refine QSeq.nil (t' := [_]) rfl ?_
    obtain rfl := HA0.out
    clear HA0 oe12 oe13
    simp only [pz, Act.put, sIB, sCZ, sCS]
    go_upto_region 5 with (fail)
    refine wp_region_U 27 [15, 5] [0, 1] (fun a0 HA0 => ?_)
    have oe13 := ev HA0 13 rfl
    refine QSeq.pure rfl _ (fun E => ex_move rfl (E.v oe13)) ?_
    refine QSeq.pure rfl _ (fun E => ex_assign rfl (E.d 0 0)) ?_
    refine QSeq.nil (t' := [_, _]) rfl ?_
    obtain rfl := HA0.out
    clear HA0 oe13
    simp only [pz, Act.put, sIB, sCZ, sCS]
    have hat := HS2.out.at hlt
    obtain ⟨g1, o1, c1, eao, hrg, hrd, hcs⟩ := hat
    subst eao
    obtain ⟨x, hx⟩ : ∃ z, z = l[k] := ⟨_, rfl⟩
    rw [← hx] at hrd
    have HX1 := Lib.hid hx
    have hcl : c1.length = 34 := OpR.len hrd
    have HCL1 := Lib.hid hcl
    have HAT1 := hid (show CellsAt R wl g1 (o1 + k * 34) c1 from ⟨hrg, hcs⟩)
    have HRD1 := Lib.hid hrd
    clear hcl hcs hrd hrg hx
    have hat := HT2.out.at hlt2
    obtain ⟨g2, o2, c2, eao, hrg, hrd, hcs⟩ := hat
    subst eao
    obtain ⟨y, hy⟩ : ∃ z, z = m[k] := ⟨_, rfl⟩
    rw [← hy] at hrd
    have HX2 := Lib.hid hy
    have hcl : c2.length = 34 := OpR.len hrd
    have HCL2 := Lib.hid hcl
    have HAT2 := hid (show CellsAt R2 wl g2 (o2 + k * 34) c2 from ⟨hrg, hcs⟩)
    have HRD2 := Lib.hid hrd
    clear hcl hcs hrd hrg hy
    obtain ⟨b, hb⟩ : ∃ b, b = eqb x y := ⟨_, rfl⟩
    have HB := Lib.hid hb
    clear hb
    go_upto_region 6 with (fail)
    generalize ha0 : Act.mk _ _ = a0
    have oe0 : a0.eval (.tmp 0) = .slice (some ⟨g1, o1, none⟩) l.length cap := by rw [← ha0]; rfl
    have oe1 : a0.eval (.tmp 1) = .slice (some ⟨g2, o2, none⟩) m.length bcap := by rw [← ha0]; rfl
    have oe5 : a0.eval (.tmp 5) = .int .i64 ((k : Nat) : Int) := by rw [← ha0]; rfl
    have hsz0 : a0.tmps.size = 27 := by rw [← ha0]; rfl
    have HA0 := hid ha0
    clear ha0
    refine wp_region_Q0 27 hsz0 [16, 17, 18, 19, 20, 21, 22, 23, 24, 25] [qi (.slice (some ⟨g1, o1, none⟩) l.length cap), qi (.int .i64 ((k : Nat) : Int)), qi (.pointer (some ⟨g1, o1 + k * 34, none⟩)), qi (.agg c1.toArray), qi (.slice (some ⟨g2, o2, none⟩) m.length bcap), qi (.int .i64 ((k : Nat) : Int)), qi (.pointer (some ⟨g2, o2 + k * 34, none⟩)), qi (.agg c2.toArray), qi (.bool b), qi (.bool (!b))] ⟨qi_stable, qi_stable, qi_stable, qi_stable, qi_stable, qi_stable, qi_stable, qi_stable, qi_stable, qi_stable, trivial⟩ [8] ⟨?_, ?_, ?_, ?_, ?_, ?_, ?_, ?_, ?_, ?_, trivial⟩ ?_
    ·exact stq (fun E => ex_move rfl (E.v oe0))
    ·exact stq (fun E => ex_move rfl (E.v oe5))
    ·exact stq (fun E => ex_idxS (i := k) (s := 34) rfl Tryz.underlying42 (by kernel_rfl) (E.d 0) (E.d 1) (by first | exact hlt | exact hlt2))
    ·exact stq (fun E => ex_loadA rfl Tryz.underlying54 rfl (off := o1 + k * 34) (cs := c1) (by rw [HCL1.out]; kernel_rfl) (E.d 2) (fun j u hu => ((HAT1.out.mod E.m.old (by intro k h1 h2; have hb := HBR.out k h1; omega))).2 j u hu))
    ·exact stq (fun E => ex_move rfl (E.v oe1))
    ·exact stq (fun E => ex_move rfl (E.v oe5))
    ·exact stq (fun E => ex_idxS (i := k) (s := 34) rfl Tryz.underlying42 (by kernel_rfl) (E.d 4) (E.d 5) (by first | exact hlt | exact hlt2))
    ·exact stq (fun E => ex_loadA rfl Tryz.underlying54 rfl (off := o2 + k * 34) (cs := c2) (by rw [HCL2.out]; kernel_rfl) (E.d 6) (fun j u hu => ((HAT2.out.mod E.m.old (by intro k h1 h2; have hb := HBT.out k h1; omega))).2 j u hu))
    ·exact stepq_chain rfl
    ·exact stq (fun E => ex_not rfl (E.d 8))
    intro u6_0 hr
    have zu6_0 := hr.size
    have Cx1 := hid (hr.new (S := (fun _ => False)))
    clear hr
    refine QChain.go fun Z act E => ?_
    refine qc_callF (args := #[.agg c1.toArray, .agg c2.toArray]) rfl (wanted_none rfl) rfl Tryz.func64 (args2 (E.d 3) (E.d 7)) (HB.out.symm ▸ Eq_Op _ _ _ _ _ _ _ (HRD1.out.mod Cx1.out (fun _ _ h => h)) (HRD2.out.mod Cx1.out (fun _ _ h => h)) (by intro k h1; have hb := HBR.out k h1; omega) (by intro k h1; have hb := HBT.out k h1; omega)) ?_
    rintro e u6_1a ⟨rfl, hm⟩
    have zu6_1a := hm.size
    refine ⟨_, rfl, hm.mono (fun _ _ h => h.elim), (fun _ => rfl), ?_⟩
    intro u6_1 hr
    have zu6_1 := hr.size
    have Cx2 := hid (Cx1.out.go hm hr)
    clear Cx1 hm hr Z act E
    refine QChain.nil fun vs hl hzz hrows hne => ?_
    obtain ⟨Z, hYZ, hZb, hV⟩ := hzz
    have f0 := fvi hV hl 0
    have f1 := fvi hV hl 1
    have f4 := fvi hV hl 4
    have f5 := fvi hV hl 5
    have f8 := fvi hV hl 8
    have f9 := fvi hV hl 9
    rw [show vs = [gw vs 0, gw vs 1, gw vs 2, gw vs 3, gw vs 4, gw vs 5, gw vs 6, gw vs 7, gw vs 8, gw vs 9] from (gw_eta hl).trans rfl]
    have ha0 := HA0.out
    subst ha0
    clear HA0 hV hYZ hZb hsz0 hrows hne oe0 oe1 oe5
    simp only [putAll, Act.put, sIB, sCZ, sCS, f0, f1, f4, f5, f8, f9]
    clear hl f0 f1 f4 f5 f8 f9
    cases b with
    | false =>
     go_upto_region 7 with (fail)
     refine wp_region_U 27 [4] [0] (fun a0 HA0 => ?_)
     refine QSeq.pure rfl (.bool false) (fun E => ex_assign rfl rfl) ?_
     refine QSeq.nil (t' := [_]) rfl ?_
     obtain rfl := HA0.out
     clear HA0
     simp only [pz, Act.put, sIB, sCZ, sCS]
     go_wp2
     go_ret
     exact ⟨ret_bool (take_ne hlt hlt2 (fun e => by have h := HB.out; rw [HX1.out, HX2.out, e, eqb_rfl] at h; cases h)).symm, (HML.out.trans Cx2.out (fun _ _ h => h.elim))⟩
    | true =>
     go_upto_region 8 with (fail)
     refine wp_region_U 27 [26, 13] [0, 1] (fun a0 HA0 => ?_)
     have oe13 := ev HA0 13 rfl
     refine QSeq.pure rfl (.int .i64 (((k : Nat) : Int) + 1)) (fun E => ex_binE rfl (E.y 1 oe13) rfl (guard_ints _ _ _ _ _ _) (run_add_i _ _ Tryz.underlying3) (congrArg (Value.int .i64) (IntWalk.i64_in _ (by omega)))) ?_
     refine QSeq.pure rfl _ (fun E => ex_move rfl (E.d 0 0)) ?_
     refine QSeq.nil (t' := [_, _]) rfl ?_
     obtain rfl := HA0.out
     clear HA0 oe13
     simp only [pz, Act.put, sIB, sCZ, sCS]
     go_wp2
     go_roundw
     case rel => exact ⟨k + 1, by go_num, by omega, take_succ2 hlt hlt2 HTK.out (by have h := eqb_iff.1 HB.out.symm; rw [HX1.out, HX2.out] at h; exact h), by omega, (HS2.out.mod Cx2.out (fun _ _ h => h)), (HT2.out.mod Cx2.out (fun _ _ h => h)), (HML.out.trans Cx2.out (fun _ _ h => h.elim))⟩
     case measure => simp [intOf] <;> omega
   ·skip
    go_upto_region 4 with (fail)
    refine wp_region_U 27 [14] [0] (fun a0 HA0 => ?_)
    have oe12 := ev HA0 12 rfl
    have oe13 := ev HA0 13 rfl
    refine QSeq.pure rfl (.bool false) (fun E => ex_binE rfl (E.v oe13) (E.v oe12) (guard_ints _ _ _ _ _ _) (run_lss_i _ _ _ Tryz.underlying3) (congrArg Value.bool (decide_eq_false (by omega)))) ?_
    refine QSeq.nil (t' := [_]) rfl ?_
    obtain rfl := HA0.out
    clear HA0 oe12 oe13
    simp only [pz, Act.put, sIB, sCZ, sCS]
    go_upto_region 9 with (fail)
    refine wp_region_U 27 [4] [0] (fun a0 HA0 => ?_)
    refine QSeq.pure rfl (.bool true) (fun E => ex_assign rfl rfl) ?_
    refine QSeq.nil (t' := [_]) rfl ?_
    obtain rfl := HA0.out
    clear HA0
    simp only [pz, Act.put, sIB, sCZ, sCS]
    go_wp2
    go_ret
    exact ⟨ret_bool (take_all (by omega) (by have := HLE.out; omega) HTK.out).symm, HML.out⟩
end Go.Proofs.YtpnikilkcifncaaGreat
