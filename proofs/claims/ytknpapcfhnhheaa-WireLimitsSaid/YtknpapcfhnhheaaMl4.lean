/- Texts that are built one behind the other: XGt1, XGt2, XGw, XWhp, XWlp, XBrows, XRowSum, XRowsO, XBt, XSl, XCmEq, XEq. No condition. -/
import Derived.Test.YtknpapcfhnhheaaMl3
set_option maxRecDepth 100000
set_option linter.unusedVariables false
/- Small parts of messages, read. -/
namespace Go.Proofs.Ytknpapcfhnhheaa
open Go Go.RowKit Go.Gv

set_option maxHeartbeats 2000000 in
theorem cSig_Q : GetsF 125 118 (fun x : Int × Int => [.int .i64 x.1, .int .i64 x.2]) gSig := by
  intro R r s w hR hB
  have HRD := Lib.hid hR
  have HBR := Lib.hid hB
  have HBY := hid hR.bytes
  clear hR hB
  go_enter Try.func118, Try.ntmps118
  go_upto_region 1 with (fail)
  obtain ⟨w1, hw1⟩ : ∃ zz, zz = (w.alloc (.cells #[.int .i64 0, .int .i64 0] 28)) := ⟨_, rfl⟩
  change Code.wp _ _ _ _ (w.alloc (.cells #[.int .i64 0, .int .i64 0] 28))
  rw [← hw1]
  have HB2 := hid (show Cs w1 (w.heap.size) #[.int .i64 0, .int .i64 0] 28 by rw [hw1]; exact Cs.new _ _ _)
  have hm : Mod (fun _ => False) w w1 := by rw [hw1]; exact (Mod.refl _ _).alloc _
  have HM0 := hid (show Mod (fun k => (R k)) w w1 from hm.mono (fun _ _ h => h.elim))
  have hs1 : w1.heap.size = w.heap.size + 1 := by rw [hw1]; simp
  have Hx1 := hid (HRD.out.mod hm (fun _ _ h => h))
  clear HRD
  clear hw1 hm
  go_upto_region 1 with (fail)
  refine wp_region_U 8 [3, 4, 5, 6, 7, 13] [0, 1, 2, 3, 4, 5] (fun a0 HA0 => ?_)
  have oe0 := ev HA0 0 rfl
  have oe2 := ev HA0 2 rfl
  refine QSeq.pure rfl _ (fun E => ex_move rfl (E.v oe0)) ?_
  refine QSeq.call rfl rfl Try.func115 (cI_Q Hx1.out) (fun E => args2 (E.d 0 0) rfl) ?_
  rintro e u1_1 ⟨rfl, qrd, hm⟩
  refine ⟨_, rfl, ?_⟩
  have Hx2 := hid qrd
  have zu1_1 := hm.size
  have Cx3 := hid (show Mod (fun k => (R k)) w1 u1_1 from hm)
  clear hm
  clear qrd Hx1
  refine QSeq.pure rfl _ (fun E => ex_move rfl (E.v oe0)) ?_
  refine QSeq.call rfl rfl Try.func115 (cI_Q Hx2.out) (fun E => args2 (E.d 2 0) rfl) ?_
  rintro e u1_3 ⟨rfl, qrd, hm⟩
  refine ⟨_, rfl, ?_⟩
  have Hx4 := hid qrd
  have zu1_3 := hm.size
  have HMu1_3 := hid hm
  have Cx5 := hid (Mod.goS (S' := (fun k => (R k))) Cx3.out hm (fun _ h => h) (by intro k h0 h2; exact h2))
  clear hm Cx3
  clear qrd Hx2
  refine QSeq.go fun act E => ?_
  refine qc_run rfl (wanted_none rfl) (v := .agg #[.int .i64 (gSig s).1.1, .int .i64 (gSig s).1.2]) (ex_build rfl (z := [.int .i64 0, .int .i64 0]) (places := [(0, 1), (1, 1)]) (by kernel_rfl) (parts := [(0, .int .i64 (gI s).1), (1, .int .i64 (gI (gI s).2).1)]) (by simp only [List.map_toArray, List.map_cons, List.map_nil, show act.eval (.tmp 4) = .int .i64 (gI s).1 from (E.d 1 2), show act.eval (.tmp 6) = .int .i64 (gI (gI s).2).1 from (E.d 3 0)]; try rfl) (r := [.int .i64 (gSig s).1.1, .int .i64 (gSig s).1.2]) (by exact laid_segs (ns := [1, 1]) rfl [(0, .int .i64 (gI s).1), (1, .int .i64 (gI (gI s).2).1)] [[.int .i64 0], [.int .i64 0]] rfl ⟨rfl, rfl, trivial⟩)) ?_
  clear act E
  refine QSeq.go fun act E => ?_
  refine qc_store rfl (wanted_none rfl) rfl (HB2.out.mod Cx5.out (by intro h2; first | omega | (have hb := HBR.out _ h2; omega))) (off := 0) (vs := ([.int .i64 (gSig s).1.1, .int .i64 (gSig s).1.2])) (by kernel_rfl) (by intro u hu; simp at hu; rcases hu with rfl | rfl <;> rfl) (by simp) (E.v oe2) (ec (E.d 4 0)) ?_
  intro u1_5 qc0 hm
  have qB2 := qc0.eqv (b := (([.int .i64 (gSig s).1.1, .int .i64 (gSig s).1.2]) : List Value).toArray) (lay_whole #[.int .i64 0, .int .i64 0] _ rfl)
  clear qc0
  have Hx6 := hid qB2
  have zu1_5 := hm.size
  have HMu1_5 := hid hm
  have Cx7 := hid (Mod.goS (S' := (fun k => (R k) ∨ (k = w.heap.size))) Cx5.out hm (fun _ h => Or.inl h) (by intro k h0 h2; exact Or.inr (h2)))
  clear hm Cx5
  clear act E qB2 HB2
  have Hx8 := hid (Hx4.out.mod HMu1_5.out (sB HBR))
  clear Hx4 HMu1_3 HMu1_5
  refine QSeq.nil (t' := [_, _, _, _, _, _]) rfl ?_
  obtain rfl := HA0.out
  clear HA0 oe0 oe2
  simp only [pz, Act.put, List.setIfInBounds_toArray, List.set_cons_zero, List.set_cons_succ, List.set_nil]
  go_wp2
  exact bodyPost_ret (results_cellA rfl _ _ w.heap.size ([.int .i64 (gSig s).1.1, .int .i64 (gSig s).1.2]) rfl (fun k u hu => by rw [Hx6.out.cell]; simpa using hu) Try.underlying28 rfl (by kernel_rfl)) rfl ⟨rfl, Hx8.out, (HM0.out.trans Cx7.out (by intro k h1 h2; rcases h2 with h2 | h2 <;> first | exact h2 | omega | (have hb := HBR.out k h2; omega)))⟩
set_option maxHeartbeats 2000000 in
theorem cName_Q : GetsF 125 143 (fun x : Int × Int => [.int .i64 x.1, .int .i64 x.2]) gSig := by
  intro R r s w hR hB
  have HRD := Lib.hid hR
  have HBR := Lib.hid hB
  have HBY := hid hR.bytes
  clear hR hB
  go_enter Try.func143, Try.ntmps143
  go_upto_region 1 with (fail)
  obtain ⟨w1, hw1⟩ : ∃ zz, zz = (w.alloc (.cells #[.int .i64 0, .int .i64 0] 23)) := ⟨_, rfl⟩
  change Code.wp _ _ _ _ (w.alloc (.cells #[.int .i64 0, .int .i64 0] 23))
  rw [← hw1]
  have HB2 := hid (show Cs w1 (w.heap.size) #[.int .i64 0, .int .i64 0] 23 by rw [hw1]; exact Cs.new _ _ _)
  have hm : Mod (fun _ => False) w w1 := by rw [hw1]; exact (Mod.refl _ _).alloc _
  have HM0 := hid (show Mod (fun k => (R k)) w w1 from hm.mono (fun _ _ h => h.elim))
  have hs1 : w1.heap.size = w.heap.size + 1 := by rw [hw1]; simp
  have Hx1 := hid (HRD.out.mod hm (fun _ _ h => h))
  clear HRD
  clear hw1 hm
  go_upto_region 1 with (fail)
  refine wp_region_U 8 [3, 4, 5, 6, 7, 13] [0, 1, 2, 3, 4, 5] (fun a0 HA0 => ?_)
  have oe0 := ev HA0 0 rfl
  have oe2 := ev HA0 2 rfl
  refine QSeq.pure rfl _ (fun E => ex_move rfl (E.v oe0)) ?_
  refine QSeq.call rfl rfl Try.func115 (cI_Q Hx1.out) (fun E => args2 (E.d 0 0) rfl) ?_
  rintro e u1_1 ⟨rfl, qrd, hm⟩
  refine ⟨_, rfl, ?_⟩
  have Hx2 := hid qrd
  have zu1_1 := hm.size
  have Cx3 := hid (show Mod (fun k => (R k)) w1 u1_1 from hm)
  clear hm
  clear qrd Hx1
  refine QSeq.pure rfl _ (fun E => ex_move rfl (E.v oe0)) ?_
  refine QSeq.call rfl rfl Try.func115 (cI_Q Hx2.out) (fun E => args2 (E.d 2 0) rfl) ?_
  rintro e u1_3 ⟨rfl, qrd, hm⟩
  refine ⟨_, rfl, ?_⟩
  have Hx4 := hid qrd
  have zu1_3 := hm.size
  have HMu1_3 := hid hm
  have Cx5 := hid (Mod.goS (S' := (fun k => (R k))) Cx3.out hm (fun _ h => h) (by intro k h0 h2; exact h2))
  clear hm Cx3
  clear qrd Hx2
  refine QSeq.go fun act E => ?_
  refine qc_run rfl (wanted_none rfl) (v := .agg #[.int .i64 (gSig s).1.1, .int .i64 (gSig s).1.2]) (ex_build rfl (z := [.int .i64 0, .int .i64 0]) (places := [(0, 1), (1, 1)]) (by kernel_rfl) (parts := [(0, .int .i64 (gI s).1), (1, .int .i64 (gI (gI s).2).1)]) (by simp only [List.map_toArray, List.map_cons, List.map_nil, show act.eval (.tmp 4) = .int .i64 (gI s).1 from (E.d 1 2), show act.eval (.tmp 6) = .int .i64 (gI (gI s).2).1 from (E.d 3 0)]; try rfl) (r := [.int .i64 (gSig s).1.1, .int .i64 (gSig s).1.2]) (by exact laid_segs (ns := [1, 1]) rfl [(0, .int .i64 (gI s).1), (1, .int .i64 (gI (gI s).2).1)] [[.int .i64 0], [.int .i64 0]] rfl ⟨rfl, rfl, trivial⟩)) ?_
  clear act E
  refine QSeq.go fun act E => ?_
  refine qc_store rfl (wanted_none rfl) rfl (HB2.out.mod Cx5.out (by intro h2; first | omega | (have hb := HBR.out _ h2; omega))) (off := 0) (vs := ([.int .i64 (gSig s).1.1, .int .i64 (gSig s).1.2])) (by kernel_rfl) (by intro u hu; simp at hu; rcases hu with rfl | rfl <;> rfl) (by simp) (E.v oe2) (ec (E.d 4 0)) ?_
  intro u1_5 qc0 hm
  have qB2 := qc0.eqv (b := (([.int .i64 (gSig s).1.1, .int .i64 (gSig s).1.2]) : List Value).toArray) (lay_whole #[.int .i64 0, .int .i64 0] _ rfl)
  clear qc0
  have Hx6 := hid qB2
  have zu1_5 := hm.size
  have HMu1_5 := hid hm
  have Cx7 := hid (Mod.goS (S' := (fun k => (R k) ∨ (k = w.heap.size))) Cx5.out hm (fun _ h => Or.inl h) (by intro k h0 h2; exact Or.inr (h2)))
  clear hm Cx5
  clear act E qB2 HB2
  have Hx8 := hid (Hx4.out.mod HMu1_5.out (sB HBR))
  clear Hx4 HMu1_3 HMu1_5
  refine QSeq.nil (t' := [_, _, _, _, _, _]) rfl ?_
  obtain rfl := HA0.out
  clear HA0 oe0 oe2
  simp only [pz, Act.put, List.setIfInBounds_toArray, List.set_cons_zero, List.set_cons_succ, List.set_nil]
  go_wp2
  exact bodyPost_ret (results_cellA rfl _ _ w.heap.size ([.int .i64 (gSig s).1.1, .int .i64 (gSig s).1.2]) rfl (fun k u hu => by rw [Hx6.out.cell]; simpa using hu) Try.underlying23 rfl (by kernel_rfl)) rfl ⟨rfl, Hx8.out, (HM0.out.trans Cx7.out (by intro k h1 h2; rcases h2 with h2 | h2 <;> first | exact h2 | omega | (have hb := HBR.out k h2; omega)))⟩
set_option maxHeartbeats 4000000 in
theorem cCm_Q : GetsF 125 109 Cm.cells gCm := by
  intro R r s w hR hB
  have HRD := Lib.hid hR
  have HBR := Lib.hid hB
  have HBY := hid hR.bytes
  clear hR hB
  go_enter Try.func109, Try.ntmps109
  go_upto_region 1 with (fail)
  obtain ⟨w1, hw1⟩ : ∃ zz, zz = (w.alloc (.cells #[.int .i64 0, .int .i64 0, .int .u8 0, .int .u8 0, .int .u8 0, .int .u8 0, .int .u8 0, .int .u8 0, .int .u8 0, .int .u8 0, .int .u8 0, .int .u8 0, .int .u8 0, .int .u8 0, .int .u8 0, .int .u8 0, .int .u8 0, .int .u8 0, .int .u8 0, .int .u8 0, .int .u8 0, .int .u8 0, .int .u8 0, .int .u8 0, .int .u8 0, .int .u8 0, .int .u8 0, .int .u8 0, .int .u8 0, .int .u8 0, .int .u8 0, .int .u8 0, .int .u8 0, .int .u8 0, .int .i64 0, .int .i64 0, .int .i64 0] 49)) := ⟨_, rfl⟩
  change Code.wp _ _ _ _ (w.alloc (.cells #[.int .i64 0, .int .i64 0, .int .u8 0, .int .u8 0, .int .u8 0, .int .u8 0, .int .u8 0, .int .u8 0, .int .u8 0, .int .u8 0, .int .u8 0, .int .u8 0, .int .u8 0, .int .u8 0, .int .u8 0, .int .u8 0, .int .u8 0, .int .u8 0, .int .u8 0, .int .u8 0, .int .u8 0, .int .u8 0, .int .u8 0, .int .u8 0, .int .u8 0, .int .u8 0, .int .u8 0, .int .u8 0, .int .u8 0, .int .u8 0, .int .u8 0, .int .u8 0, .int .u8 0, .int .u8 0, .int .i64 0, .int .i64 0, .int .i64 0] 49))
  rw [← hw1]
  have HB2 := hid (show Cs w1 (w.heap.size) #[.int .i64 0, .int .i64 0, .int .u8 0, .int .u8 0, .int .u8 0, .int .u8 0, .int .u8 0, .int .u8 0, .int .u8 0, .int .u8 0, .int .u8 0, .int .u8 0, .int .u8 0, .int .u8 0, .int .u8 0, .int .u8 0, .int .u8 0, .int .u8 0, .int .u8 0, .int .u8 0, .int .u8 0, .int .u8 0, .int .u8 0, .int .u8 0, .int .u8 0, .int .u8 0, .int .u8 0, .int .u8 0, .int .u8 0, .int .u8 0, .int .u8 0, .int .u8 0, .int .u8 0, .int .u8 0, .int .i64 0, .int .i64 0, .int .i64 0] 49 by rw [hw1]; exact Cs.new _ _ _)
  have hm : Mod (fun _ => False) w w1 := by rw [hw1]; exact (Mod.refl _ _).alloc _
  have HM0 := hid (show Mod (fun k => (R k)) w w1 from hm.mono (fun _ _ h => h.elim))
  have hs1 : w1.heap.size = w.heap.size + 1 := by rw [hw1]; simp
  have Hx1 := hid (HRD.out.mod hm (fun _ _ h => h))
  clear HRD
  clear hw1 hm
  go_upto_region 1 with (fail)
  refine wp_region_U 12 [3, 4, 5, 6, 7, 8, 9, 10, 11, 21] [0, 1, 2, 3, 4, 5, 6, 7, 8, 9] (fun a0 HA0 => ?_)
  have oe0 := ev HA0 0 rfl
  have oe2 := ev HA0 2 rfl
  refine QSeq.pure rfl _ (fun E => ex_move rfl (E.v oe0)) ?_
  refine QSeq.call rfl rfl Try.func143 (cName_Q _ _ _ _ Hx1.out (by intro k h1; have hb := HBR.out k h1; omega)) (fun E => args1 (E.d 0 0)) ?_
  rintro e u1_1 ⟨rfl, qrd, hm⟩
  refine ⟨_, rfl, ?_⟩
  have Hx2 := hid qrd
  have zu1_1 := hm.size
  have Cx3 := hid (show Mod (fun k => (R k)) w1 u1_1 from hm)
  clear hm
  clear qrd Hx1
  refine QSeq.pure rfl _ (fun E => ex_move rfl (E.v oe0)) ?_
  refine QSeq.call rfl rfl Try.func144 (RHash_R Hx2.out) (fun E => args1 (E.d 2 0)) ?_
  rintro e u1_3 ⟨rfl, qrd, hm⟩
  refine ⟨_, rfl, ?_⟩
  have Hx4 := hid qrd
  have zu1_3 := hm.size
  have HMu1_3 := hid hm
  have Cx5 := hid (Mod.goS (S' := (fun k => (R k))) Cx3.out hm (fun _ h => h) (by intro k h0 h2; exact h2))
  clear hm Cx3
  clear qrd Hx2
  refine QSeq.pure rfl _ (fun E => ex_move rfl (E.v oe0)) ?_
  refine QSeq.call rfl rfl Try.func115 (cI_Q Hx4.out) (fun E => args2 (E.d 4 0) rfl) ?_
  rintro e u1_5 ⟨rfl, qrd, hm⟩
  refine ⟨_, rfl, ?_⟩
  have Hx6 := hid qrd
  have zu1_5 := hm.size
  have HMu1_5 := hid hm
  have Cx7 := hid (Mod.goS (S' := (fun k => (R k))) Cx5.out hm (fun _ h => h) (by intro k h0 h2; exact h2))
  clear hm Cx5
  clear qrd Hx4
  refine QSeq.pure rfl _ (fun E => ex_move rfl (E.v oe0)) ?_
  refine QSeq.call rfl rfl Try.func118 (cSig_Q _ _ _ _ Hx6.out (by intro k h1; have hb := HBR.out k h1; omega)) (fun E => args1 (E.d 6 0)) ?_
  rintro e u1_7 ⟨rfl, qrd, hm⟩
  refine ⟨_, rfl, ?_⟩
  have Hx8 := hid qrd
  have zu1_7 := hm.size
  have HMu1_7 := hid hm
  have Cx9 := hid (Mod.goS (S' := (fun k => (R k))) Cx7.out hm (fun _ h => h) (by intro k h0 h2; exact h2))
  clear hm Cx7
  clear qrd Hx6
  refine QSeq.go fun act E => ?_
  refine qc_run rfl (wanted_none rfl) (v := .agg ((gCm s).1.cells : List Value).toArray) (ex_build rfl (z := [.int .i64 0, .int .i64 0, .int .u8 0, .int .u8 0, .int .u8 0, .int .u8 0, .int .u8 0, .int .u8 0, .int .u8 0, .int .u8 0, .int .u8 0, .int .u8 0, .int .u8 0, .int .u8 0, .int .u8 0, .int .u8 0, .int .u8 0, .int .u8 0, .int .u8 0, .int .u8 0, .int .u8 0, .int .u8 0, .int .u8 0, .int .u8 0, .int .u8 0, .int .u8 0, .int .u8 0, .int .u8 0, .int .u8 0, .int .u8 0, .int .u8 0, .int .u8 0, .int .u8 0, .int .u8 0, .int .i64 0, .int .i64 0, .int .i64 0]) (places := [(0, 2), (2, 32), (34, 1), (35, 2)]) (by kernel_rfl) (parts := [(0, .agg #[.int .i64 (gSig s).1.1, .int .i64 (gSig s).1.2]), (1, hv (rHash (gSig s).2).1), (2, .int .i64 (gI (rHash (gSig s).2).2).1), (3, .agg #[.int .i64 (gSig (gI (rHash (gSig s).2).2).2).1.1, .int .i64 (gSig (gI (rHash (gSig s).2).2).2).1.2])]) (by simp only [List.map_toArray, List.map_cons, List.map_nil, show act.eval (.tmp 4) = .agg #[.int .i64 (gSig s).1.1, .int .i64 (gSig s).1.2] from (E.d 1 6), show act.eval (.tmp 6) = hv (rHash (gSig s).2).1 from (E.d 3 4), show act.eval (.tmp 8) = .int .i64 (gI (rHash (gSig s).2).2).1 from (E.d 5 2), show act.eval (.tmp 10) = .agg #[.int .i64 (gSig (gI (rHash (gSig s).2).2).2).1.1, .int .i64 (gSig (gI (rHash (gSig s).2).2).2).1.2] from (E.d 7 0)]; try rfl) (r := (gCm s).1.cells) (by exact laid_segs (ns := [2, 32, 1, 2]) rfl [(0, .agg #[.int .i64 (gSig s).1.1, .int .i64 (gSig s).1.2]), (1, hv (rHash (gSig s).2).1), (2, .int .i64 (gI (rHash (gSig s).2).2).1), (3, .agg #[.int .i64 (gSig (gI (rHash (gSig s).2).2).2).1.1, .int .i64 (gSig (gI (rHash (gSig s).2).2).2).1.2])] [[.int .i64 0, .int .i64 0], [.int .u8 0, .int .u8 0, .int .u8 0, .int .u8 0, .int .u8 0, .int .u8 0, .int .u8 0, .int .u8 0, .int .u8 0, .int .u8 0, .int .u8 0, .int .u8 0, .int .u8 0, .int .u8 0, .int .u8 0, .int .u8 0, .int .u8 0, .int .u8 0, .int .u8 0, .int .u8 0, .int .u8 0, .int .u8 0, .int .u8 0, .int .u8 0, .int .u8 0, .int .u8 0, .int .u8 0, .int .u8 0, .int .u8 0, .int .u8 0, .int .u8 0, .int .u8 0], [.int .i64 0], [.int .i64 0, .int .i64 0]] rfl ⟨rfl, (szv (by rw [List.length_map]; exact rHash_l _)), rfl, rfl, trivial⟩)) ?_
  clear act E
  refine QSeq.go fun act E => ?_
  refine qc_store rfl (wanted_none rfl) rfl (HB2.out.mod Cx9.out (by intro h2; first | omega | (have hb := HBR.out _ h2; omega))) (off := 0) (vs := ((gCm s).1.cells)) (by rw [show ((gCm s).1.cells).length = _ from (Cm.len (rHash_HK (gSig_suf.bytes HBY.out)).1)]; kernel_rfl) (Cm_one _) (by rw [show ((gCm s).1.cells).length = _ from (Cm.len (rHash_HK (gSig_suf.bytes HBY.out)).1)]; decide) (E.v oe2) (ec (E.d 8 0)) ?_
  intro u1_9 qc0 hm
  have qB2 := qc0.eqv (b := (((gCm s).1.cells) : List Value).toArray) (lay_whole _ _ (by rw [show ((gCm s).1.cells).length = _ from (Cm.len (rHash_HK (gSig_suf.bytes HBY.out)).1)]; rfl))
  clear qc0
  have Hx10 := hid qB2
  have zu1_9 := hm.size
  have HMu1_9 := hid hm
  have Cx11 := hid (Mod.goS (S' := (fun k => (R k) ∨ (k = w.heap.size))) Cx9.out hm (fun _ h => Or.inl h) (by intro k h0 h2; exact Or.inr (h2)))
  clear hm Cx9
  clear act E qB2 HB2
  have Hx12 := hid (Hx8.out.mod HMu1_9.out (sB HBR))
  clear Hx8 HMu1_3 HMu1_5 HMu1_7 HMu1_9
  refine QSeq.nil (t' := [_, _, _, _, _, _, _, _, _, _]) rfl ?_
  obtain rfl := HA0.out
  clear HA0 oe0 oe2
  simp only [pz, Act.put, List.setIfInBounds_toArray, List.set_cons_zero, List.set_cons_succ, List.set_nil]
  go_wp2
  exact bodyPost_ret (results_cellA rfl _ _ w.heap.size ((gCm s).1.cells) rfl (fun k u hu => by rw [Hx10.out.cell]; simpa using hu) Try.underlying49 rfl (by rw [show ((gCm s).1.cells).length = _ from (Cm.len (rHash_HK (gSig_suf.bytes HBY.out)).1)]; kernel_rfl)) rfl ⟨rfl, Hx12.out, (HM0.out.trans Cx11.out (by intro k h1 h2; rcases h2 with h2 | h2 <;> first | exact h2 | omega | (have hb := HBR.out k h2; omega)))⟩
set_option maxHeartbeats 4000000 in
theorem cSt_Q : GetsF 125 111 St.cells gSt := by
  intro R r s w hR hB
  have HRD := Lib.hid hR
  have HBR := Lib.hid hB
  have HBY := hid hR.bytes
  clear hR hB
  go_enter Try.func111, Try.ntmps111
  go_upto_region 1 with (fail)
  obtain ⟨w1, hw1⟩ : ∃ zz, zz = (w.alloc (.cells #[.int .i64 0, .int .i64 0, .int .i64 0, .int .u8 0, .int .u8 0, .int .u8 0, .int .u8 0, .int .u8 0, .int .u8 0, .int .u8 0, .int .u8 0, .int .u8 0, .int .u8 0, .int .u8 0, .int .u8 0, .int .u8 0, .int .u8 0, .int .u8 0, .int .u8 0, .int .u8 0, .int .u8 0, .int .u8 0, .int .u8 0, .int .u8 0, .int .u8 0, .int .u8 0, .int .u8 0, .int .u8 0, .int .u8 0, .int .u8 0, .int .u8 0, .int .u8 0, .int .u8 0, .int .u8 0, .int .u8 0, .int .u64 0, .int .i64 0, .int .i64 0] 30)) := ⟨_, rfl⟩
  change Code.wp _ _ _ _ (w.alloc (.cells #[.int .i64 0, .int .i64 0, .int .i64 0, .int .u8 0, .int .u8 0, .int .u8 0, .int .u8 0, .int .u8 0, .int .u8 0, .int .u8 0, .int .u8 0, .int .u8 0, .int .u8 0, .int .u8 0, .int .u8 0, .int .u8 0, .int .u8 0, .int .u8 0, .int .u8 0, .int .u8 0, .int .u8 0, .int .u8 0, .int .u8 0, .int .u8 0, .int .u8 0, .int .u8 0, .int .u8 0, .int .u8 0, .int .u8 0, .int .u8 0, .int .u8 0, .int .u8 0, .int .u8 0, .int .u8 0, .int .u8 0, .int .u64 0, .int .i64 0, .int .i64 0] 30))
  rw [← hw1]
  have HB2 := hid (show Cs w1 (w.heap.size) #[.int .i64 0, .int .i64 0, .int .i64 0, .int .u8 0, .int .u8 0, .int .u8 0, .int .u8 0, .int .u8 0, .int .u8 0, .int .u8 0, .int .u8 0, .int .u8 0, .int .u8 0, .int .u8 0, .int .u8 0, .int .u8 0, .int .u8 0, .int .u8 0, .int .u8 0, .int .u8 0, .int .u8 0, .int .u8 0, .int .u8 0, .int .u8 0, .int .u8 0, .int .u8 0, .int .u8 0, .int .u8 0, .int .u8 0, .int .u8 0, .int .u8 0, .int .u8 0, .int .u8 0, .int .u8 0, .int .u8 0, .int .u64 0, .int .i64 0, .int .i64 0] 30 by rw [hw1]; exact Cs.new _ _ _)
  have hm : Mod (fun _ => False) w w1 := by rw [hw1]; exact (Mod.refl _ _).alloc _
  have HM0 := hid (show Mod (fun k => (R k)) w w1 from hm.mono (fun _ _ h => h.elim))
  have hs1 : w1.heap.size = w.heap.size + 1 := by rw [hw1]; simp
  have Hx1 := hid (HRD.out.mod hm (fun _ _ h => h))
  clear HRD
  clear hw1 hm
  go_upto_region 1 with (fail)
  refine wp_region_U 14 [3, 4, 5, 6, 7, 8, 9, 10, 11, 12, 13, 25] [0, 1, 2, 3, 4, 5, 6, 7, 8, 9, 10, 11] (fun a0 HA0 => ?_)
  have oe0 := ev HA0 0 rfl
  have oe2 := ev HA0 2 rfl
  refine QSeq.pure rfl _ (fun E => ex_move rfl (E.v oe0)) ?_
  refine QSeq.call rfl rfl Try.func115 (cI_Q Hx1.out) (fun E => args2 (E.d 0 0) rfl) ?_
  rintro e u1_1 ⟨rfl, qrd, hm⟩
  refine ⟨_, rfl, ?_⟩
  have Hx2 := hid qrd
  have zu1_1 := hm.size
  have Cx3 := hid (show Mod (fun k => (R k)) w1 u1_1 from hm)
  clear hm
  clear qrd Hx1
  refine QSeq.pure rfl _ (fun E => ex_move rfl (E.v oe0)) ?_
  refine QSeq.call rfl rfl Try.func143 (cName_Q _ _ _ _ Hx2.out (by intro k h1; have hb := HBR.out k h1; omega)) (fun E => args1 (E.d 2 0)) ?_
  rintro e u1_3 ⟨rfl, qrd, hm⟩
  refine ⟨_, rfl, ?_⟩
  have Hx4 := hid qrd
  have zu1_3 := hm.size
  have HMu1_3 := hid hm
  have Cx5 := hid (Mod.goS (S' := (fun k => (R k))) Cx3.out hm (fun _ h => h) (by intro k h0 h2; exact h2))
  clear hm Cx3
  clear qrd Hx2
  refine QSeq.pure rfl _ (fun E => ex_move rfl (E.v oe0)) ?_
  refine QSeq.call rfl rfl Try.func144 (RHash_R Hx4.out) (fun E => args1 (E.d 4 0)) ?_
  rintro e u1_5 ⟨rfl, qrd, hm⟩
  refine ⟨_, rfl, ?_⟩
  have Hx6 := hid qrd
  have zu1_5 := hm.size
  have HMu1_5 := hid hm
  have Cx7 := hid (Mod.goS (S' := (fun k => (R k))) Cx5.out hm (fun _ h => h) (by intro k h0 h2; exact h2))
  clear hm Cx5
  clear qrd Hx4
  refine QSeq.pure rfl _ (fun E => ex_move rfl (E.v oe0)) ?_
  refine QSeq.call rfl rfl Try.func116 (RNum_R Hx6.out) (fun E => args1 (E.d 6 0)) ?_
  rintro e u1_7 ⟨rfl, qrd, hm⟩
  refine ⟨_, rfl, ?_⟩
  have Hx8 := hid qrd
  have zu1_7 := hm.size
  have HMu1_7 := hid hm
  have Cx9 := hid (Mod.goS (S' := (fun k => (R k))) Cx7.out hm (fun _ h => h) (by intro k h0 h2; exact h2))
  clear hm Cx7
  clear qrd Hx6
  refine QSeq.pure rfl _ (fun E => ex_move rfl (E.v oe0)) ?_
  refine QSeq.call rfl rfl Try.func118 (cSig_Q _ _ _ _ Hx8.out (by intro k h1; have hb := HBR.out k h1; omega)) (fun E => args1 (E.d 8 0)) ?_
  rintro e u1_9 ⟨rfl, qrd, hm⟩
  refine ⟨_, rfl, ?_⟩
  have Hx10 := hid qrd
  have zu1_9 := hm.size
  have HMu1_9 := hid hm
  have Cx11 := hid (Mod.goS (S' := (fun k => (R k))) Cx9.out hm (fun _ h => h) (by intro k h0 h2; exact h2))
  clear hm Cx9
  clear qrd Hx8
  refine QSeq.go fun act E => ?_
  refine qc_run rfl (wanted_none rfl) (v := .agg ((gSt s).1.cells : List Value).toArray) (ex_build rfl (z := [.int .i64 0, .int .i64 0, .int .i64 0, .int .u8 0, .int .u8 0, .int .u8 0, .int .u8 0, .int .u8 0, .int .u8 0, .int .u8 0, .int .u8 0, .int .u8 0, .int .u8 0, .int .u8 0, .int .u8 0, .int .u8 0, .int .u8 0, .int .u8 0, .int .u8 0, .int .u8 0, .int .u8 0, .int .u8 0, .int .u8 0, .int .u8 0, .int .u8 0, .int .u8 0, .int .u8 0, .int .u8 0, .int .u8 0, .int .u8 0, .int .u8 0, .int .u8 0, .int .u8 0, .int .u8 0, .int .u8 0, .int .u64 0, .int .i64 0, .int .i64 0]) (places := [(0, 1), (1, 2), (3, 32), (35, 1), (36, 2)]) (by kernel_rfl) (parts := [(0, .int .i64 (gI s).1), (1, .agg #[.int .i64 (gSig (gI s).2).1.1, .int .i64 (gSig (gI s).2).1.2]), (2, hv (rHash (gSig (gI s).2).2).1), (3, .int .u64 ((rNum (rHash (gSig (gI s).2).2).2).1 : Nat)), (4, .agg #[.int .i64 (gSig (rNum (rHash (gSig (gI s).2).2).2).2).1.1, .int .i64 (gSig (rNum (rHash (gSig (gI s).2).2).2).2).1.2])]) (by simp only [List.map_toArray, List.map_cons, List.map_nil, show act.eval (.tmp 4) = .int .i64 (gI s).1 from (E.d 1 8), show act.eval (.tmp 6) = .agg #[.int .i64 (gSig (gI s).2).1.1, .int .i64 (gSig (gI s).2).1.2] from (E.d 3 6), show act.eval (.tmp 8) = hv (rHash (gSig (gI s).2).2).1 from (E.d 5 4), show act.eval (.tmp 10) = .int .u64 ((rNum (rHash (gSig (gI s).2).2).2).1 : Nat) from (E.d 7 2), show act.eval (.tmp 12) = .agg #[.int .i64 (gSig (rNum (rHash (gSig (gI s).2).2).2).2).1.1, .int .i64 (gSig (rNum (rHash (gSig (gI s).2).2).2).2).1.2] from (E.d 9 0)]; try rfl) (r := (gSt s).1.cells) (by exact laid_segs (ns := [1, 2, 32, 1, 2]) rfl [(0, .int .i64 (gI s).1), (1, .agg #[.int .i64 (gSig (gI s).2).1.1, .int .i64 (gSig (gI s).2).1.2]), (2, hv (rHash (gSig (gI s).2).2).1), (3, .int .u64 ((rNum (rHash (gSig (gI s).2).2).2).1 : Nat)), (4, .agg #[.int .i64 (gSig (rNum (rHash (gSig (gI s).2).2).2).2).1.1, .int .i64 (gSig (rNum (rHash (gSig (gI s).2).2).2).2).1.2])] [[.int .i64 0], [.int .i64 0, .int .i64 0], [.int .u8 0, .int .u8 0, .int .u8 0, .int .u8 0, .int .u8 0, .int .u8 0, .int .u8 0, .int .u8 0, .int .u8 0, .int .u8 0, .int .u8 0, .int .u8 0, .int .u8 0, .int .u8 0, .int .u8 0, .int .u8 0, .int .u8 0, .int .u8 0, .int .u8 0, .int .u8 0, .int .u8 0, .int .u8 0, .int .u8 0, .int .u8 0, .int .u8 0, .int .u8 0, .int .u8 0, .int .u8 0, .int .u8 0, .int .u8 0, .int .u8 0, .int .u8 0], [.int .u64 0], [.int .i64 0, .int .i64 0]] rfl ⟨rfl, rfl, (szv (by rw [List.length_map]; exact rHash_l _)), rfl, rfl, trivial⟩)) ?_
  clear act E
  refine QSeq.go fun act E => ?_
  refine qc_store rfl (wanted_none rfl) rfl (HB2.out.mod Cx11.out (by intro h2; first | omega | (have hb := HBR.out _ h2; omega))) (off := 0) (vs := ((gSt s).1.cells)) (by rw [show ((gSt s).1.cells).length = _ from (St.len (gSt_OK HBY.out))]; kernel_rfl) (St.one _) (by rw [show ((gSt s).1.cells).length = _ from (St.len (gSt_OK HBY.out))]; decide) (E.v oe2) (ec (E.d 10 0)) ?_
  intro u1_11 qc0 hm
  have qB2 := qc0.eqv (b := (((gSt s).1.cells) : List Value).toArray) (lay_whole _ _ (by rw [show ((gSt s).1.cells).length = _ from (St.len (gSt_OK HBY.out))]; rfl))
  clear qc0
  have Hx12 := hid qB2
  have zu1_11 := hm.size
  have HMu1_11 := hid hm
  have Cx13 := hid (Mod.goS (S' := (fun k => (R k) ∨ (k = w.heap.size))) Cx11.out hm (fun _ h => Or.inl h) (by intro k h0 h2; exact Or.inr (h2)))
  clear hm Cx11
  clear act E qB2 HB2
  have Hx14 := hid (Hx10.out.mod HMu1_11.out (sB HBR))
  clear Hx10 HMu1_3 HMu1_5 HMu1_7 HMu1_9 HMu1_11
  refine QSeq.nil (t' := [_, _, _, _, _, _, _, _, _, _, _, _]) rfl ?_
  obtain rfl := HA0.out
  clear HA0 oe0 oe2
  simp only [pz, Act.put, List.setIfInBounds_toArray, List.set_cons_zero, List.set_cons_succ, List.set_nil]
  go_wp2
  exact bodyPost_ret (results_cellA rfl _ _ w.heap.size ((gSt s).1.cells) rfl (fun k u hu => by rw [Hx12.out.cell]; simpa using hu) Try.underlying30 rfl (by rw [show ((gSt s).1.cells).length = _ from (St.len (gSt_OK HBY.out))]; kernel_rfl)) rfl ⟨rfl, Hx14.out, (HM0.out.trans Cx13.out (by intro k h1 h2; rcases h2 with h2 | h2 <;> first | exact h2 | omega | (have hb := HBR.out k h2; omega)))⟩
theorem cSt_G : Gets StR 125 111 gSt := GetsF.to (A := StR) cSt_Q fun _ _ _ hb => ⟨rfl, gSt_OK hb⟩
set_option maxHeartbeats 4000000 in
theorem cDn_Q : GetsF 125 151 Dn.cells gDn := by
  intro R r s w hR hB
  have HRD := Lib.hid hR
  have HBR := Lib.hid hB
  have HBY := hid hR.bytes
  clear hR hB
  go_enter Try.func151, Try.ntmps151
  go_upto_region 1 with (fail)
  obtain ⟨w1, hw1⟩ : ∃ zz, zz = (w.alloc (.cells #[.int .i64 0, .int .i64 0, .int .i64 0, .int .i64 0] 34)) := ⟨_, rfl⟩
  change Code.wp _ _ _ _ (w.alloc (.cells #[.int .i64 0, .int .i64 0, .int .i64 0, .int .i64 0] 34))
  rw [← hw1]
  have HB2 := hid (show Cs w1 (w.heap.size) #[.int .i64 0, .int .i64 0, .int .i64 0, .int .i64 0] 34 by rw [hw1]; exact Cs.new _ _ _)
  have hm : Mod (fun _ => False) w w1 := by rw [hw1]; exact (Mod.refl _ _).alloc _
  have HM0 := hid (show Mod (fun k => (R k)) w w1 from hm.mono (fun _ _ h => h.elim))
  have hs1 : w1.heap.size = w.heap.size + 1 := by rw [hw1]; simp
  have Hx1 := hid (HRD.out.mod hm (fun _ _ h => h))
  clear HRD
  clear hw1 hm
  go_upto_region 1 with (fail)
  refine wp_region_U 10 [3, 4, 5, 6, 7, 8, 9, 17] [0, 1, 2, 3, 4, 5, 6, 7] (fun a0 HA0 => ?_)
  have oe0 := ev HA0 0 rfl
  have oe2 := ev HA0 2 rfl
  refine QSeq.pure rfl _ (fun E => ex_move rfl (E.v oe0)) ?_
  refine QSeq.call rfl rfl Try.func115 (cI_Q Hx1.out) (fun E => args2 (E.d 0 0) rfl) ?_
  rintro e u1_1 ⟨rfl, qrd, hm⟩
  refine ⟨_, rfl, ?_⟩
  have Hx2 := hid qrd
  have zu1_1 := hm.size
  have Cx3 := hid (show Mod (fun k => (R k)) w1 u1_1 from hm)
  clear hm
  clear qrd Hx1
  refine QSeq.pure rfl _ (fun E => ex_move rfl (E.v oe0)) ?_
  refine QSeq.call rfl rfl Try.func115 (cI_Q Hx2.out) (fun E => args2 (E.d 2 0) rfl) ?_
  rintro e u1_3 ⟨rfl, qrd, hm⟩
  refine ⟨_, rfl, ?_⟩
  have Hx4 := hid qrd
  have zu1_3 := hm.size
  have HMu1_3 := hid hm
  have Cx5 := hid (Mod.goS (S' := (fun k => (R k))) Cx3.out hm (fun _ h => h) (by intro k h0 h2; exact h2))
  clear hm Cx3
  clear qrd Hx2
  refine QSeq.pure rfl _ (fun E => ex_move rfl (E.v oe0)) ?_
  refine QSeq.call rfl rfl Try.func118 (cSig_Q _ _ _ _ Hx4.out (by intro k h1; have hb := HBR.out k h1; omega)) (fun E => args1 (E.d 4 0)) ?_
  rintro e u1_5 ⟨rfl, qrd, hm⟩
  refine ⟨_, rfl, ?_⟩
  have Hx6 := hid qrd
  have zu1_5 := hm.size
  have HMu1_5 := hid hm
  have Cx7 := hid (Mod.goS (S' := (fun k => (R k))) Cx5.out hm (fun _ h => h) (by intro k h0 h2; exact h2))
  clear hm Cx5
  clear qrd Hx4
  refine QSeq.go fun act E => ?_
  refine qc_run rfl (wanted_none rfl) (v := .agg ((gDn s).1.cells : List Value).toArray) (ex_build rfl (z := [.int .i64 0, .int .i64 0, .int .i64 0, .int .i64 0]) (places := [(0, 1), (1, 1), (2, 2)]) (by kernel_rfl) (parts := [(0, .int .i64 (gI s).1), (1, .int .i64 (gI (gI s).2).1), (2, .agg #[.int .i64 (gSig (gI (gI s).2).2).1.1, .int .i64 (gSig (gI (gI s).2).2).1.2])]) (by simp only [List.map_toArray, List.map_cons, List.map_nil, show act.eval (.tmp 4) = .int .i64 (gI s).1 from (E.d 1 4), show act.eval (.tmp 6) = .int .i64 (gI (gI s).2).1 from (E.d 3 2), show act.eval (.tmp 8) = .agg #[.int .i64 (gSig (gI (gI s).2).2).1.1, .int .i64 (gSig (gI (gI s).2).2).1.2] from (E.d 5 0)]; try rfl) (r := (gDn s).1.cells) (by exact laid_segs (ns := [1, 1, 2]) rfl [(0, .int .i64 (gI s).1), (1, .int .i64 (gI (gI s).2).1), (2, .agg #[.int .i64 (gSig (gI (gI s).2).2).1.1, .int .i64 (gSig (gI (gI s).2).2).1.2])] [[.int .i64 0], [.int .i64 0], [.int .i64 0, .int .i64 0]] rfl ⟨rfl, rfl, rfl, trivial⟩)) ?_
  clear act E
  refine QSeq.go fun act E => ?_
  refine qc_store rfl (wanted_none rfl) rfl (HB2.out.mod Cx7.out (by intro h2; first | omega | (have hb := HBR.out _ h2; omega))) (off := 0) (vs := ((gDn s).1.cells)) (by rw [show ((gDn s).1.cells).length = _ from (Dn.len (gDn_OK HBY.out))]; kernel_rfl) (Dn.one _) (by rw [show ((gDn s).1.cells).length = _ from (Dn.len (gDn_OK HBY.out))]; decide) (E.v oe2) (ec (E.d 6 0)) ?_
  intro u1_7 qc0 hm
  have qB2 := qc0.eqv (b := (((gDn s).1.cells) : List Value).toArray) (lay_whole _ _ (by rw [show ((gDn s).1.cells).length = _ from (Dn.len (gDn_OK HBY.out))]; rfl))
  clear qc0
  have Hx8 := hid qB2
  have zu1_7 := hm.size
  have HMu1_7 := hid hm
  have Cx9 := hid (Mod.goS (S' := (fun k => (R k) ∨ (k = w.heap.size))) Cx7.out hm (fun _ h => Or.inl h) (by intro k h0 h2; exact Or.inr (h2)))
  clear hm Cx7
  clear act E qB2 HB2
  have Hx10 := hid (Hx6.out.mod HMu1_7.out (sB HBR))
  clear Hx6 HMu1_3 HMu1_5 HMu1_7
  refine QSeq.nil (t' := [_, _, _, _, _, _, _, _]) rfl ?_
  obtain rfl := HA0.out
  clear HA0 oe0 oe2
  simp only [pz, Act.put, List.setIfInBounds_toArray, List.set_cons_zero, List.set_cons_succ, List.set_nil]
  go_wp2
  exact bodyPost_ret (results_cellA rfl _ _ w.heap.size ((gDn s).1.cells) rfl (fun k u hu => by rw [Hx8.out.cell]; simpa using hu) Try.underlying34 rfl (by rw [show ((gDn s).1.cells).length = _ from (Dn.len (gDn_OK HBY.out))]; kernel_rfl)) rfl ⟨rfl, Hx10.out, (HM0.out.trans Cx9.out (by intro k h1 h2; rcases h2 with h2 | h2 <;> first | exact h2 | omega | (have hb := HBR.out k h2; omega)))⟩
theorem cDn_G : Gets DnR 125 151 gDn := GetsF.to (A := DnR) cDn_Q fun _ _ _ hb => ⟨rfl, gDn_OK hb⟩
set_option maxHeartbeats 4000000 in
theorem cList_St : GetsL StR 125 110 111 gSt := by
  intro R r s w hR hB hl
  have HRD := Lib.hid hR
  have HBR := Lib.hid hB
  have HLN := Lib.hid hl
  clear hR hB hl
  go_enter Try.func110, Try.ntmps110
  go_upto_region 2 with (fail)
  have HM0 := hid (Mod.refl (fun k => (R k)) w)
  go_upto_region 2 with (fail)
  refine wp_region_U 21 [6, 7, 8] [0, 1, 2] (fun a0 HA0 => ?_)
  have oe0 := ev HA0 0 rfl
  refine QSeq.pure rfl _ (fun E => ex_move rfl (E.v oe0)) ?_
  refine QSeq.call rfl rfl Try.func115 (RInt_R HRD.out (by decide)) (fun E => args2 (E.d 0 0) rfl) ?_
  rintro e u2_1 ⟨rfl, qrd, hm⟩
  refine ⟨_, rfl, ?_⟩
  have Hx1 := hid qrd
  have zu2_1 := hm.size
  have Cx2 := hid (show Mod (fun k => (R k)) w u2_1 from hm)
  clear hm
  clear qrd HRD
  refine QSeq.pure rfl (.int .i64 0) (fun E => ex_move rfl rfl) ?_
  refine QSeq.nil (t' := [_, _, _]) rfl ?_
  obtain rfl := HA0.out
  clear HA0 oe0
  simp only [pz, Act.put, List.setIfInBounds_toArray, List.set_cons_zero, List.set_cons_succ]
  obtain ⟨n, hn⟩ : ∃ n, n = (rInt 100 s).1 := ⟨_, rfl⟩
  obtain ⟨s1, hs1⟩ : ∃ z, z = (rInt 100 s).2 := ⟨_, rfl⟩
  have hn100 : n ≤ 100 := by have := rInt_le 100 s; omega
  have HLS := hid (show (s1.getD []).length ≤ 900000 by rw [hs1]; exact Nat.le_trans ((rInt_suf 100).len s) HLN.out)
  have HGL := hid (show gList gSt s = gItems gSt n [] s1 by rw [hn, hs1]; rfl)
  rw [← hn]
  have hq := Hx1.out
  rw [← hs1] at hq
  have HR1 := Lib.hid hq
  clear hq hn hs1 HLN
  go_wp2
  go_loopw [5, 8] (fun ta ti wr => ∃ (k : Nat) (acc : List St) (st : RSt), ti = .int .i64 (k : Int) ∧ k ≤ n ∧ acc.length = k ∧ (st.getD []).length ≤ 900000 ∧ gItems gSt (n - k) acc st = gItems gSt n [] s1 ∧ u2_1.heap.size ≤ wr.heap.size ∧ OwS StR 30 (fun b => w.heap.size ≤ b ∧ b < wr.heap.size) (fun b => w.heap.size ≤ b ∧ b < wr.heap.size) wr ta acc ∧ RrR 125 R wr r st ∧ Mod R w wr) (fun _ ti _ => n - (intOf ti).toNat)
  case atStart => exact ⟨0, [], s1, rfl, Nat.zero_le _, rfl, HLS.out, rfl, Nat.le_refl _, OwS.nil _ _ _ _ _, HR1.out, (HM0.out.trans Cx2.out (fun _ _ h => h))⟩
  case round =>
    obtain ⟨k, acc, st, rfl, hk, hka, hst, hg, hz, ha, hr, hm⟩ := hrel
    obtain ⟨wl, rfl⟩ : ∃ x, x = wr := ⟨_, rfl⟩
    obtain ⟨aol, capl, rfl⟩ := ha.shape
    have HAL := Lib.hid ha
    have HRL := Lib.hid hr
    have HML := Lib.hid hm
    have HST := Lib.hid hst
    have HG := Lib.hid hg
    have HKA := Lib.hid hka
    clear ha hr hm hst hg hka HR1 HM0
    by_cases hlt : k < n
    · skip
      go_upto_region 3 with (fail)
      refine wp_region_U 21 [9] [0] (fun a0 HA0 => ?_)
      have oe7 := ev HA0 7 rfl
      have oe8 := ev HA0 8 rfl
      refine QSeq.pure rfl (.bool true) (fun E => ex_binE rfl (E.v oe8) (E.v oe7) (guard_ints _ _ _ _ _ _) (run_lss_i _ _ _ Try.underlying3) (congrArg Value.bool (decide_eq_true (by omega)))) ?_
      refine QSeq.nil (t' := [_]) rfl ?_
      obtain rfl := HA0.out
      clear HA0 oe7 oe8
      simp only [pz, Act.put, List.setIfInBounds_toArray, List.set_cons_zero, List.set_cons_succ]
      obtain ⟨p, hp⟩ : ∃ p, p = gSt st := ⟨_, rfl⟩
      obtain ⟨x, st2⟩ := p
      have HP1 := hid (congrArg Prod.fst hp.symm)
      have HP2 := hid (congrArg Prod.snd hp.symm)
      clear hp
      dsimp only at HP1 HP2
      have HST2 := hid (show (st2.getD []).length ≤ 900000 by rw [← HP2.out]; exact Nat.le_trans (gSt_suf.len st) HST.out)
      have HGN := hid (show gItems gSt (n - k) acc st = if st2 = none then ([], none) else gItems gSt (n - (k + 1)) (acc ++ [x]) st2 by rw [show n - k = (n - (k + 1)) + 1 by omega]; show (if (gSt st).2 = none then _ else _) = _; rw [HP2.out, HP1.out])
      go_upto_region 4 with (fail)
      refine wp_region_U 21 [10, 11, 12, 13, 14, 15, 5] [0, 1, 2, 3, 4, 5, 6] (fun a0 HA0 => ?_)
      have oe0 := ev HA0 0 rfl
      have oe1 := ev HA0 1 rfl
      have oe5 := ev HA0 5 rfl
      refine QSeq.pure rfl _ (fun E => ex_move rfl (E.y 6 oe5)) ?_
      refine QSeq.pure rfl _ (fun E => ex_move rfl (E.v oe1)) ?_
      refine QSeq.pure rfl _ (fun E => ex_move rfl (E.v oe0)) ?_
      refine QSeq.go fun act E => ?_
      have ea12 : act.eval (.tmp 12) = .pointer (some ⟨r, 0, none⟩) := (E.d 2 0)
      refine qc_call (args := #[.pointer (some ⟨r, 0, none⟩)]) rfl (wanted_none rfl) (by rw [ex_callV rfl (E.d 1 1) Try.func111 (by kernel_rfl) (by kernel_rfl)]; exact congrArg (fun z => Result.ok (Next.enter _ z) _) (by simp only [List.map_toArray, List.map_cons, List.map_nil, ea12]; try rfl)) ((cSt_G).to HP1.out HP2.out HRL.out (by intro k h1; have hb := HBR.out k h1; omega) HST.out) ?_
      rintro e u4_3 ⟨cs, rfl, qel, qrd, hm⟩
      refine ⟨_, rfl, ?_⟩
      have Hx3 := hid qel
      have Hx4 := hid qrd
      have zu4_3 := hm.size
      have Cx5 := hid (show Mod (fun k => (R k)) wl u4_3 from hm)
      clear hm
      clear act E qel qrd HRL ea12
      refine QSeq.go fun act E => ?_
      refine qc_buildS (e := 30) (cs := cs) (zc := [.int .i64 0, .int .i64 0, .int .i64 0, .int .u8 0, .int .u8 0, .int .u8 0, .int .u8 0, .int .u8 0, .int .u8 0, .int .u8 0, .int .u8 0, .int .u8 0, .int .u8 0, .int .u8 0, .int .u8 0, .int .u8 0, .int .u8 0, .int .u8 0, .int .u8 0, .int .u8 0, .int .u8 0, .int .u8 0, .int .u8 0, .int .u8 0, .int .u8 0, .int .u8 0, .int .u8 0, .int .u8 0, .int .u8 0, .int .u8 0, .int .u8 0, .int .u8 0, .int .u8 0, .int .u8 0, .int .u8 0, .int .u64 0, .int .i64 0, .int .i64 0]) (sz := 38) rfl (wanted_none rfl) rfl Try.underlying50 (by kernel_rfl) rfl (by decide) (by decide) (E.d 3 0) (StR.len Hx3.out) ?_
      intro u4_4 qrow hm
      have zl4_4 := qrow.lt
      have Hx6 := hid qrow
      have zu4_4 := hm.size
      have HMu4_4 := hid hm
      have Cx7 := hid (Cx5.out.goE hm)
      clear hm Cx5
      clear act E qrow
      refine QSeq.go fun act E => ?_
      refine qc_appS (A := StR) (e := 30) rfl (wanted_none rfl) rfl (.agg #[.int .i64 0, .int .i64 0, .int .i64 0, .int .u8 0, .int .u8 0, .int .u8 0, .int .u8 0, .int .u8 0, .int .u8 0, .int .u8 0, .int .u8 0, .int .u8 0, .int .u8 0, .int .u8 0, .int .u8 0, .int .u8 0, .int .u8 0, .int .u8 0, .int .u8 0, .int .u8 0, .int .u8 0, .int .u8 0, .int .u8 0, .int .u8 0, .int .u8 0, .int .u8 0, .int .u8 0, .int .u8 0, .int .u8 0, .int .u8 0, .int .u8 0, .int .u8 0, .int .u8 0, .int .u8 0, .int .u8 0, .int .u64 0, .int .i64 0, .int .i64 0]) 80 Try.underlying50 info_St (by rfl) (of_decide_eq_true (by kernel_rfl)) (E.d 0 4) (E.d 4 0) ((HAL.out.mod Cx7.out (by intro k h1 h2; have hb := HBR.out k h2; omega) (by intro k h1 h2; have hb := HBR.out k h2; omega))) (RdS.single (R := (fun k => (New wl u4_3 k) ∨ (k = u4_3.heap.size))) Hx6.out ((Hx3.out.mod HMu4_4.out (fun _ _ h => h)).widen (by intro k h1; first | omega | exact h1.elim | exact Or.inl h1 | exact Or.inr (h1))) (by first | exact Or.inr rfl | exact Or.inr (Or.inr rfl) | (right; omega))) (by intro k h1 h2; omega) (by rw [HKA.out]; simp only [List.length_cons, List.length_nil]; omega) (by rw [HKA.out]; simp only [List.length_cons, List.length_nil]; rw [maxLen_val]; omega) ?_
      intro ao4 cap4 u4_5 qout hm
      have Hx8 := hid (qout.widen (R' := (fun k => (New w wl k) ∨ (New u4_4 u4_5 k))) (E' := (fun k => (New w wl k) ∨ (New wl u4_3 k) ∨ (k = u4_3.heap.size))) (fun _ h => h) (by intro k h1; rcases h1 with h1 | (h1 | h1) <;> first | omega | exact h1.elim | exact Or.inl h1 | exact Or.inr (Or.inl h1) | exact Or.inr (Or.inr (h1))))
      have zu4_5 := hm.size
      have HMu4_5 := hid hm
      have Cx9 := hid (Mod.goS (S' := (fun k => (R k) ∨ (New w wl k))) Cx7.out hm (fun _ h => Or.inl h) (by intro k h0 h2; exact Or.inr (h2)))
      clear hm Cx7
      clear act E qout HAL
      refine QSeq.pure rfl _ (fun E => ex_assign rfl (E.d 5 0)) ?_
      have Hx10 := hid ((Hx4.out.mod HMu4_4.out (fun _ _ h => h)).mod HMu4_5.out (sN HBR))
      have Hx11 := hid ((Hx3.out.mod HMu4_4.out (fun _ _ h => h)).mod HMu4_5.out (by intro k h1 h2; omega))
      have Hx12 := hid (Hx6.out.mod HMu4_5.out (by intro h2; omega))
      clear Hx4 Hx3 Hx6 HMu4_4 HMu4_5
      refine QSeq.nil (t' := [_, _, _, _, _, _, _]) rfl ?_
      obtain rfl := HA0.out
      clear HA0 oe0 oe1 oe5
      simp only [pz, Act.put, List.setIfInBounds_toArray, List.set_cons_zero, List.set_cons_succ]
      clear Hx11
      clear Hx12
      cases st2 with
      | none =>
        go_upto_region 5 with (fail)
        refine wp_region_U 21 [16, 17, 18] [0, 1, 2] (fun a0 HA0 => ?_)
        have oe0 := ev HA0 0 rfl
        refine QSeq.pure rfl _ (fun E => ex_move rfl (E.v oe0)) ?_
        refine QSeq.go fun act E => ?_
        refine qc_callF (args := #[.pointer (some ⟨r, 0, none⟩)]) rfl (wanted_none rfl) rfl Try.func39 (args1 (E.d 0 0)) (OK_R Hx10.out) ?_
        rintro e w2 ⟨rfl, hw2⟩
        obtain rfl : u4_5 = w2 := by first | exact hw2 | exact hw2.symm
        refine ⟨_, rfl, ?_⟩
        clear act E
        refine QSeq.pure rfl (.bool true) (fun E => ex_not rfl (E.d 1 0)) ?_
        refine QSeq.nil (t' := [_, _, _]) rfl ?_
        obtain rfl := HA0.out
        clear HA0 oe0
        simp only [pz, Act.put, List.setIfInBounds_toArray, List.set_cons_zero, List.set_cons_succ]
        go_upto_region 6 with (fail)
        refine wp_region_U 21 [4] [0] (fun a0 HA0 => ?_)
        refine QSeq.pure rfl (.slice none 0 0) (fun E => ex_assign rfl rfl) ?_
        refine QSeq.nil (t' := [_]) rfl ?_
        obtain rfl := HA0.out
        clear HA0
        simp only [pz, Act.put, List.setIfInBounds_toArray, List.set_cons_zero, List.set_cons_succ]
        go_wp2
        go_ret
        have hq := HG.out
        rw [HGN.out, if_pos trivial] at hq
        have e := HGL.out
        rw [← hq] at e
        refine ⟨_, rfl, ?_, ?_, (HML.out.trans Cx9.out (by intro k h1 h2; rcases h2 with h2 | h2 <;> first | exact h2 | omega | (have hb := HBR.out k h2; omega)))⟩
        · rw [e]; exact RdS.nil _ _ _
        · rw [e]; exact Hx10.out
      | some l2 =>
        go_upto_region 5 with (fail)
        refine wp_region_U 21 [16, 17, 18] [0, 1, 2] (fun a0 HA0 => ?_)
        have oe0 := ev HA0 0 rfl
        refine QSeq.pure rfl _ (fun E => ex_move rfl (E.v oe0)) ?_
        refine QSeq.go fun act E => ?_
        refine qc_callF (args := #[.pointer (some ⟨r, 0, none⟩)]) rfl (wanted_none rfl) rfl Try.func39 (args1 (E.d 0 0)) (OK_R Hx10.out) ?_
        rintro e w2 ⟨rfl, hw2⟩
        obtain rfl : u4_5 = w2 := by first | exact hw2 | exact hw2.symm
        refine ⟨_, rfl, ?_⟩
        clear act E
        refine QSeq.pure rfl (.bool false) (fun E => ex_not rfl (E.d 1 0)) ?_
        refine QSeq.nil (t' := [_, _, _]) rfl ?_
        obtain rfl := HA0.out
        clear HA0 oe0
        simp only [pz, Act.put, List.setIfInBounds_toArray, List.set_cons_zero, List.set_cons_succ]
        go_upto_region 7 with (fail)
        refine wp_region_U 21 [19, 8] [0, 1] (fun a0 HA0 => ?_)
        have oe8 := ev HA0 8 rfl
        refine QSeq.pure rfl (.int .i64 (((k : Nat) : Int) + 1)) (fun E => ex_binE rfl (E.y 1 oe8) rfl (guard_ints _ _ _ _ _ _) (run_add_i _ _ Try.underlying3) (congrArg (Value.int .i64) (IntWalk.i64_in _ (by omega)))) ?_
        refine QSeq.pure rfl _ (fun E => ex_move rfl (E.d 0 0)) ?_
        refine QSeq.nil (t' := [_, _]) rfl ?_
        obtain rfl := HA0.out
        clear HA0 oe8
        simp only [pz, Act.put, List.setIfInBounds_toArray, List.set_cons_zero, List.set_cons_succ]
        go_wp2
        go_roundw
        case rel => exact ⟨k + 1, acc ++ [x], some l2, by go_num, by omega, by rw [List.length_append, HKA.out]; rfl, HST2.out, (by have hq := HG.out; rw [HGN.out, if_neg (by simp)] at hq; exact hq), by omega, (Hx8.out.widen (by intro b h1; omega) (by intro b h1; rcases h1 with h1 | h1 | h1 <;> first | omega | exact h1.elim)), Hx10.out, (HML.out.trans Cx9.out (by intro k h1 h2; rcases h2 with h2 | h2 <;> first | exact h2 | omega | (have hb := HBR.out k h2; omega)))⟩
        case measure => simp [intOf] <;> omega
    · obtain rfl : n = k := by omega
      go_upto_region 3 with (fail)
      refine wp_region_U 21 [9] [0] (fun a0 HA0 => ?_)
      have oe7 := ev HA0 7 rfl
      have oe8 := ev HA0 8 rfl
      refine QSeq.pure rfl (.bool false) (fun E => ex_binE rfl (E.v oe8) (E.v oe7) (guard_ints _ _ _ _ _ _) (run_lss_i _ _ _ Try.underlying3) (congrArg Value.bool (decide_eq_false (by omega)))) ?_
      refine QSeq.nil (t' := [_]) rfl ?_
      obtain rfl := HA0.out
      clear HA0 oe7 oe8
      simp only [pz, Act.put, List.setIfInBounds_toArray, List.set_cons_zero, List.set_cons_succ]
      go_upto_region 8 with (fail)
      refine wp_region_U 21 [20, 4] [0, 1] (fun a0 HA0 => ?_)
      have oe5 := ev HA0 5 rfl
      refine QSeq.pure rfl _ (fun E => ex_move rfl (E.v oe5)) ?_
      refine QSeq.pure rfl _ (fun E => ex_assign rfl (E.d 0 0)) ?_
      refine QSeq.nil (t' := [_, _]) rfl ?_
      obtain rfl := HA0.out
      clear HA0 oe5
      simp only [pz, Act.put, List.setIfInBounds_toArray, List.set_cons_zero, List.set_cons_succ]
      go_wp2
      go_ret
      have hq := HG.out
      rw [Nat.sub_self] at hq
      have e := HGL.out
      rw [← hq] at e
      refine ⟨_, rfl, ?_, ?_, HML.out⟩
      · rw [e]; exact HAL.out.rd.widen (by intro b h1; (try dsimp only at h1 ⊢); omega)
      · rw [e]; exact HRL.out
set_option maxHeartbeats 4000000 in
theorem cList_Dn : GetsL DnR 125 150 151 gDn := by
  intro R r s w hR hB hl
  have HRD := Lib.hid hR
  have HBR := Lib.hid hB
  have HLN := Lib.hid hl
  clear hR hB hl
  go_enter Try.func150, Try.ntmps150
  go_upto_region 2 with (fail)
  have HM0 := hid (Mod.refl (fun k => (R k)) w)
  go_upto_region 2 with (fail)
  refine wp_region_U 21 [6, 7, 8] [0, 1, 2] (fun a0 HA0 => ?_)
  have oe0 := ev HA0 0 rfl
  refine QSeq.pure rfl _ (fun E => ex_move rfl (E.v oe0)) ?_
  refine QSeq.call rfl rfl Try.func115 (RInt_R HRD.out (by decide)) (fun E => args2 (E.d 0 0) rfl) ?_
  rintro e u2_1 ⟨rfl, qrd, hm⟩
  refine ⟨_, rfl, ?_⟩
  have Hx1 := hid qrd
  have zu2_1 := hm.size
  have Cx2 := hid (show Mod (fun k => (R k)) w u2_1 from hm)
  clear hm
  clear qrd HRD
  refine QSeq.pure rfl (.int .i64 0) (fun E => ex_move rfl rfl) ?_
  refine QSeq.nil (t' := [_, _, _]) rfl ?_
  obtain rfl := HA0.out
  clear HA0 oe0
  simp only [pz, Act.put, List.setIfInBounds_toArray, List.set_cons_zero, List.set_cons_succ]
  obtain ⟨n, hn⟩ : ∃ n, n = (rInt 100 s).1 := ⟨_, rfl⟩
  obtain ⟨s1, hs1⟩ : ∃ z, z = (rInt 100 s).2 := ⟨_, rfl⟩
  have hn100 : n ≤ 100 := by have := rInt_le 100 s; omega
  have HLS := hid (show (s1.getD []).length ≤ 900000 by rw [hs1]; exact Nat.le_trans ((rInt_suf 100).len s) HLN.out)
  have HGL := hid (show gList gDn s = gItems gDn n [] s1 by rw [hn, hs1]; rfl)
  rw [← hn]
  have hq := Hx1.out
  rw [← hs1] at hq
  have HR1 := Lib.hid hq
  clear hq hn hs1 HLN
  go_wp2
  go_loopw [5, 8] (fun ta ti wr => ∃ (k : Nat) (acc : List Dn) (st : RSt), ti = .int .i64 (k : Int) ∧ k ≤ n ∧ acc.length = k ∧ (st.getD []).length ≤ 900000 ∧ gItems gDn (n - k) acc st = gItems gDn n [] s1 ∧ u2_1.heap.size ≤ wr.heap.size ∧ OwS DnR 34 (fun b => w.heap.size ≤ b ∧ b < wr.heap.size) (fun b => w.heap.size ≤ b ∧ b < wr.heap.size) wr ta acc ∧ RrR 125 R wr r st ∧ Mod R w wr) (fun _ ti _ => n - (intOf ti).toNat)
  case atStart => exact ⟨0, [], s1, rfl, Nat.zero_le _, rfl, HLS.out, rfl, Nat.le_refl _, OwS.nil _ _ _ _ _, HR1.out, (HM0.out.trans Cx2.out (fun _ _ h => h))⟩
  case round =>
    obtain ⟨k, acc, st, rfl, hk, hka, hst, hg, hz, ha, hr, hm⟩ := hrel
    obtain ⟨wl, rfl⟩ : ∃ x, x = wr := ⟨_, rfl⟩
    obtain ⟨aol, capl, rfl⟩ := ha.shape
    have HAL := Lib.hid ha
    have HRL := Lib.hid hr
    have HML := Lib.hid hm
    have HST := Lib.hid hst
    have HG := Lib.hid hg
    have HKA := Lib.hid hka
    clear ha hr hm hst hg hka HR1 HM0
    by_cases hlt : k < n
    · skip
      go_upto_region 3 with (fail)
      refine wp_region_U 21 [9] [0] (fun a0 HA0 => ?_)
      have oe7 := ev HA0 7 rfl
      have oe8 := ev HA0 8 rfl
      refine QSeq.pure rfl (.bool true) (fun E => ex_binE rfl (E.v oe8) (E.v oe7) (guard_ints _ _ _ _ _ _) (run_lss_i _ _ _ Try.underlying3) (congrArg Value.bool (decide_eq_true (by omega)))) ?_
      refine QSeq.nil (t' := [_]) rfl ?_
      obtain rfl := HA0.out
      clear HA0 oe7 oe8
      simp only [pz, Act.put, List.setIfInBounds_toArray, List.set_cons_zero, List.set_cons_succ]
      obtain ⟨p, hp⟩ : ∃ p, p = gDn st := ⟨_, rfl⟩
      obtain ⟨x, st2⟩ := p
      have HP1 := hid (congrArg Prod.fst hp.symm)
      have HP2 := hid (congrArg Prod.snd hp.symm)
      clear hp
      dsimp only at HP1 HP2
      have HST2 := hid (show (st2.getD []).length ≤ 900000 by rw [← HP2.out]; exact Nat.le_trans (gDn_suf.len st) HST.out)
      have HGN := hid (show gItems gDn (n - k) acc st = if st2 = none then ([], none) else gItems gDn (n - (k + 1)) (acc ++ [x]) st2 by rw [show n - k = (n - (k + 1)) + 1 by omega]; show (if (gDn st).2 = none then _ else _) = _; rw [HP2.out, HP1.out])
      go_upto_region 4 with (fail)
      refine wp_region_U 21 [10, 11, 12, 13, 14, 15, 5] [0, 1, 2, 3, 4, 5, 6] (fun a0 HA0 => ?_)
      have oe0 := ev HA0 0 rfl
      have oe1 := ev HA0 1 rfl
      have oe5 := ev HA0 5 rfl
      refine QSeq.pure rfl _ (fun E => ex_move rfl (E.y 6 oe5)) ?_
      refine QSeq.pure rfl _ (fun E => ex_move rfl (E.v oe1)) ?_
      refine QSeq.pure rfl _ (fun E => ex_move rfl (E.v oe0)) ?_
      refine QSeq.go fun act E => ?_
      have ea12 : act.eval (.tmp 12) = .pointer (some ⟨r, 0, none⟩) := (E.d 2 0)
      refine qc_call (args := #[.pointer (some ⟨r, 0, none⟩)]) rfl (wanted_none rfl) (by rw [ex_callV rfl (E.d 1 1) Try.func151 (by kernel_rfl) (by kernel_rfl)]; exact congrArg (fun z => Result.ok (Next.enter _ z) _) (by simp only [List.map_toArray, List.map_cons, List.map_nil, ea12]; try rfl)) ((cDn_G).to HP1.out HP2.out HRL.out (by intro k h1; have hb := HBR.out k h1; omega) HST.out) ?_
      rintro e u4_3 ⟨cs, rfl, qel, qrd, hm⟩
      refine ⟨_, rfl, ?_⟩
      have Hx3 := hid qel
      have Hx4 := hid qrd
      have zu4_3 := hm.size
      have Cx5 := hid (show Mod (fun k => (R k)) wl u4_3 from hm)
      clear hm
      clear act E qel qrd HRL ea12
      refine QSeq.go fun act E => ?_
      refine qc_buildS (e := 34) (cs := cs) (zc := [.int .i64 0, .int .i64 0, .int .i64 0, .int .i64 0]) (sz := 4) rfl (wanted_none rfl) rfl Try.underlying88 (by kernel_rfl) rfl (by decide) (by decide) (E.d 3 0) (DnR.len Hx3.out) ?_
      intro u4_4 qrow hm
      have zl4_4 := qrow.lt
      have Hx6 := hid qrow
      have zu4_4 := hm.size
      have HMu4_4 := hid hm
      have Cx7 := hid (Cx5.out.goE hm)
      clear hm Cx5
      clear act E qrow
      refine QSeq.go fun act E => ?_
      refine qc_appS (A := DnR) (e := 34) rfl (wanted_none rfl) rfl (.agg #[.int .i64 0, .int .i64 0, .int .i64 0, .int .i64 0]) 32 Try.underlying88 info_Dn (by rfl) (of_decide_eq_true (by kernel_rfl)) (E.d 0 4) (E.d 4 0) ((HAL.out.mod Cx7.out (by intro k h1 h2; have hb := HBR.out k h2; omega) (by intro k h1 h2; have hb := HBR.out k h2; omega))) (RdS.single (R := (fun k => (New wl u4_3 k) ∨ (k = u4_3.heap.size))) Hx6.out ((Hx3.out.mod HMu4_4.out (fun _ _ h => h)).widen (by intro k h1; first | omega | exact h1.elim | exact Or.inl h1 | exact Or.inr (h1))) (by first | exact Or.inr rfl | exact Or.inr (Or.inr rfl) | (right; omega))) (by intro k h1 h2; omega) (by rw [HKA.out]; simp only [List.length_cons, List.length_nil]; omega) (by rw [HKA.out]; simp only [List.length_cons, List.length_nil]; rw [maxLen_val]; omega) ?_
      intro ao4 cap4 u4_5 qout hm
      have Hx8 := hid (qout.widen (R' := (fun k => (New w wl k) ∨ (New u4_4 u4_5 k))) (E' := (fun k => (New w wl k) ∨ (New wl u4_3 k) ∨ (k = u4_3.heap.size))) (fun _ h => h) (by intro k h1; rcases h1 with h1 | (h1 | h1) <;> first | omega | exact h1.elim | exact Or.inl h1 | exact Or.inr (Or.inl h1) | exact Or.inr (Or.inr (h1))))
      have zu4_5 := hm.size
      have HMu4_5 := hid hm
      have Cx9 := hid (Mod.goS (S' := (fun k => (R k) ∨ (New w wl k))) Cx7.out hm (fun _ h => Or.inl h) (by intro k h0 h2; exact Or.inr (h2)))
      clear hm Cx7
      clear act E qout HAL
      refine QSeq.pure rfl _ (fun E => ex_assign rfl (E.d 5 0)) ?_
      have Hx10 := hid ((Hx4.out.mod HMu4_4.out (fun _ _ h => h)).mod HMu4_5.out (sN HBR))
      have Hx11 := hid ((Hx3.out.mod HMu4_4.out (fun _ _ h => h)).mod HMu4_5.out (by intro k h1 h2; omega))
      have Hx12 := hid (Hx6.out.mod HMu4_5.out (by intro h2; omega))
      clear Hx4 Hx3 Hx6 HMu4_4 HMu4_5
      refine QSeq.nil (t' := [_, _, _, _, _, _, _]) rfl ?_
      obtain rfl := HA0.out
      clear HA0 oe0 oe1 oe5
      simp only [pz, Act.put, List.setIfInBounds_toArray, List.set_cons_zero, List.set_cons_succ]
      clear Hx11
      clear Hx12
      cases st2 with
      | none =>
        go_upto_region 5 with (fail)
        refine wp_region_U 21 [16, 17, 18] [0, 1, 2] (fun a0 HA0 => ?_)
        have oe0 := ev HA0 0 rfl
        refine QSeq.pure rfl _ (fun E => ex_move rfl (E.v oe0)) ?_
        refine QSeq.go fun act E => ?_
        refine qc_callF (args := #[.pointer (some ⟨r, 0, none⟩)]) rfl (wanted_none rfl) rfl Try.func39 (args1 (E.d 0 0)) (OK_R Hx10.out) ?_
        rintro e w2 ⟨rfl, hw2⟩
        obtain rfl : u4_5 = w2 := by first | exact hw2 | exact hw2.symm
        refine ⟨_, rfl, ?_⟩
        clear act E
        refine QSeq.pure rfl (.bool true) (fun E => ex_not rfl (E.d 1 0)) ?_
        refine QSeq.nil (t' := [_, _, _]) rfl ?_
        obtain rfl := HA0.out
        clear HA0 oe0
        simp only [pz, Act.put, List.setIfInBounds_toArray, List.set_cons_zero, List.set_cons_succ]
        go_upto_region 6 with (fail)
        refine wp_region_U 21 [4] [0] (fun a0 HA0 => ?_)
        refine QSeq.pure rfl (.slice none 0 0) (fun E => ex_assign rfl rfl) ?_
        refine QSeq.nil (t' := [_]) rfl ?_
        obtain rfl := HA0.out
        clear HA0
        simp only [pz, Act.put, List.setIfInBounds_toArray, List.set_cons_zero, List.set_cons_succ]
        go_wp2
        go_ret
        have hq := HG.out
        rw [HGN.out, if_pos trivial] at hq
        have e := HGL.out
        rw [← hq] at e
        refine ⟨_, rfl, ?_, ?_, (HML.out.trans Cx9.out (by intro k h1 h2; rcases h2 with h2 | h2 <;> first | exact h2 | omega | (have hb := HBR.out k h2; omega)))⟩
        · rw [e]; exact RdS.nil _ _ _
        · rw [e]; exact Hx10.out
      | some l2 =>
        go_upto_region 5 with (fail)
        refine wp_region_U 21 [16, 17, 18] [0, 1, 2] (fun a0 HA0 => ?_)
        have oe0 := ev HA0 0 rfl
        refine QSeq.pure rfl _ (fun E => ex_move rfl (E.v oe0)) ?_
        refine QSeq.go fun act E => ?_
        refine qc_callF (args := #[.pointer (some ⟨r, 0, none⟩)]) rfl (wanted_none rfl) rfl Try.func39 (args1 (E.d 0 0)) (OK_R Hx10.out) ?_
        rintro e w2 ⟨rfl, hw2⟩
        obtain rfl : u4_5 = w2 := by first | exact hw2 | exact hw2.symm
        refine ⟨_, rfl, ?_⟩
        clear act E
        refine QSeq.pure rfl (.bool false) (fun E => ex_not rfl (E.d 1 0)) ?_
        refine QSeq.nil (t' := [_, _, _]) rfl ?_
        obtain rfl := HA0.out
        clear HA0 oe0
        simp only [pz, Act.put, List.setIfInBounds_toArray, List.set_cons_zero, List.set_cons_succ]
        go_upto_region 7 with (fail)
        refine wp_region_U 21 [19, 8] [0, 1] (fun a0 HA0 => ?_)
        have oe8 := ev HA0 8 rfl
        refine QSeq.pure rfl (.int .i64 (((k : Nat) : Int) + 1)) (fun E => ex_binE rfl (E.y 1 oe8) rfl (guard_ints _ _ _ _ _ _) (run_add_i _ _ Try.underlying3) (congrArg (Value.int .i64) (IntWalk.i64_in _ (by omega)))) ?_
        refine QSeq.pure rfl _ (fun E => ex_move rfl (E.d 0 0)) ?_
        refine QSeq.nil (t' := [_, _]) rfl ?_
        obtain rfl := HA0.out
        clear HA0 oe8
        simp only [pz, Act.put, List.setIfInBounds_toArray, List.set_cons_zero, List.set_cons_succ]
        go_wp2
        go_roundw
        case rel => exact ⟨k + 1, acc ++ [x], some l2, by go_num, by omega, by rw [List.length_append, HKA.out]; rfl, HST2.out, (by have hq := HG.out; rw [HGN.out, if_neg (by simp)] at hq; exact hq), by omega, (Hx8.out.widen (by intro b h1; omega) (by intro b h1; rcases h1 with h1 | h1 | h1 <;> first | omega | exact h1.elim)), Hx10.out, (HML.out.trans Cx9.out (by intro k h1 h2; rcases h2 with h2 | h2 <;> first | exact h2 | omega | (have hb := HBR.out k h2; omega)))⟩
        case measure => simp [intOf] <;> omega
    · obtain rfl : n = k := by omega
      go_upto_region 3 with (fail)
      refine wp_region_U 21 [9] [0] (fun a0 HA0 => ?_)
      have oe7 := ev HA0 7 rfl
      have oe8 := ev HA0 8 rfl
      refine QSeq.pure rfl (.bool false) (fun E => ex_binE rfl (E.v oe8) (E.v oe7) (guard_ints _ _ _ _ _ _) (run_lss_i _ _ _ Try.underlying3) (congrArg Value.bool (decide_eq_false (by omega)))) ?_
      refine QSeq.nil (t' := [_]) rfl ?_
      obtain rfl := HA0.out
      clear HA0 oe7 oe8
      simp only [pz, Act.put, List.setIfInBounds_toArray, List.set_cons_zero, List.set_cons_succ]
      go_upto_region 8 with (fail)
      refine wp_region_U 21 [20, 4] [0, 1] (fun a0 HA0 => ?_)
      have oe5 := ev HA0 5 rfl
      refine QSeq.pure rfl _ (fun E => ex_move rfl (E.v oe5)) ?_
      refine QSeq.pure rfl _ (fun E => ex_assign rfl (E.d 0 0)) ?_
      refine QSeq.nil (t' := [_, _]) rfl ?_
      obtain rfl := HA0.out
      clear HA0 oe5
      simp only [pz, Act.put, List.setIfInBounds_toArray, List.set_cons_zero, List.set_cons_succ]
      go_wp2
      go_ret
      have hq := HG.out
      rw [Nat.sub_self] at hq
      have e := HGL.out
      rw [← hq] at e
      refine ⟨_, rfl, ?_, ?_, HML.out⟩
      · rw [e]; exact HAL.out.rd.widen (by intro b h1; (try dsimp only at h1 ⊢); omega)
      · rw [e]; exact HRL.out
end Go.Proofs.Ytknpapcfhnhheaa

/- Parts of messages, read. -/
namespace Go.Proofs.Ytknpapcfhnhheaa
open Go Go.RowKit Go.Gv

theorem ce_len (x : Ce) (v : Value) (h : x.c.h.length = 32) : (x.cells v).length = 38 := by simp [Ce.cells, Cm.len h]
theorem op_len2 (x : Op) (v : Value) (h : x.nc.length = 32) : (x.cells v).length = 34 := by simp [Op.cells, h]
theorem one_ce2 (x : Ce) (v : Value) (h : v.oneCell' = true) : ∀ u ∈ x.cells v, u.oneCell' = true := by
  intro u hu
  simp only [Ce.cells, List.mem_append, List.mem_cons, List.not_mem_nil, or_false] at hu
  rcases hu with hu | rfl
  · exact Cm_one _ _ hu
  · exact h
theorem one_op2 (x : Op) (v : Value) (h : v.oneCell' = true) : ∀ u ∈ x.cells v, u.oneCell' = true := by
  intro u hu
  simp only [Op.cells, List.mem_append, List.mem_cons, List.not_mem_nil, or_false, List.mem_map] at hu
  rcases hu with (rfl | rfl) | ⟨y, -, rfl⟩
  · rfl
  · exact h
  · rfl
set_option maxHeartbeats 4000000 in
theorem cCe_G : Gets CeR 125 81 gCe := by
  intro R r s w hR hB hl
  have HRD := Lib.hid hR
  have HBR := Lib.hid hB
  have HBY := hid hR.bytes
  clear hR hB
  have HLN := Lib.hid hl
  clear hl
  go_enter Try.func81, Try.ntmps81
  go_upto_region 1 with (fail)
  obtain ⟨w1, hw1⟩ : ∃ zz, zz = (w.alloc (.cells #[.int .i64 0, .int .i64 0, .int .u8 0, .int .u8 0, .int .u8 0, .int .u8 0, .int .u8 0, .int .u8 0, .int .u8 0, .int .u8 0, .int .u8 0, .int .u8 0, .int .u8 0, .int .u8 0, .int .u8 0, .int .u8 0, .int .u8 0, .int .u8 0, .int .u8 0, .int .u8 0, .int .u8 0, .int .u8 0, .int .u8 0, .int .u8 0, .int .u8 0, .int .u8 0, .int .u8 0, .int .u8 0, .int .u8 0, .int .u8 0, .int .u8 0, .int .u8 0, .int .u8 0, .int .u8 0, .int .i64 0, .int .i64 0, .int .i64 0, .slice none 0 0] 52)) := ⟨_, rfl⟩
  change Code.wp _ _ _ _ (w.alloc (.cells #[.int .i64 0, .int .i64 0, .int .u8 0, .int .u8 0, .int .u8 0, .int .u8 0, .int .u8 0, .int .u8 0, .int .u8 0, .int .u8 0, .int .u8 0, .int .u8 0, .int .u8 0, .int .u8 0, .int .u8 0, .int .u8 0, .int .u8 0, .int .u8 0, .int .u8 0, .int .u8 0, .int .u8 0, .int .u8 0, .int .u8 0, .int .u8 0, .int .u8 0, .int .u8 0, .int .u8 0, .int .u8 0, .int .u8 0, .int .u8 0, .int .u8 0, .int .u8 0, .int .u8 0, .int .u8 0, .int .i64 0, .int .i64 0, .int .i64 0, .slice none 0 0] 52))
  rw [← hw1]
  have HB2 := hid (show Cs w1 (w.heap.size) #[.int .i64 0, .int .i64 0, .int .u8 0, .int .u8 0, .int .u8 0, .int .u8 0, .int .u8 0, .int .u8 0, .int .u8 0, .int .u8 0, .int .u8 0, .int .u8 0, .int .u8 0, .int .u8 0, .int .u8 0, .int .u8 0, .int .u8 0, .int .u8 0, .int .u8 0, .int .u8 0, .int .u8 0, .int .u8 0, .int .u8 0, .int .u8 0, .int .u8 0, .int .u8 0, .int .u8 0, .int .u8 0, .int .u8 0, .int .u8 0, .int .u8 0, .int .u8 0, .int .u8 0, .int .u8 0, .int .i64 0, .int .i64 0, .int .i64 0, .slice none 0 0] 52 by rw [hw1]; exact Cs.new _ _ _)
  have hm : Mod (fun _ => False) w w1 := by rw [hw1]; exact (Mod.refl _ _).alloc _
  have HM0 := hid (show Mod (fun k => (R k)) w w1 from hm.mono (fun _ _ h => h.elim))
  have hs1 : w1.heap.size = w.heap.size + 1 := by rw [hw1]; simp
  have Hx1 := hid (HRD.out.mod hm (fun _ _ h => h))
  clear HRD
  clear hw1 hm
  go_upto_region 1 with (fail)
  refine wp_region_U 8 [3, 4, 5, 6, 7, 13] [0, 1, 2, 3, 4, 5] (fun a0 HA0 => ?_)
  have oe0 := ev HA0 0 rfl
  have oe2 := ev HA0 2 rfl
  refine QSeq.pure rfl _ (fun E => ex_move rfl (E.v oe0)) ?_
  refine QSeq.call rfl rfl Try.func109 (cCm_Q _ _ _ _ Hx1.out (by intro k h1; have hb := HBR.out k h1; omega)) (fun E => args1 (E.d 0 0)) ?_
  rintro e u1_1 ⟨rfl, qrd, hm⟩
  refine ⟨_, rfl, ?_⟩
  have Hx2 := hid qrd
  have zu1_1 := hm.size
  have Cx3 := hid (show Mod (fun k => (R k)) w1 u1_1 from hm)
  clear hm
  clear qrd Hx1
  refine QSeq.pure rfl _ (fun E => ex_move rfl (E.v oe0)) ?_
  refine QSeq.call rfl rfl Try.func110 (cList_St _ _ _ _ Hx2.out (by intro k h1; have hb := HBR.out k h1; omega) (Nat.le_trans (gCm_suf.len _) HLN.out)) (fun E => args2 (E.d 2 0) rfl) ?_
  rintro e u1_3 ⟨vlSt, rfl, qlSt, qrd, hm⟩
  obtain ⟨ao_lSt, cap_lSt, rfl⟩ := qlSt.shape
  refine ⟨_, rfl, ?_⟩
  have Hx4 := hid qlSt
  have Hx5 := hid qrd
  have zu1_3 := hm.size
  have HMu1_3 := hid hm
  have Cx6 := hid (Mod.goS (S' := (fun k => (R k))) Cx3.out hm (fun _ h => h) (by intro k h0 h2; exact h2))
  clear hm Cx3
  clear qlSt qrd Hx2
  refine QSeq.go fun act E => ?_
  refine qc_run rfl (wanted_none rfl) (v := .agg ((gCe s).1.cells (Value.slice ao_lSt (gList gSt (gCm s).2).1.length cap_lSt) : List Value).toArray) (ex_build rfl (z := [.int .i64 0, .int .i64 0, .int .u8 0, .int .u8 0, .int .u8 0, .int .u8 0, .int .u8 0, .int .u8 0, .int .u8 0, .int .u8 0, .int .u8 0, .int .u8 0, .int .u8 0, .int .u8 0, .int .u8 0, .int .u8 0, .int .u8 0, .int .u8 0, .int .u8 0, .int .u8 0, .int .u8 0, .int .u8 0, .int .u8 0, .int .u8 0, .int .u8 0, .int .u8 0, .int .u8 0, .int .u8 0, .int .u8 0, .int .u8 0, .int .u8 0, .int .u8 0, .int .u8 0, .int .u8 0, .int .i64 0, .int .i64 0, .int .i64 0, .slice none 0 0]) (places := [(0, 37), (37, 1)]) (by kernel_rfl) (parts := [(0, (gCm s).1.val), (1, .slice ao_lSt (gList gSt (gCm s).2).1.length cap_lSt)]) (by simp only [List.map_toArray, List.map_cons, List.map_nil, show act.eval (.tmp 4) = (gCm s).1.val from (E.d 1 2), show act.eval (.tmp 6) = .slice ao_lSt (gList gSt (gCm s).2).1.length cap_lSt from (E.d 3 0)]; try rfl) (r := (gCe s).1.cells (Value.slice ao_lSt (gList gSt (gCm s).2).1.length cap_lSt)) (by exact laid_segs (ns := [37, 1]) rfl [(0, (gCm s).1.val), (1, .slice ao_lSt (gList gSt (gCm s).2).1.length cap_lSt)] [[.int .i64 0, .int .i64 0, .int .u8 0, .int .u8 0, .int .u8 0, .int .u8 0, .int .u8 0, .int .u8 0, .int .u8 0, .int .u8 0, .int .u8 0, .int .u8 0, .int .u8 0, .int .u8 0, .int .u8 0, .int .u8 0, .int .u8 0, .int .u8 0, .int .u8 0, .int .u8 0, .int .u8 0, .int .u8 0, .int .u8 0, .int .u8 0, .int .u8 0, .int .u8 0, .int .u8 0, .int .u8 0, .int .u8 0, .int .u8 0, .int .u8 0, .int .u8 0, .int .u8 0, .int .u8 0, .int .i64 0, .int .i64 0, .int .i64 0], [.slice none 0 0]] rfl ⟨(szv (Cm.len (rHash_HK (gSig_suf.bytes HBY.out) |>.1))), rfl, trivial⟩)) ?_
  clear act E
  refine QSeq.go fun act E => ?_
  refine qc_store rfl (wanted_none rfl) rfl (HB2.out.mod Cx6.out (by intro h2; first | omega | (have hb := HBR.out _ h2; omega))) (off := 0) (vs := ((gCe s).1.cells (Value.slice ao_lSt (gList gSt (gCm s).2).1.length cap_lSt))) (by rw [show ((gCe s).1.cells (Value.slice ao_lSt (gList gSt (gCm s).2).1.length cap_lSt)).length = _ from (ce_len _ _ (gCm_OK HBY.out).2.1)]; kernel_rfl) (one_ce2 _ _ rfl) (by rw [show ((gCe s).1.cells (Value.slice ao_lSt (gList gSt (gCm s).2).1.length cap_lSt)).length = _ from (ce_len _ _ (gCm_OK HBY.out).2.1)]; decide) (E.v oe2) (ec (E.d 4 0)) ?_
  intro u1_5 qc0 hm
  have qB2 := qc0.eqv (b := (((gCe s).1.cells (Value.slice ao_lSt (gList gSt (gCm s).2).1.length cap_lSt)) : List Value).toArray) (lay_whole _ _ (by rw [show ((gCe s).1.cells (Value.slice ao_lSt (gList gSt (gCm s).2).1.length cap_lSt)).length = _ from (ce_len _ _ (gCm_OK HBY.out).2.1)]; rfl))
  clear qc0
  have Hx7 := hid qB2
  have zu1_5 := hm.size
  have HMu1_5 := hid hm
  have Cx8 := hid (Mod.goS (S' := (fun k => (R k) ∨ (k = w.heap.size))) Cx6.out hm (fun _ h => Or.inl h) (by intro k h0 h2; exact Or.inr (h2)))
  clear hm Cx6
  clear act E qB2 HB2
  have Hx9 := hid (Hx5.out.mod HMu1_5.out (sB HBR))
  have Hx10 := hid (Hx4.out.mod HMu1_5.out (by intro k h1 h2; omega))
  clear Hx5 Hx4 HMu1_3 HMu1_5
  refine QSeq.nil (t' := [_, _, _, _, _, _]) rfl ?_
  obtain rfl := HA0.out
  clear HA0 oe0 oe2
  simp only [pz, Act.put, List.setIfInBounds_toArray, List.set_cons_zero, List.set_cons_succ, List.set_nil]
  go_wp2
  exact bodyPost_ret (results_cellA rfl _ _ w.heap.size ((gCe s).1.cells (Value.slice ao_lSt (gList gSt (gCm s).2).1.length cap_lSt)) rfl (fun k u hu => by rw [Hx7.out.cell]; simpa using hu) Try.underlying52 rfl (by rw [show ((gCe s).1.cells (Value.slice ao_lSt (gList gSt (gCm s).2).1.length cap_lSt)).length = _ from (ce_len _ _ (gCm_OK HBY.out).2.1)]; kernel_rfl)) rfl ⟨_, rfl, ⟨_, rfl, gCe_OK HBY.out, (Hx10.out.widen (R' := (fun k => New w u1_5 k)) (by intro k h1; omega))⟩, Hx9.out, (HM0.out.trans Cx8.out (by intro k h1 h2; rcases h2 with h2 | h2 <;> first | exact h2 | omega | (have hb := HBR.out k h2; omega)))⟩
set_option maxHeartbeats 4000000 in
theorem cList_Ce : GetsL CeR 125 117 81 gCe := by
  intro R r s w hR hB hl
  have HRD := Lib.hid hR
  have HBR := Lib.hid hB
  have HLN := Lib.hid hl
  clear hR hB hl
  go_enter Try.func117, Try.ntmps117
  go_upto_region 2 with (fail)
  have HM0 := hid (Mod.refl (fun k => (R k)) w)
  go_upto_region 2 with (fail)
  refine wp_region_U 21 [6, 7, 8] [0, 1, 2] (fun a0 HA0 => ?_)
  have oe0 := ev HA0 0 rfl
  refine QSeq.pure rfl _ (fun E => ex_move rfl (E.v oe0)) ?_
  refine QSeq.call rfl rfl Try.func115 (RInt_R HRD.out (by decide)) (fun E => args2 (E.d 0 0) rfl) ?_
  rintro e u2_1 ⟨rfl, qrd, hm⟩
  refine ⟨_, rfl, ?_⟩
  have Hx1 := hid qrd
  have zu2_1 := hm.size
  have Cx2 := hid (show Mod (fun k => (R k)) w u2_1 from hm)
  clear hm
  clear qrd HRD
  refine QSeq.pure rfl (.int .i64 0) (fun E => ex_move rfl rfl) ?_
  refine QSeq.nil (t' := [_, _, _]) rfl ?_
  obtain rfl := HA0.out
  clear HA0 oe0
  simp only [pz, Act.put, List.setIfInBounds_toArray, List.set_cons_zero, List.set_cons_succ]
  obtain ⟨n, hn⟩ : ∃ n, n = (rInt 100 s).1 := ⟨_, rfl⟩
  obtain ⟨s1, hs1⟩ : ∃ z, z = (rInt 100 s).2 := ⟨_, rfl⟩
  have hn100 : n ≤ 100 := by have := rInt_le 100 s; omega
  have HLS := hid (show (s1.getD []).length ≤ 900000 by rw [hs1]; exact Nat.le_trans ((rInt_suf 100).len s) HLN.out)
  have HGL := hid (show gList gCe s = gItems gCe n [] s1 by rw [hn, hs1]; rfl)
  rw [← hn]
  have hq := Hx1.out
  rw [← hs1] at hq
  have HR1 := Lib.hid hq
  clear hq hn hs1 HLN
  go_wp2
  go_loopw [5, 8] (fun ta ti wr => ∃ (k : Nat) (acc : List Ce) (st : RSt), ti = .int .i64 (k : Int) ∧ k ≤ n ∧ acc.length = k ∧ (st.getD []).length ≤ 900000 ∧ gItems gCe (n - k) acc st = gItems gCe n [] s1 ∧ u2_1.heap.size ≤ wr.heap.size ∧ OwS CeR 52 (fun b => w.heap.size ≤ b ∧ b < wr.heap.size) (fun b => w.heap.size ≤ b ∧ b < wr.heap.size) wr ta acc ∧ RrR 125 R wr r st ∧ Mod R w wr) (fun _ ti _ => n - (intOf ti).toNat)
  case atStart => exact ⟨0, [], s1, rfl, Nat.zero_le _, rfl, HLS.out, rfl, Nat.le_refl _, OwS.nil _ _ _ _ _, HR1.out, (HM0.out.trans Cx2.out (fun _ _ h => h))⟩
  case round =>
    obtain ⟨k, acc, st, rfl, hk, hka, hst, hg, hz, ha, hr, hm⟩ := hrel
    obtain ⟨wl, rfl⟩ : ∃ x, x = wr := ⟨_, rfl⟩
    obtain ⟨aol, capl, rfl⟩ := ha.shape
    have HAL := Lib.hid ha
    have HRL := Lib.hid hr
    have HML := Lib.hid hm
    have HST := Lib.hid hst
    have HG := Lib.hid hg
    have HKA := Lib.hid hka
    clear ha hr hm hst hg hka HR1 HM0
    by_cases hlt : k < n
    · skip
      go_upto_region 3 with (fail)
      refine wp_region_U 21 [9] [0] (fun a0 HA0 => ?_)
      have oe7 := ev HA0 7 rfl
      have oe8 := ev HA0 8 rfl
      refine QSeq.pure rfl (.bool true) (fun E => ex_binE rfl (E.v oe8) (E.v oe7) (guard_ints _ _ _ _ _ _) (run_lss_i _ _ _ Try.underlying3) (congrArg Value.bool (decide_eq_true (by omega)))) ?_
      refine QSeq.nil (t' := [_]) rfl ?_
      obtain rfl := HA0.out
      clear HA0 oe7 oe8
      simp only [pz, Act.put, List.setIfInBounds_toArray, List.set_cons_zero, List.set_cons_succ]
      obtain ⟨p, hp⟩ : ∃ p, p = gCe st := ⟨_, rfl⟩
      obtain ⟨x, st2⟩ := p
      have HP1 := hid (congrArg Prod.fst hp.symm)
      have HP2 := hid (congrArg Prod.snd hp.symm)
      clear hp
      dsimp only at HP1 HP2
      have HST2 := hid (show (st2.getD []).length ≤ 900000 by rw [← HP2.out]; exact Nat.le_trans (gCe_suf.len st) HST.out)
      have HGN := hid (show gItems gCe (n - k) acc st = if st2 = none then ([], none) else gItems gCe (n - (k + 1)) (acc ++ [x]) st2 by rw [show n - k = (n - (k + 1)) + 1 by omega]; show (if (gCe st).2 = none then _ else _) = _; rw [HP2.out, HP1.out])
      go_upto_region 4 with (fail)
      refine wp_region_U 21 [10, 11, 12, 13, 14, 15, 5] [0, 1, 2, 3, 4, 5, 6] (fun a0 HA0 => ?_)
      have oe0 := ev HA0 0 rfl
      have oe1 := ev HA0 1 rfl
      have oe5 := ev HA0 5 rfl
      refine QSeq.pure rfl _ (fun E => ex_move rfl (E.y 6 oe5)) ?_
      refine QSeq.pure rfl _ (fun E => ex_move rfl (E.v oe1)) ?_
      refine QSeq.pure rfl _ (fun E => ex_move rfl (E.v oe0)) ?_
      refine QSeq.go fun act E => ?_
      have ea12 : act.eval (.tmp 12) = .pointer (some ⟨r, 0, none⟩) := (E.d 2 0)
      refine qc_call (args := #[.pointer (some ⟨r, 0, none⟩)]) rfl (wanted_none rfl) (by rw [ex_callV rfl (E.d 1 1) Try.func81 (by kernel_rfl) (by kernel_rfl)]; exact congrArg (fun z => Result.ok (Next.enter _ z) _) (by simp only [List.map_toArray, List.map_cons, List.map_nil, ea12]; try rfl)) ((cCe_G).to HP1.out HP2.out HRL.out (by intro k h1; have hb := HBR.out k h1; omega) HST.out) ?_
      rintro e u4_3 ⟨cs, rfl, qel, qrd, hm⟩
      refine ⟨_, rfl, ?_⟩
      have Hx3 := hid qel
      have Hx4 := hid qrd
      have zu4_3 := hm.size
      have Cx5 := hid (show Mod (fun k => (R k)) wl u4_3 from hm)
      clear hm
      clear act E qel qrd HRL ea12
      refine QSeq.go fun act E => ?_
      refine qc_buildS (e := 52) (cs := cs) (zc := [.int .i64 0, .int .i64 0, .int .u8 0, .int .u8 0, .int .u8 0, .int .u8 0, .int .u8 0, .int .u8 0, .int .u8 0, .int .u8 0, .int .u8 0, .int .u8 0, .int .u8 0, .int .u8 0, .int .u8 0, .int .u8 0, .int .u8 0, .int .u8 0, .int .u8 0, .int .u8 0, .int .u8 0, .int .u8 0, .int .u8 0, .int .u8 0, .int .u8 0, .int .u8 0, .int .u8 0, .int .u8 0, .int .u8 0, .int .u8 0, .int .u8 0, .int .u8 0, .int .u8 0, .int .u8 0, .int .i64 0, .int .i64 0, .int .i64 0, .slice none 0 0]) (sz := 38) rfl (wanted_none rfl) rfl Try.underlying53 (by kernel_rfl) rfl (by decide) (by decide) (E.d 3 0) (CeR.len Hx3.out) ?_
      intro u4_4 qrow hm
      have zl4_4 := qrow.lt
      have Hx6 := hid qrow
      have zu4_4 := hm.size
      have HMu4_4 := hid hm
      have Cx7 := hid (Cx5.out.goE hm)
      clear hm Cx5
      clear act E qrow
      refine QSeq.go fun act E => ?_
      refine qc_appS (A := CeR) (e := 52) rfl (wanted_none rfl) rfl (.agg #[.int .i64 0, .int .i64 0, .int .u8 0, .int .u8 0, .int .u8 0, .int .u8 0, .int .u8 0, .int .u8 0, .int .u8 0, .int .u8 0, .int .u8 0, .int .u8 0, .int .u8 0, .int .u8 0, .int .u8 0, .int .u8 0, .int .u8 0, .int .u8 0, .int .u8 0, .int .u8 0, .int .u8 0, .int .u8 0, .int .u8 0, .int .u8 0, .int .u8 0, .int .u8 0, .int .u8 0, .int .u8 0, .int .u8 0, .int .u8 0, .int .u8 0, .int .u8 0, .int .u8 0, .int .u8 0, .int .i64 0, .int .i64 0, .int .i64 0, .slice none 0 0]) 96 Try.underlying53 info_Ce (by rfl) (of_decide_eq_true (by kernel_rfl)) (E.d 0 4) (E.d 4 0) ((HAL.out.mod Cx7.out (by intro k h1 h2; have hb := HBR.out k h2; omega) (by intro k h1 h2; have hb := HBR.out k h2; omega))) (RdS.single (R := (fun k => (New wl u4_3 k) ∨ (k = u4_3.heap.size))) Hx6.out ((Hx3.out.mod HMu4_4.out (fun _ _ h => h)).widen (by intro k h1; first | omega | exact h1.elim | exact Or.inl h1 | exact Or.inr (h1))) (by first | exact Or.inr rfl | exact Or.inr (Or.inr rfl) | (right; omega))) (by intro k h1 h2; omega) (by rw [HKA.out]; simp only [List.length_cons, List.length_nil]; omega) (by rw [HKA.out]; simp only [List.length_cons, List.length_nil]; rw [maxLen_val]; omega) ?_
      intro ao4 cap4 u4_5 qout hm
      have Hx8 := hid (qout.widen (R' := (fun k => (New w wl k) ∨ (New u4_4 u4_5 k))) (E' := (fun k => (New w wl k) ∨ (New wl u4_3 k) ∨ (k = u4_3.heap.size))) (fun _ h => h) (by intro k h1; rcases h1 with h1 | (h1 | h1) <;> first | omega | exact h1.elim | exact Or.inl h1 | exact Or.inr (Or.inl h1) | exact Or.inr (Or.inr (h1))))
      have zu4_5 := hm.size
      have HMu4_5 := hid hm
      have Cx9 := hid (Mod.goS (S' := (fun k => (R k) ∨ (New w wl k))) Cx7.out hm (fun _ h => Or.inl h) (by intro k h0 h2; exact Or.inr (h2)))
      clear hm Cx7
      clear act E qout HAL
      refine QSeq.pure rfl _ (fun E => ex_assign rfl (E.d 5 0)) ?_
      have Hx10 := hid ((Hx4.out.mod HMu4_4.out (fun _ _ h => h)).mod HMu4_5.out (sN HBR))
      have Hx11 := hid ((Hx3.out.mod HMu4_4.out (fun _ _ h => h)).mod HMu4_5.out (by intro k h1 h2; omega))
      have Hx12 := hid (Hx6.out.mod HMu4_5.out (by intro h2; omega))
      clear Hx4 Hx3 Hx6 HMu4_4 HMu4_5
      refine QSeq.nil (t' := [_, _, _, _, _, _, _]) rfl ?_
      obtain rfl := HA0.out
      clear HA0 oe0 oe1 oe5
      simp only [pz, Act.put, List.setIfInBounds_toArray, List.set_cons_zero, List.set_cons_succ]
      clear Hx11
      clear Hx12
      cases st2 with
      | none =>
        go_upto_region 5 with (fail)
        refine wp_region_U 21 [16, 17, 18] [0, 1, 2] (fun a0 HA0 => ?_)
        have oe0 := ev HA0 0 rfl
        refine QSeq.pure rfl _ (fun E => ex_move rfl (E.v oe0)) ?_
        refine QSeq.go fun act E => ?_
        refine qc_callF (args := #[.pointer (some ⟨r, 0, none⟩)]) rfl (wanted_none rfl) rfl Try.func39 (args1 (E.d 0 0)) (OK_R Hx10.out) ?_
        rintro e w2 ⟨rfl, hw2⟩
        obtain rfl : u4_5 = w2 := by first | exact hw2 | exact hw2.symm
        refine ⟨_, rfl, ?_⟩
        clear act E
        refine QSeq.pure rfl (.bool true) (fun E => ex_not rfl (E.d 1 0)) ?_
        refine QSeq.nil (t' := [_, _, _]) rfl ?_
        obtain rfl := HA0.out
        clear HA0 oe0
        simp only [pz, Act.put, List.setIfInBounds_toArray, List.set_cons_zero, List.set_cons_succ]
        go_upto_region 6 with (fail)
        refine wp_region_U 21 [4] [0] (fun a0 HA0 => ?_)
        refine QSeq.pure rfl (.slice none 0 0) (fun E => ex_assign rfl rfl) ?_
        refine QSeq.nil (t' := [_]) rfl ?_
        obtain rfl := HA0.out
        clear HA0
        simp only [pz, Act.put, List.setIfInBounds_toArray, List.set_cons_zero, List.set_cons_succ]
        go_wp2
        go_ret
        have hq := HG.out
        rw [HGN.out, if_pos trivial] at hq
        have e := HGL.out
        rw [← hq] at e
        refine ⟨_, rfl, ?_, ?_, (HML.out.trans Cx9.out (by intro k h1 h2; rcases h2 with h2 | h2 <;> first | exact h2 | omega | (have hb := HBR.out k h2; omega)))⟩
        · rw [e]; exact RdS.nil _ _ _
        · rw [e]; exact Hx10.out
      | some l2 =>
        go_upto_region 5 with (fail)
        refine wp_region_U 21 [16, 17, 18] [0, 1, 2] (fun a0 HA0 => ?_)
        have oe0 := ev HA0 0 rfl
        refine QSeq.pure rfl _ (fun E => ex_move rfl (E.v oe0)) ?_
        refine QSeq.go fun act E => ?_
        refine qc_callF (args := #[.pointer (some ⟨r, 0, none⟩)]) rfl (wanted_none rfl) rfl Try.func39 (args1 (E.d 0 0)) (OK_R Hx10.out) ?_
        rintro e w2 ⟨rfl, hw2⟩
        obtain rfl : u4_5 = w2 := by first | exact hw2 | exact hw2.symm
        refine ⟨_, rfl, ?_⟩
        clear act E
        refine QSeq.pure rfl (.bool false) (fun E => ex_not rfl (E.d 1 0)) ?_
        refine QSeq.nil (t' := [_, _, _]) rfl ?_
        obtain rfl := HA0.out
        clear HA0 oe0
        simp only [pz, Act.put, List.setIfInBounds_toArray, List.set_cons_zero, List.set_cons_succ]
        go_upto_region 7 with (fail)
        refine wp_region_U 21 [19, 8] [0, 1] (fun a0 HA0 => ?_)
        have oe8 := ev HA0 8 rfl
        refine QSeq.pure rfl (.int .i64 (((k : Nat) : Int) + 1)) (fun E => ex_binE rfl (E.y 1 oe8) rfl (guard_ints _ _ _ _ _ _) (run_add_i _ _ Try.underlying3) (congrArg (Value.int .i64) (IntWalk.i64_in _ (by omega)))) ?_
        refine QSeq.pure rfl _ (fun E => ex_move rfl (E.d 0 0)) ?_
        refine QSeq.nil (t' := [_, _]) rfl ?_
        obtain rfl := HA0.out
        clear HA0 oe8
        simp only [pz, Act.put, List.setIfInBounds_toArray, List.set_cons_zero, List.set_cons_succ]
        go_wp2
        go_roundw
        case rel => exact ⟨k + 1, acc ++ [x], some l2, by go_num, by omega, by rw [List.length_append, HKA.out]; rfl, HST2.out, (by have hq := HG.out; rw [HGN.out, if_neg (by simp)] at hq; exact hq), by omega, (Hx8.out.widen (by intro b h1; omega) (by intro b h1; rcases h1 with h1 | h1 | h1 <;> first | omega | exact h1.elim)), Hx10.out, (HML.out.trans Cx9.out (by intro k h1 h2; rcases h2 with h2 | h2 <;> first | exact h2 | omega | (have hb := HBR.out k h2; omega)))⟩
        case measure => simp [intOf] <;> omega
    · obtain rfl : n = k := by omega
      go_upto_region 3 with (fail)
      refine wp_region_U 21 [9] [0] (fun a0 HA0 => ?_)
      have oe7 := ev HA0 7 rfl
      have oe8 := ev HA0 8 rfl
      refine QSeq.pure rfl (.bool false) (fun E => ex_binE rfl (E.v oe8) (E.v oe7) (guard_ints _ _ _ _ _ _) (run_lss_i _ _ _ Try.underlying3) (congrArg Value.bool (decide_eq_false (by omega)))) ?_
      refine QSeq.nil (t' := [_]) rfl ?_
      obtain rfl := HA0.out
      clear HA0 oe7 oe8
      simp only [pz, Act.put, List.setIfInBounds_toArray, List.set_cons_zero, List.set_cons_succ]
      go_upto_region 8 with (fail)
      refine wp_region_U 21 [20, 4] [0, 1] (fun a0 HA0 => ?_)
      have oe5 := ev HA0 5 rfl
      refine QSeq.pure rfl _ (fun E => ex_move rfl (E.v oe5)) ?_
      refine QSeq.pure rfl _ (fun E => ex_assign rfl (E.d 0 0)) ?_
      refine QSeq.nil (t' := [_, _]) rfl ?_
      obtain rfl := HA0.out
      clear HA0 oe5
      simp only [pz, Act.put, List.setIfInBounds_toArray, List.set_cons_zero, List.set_cons_succ]
      go_wp2
      go_ret
      have hq := HG.out
      rw [Nat.sub_self] at hq
      have e := HGL.out
      rw [← hq] at e
      refine ⟨_, rfl, ?_, ?_, HML.out⟩
      · rw [e]; exact HAL.out.rd.widen (by intro b h1; (try dsimp only at h1 ⊢); omega)
      · rw [e]; exact HRL.out
set_option maxHeartbeats 4000000 in
theorem cTb_G : Gets TbR 125 127 gTb := by
  intro R r s w hR hB hl
  have HRD := Lib.hid hR
  have HBR := Lib.hid hB
  have HBY := hid hR.bytes
  clear hR hB
  have HLN := Lib.hid hl
  clear hl
  go_enter Try.func127, Try.ntmps127
  go_upto_region 1 with (fail)
  obtain ⟨w1, hw1⟩ : ∃ zz, zz = (w.alloc (.cells #[.int .i64 0, .slice none 0 0] 90)) := ⟨_, rfl⟩
  change Code.wp _ _ _ _ (w.alloc (.cells #[.int .i64 0, .slice none 0 0] 90))
  rw [← hw1]
  have HB2 := hid (show Cs w1 (w.heap.size) #[.int .i64 0, .slice none 0 0] 90 by rw [hw1]; exact Cs.new _ _ _)
  have hm : Mod (fun _ => False) w w1 := by rw [hw1]; exact (Mod.refl _ _).alloc _
  have HM0 := hid (show Mod (fun k => (R k)) w w1 from hm.mono (fun _ _ h => h.elim))
  have hs1 : w1.heap.size = w.heap.size + 1 := by rw [hw1]; simp
  have Hx1 := hid (HRD.out.mod hm (fun _ _ h => h))
  clear HRD
  clear hw1 hm
  go_upto_region 1 with (fail)
  refine wp_region_U 8 [3, 4, 5, 6, 7, 13] [0, 1, 2, 3, 4, 5] (fun a0 HA0 => ?_)
  have oe0 := ev HA0 0 rfl
  have oe2 := ev HA0 2 rfl
  refine QSeq.pure rfl _ (fun E => ex_move rfl (E.v oe0)) ?_
  refine QSeq.call rfl rfl Try.func115 (cI_Q Hx1.out) (fun E => args2 (E.d 0 0) rfl) ?_
  rintro e u1_1 ⟨rfl, qrd, hm⟩
  refine ⟨_, rfl, ?_⟩
  have Hx2 := hid qrd
  have zu1_1 := hm.size
  have Cx3 := hid (show Mod (fun k => (R k)) w1 u1_1 from hm)
  clear hm
  clear qrd Hx1
  refine QSeq.pure rfl _ (fun E => ex_move rfl (E.v oe0)) ?_
  refine QSeq.call rfl rfl Try.func150 (cList_Dn _ _ _ _ Hx2.out (by intro k h1; have hb := HBR.out k h1; omega) (Nat.le_trans (gI_suf.len _) HLN.out)) (fun E => args2 (E.d 2 0) rfl) ?_
  rintro e u1_3 ⟨vlDn, rfl, qlDn, qrd, hm⟩
  obtain ⟨ao_lDn, cap_lDn, rfl⟩ := qlDn.shape
  refine ⟨_, rfl, ?_⟩
  have Hx4 := hid qlDn
  have Hx5 := hid qrd
  have zu1_3 := hm.size
  have HMu1_3 := hid hm
  have Cx6 := hid (Mod.goS (S' := (fun k => (R k))) Cx3.out hm (fun _ h => h) (by intro k h0 h2; exact h2))
  clear hm Cx3
  clear qlDn qrd Hx2
  refine QSeq.go fun act E => ?_
  refine qc_run rfl (wanted_none rfl) (v := .agg ((gTb s).1.cells (Value.slice ao_lDn (gList gDn (gI s).2).1.length cap_lDn) : List Value).toArray) (ex_build rfl (z := [.int .i64 0, .slice none 0 0]) (places := [(0, 1), (1, 1)]) (by kernel_rfl) (parts := [(0, .int .i64 (gI s).1), (1, .slice ao_lDn (gList gDn (gI s).2).1.length cap_lDn)]) (by simp only [List.map_toArray, List.map_cons, List.map_nil, show act.eval (.tmp 4) = .int .i64 (gI s).1 from (E.d 1 2), show act.eval (.tmp 6) = .slice ao_lDn (gList gDn (gI s).2).1.length cap_lDn from (E.d 3 0)]; try rfl) (r := (gTb s).1.cells (Value.slice ao_lDn (gList gDn (gI s).2).1.length cap_lDn)) (by exact laid_segs (ns := [1, 1]) rfl [(0, .int .i64 (gI s).1), (1, .slice ao_lDn (gList gDn (gI s).2).1.length cap_lDn)] [[.int .i64 0], [.slice none 0 0]] rfl ⟨rfl, rfl, trivial⟩)) ?_
  clear act E
  refine QSeq.go fun act E => ?_
  refine qc_store rfl (wanted_none rfl) rfl (HB2.out.mod Cx6.out (by intro h2; first | omega | (have hb := HBR.out _ h2; omega))) (off := 0) (vs := ((gTb s).1.cells (Value.slice ao_lDn (gList gDn (gI s).2).1.length cap_lDn))) (by kernel_rfl) (by intro u hu; simp only [Tb.cells, List.mem_cons, List.not_mem_nil, or_false] at hu; rcases hu with rfl | rfl <;> rfl) (by simp) (E.v oe2) (ec (E.d 4 0)) ?_
  intro u1_5 qc0 hm
  have qB2 := qc0.eqv (b := (((gTb s).1.cells (Value.slice ao_lDn (gList gDn (gI s).2).1.length cap_lDn)) : List Value).toArray) (lay_whole #[.int .i64 0, .slice none 0 0] _ rfl)
  clear qc0
  have Hx7 := hid qB2
  have zu1_5 := hm.size
  have HMu1_5 := hid hm
  have Cx8 := hid (Mod.goS (S' := (fun k => (R k) ∨ (k = w.heap.size))) Cx6.out hm (fun _ h => Or.inl h) (by intro k h0 h2; exact Or.inr (h2)))
  clear hm Cx6
  clear act E qB2 HB2
  have Hx9 := hid (Hx5.out.mod HMu1_5.out (sB HBR))
  have Hx10 := hid (Hx4.out.mod HMu1_5.out (by intro k h1 h2; omega))
  clear Hx5 Hx4 HMu1_3 HMu1_5
  refine QSeq.nil (t' := [_, _, _, _, _, _]) rfl ?_
  obtain rfl := HA0.out
  clear HA0 oe0 oe2
  simp only [pz, Act.put, List.setIfInBounds_toArray, List.set_cons_zero, List.set_cons_succ, List.set_nil]
  go_wp2
  exact bodyPost_ret (results_cellA rfl _ _ w.heap.size ((gTb s).1.cells (Value.slice ao_lDn (gList gDn (gI s).2).1.length cap_lDn)) rfl (fun k u hu => by rw [Hx7.out.cell]; simpa using hu) Try.underlying90 rfl (by kernel_rfl)) rfl ⟨_, rfl, ⟨_, rfl, gTb_OK HBY.out, (Hx10.out.widen (R' := (fun k => New w u1_5 k)) (by intro k h1; omega))⟩, Hx9.out, (HM0.out.trans Cx8.out (by intro k h1 h2; rcases h2 with h2 | h2 <;> first | exact h2 | omega | (have hb := HBR.out k h2; omega)))⟩
set_option maxHeartbeats 4000000 in
theorem cList_Tb : GetsL TbR 125 126 127 gTb := by
  intro R r s w hR hB hl
  have HRD := Lib.hid hR
  have HBR := Lib.hid hB
  have HLN := Lib.hid hl
  clear hR hB hl
  go_enter Try.func126, Try.ntmps126
  go_upto_region 2 with (fail)
  have HM0 := hid (Mod.refl (fun k => (R k)) w)
  go_upto_region 2 with (fail)
  refine wp_region_U 21 [6, 7, 8] [0, 1, 2] (fun a0 HA0 => ?_)
  have oe0 := ev HA0 0 rfl
  refine QSeq.pure rfl _ (fun E => ex_move rfl (E.v oe0)) ?_
  refine QSeq.call rfl rfl Try.func115 (RInt_R HRD.out (by decide)) (fun E => args2 (E.d 0 0) rfl) ?_
  rintro e u2_1 ⟨rfl, qrd, hm⟩
  refine ⟨_, rfl, ?_⟩
  have Hx1 := hid qrd
  have zu2_1 := hm.size
  have Cx2 := hid (show Mod (fun k => (R k)) w u2_1 from hm)
  clear hm
  clear qrd HRD
  refine QSeq.pure rfl (.int .i64 0) (fun E => ex_move rfl rfl) ?_
  refine QSeq.nil (t' := [_, _, _]) rfl ?_
  obtain rfl := HA0.out
  clear HA0 oe0
  simp only [pz, Act.put, List.setIfInBounds_toArray, List.set_cons_zero, List.set_cons_succ]
  obtain ⟨n, hn⟩ : ∃ n, n = (rInt 100 s).1 := ⟨_, rfl⟩
  obtain ⟨s1, hs1⟩ : ∃ z, z = (rInt 100 s).2 := ⟨_, rfl⟩
  have hn100 : n ≤ 100 := by have := rInt_le 100 s; omega
  have HLS := hid (show (s1.getD []).length ≤ 900000 by rw [hs1]; exact Nat.le_trans ((rInt_suf 100).len s) HLN.out)
  have HGL := hid (show gList gTb s = gItems gTb n [] s1 by rw [hn, hs1]; rfl)
  rw [← hn]
  have hq := Hx1.out
  rw [← hs1] at hq
  have HR1 := Lib.hid hq
  clear hq hn hs1 HLN
  go_wp2
  go_loopw [5, 8] (fun ta ti wr => ∃ (k : Nat) (acc : List Tb) (st : RSt), ti = .int .i64 (k : Int) ∧ k ≤ n ∧ acc.length = k ∧ (st.getD []).length ≤ 900000 ∧ gItems gTb (n - k) acc st = gItems gTb n [] s1 ∧ u2_1.heap.size ≤ wr.heap.size ∧ OwS TbR 90 (fun b => w.heap.size ≤ b ∧ b < wr.heap.size) (fun b => w.heap.size ≤ b ∧ b < wr.heap.size) wr ta acc ∧ RrR 125 R wr r st ∧ Mod R w wr) (fun _ ti _ => n - (intOf ti).toNat)
  case atStart => exact ⟨0, [], s1, rfl, Nat.zero_le _, rfl, HLS.out, rfl, Nat.le_refl _, OwS.nil _ _ _ _ _, HR1.out, (HM0.out.trans Cx2.out (fun _ _ h => h))⟩
  case round =>
    obtain ⟨k, acc, st, rfl, hk, hka, hst, hg, hz, ha, hr, hm⟩ := hrel
    obtain ⟨wl, rfl⟩ : ∃ x, x = wr := ⟨_, rfl⟩
    obtain ⟨aol, capl, rfl⟩ := ha.shape
    have HAL := Lib.hid ha
    have HRL := Lib.hid hr
    have HML := Lib.hid hm
    have HST := Lib.hid hst
    have HG := Lib.hid hg
    have HKA := Lib.hid hka
    clear ha hr hm hst hg hka HR1 HM0
    by_cases hlt : k < n
    · skip
      go_upto_region 3 with (fail)
      refine wp_region_U 21 [9] [0] (fun a0 HA0 => ?_)
      have oe7 := ev HA0 7 rfl
      have oe8 := ev HA0 8 rfl
      refine QSeq.pure rfl (.bool true) (fun E => ex_binE rfl (E.v oe8) (E.v oe7) (guard_ints _ _ _ _ _ _) (run_lss_i _ _ _ Try.underlying3) (congrArg Value.bool (decide_eq_true (by omega)))) ?_
      refine QSeq.nil (t' := [_]) rfl ?_
      obtain rfl := HA0.out
      clear HA0 oe7 oe8
      simp only [pz, Act.put, List.setIfInBounds_toArray, List.set_cons_zero, List.set_cons_succ]
      obtain ⟨p, hp⟩ : ∃ p, p = gTb st := ⟨_, rfl⟩
      obtain ⟨x, st2⟩ := p
      have HP1 := hid (congrArg Prod.fst hp.symm)
      have HP2 := hid (congrArg Prod.snd hp.symm)
      clear hp
      dsimp only at HP1 HP2
      have HST2 := hid (show (st2.getD []).length ≤ 900000 by rw [← HP2.out]; exact Nat.le_trans (gTb_suf.len st) HST.out)
      have HGN := hid (show gItems gTb (n - k) acc st = if st2 = none then ([], none) else gItems gTb (n - (k + 1)) (acc ++ [x]) st2 by rw [show n - k = (n - (k + 1)) + 1 by omega]; show (if (gTb st).2 = none then _ else _) = _; rw [HP2.out, HP1.out])
      go_upto_region 4 with (fail)
      refine wp_region_U 21 [10, 11, 12, 13, 14, 15, 5] [0, 1, 2, 3, 4, 5, 6] (fun a0 HA0 => ?_)
      have oe0 := ev HA0 0 rfl
      have oe1 := ev HA0 1 rfl
      have oe5 := ev HA0 5 rfl
      refine QSeq.pure rfl _ (fun E => ex_move rfl (E.y 6 oe5)) ?_
      refine QSeq.pure rfl _ (fun E => ex_move rfl (E.v oe1)) ?_
      refine QSeq.pure rfl _ (fun E => ex_move rfl (E.v oe0)) ?_
      refine QSeq.go fun act E => ?_
      have ea12 : act.eval (.tmp 12) = .pointer (some ⟨r, 0, none⟩) := (E.d 2 0)
      refine qc_call (args := #[.pointer (some ⟨r, 0, none⟩)]) rfl (wanted_none rfl) (by rw [ex_callV rfl (E.d 1 1) Try.func127 (by kernel_rfl) (by kernel_rfl)]; exact congrArg (fun z => Result.ok (Next.enter _ z) _) (by simp only [List.map_toArray, List.map_cons, List.map_nil, ea12]; try rfl)) ((cTb_G).to HP1.out HP2.out HRL.out (by intro k h1; have hb := HBR.out k h1; omega) HST.out) ?_
      rintro e u4_3 ⟨cs, rfl, qel, qrd, hm⟩
      refine ⟨_, rfl, ?_⟩
      have Hx3 := hid qel
      have Hx4 := hid qrd
      have zu4_3 := hm.size
      have Cx5 := hid (show Mod (fun k => (R k)) wl u4_3 from hm)
      clear hm
      clear act E qel qrd HRL ea12
      refine QSeq.go fun act E => ?_
      refine qc_buildS (e := 90) (cs := cs) (zc := [.int .i64 0, .slice none 0 0]) (sz := 2) rfl (wanted_none rfl) rfl Try.underlying58 (by kernel_rfl) rfl (by decide) (by decide) (E.d 3 0) (TbR.len Hx3.out) ?_
      intro u4_4 qrow hm
      have zl4_4 := qrow.lt
      have Hx6 := hid qrow
      have zu4_4 := hm.size
      have HMu4_4 := hid hm
      have Cx7 := hid (Cx5.out.goE hm)
      clear hm Cx5
      clear act E qrow
      refine QSeq.go fun act E => ?_
      refine qc_appS (A := TbR) (e := 90) rfl (wanted_none rfl) rfl (.agg #[.int .i64 0, .slice none 0 0]) 32 Try.underlying58 info_Tb (by rfl) (of_decide_eq_true (by kernel_rfl)) (E.d 0 4) (E.d 4 0) ((HAL.out.mod Cx7.out (by intro k h1 h2; have hb := HBR.out k h2; omega) (by intro k h1 h2; have hb := HBR.out k h2; omega))) (RdS.single (R := (fun k => (New wl u4_3 k) ∨ (k = u4_3.heap.size))) Hx6.out ((Hx3.out.mod HMu4_4.out (fun _ _ h => h)).widen (by intro k h1; first | omega | exact h1.elim | exact Or.inl h1 | exact Or.inr (h1))) (by first | exact Or.inr rfl | exact Or.inr (Or.inr rfl) | (right; omega))) (by intro k h1 h2; omega) (by rw [HKA.out]; simp only [List.length_cons, List.length_nil]; omega) (by rw [HKA.out]; simp only [List.length_cons, List.length_nil]; rw [maxLen_val]; omega) ?_
      intro ao4 cap4 u4_5 qout hm
      have Hx8 := hid (qout.widen (R' := (fun k => (New w wl k) ∨ (New u4_4 u4_5 k))) (E' := (fun k => (New w wl k) ∨ (New wl u4_3 k) ∨ (k = u4_3.heap.size))) (fun _ h => h) (by intro k h1; rcases h1 with h1 | (h1 | h1) <;> first | omega | exact h1.elim | exact Or.inl h1 | exact Or.inr (Or.inl h1) | exact Or.inr (Or.inr (h1))))
      have zu4_5 := hm.size
      have HMu4_5 := hid hm
      have Cx9 := hid (Mod.goS (S' := (fun k => (R k) ∨ (New w wl k))) Cx7.out hm (fun _ h => Or.inl h) (by intro k h0 h2; exact Or.inr (h2)))
      clear hm Cx7
      clear act E qout HAL
      refine QSeq.pure rfl _ (fun E => ex_assign rfl (E.d 5 0)) ?_
      have Hx10 := hid ((Hx4.out.mod HMu4_4.out (fun _ _ h => h)).mod HMu4_5.out (sN HBR))
      have Hx11 := hid ((Hx3.out.mod HMu4_4.out (fun _ _ h => h)).mod HMu4_5.out (by intro k h1 h2; omega))
      have Hx12 := hid (Hx6.out.mod HMu4_5.out (by intro h2; omega))
      clear Hx4 Hx3 Hx6 HMu4_4 HMu4_5
      refine QSeq.nil (t' := [_, _, _, _, _, _, _]) rfl ?_
      obtain rfl := HA0.out
      clear HA0 oe0 oe1 oe5
      simp only [pz, Act.put, List.setIfInBounds_toArray, List.set_cons_zero, List.set_cons_succ]
      clear Hx11
      clear Hx12
      cases st2 with
      | none =>
        go_upto_region 5 with (fail)
        refine wp_region_U 21 [16, 17, 18] [0, 1, 2] (fun a0 HA0 => ?_)
        have oe0 := ev HA0 0 rfl
        refine QSeq.pure rfl _ (fun E => ex_move rfl (E.v oe0)) ?_
        refine QSeq.go fun act E => ?_
        refine qc_callF (args := #[.pointer (some ⟨r, 0, none⟩)]) rfl (wanted_none rfl) rfl Try.func39 (args1 (E.d 0 0)) (OK_R Hx10.out) ?_
        rintro e w2 ⟨rfl, hw2⟩
        obtain rfl : u4_5 = w2 := by first | exact hw2 | exact hw2.symm
        refine ⟨_, rfl, ?_⟩
        clear act E
        refine QSeq.pure rfl (.bool true) (fun E => ex_not rfl (E.d 1 0)) ?_
        refine QSeq.nil (t' := [_, _, _]) rfl ?_
        obtain rfl := HA0.out
        clear HA0 oe0
        simp only [pz, Act.put, List.setIfInBounds_toArray, List.set_cons_zero, List.set_cons_succ]
        go_upto_region 6 with (fail)
        refine wp_region_U 21 [4] [0] (fun a0 HA0 => ?_)
        refine QSeq.pure rfl (.slice none 0 0) (fun E => ex_assign rfl rfl) ?_
        refine QSeq.nil (t' := [_]) rfl ?_
        obtain rfl := HA0.out
        clear HA0
        simp only [pz, Act.put, List.setIfInBounds_toArray, List.set_cons_zero, List.set_cons_succ]
        go_wp2
        go_ret
        have hq := HG.out
        rw [HGN.out, if_pos trivial] at hq
        have e := HGL.out
        rw [← hq] at e
        refine ⟨_, rfl, ?_, ?_, (HML.out.trans Cx9.out (by intro k h1 h2; rcases h2 with h2 | h2 <;> first | exact h2 | omega | (have hb := HBR.out k h2; omega)))⟩
        · rw [e]; exact RdS.nil _ _ _
        · rw [e]; exact Hx10.out
      | some l2 =>
        go_upto_region 5 with (fail)
        refine wp_region_U 21 [16, 17, 18] [0, 1, 2] (fun a0 HA0 => ?_)
        have oe0 := ev HA0 0 rfl
        refine QSeq.pure rfl _ (fun E => ex_move rfl (E.v oe0)) ?_
        refine QSeq.go fun act E => ?_
        refine qc_callF (args := #[.pointer (some ⟨r, 0, none⟩)]) rfl (wanted_none rfl) rfl Try.func39 (args1 (E.d 0 0)) (OK_R Hx10.out) ?_
        rintro e w2 ⟨rfl, hw2⟩
        obtain rfl : u4_5 = w2 := by first | exact hw2 | exact hw2.symm
        refine ⟨_, rfl, ?_⟩
        clear act E
        refine QSeq.pure rfl (.bool false) (fun E => ex_not rfl (E.d 1 0)) ?_
        refine QSeq.nil (t' := [_, _, _]) rfl ?_
        obtain rfl := HA0.out
        clear HA0 oe0
        simp only [pz, Act.put, List.setIfInBounds_toArray, List.set_cons_zero, List.set_cons_succ]
        go_upto_region 7 with (fail)
        refine wp_region_U 21 [19, 8] [0, 1] (fun a0 HA0 => ?_)
        have oe8 := ev HA0 8 rfl
        refine QSeq.pure rfl (.int .i64 (((k : Nat) : Int) + 1)) (fun E => ex_binE rfl (E.y 1 oe8) rfl (guard_ints _ _ _ _ _ _) (run_add_i _ _ Try.underlying3) (congrArg (Value.int .i64) (IntWalk.i64_in _ (by omega)))) ?_
        refine QSeq.pure rfl _ (fun E => ex_move rfl (E.d 0 0)) ?_
        refine QSeq.nil (t' := [_, _]) rfl ?_
        obtain rfl := HA0.out
        clear HA0 oe8
        simp only [pz, Act.put, List.setIfInBounds_toArray, List.set_cons_zero, List.set_cons_succ]
        go_wp2
        go_roundw
        case rel => exact ⟨k + 1, acc ++ [x], some l2, by go_num, by omega, by rw [List.length_append, HKA.out]; rfl, HST2.out, (by have hq := HG.out; rw [HGN.out, if_neg (by simp)] at hq; exact hq), by omega, (Hx8.out.widen (by intro b h1; omega) (by intro b h1; rcases h1 with h1 | h1 | h1 <;> first | omega | exact h1.elim)), Hx10.out, (HML.out.trans Cx9.out (by intro k h1 h2; rcases h2 with h2 | h2 <;> first | exact h2 | omega | (have hb := HBR.out k h2; omega)))⟩
        case measure => simp [intOf] <;> omega
    · obtain rfl : n = k := by omega
      go_upto_region 3 with (fail)
      refine wp_region_U 21 [9] [0] (fun a0 HA0 => ?_)
      have oe7 := ev HA0 7 rfl
      have oe8 := ev HA0 8 rfl
      refine QSeq.pure rfl (.bool false) (fun E => ex_binE rfl (E.v oe8) (E.v oe7) (guard_ints _ _ _ _ _ _) (run_lss_i _ _ _ Try.underlying3) (congrArg Value.bool (decide_eq_false (by omega)))) ?_
      refine QSeq.nil (t' := [_]) rfl ?_
      obtain rfl := HA0.out
      clear HA0 oe7 oe8
      simp only [pz, Act.put, List.setIfInBounds_toArray, List.set_cons_zero, List.set_cons_succ]
      go_upto_region 8 with (fail)
      refine wp_region_U 21 [20, 4] [0, 1] (fun a0 HA0 => ?_)
      have oe5 := ev HA0 5 rfl
      refine QSeq.pure rfl _ (fun E => ex_move rfl (E.v oe5)) ?_
      refine QSeq.pure rfl _ (fun E => ex_assign rfl (E.d 0 0)) ?_
      refine QSeq.nil (t' := [_, _]) rfl ?_
      obtain rfl := HA0.out
      clear HA0 oe5
      simp only [pz, Act.put, List.setIfInBounds_toArray, List.set_cons_zero, List.set_cons_succ]
      go_wp2
      go_ret
      have hq := HG.out
      rw [Nat.sub_self] at hq
      have e := HGL.out
      rw [← hq] at e
      refine ⟨_, rfl, ?_, ?_, HML.out⟩
      · rw [e]; exact HAL.out.rd.widen (by intro b h1; (try dsimp only at h1 ⊢); omega)
      · rw [e]; exact HRL.out
set_option maxHeartbeats 4000000 in
theorem cOp_G : Gets OpR 125 125 gOp := by
  intro R r s w hR hB hl
  have HRD := Lib.hid hR
  have HBR := Lib.hid hB
  have HBY := hid hR.bytes
  clear hR hB
  have HLN := Lib.hid hl
  clear hl
  go_enter Try.func125, Try.ntmps125
  go_upto_region 1 with (fail)
  obtain ⟨w1, hw1⟩ : ∃ zz, zz = (w.alloc (.cells #[.int .i64 0, .slice none 0 0, .int .u8 0, .int .u8 0, .int .u8 0, .int .u8 0, .int .u8 0, .int .u8 0, .int .u8 0, .int .u8 0, .int .u8 0, .int .u8 0, .int .u8 0, .int .u8 0, .int .u8 0, .int .u8 0, .int .u8 0, .int .u8 0, .int .u8 0, .int .u8 0, .int .u8 0, .int .u8 0, .int .u8 0, .int .u8 0, .int .u8 0, .int .u8 0, .int .u8 0, .int .u8 0, .int .u8 0, .int .u8 0, .int .u8 0, .int .u8 0, .int .u8 0, .int .u8 0] 87)) := ⟨_, rfl⟩
  change Code.wp _ _ _ _ (w.alloc (.cells #[.int .i64 0, .slice none 0 0, .int .u8 0, .int .u8 0, .int .u8 0, .int .u8 0, .int .u8 0, .int .u8 0, .int .u8 0, .int .u8 0, .int .u8 0, .int .u8 0, .int .u8 0, .int .u8 0, .int .u8 0, .int .u8 0, .int .u8 0, .int .u8 0, .int .u8 0, .int .u8 0, .int .u8 0, .int .u8 0, .int .u8 0, .int .u8 0, .int .u8 0, .int .u8 0, .int .u8 0, .int .u8 0, .int .u8 0, .int .u8 0, .int .u8 0, .int .u8 0, .int .u8 0, .int .u8 0] 87))
  rw [← hw1]
  have HB2 := hid (show Cs w1 (w.heap.size) #[.int .i64 0, .slice none 0 0, .int .u8 0, .int .u8 0, .int .u8 0, .int .u8 0, .int .u8 0, .int .u8 0, .int .u8 0, .int .u8 0, .int .u8 0, .int .u8 0, .int .u8 0, .int .u8 0, .int .u8 0, .int .u8 0, .int .u8 0, .int .u8 0, .int .u8 0, .int .u8 0, .int .u8 0, .int .u8 0, .int .u8 0, .int .u8 0, .int .u8 0, .int .u8 0, .int .u8 0, .int .u8 0, .int .u8 0, .int .u8 0, .int .u8 0, .int .u8 0, .int .u8 0, .int .u8 0] 87 by rw [hw1]; exact Cs.new _ _ _)
  have hm : Mod (fun _ => False) w w1 := by rw [hw1]; exact (Mod.refl _ _).alloc _
  have HM0 := hid (show Mod (fun k => (R k)) w w1 from hm.mono (fun _ _ h => h.elim))
  have hs1 : w1.heap.size = w.heap.size + 1 := by rw [hw1]; simp
  have Hx1 := hid (HRD.out.mod hm (fun _ _ h => h))
  clear HRD
  clear hw1 hm
  go_upto_region 1 with (fail)
  refine wp_region_U 10 [3, 4, 5, 6, 7, 8, 9, 17] [0, 1, 2, 3, 4, 5, 6, 7] (fun a0 HA0 => ?_)
  have oe0 := ev HA0 0 rfl
  have oe2 := ev HA0 2 rfl
  refine QSeq.pure rfl _ (fun E => ex_move rfl (E.v oe0)) ?_
  refine QSeq.call rfl rfl Try.func115 (cI_Q Hx1.out) (fun E => args2 (E.d 0 0) rfl) ?_
  rintro e u1_1 ⟨rfl, qrd, hm⟩
  refine ⟨_, rfl, ?_⟩
  have Hx2 := hid qrd
  have zu1_1 := hm.size
  have Cx3 := hid (show Mod (fun k => (R k)) w1 u1_1 from hm)
  clear hm
  clear qrd Hx1
  refine QSeq.pure rfl _ (fun E => ex_move rfl (E.v oe0)) ?_
  refine QSeq.call rfl rfl Try.func149 (cRow_Q Hx2.out) (fun E => args2 (E.d 2 0) rfl) ?_
  rintro e u1_3 ⟨vr, rfl, qrow, qrd, hm⟩
  obtain ⟨ao_row, cap_row, rfl⟩ := qrow.shape
  refine ⟨_, rfl, ?_⟩
  have Hx4 := hid qrow
  have Hx5 := hid qrd
  have zu1_3 := hm.size
  have HMu1_3 := hid hm
  have Cx6 := hid (Mod.goS (S' := (fun k => (R k))) Cx3.out hm (fun _ h => h) (by intro k h0 h2; exact h2))
  clear hm Cx3
  clear qrow qrd Hx2
  refine QSeq.pure rfl _ (fun E => ex_move rfl (E.v oe0)) ?_
  refine QSeq.call rfl rfl Try.func144 (RHash_R Hx5.out) (fun E => args1 (E.d 4 0)) ?_
  rintro e u1_5 ⟨rfl, qrd, hm⟩
  refine ⟨_, rfl, ?_⟩
  have Hx7 := hid qrd
  have zu1_5 := hm.size
  have HMu1_5 := hid hm
  have Cx8 := hid (Mod.goS (S' := (fun k => (R k))) Cx6.out hm (fun _ h => h) (by intro k h0 h2; exact h2))
  clear hm Cx6
  clear qrd Hx5
  refine QSeq.go fun act E => ?_
  refine qc_run rfl (wanted_none rfl) (v := .agg ((gOp s).1.cells (Value.slice ao_row (rRow 256 (gI s).2).1.length cap_row) : List Value).toArray) (ex_build rfl (z := [.int .i64 0, .slice none 0 0, .int .u8 0, .int .u8 0, .int .u8 0, .int .u8 0, .int .u8 0, .int .u8 0, .int .u8 0, .int .u8 0, .int .u8 0, .int .u8 0, .int .u8 0, .int .u8 0, .int .u8 0, .int .u8 0, .int .u8 0, .int .u8 0, .int .u8 0, .int .u8 0, .int .u8 0, .int .u8 0, .int .u8 0, .int .u8 0, .int .u8 0, .int .u8 0, .int .u8 0, .int .u8 0, .int .u8 0, .int .u8 0, .int .u8 0, .int .u8 0, .int .u8 0, .int .u8 0]) (places := [(0, 1), (1, 1), (2, 32)]) (by kernel_rfl) (parts := [(0, .int .i64 (gI s).1), (1, .slice ao_row (rRow 256 (gI s).2).1.length cap_row), (2, hv (rHash (rRow 256 (gI s).2).2).1)]) (by simp only [List.map_toArray, List.map_cons, List.map_nil, show act.eval (.tmp 4) = .int .i64 (gI s).1 from (E.d 1 4), show act.eval (.tmp 6) = .slice ao_row (rRow 256 (gI s).2).1.length cap_row from (E.d 3 2), show act.eval (.tmp 8) = hv (rHash (rRow 256 (gI s).2).2).1 from (E.d 5 0)]; try rfl) (r := (gOp s).1.cells (Value.slice ao_row (rRow 256 (gI s).2).1.length cap_row)) (by exact (laid_segs (ns := [1, 1, 32]) rfl [(0, .int .i64 (gI s).1), (1, .slice ao_row (rRow 256 (gI s).2).1.length cap_row), (2, hv (rHash (rRow 256 (gI s).2).2).1)] [[.int .i64 0], [.slice none 0 0], [.int .u8 0, .int .u8 0, .int .u8 0, .int .u8 0, .int .u8 0, .int .u8 0, .int .u8 0, .int .u8 0, .int .u8 0, .int .u8 0, .int .u8 0, .int .u8 0, .int .u8 0, .int .u8 0, .int .u8 0, .int .u8 0, .int .u8 0, .int .u8 0, .int .u8 0, .int .u8 0, .int .u8 0, .int .u8 0, .int .u8 0, .int .u8 0, .int .u8 0, .int .u8 0, .int .u8 0, .int .u8 0, .int .u8 0, .int .u8 0, .int .u8 0, .int .u8 0]] rfl ⟨rfl, rfl, (szv (by rw [List.length_map]; exact rHash_l _)), trivial⟩).trans (congrArg some (show ([_] ++ ([_] ++ (_ ++ [])) : List Value) = _ by rw [List.append_nil]; rfl)))) ?_
  clear act E
  refine QSeq.go fun act E => ?_
  refine qc_store rfl (wanted_none rfl) rfl (HB2.out.mod Cx8.out (by intro h2; first | omega | (have hb := HBR.out _ h2; omega))) (off := 0) (vs := ((gOp s).1.cells (Value.slice ao_row (rRow 256 (gI s).2).1.length cap_row))) (by rw [show ((gOp s).1.cells (Value.slice ao_row (rRow 256 (gI s).2).1.length cap_row)).length = _ from (op_len2 _ _ (gOp_OK HBY.out).2.1)]; kernel_rfl) (one_op2 _ _ rfl) (by rw [show ((gOp s).1.cells (Value.slice ao_row (rRow 256 (gI s).2).1.length cap_row)).length = _ from (op_len2 _ _ (gOp_OK HBY.out).2.1)]; decide) (E.v oe2) (ec (E.d 6 0)) ?_
  intro u1_7 qc0 hm
  have qB2 := qc0.eqv (b := (((gOp s).1.cells (Value.slice ao_row (rRow 256 (gI s).2).1.length cap_row)) : List Value).toArray) (lay_whole _ _ (by rw [show ((gOp s).1.cells (Value.slice ao_row (rRow 256 (gI s).2).1.length cap_row)).length = _ from (op_len2 _ _ (gOp_OK HBY.out).2.1)]; rfl))
  clear qc0
  have Hx9 := hid qB2
  have zu1_7 := hm.size
  have HMu1_7 := hid hm
  have Cx10 := hid (Mod.goS (S' := (fun k => (R k) ∨ (k = w.heap.size))) Cx8.out hm (fun _ h => Or.inl h) (by intro k h0 h2; exact Or.inr (h2)))
  clear hm Cx8
  clear act E qB2 HB2
  have Hx11 := hid (Hx7.out.mod HMu1_7.out (sB HBR))
  have Hx12 := hid ((Hx4.out.mod HMu1_5.out (by intro k h1 h2; have hb := HBR.out k h2; omega)).mod HMu1_7.out (by intro k h1 h2; omega))
  clear Hx7 Hx4 HMu1_3 HMu1_5 HMu1_7
  refine QSeq.nil (t' := [_, _, _, _, _, _, _, _]) rfl ?_
  obtain rfl := HA0.out
  clear HA0 oe0 oe2
  simp only [pz, Act.put, List.setIfInBounds_toArray, List.set_cons_zero, List.set_cons_succ, List.set_nil]
  go_wp2
  exact bodyPost_ret (results_cellA rfl _ _ w.heap.size ((gOp s).1.cells (Value.slice ao_row (rRow 256 (gI s).2).1.length cap_row)) rfl (fun k u hu => by rw [Hx9.out.cell]; simpa using hu) Try.underlying87 rfl (by rw [show ((gOp s).1.cells (Value.slice ao_row (rRow 256 (gI s).2).1.length cap_row)).length = _ from (op_len2 _ _ (gOp_OK HBY.out).2.1)]; kernel_rfl)) rfl ⟨_, rfl, ⟨_, rfl, gOp_OK HBY.out, (Hx12.out.widen (R' := (fun k => New w u1_7 k)) (by intro k h1; omega) (Nat.le_refl _))⟩, Hx11.out, (HM0.out.trans Cx10.out (by intro k h1 h2; rcases h2 with h2 | h2 <;> first | exact h2 | omega | (have hb := HBR.out k h2; omega)))⟩
set_option maxHeartbeats 4000000 in
theorem cList_Op : GetsL OpR 125 124 125 gOp := by
  intro R r s w hR hB hl
  have HRD := Lib.hid hR
  have HBR := Lib.hid hB
  have HLN := Lib.hid hl
  clear hR hB hl
  go_enter Try.func124, Try.ntmps124
  go_upto_region 2 with (fail)
  have HM0 := hid (Mod.refl (fun k => (R k)) w)
  go_upto_region 2 with (fail)
  refine wp_region_U 21 [6, 7, 8] [0, 1, 2] (fun a0 HA0 => ?_)
  have oe0 := ev HA0 0 rfl
  refine QSeq.pure rfl _ (fun E => ex_move rfl (E.v oe0)) ?_
  refine QSeq.call rfl rfl Try.func115 (RInt_R HRD.out (by decide)) (fun E => args2 (E.d 0 0) rfl) ?_
  rintro e u2_1 ⟨rfl, qrd, hm⟩
  refine ⟨_, rfl, ?_⟩
  have Hx1 := hid qrd
  have zu2_1 := hm.size
  have Cx2 := hid (show Mod (fun k => (R k)) w u2_1 from hm)
  clear hm
  clear qrd HRD
  refine QSeq.pure rfl (.int .i64 0) (fun E => ex_move rfl rfl) ?_
  refine QSeq.nil (t' := [_, _, _]) rfl ?_
  obtain rfl := HA0.out
  clear HA0 oe0
  simp only [pz, Act.put, List.setIfInBounds_toArray, List.set_cons_zero, List.set_cons_succ]
  obtain ⟨n, hn⟩ : ∃ n, n = (rInt 100 s).1 := ⟨_, rfl⟩
  obtain ⟨s1, hs1⟩ : ∃ z, z = (rInt 100 s).2 := ⟨_, rfl⟩
  have hn100 : n ≤ 100 := by have := rInt_le 100 s; omega
  have HLS := hid (show (s1.getD []).length ≤ 900000 by rw [hs1]; exact Nat.le_trans ((rInt_suf 100).len s) HLN.out)
  have HGL := hid (show gList gOp s = gItems gOp n [] s1 by rw [hn, hs1]; rfl)
  rw [← hn]
  have hq := Hx1.out
  rw [← hs1] at hq
  have HR1 := Lib.hid hq
  clear hq hn hs1 HLN
  go_wp2
  go_loopw [5, 8] (fun ta ti wr => ∃ (k : Nat) (acc : List Op) (st : RSt), ti = .int .i64 (k : Int) ∧ k ≤ n ∧ acc.length = k ∧ (st.getD []).length ≤ 900000 ∧ gItems gOp (n - k) acc st = gItems gOp n [] s1 ∧ u2_1.heap.size ≤ wr.heap.size ∧ OwS OpR 87 (fun b => w.heap.size ≤ b ∧ b < wr.heap.size) (fun b => w.heap.size ≤ b ∧ b < wr.heap.size) wr ta acc ∧ RrR 125 R wr r st ∧ Mod R w wr) (fun _ ti _ => n - (intOf ti).toNat)
  case atStart => exact ⟨0, [], s1, rfl, Nat.zero_le _, rfl, HLS.out, rfl, Nat.le_refl _, OwS.nil _ _ _ _ _, HR1.out, (HM0.out.trans Cx2.out (fun _ _ h => h))⟩
  case round =>
    obtain ⟨k, acc, st, rfl, hk, hka, hst, hg, hz, ha, hr, hm⟩ := hrel
    obtain ⟨wl, rfl⟩ : ∃ x, x = wr := ⟨_, rfl⟩
    obtain ⟨aol, capl, rfl⟩ := ha.shape
    have HAL := Lib.hid ha
    have HRL := Lib.hid hr
    have HML := Lib.hid hm
    have HST := Lib.hid hst
    have HG := Lib.hid hg
    have HKA := Lib.hid hka
    clear ha hr hm hst hg hka HR1 HM0
    by_cases hlt : k < n
    · skip
      go_upto_region 3 with (fail)
      refine wp_region_U 21 [9] [0] (fun a0 HA0 => ?_)
      have oe7 := ev HA0 7 rfl
      have oe8 := ev HA0 8 rfl
      refine QSeq.pure rfl (.bool true) (fun E => ex_binE rfl (E.v oe8) (E.v oe7) (guard_ints _ _ _ _ _ _) (run_lss_i _ _ _ Try.underlying3) (congrArg Value.bool (decide_eq_true (by omega)))) ?_
      refine QSeq.nil (t' := [_]) rfl ?_
      obtain rfl := HA0.out
      clear HA0 oe7 oe8
      simp only [pz, Act.put, List.setIfInBounds_toArray, List.set_cons_zero, List.set_cons_succ]
      obtain ⟨p, hp⟩ : ∃ p, p = gOp st := ⟨_, rfl⟩
      obtain ⟨x, st2⟩ := p
      have HP1 := hid (congrArg Prod.fst hp.symm)
      have HP2 := hid (congrArg Prod.snd hp.symm)
      clear hp
      dsimp only at HP1 HP2
      have HST2 := hid (show (st2.getD []).length ≤ 900000 by rw [← HP2.out]; exact Nat.le_trans (gOp_suf.len st) HST.out)
      have HGN := hid (show gItems gOp (n - k) acc st = if st2 = none then ([], none) else gItems gOp (n - (k + 1)) (acc ++ [x]) st2 by rw [show n - k = (n - (k + 1)) + 1 by omega]; show (if (gOp st).2 = none then _ else _) = _; rw [HP2.out, HP1.out])
      go_upto_region 4 with (fail)
      refine wp_region_U 21 [10, 11, 12, 13, 14, 15, 5] [0, 1, 2, 3, 4, 5, 6] (fun a0 HA0 => ?_)
      have oe0 := ev HA0 0 rfl
      have oe1 := ev HA0 1 rfl
      have oe5 := ev HA0 5 rfl
      refine QSeq.pure rfl _ (fun E => ex_move rfl (E.y 6 oe5)) ?_
      refine QSeq.pure rfl _ (fun E => ex_move rfl (E.v oe1)) ?_
      refine QSeq.pure rfl _ (fun E => ex_move rfl (E.v oe0)) ?_
      refine QSeq.go fun act E => ?_
      have ea12 : act.eval (.tmp 12) = .pointer (some ⟨r, 0, none⟩) := (E.d 2 0)
      refine qc_call (args := #[.pointer (some ⟨r, 0, none⟩)]) rfl (wanted_none rfl) (by rw [ex_callV rfl (E.d 1 1) Try.func125 (by kernel_rfl) (by kernel_rfl)]; exact congrArg (fun z => Result.ok (Next.enter _ z) _) (by simp only [List.map_toArray, List.map_cons, List.map_nil, ea12]; try rfl)) ((cOp_G).to HP1.out HP2.out HRL.out (by intro k h1; have hb := HBR.out k h1; omega) HST.out) ?_
      rintro e u4_3 ⟨cs, rfl, qel, qrd, hm⟩
      refine ⟨_, rfl, ?_⟩
      have Hx3 := hid qel
      have Hx4 := hid qrd
      have zu4_3 := hm.size
      have Cx5 := hid (show Mod (fun k => (R k)) wl u4_3 from hm)
      clear hm
      clear act E qel qrd HRL ea12
      refine QSeq.go fun act E => ?_
      refine qc_buildS (e := 87) (cs := cs) (zc := [.int .i64 0, .slice none 0 0, .int .u8 0, .int .u8 0, .int .u8 0, .int .u8 0, .int .u8 0, .int .u8 0, .int .u8 0, .int .u8 0, .int .u8 0, .int .u8 0, .int .u8 0, .int .u8 0, .int .u8 0, .int .u8 0, .int .u8 0, .int .u8 0, .int .u8 0, .int .u8 0, .int .u8 0, .int .u8 0, .int .u8 0, .int .u8 0, .int .u8 0, .int .u8 0, .int .u8 0, .int .u8 0, .int .u8 0, .int .u8 0, .int .u8 0, .int .u8 0, .int .u8 0, .int .u8 0]) (sz := 34) rfl (wanted_none rfl) rfl Try.underlying57 (by kernel_rfl) rfl (by decide) (by decide) (E.d 3 0) (OpR.len Hx3.out) ?_
      intro u4_4 qrow hm
      have zl4_4 := qrow.lt
      have Hx6 := hid qrow
      have zu4_4 := hm.size
      have HMu4_4 := hid hm
      have Cx7 := hid (Cx5.out.goE hm)
      clear hm Cx5
      clear act E qrow
      refine QSeq.go fun act E => ?_
      refine qc_appS (A := OpR) (e := 87) rfl (wanted_none rfl) rfl (.agg #[.int .i64 0, .slice none 0 0, .int .u8 0, .int .u8 0, .int .u8 0, .int .u8 0, .int .u8 0, .int .u8 0, .int .u8 0, .int .u8 0, .int .u8 0, .int .u8 0, .int .u8 0, .int .u8 0, .int .u8 0, .int .u8 0, .int .u8 0, .int .u8 0, .int .u8 0, .int .u8 0, .int .u8 0, .int .u8 0, .int .u8 0, .int .u8 0, .int .u8 0, .int .u8 0, .int .u8 0, .int .u8 0, .int .u8 0, .int .u8 0, .int .u8 0, .int .u8 0, .int .u8 0, .int .u8 0]) 64 Try.underlying57 info_Op (by rfl) (of_decide_eq_true (by kernel_rfl)) (E.d 0 4) (E.d 4 0) ((HAL.out.mod Cx7.out (by intro k h1 h2; have hb := HBR.out k h2; omega) (by intro k h1 h2; have hb := HBR.out k h2; omega))) (RdS.single (R := (fun k => (New wl u4_3 k) ∨ (k = u4_3.heap.size))) Hx6.out ((Hx3.out.mod HMu4_4.out (fun _ _ h => h)).widen (by intro k h1; first | omega | exact h1.elim | exact Or.inl h1 | exact Or.inr (h1))) (by first | exact Or.inr rfl | exact Or.inr (Or.inr rfl) | (right; omega))) (by intro k h1 h2; omega) (by rw [HKA.out]; simp only [List.length_cons, List.length_nil]; omega) (by rw [HKA.out]; simp only [List.length_cons, List.length_nil]; rw [maxLen_val]; omega) ?_
      intro ao4 cap4 u4_5 qout hm
      have Hx8 := hid (qout.widen (R' := (fun k => (New w wl k) ∨ (New u4_4 u4_5 k))) (E' := (fun k => (New w wl k) ∨ (New wl u4_3 k) ∨ (k = u4_3.heap.size))) (fun _ h => h) (by intro k h1; rcases h1 with h1 | (h1 | h1) <;> first | omega | exact h1.elim | exact Or.inl h1 | exact Or.inr (Or.inl h1) | exact Or.inr (Or.inr (h1))))
      have zu4_5 := hm.size
      have HMu4_5 := hid hm
      have Cx9 := hid (Mod.goS (S' := (fun k => (R k) ∨ (New w wl k))) Cx7.out hm (fun _ h => Or.inl h) (by intro k h0 h2; exact Or.inr (h2)))
      clear hm Cx7
      clear act E qout HAL
      refine QSeq.pure rfl _ (fun E => ex_assign rfl (E.d 5 0)) ?_
      have Hx10 := hid ((Hx4.out.mod HMu4_4.out (fun _ _ h => h)).mod HMu4_5.out (sN HBR))
      have Hx11 := hid ((Hx3.out.mod HMu4_4.out (fun _ _ h => h)).mod HMu4_5.out (by intro k h1 h2; omega))
      have Hx12 := hid (Hx6.out.mod HMu4_5.out (by intro h2; omega))
      clear Hx4 Hx3 Hx6 HMu4_4 HMu4_5
      refine QSeq.nil (t' := [_, _, _, _, _, _, _]) rfl ?_
      obtain rfl := HA0.out
      clear HA0 oe0 oe1 oe5
      simp only [pz, Act.put, List.setIfInBounds_toArray, List.set_cons_zero, List.set_cons_succ]
      clear Hx11
      clear Hx12
      cases st2 with
      | none =>
        go_upto_region 5 with (fail)
        refine wp_region_U 21 [16, 17, 18] [0, 1, 2] (fun a0 HA0 => ?_)
        have oe0 := ev HA0 0 rfl
        refine QSeq.pure rfl _ (fun E => ex_move rfl (E.v oe0)) ?_
        refine QSeq.go fun act E => ?_
        refine qc_callF (args := #[.pointer (some ⟨r, 0, none⟩)]) rfl (wanted_none rfl) rfl Try.func39 (args1 (E.d 0 0)) (OK_R Hx10.out) ?_
        rintro e w2 ⟨rfl, hw2⟩
        obtain rfl : u4_5 = w2 := by first | exact hw2 | exact hw2.symm
        refine ⟨_, rfl, ?_⟩
        clear act E
        refine QSeq.pure rfl (.bool true) (fun E => ex_not rfl (E.d 1 0)) ?_
        refine QSeq.nil (t' := [_, _, _]) rfl ?_
        obtain rfl := HA0.out
        clear HA0 oe0
        simp only [pz, Act.put, List.setIfInBounds_toArray, List.set_cons_zero, List.set_cons_succ]
        go_upto_region 6 with (fail)
        refine wp_region_U 21 [4] [0] (fun a0 HA0 => ?_)
        refine QSeq.pure rfl (.slice none 0 0) (fun E => ex_assign rfl rfl) ?_
        refine QSeq.nil (t' := [_]) rfl ?_
        obtain rfl := HA0.out
        clear HA0
        simp only [pz, Act.put, List.setIfInBounds_toArray, List.set_cons_zero, List.set_cons_succ]
        go_wp2
        go_ret
        have hq := HG.out
        rw [HGN.out, if_pos trivial] at hq
        have e := HGL.out
        rw [← hq] at e
        refine ⟨_, rfl, ?_, ?_, (HML.out.trans Cx9.out (by intro k h1 h2; rcases h2 with h2 | h2 <;> first | exact h2 | omega | (have hb := HBR.out k h2; omega)))⟩
        · rw [e]; exact RdS.nil _ _ _
        · rw [e]; exact Hx10.out
      | some l2 =>
        go_upto_region 5 with (fail)
        refine wp_region_U 21 [16, 17, 18] [0, 1, 2] (fun a0 HA0 => ?_)
        have oe0 := ev HA0 0 rfl
        refine QSeq.pure rfl _ (fun E => ex_move rfl (E.v oe0)) ?_
        refine QSeq.go fun act E => ?_
        refine qc_callF (args := #[.pointer (some ⟨r, 0, none⟩)]) rfl (wanted_none rfl) rfl Try.func39 (args1 (E.d 0 0)) (OK_R Hx10.out) ?_
        rintro e w2 ⟨rfl, hw2⟩
        obtain rfl : u4_5 = w2 := by first | exact hw2 | exact hw2.symm
        refine ⟨_, rfl, ?_⟩
        clear act E
        refine QSeq.pure rfl (.bool false) (fun E => ex_not rfl (E.d 1 0)) ?_
        refine QSeq.nil (t' := [_, _, _]) rfl ?_
        obtain rfl := HA0.out
        clear HA0 oe0
        simp only [pz, Act.put, List.setIfInBounds_toArray, List.set_cons_zero, List.set_cons_succ]
        go_upto_region 7 with (fail)
        refine wp_region_U 21 [19, 8] [0, 1] (fun a0 HA0 => ?_)
        have oe8 := ev HA0 8 rfl
        refine QSeq.pure rfl (.int .i64 (((k : Nat) : Int) + 1)) (fun E => ex_binE rfl (E.y 1 oe8) rfl (guard_ints _ _ _ _ _ _) (run_add_i _ _ Try.underlying3) (congrArg (Value.int .i64) (IntWalk.i64_in _ (by omega)))) ?_
        refine QSeq.pure rfl _ (fun E => ex_move rfl (E.d 0 0)) ?_
        refine QSeq.nil (t' := [_, _]) rfl ?_
        obtain rfl := HA0.out
        clear HA0 oe8
        simp only [pz, Act.put, List.setIfInBounds_toArray, List.set_cons_zero, List.set_cons_succ]
        go_wp2
        go_roundw
        case rel => exact ⟨k + 1, acc ++ [x], some l2, by go_num, by omega, by rw [List.length_append, HKA.out]; rfl, HST2.out, (by have hq := HG.out; rw [HGN.out, if_neg (by simp)] at hq; exact hq), by omega, (Hx8.out.widen (by intro b h1; omega) (by intro b h1; rcases h1 with h1 | h1 | h1 <;> first | omega | exact h1.elim)), Hx10.out, (HML.out.trans Cx9.out (by intro k h1 h2; rcases h2 with h2 | h2 <;> first | exact h2 | omega | (have hb := HBR.out k h2; omega)))⟩
        case measure => simp [intOf] <;> omega
    · obtain rfl : n = k := by omega
      go_upto_region 3 with (fail)
      refine wp_region_U 21 [9] [0] (fun a0 HA0 => ?_)
      have oe7 := ev HA0 7 rfl
      have oe8 := ev HA0 8 rfl
      refine QSeq.pure rfl (.bool false) (fun E => ex_binE rfl (E.v oe8) (E.v oe7) (guard_ints _ _ _ _ _ _) (run_lss_i _ _ _ Try.underlying3) (congrArg Value.bool (decide_eq_false (by omega)))) ?_
      refine QSeq.nil (t' := [_]) rfl ?_
      obtain rfl := HA0.out
      clear HA0 oe7 oe8
      simp only [pz, Act.put, List.setIfInBounds_toArray, List.set_cons_zero, List.set_cons_succ]
      go_upto_region 8 with (fail)
      refine wp_region_U 21 [20, 4] [0, 1] (fun a0 HA0 => ?_)
      have oe5 := ev HA0 5 rfl
      refine QSeq.pure rfl _ (fun E => ex_move rfl (E.v oe5)) ?_
      refine QSeq.pure rfl _ (fun E => ex_assign rfl (E.d 0 0)) ?_
      refine QSeq.nil (t' := [_, _]) rfl ?_
      obtain rfl := HA0.out
      clear HA0 oe5
      simp only [pz, Act.put, List.setIfInBounds_toArray, List.set_cons_zero, List.set_cons_succ]
      go_wp2
      go_ret
      have hq := HG.out
      rw [Nat.sub_self] at hq
      have e := HGL.out
      rw [← hq] at e
      refine ⟨_, rfl, ?_, ?_, HML.out⟩
      · rw [e]; exact HAL.out.rd.widen (by intro b h1; (try dsimp only at h1 ⊢); omega)
      · rw [e]; exact HRL.out
set_option maxHeartbeats 4000000 in
theorem cPm_G : Gets PmR 125 85 gPm := by
  intro R r s w hR hB hl
  have HRD := Lib.hid hR
  have HBR := Lib.hid hB
  have HBY := hid hR.bytes
  clear hR hB
  have HLN := Lib.hid hl
  clear hl
  go_enter Try.func85, Try.ntmps85
  go_upto_region 1 with (fail)
  obtain ⟨w1, hw1⟩ : ∃ zz, zz = (w.alloc (.cells #[.int .i64 0, .int .i64 0, .int .u64 0, .slice none 0 0, .int .i64 0, .int .i64 0] 55)) := ⟨_, rfl⟩
  change Code.wp _ _ _ _ (w.alloc (.cells #[.int .i64 0, .int .i64 0, .int .u64 0, .slice none 0 0, .int .i64 0, .int .i64 0] 55))
  rw [← hw1]
  have HB2 := hid (show Cs w1 (w.heap.size) #[.int .i64 0, .int .i64 0, .int .u64 0, .slice none 0 0, .int .i64 0, .int .i64 0] 55 by rw [hw1]; exact Cs.new _ _ _)
  have hm : Mod (fun _ => False) w w1 := by rw [hw1]; exact (Mod.refl _ _).alloc _
  have HM0 := hid (show Mod (fun k => (R k)) w w1 from hm.mono (fun _ _ h => h.elim))
  have hs1 : w1.heap.size = w.heap.size + 1 := by rw [hw1]; simp
  have Hx1 := hid (HRD.out.mod hm (fun _ _ h => h))
  clear HRD
  clear hw1 hm
  go_upto_region 1 with (fail)
  refine wp_region_U 14 [3, 4, 5, 6, 7, 8, 9, 10, 11, 12, 13, 25] [0, 1, 2, 3, 4, 5, 6, 7, 8, 9, 10, 11] (fun a0 HA0 => ?_)
  have oe0 := ev HA0 0 rfl
  have oe2 := ev HA0 2 rfl
  refine QSeq.pure rfl _ (fun E => ex_move rfl (E.v oe0)) ?_
  refine QSeq.call rfl rfl Try.func115 (cI_Q Hx1.out) (fun E => args2 (E.d 0 0) rfl) ?_
  rintro e u1_1 ⟨rfl, qrd, hm⟩
  refine ⟨_, rfl, ?_⟩
  have Hx2 := hid qrd
  have zu1_1 := hm.size
  have Cx3 := hid (show Mod (fun k => (R k)) w1 u1_1 from hm)
  clear hm
  clear qrd Hx1
  refine QSeq.pure rfl _ (fun E => ex_move rfl (E.v oe0)) ?_
  refine QSeq.call rfl rfl Try.func115 (cI_Q Hx2.out) (fun E => args2 (E.d 2 0) rfl) ?_
  rintro e u1_3 ⟨rfl, qrd, hm⟩
  refine ⟨_, rfl, ?_⟩
  have Hx4 := hid qrd
  have zu1_3 := hm.size
  have HMu1_3 := hid hm
  have Cx5 := hid (Mod.goS (S' := (fun k => (R k))) Cx3.out hm (fun _ h => h) (by intro k h0 h2; exact h2))
  clear hm Cx3
  clear qrd Hx2
  refine QSeq.pure rfl _ (fun E => ex_move rfl (E.v oe0)) ?_
  refine QSeq.call rfl rfl Try.func116 (RNum_R Hx4.out) (fun E => args1 (E.d 4 0)) ?_
  rintro e u1_5 ⟨rfl, qrd, hm⟩
  refine ⟨_, rfl, ?_⟩
  have Hx6 := hid qrd
  have zu1_5 := hm.size
  have HMu1_5 := hid hm
  have Cx7 := hid (Mod.goS (S' := (fun k => (R k))) Cx5.out hm (fun _ h => h) (by intro k h0 h2; exact h2))
  clear hm Cx5
  clear qrd Hx4
  refine QSeq.pure rfl _ (fun E => ex_move rfl (E.v oe0)) ?_
  refine QSeq.call rfl rfl Try.func117 (cList_Ce _ _ _ _ Hx6.out (by intro k h1; have hb := HBR.out k h1; omega) (Nat.le_trans (rNum_suf.len _) (Nat.le_trans (gI_suf.len _) (Nat.le_trans (gI_suf.len _) HLN.out)))) (fun E => args2 (E.d 6 0) rfl) ?_
  rintro e u1_7 ⟨vlCe, rfl, qlCe, qrd, hm⟩
  obtain ⟨ao_lCe, cap_lCe, rfl⟩ := qlCe.shape
  refine ⟨_, rfl, ?_⟩
  have Hx8 := hid qlCe
  have Hx9 := hid qrd
  have zu1_7 := hm.size
  have HMu1_7 := hid hm
  have Cx10 := hid (Mod.goS (S' := (fun k => (R k))) Cx7.out hm (fun _ h => h) (by intro k h0 h2; exact h2))
  clear hm Cx7
  clear qlCe qrd Hx6
  refine QSeq.pure rfl _ (fun E => ex_move rfl (E.v oe0)) ?_
  refine QSeq.call rfl rfl Try.func118 (cSig_Q _ _ _ _ Hx9.out (by intro k h1; have hb := HBR.out k h1; omega)) (fun E => args1 (E.d 8 0)) ?_
  rintro e u1_9 ⟨rfl, qrd, hm⟩
  refine ⟨_, rfl, ?_⟩
  have Hx11 := hid qrd
  have zu1_9 := hm.size
  have HMu1_9 := hid hm
  have Cx12 := hid (Mod.goS (S' := (fun k => (R k))) Cx10.out hm (fun _ h => h) (by intro k h0 h2; exact h2))
  clear hm Cx10
  clear qrd Hx9
  refine QSeq.go fun act E => ?_
  refine qc_run rfl (wanted_none rfl) (v := .agg ((gPm s).1.cells (Value.slice ao_lCe (gList gCe (rNum (gI (gI s).2).2).2).1.length cap_lCe) : List Value).toArray) (ex_build rfl (z := [.int .i64 0, .int .i64 0, .int .u64 0, .slice none 0 0, .int .i64 0, .int .i64 0]) (places := [(0, 1), (1, 1), (2, 1), (3, 1), (4, 2)]) (by kernel_rfl) (parts := [(0, .int .i64 (gI s).1), (1, .int .i64 (gI (gI s).2).1), (2, .int .u64 ((rNum (gI (gI s).2).2).1 : Nat)), (3, .slice ao_lCe (gList gCe (rNum (gI (gI s).2).2).2).1.length cap_lCe), (4, .agg #[.int .i64 (gSig (gList gCe (rNum (gI (gI s).2).2).2).2).1.1, .int .i64 (gSig (gList gCe (rNum (gI (gI s).2).2).2).2).1.2])]) (by simp only [List.map_toArray, List.map_cons, List.map_nil, show act.eval (.tmp 4) = .int .i64 (gI s).1 from (E.d 1 8), show act.eval (.tmp 6) = .int .i64 (gI (gI s).2).1 from (E.d 3 6), show act.eval (.tmp 8) = .int .u64 ((rNum (gI (gI s).2).2).1 : Nat) from (E.d 5 4), show act.eval (.tmp 10) = .slice ao_lCe (gList gCe (rNum (gI (gI s).2).2).2).1.length cap_lCe from (E.d 7 2), show act.eval (.tmp 12) = .agg #[.int .i64 (gSig (gList gCe (rNum (gI (gI s).2).2).2).2).1.1, .int .i64 (gSig (gList gCe (rNum (gI (gI s).2).2).2).2).1.2] from (E.d 9 0)]; try rfl) (r := (gPm s).1.cells (Value.slice ao_lCe (gList gCe (rNum (gI (gI s).2).2).2).1.length cap_lCe)) (by exact laid_segs (ns := [1, 1, 1, 1, 2]) rfl [(0, .int .i64 (gI s).1), (1, .int .i64 (gI (gI s).2).1), (2, .int .u64 ((rNum (gI (gI s).2).2).1 : Nat)), (3, .slice ao_lCe (gList gCe (rNum (gI (gI s).2).2).2).1.length cap_lCe), (4, .agg #[.int .i64 (gSig (gList gCe (rNum (gI (gI s).2).2).2).2).1.1, .int .i64 (gSig (gList gCe (rNum (gI (gI s).2).2).2).2).1.2])] [[.int .i64 0], [.int .i64 0], [.int .u64 0], [.slice none 0 0], [.int .i64 0, .int .i64 0]] rfl ⟨rfl, rfl, rfl, rfl, rfl, trivial⟩)) ?_
  clear act E
  refine QSeq.go fun act E => ?_
  refine qc_store rfl (wanted_none rfl) rfl (HB2.out.mod Cx12.out (by intro h2; first | omega | (have hb := HBR.out _ h2; omega))) (off := 0) (vs := ((gPm s).1.cells (Value.slice ao_lCe (gList gCe (rNum (gI (gI s).2).2).2).1.length cap_lCe))) (by kernel_rfl) (by intro u hu; simp only [Pm.cells, List.mem_cons, List.not_mem_nil, or_false] at hu; rcases hu with rfl | rfl | rfl | rfl | rfl | rfl <;> rfl) (by simp) (E.v oe2) (ec (E.d 10 0)) ?_
  intro u1_11 qc0 hm
  have qB2 := qc0.eqv (b := (((gPm s).1.cells (Value.slice ao_lCe (gList gCe (rNum (gI (gI s).2).2).2).1.length cap_lCe)) : List Value).toArray) (lay_whole #[.int .i64 0, .int .i64 0, .int .u64 0, .slice none 0 0, .int .i64 0, .int .i64 0] _ rfl)
  clear qc0
  have Hx13 := hid qB2
  have zu1_11 := hm.size
  have HMu1_11 := hid hm
  have Cx14 := hid (Mod.goS (S' := (fun k => (R k) ∨ (k = w.heap.size))) Cx12.out hm (fun _ h => Or.inl h) (by intro k h0 h2; exact Or.inr (h2)))
  clear hm Cx12
  clear act E qB2 HB2
  have Hx15 := hid (Hx11.out.mod HMu1_11.out (sB HBR))
  have Hx16 := hid ((Hx8.out.mod HMu1_9.out (by intro k h1 h2; have hb := HBR.out k h2; omega)).mod HMu1_11.out (by intro k h1 h2; omega))
  clear Hx11 Hx8 HMu1_3 HMu1_5 HMu1_7 HMu1_9 HMu1_11
  refine QSeq.nil (t' := [_, _, _, _, _, _, _, _, _, _, _, _]) rfl ?_
  obtain rfl := HA0.out
  clear HA0 oe0 oe2
  simp only [pz, Act.put, List.setIfInBounds_toArray, List.set_cons_zero, List.set_cons_succ, List.set_nil]
  go_wp2
  exact bodyPost_ret (results_cellA rfl _ _ w.heap.size ((gPm s).1.cells (Value.slice ao_lCe (gList gCe (rNum (gI (gI s).2).2).2).1.length cap_lCe)) rfl (fun k u hu => by rw [Hx13.out.cell]; simpa using hu) Try.underlying55 rfl (by kernel_rfl)) rfl ⟨_, rfl, ⟨_, rfl, gPm_OK HBY.out, (Hx16.out.widen (R' := (fun k => New w u1_11 k)) (by intro k h1; omega))⟩, Hx15.out, (HM0.out.trans Cx14.out (by intro k h1 h2; rcases h2 with h2 | h2 <;> first | exact h2 | omega | (have hb := HBR.out k h2; omega)))⟩
set_option maxHeartbeats 4000000 in
theorem cList_Pm : GetsL PmR 125 123 85 gPm := by
  intro R r s w hR hB hl
  have HRD := Lib.hid hR
  have HBR := Lib.hid hB
  have HLN := Lib.hid hl
  clear hR hB hl
  go_enter Try.func123, Try.ntmps123
  go_upto_region 2 with (fail)
  have HM0 := hid (Mod.refl (fun k => (R k)) w)
  go_upto_region 2 with (fail)
  refine wp_region_U 21 [6, 7, 8] [0, 1, 2] (fun a0 HA0 => ?_)
  have oe0 := ev HA0 0 rfl
  refine QSeq.pure rfl _ (fun E => ex_move rfl (E.v oe0)) ?_
  refine QSeq.call rfl rfl Try.func115 (RInt_R HRD.out (by decide)) (fun E => args2 (E.d 0 0) rfl) ?_
  rintro e u2_1 ⟨rfl, qrd, hm⟩
  refine ⟨_, rfl, ?_⟩
  have Hx1 := hid qrd
  have zu2_1 := hm.size
  have Cx2 := hid (show Mod (fun k => (R k)) w u2_1 from hm)
  clear hm
  clear qrd HRD
  refine QSeq.pure rfl (.int .i64 0) (fun E => ex_move rfl rfl) ?_
  refine QSeq.nil (t' := [_, _, _]) rfl ?_
  obtain rfl := HA0.out
  clear HA0 oe0
  simp only [pz, Act.put, List.setIfInBounds_toArray, List.set_cons_zero, List.set_cons_succ]
  obtain ⟨n, hn⟩ : ∃ n, n = (rInt 100 s).1 := ⟨_, rfl⟩
  obtain ⟨s1, hs1⟩ : ∃ z, z = (rInt 100 s).2 := ⟨_, rfl⟩
  have hn100 : n ≤ 100 := by have := rInt_le 100 s; omega
  have HLS := hid (show (s1.getD []).length ≤ 900000 by rw [hs1]; exact Nat.le_trans ((rInt_suf 100).len s) HLN.out)
  have HGL := hid (show gList gPm s = gItems gPm n [] s1 by rw [hn, hs1]; rfl)
  rw [← hn]
  have hq := Hx1.out
  rw [← hs1] at hq
  have HR1 := Lib.hid hq
  clear hq hn hs1 HLN
  go_wp2
  go_loopw [5, 8] (fun ta ti wr => ∃ (k : Nat) (acc : List Pm) (st : RSt), ti = .int .i64 (k : Int) ∧ k ≤ n ∧ acc.length = k ∧ (st.getD []).length ≤ 900000 ∧ gItems gPm (n - k) acc st = gItems gPm n [] s1 ∧ u2_1.heap.size ≤ wr.heap.size ∧ OwS PmR 55 (fun b => w.heap.size ≤ b ∧ b < wr.heap.size) (fun b => w.heap.size ≤ b ∧ b < wr.heap.size) wr ta acc ∧ RrR 125 R wr r st ∧ Mod R w wr) (fun _ ti _ => n - (intOf ti).toNat)
  case atStart => exact ⟨0, [], s1, rfl, Nat.zero_le _, rfl, HLS.out, rfl, Nat.le_refl _, OwS.nil _ _ _ _ _, HR1.out, (HM0.out.trans Cx2.out (fun _ _ h => h))⟩
  case round =>
    obtain ⟨k, acc, st, rfl, hk, hka, hst, hg, hz, ha, hr, hm⟩ := hrel
    obtain ⟨wl, rfl⟩ : ∃ x, x = wr := ⟨_, rfl⟩
    obtain ⟨aol, capl, rfl⟩ := ha.shape
    have HAL := Lib.hid ha
    have HRL := Lib.hid hr
    have HML := Lib.hid hm
    have HST := Lib.hid hst
    have HG := Lib.hid hg
    have HKA := Lib.hid hka
    clear ha hr hm hst hg hka HR1 HM0
    by_cases hlt : k < n
    · skip
      go_upto_region 3 with (fail)
      refine wp_region_U 21 [9] [0] (fun a0 HA0 => ?_)
      have oe7 := ev HA0 7 rfl
      have oe8 := ev HA0 8 rfl
      refine QSeq.pure rfl (.bool true) (fun E => ex_binE rfl (E.v oe8) (E.v oe7) (guard_ints _ _ _ _ _ _) (run_lss_i _ _ _ Try.underlying3) (congrArg Value.bool (decide_eq_true (by omega)))) ?_
      refine QSeq.nil (t' := [_]) rfl ?_
      obtain rfl := HA0.out
      clear HA0 oe7 oe8
      simp only [pz, Act.put, List.setIfInBounds_toArray, List.set_cons_zero, List.set_cons_succ]
      obtain ⟨p, hp⟩ : ∃ p, p = gPm st := ⟨_, rfl⟩
      obtain ⟨x, st2⟩ := p
      have HP1 := hid (congrArg Prod.fst hp.symm)
      have HP2 := hid (congrArg Prod.snd hp.symm)
      clear hp
      dsimp only at HP1 HP2
      have HST2 := hid (show (st2.getD []).length ≤ 900000 by rw [← HP2.out]; exact Nat.le_trans (gPm_suf.len st) HST.out)
      have HGN := hid (show gItems gPm (n - k) acc st = if st2 = none then ([], none) else gItems gPm (n - (k + 1)) (acc ++ [x]) st2 by rw [show n - k = (n - (k + 1)) + 1 by omega]; show (if (gPm st).2 = none then _ else _) = _; rw [HP2.out, HP1.out])
      go_upto_region 4 with (fail)
      refine wp_region_U 21 [10, 11, 12, 13, 14, 15, 5] [0, 1, 2, 3, 4, 5, 6] (fun a0 HA0 => ?_)
      have oe0 := ev HA0 0 rfl
      have oe1 := ev HA0 1 rfl
      have oe5 := ev HA0 5 rfl
      refine QSeq.pure rfl _ (fun E => ex_move rfl (E.y 6 oe5)) ?_
      refine QSeq.pure rfl _ (fun E => ex_move rfl (E.v oe1)) ?_
      refine QSeq.pure rfl _ (fun E => ex_move rfl (E.v oe0)) ?_
      refine QSeq.go fun act E => ?_
      have ea12 : act.eval (.tmp 12) = .pointer (some ⟨r, 0, none⟩) := (E.d 2 0)
      refine qc_call (args := #[.pointer (some ⟨r, 0, none⟩)]) rfl (wanted_none rfl) (by rw [ex_callV rfl (E.d 1 1) Try.func85 (by kernel_rfl) (by kernel_rfl)]; exact congrArg (fun z => Result.ok (Next.enter _ z) _) (by simp only [List.map_toArray, List.map_cons, List.map_nil, ea12]; try rfl)) ((cPm_G).to HP1.out HP2.out HRL.out (by intro k h1; have hb := HBR.out k h1; omega) HST.out) ?_
      rintro e u4_3 ⟨cs, rfl, qel, qrd, hm⟩
      refine ⟨_, rfl, ?_⟩
      have Hx3 := hid qel
      have Hx4 := hid qrd
      have zu4_3 := hm.size
      have Cx5 := hid (show Mod (fun k => (R k)) wl u4_3 from hm)
      clear hm
      clear act E qel qrd HRL ea12
      refine QSeq.go fun act E => ?_
      refine qc_buildS (e := 55) (cs := cs) (zc := [.int .i64 0, .int .i64 0, .int .u64 0, .slice none 0 0, .int .i64 0, .int .i64 0]) (sz := 6) rfl (wanted_none rfl) rfl Try.underlying56 (by kernel_rfl) rfl (by decide) (by decide) (E.d 3 0) (PmR.len Hx3.out) ?_
      intro u4_4 qrow hm
      have zl4_4 := qrow.lt
      have Hx6 := hid qrow
      have zu4_4 := hm.size
      have HMu4_4 := hid hm
      have Cx7 := hid (Cx5.out.goE hm)
      clear hm Cx5
      clear act E qrow
      refine QSeq.go fun act E => ?_
      refine qc_appS (A := PmR) (e := 55) rfl (wanted_none rfl) rfl (.agg #[.int .i64 0, .int .i64 0, .int .u64 0, .slice none 0 0, .int .i64 0, .int .i64 0]) 64 Try.underlying56 info_Pm (by rfl) (of_decide_eq_true (by kernel_rfl)) (E.d 0 4) (E.d 4 0) ((HAL.out.mod Cx7.out (by intro k h1 h2; have hb := HBR.out k h2; omega) (by intro k h1 h2; have hb := HBR.out k h2; omega))) (RdS.single (R := (fun k => (New wl u4_3 k) ∨ (k = u4_3.heap.size))) Hx6.out ((Hx3.out.mod HMu4_4.out (fun _ _ h => h)).widen (by intro k h1; first | omega | exact h1.elim | exact Or.inl h1 | exact Or.inr (h1))) (by first | exact Or.inr rfl | exact Or.inr (Or.inr rfl) | (right; omega))) (by intro k h1 h2; omega) (by rw [HKA.out]; simp only [List.length_cons, List.length_nil]; omega) (by rw [HKA.out]; simp only [List.length_cons, List.length_nil]; rw [maxLen_val]; omega) ?_
      intro ao4 cap4 u4_5 qout hm
      have Hx8 := hid (qout.widen (R' := (fun k => (New w wl k) ∨ (New u4_4 u4_5 k))) (E' := (fun k => (New w wl k) ∨ (New wl u4_3 k) ∨ (k = u4_3.heap.size))) (fun _ h => h) (by intro k h1; rcases h1 with h1 | (h1 | h1) <;> first | omega | exact h1.elim | exact Or.inl h1 | exact Or.inr (Or.inl h1) | exact Or.inr (Or.inr (h1))))
      have zu4_5 := hm.size
      have HMu4_5 := hid hm
      have Cx9 := hid (Mod.goS (S' := (fun k => (R k) ∨ (New w wl k))) Cx7.out hm (fun _ h => Or.inl h) (by intro k h0 h2; exact Or.inr (h2)))
      clear hm Cx7
      clear act E qout HAL
      refine QSeq.pure rfl _ (fun E => ex_assign rfl (E.d 5 0)) ?_
      have Hx10 := hid ((Hx4.out.mod HMu4_4.out (fun _ _ h => h)).mod HMu4_5.out (sN HBR))
      have Hx11 := hid ((Hx3.out.mod HMu4_4.out (fun _ _ h => h)).mod HMu4_5.out (by intro k h1 h2; omega))
      have Hx12 := hid (Hx6.out.mod HMu4_5.out (by intro h2; omega))
      clear Hx4 Hx3 Hx6 HMu4_4 HMu4_5
      refine QSeq.nil (t' := [_, _, _, _, _, _, _]) rfl ?_
      obtain rfl := HA0.out
      clear HA0 oe0 oe1 oe5
      simp only [pz, Act.put, List.setIfInBounds_toArray, List.set_cons_zero, List.set_cons_succ]
      clear Hx11
      clear Hx12
      cases st2 with
      | none =>
        go_upto_region 5 with (fail)
        refine wp_region_U 21 [16, 17, 18] [0, 1, 2] (fun a0 HA0 => ?_)
        have oe0 := ev HA0 0 rfl
        refine QSeq.pure rfl _ (fun E => ex_move rfl (E.v oe0)) ?_
        refine QSeq.go fun act E => ?_
        refine qc_callF (args := #[.pointer (some ⟨r, 0, none⟩)]) rfl (wanted_none rfl) rfl Try.func39 (args1 (E.d 0 0)) (OK_R Hx10.out) ?_
        rintro e w2 ⟨rfl, hw2⟩
        obtain rfl : u4_5 = w2 := by first | exact hw2 | exact hw2.symm
        refine ⟨_, rfl, ?_⟩
        clear act E
        refine QSeq.pure rfl (.bool true) (fun E => ex_not rfl (E.d 1 0)) ?_
        refine QSeq.nil (t' := [_, _, _]) rfl ?_
        obtain rfl := HA0.out
        clear HA0 oe0
        simp only [pz, Act.put, List.setIfInBounds_toArray, List.set_cons_zero, List.set_cons_succ]
        go_upto_region 6 with (fail)
        refine wp_region_U 21 [4] [0] (fun a0 HA0 => ?_)
        refine QSeq.pure rfl (.slice none 0 0) (fun E => ex_assign rfl rfl) ?_
        refine QSeq.nil (t' := [_]) rfl ?_
        obtain rfl := HA0.out
        clear HA0
        simp only [pz, Act.put, List.setIfInBounds_toArray, List.set_cons_zero, List.set_cons_succ]
        go_wp2
        go_ret
        have hq := HG.out
        rw [HGN.out, if_pos trivial] at hq
        have e := HGL.out
        rw [← hq] at e
        refine ⟨_, rfl, ?_, ?_, (HML.out.trans Cx9.out (by intro k h1 h2; rcases h2 with h2 | h2 <;> first | exact h2 | omega | (have hb := HBR.out k h2; omega)))⟩
        · rw [e]; exact RdS.nil _ _ _
        · rw [e]; exact Hx10.out
      | some l2 =>
        go_upto_region 5 with (fail)
        refine wp_region_U 21 [16, 17, 18] [0, 1, 2] (fun a0 HA0 => ?_)
        have oe0 := ev HA0 0 rfl
        refine QSeq.pure rfl _ (fun E => ex_move rfl (E.v oe0)) ?_
        refine QSeq.go fun act E => ?_
        refine qc_callF (args := #[.pointer (some ⟨r, 0, none⟩)]) rfl (wanted_none rfl) rfl Try.func39 (args1 (E.d 0 0)) (OK_R Hx10.out) ?_
        rintro e w2 ⟨rfl, hw2⟩
        obtain rfl : u4_5 = w2 := by first | exact hw2 | exact hw2.symm
        refine ⟨_, rfl, ?_⟩
        clear act E
        refine QSeq.pure rfl (.bool false) (fun E => ex_not rfl (E.d 1 0)) ?_
        refine QSeq.nil (t' := [_, _, _]) rfl ?_
        obtain rfl := HA0.out
        clear HA0 oe0
        simp only [pz, Act.put, List.setIfInBounds_toArray, List.set_cons_zero, List.set_cons_succ]
        go_upto_region 7 with (fail)
        refine wp_region_U 21 [19, 8] [0, 1] (fun a0 HA0 => ?_)
        have oe8 := ev HA0 8 rfl
        refine QSeq.pure rfl (.int .i64 (((k : Nat) : Int) + 1)) (fun E => ex_binE rfl (E.y 1 oe8) rfl (guard_ints _ _ _ _ _ _) (run_add_i _ _ Try.underlying3) (congrArg (Value.int .i64) (IntWalk.i64_in _ (by omega)))) ?_
        refine QSeq.pure rfl _ (fun E => ex_move rfl (E.d 0 0)) ?_
        refine QSeq.nil (t' := [_, _]) rfl ?_
        obtain rfl := HA0.out
        clear HA0 oe8
        simp only [pz, Act.put, List.setIfInBounds_toArray, List.set_cons_zero, List.set_cons_succ]
        go_wp2
        go_roundw
        case rel => exact ⟨k + 1, acc ++ [x], some l2, by go_num, by omega, by rw [List.length_append, HKA.out]; rfl, HST2.out, (by have hq := HG.out; rw [HGN.out, if_neg (by simp)] at hq; exact hq), by omega, (Hx8.out.widen (by intro b h1; omega) (by intro b h1; rcases h1 with h1 | h1 | h1 <;> first | omega | exact h1.elim)), Hx10.out, (HML.out.trans Cx9.out (by intro k h1 h2; rcases h2 with h2 | h2 <;> first | exact h2 | omega | (have hb := HBR.out k h2; omega)))⟩
        case measure => simp [intOf] <;> omega
    · obtain rfl : n = k := by omega
      go_upto_region 3 with (fail)
      refine wp_region_U 21 [9] [0] (fun a0 HA0 => ?_)
      have oe7 := ev HA0 7 rfl
      have oe8 := ev HA0 8 rfl
      refine QSeq.pure rfl (.bool false) (fun E => ex_binE rfl (E.v oe8) (E.v oe7) (guard_ints _ _ _ _ _ _) (run_lss_i _ _ _ Try.underlying3) (congrArg Value.bool (decide_eq_false (by omega)))) ?_
      refine QSeq.nil (t' := [_]) rfl ?_
      obtain rfl := HA0.out
      clear HA0 oe7 oe8
      simp only [pz, Act.put, List.setIfInBounds_toArray, List.set_cons_zero, List.set_cons_succ]
      go_upto_region 8 with (fail)
      refine wp_region_U 21 [20, 4] [0, 1] (fun a0 HA0 => ?_)
      have oe5 := ev HA0 5 rfl
      refine QSeq.pure rfl _ (fun E => ex_move rfl (E.v oe5)) ?_
      refine QSeq.pure rfl _ (fun E => ex_assign rfl (E.d 0 0)) ?_
      refine QSeq.nil (t' := [_, _]) rfl ?_
      obtain rfl := HA0.out
      clear HA0 oe5
      simp only [pz, Act.put, List.setIfInBounds_toArray, List.set_cons_zero, List.set_cons_succ]
      go_wp2
      go_ret
      have hq := HG.out
      rw [Nat.sub_self] at hq
      have e := HGL.out
      rw [← hq] at e
      refine ⟨_, rfl, ?_, ?_, HML.out⟩
      · rw [e]; exact HAL.out.rd.widen (by intro b h1; (try dsimp only at h1 ⊢); omega)
      · rw [e]; exact HRL.out
set_option maxHeartbeats 4000000 in
theorem cBa_G : Gets BaR 125 90 gBa := by
  intro R r s w hR hB hl
  have HRD := Lib.hid hR
  have HBR := Lib.hid hB
  have HBY := hid hR.bytes
  clear hR hB
  have HLN := Lib.hid hl
  clear hl
  go_enter Try.func90, Try.ntmps90
  go_upto_region 1 with (fail)
  obtain ⟨w1, hw1⟩ : ∃ zz, zz = (w.alloc (.cells #[.int .i64 0, .int .u64 0, .slice none 0 0, .slice none 0 0, .slice none 0 0] 60)) := ⟨_, rfl⟩
  change Code.wp _ _ _ _ (w.alloc (.cells #[.int .i64 0, .int .u64 0, .slice none 0 0, .slice none 0 0, .slice none 0 0] 60))
  rw [← hw1]
  have HB2 := hid (show Cs w1 (w.heap.size) #[.int .i64 0, .int .u64 0, .slice none 0 0, .slice none 0 0, .slice none 0 0] 60 by rw [hw1]; exact Cs.new _ _ _)
  have hm : Mod (fun _ => False) w w1 := by rw [hw1]; exact (Mod.refl _ _).alloc _
  have HM0 := hid (show Mod (fun k => (R k)) w w1 from hm.mono (fun _ _ h => h.elim))
  have hs1 : w1.heap.size = w.heap.size + 1 := by rw [hw1]; simp
  have Hx1 := hid (HRD.out.mod hm (fun _ _ h => h))
  clear HRD
  clear hw1 hm
  go_upto_region 1 with (fail)
  refine wp_region_U 14 [3, 4, 5, 6, 7, 8, 9, 10, 11, 12, 13, 25] [0, 1, 2, 3, 4, 5, 6, 7, 8, 9, 10, 11] (fun a0 HA0 => ?_)
  have oe0 := ev HA0 0 rfl
  have oe2 := ev HA0 2 rfl
  refine QSeq.pure rfl _ (fun E => ex_move rfl (E.v oe0)) ?_
  refine QSeq.call rfl rfl Try.func115 (cI_Q Hx1.out) (fun E => args2 (E.d 0 0) rfl) ?_
  rintro e u1_1 ⟨rfl, qrd, hm⟩
  refine ⟨_, rfl, ?_⟩
  have Hx2 := hid qrd
  have zu1_1 := hm.size
  have Cx3 := hid (show Mod (fun k => (R k)) w1 u1_1 from hm)
  clear hm
  clear qrd Hx1
  refine QSeq.pure rfl _ (fun E => ex_move rfl (E.v oe0)) ?_
  refine QSeq.call rfl rfl Try.func116 (RNum_R Hx2.out) (fun E => args1 (E.d 2 0)) ?_
  rintro e u1_3 ⟨rfl, qrd, hm⟩
  refine ⟨_, rfl, ?_⟩
  have Hx4 := hid qrd
  have zu1_3 := hm.size
  have HMu1_3 := hid hm
  have Cx5 := hid (Mod.goS (S' := (fun k => (R k))) Cx3.out hm (fun _ h => h) (by intro k h0 h2; exact h2))
  clear hm Cx3
  clear qrd Hx2
  refine QSeq.pure rfl _ (fun E => ex_move rfl (E.v oe0)) ?_
  refine QSeq.call rfl rfl Try.func123 (cList_Pm _ _ _ _ Hx4.out (by intro k h1; have hb := HBR.out k h1; omega) (Nat.le_trans (rNum_suf.len _) (Nat.le_trans (gI_suf.len _) HLN.out))) (fun E => args2 (E.d 4 0) rfl) ?_
  rintro e u1_5 ⟨vlPm, rfl, qlPm, qrd, hm⟩
  obtain ⟨ao_lPm, cap_lPm, rfl⟩ := qlPm.shape
  refine ⟨_, rfl, ?_⟩
  have Hx6 := hid qlPm
  have Hx7 := hid qrd
  have zu1_5 := hm.size
  have HMu1_5 := hid hm
  have Cx8 := hid (Mod.goS (S' := (fun k => (R k))) Cx5.out hm (fun _ h => h) (by intro k h0 h2; exact h2))
  clear hm Cx5
  clear qlPm qrd Hx4
  refine QSeq.pure rfl _ (fun E => ex_move rfl (E.v oe0)) ?_
  refine QSeq.call rfl rfl Try.func124 (cList_Op _ _ _ _ Hx7.out (by intro k h1; have hb := HBR.out k h1; omega) (Nat.le_trans ((gList_suf gPm_suf).len _) (Nat.le_trans (rNum_suf.len _) (Nat.le_trans (gI_suf.len _) HLN.out)))) (fun E => args2 (E.d 6 0) rfl) ?_
  rintro e u1_7 ⟨vlOp, rfl, qlOp, qrd, hm⟩
  obtain ⟨ao_lOp, cap_lOp, rfl⟩ := qlOp.shape
  refine ⟨_, rfl, ?_⟩
  have Hx9 := hid qlOp
  have Hx10 := hid qrd
  have zu1_7 := hm.size
  have HMu1_7 := hid hm
  have Cx11 := hid (Mod.goS (S' := (fun k => (R k))) Cx8.out hm (fun _ h => h) (by intro k h0 h2; exact h2))
  clear hm Cx8
  clear qlOp qrd Hx7
  refine QSeq.pure rfl _ (fun E => ex_move rfl (E.v oe0)) ?_
  refine QSeq.call rfl rfl Try.func126 (cList_Tb _ _ _ _ Hx10.out (by intro k h1; have hb := HBR.out k h1; omega) (Nat.le_trans ((gList_suf gOp_suf).len _) (Nat.le_trans ((gList_suf gPm_suf).len _) (Nat.le_trans (rNum_suf.len _) (Nat.le_trans (gI_suf.len _) HLN.out))))) (fun E => args2 (E.d 8 0) rfl) ?_
  rintro e u1_9 ⟨vlTb, rfl, qlTb, qrd, hm⟩
  obtain ⟨ao_lTb, cap_lTb, rfl⟩ := qlTb.shape
  refine ⟨_, rfl, ?_⟩
  have Hx12 := hid qlTb
  have Hx13 := hid qrd
  have zu1_9 := hm.size
  have HMu1_9 := hid hm
  have Cx14 := hid (Mod.goS (S' := (fun k => (R k))) Cx11.out hm (fun _ h => h) (by intro k h0 h2; exact h2))
  clear hm Cx11
  clear qlTb qrd Hx10
  refine QSeq.go fun act E => ?_
  refine qc_run rfl (wanted_none rfl) (v := .agg ((gBa s).1.cells (Value.slice ao_lPm (gList gPm (rNum (gI s).2).2).1.length cap_lPm) (Value.slice ao_lOp (gList gOp (gList gPm (rNum (gI s).2).2).2).1.length cap_lOp) (Value.slice ao_lTb (gList gTb (gList gOp (gList gPm (rNum (gI s).2).2).2).2).1.length cap_lTb) : List Value).toArray) (ex_build rfl (z := [.int .i64 0, .int .u64 0, .slice none 0 0, .slice none 0 0, .slice none 0 0]) (places := [(0, 1), (1, 1), (2, 1), (3, 1), (4, 1)]) (by kernel_rfl) (parts := [(0, .int .i64 (gI s).1), (1, .int .u64 ((rNum (gI s).2).1 : Nat)), (2, .slice ao_lPm (gList gPm (rNum (gI s).2).2).1.length cap_lPm), (3, .slice ao_lOp (gList gOp (gList gPm (rNum (gI s).2).2).2).1.length cap_lOp), (4, .slice ao_lTb (gList gTb (gList gOp (gList gPm (rNum (gI s).2).2).2).2).1.length cap_lTb)]) (by simp only [List.map_toArray, List.map_cons, List.map_nil, show act.eval (.tmp 4) = .int .i64 (gI s).1 from (E.d 1 8), show act.eval (.tmp 6) = .int .u64 ((rNum (gI s).2).1 : Nat) from (E.d 3 6), show act.eval (.tmp 8) = .slice ao_lPm (gList gPm (rNum (gI s).2).2).1.length cap_lPm from (E.d 5 4), show act.eval (.tmp 10) = .slice ao_lOp (gList gOp (gList gPm (rNum (gI s).2).2).2).1.length cap_lOp from (E.d 7 2), show act.eval (.tmp 12) = .slice ao_lTb (gList gTb (gList gOp (gList gPm (rNum (gI s).2).2).2).2).1.length cap_lTb from (E.d 9 0)]; try rfl) (r := (gBa s).1.cells (Value.slice ao_lPm (gList gPm (rNum (gI s).2).2).1.length cap_lPm) (Value.slice ao_lOp (gList gOp (gList gPm (rNum (gI s).2).2).2).1.length cap_lOp) (Value.slice ao_lTb (gList gTb (gList gOp (gList gPm (rNum (gI s).2).2).2).2).1.length cap_lTb)) (by exact laid_segs (ns := [1, 1, 1, 1, 1]) rfl [(0, .int .i64 (gI s).1), (1, .int .u64 ((rNum (gI s).2).1 : Nat)), (2, .slice ao_lPm (gList gPm (rNum (gI s).2).2).1.length cap_lPm), (3, .slice ao_lOp (gList gOp (gList gPm (rNum (gI s).2).2).2).1.length cap_lOp), (4, .slice ao_lTb (gList gTb (gList gOp (gList gPm (rNum (gI s).2).2).2).2).1.length cap_lTb)] [[.int .i64 0], [.int .u64 0], [.slice none 0 0], [.slice none 0 0], [.slice none 0 0]] rfl ⟨rfl, rfl, rfl, rfl, rfl, trivial⟩)) ?_
  clear act E
  refine QSeq.go fun act E => ?_
  refine qc_store rfl (wanted_none rfl) rfl (HB2.out.mod Cx14.out (by intro h2; first | omega | (have hb := HBR.out _ h2; omega))) (off := 0) (vs := ((gBa s).1.cells (Value.slice ao_lPm (gList gPm (rNum (gI s).2).2).1.length cap_lPm) (Value.slice ao_lOp (gList gOp (gList gPm (rNum (gI s).2).2).2).1.length cap_lOp) (Value.slice ao_lTb (gList gTb (gList gOp (gList gPm (rNum (gI s).2).2).2).2).1.length cap_lTb))) (by kernel_rfl) (by intro u hu; simp only [Ba.cells, List.mem_cons, List.not_mem_nil, or_false] at hu; rcases hu with rfl | rfl | rfl | rfl | rfl <;> rfl) (by simp) (E.v oe2) (ec (E.d 10 0)) ?_
  intro u1_11 qc0 hm
  have qB2 := qc0.eqv (b := (((gBa s).1.cells (Value.slice ao_lPm (gList gPm (rNum (gI s).2).2).1.length cap_lPm) (Value.slice ao_lOp (gList gOp (gList gPm (rNum (gI s).2).2).2).1.length cap_lOp) (Value.slice ao_lTb (gList gTb (gList gOp (gList gPm (rNum (gI s).2).2).2).2).1.length cap_lTb)) : List Value).toArray) (lay_whole #[.int .i64 0, .int .u64 0, .slice none 0 0, .slice none 0 0, .slice none 0 0] _ rfl)
  clear qc0
  have Hx15 := hid qB2
  have zu1_11 := hm.size
  have HMu1_11 := hid hm
  have Cx16 := hid (Mod.goS (S' := (fun k => (R k) ∨ (k = w.heap.size))) Cx14.out hm (fun _ h => Or.inl h) (by intro k h0 h2; exact Or.inr (h2)))
  clear hm Cx14
  clear act E qB2 HB2
  have Hx17 := hid (Hx13.out.mod HMu1_11.out (sB HBR))
  have Hx18 := hid (((Hx6.out.mod HMu1_7.out (by intro k h1 h2; have hb := HBR.out k h2; omega)).mod HMu1_9.out (by intro k h1 h2; have hb := HBR.out k h2; omega)).mod HMu1_11.out (by intro k h1 h2; omega))
  have Hx19 := hid ((Hx9.out.mod HMu1_9.out (by intro k h1 h2; have hb := HBR.out k h2; omega)).mod HMu1_11.out (by intro k h1 h2; omega))
  have Hx20 := hid (Hx12.out.mod HMu1_11.out (by intro k h1 h2; omega))
  clear Hx13 Hx6 Hx9 Hx12 HMu1_3 HMu1_5 HMu1_7 HMu1_9 HMu1_11
  refine QSeq.nil (t' := [_, _, _, _, _, _, _, _, _, _, _, _]) rfl ?_
  obtain rfl := HA0.out
  clear HA0 oe0 oe2
  simp only [pz, Act.put, List.setIfInBounds_toArray, List.set_cons_zero, List.set_cons_succ, List.set_nil]
  go_wp2
  exact bodyPost_ret (results_cellA rfl _ _ w.heap.size ((gBa s).1.cells (Value.slice ao_lPm (gList gPm (rNum (gI s).2).2).1.length cap_lPm) (Value.slice ao_lOp (gList gOp (gList gPm (rNum (gI s).2).2).2).1.length cap_lOp) (Value.slice ao_lTb (gList gTb (gList gOp (gList gPm (rNum (gI s).2).2).2).2).1.length cap_lTb)) rfl (fun k u hu => by rw [Hx15.out.cell]; simpa using hu) Try.underlying60 rfl (by kernel_rfl)) rfl ⟨_, rfl, ⟨_, _, _, rfl, gBa_OK HBY.out, (Hx18.out.widen (R' := (fun k => New w u1_11 k)) (by intro k h1; omega)), (Hx19.out.widen (R' := (fun k => New w u1_11 k)) (by intro k h1; omega)), (Hx20.out.widen (R' := (fun k => New w u1_11 k)) (by intro k h1; omega))⟩, Hx17.out, (HM0.out.trans Cx16.out (by intro k h1 h2; rcases h2 with h2 | h2 <;> first | exact h2 | omega | (have hb := HBR.out k h2; omega)))⟩
end Go.Proofs.Ytknpapcfhnhheaa

/- Whole parts of messages, read (package wire). -/
namespace Go.Proofs.Ytknpapcfhnhheaa
open Go Go.RowKit Go.Gv


def gW {α : Type} (z : α) (g : RSt → α × RSt) (s : RSt) : α × RSt := (if (g s).2.isSome then (g s).1 else z, (g s).2)
def zBa : Ba := ⟨0, 0, [], [], []⟩
theorem HK_zero : HK (List.replicate 32 0) := by
  refine ⟨by simp, ?_⟩
  intro x hx
  simp at hx
  subst hx
  decide
theorem I64_0 : I64 0 := by unfold I64; decide
theorem U64_0 : 0 < U64 := by unfold U64; decide
theorem zBa_OK : zBa.OK := ⟨I64_0, U64_0⟩
theorem zBa_rd (R : Nat → Prop) (w : World) : BaR.rd R w (zBa.cells (.slice none 0 0) (.slice none 0 0) (.slice none 0 0)) zBa := ⟨_, _, _, rfl, zBa_OK, RdS.nil _ _ _, RdS.nil _ _ _, RdS.nil _ _ _⟩
set_option maxHeartbeats 4000000 in
theorem whole_Ba : ∀ (R R2 : Nat → Prop) (r : Nat) (s : RSt) (cs : List Value) (x : Ba) (w : World), RrR 125 R w r s → (∀ k, R k → k < w.heap.size) → BaR.rd R2 w cs x → (∀ k, R2 k → k < w.heap.size) →
    Calls Try.prog 89 #[.pointer (some ⟨r, 0, none⟩), .agg cs.toArray] w fun e w' => ∃ cs', e = .returned (.agg cs'.toArray) ∧ BaR.rd R2 w' cs' (if s.isSome then x else zBa) ∧ Mod (fun _ => False) w w' := by
  intro R R2 r s cs x w hR hB hx hB2
  have hcl : cs.length = 5 := BaR.len hx
  have HCL := Lib.hid hcl
  have HOC := hid (BaR.one hx)
  have HRD := Lib.hid hR
  have HBR := Lib.hid hB
  have HX := Lib.hid hx
  have HBT := Lib.hid hB2
  clear hR hB hx hB2 hcl
  go_enter Try.func89, Try.ntmps89
  go_upto_region 1 with (fail)
  obtain ⟨w1, hw1⟩ : ∃ zz, zz = ((w.alloc (.cells (cs : List Value).toArray 60)).alloc (.cells #[.int .i64 0, .int .u64 0, .slice none 0 0, .slice none 0 0, .slice none 0 0] 60)) := ⟨_, rfl⟩
  change Code.wp _ _ _ _ ((w.alloc (.cells (cs : List Value).toArray 60)).alloc (.cells #[.int .i64 0, .int .u64 0, .slice none 0 0, .slice none 0 0, .slice none 0 0] 60))
  rw [← hw1]
  have HB3 := hid (show Cs w1 (w.heap.size) (cs : List Value).toArray 60 by rw [hw1]; exact (Cs.new _ _ _).alloc _)
  have HB4 := hid (show Cs w1 (w.heap.size + 1) #[.int .i64 0, .int .u64 0, .slice none 0 0, .slice none 0 0, .slice none 0 0] 60 by rw [hw1]; exact Cs_newN _ _ _ (by simp))
  have hm : Mod (fun _ => False) w w1 := by rw [hw1]; exact ((Mod.refl _ _).alloc _).alloc _
  have HM0 := hid (show Mod (fun _ => False) w w1 from hm.mono (fun _ _ h => h.elim))
  have hs1 : w1.heap.size = w.heap.size + 2 := by rw [hw1]; simp
  have Hx1 := hid (HRD.out.mod hm (fun _ _ h => h))
  clear HRD
  have Hx2 := hid (HX.out.mod hm (fun _ _ h => h))
  clear HX
  clear hw1 hm
  go_upto_region 1 with (fail)
  refine wp_region_U 11 [5] [0] (fun a0 HA0 => ?_)
  refine QSeq.go fun act E => ?_
  refine qc_alloc rfl (wanted_none rfl) rfl (z := [.int .i64 0, .int .u64 0, .slice none 0 0, .slice none 0 0, .slice none 0 0]) (by kernel_rfl) ?_
  intro u1_0 qB5 hm
  have zl1_0 := qB5.lt
  have Hx3 := hid qB5
  have zu1_0 := hm.size
  have Cx4 := hid (show Mod (fun _ => False) w1 u1_0 from hm)
  clear hm
  clear act E qB5
  refine QSeq.nil (t' := [_]) rfl ?_
  obtain rfl := HA0.out
  clear HA0
  simp only [pz, Act.put, List.setIfInBounds_toArray, List.set_cons_zero, List.set_cons_succ]
  cases s with
  | none =>
    go_upto_region 2 with (fail)
    refine wp_region_U 11 [6, 7, 8] [0, 1, 2] (fun a0 HA0 => ?_)
    have oe0 := ev HA0 0 rfl
    refine QSeq.pure rfl _ (fun E => ex_move rfl (E.v oe0)) ?_
    refine QSeq.go fun act E => ?_
    refine qc_callF (args := #[.pointer (some ⟨r, 0, none⟩)]) rfl (wanted_none rfl) rfl Try.func39 (args1 (E.d 0 0)) (OK_R (Hx1.out.mod Cx4.out (fun _ _ h => h))) ?_
    rintro e w2 ⟨rfl, hw2⟩
    obtain rfl : u1_0 = w2 := by first | exact hw2 | exact hw2.symm
    refine ⟨_, rfl, ?_⟩
    clear act E
    refine QSeq.pure rfl (.bool true) (fun E => ex_not rfl (E.d 1 0)) ?_
    refine QSeq.nil (t' := [_, _, _]) rfl ?_
    obtain rfl := HA0.out
    clear HA0 oe0
    simp only [pz, Act.put, List.setIfInBounds_toArray, List.set_cons_zero, List.set_cons_succ]
    go_upto_region 3 with (fail)
    refine wp_region_U 11 [9, 12] [0, 1] (fun a0 HA0 => ?_)
    have oe4 := ev HA0 4 rfl
    have oe5 := ev HA0 5 rfl
    refine QSeq.pure rfl _ (fun E => ex_loadA rfl Try.underlying60 rfl (off := 0) (cs := [.int .i64 0, .int .u64 0, .slice none 0 0, .slice none 0 0, .slice none 0 0]) (by kernel_rfl) (E.v oe5) (Cs.whole Hx3.out)) ?_
    refine QSeq.go fun act E => ?_
    refine qc_store rfl (wanted_none rfl) rfl (HB4.out.mod Cx4.out (fun h => h)) (off := 0) (vs := [.int .i64 0, .int .u64 0, .slice none 0 0, .slice none 0 0, .slice none 0 0]) (by kernel_rfl) (BaR.one (zBa_rd (fun _ => False) w)) (by show 5 ≤ 5; exact Nat.le_refl _) (E.v oe4) (ec (E.d 0 0)) ?_
    intro u3_1 qc0 hm
    have qB4 := qc0.eqv (b := #[.int .i64 0, .int .u64 0, .slice none 0 0, .slice none 0 0, .slice none 0 0]) (lay_whole #[.int .i64 0, .int .u64 0, .slice none 0 0, .slice none 0 0, .slice none 0 0] [.int .i64 0, .int .u64 0, .slice none 0 0, .slice none 0 0, .slice none 0 0] rfl)
    clear qc0
    have Hx5 := hid qB4
    have zu3_1 := hm.size
    have Cx6 := hid (show Mod (fun k => (k = w.heap.size + 1)) u1_0 u3_1 from hm)
    clear hm
    clear act E qB4 HB4
    refine QSeq.nil (t' := [_, _]) rfl ?_
    obtain rfl := HA0.out
    clear HA0 oe4 oe5
    simp only [pz, Act.put, List.setIfInBounds_toArray, List.set_cons_zero, List.set_cons_succ, List.set_nil]
    go_wp2
    exact bodyPost_ret (results_cellA rfl _ _ (w.heap.size + 1) ([.int .i64 0, .int .u64 0, .slice none 0 0, .slice none 0 0, .slice none 0 0]) rfl (fun k u hu => by rw [Hx5.out.cell]; simpa using hu) Try.underlying60 rfl (by kernel_rfl)) rfl ⟨_, rfl, zBa_rd _ _, ((HM0.out.trans Cx4.out (fun _ _ h => h.elim)).trans Cx6.out (by intro k h1 h2; omega))⟩
  | some l =>
    go_upto_region 2 with (fail)
    refine wp_region_U 11 [6, 7, 8] [0, 1, 2] (fun a0 HA0 => ?_)
    have oe0 := ev HA0 0 rfl
    refine QSeq.pure rfl _ (fun E => ex_move rfl (E.v oe0)) ?_
    refine QSeq.go fun act E => ?_
    refine qc_callF (args := #[.pointer (some ⟨r, 0, none⟩)]) rfl (wanted_none rfl) rfl Try.func39 (args1 (E.d 0 0)) (OK_R (Hx1.out.mod Cx4.out (fun _ _ h => h))) ?_
    rintro e w2 ⟨rfl, hw2⟩
    obtain rfl : u1_0 = w2 := by first | exact hw2 | exact hw2.symm
    refine ⟨_, rfl, ?_⟩
    clear act E
    refine QSeq.pure rfl (.bool false) (fun E => ex_not rfl (E.d 1 0)) ?_
    refine QSeq.nil (t' := [_, _, _]) rfl ?_
    obtain rfl := HA0.out
    clear HA0 oe0
    simp only [pz, Act.put, List.setIfInBounds_toArray, List.set_cons_zero, List.set_cons_succ]
    go_upto_region 4 with (fail)
    refine wp_region_U 11 [10, 12] [0, 1] (fun a0 HA0 => ?_)
    have oe3 := ev HA0 3 rfl
    have oe4 := ev HA0 4 rfl
    refine QSeq.pure rfl _ (fun E => ex_loadA rfl Try.underlying60 rfl (off := 0) (cs := cs) (by rw [HCL.out]; kernel_rfl) (E.v oe3) (Cs.whole (HB3.out.mod Cx4.out (fun h => h)))) ?_
    refine QSeq.go fun act E => ?_
    refine qc_store rfl (wanted_none rfl) rfl (HB4.out.mod Cx4.out (fun h => h)) (off := 0) (vs := cs) (by rw [HCL.out]; kernel_rfl) HOC.out (by rw [HCL.out]; decide) (E.v oe4) (ec (E.d 0 0)) ?_
    intro u4_1 qc0 hm
    have qB4 := qc0.eqv (b := (cs : List Value).toArray) (lay_whole _ _ (by rw [HCL.out]; rfl))
    clear qc0
    have Hx7 := hid qB4
    have zu4_1 := hm.size
    have Cx8 := hid (show Mod (fun k => (k = w.heap.size + 1)) u1_0 u4_1 from hm)
    clear hm
    clear act E qB4 HB4
    refine QSeq.nil (t' := [_, _]) rfl ?_
    obtain rfl := HA0.out
    clear HA0 oe3 oe4
    simp only [pz, Act.put, List.setIfInBounds_toArray, List.set_cons_zero, List.set_cons_succ, List.set_nil]
    go_wp2
    exact bodyPost_ret (results_cellA rfl _ _ (w.heap.size + 1) (cs) rfl (fun k u hu => by rw [Hx7.out.cell]; simpa using hu) Try.underlying60 rfl (by rw [HCL.out]; kernel_rfl)) rfl ⟨_, rfl, ((Hx2.out.mod Cx4.out (fun _ _ h => h)).mod Cx8.out (sB HBT)), ((HM0.out.trans Cx4.out (fun _ _ h => h.elim)).trans Cx8.out (by intro k h1 h2; omega))⟩
set_option maxHeartbeats 4000000 in
theorem Wire_Ba : Gets BaR 125 37 (gW zBa gBa) := by
  intro R r s w hR hB hl
  have HRD := Lib.hid hR
  have HBR := Lib.hid hB
  have HLN := Lib.hid hl
  clear hR hB hl
  go_enter Try.func37, Try.ntmps37
  go_upto_region 1 with (fail)
  obtain ⟨w1, hw1⟩ : ∃ zz, zz = (w.alloc (.cells #[.int .i64 0, .int .u64 0, .slice none 0 0, .slice none 0 0, .slice none 0 0] 60)) := ⟨_, rfl⟩
  change Code.wp _ _ _ _ (w.alloc (.cells #[.int .i64 0, .int .u64 0, .slice none 0 0, .slice none 0 0, .slice none 0 0] 60))
  rw [← hw1]
  have HB2 := hid (show Cs w1 (w.heap.size) #[.int .i64 0, .int .u64 0, .slice none 0 0, .slice none 0 0, .slice none 0 0] 60 by rw [hw1]; exact Cs.new _ _ _)
  have hm : Mod (fun _ => False) w w1 := by rw [hw1]; exact (Mod.refl _ _).alloc _
  have HM0 := hid (show Mod (fun k => (R k)) w w1 from hm.mono (fun _ _ h => h.elim))
  have hs1 : w1.heap.size = w.heap.size + 1 := by rw [hw1]; simp
  have Hx1 := hid (HRD.out.mod hm (fun _ _ h => h))
  clear HRD
  clear hw1 hm
  go_upto_region 1 with (fail)
  refine wp_region_U 7 [3, 4, 5, 6, 11] [0, 1, 2, 3, 4] (fun a0 HA0 => ?_)
  have oe0 := ev HA0 0 rfl
  have oe2 := ev HA0 2 rfl
  refine QSeq.pure rfl _ (fun E => ex_move rfl (E.v oe0)) ?_
  refine QSeq.pure rfl _ (fun E => ex_move rfl (E.v oe0)) ?_
  refine QSeq.call rfl rfl Try.func90 (cBa_G _ _ _ _ Hx1.out (by intro k h1; have hb := HBR.out k h1; omega) HLN.out) (fun E => args1 (E.d 1 0)) ?_
  rintro e u1_2 ⟨cs1, rfl, qx1, qrd, hm⟩
  refine ⟨_, rfl, ?_⟩
  have Hx2 := hid qx1
  have Hx3 := hid qrd
  have zu1_2 := hm.size
  have Cx4 := hid (show Mod (fun k => (R k)) w1 u1_2 from hm)
  clear hm
  clear qx1 qrd Hx1
  refine QSeq.call rfl rfl Try.func89 (whole_Ba _ _ _ _ _ _ _ Hx3.out (by intro k h1; have hb := HBR.out k h1; omega) Hx2.out (by intro k h1; omega)) (fun E => args2 (E.d 0 2) (E.d 2 0)) ?_
  rintro e u1_3 ⟨cs2, rfl, qx1, hm⟩
  have hcl : cs2.length = 5 := BaR.len qx1
  have HCL := Lib.hid hcl
  have HOC := hid (BaR.one qx1)
  clear hcl
  refine ⟨_, rfl, ?_⟩
  have Hx5 := hid qx1
  have zu1_3 := hm.size
  have HMu1_3 := hid hm
  have Cx6 := hid (Cx4.out.goE hm)
  clear hm Cx4
  clear qx1 Hx2
  refine QSeq.go fun act E => ?_
  refine qc_store rfl (wanted_none rfl) rfl (HB2.out.mod Cx6.out (by intro h2; first | omega | (have hb := HBR.out _ h2; omega))) (off := 0) (vs := cs2) (by rw [HCL.out]; kernel_rfl) HOC.out (by rw [HCL.out]; decide) (E.v oe2) (ec (E.d 3 0)) ?_
  intro u1_4 qc0 hm
  have qB2 := qc0.eqv (b := (cs2 : List Value).toArray) (lay_whole _ _ (by rw [HCL.out]; rfl))
  clear qc0
  have Hx7 := hid qB2
  have zu1_4 := hm.size
  have HMu1_4 := hid hm
  have Cx8 := hid (Mod.goS (S' := (fun k => (R k) ∨ (k = w.heap.size))) Cx6.out hm (fun _ h => Or.inl h) (by intro k h0 h2; exact Or.inr (h2)))
  clear hm Cx6
  clear act E qB2 HB2
  have Hx9 := hid ((Hx3.out.mod HMu1_3.out (fun _ _ h => h)).mod HMu1_4.out (sB HBR))
  have Hx10 := hid (Hx5.out.mod HMu1_4.out (by intro k h1 h2; omega))
  clear Hx3 Hx5 HMu1_3 HMu1_4
  refine QSeq.nil (t' := [_, _, _, _, _]) rfl ?_
  obtain rfl := HA0.out
  clear HA0 oe0 oe2
  simp only [pz, Act.put, List.setIfInBounds_toArray, List.set_cons_zero, List.set_cons_succ, List.set_nil]
  go_wp2
  exact bodyPost_ret (results_cellA rfl _ _ w.heap.size cs2 rfl (fun k u hu => by rw [Hx7.out.cell]; simpa using hu) Try.underlying60 rfl (by rw [HCL.out]; kernel_rfl)) rfl ⟨_, rfl, (Hx10.out.widen (R' := (fun k => New w u1_4 k)) (by intro k h1; omega)), Hx9.out, (HM0.out.trans Cx8.out (by intro k h1 h2; rcases h2 with h2 | h2 <;> first | exact h2 | omega | (have hb := HBR.out k h2; omega)))⟩
end Go.Proofs.Ytknpapcfhnhheaa

/- What is not too great stays as it is; a batch's bytes say what it is; batches with one thing more or less. No walk here. -/
namespace Go.Proofs.Ytknpapcfhnhheaa
open Go Go.RowKit Go.Gv

end Go.Proofs.Ytknpapcfhnhheaa

/- Batches of too many things, of too long a payload, are read as none; those at the bound as they were. No walk here. -/
namespace Go.Proofs.Ytknpapcfhnhheaa
open Go Go.RowKit Go.Gv

def zH : List Int := List.replicate 32 0
def opI (i : Nat) : Op := ⟨i, [], zH⟩
def tbI (i : Nat) : Tb := ⟨i, []⟩
def dnI (i : Nat) : Dn := ⟨0, i, 0, 0⟩
/-- the batch of the statement's i-th kind -/
def baL (k n : Nat) : Ba :=
  if k = 0 then ⟨1, 2, [], (List.range n).map opI, []⟩ else
  if k = 1 then ⟨1, 2, [], [], (List.range n).map tbI⟩ else
  if k = 2 then ⟨1, 2, [], [], [⟨0, (List.range n).map dnI⟩]⟩ else ⟨1, 2, [], [⟨0, List.replicate (n + 156) 0, zH⟩], []⟩
theorem opI_ok {i : Nat} (h : i ≤ 1000) : OpOk (opI i) := ⟨(show UpI (i : Int) by unfold UpI; omega), by simp [opI], HK_zero⟩
theorem tbI_ok {i : Nat} (h : i ≤ 1000) : TbOk (tbI i) := ⟨(show UpI (i : Int) by unfold UpI; omega), by simp [tbI], by intro a h; cases h⟩
theorem dnI_ok {i : Nat} (h : i ≤ 1000) : DnOk (dnI i) := ⟨(show UpI 0 by unfold UpI; decide), (show UpI (i : Int) by unfold UpI; omega), (show UpI 0 by unfold UpI; decide), (show UpI 0 by unfold UpI; decide)⟩
theorem range_ok {α : Type} {ok : α → Prop} {f : Nat → α} (h : ∀ i, i ≤ 1000 → ok (f i)) {n : Nat} (hn : n ≤ 100) : listOk ok ((List.range n).map f) :=
  ⟨by simpa using hn, fun a ha => by obtain ⟨i, hi, rfl⟩ := List.mem_map.1 ha; exact h i (by have := List.mem_range.1 hi; omega)⟩
theorem nil_ok {α : Type} (ok : α → Prop) : listOk ok [] := ⟨by simp, by intro a h; cases h⟩
theorem one_ok {α : Type} {ok : α → Prop} {a : α} (h : ok a) : listOk ok [a] := ⟨by simp, by intro b hb; rw [List.mem_singleton] at hb; rw [hb]; exact h⟩
theorem up1 : UpI 1 := by unfold UpI; decide
theorem up0 : UpI 0 := by unfold UpI; decide
theorem u64_2 : 2 < U64 := by unfold U64; decide
theorem baL_ok (k : Nat) {n : Nat} (hn : n ≤ 100) : BaOk (baL k n) := by
  unfold baL
  split
  · exact ⟨up1, u64_2, nil_ok _, range_ok (fun i h => opI_ok h) hn, nil_ok _⟩
  · split
    · exact ⟨up1, u64_2, nil_ok _, nil_ok _, range_ok (fun i h => tbI_ok h) hn⟩
    · split
      · exact ⟨up1, u64_2, nil_ok _, nil_ok _, one_ok ⟨up0, range_ok (fun i h => dnI_ok h) hn⟩⟩
      · exact ⟨up1, u64_2, nil_ok _, one_ok ⟨up0, by simp; omega, HK_zero⟩, nil_ok _⟩
theorem gList_one {α : Type} {g : RSt → α × RSt} {put : α → List Int} (a : α) (r : List Int) (h : (g (some (put a ++ r))).2 = none) : gList g (some (listB put [a] ++ r)) = ([], none) := by
  unfold gList listB
  rw [List.append_assoc, encI_nat, rInt_enc (by unfold U64; simp), if_neg (by simp)]
  simp only [List.length_cons, List.length_nil, List.map_cons, List.map_nil, List.flatten_cons, List.flatten_nil, List.append_nil, Nat.zero_add, gItems]
  rw [if_pos h]
theorem rRow_long {b r : List Int} (h : 256 < b.length) (hl : b.length < U64) : (rRow 256 (some (encN b.length ++ (b ++ r)))).2 = none := by
  unfold rRow
  rw [rInt_enc hl, if_pos (by omega)]
  rfl
theorem baL_long (k : Nat) {n : Nat} (h1 : 100 < n) (h2 : n ≤ 1000) : (gBa (some (baB (baL k n)))).2 = none := by
  have e1 : ∀ r, gI (some (encI 1 ++ r)) = (1, some r) := fun r => gI_ed 1 r (by unfold UpI; decide)
  have e0 : ∀ r, gI (some (encI 0 ++ r)) = (0, some r) := fun r => gI_ed 0 r (by unfold UpI; decide)
  have e2 : ∀ r, rNum (some (encN 2 ++ r)) = (2, some r) := fun r => rNum_ed 2 r (by unfold U64; decide)
  have ep : ∀ r, gList gPm (some (listB pmB [] ++ r)) = ([], some r) := fun r => gList_ed gPm_ed [] r (nil_ok _)
  have eo : ∀ r, gList gOp (some (listB opB [] ++ r)) = ([], some r) := fun r => gList_ed gOp_ed [] r (nil_ok _)
  have nt : (gList gTb none).2 = none := (gList_de gTb_de).none none rfl
  unfold baL
  split
  · have el : ∀ r, gList gOp (some (listB opB ((List.range n).map opI) ++ r)) = ([], none) := fun r => gList_long opB _ (by simpa using h1) (by unfold U64; simp; omega) r
    simp only [gBa, gb, baB, List.append_assoc, e1, e2, ep, el]
    exact nt
  · split
    · have el := gList_long (g := gTb) tbB ((List.range n).map tbI) (by simpa using h1) (by unfold U64; simp; omega) []
      rw [List.append_nil] at el
      simp only [gBa, gb, baB, List.append_assoc, e1, e2, ep, eo, el]
    · split
      · have el := gList_one (g := gTb) (put := tbB) ⟨0, (List.range n).map dnI⟩ [] (by
          have ed := fun r => gList_long (g := gDn) dnB ((List.range n).map dnI) (by simpa using h1) (by unfold U64; simp; omega) r
          simp only [gTb, gb, tbB, List.append_assoc, e0, ed])
        rw [List.append_nil] at el
        simp only [gBa, gb, baB, List.append_assoc, e1, e2, ep, eo, el]
      · have el := fun r => gList_one (g := gOp) (put := opB) ⟨0, List.replicate (n + 156) 0, zH⟩ r (by
          have er := fun q => rRow_long (b := List.replicate (n + 156) (0 : Int)) (r := q) (by simp; omega) (by unfold U64; simp; omega)
          simp only [gOp, gb, opB, List.append_assoc, e0]
          rw [show ∀ s, s = none → (rHash s).2 = none from (De.none rHash_de)]
          exact er _)
        simp only [gBa, gb, baB, List.append_assoc, e1, e2, ep, el]
        exact nt
theorem baL_read (k : Nat) {n : Nat} (h2 : n ≤ 1000) : (gW (Ba.mk 0 0 [] [] []) gBa (some (baB (baL k n)))).1 = (if n ≤ 100 then baL k n else Ba.mk 0 0 [] [] []) ∧ (gW (Ba.mk 0 0 [] [] []) gBa (some (baB (baL k n)))).2 = (if n ≤ 100 then some [] else none) := by
  by_cases h : n ≤ 100
  · have := gBa_ed (baL k n) [] (baL_ok k h)
    rw [List.append_nil] at this
    rw [if_pos h, if_pos h]
    unfold gW
    rw [this]
    exact ⟨rfl, rfl⟩
  · have := baL_long k (by omega) h2
    rw [if_neg h, if_neg h]
    unfold gW
    rw [this]
    exact ⟨rfl, rfl⟩
end Go.Proofs.Ytknpapcfhnhheaa

/- Lists of lists of bytes. -/
namespace Go.Proofs.Ytknpapcfhnhheaa
open Go Go.RowKit Go.Gv Go.ChangeShapes Go.WideShapes Go.ChangeAt Go.Deep

structure Row01 where
  V : Value
  B : List Int
instance : Inhabited Row01 := ⟨⟨.slice none 0 0, []⟩⟩
def Row01.cells (a : Row01) : List Value := [a.V]
def Row01.Ok (W : World) (a : Row01) : Prop := RdR (fun k => k < W.heap.size) a.B.length W a.V a.B
/-- rows, each where it lies -/
def RdF (R : Nat → Prop) (w : World) (rs : List (Value × List Int)) : Prop := ∀ p ∈ rs, RdR R 200 w p.1 p.2
section
variable {R R' S : Nat → Prop} {w w' : World} {rs : List (Value × List Int)}
theorem RdF.mod (h : RdF R w rs) (hm : Mod S w w') (hs : ∀ k, R k → S k → False) : RdF R w' rs := fun p hp => (h p hp).mod hm hs
theorem RdF.widen (h : RdF R w rs) (hs : ∀ k, R k → R' k) : RdF R' w rs := fun p hp => (h p hp).widen hs (Nat.le_refl _)
end
theorem OwV.cell {e : TypeId} {R : Nat → Prop} {N n cap g : Nat} {w : World} {cs : List Value} (h : OwV e R N w (.slice (some ⟨g, 0, none⟩) n cap) cs) : ∀ j u, cs[j]? = some u → w.cell? ⟨g, j, none⟩ = some u := by
  intro j u hu
  have hj : j < cs.length := (List.getElem?_eq_some_iff.1 hu).1
  obtain ⟨g', e', hc⟩ := h.at hj
  simp only [Option.some.injEq, Addr.mk.injEq, and_true] at e'
  subst e'
  exact hc j u hu
end Go.Proofs.Ytknpapcfhnhheaa

/- sha.Rows, gavelref01.Rows: a hash over rows. -/
namespace Go.Proofs.Ytknpapcfhnhheaa
open Go Go.RowKit Go.Gv

theorem RdF.old {R : Nat → Prop} {w : World} {rs : List (Value × List Int)} (h : RdF R w rs) : RdF (fun k => k < w.heap.size) w rs := fun p hp => ⟨(h p hp).1, fun h0 => (h p hp).1.block_lt h0, (h p hp).2.2⟩
/-- rows: the outer list, and each row where it lies -/
structure RdRows (w : World) (v : Value) (rs : List (Value × List Int)) : Prop where
  o : Rd 1 w v rs.length (rs.map (·.1))
  f : RdF (fun k => k < w.heap.size) w rs
theorem RdRows.mod {w w' : World} {v : Value} {rs : List (Value × List Int)} {B : Nat} (h : RdRows w v rs) (hm : Mod (fun k => B ≤ k) w w') (hB : w.heap.size ≤ B) : RdRows w' v rs := by
  have h2 := h.f.mod hm (fun k h1 h2 => by omega)
  exact ⟨h.o.mod hm (fun h0 g hg hS => by have := h.o.old (by decide) h0 g hg; omega), h2.widen (fun k hk => Nat.lt_of_lt_of_le hk hm.size)⟩
theorem RdRows.still {w w' : World} {v : Value} {rs : List (Value × List Int)} (h : RdRows w v rs) (hm : Mod (fun _ => False) w w') : RdRows w' v rs := h.mod (B := w.heap.size) (hm.mono (fun _ _ h => h.elim)) (Nat.le_refl _)
theorem RdRows.shape {w : World} {v : Value} {rs : List (Value × List Int)} (h : RdRows w v rs) : ∃ ao cap, v = .slice ao rs.length cap := by
  obtain ⟨_, ao, cap, e, _⟩ := h.o
  exact ⟨ao, cap, e⟩
theorem RdRows.at {w : World} {ao : Option Addr} {n cap : Nat} {rs : List (Value × List Int)} (h : RdRows w (.slice ao n cap) rs) {i : Nat} (hi : i < rs.length) :
    ∃ g o, ao = some ⟨g, o, none⟩ ∧ g < w.heap.size ∧ w.cell? ⟨g, o + i, none⟩ = some rs[i].1 := by
  rcases h.o.form (by decide) with ⟨h0, _⟩ | ⟨g, o, cap', h0, hv, h1, h2, hl, hc⟩
  · omega
  · simp only [Value.slice.injEq] at hv
    obtain ⟨rfl, rfl, rfl⟩ := hv
    exact ⟨g, o, rfl, h.o.old (by decide) h0 g rfl, hc i _ (by simp [List.getElem?_eq_getElem hi])⟩

end Go.Proofs.Ytknpapcfhnhheaa

/- Rows that a call gathers. -/
namespace Go.Proofs.Ytknpapcfhnhheaa
open Go Go.RowKit Go.Gv

/-- gathered rows: the outer list may be appended to; each row lies beside it, in blocks from B on -/
structure RowsO (B N : Nat) (w : World) (v : Value) (rs : List (Value × List Int)) : Prop where
  o : OwV 38 (fun k => v.ownBlock = some k) N w v (rs.map (·.1))
  b : ∀ g, v.ownBlock = some g → B ≤ g
  f : RdF (fun k => k < w.heap.size ∧ v.ownBlock ≠ some k ∧ B ≤ k) w rs
theorem RowsO.nil (B : Nat) (w : World) : RowsO B 0 w (.slice none 0 0) [] := ⟨OwV.nil _ _ _, (fun g hg => by cases hg), (fun p hp => by cases hp)⟩
theorem RowsO.shape {B N : Nat} {w : World} {v : Value} {rs : List (Value × List Int)} (h : RowsO B N w v rs) : ∃ ao cap, v = .slice ao rs.length cap := by
  obtain ⟨ao, cap, e⟩ := h.o.shape
  exact ⟨ao, cap, by rw [e, List.length_map]⟩
theorem RowsO.still {B N : Nat} {w w' : World} {v : Value} {rs : List (Value × List Int)} (h : RowsO B N w v rs) (hm : Mod (fun _ => False) w w') : RowsO B N w' v rs :=
  ⟨h.o.mod hm (fun _ _ h => h), h.b, (h.f.mod hm (fun _ _ h => h)).widen (fun k hk => ⟨Nat.lt_of_lt_of_le hk.1 hm.size, hk.2⟩)⟩
theorem RowsO.mod {B N : Nat} {w w' : World} {v : Value} {rs : List (Value × List Int)} {S : Nat → Prop} (h : RowsO B N w v rs) (hm : Mod S w w') (hS : ∀ k, B ≤ k → k < w.heap.size → S k → False) : RowsO B N w' v rs :=
  ⟨h.o.mod hm (fun k h1 h2 => hS k (h.b k h1) (Own.lt h.o.1 h1) h2), h.b, (h.f.mod hm (fun k h1 h2 => hS k h1.2.2 h1.1 h2)).widen (fun k hk => ⟨Nat.lt_of_lt_of_le hk.1 hm.size, hk.2⟩)⟩
theorem RowsO.rows {B N : Nat} {w : World} {v : Value} {rs : List (Value × List Int)} (h : RowsO B N w v rs) : RdRows w v rs := ⟨by
  have := Own.rd h.o.1
  rwa [List.length_map] at this, h.f.widen (fun k hk => hk.1)⟩
/-- what was cut just now lies beside them -/
theorem RowsO.beside {B N : Nat} {w w' : World} {v u : Value} {rs : List (Value × List Int)} {bs : List Int} {n : Nat} (h : RowsO B N w v rs) (hu : OwR (New w w') n w' u bs) (hB : B ≤ w.heap.size) (hn : n ≤ 200) : RdR (fun k => k < w'.heap.size ∧ v.ownBlock ≠ some k ∧ B ≤ k) 200 w' u bs :=
  hu.rd.widen (fun k hk => ⟨hk.2, fun e => by have := Own.lt h.o.1 e; exact absurd hk.1 (by omega), Nat.le_trans hB hk.1⟩) hn
end Go.Proofs.Ytknpapcfhnhheaa

/- Rows of bytes as a kind of things: a list of them, and the rows that a call takes. -/
namespace Go.Proofs.Ytknpapcfhnhheaa
open Go Go.RowKit Go.Gv

/-- bytes as a thing: one cell -/
def BtR : Rep (List Int) where
  sz := 1
  pos := by decide
  rd R w cs a := ∃ v, cs = [v] ∧ RdR R a.length w v a
  len h := by
    obtain ⟨v, rfl, -⟩ := h
    rfl
  one h := by
    obtain ⟨v, rfl, h0⟩ := h
    obtain ⟨_, _, e⟩ := h0.shape
    subst e
    intro u hu
    simp only [List.mem_cons, List.not_mem_nil, or_false] at hu
    subst hu
    rfl
  keep h hk := by
    obtain ⟨v, rfl, h0⟩ := h
    exact ⟨_, rfl, RdR_keep h0 hk⟩
  wid h hs := by
    obtain ⟨v, rfl, h0⟩ := h
    exact ⟨_, rfl, h0.widen hs (Nat.le_refl _)⟩
  tight h := by
    obtain ⟨v, rfl, h0⟩ := h
    exact ⟨_, rfl, RdR_tight h0⟩
theorem BtR.mk {R : Nat → Prop} {N : Nat} {w : World} {v : Value} {bs : List Int} (h : RdR R N w v bs) : BtR.rd R w [v] bs := ⟨v, rfl, h.1, h.2.1, Nat.le_refl _⟩
section
variable {ops : Array Oper} {i : Nat} {o : Oper} {a : Act} {w : World}
end
/-- a slice from its i-th byte on -/
def frV (ao : Option Addr) (n cap i : Nat) : Value := .slice (if cap = i then ao else ao.map fun x => x.add i) (n - i) (cap - i)
theorem RdR.from {R : Nat → Prop} {N : Nat} {w : World} {ao : Option Addr} {n cap : Nat} {bs : List Int} (h : RdR R N w (.slice ao n cap) bs) (i : Nat) (hi : i ≤ bs.length) : RdR R N w (frV ao n cap i) (bs.drop i) := by
  have hl := h.1.len
  obtain rfl := hl.1
  refine ⟨?_, fun h0 g hg => ?_, by have := h.2.2; simp; omega⟩
  · unfold frV
    split
    · rename_i e
      have := RdB.tail_at h.1 i hi e
      rwa [show cap - i = 0 by omega]
    · rename_i e
      exact RdB.tail_in h.1 i hi e
  · have hpos : 0 < bs.length := by simp at h0; omega
    refine h.2.1 hpos g ?_
    unfold frV at hg
    cases ao with
    | none => split at hg <;> cases hg
    | some x =>
      split at hg
      · exact hg
      · have hb : (x.add i).block = x.block := by unfold Addr.add; split <;> rfl
        simp only [Option.map_some, Value.ownBlock] at hg ⊢
        rw [← hb]
        exact hg
section
variable {ops : Array Oper} {Q : Exit → Act → World → Prop} {i : Nat} {o : Oper} {a : Act} {w : World}
end
end Go.Proofs.Ytknpapcfhnhheaa

/- Slices of things: one thing in a block of its own, to be appended to; a slice from its k-th thing on. No program here. -/
namespace Go.Gv
open Go Go.RowKit

section
variable {α : Type} {A : Rep α} {e : TypeId} {R E : Nat → Prop} {w : World} {l : List α}
theorem OwS.single {g : Nat} {cs : List Value} {a : α} (hc : Cs w g cs.toArray e) (ha : A.rd (fun k => E k ∧ g ≠ k) w cs a) (hg : R g) : OwS A e R E w (.slice (some ⟨g, 0, none⟩) 1 1) [a] := by
  refine ⟨[cs], rfl, fun i c b hi hb => ?_, ?_, fun g' hg' => by cases hg'; exact hg⟩
  · cases i with
    | zero =>
      simp at hi hb; subst hi hb
      exact A.wid ha fun k hk => ⟨hk.1, fun e => hk.2 (by cases e; rfl)⟩
    | succ i => simp at hi
  · have hl := A.len ha
    have h1 := A.one ha
    refine ⟨by simp [hl], by simpa using h1, .inr ⟨g, 1, cs.toArray, rfl, hc, Nat.le_refl _, by rw [maxLen_val]; omega, by simp [hl], ?_, by simpa using h1⟩⟩
    simp only [List.flatten_cons, List.flatten_nil, List.append_nil, List.length_cons, List.length_nil]
    rw [List.take_of_length_le (by simp [hl])]
/-- a slice from its k-th thing on -/
def frS (sz : Nat) (ao : Option Addr) (n cap i : Nat) : Value := .slice (if cap = i then ao else ao.map fun x => x.add (i * sz)) (n - i) (cap - i)
theorem RdS.from {ao : Option Addr} {n cap : Nat} (h : RdS A R w (.slice ao n cap) l) (k : Nat) (hk : k ≤ l.length) (h0 : 0 < l.length) : RdS A R w (frS A.sz ao n cap k) (l.drop k) := by
  obtain ⟨css, h1, h2, h3, h4⟩ := h
  have hcl := css_len h1 h2 (fun cs a h => A.len h)
  rcases h3.form A.pos with ⟨hz, _⟩ | ⟨g, o, cap', hp, e, g1, g2, g3, g4⟩
  · omega
  · simp only [Value.slice.injEq] at e
    obtain ⟨rfl, rfl, rfl⟩ := e
    have ef : (css.drop k).flatten = css.flatten.drop (k * A.sz) := by
      have h5 : css.flatten = (css.take k).flatten ++ (css.drop k).flatten := by rw [← List.flatten_append, List.take_append_drop]
      have h6 : (css.take k).flatten.length = k * A.sz := by rw [flat_len (fun x hx => hcl x (List.mem_of_mem_take hx))]; congr 1; simp; omega
      rw [h5, ← h6, List.drop_left]
    refine ⟨css.drop k, by simp; omega, fun i cs a hi ha => ?_, ?_, fun _ g' hg' => ?_⟩
    · rw [List.getElem?_drop] at hi ha
      exact h2 _ cs a hi ha
    · unfold frS
      rw [List.length_drop]
      split
      · rename_i ec
        have e1 : css.drop k = [] := List.drop_eq_nil_of_le (by omega)
        rw [e1, show l.length - k = 0 by omega, show cap - k = 0 by omega]
        exact Rd.mk (Nat.le_refl _) (by omega) (by simp) fun j u hu => by simp at hu
      · rename_i ec
        rw [ef, show (some (⟨g, o, none⟩ : Addr)).map (fun x => x.add (k * A.sz)) = some ⟨g, o + k * A.sz, none⟩ from congrArg some (add_mk _ _ _)]
        refine Rd.mk (by omega) (by omega) (by rw [List.length_drop, g3, Nat.sub_mul]) fun j u hu => ?_
        rw [List.getElem?_drop] at hu
        rw [Nat.add_assoc]
        exact g4 _ _ hu
    · have : g' = g := by
        unfold frS at hg'
        split at hg'
        · cases hg'; rfl
        · simp only [Option.map_some, add_mk, Value.ownBlock] at hg'
          cases hg'; rfl
      subst this
      exact h4 (by omega) _ rfl
end
end Go.Gv

/- Equality of commitments, names and signatures. -/
namespace Go.Proofs.Ytknpapcfhnhheaa
open Go Go.RowKit Go.Gv
theorem size_run {P : Program} {T : TypeId} {n : Nat} (h : (P.info? T).map (·.size) = some n) (w : World) : (sizeOf T).run P w = .ok n w := by
  cases hq : P.info? T with
  | none => rw [hq] at h; cases h
  | some i => rw [hq] at h; simp [sizeOf, typeInfo, hq]; exact Option.some.inj h
theorem part_agg {P : Program} {T : TypeId} {n : Nat} {d : TypeDesc} (hu : P.underlying T = some d) (hd : aggDesc d = true) (h : (P.info? T).map (·.size) = some n) (cs : Array Value) (off : Nat) (w : World) : (part T cs off).run P w = .ok (.agg (cs.extract off (off + n))) w := by
  have hagg : (isAgg T).run P w = .ok true w := by
    unfold isAgg
    rw [Sem.run_bind, run_underlying hu w]
    cases d <;> simp_all [aggDesc]
  simp [part, hagg, size_run h]
theorem part_one {P : Program} {T : TypeId} {d : TypeDesc} (hu : P.underlying T = some d) (hd : aggDesc d = false) {cs : Array Value} {off : Nat} {v : Value} (hv : cs[off]? = some v) (w : World) : (part T cs off).run P w = .ok v w := by
  have hagg : (isAgg T).run P w = .ok false w := by
    unfold isAgg
    rw [Sem.run_bind, run_underlying hu w]
    cases d <;> simp_all [aggDesc]
  simp [part, hagg, hv]
end Go.Proofs.Ytknpapcfhnhheaa

/- Equality of flat things (all cells are ints): they are equal where their cells are. -/
namespace Go.Proofs.Ytknpapcfhnhheaa
open Go Go.RowKit Go.Gv

/-- cells that are ints of these kinds -/
def KI : List IntKind → List Value → Prop
  | [], [] => True
  | k :: ks, v :: vs => (∃ a, v = .int k a) ∧ KI ks vs
  | _, _ => False
theorem KI.len : ∀ {ks : List IntKind} {vs : List Value}, KI ks vs → vs.length = ks.length
  | [], [], _ => rfl
  | k :: ks, v :: vs, h => by simp [KI.len h.2]
  | [], v :: vs, h => h.elim
  | k :: ks, [], h => h.elim
theorem KI.append : ∀ {ks ks' : List IntKind} {a b : List Value}, KI ks a → KI ks' b → KI (ks ++ ks') (a ++ b)
  | [], ks', [], b, _, h => h
  | k :: ks, ks', v :: vs, b, h, h' => ⟨h.1, KI.append h.2 h'⟩
  | [], _, v :: vs, _, h, _ => h.elim
  | k :: ks, _, [], _, h, _ => h.elim
theorem KI.split : ∀ {ks ks' : List IntKind} {vs : List Value}, KI (ks ++ ks') vs → ∃ a b, vs = a ++ b ∧ KI ks a ∧ KI ks' b
  | [], ks', vs, h => ⟨[], vs, rfl, trivial, h⟩
  | k :: ks, ks', v :: vs, h => by
    obtain ⟨a, b, rfl, h1, h2⟩ := KI.split h.2
    exact ⟨v :: a, b, rfl, ⟨h.1, h1⟩, h2⟩
  | k :: ks, _, [], h => h.elim
theorem KI.ints {k : IntKind} : ∀ {n : Nat} {h : List Int}, h.length = n → KI (List.replicate n k) (h.map (Value.int k))
  | 0, [], _ => trivial
  | n + 1, a :: h, e => ⟨⟨a, rfl⟩, KI.ints (by simpa using e)⟩
theorem KI.rep {k : IntKind} : ∀ {n : Nat} {vs : List Value}, KI (List.replicate n k) vs → ∃ h : List Int, h.length = n ∧ vs = h.map (Value.int k)
  | 0, [], _ => ⟨[], rfl, rfl⟩
  | 0, v :: vs, h => h.elim
  | n + 1, [], h => h.elim
  | n + 1, v :: vs, h => by
    obtain ⟨a, rfl⟩ := h.1
    obtain ⟨l, e, rfl⟩ := KI.rep h.2
    exact ⟨a :: l, by simp [e], rfl⟩
def EqW (P : Program) (d : Nat) (T : TypeId) (ks : List IntKind) : Prop := ∀ (xs ys : List Value) (c : Bool) (w : World), KI ks xs → KI ks ys → (c = true ↔ xs = ys) → (Op.equalIn d T (.agg xs.toArray) (.agg ys.toArray)).run P w = .ok c w
def EqT (P : Program) (d : Nat) (T : TypeId) (ks : List IntKind) : Prop := ∀ (A B : List Value) (off : Nat) (xs ys : List Value) (c : Bool) (w : World), KI ks xs → KI ks ys → (c = true ↔ xs = ys) → (A.drop off).take ks.length = xs → (B.drop off).take ks.length = ys →
  ∃ x y, (part T A.toArray off).run P w = .ok x w ∧ (part T B.toArray off).run P w = .ok y w ∧ (Op.equalIn d T x y).run P w = .ok c w
theorem ex_bool (p : Prop) : ∃ c : Bool, (c = true ↔ p) := by
  rcases Classical.em p with h | h
  · exact ⟨true, by simp [h]⟩
  · exact ⟨false, by simp [h]⟩
theorem bool_of {c d : Bool} (h : c = true ↔ d = true) : c = d := by cases c <;> cases d <;> simp_all
variable {P : Program}
theorem drop_one {A : List Value} {off : Nat} {v : Value} (h : (A.drop off).take 1 = [v]) : A.toArray[off]? = some v := by
  have h1 : ((A.drop off).take 1)[0]? = some v := by rw [h]; rfl
  rw [List.getElem?_take, List.getElem?_drop] at h1
  simpa using h1
theorem EqT.int {d : Nat} {T : TypeId} {k : IntKind} (hu : P.underlying T = some (.int k)) : EqT P (d + 1) T [k] := by
  intro A B off xs ys c w hx hy hc ha hb
  match xs, ys, hx, hy with
  | [x], [y], ⟨⟨a, e⟩, _⟩, ⟨⟨b, e'⟩, _⟩ =>
    subst e e'
    refine ⟨_, _, part_one hu rfl (drop_one ha) w, part_one hu rfl (drop_one hb) w, ?_⟩
    rw [run_equalIn_int w d T k k a b hu, show (a == b) = c from bool_of (by rw [hc]; simp)]
theorem EqT.agg {d : Nat} {T : TypeId} {ks : List IntKind} {de : TypeDesc} (h : EqW P d T ks) (hu : P.underlying T = some de) (hd : aggDesc de = true) (hs : (P.info? T).map (·.size) = some ks.length) : EqT P d T ks := by
  intro A B off xs ys c w hx hy hc ha hb
  have e : ∀ (A : List Value), A.toArray.extract off (off + ks.length) = ((A.drop off).take ks.length).toArray := fun A => by
    apply Array.ext'
    simp [List.extract_eq_take_drop, Nat.add_sub_cancel_left]
  have p1 := part_agg hu hd hs A.toArray off w
  have p2 := part_agg hu hd hs B.toArray off w
  rw [e, ha] at p1
  rw [e, hb] at p2
  exact ⟨_, _, p1, p2, h xs ys c w hx hy hc⟩
theorem EqW.ints {d : Nat} {T e : TypeId} {n : Nat} {k : IntKind} (ht : P.underlying T = some (.array n e)) (he : P.underlying e = some (.int k)) (hs : (P.info? e).map (·.size) = some 1) : EqW P (d + 2) T (List.replicate n k) := by
  intro xs ys c w hx hy hc
  obtain ⟨a, ha, rfl⟩ := hx.rep
  obtain ⟨b, hb, rfl⟩ := hy.rep
  rw [run_equalIn_ints w d T e n ht he hs a b ha hb]
  rw [show decide (a = b) = c from bool_of (by
    rw [hc, decide_eq_true_iff]
    exact ⟨fun h => by rw [h], fun h => (List.map_inj_right (fun x y h => by injection h)).1 h⟩)]
def FsE (P : Program) (d : Nat) : Nat → List Field → List (List IntKind) → Prop
  | _, [], [] => True
  | off, f :: fs, ks :: l => f.name ≠ "_" ∧ f.offset = off ∧ EqT P d f.type ks ∧ FsE P d (off + ks.length) fs l
  | _, _, _ => False
theorem eqFields_all {d : Nat} : ∀ (fs : List Field) (l : List (List IntKind)) (pre pre' xs ys : List Value) (c : Bool) (w : World), FsE P d pre.length fs l → pre'.length = pre.length → KI l.flatten xs → KI l.flatten ys → (c = true ↔ xs = ys) →
    (Op.eqFields d (pre ++ xs).toArray (pre' ++ ys).toArray fs).run P w = .ok c w
  | [], [], pre, pre', xs, ys, c, w, _, _, hx, hy, hc => by
    match xs, ys, hx, hy, hc with
    | [], [], _, _, hc => obtain rfl : c = true := hc.2 rfl; simp [Op.eqFields]
  | [], _ :: _, _, _, _, _, _, _, h, _, _, _, _ => h.elim
  | _ :: _, [], _, _, _, _, _, _, h, _, _, _, _ => h.elim
  | f :: fs, ks :: l, pre, pre', xs, ys, c, w, ⟨h1, h2, h3, h4⟩, hp, hx, hy, hc => by
    obtain ⟨a, b, rfl, ha, hb⟩ := KI.split (by simpa using hx)
    obtain ⟨a', b', rfl, ha', hb'⟩ := KI.split (by simpa using hy)
    have la := ha.len
    have la' := ha'.len
    obtain ⟨c1, hc1⟩ := ex_bool (a = a')
    obtain ⟨c2, hc2⟩ := ex_bool (b = b')
    obtain ⟨x, y, p1, p2, q⟩ := h3 (pre ++ (a ++ b)) (pre' ++ (a' ++ b')) pre.length a a' c1 w ha ha' hc1 (by rw [List.drop_left, ← la, List.take_left]) (by rw [← hp, List.drop_left, ← la', List.take_left])
    have ih := eqFields_all fs l (pre ++ a) (pre' ++ a') b b' c2 w (by rw [List.length_append, la]; exact h4) (by rw [List.length_append, List.length_append, hp, la, la']) hb hb' hc2
    rw [List.append_assoc, List.append_assoc] at ih
    unfold Op.eqFields
    rw [if_pos h1, h2]
    simp only [Sem.run_bind, p1, p2, q, Result.andThen_ok]
    have hcc : c = (c1 && c2) := bool_of (by
      rw [hc, Bool.and_eq_true, hc1, hc2]
      exact ⟨fun h => List.append_inj h (by rw [la, la']), fun h => by rw [h.1, h.2]⟩)
    subst hcc
    cases c1
    · simp
    · simp [ih]
theorem EqW.struct {d : Nat} {T : TypeId} {fs : Array Field} (l : List (List IntKind)) (hu : P.underlying T = some (.struct fs)) (hs : P.stoodInHeld T = false) (hl : FsE P d 0 fs.toList l) : EqW P (d + 1) T l.flatten := by
  intro xs ys c w hx hy hc
  have hf : P.fieldsOf T = fs := by unfold Program.fieldsOf; rw [hu]
  rw [run_equalIn_struct w d T xs.toArray ys.toArray (by rw [hf]; exact hu) hs, hf]
  exact eqFields_all fs.toList l [] [] xs ys c w hl rfl hx hy hc
theorem EqW.run {T : TypeId} {ks : List IntKind} (h : EqW P 10000 T ks) {xs ys : List Value} (hx : KI ks xs) (hy : KI ks ys) {c : Bool} (hc : c = true ↔ xs = ys) (w : World) : (binOp .eql T (.agg xs.toArray) (.agg ys.toArray)).run P w = .ok (.bool (c)) w := by
  rw [run_eql_struct, h xs ys c w hx hy hc]
  rfl
theorem EqW.runN {T : TypeId} {ks : List IntKind} (h : EqW P 10000 T ks) {xs ys : List Value} (hx : KI ks xs) (hy : KI ks ys) {c : Bool} (hc : c = true ↔ xs = ys) (w : World) : (binOp .neq T (.agg xs.toArray) (.agg ys.toArray)).run P w = .ok (.bool (!c)) w := by
  rw [run_neq_struct, h xs ys c w hx hy hc]
  rfl
abbrev kHash : List IntKind := List.replicate 32 .u8
theorem eqT_int {d : Nat} : EqT Try.prog (d + 1) 3 [.i64] := EqT.int Try.underlying3
theorem eqT_u64 {d : Nat} : EqT Try.prog (d + 1) 26 [.u64] := EqT.int Try.underlying26
theorem eqT_hash {d : Nat} : EqT Try.prog (d + 2) 25 kHash := EqT.agg (EqW.ints Try.underlying25 Try.underlying5 (by kernel_rfl)) Try.underlying25 rfl (by kernel_rfl)
theorem eqW_name {d : Nat} : EqW Try.prog (d + 2) 23 [.i64, .i64] := EqW.struct [[.i64], [.i64]] Try.underlying23 (by kernel_rfl) ⟨by decide, rfl, eqT_int, by decide, rfl, eqT_int, trivial⟩
theorem eqT_name {d : Nat} : EqT Try.prog (d + 2) 23 [.i64, .i64] := EqT.agg eqW_name Try.underlying23 rfl (by kernel_rfl)
theorem eqW_sig {d : Nat} : EqW Try.prog (d + 2) 28 [.i64, .i64] := EqW.struct [[.i64], [.i64]] Try.underlying28 (by kernel_rfl) ⟨by decide, rfl, eqT_int, by decide, rfl, eqT_int, trivial⟩
theorem eqT_sig {d : Nat} : EqT Try.prog (d + 2) 28 [.i64, .i64] := EqT.agg eqW_sig Try.underlying28 rfl (by kernel_rfl)
theorem eqW_stamp {d : Nat} : EqW Try.prog (d + 3) 30 [[.i64], [.i64, .i64], kHash, [.u64], [.i64, .i64]].flatten :=
  EqW.struct [[.i64], [.i64, .i64], kHash, [.u64], [.i64, .i64]] Try.underlying30 (by kernel_rfl) ⟨by decide, rfl, eqT_int, by decide, rfl, eqT_name, by decide, rfl, eqT_hash, by decide, rfl, eqT_u64, by decide, rfl, eqT_sig, trivial⟩
theorem eqW_deny {d : Nat} : EqW Try.prog (d + 3) 34 [[.i64], [.i64], [.i64, .i64]].flatten :=
  EqW.struct [[.i64], [.i64], [.i64, .i64]] Try.underlying34 (by kernel_rfl) ⟨by decide, rfl, eqT_int, by decide, rfl, eqT_int, by decide, rfl, eqT_sig, trivial⟩
theorem eqW_commit {d : Nat} : EqW Try.prog (d + 3) 49 [[.i64, .i64], kHash, [.i64], [.i64, .i64]].flatten :=
  EqW.struct [[.i64, .i64], kHash, [.i64], [.i64, .i64]] Try.underlying49 (by kernel_rfl) ⟨by decide, rfl, eqT_name, by decide, rfl, eqT_hash, by decide, rfl, eqT_int, by decide, rfl, eqT_sig, trivial⟩
theorem ki_hash {h : List Int} (e : h.length = 32) : KI kHash (h.map bv) := KI.ints e
theorem ki_st {x : St} (h : x.OK) : KI [[.i64], [.i64, .i64], kHash, [.u64], [.i64, .i64]].flatten x.cells := by
  have := KI.append (ks := [.i64, .i64, .i64]) (a := [.int .i64 x.rp, .int .i64 x.cl, .int .i64 x.sq]) ⟨⟨_, rfl⟩, ⟨_, rfl⟩, ⟨_, rfl⟩, trivial⟩ (KI.append (ki_hash h.h.1) (ks' := [.u64, .i64, .i64]) (b := [.int .u64 (x.tm : Nat), .int .i64 x.sb, .int .i64 x.mr]) ⟨⟨_, rfl⟩, ⟨_, rfl⟩, ⟨_, rfl⟩, trivial⟩)
  exact this
theorem ki_dn (x : Dn) : KI [[.i64], [.i64], [.i64, .i64]].flatten x.cells := ⟨⟨_, rfl⟩, ⟨_, rfl⟩, ⟨_, rfl⟩, ⟨_, rfl⟩, trivial⟩
theorem ki_cm {x : Cm} (h : x.h.length = 32) : KI [[.i64, .i64], kHash, [.i64], [.i64, .i64]].flatten x.cells := by
  have := KI.append (ks := [.i64, .i64]) (a := [.int .i64 x.cl, .int .i64 x.sq]) ⟨⟨_, rfl⟩, ⟨_, rfl⟩, trivial⟩ (KI.append (ki_hash h) (ks' := [.i64, .i64, .i64]) (b := [.int .i64 x.ln, .int .i64 x.sb, .int .i64 x.mr]) ⟨⟨_, rfl⟩, ⟨_, rfl⟩, ⟨_, rfl⟩, trivial⟩)
  exact this
end Go.Proofs.Ytknpapcfhnhheaa
