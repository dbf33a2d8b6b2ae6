/- Texts that are built one behind the other: XGt1, XGt2. No condition. -/
import Derived.Test.YtknpapcfhnhheaaHb6
/- Small parts of messages, read. -/
set_option maxRecDepth 100000
set_option linter.unusedVariables false
namespace Go.Proofs.Ytknpapcfhnhheaa
open Go Go.RowKit Go.Gv

set_option maxHeartbeats 2000000 in
theorem cSig_Q : GetsF 125 118 (fun x : Int × Int => [.int .i64 x.1, .int .i64 x.2]) gSig := by
  intro R r s w hR hB
  have HRD := Lib.hid hR
  have HBR := Lib.hid hB
  have HBY := hid hR.bytes
  clear hR hB
  go_enter Try.func118, Try.ntmps118
  go_upto_region 1 with (fail)
  obtain ⟨w1, hw1⟩ : ∃ zz, zz = (w.alloc (.cells #[.int .i64 0, .int .i64 0] 28)) := ⟨_, rfl⟩
  change Code.wp _ _ _ _ (w.alloc (.cells #[.int .i64 0, .int .i64 0] 28))
  rw [← hw1]
  have HB2 := hid (show Cs w1 (w.heap.size) #[.int .i64 0, .int .i64 0] 28 by rw [hw1]; exact Cs.new _ _ _)
  have hm : Mod (fun _ => False) w w1 := by rw [hw1]; exact (Mod.refl _ _).alloc _
  have HM0 := hid (show Mod (fun k => (R k)) w w1 from hm.mono (fun _ _ h => h.elim))
  have hs1 : w1.heap.size = w.heap.size + 1 := by rw [hw1]; simp
  have Hx1 := hid (HRD.out.mod hm (fun _ _ h => h))
  clear HRD
  clear hw1 hm
  go_upto_region 1 with (fail)
  generalize ha0 : Act.mk _ _ = a0
  have oe0 : a0.eval (.tmp 0) = .pointer (some ⟨r, 0, none⟩) := by rw [← ha0]; rfl
  have oe2 : a0.eval (.tmp 2) = .pointer (some ⟨w.heap.size, 0, none⟩) := by rw [← ha0]; rfl
  have hsz0 : a0.tmps.size = 8 := by rw [← ha0]; rfl
  have HA0 := hid ha0
  clear ha0
  refine wp_region_S 8 hsz0 [3, 4, 5, 6, 7, 13] [0, 1, 2, 3, 4, 5] ?_
  refine QSeq.pure rfl (.pointer (some ⟨r, 0, none⟩)) (fun E => ex_move rfl (E.v oe0)) ?_
  refine QSeq.go fun act E => ?_
  refine qc_callF (args := #[.pointer (some ⟨r, 0, none⟩), .int .i64 1099511627776]) rfl (wanted_none rfl) rfl Try.func115 (args2 (E.d 0 0) rfl) (cI_Q Hx1.out) ?_
  rintro e u1_1 ⟨rfl, qrd, hm⟩
  refine ⟨_, rfl, ?_⟩
  have Hx2 := hid qrd
  have zu1_1 := hm.size
  have Cx3 := hid (show Mod (fun k => (R k)) w1 u1_1 from hm)
  clear hm
  clear act E qrd Hx1
  refine QSeq.pure rfl (.pointer (some ⟨r, 0, none⟩)) (fun E => ex_move rfl (E.v oe0)) ?_
  refine QSeq.go fun act E => ?_
  refine qc_callF (args := #[.pointer (some ⟨r, 0, none⟩), .int .i64 1099511627776]) rfl (wanted_none rfl) rfl Try.func115 (args2 (E.d 2 0) rfl) (cI_Q Hx2.out) ?_
  rintro e u1_3 ⟨rfl, qrd, hm⟩
  refine ⟨_, rfl, ?_⟩
  have Hx4 := hid qrd
  have zu1_3 := hm.size
  have HMu1_3 := hid hm
  have Cx5 := hid (Mod.goS (S' := (fun k => (R k))) Cx3.out hm (fun _ h => h) (by intro k h0 h2; exact h2))
  clear hm Cx3
  clear act E qrd Hx2
  refine QSeq.go fun act E => ?_
  refine qc_run rfl (wanted_none rfl) (v := .agg #[.int .i64 (gSig s).1.1, .int .i64 (gSig s).1.2]) (ex_build rfl (z := [.int .i64 0, .int .i64 0]) (places := [(0, 1), (1, 1)]) (by kernel_rfl) (parts := [(0, .int .i64 (gI s).1), (1, .int .i64 (gI (gI s).2).1)]) (by simp only [List.map_toArray, List.map_cons, List.map_nil, show act.eval (.tmp 4) = .int .i64 (gI s).1 from (E.d 1 2), show act.eval (.tmp 6) = .int .i64 (gI (gI s).2).1 from (E.d 3 0)]; try rfl) (r := [.int .i64 (gSig s).1.1, .int .i64 (gSig s).1.2]) (by exact laid_segs (ns := [1, 1]) rfl [(0, .int .i64 (gI s).1), (1, .int .i64 (gI (gI s).2).1)] [[.int .i64 0], [.int .i64 0]] rfl ⟨rfl, rfl, trivial⟩)) ?_
  clear act E
  refine QSeq.go fun act E => ?_
  refine qc_store rfl (wanted_none rfl) rfl (HB2.out.mod Cx5.out (by intro h2; first | omega | (have hb := HBR.out _ h2; omega))) (off := 0) (vs := ([.int .i64 (gSig s).1.1, .int .i64 (gSig s).1.2])) (by kernel_rfl) (by intro u hu; simp at hu; rcases hu with rfl | rfl <;> rfl) (by simp) (E.v oe2) (by rw [show act.eval ((.tmp 7)) = _ from (E.d 4 0)]; rfl) ?_
  intro u1_5 qc0 hm
  have qB2 : Cs u1_5 (w.heap.size) (([.int .i64 (gSig s).1.1, .int .i64 (gSig s).1.2]) : List Value).toArray 28 := by rw [show lay _ 0 _ = (([.int .i64 (gSig s).1.1, .int .i64 (gSig s).1.2]) : List Value).toArray from lay_whole #[.int .i64 0, .int .i64 0] _ rfl] at qc0; exact qc0
  clear qc0
  have Hx6 := hid qB2
  have zu1_5 := hm.size
  have HMu1_5 := hid hm
  have Cx7 := hid (Mod.goS (S' := (fun k => (R k) ∨ (k = w.heap.size))) Cx5.out hm (fun _ h => Or.inl h) (by intro k h0 h2; exact Or.inr (h2)))
  clear hm Cx5
  clear act E qB2 HB2
  have Hx8 := hid (Hx4.out.mod HMu1_5.out (by intro k h1 h2; have hb := HBR.out k h1; omega))
  clear Hx4 HMu1_3 HMu1_5
  refine QSeq.nil (t' := [_, _, _, _, _, _]) rfl ?_
  have ha0 := HA0.out
  subst ha0
  clear HA0 hsz0 oe0 oe2
  simp only [putAll, Act.put, List.setIfInBounds_toArray, List.set_cons_zero, List.set_cons_succ, List.set_nil]
  go_wp2
  exact bodyPost_ret (results_cellA rfl _ _ w.heap.size ([.int .i64 (gSig s).1.1, .int .i64 (gSig s).1.2]) rfl (fun k u hu => by rw [Hx6.out.cell]; simpa using hu) Try.underlying28 rfl (by kernel_rfl)) rfl ⟨rfl, Hx8.out, (HM0.out.trans Cx7.out (by intro k h1 h2; rcases h2 with h2 | h2 <;> first | exact h2 | omega | (have hb := HBR.out k h2; omega)))⟩
set_option maxHeartbeats 2000000 in
theorem cName_Q : GetsF 125 143 (fun x : Int × Int => [.int .i64 x.1, .int .i64 x.2]) gSig := by
  intro R r s w hR hB
  have HRD := Lib.hid hR
  have HBR := Lib.hid hB
  have HBY := hid hR.bytes
  clear hR hB
  go_enter Try.func143, Try.ntmps143
  go_upto_region 1 with (fail)
  obtain ⟨w1, hw1⟩ : ∃ zz, zz = (w.alloc (.cells #[.int .i64 0, .int .i64 0] 23)) := ⟨_, rfl⟩
  change Code.wp _ _ _ _ (w.alloc (.cells #[.int .i64 0, .int .i64 0] 23))
  rw [← hw1]
  have HB2 := hid (show Cs w1 (w.heap.size) #[.int .i64 0, .int .i64 0] 23 by rw [hw1]; exact Cs.new _ _ _)
  have hm : Mod (fun _ => False) w w1 := by rw [hw1]; exact (Mod.refl _ _).alloc _
  have HM0 := hid (show Mod (fun k => (R k)) w w1 from hm.mono (fun _ _ h => h.elim))
  have hs1 : w1.heap.size = w.heap.size + 1 := by rw [hw1]; simp
  have Hx1 := hid (HRD.out.mod hm (fun _ _ h => h))
  clear HRD
  clear hw1 hm
  go_upto_region 1 with (fail)
  generalize ha0 : Act.mk _ _ = a0
  have oe0 : a0.eval (.tmp 0) = .pointer (some ⟨r, 0, none⟩) := by rw [← ha0]; rfl
  have oe2 : a0.eval (.tmp 2) = .pointer (some ⟨w.heap.size, 0, none⟩) := by rw [← ha0]; rfl
  have hsz0 : a0.tmps.size = 8 := by rw [← ha0]; rfl
  have HA0 := hid ha0
  clear ha0
  refine wp_region_S 8 hsz0 [3, 4, 5, 6, 7, 13] [0, 1, 2, 3, 4, 5] ?_
  refine QSeq.pure rfl (.pointer (some ⟨r, 0, none⟩)) (fun E => ex_move rfl (E.v oe0)) ?_
  refine QSeq.go fun act E => ?_
  refine qc_callF (args := #[.pointer (some ⟨r, 0, none⟩), .int .i64 1099511627776]) rfl (wanted_none rfl) rfl Try.func115 (args2 (E.d 0 0) rfl) (cI_Q Hx1.out) ?_
  rintro e u1_1 ⟨rfl, qrd, hm⟩
  refine ⟨_, rfl, ?_⟩
  have Hx2 := hid qrd
  have zu1_1 := hm.size
  have Cx3 := hid (show Mod (fun k => (R k)) w1 u1_1 from hm)
  clear hm
  clear act E qrd Hx1
  refine QSeq.pure rfl (.pointer (some ⟨r, 0, none⟩)) (fun E => ex_move rfl (E.v oe0)) ?_
  refine QSeq.go fun act E => ?_
  refine qc_callF (args := #[.pointer (some ⟨r, 0, none⟩), .int .i64 1099511627776]) rfl (wanted_none rfl) rfl Try.func115 (args2 (E.d 2 0) rfl) (cI_Q Hx2.out) ?_
  rintro e u1_3 ⟨rfl, qrd, hm⟩
  refine ⟨_, rfl, ?_⟩
  have Hx4 := hid qrd
  have zu1_3 := hm.size
  have HMu1_3 := hid hm
  have Cx5 := hid (Mod.goS (S' := (fun k => (R k))) Cx3.out hm (fun _ h => h) (by intro k h0 h2; exact h2))
  clear hm Cx3
  clear act E qrd Hx2
  refine QSeq.go fun act E => ?_
  refine qc_run rfl (wanted_none rfl) (v := .agg #[.int .i64 (gSig s).1.1, .int .i64 (gSig s).1.2]) (ex_build rfl (z := [.int .i64 0, .int .i64 0]) (places := [(0, 1), (1, 1)]) (by kernel_rfl) (parts := [(0, .int .i64 (gI s).1), (1, .int .i64 (gI (gI s).2).1)]) (by simp only [List.map_toArray, List.map_cons, List.map_nil, show act.eval (.tmp 4) = .int .i64 (gI s).1 from (E.d 1 2), show act.eval (.tmp 6) = .int .i64 (gI (gI s).2).1 from (E.d 3 0)]; try rfl) (r := [.int .i64 (gSig s).1.1, .int .i64 (gSig s).1.2]) (by exact laid_segs (ns := [1, 1]) rfl [(0, .int .i64 (gI s).1), (1, .int .i64 (gI (gI s).2).1)] [[.int .i64 0], [.int .i64 0]] rfl ⟨rfl, rfl, trivial⟩)) ?_
  clear act E
  refine QSeq.go fun act E => ?_
  refine qc_store rfl (wanted_none rfl) rfl (HB2.out.mod Cx5.out (by intro h2; first | omega | (have hb := HBR.out _ h2; omega))) (off := 0) (vs := ([.int .i64 (gSig s).1.1, .int .i64 (gSig s).1.2])) (by kernel_rfl) (by intro u hu; simp at hu; rcases hu with rfl | rfl <;> rfl) (by simp) (E.v oe2) (by rw [show act.eval ((.tmp 7)) = _ from (E.d 4 0)]; rfl) ?_
  intro u1_5 qc0 hm
  have qB2 : Cs u1_5 (w.heap.size) (([.int .i64 (gSig s).1.1, .int .i64 (gSig s).1.2]) : List Value).toArray 23 := by rw [show lay _ 0 _ = (([.int .i64 (gSig s).1.1, .int .i64 (gSig s).1.2]) : List Value).toArray from lay_whole #[.int .i64 0, .int .i64 0] _ rfl] at qc0; exact qc0
  clear qc0
  have Hx6 := hid qB2
  have zu1_5 := hm.size
  have HMu1_5 := hid hm
  have Cx7 := hid (Mod.goS (S' := (fun k => (R k) ∨ (k = w.heap.size))) Cx5.out hm (fun _ h => Or.inl h) (by intro k h0 h2; exact Or.inr (h2)))
  clear hm Cx5
  clear act E qB2 HB2
  have Hx8 := hid (Hx4.out.mod HMu1_5.out (by intro k h1 h2; have hb := HBR.out k h1; omega))
  clear Hx4 HMu1_3 HMu1_5
  refine QSeq.nil (t' := [_, _, _, _, _, _]) rfl ?_
  have ha0 := HA0.out
  subst ha0
  clear HA0 hsz0 oe0 oe2
  simp only [putAll, Act.put, List.setIfInBounds_toArray, List.set_cons_zero, List.set_cons_succ, List.set_nil]
  go_wp2
  exact bodyPost_ret (results_cellA rfl _ _ w.heap.size ([.int .i64 (gSig s).1.1, .int .i64 (gSig s).1.2]) rfl (fun k u hu => by rw [Hx6.out.cell]; simpa using hu) Try.underlying23 rfl (by kernel_rfl)) rfl ⟨rfl, Hx8.out, (HM0.out.trans Cx7.out (by intro k h1 h2; rcases h2 with h2 | h2 <;> first | exact h2 | omega | (have hb := HBR.out k h2; omega)))⟩
set_option maxHeartbeats 4000000 in
theorem cCm_Q : GetsF 125 109 Cm.cells gCm := by
  intro R r s w hR hB
  have HRD := Lib.hid hR
  have HBR := Lib.hid hB
  have HBY := hid hR.bytes
  clear hR hB
  go_enter Try.func109, Try.ntmps109
  go_upto_region 1 with (fail)
  obtain ⟨w1, hw1⟩ : ∃ zz, zz = (w.alloc (.cells #[.int .i64 0, .int .i64 0, .int .u8 0, .int .u8 0, .int .u8 0, .int .u8 0, .int .u8 0, .int .u8 0, .int .u8 0, .int .u8 0, .int .u8 0, .int .u8 0, .int .u8 0, .int .u8 0, .int .u8 0, .int .u8 0, .int .u8 0, .int .u8 0, .int .u8 0, .int .u8 0, .int .u8 0, .int .u8 0, .int .u8 0, .int .u8 0, .int .u8 0, .int .u8 0, .int .u8 0, .int .u8 0, .int .u8 0, .int .u8 0, .int .u8 0, .int .u8 0, .int .u8 0, .int .u8 0, .int .i64 0, .int .i64 0, .int .i64 0] 49)) := ⟨_, rfl⟩
  change Code.wp _ _ _ _ (w.alloc (.cells #[.int .i64 0, .int .i64 0, .int .u8 0, .int .u8 0, .int .u8 0, .int .u8 0, .int .u8 0, .int .u8 0, .int .u8 0, .int .u8 0, .int .u8 0, .int .u8 0, .int .u8 0, .int .u8 0, .int .u8 0, .int .u8 0, .int .u8 0, .int .u8 0, .int .u8 0, .int .u8 0, .int .u8 0, .int .u8 0, .int .u8 0, .int .u8 0, .int .u8 0, .int .u8 0, .int .u8 0, .int .u8 0, .int .u8 0, .int .u8 0, .int .u8 0, .int .u8 0, .int .u8 0, .int .u8 0, .int .i64 0, .int .i64 0, .int .i64 0] 49))
  rw [← hw1]
  have HB2 := hid (show Cs w1 (w.heap.size) #[.int .i64 0, .int .i64 0, .int .u8 0, .int .u8 0, .int .u8 0, .int .u8 0, .int .u8 0, .int .u8 0, .int .u8 0, .int .u8 0, .int .u8 0, .int .u8 0, .int .u8 0, .int .u8 0, .int .u8 0, .int .u8 0, .int .u8 0, .int .u8 0, .int .u8 0, .int .u8 0, .int .u8 0, .int .u8 0, .int .u8 0, .int .u8 0, .int .u8 0, .int .u8 0, .int .u8 0, .int .u8 0, .int .u8 0, .int .u8 0, .int .u8 0, .int .u8 0, .int .u8 0, .int .u8 0, .int .i64 0, .int .i64 0, .int .i64 0] 49 by rw [hw1]; exact Cs.new _ _ _)
  have hm : Mod (fun _ => False) w w1 := by rw [hw1]; exact (Mod.refl _ _).alloc _
  have HM0 := hid (show Mod (fun k => (R k)) w w1 from hm.mono (fun _ _ h => h.elim))
  have hs1 : w1.heap.size = w.heap.size + 1 := by rw [hw1]; simp
  have Hx1 := hid (HRD.out.mod hm (fun _ _ h => h))
  clear HRD
  clear hw1 hm
  go_upto_region 1 with (fail)
  generalize ha0 : Act.mk _ _ = a0
  have oe0 : a0.eval (.tmp 0) = .pointer (some ⟨r, 0, none⟩) := by rw [← ha0]; rfl
  have oe2 : a0.eval (.tmp 2) = .pointer (some ⟨w.heap.size, 0, none⟩) := by rw [← ha0]; rfl
  have hsz0 : a0.tmps.size = 12 := by rw [← ha0]; rfl
  have HA0 := hid ha0
  clear ha0
  refine wp_region_S 12 hsz0 [3, 4, 5, 6, 7, 8, 9, 10, 11, 21] [0, 1, 2, 3, 4, 5, 6, 7, 8, 9] ?_
  refine QSeq.pure rfl (.pointer (some ⟨r, 0, none⟩)) (fun E => ex_move rfl (E.v oe0)) ?_
  refine QSeq.go fun act E => ?_
  refine qc_callF (args := #[.pointer (some ⟨r, 0, none⟩)]) rfl (wanted_none rfl) rfl Try.func143 (args1 (E.d 0 0)) (cName_Q _ _ _ _ Hx1.out (by intro k h1; have hb := HBR.out k h1; omega)) ?_
  rintro e u1_1 ⟨rfl, qrd, hm⟩
  refine ⟨_, rfl, ?_⟩
  have Hx2 := hid qrd
  have zu1_1 := hm.size
  have Cx3 := hid (show Mod (fun k => (R k)) w1 u1_1 from hm)
  clear hm
  clear act E qrd Hx1
  refine QSeq.pure rfl (.pointer (some ⟨r, 0, none⟩)) (fun E => ex_move rfl (E.v oe0)) ?_
  refine QSeq.go fun act E => ?_
  refine qc_callF (args := #[.pointer (some ⟨r, 0, none⟩)]) rfl (wanted_none rfl) rfl Try.func144 (args1 (E.d 2 0)) (RHash_R Hx2.out) ?_
  rintro e u1_3 ⟨rfl, qrd, hm⟩
  refine ⟨_, rfl, ?_⟩
  have Hx4 := hid qrd
  have zu1_3 := hm.size
  have HMu1_3 := hid hm
  have Cx5 := hid (Mod.goS (S' := (fun k => (R k))) Cx3.out hm (fun _ h => h) (by intro k h0 h2; exact h2))
  clear hm Cx3
  clear act E qrd Hx2
  refine QSeq.pure rfl (.pointer (some ⟨r, 0, none⟩)) (fun E => ex_move rfl (E.v oe0)) ?_
  refine QSeq.go fun act E => ?_
  refine qc_callF (args := #[.pointer (some ⟨r, 0, none⟩), .int .i64 1099511627776]) rfl (wanted_none rfl) rfl Try.func115 (args2 (E.d 4 0) rfl) (cI_Q Hx4.out) ?_
  rintro e u1_5 ⟨rfl, qrd, hm⟩
  refine ⟨_, rfl, ?_⟩
  have Hx6 := hid qrd
  have zu1_5 := hm.size
  have HMu1_5 := hid hm
  have Cx7 := hid (Mod.goS (S' := (fun k => (R k))) Cx5.out hm (fun _ h => h) (by intro k h0 h2; exact h2))
  clear hm Cx5
  clear act E qrd Hx4
  refine QSeq.pure rfl (.pointer (some ⟨r, 0, none⟩)) (fun E => ex_move rfl (E.v oe0)) ?_
  refine QSeq.go fun act E => ?_
  refine qc_callF (args := #[.pointer (some ⟨r, 0, none⟩)]) rfl (wanted_none rfl) rfl Try.func118 (args1 (E.d 6 0)) (cSig_Q _ _ _ _ Hx6.out (by intro k h1; have hb := HBR.out k h1; omega)) ?_
  rintro e u1_7 ⟨rfl, qrd, hm⟩
  refine ⟨_, rfl, ?_⟩
  have Hx8 := hid qrd
  have zu1_7 := hm.size
  have HMu1_7 := hid hm
  have Cx9 := hid (Mod.goS (S' := (fun k => (R k))) Cx7.out hm (fun _ h => h) (by intro k h0 h2; exact h2))
  clear hm Cx7
  clear act E qrd Hx6
  refine QSeq.go fun act E => ?_
  refine qc_run rfl (wanted_none rfl) (v := .agg ((gCm s).1.cells : List Value).toArray) (ex_build rfl (z := [.int .i64 0, .int .i64 0, .int .u8 0, .int .u8 0, .int .u8 0, .int .u8 0, .int .u8 0, .int .u8 0, .int .u8 0, .int .u8 0, .int .u8 0, .int .u8 0, .int .u8 0, .int .u8 0, .int .u8 0, .int .u8 0, .int .u8 0, .int .u8 0, .int .u8 0, .int .u8 0, .int .u8 0, .int .u8 0, .int .u8 0, .int .u8 0, .int .u8 0, .int .u8 0, .int .u8 0, .int .u8 0, .int .u8 0, .int .u8 0, .int .u8 0, .int .u8 0, .int .u8 0, .int .u8 0, .int .i64 0, .int .i64 0, .int .i64 0]) (places := [(0, 2), (2, 32), (34, 1), (35, 2)]) (by kernel_rfl) (parts := [(0, .agg #[.int .i64 (gSig s).1.1, .int .i64 (gSig s).1.2]), (1, hv (rHash (gSig s).2).1), (2, .int .i64 (gI (rHash (gSig s).2).2).1), (3, .agg #[.int .i64 (gSig (gI (rHash (gSig s).2).2).2).1.1, .int .i64 (gSig (gI (rHash (gSig s).2).2).2).1.2])]) (by simp only [List.map_toArray, List.map_cons, List.map_nil, show act.eval (.tmp 4) = .agg #[.int .i64 (gSig s).1.1, .int .i64 (gSig s).1.2] from (E.d 1 6), show act.eval (.tmp 6) = hv (rHash (gSig s).2).1 from (E.d 3 4), show act.eval (.tmp 8) = .int .i64 (gI (rHash (gSig s).2).2).1 from (E.d 5 2), show act.eval (.tmp 10) = .agg #[.int .i64 (gSig (gI (rHash (gSig s).2).2).2).1.1, .int .i64 (gSig (gI (rHash (gSig s).2).2).2).1.2] from (E.d 7 0)]; try rfl) (r := (gCm s).1.cells) (by exact laid_segs (ns := [2, 32, 1, 2]) rfl [(0, .agg #[.int .i64 (gSig s).1.1, .int .i64 (gSig s).1.2]), (1, hv (rHash (gSig s).2).1), (2, .int .i64 (gI (rHash (gSig s).2).2).1), (3, .agg #[.int .i64 (gSig (gI (rHash (gSig s).2).2).2).1.1, .int .i64 (gSig (gI (rHash (gSig s).2).2).2).1.2])] [[.int .i64 0, .int .i64 0], [.int .u8 0, .int .u8 0, .int .u8 0, .int .u8 0, .int .u8 0, .int .u8 0, .int .u8 0, .int .u8 0, .int .u8 0, .int .u8 0, .int .u8 0, .int .u8 0, .int .u8 0, .int .u8 0, .int .u8 0, .int .u8 0, .int .u8 0, .int .u8 0, .int .u8 0, .int .u8 0, .int .u8 0, .int .u8 0, .int .u8 0, .int .u8 0, .int .u8 0, .int .u8 0, .int .u8 0, .int .u8 0, .int .u8 0, .int .u8 0, .int .u8 0, .int .u8 0], [.int .i64 0], [.int .i64 0, .int .i64 0]] rfl ⟨rfl, (szv (by rw [List.length_map]; exact rHash_l _)), rfl, rfl, trivial⟩)) ?_
  clear act E
  refine QSeq.go fun act E => ?_
  refine qc_store rfl (wanted_none rfl) rfl (HB2.out.mod Cx9.out (by intro h2; first | omega | (have hb := HBR.out _ h2; omega))) (off := 0) (vs := ((gCm s).1.cells)) (by rw [show ((gCm s).1.cells).length = _ from (Cm.len (rHash_HK (gSig_suf.bytes HBY.out)).1)]; kernel_rfl) (Cm_one _) (by rw [show ((gCm s).1.cells).length = _ from (Cm.len (rHash_HK (gSig_suf.bytes HBY.out)).1)]; decide) (E.v oe2) (by rw [show act.eval ((.tmp 11)) = _ from (E.d 8 0)]; rfl) ?_
  intro u1_9 qc0 hm
  have qB2 : Cs u1_9 (w.heap.size) (((gCm s).1.cells) : List Value).toArray 49 := by rw [show lay _ 0 _ = (((gCm s).1.cells) : List Value).toArray from lay_whole _ _ (by rw [show ((gCm s).1.cells).length = _ from (Cm.len (rHash_HK (gSig_suf.bytes HBY.out)).1)]; rfl)] at qc0; exact qc0
  clear qc0
  have Hx10 := hid qB2
  have zu1_9 := hm.size
  have HMu1_9 := hid hm
  have Cx11 := hid (Mod.goS (S' := (fun k => (R k) ∨ (k = w.heap.size))) Cx9.out hm (fun _ h => Or.inl h) (by intro k h0 h2; exact Or.inr (h2)))
  clear hm Cx9
  clear act E qB2 HB2
  have Hx12 := hid (Hx8.out.mod HMu1_9.out (by intro k h1 h2; have hb := HBR.out k h1; omega))
  clear Hx8 HMu1_3 HMu1_5 HMu1_7 HMu1_9
  refine QSeq.nil (t' := [_, _, _, _, _, _, _, _, _, _]) rfl ?_
  have ha0 := HA0.out
  subst ha0
  clear HA0 hsz0 oe0 oe2
  simp only [putAll, Act.put, List.setIfInBounds_toArray, List.set_cons_zero, List.set_cons_succ, List.set_nil]
  go_wp2
  exact bodyPost_ret (results_cellA rfl _ _ w.heap.size ((gCm s).1.cells) rfl (fun k u hu => by rw [Hx10.out.cell]; simpa using hu) Try.underlying49 rfl (by rw [show ((gCm s).1.cells).length = _ from (Cm.len (rHash_HK (gSig_suf.bytes HBY.out)).1)]; kernel_rfl)) rfl ⟨rfl, Hx12.out, (HM0.out.trans Cx11.out (by intro k h1 h2; rcases h2 with h2 | h2 <;> first | exact h2 | omega | (have hb := HBR.out k h2; omega)))⟩
set_option maxHeartbeats 4000000 in
theorem cSt_Q : GetsF 125 111 St.cells gSt := by
  intro R r s w hR hB
  have HRD := Lib.hid hR
  have HBR := Lib.hid hB
  have HBY := hid hR.bytes
  clear hR hB
  go_enter Try.func111, Try.ntmps111
  go_upto_region 1 with (fail)
  obtain ⟨w1, hw1⟩ : ∃ zz, zz = (w.alloc (.cells #[.int .i64 0, .int .i64 0, .int .i64 0, .int .u8 0, .int .u8 0, .int .u8 0, .int .u8 0, .int .u8 0, .int .u8 0, .int .u8 0, .int .u8 0, .int .u8 0, .int .u8 0, .int .u8 0, .int .u8 0, .int .u8 0, .int .u8 0, .int .u8 0, .int .u8 0, .int .u8 0, .int .u8 0, .int .u8 0, .int .u8 0, .int .u8 0, .int .u8 0, .int .u8 0, .int .u8 0, .int .u8 0, .int .u8 0, .int .u8 0, .int .u8 0, .int .u8 0, .int .u8 0, .int .u8 0, .int .u8 0, .int .u64 0, .int .i64 0, .int .i64 0] 30)) := ⟨_, rfl⟩
  change Code.wp _ _ _ _ (w.alloc (.cells #[.int .i64 0, .int .i64 0, .int .i64 0, .int .u8 0, .int .u8 0, .int .u8 0, .int .u8 0, .int .u8 0, .int .u8 0, .int .u8 0, .int .u8 0, .int .u8 0, .int .u8 0, .int .u8 0, .int .u8 0, .int .u8 0, .int .u8 0, .int .u8 0, .int .u8 0, .int .u8 0, .int .u8 0, .int .u8 0, .int .u8 0, .int .u8 0, .int .u8 0, .int .u8 0, .int .u8 0, .int .u8 0, .int .u8 0, .int .u8 0, .int .u8 0, .int .u8 0, .int .u8 0, .int .u8 0, .int .u8 0, .int .u64 0, .int .i64 0, .int .i64 0] 30))
  rw [← hw1]
  have HB2 := hid (show Cs w1 (w.heap.size) #[.int .i64 0, .int .i64 0, .int .i64 0, .int .u8 0, .int .u8 0, .int .u8 0, .int .u8 0, .int .u8 0, .int .u8 0, .int .u8 0, .int .u8 0, .int .u8 0, .int .u8 0, .int .u8 0, .int .u8 0, .int .u8 0, .int .u8 0, .int .u8 0, .int .u8 0, .int .u8 0, .int .u8 0, .int .u8 0, .int .u8 0, .int .u8 0, .int .u8 0, .int .u8 0, .int .u8 0, .int .u8 0, .int .u8 0, .int .u8 0, .int .u8 0, .int .u8 0, .int .u8 0, .int .u8 0, .int .u8 0, .int .u64 0, .int .i64 0, .int .i64 0] 30 by rw [hw1]; exact Cs.new _ _ _)
  have hm : Mod (fun _ => False) w w1 := by rw [hw1]; exact (Mod.refl _ _).alloc _
  have HM0 := hid (show Mod (fun k => (R k)) w w1 from hm.mono (fun _ _ h => h.elim))
  have hs1 : w1.heap.size = w.heap.size + 1 := by rw [hw1]; simp
  have Hx1 := hid (HRD.out.mod hm (fun _ _ h => h))
  clear HRD
  clear hw1 hm
  go_upto_region 1 with (fail)
  generalize ha0 : Act.mk _ _ = a0
  have oe0 : a0.eval (.tmp 0) = .pointer (some ⟨r, 0, none⟩) := by rw [← ha0]; rfl
  have oe2 : a0.eval (.tmp 2) = .pointer (some ⟨w.heap.size, 0, none⟩) := by rw [← ha0]; rfl
  have hsz0 : a0.tmps.size = 14 := by rw [← ha0]; rfl
  have HA0 := hid ha0
  clear ha0
  refine wp_region_S 14 hsz0 [3, 4, 5, 6, 7, 8, 9, 10, 11, 12, 13, 25] [0, 1, 2, 3, 4, 5, 6, 7, 8, 9, 10, 11] ?_
  refine QSeq.pure rfl (.pointer (some ⟨r, 0, none⟩)) (fun E => ex_move rfl (E.v oe0)) ?_
  refine QSeq.go fun act E => ?_
  refine qc_callF (args := #[.pointer (some ⟨r, 0, none⟩), .int .i64 1099511627776]) rfl (wanted_none rfl) rfl Try.func115 (args2 (E.d 0 0) rfl) (cI_Q Hx1.out) ?_
  rintro e u1_1 ⟨rfl, qrd, hm⟩
  refine ⟨_, rfl, ?_⟩
  have Hx2 := hid qrd
  have zu1_1 := hm.size
  have Cx3 := hid (show Mod (fun k => (R k)) w1 u1_1 from hm)
  clear hm
  clear act E qrd Hx1
  refine QSeq.pure rfl (.pointer (some ⟨r, 0, none⟩)) (fun E => ex_move rfl (E.v oe0)) ?_
  refine QSeq.go fun act E => ?_
  refine qc_callF (args := #[.pointer (some ⟨r, 0, none⟩)]) rfl (wanted_none rfl) rfl Try.func143 (args1 (E.d 2 0)) (cName_Q _ _ _ _ Hx2.out (by intro k h1; have hb := HBR.out k h1; omega)) ?_
  rintro e u1_3 ⟨rfl, qrd, hm⟩
  refine ⟨_, rfl, ?_⟩
  have Hx4 := hid qrd
  have zu1_3 := hm.size
  have HMu1_3 := hid hm
  have Cx5 := hid (Mod.goS (S' := (fun k => (R k))) Cx3.out hm (fun _ h => h) (by intro k h0 h2; exact h2))
  clear hm Cx3
  clear act E qrd Hx2
  refine QSeq.pure rfl (.pointer (some ⟨r, 0, none⟩)) (fun E => ex_move rfl (E.v oe0)) ?_
  refine QSeq.go fun act E => ?_
  refine qc_callF (args := #[.pointer (some ⟨r, 0, none⟩)]) rfl (wanted_none rfl) rfl Try.func144 (args1 (E.d 4 0)) (RHash_R Hx4.out) ?_
  rintro e u1_5 ⟨rfl, qrd, hm⟩
  refine ⟨_, rfl, ?_⟩
  have Hx6 := hid qrd
  have zu1_5 := hm.size
  have HMu1_5 := hid hm
  have Cx7 := hid (Mod.goS (S' := (fun k => (R k))) Cx5.out hm (fun _ h => h) (by intro k h0 h2; exact h2))
  clear hm Cx5
  clear act E qrd Hx4
  refine QSeq.pure rfl (.pointer (some ⟨r, 0, none⟩)) (fun E => ex_move rfl (E.v oe0)) ?_
  refine QSeq.go fun act E => ?_
  refine qc_callF (args := #[.pointer (some ⟨r, 0, none⟩)]) rfl (wanted_none rfl) rfl Try.func116 (args1 (E.d 6 0)) (RNum_R Hx6.out) ?_
  rintro e u1_7 ⟨rfl, qrd, hm⟩
  refine ⟨_, rfl, ?_⟩
  have Hx8 := hid qrd
  have zu1_7 := hm.size
  have HMu1_7 := hid hm
  have Cx9 := hid (Mod.goS (S' := (fun k => (R k))) Cx7.out hm (fun _ h => h) (by intro k h0 h2; exact h2))
  clear hm Cx7
  clear act E qrd Hx6
  refine QSeq.pure rfl (.pointer (some ⟨r, 0, none⟩)) (fun E => ex_move rfl (E.v oe0)) ?_
  refine QSeq.go fun act E => ?_
  refine qc_callF (args := #[.pointer (some ⟨r, 0, none⟩)]) rfl (wanted_none rfl) rfl Try.func118 (args1 (E.d 8 0)) (cSig_Q _ _ _ _ Hx8.out (by intro k h1; have hb := HBR.out k h1; omega)) ?_
  rintro e u1_9 ⟨rfl, qrd, hm⟩
  refine ⟨_, rfl, ?_⟩
  have Hx10 := hid qrd
  have zu1_9 := hm.size
  have HMu1_9 := hid hm
  have Cx11 := hid (Mod.goS (S' := (fun k => (R k))) Cx9.out hm (fun _ h => h) (by intro k h0 h2; exact h2))
  clear hm Cx9
  clear act E qrd Hx8
  refine QSeq.go fun act E => ?_
  refine qc_run rfl (wanted_none rfl) (v := .agg ((gSt s).1.cells : List Value).toArray) (ex_build rfl (z := [.int .i64 0, .int .i64 0, .int .i64 0, .int .u8 0, .int .u8 0, .int .u8 0, .int .u8 0, .int .u8 0, .int .u8 0, .int .u8 0, .int .u8 0, .int .u8 0, .int .u8 0, .int .u8 0, .int .u8 0, .int .u8 0, .int .u8 0, .int .u8 0, .int .u8 0, .int .u8 0, .int .u8 0, .int .u8 0, .int .u8 0, .int .u8 0, .int .u8 0, .int .u8 0, .int .u8 0, .int .u8 0, .int .u8 0, .int .u8 0, .int .u8 0, .int .u8 0, .int .u8 0, .int .u8 0, .int .u8 0, .int .u64 0, .int .i64 0, .int .i64 0]) (places := [(0, 1), (1, 2), (3, 32), (35, 1), (36, 2)]) (by kernel_rfl) (parts := [(0, .int .i64 (gI s).1), (1, .agg #[.int .i64 (gSig (gI s).2).1.1, .int .i64 (gSig (gI s).2).1.2]), (2, hv (rHash (gSig (gI s).2).2).1), (3, .int .u64 ((rNum (rHash (gSig (gI s).2).2).2).1 : Nat)), (4, .agg #[.int .i64 (gSig (rNum (rHash (gSig (gI s).2).2).2).2).1.1, .int .i64 (gSig (rNum (rHash (gSig (gI s).2).2).2).2).1.2])]) (by simp only [List.map_toArray, List.map_cons, List.map_nil, show act.eval (.tmp 4) = .int .i64 (gI s).1 from (E.d 1 8), show act.eval (.tmp 6) = .agg #[.int .i64 (gSig (gI s).2).1.1, .int .i64 (gSig (gI s).2).1.2] from (E.d 3 6), show act.eval (.tmp 8) = hv (rHash (gSig (gI s).2).2).1 from (E.d 5 4), show act.eval (.tmp 10) = .int .u64 ((rNum (rHash (gSig (gI s).2).2).2).1 : Nat) from (E.d 7 2), show act.eval (.tmp 12) = .agg #[.int .i64 (gSig (rNum (rHash (gSig (gI s).2).2).2).2).1.1, .int .i64 (gSig (rNum (rHash (gSig (gI s).2).2).2).2).1.2] from (E.d 9 0)]; try rfl) (r := (gSt s).1.cells) (by exact laid_segs (ns := [1, 2, 32, 1, 2]) rfl [(0, .int .i64 (gI s).1), (1, .agg #[.int .i64 (gSig (gI s).2).1.1, .int .i64 (gSig (gI s).2).1.2]), (2, hv (rHash (gSig (gI s).2).2).1), (3, .int .u64 ((rNum (rHash (gSig (gI s).2).2).2).1 : Nat)), (4, .agg #[.int .i64 (gSig (rNum (rHash (gSig (gI s).2).2).2).2).1.1, .int .i64 (gSig (rNum (rHash (gSig (gI s).2).2).2).2).1.2])] [[.int .i64 0], [.int .i64 0, .int .i64 0], [.int .u8 0, .int .u8 0, .int .u8 0, .int .u8 0, .int .u8 0, .int .u8 0, .int .u8 0, .int .u8 0, .int .u8 0, .int .u8 0, .int .u8 0, .int .u8 0, .int .u8 0, .int .u8 0, .int .u8 0, .int .u8 0, .int .u8 0, .int .u8 0, .int .u8 0, .int .u8 0, .int .u8 0, .int .u8 0, .int .u8 0, .int .u8 0, .int .u8 0, .int .u8 0, .int .u8 0, .int .u8 0, .int .u8 0, .int .u8 0, .int .u8 0, .int .u8 0], [.int .u64 0], [.int .i64 0, .int .i64 0]] rfl ⟨rfl, rfl, (szv (by rw [List.length_map]; exact rHash_l _)), rfl, rfl, trivial⟩)) ?_
  clear act E
  refine QSeq.go fun act E => ?_
  refine qc_store rfl (wanted_none rfl) rfl (HB2.out.mod Cx11.out (by intro h2; first | omega | (have hb := HBR.out _ h2; omega))) (off := 0) (vs := ((gSt s).1.cells)) (by rw [show ((gSt s).1.cells).length = _ from (St.len (gSt_OK HBY.out))]; kernel_rfl) (St.one _) (by rw [show ((gSt s).1.cells).length = _ from (St.len (gSt_OK HBY.out))]; decide) (E.v oe2) (by rw [show act.eval ((.tmp 13)) = _ from (E.d 10 0)]; rfl) ?_
  intro u1_11 qc0 hm
  have qB2 : Cs u1_11 (w.heap.size) (((gSt s).1.cells) : List Value).toArray 30 := by rw [show lay _ 0 _ = (((gSt s).1.cells) : List Value).toArray from lay_whole _ _ (by rw [show ((gSt s).1.cells).length = _ from (St.len (gSt_OK HBY.out))]; rfl)] at qc0; exact qc0
  clear qc0
  have Hx12 := hid qB2
  have zu1_11 := hm.size
  have HMu1_11 := hid hm
  have Cx13 := hid (Mod.goS (S' := (fun k => (R k) ∨ (k = w.heap.size))) Cx11.out hm (fun _ h => Or.inl h) (by intro k h0 h2; exact Or.inr (h2)))
  clear hm Cx11
  clear act E qB2 HB2
  have Hx14 := hid (Hx10.out.mod HMu1_11.out (by intro k h1 h2; have hb := HBR.out k h1; omega))
  clear Hx10 HMu1_3 HMu1_5 HMu1_7 HMu1_9 HMu1_11
  refine QSeq.nil (t' := [_, _, _, _, _, _, _, _, _, _, _, _]) rfl ?_
  have ha0 := HA0.out
  subst ha0
  clear HA0 hsz0 oe0 oe2
  simp only [putAll, Act.put, List.setIfInBounds_toArray, List.set_cons_zero, List.set_cons_succ, List.set_nil]
  go_wp2
  exact bodyPost_ret (results_cellA rfl _ _ w.heap.size ((gSt s).1.cells) rfl (fun k u hu => by rw [Hx12.out.cell]; simpa using hu) Try.underlying30 rfl (by rw [show ((gSt s).1.cells).length = _ from (St.len (gSt_OK HBY.out))]; kernel_rfl)) rfl ⟨rfl, Hx14.out, (HM0.out.trans Cx13.out (by intro k h1 h2; rcases h2 with h2 | h2 <;> first | exact h2 | omega | (have hb := HBR.out k h2; omega)))⟩
theorem cSt_G : Gets StR 125 111 gSt := GetsF.to (A := StR) cSt_Q fun _ _ _ hb => ⟨rfl, gSt_OK hb⟩
set_option maxHeartbeats 4000000 in
theorem cDn_Q : GetsF 125 151 Dn.cells gDn := by
  intro R r s w hR hB
  have HRD := Lib.hid hR
  have HBR := Lib.hid hB
  have HBY := hid hR.bytes
  clear hR hB
  go_enter Try.func151, Try.ntmps151
  go_upto_region 1 with (fail)
  obtain ⟨w1, hw1⟩ : ∃ zz, zz = (w.alloc (.cells #[.int .i64 0, .int .i64 0, .int .i64 0, .int .i64 0] 34)) := ⟨_, rfl⟩
  change Code.wp _ _ _ _ (w.alloc (.cells #[.int .i64 0, .int .i64 0, .int .i64 0, .int .i64 0] 34))
  rw [← hw1]
  have HB2 := hid (show Cs w1 (w.heap.size) #[.int .i64 0, .int .i64 0, .int .i64 0, .int .i64 0] 34 by rw [hw1]; exact Cs.new _ _ _)
  have hm : Mod (fun _ => False) w w1 := by rw [hw1]; exact (Mod.refl _ _).alloc _
  have HM0 := hid (show Mod (fun k => (R k)) w w1 from hm.mono (fun _ _ h => h.elim))
  have hs1 : w1.heap.size = w.heap.size + 1 := by rw [hw1]; simp
  have Hx1 := hid (HRD.out.mod hm (fun _ _ h => h))
  clear HRD
  clear hw1 hm
  go_upto_region 1 with (fail)
  generalize ha0 : Act.mk _ _ = a0
  have oe0 : a0.eval (.tmp 0) = .pointer (some ⟨r, 0, none⟩) := by rw [← ha0]; rfl
  have oe2 : a0.eval (.tmp 2) = .pointer (some ⟨w.heap.size, 0, none⟩) := by rw [← ha0]; rfl
  have hsz0 : a0.tmps.size = 10 := by rw [← ha0]; rfl
  have HA0 := hid ha0
  clear ha0
  refine wp_region_S 10 hsz0 [3, 4, 5, 6, 7, 8, 9, 17] [0, 1, 2, 3, 4, 5, 6, 7] ?_
  refine QSeq.pure rfl (.pointer (some ⟨r, 0, none⟩)) (fun E => ex_move rfl (E.v oe0)) ?_
  refine QSeq.go fun act E => ?_
  refine qc_callF (args := #[.pointer (some ⟨r, 0, none⟩), .int .i64 1099511627776]) rfl (wanted_none rfl) rfl Try.func115 (args2 (E.d 0 0) rfl) (cI_Q Hx1.out) ?_
  rintro e u1_1 ⟨rfl, qrd, hm⟩
  refine ⟨_, rfl, ?_⟩
  have Hx2 := hid qrd
  have zu1_1 := hm.size
  have Cx3 := hid (show Mod (fun k => (R k)) w1 u1_1 from hm)
  clear hm
  clear act E qrd Hx1
  refine QSeq.pure rfl (.pointer (some ⟨r, 0, none⟩)) (fun E => ex_move rfl (E.v oe0)) ?_
  refine QSeq.go fun act E => ?_
  refine qc_callF (args := #[.pointer (some ⟨r, 0, none⟩), .int .i64 1099511627776]) rfl (wanted_none rfl) rfl Try.func115 (args2 (E.d 2 0) rfl) (cI_Q Hx2.out) ?_
  rintro e u1_3 ⟨rfl, qrd, hm⟩
  refine ⟨_, rfl, ?_⟩
  have Hx4 := hid qrd
  have zu1_3 := hm.size
  have HMu1_3 := hid hm
  have Cx5 := hid (Mod.goS (S' := (fun k => (R k))) Cx3.out hm (fun _ h => h) (by intro k h0 h2; exact h2))
  clear hm Cx3
  clear act E qrd Hx2
  refine QSeq.pure rfl (.pointer (some ⟨r, 0, none⟩)) (fun E => ex_move rfl (E.v oe0)) ?_
  refine QSeq.go fun act E => ?_
  refine qc_callF (args := #[.pointer (some ⟨r, 0, none⟩)]) rfl (wanted_none rfl) rfl Try.func118 (args1 (E.d 4 0)) (cSig_Q _ _ _ _ Hx4.out (by intro k h1; have hb := HBR.out k h1; omega)) ?_
  rintro e u1_5 ⟨rfl, qrd, hm⟩
  refine ⟨_, rfl, ?_⟩
  have Hx6 := hid qrd
  have zu1_5 := hm.size
  have HMu1_5 := hid hm
  have Cx7 := hid (Mod.goS (S' := (fun k => (R k))) Cx5.out hm (fun _ h => h) (by intro k h0 h2; exact h2))
  clear hm Cx5
  clear act E qrd Hx4
  refine QSeq.go fun act E => ?_
  refine qc_run rfl (wanted_none rfl) (v := .agg ((gDn s).1.cells : List Value).toArray) (ex_build rfl (z := [.int .i64 0, .int .i64 0, .int .i64 0, .int .i64 0]) (places := [(0, 1), (1, 1), (2, 2)]) (by kernel_rfl) (parts := [(0, .int .i64 (gI s).1), (1, .int .i64 (gI (gI s).2).1), (2, .agg #[.int .i64 (gSig (gI (gI s).2).2).1.1, .int .i64 (gSig (gI (gI s).2).2).1.2])]) (by simp only [List.map_toArray, List.map_cons, List.map_nil, show act.eval (.tmp 4) = .int .i64 (gI s).1 from (E.d 1 4), show act.eval (.tmp 6) = .int .i64 (gI (gI s).2).1 from (E.d 3 2), show act.eval (.tmp 8) = .agg #[.int .i64 (gSig (gI (gI s).2).2).1.1, .int .i64 (gSig (gI (gI s).2).2).1.2] from (E.d 5 0)]; try rfl) (r := (gDn s).1.cells) (by exact laid_segs (ns := [1, 1, 2]) rfl [(0, .int .i64 (gI s).1), (1, .int .i64 (gI (gI s).2).1), (2, .agg #[.int .i64 (gSig (gI (gI s).2).2).1.1, .int .i64 (gSig (gI (gI s).2).2).1.2])] [[.int .i64 0], [.int .i64 0], [.int .i64 0, .int .i64 0]] rfl ⟨rfl, rfl, rfl, trivial⟩)) ?_
  clear act E
  refine QSeq.go fun act E => ?_
  refine qc_store rfl (wanted_none rfl) rfl (HB2.out.mod Cx7.out (by intro h2; first | omega | (have hb := HBR.out _ h2; omega))) (off := 0) (vs := ((gDn s).1.cells)) (by rw [show ((gDn s).1.cells).length = _ from (Dn.len (gDn_OK HBY.out))]; kernel_rfl) (Dn.one _) (by rw [show ((gDn s).1.cells).length = _ from (Dn.len (gDn_OK HBY.out))]; decide) (E.v oe2) (by rw [show act.eval ((.tmp 9)) = _ from (E.d 6 0)]; rfl) ?_
  intro u1_7 qc0 hm
  have qB2 : Cs u1_7 (w.heap.size) (((gDn s).1.cells) : List Value).toArray 34 := by rw [show lay _ 0 _ = (((gDn s).1.cells) : List Value).toArray from lay_whole _ _ (by rw [show ((gDn s).1.cells).length = _ from (Dn.len (gDn_OK HBY.out))]; rfl)] at qc0; exact qc0
  clear qc0
  have Hx8 := hid qB2
  have zu1_7 := hm.size
  have HMu1_7 := hid hm
  have Cx9 := hid (Mod.goS (S' := (fun k => (R k) ∨ (k = w.heap.size))) Cx7.out hm (fun _ h => Or.inl h) (by intro k h0 h2; exact Or.inr (h2)))
  clear hm Cx7
  clear act E qB2 HB2
  have Hx10 := hid (Hx6.out.mod HMu1_7.out (by intro k h1 h2; have hb := HBR.out k h1; omega))
  clear Hx6 HMu1_3 HMu1_5 HMu1_7
  refine QSeq.nil (t' := [_, _, _, _, _, _, _, _]) rfl ?_
  have ha0 := HA0.out
  subst ha0
  clear HA0 hsz0 oe0 oe2
  simp only [putAll, Act.put, List.setIfInBounds_toArray, List.set_cons_zero, List.set_cons_succ, List.set_nil]
  go_wp2
  exact bodyPost_ret (results_cellA rfl _ _ w.heap.size ((gDn s).1.cells) rfl (fun k u hu => by rw [Hx8.out.cell]; simpa using hu) Try.underlying34 rfl (by rw [show ((gDn s).1.cells).length = _ from (Dn.len (gDn_OK HBY.out))]; kernel_rfl)) rfl ⟨rfl, Hx10.out, (HM0.out.trans Cx9.out (by intro k h1 h2; rcases h2 with h2 | h2 <;> first | exact h2 | omega | (have hb := HBR.out k h2; omega)))⟩
theorem cDn_G : Gets DnR 125 151 gDn := GetsF.to (A := DnR) cDn_Q fun _ _ _ hb => ⟨rfl, gDn_OK hb⟩
set_option maxHeartbeats 4000000 in
theorem cList_St : GetsL StR 125 110 111 gSt := by
  intro R r s w hR hB hl
  have HRD := Lib.hid hR
  have HBR := Lib.hid hB
  have HLN := Lib.hid hl
  clear hR hB hl
  go_enter Try.func110, Try.ntmps110
  go_upto_region 2 with (fail)
  have HM0 := hid (Mod.refl (fun k => (R k)) w)
  go_upto_region 2 with (fail)
  generalize ha0 : Act.mk _ _ = a0
  have oe0 : a0.eval (.tmp 0) = .pointer (some ⟨r, 0, none⟩) := by rw [← ha0]; rfl
  have hsz0 : a0.tmps.size = 21 := by rw [← ha0]; rfl
  have HA0 := hid ha0
  clear ha0
  refine wp_region_S 21 hsz0 [6, 7, 8] [0, 1, 2] ?_
  refine QSeq.pure rfl (.pointer (some ⟨r, 0, none⟩)) (fun E => ex_move rfl (E.v oe0)) ?_
  refine QSeq.go fun act E => ?_
  refine qc_callF (args := #[.pointer (some ⟨r, 0, none⟩), .int .i64 100]) rfl (wanted_none rfl) rfl Try.func115 (args2 (E.d 0 0) rfl) (RInt_R HRD.out (by decide)) ?_
  rintro e u2_1 ⟨rfl, qrd, hm⟩
  refine ⟨_, rfl, ?_⟩
  have Hx1 := hid qrd
  have zu2_1 := hm.size
  have Cx2 := hid (show Mod (fun k => (R k)) w u2_1 from hm)
  clear hm
  clear act E qrd HRD
  refine QSeq.pure rfl (.int .i64 0) (fun E => ex_move rfl rfl) ?_
  refine QSeq.nil (t' := [_, _, _]) rfl ?_
  have ha0 := HA0.out
  subst ha0
  clear HA0 hsz0 oe0
  simp only [putAll, Act.put, List.setIfInBounds_toArray, List.set_cons_zero, List.set_cons_succ]
  obtain ⟨n, hn⟩ : ∃ n, n = (rInt 100 s).1 := ⟨_, rfl⟩
  obtain ⟨s1, hs1⟩ : ∃ z, z = (rInt 100 s).2 := ⟨_, rfl⟩
  have hn100 : n ≤ 100 := by have := rInt_le 100 s; omega
  have HLS := hid (show (s1.getD []).length ≤ 900000 by rw [hs1]; exact Nat.le_trans ((rInt_suf 100).len s) HLN.out)
  have HGL := hid (show gList gSt s = gItems gSt n [] s1 by rw [hn, hs1]; rfl)
  rw [← hn]
  have hq := Hx1.out
  rw [← hs1] at hq
  have HR1 := Lib.hid hq
  clear hq hn hs1 HLN
  go_wp2
  go_loopw [5, 8] (fun ta ti wr => ∃ (k : Nat) (acc : List St) (st : RSt), ti = .int .i64 (k : Int) ∧ k ≤ n ∧ acc.length = k ∧ (st.getD []).length ≤ 900000 ∧ gItems gSt (n - k) acc st = gItems gSt n [] s1 ∧ u2_1.heap.size ≤ wr.heap.size ∧ OwS StR 30 (fun b => w.heap.size ≤ b ∧ b < wr.heap.size) (fun b => w.heap.size ≤ b ∧ b < wr.heap.size) wr ta acc ∧ RrR 125 R wr r st ∧ Mod R w wr) (fun _ ti _ => n - (intOf ti).toNat)
  case atStart => exact ⟨0, [], s1, rfl, Nat.zero_le _, rfl, HLS.out, rfl, Nat.le_refl _, OwS.nil _ _ _ _ _, HR1.out, (HM0.out.trans Cx2.out (fun _ _ h => h))⟩
  case round =>
    obtain ⟨k, acc, st, rfl, hk, hka, hst, hg, hz, ha, hr, hm⟩ := hrel
    obtain ⟨wl, rfl⟩ : ∃ x, x = wr := ⟨_, rfl⟩
    obtain ⟨aol, capl, rfl⟩ := ha.shape
    have HAL := Lib.hid ha
    have HRL := Lib.hid hr
    have HML := Lib.hid hm
    have HST := Lib.hid hst
    have HG := Lib.hid hg
    have HKA := Lib.hid hka
    clear ha hr hm hst hg hka HR1 HM0
    by_cases hlt : k < n
    · skip
      go_upto_region 3 with (fail)
      generalize ha0 : Act.mk _ _ = a0
      have oe7 : a0.eval (.tmp 7) = .int .i64 ((n : Nat) : Int) := by rw [← ha0]; rfl
      have oe8 : a0.eval (.tmp 8) = .int .i64 ((k : Nat) : Int) := by rw [← ha0]; rfl
      have hsz0 : a0.tmps.size = 21 := by rw [← ha0]; rfl
      have HA0 := hid ha0
      clear ha0
      refine wp_region_S 21 hsz0 [9] [0] ?_
      refine QSeq.pure rfl (.bool true) (fun E => ex_binE rfl (E.v oe8) (E.v oe7) (guard_ints _ _ _ _ _ _) (run_lss_i _ _ _ Try.underlying3) (congrArg Value.bool (decide_eq_true (by omega)))) ?_
      refine QSeq.nil (t' := [_]) rfl ?_
      have ha0 := HA0.out
      subst ha0
      clear HA0 hsz0 oe7 oe8
      simp only [putAll, Act.put, List.setIfInBounds_toArray, List.set_cons_zero, List.set_cons_succ]
      obtain ⟨p, hp⟩ : ∃ p, p = gSt st := ⟨_, rfl⟩
      obtain ⟨x, st2⟩ := p
      have HP1 := hid (congrArg Prod.fst hp.symm)
      have HP2 := hid (congrArg Prod.snd hp.symm)
      clear hp
      dsimp only at HP1 HP2
      have HST2 := hid (show (st2.getD []).length ≤ 900000 by rw [← HP2.out]; exact Nat.le_trans (gSt_suf.len st) HST.out)
      have HGN := hid (show gItems gSt (n - k) acc st = if st2 = none then ([], none) else gItems gSt (n - (k + 1)) (acc ++ [x]) st2 by rw [show n - k = (n - (k + 1)) + 1 by omega]; show (if (gSt st).2 = none then _ else _) = _; rw [HP2.out, HP1.out])
      go_upto_region 4 with (fail)
      generalize ha0 : Act.mk _ _ = a0
      have oe0 : a0.eval (.tmp 0) = .pointer (some ⟨r, 0, none⟩) := by rw [← ha0]; rfl
      have oe1 : a0.eval (.tmp 1) = .func (.func 111) #[] #[] := by rw [← ha0]; rfl
      have oe5 : a0.eval (.tmp 5) = .slice aol acc.length capl := by rw [← ha0]; rfl
      have hsz0 : a0.tmps.size = 21 := by rw [← ha0]; rfl
      have HA0 := hid ha0
      clear ha0
      refine wp_region_S 21 hsz0 [10, 11, 12, 13, 14, 15, 5] [0, 1, 2, 3, 4, 5, 6] ?_
      refine QSeq.pure rfl (.slice aol acc.length capl) (fun E => ex_move rfl (E.y 6 oe5)) ?_
      refine QSeq.pure rfl (.func (.func 111) #[] #[]) (fun E => ex_move rfl (E.v oe1)) ?_
      refine QSeq.pure rfl (.pointer (some ⟨r, 0, none⟩)) (fun E => ex_move rfl (E.v oe0)) ?_
      refine QSeq.go fun act E => ?_
      have ea12 : act.eval (.tmp 12) = .pointer (some ⟨r, 0, none⟩) := (E.d 2 0)
      refine qc_call (args := #[.pointer (some ⟨r, 0, none⟩)]) rfl (wanted_none rfl) (by rw [ex_callV rfl (E.d 1 1) Try.func111 (by kernel_rfl) (by kernel_rfl)]; exact congrArg (fun z => Result.ok (Next.enter _ z) _) (by simp only [List.map_toArray, List.map_cons, List.map_nil, ea12]; try rfl)) ((cSt_G).to HP1.out HP2.out HRL.out (by intro k h1; have hb := HBR.out k h1; omega) HST.out) ?_
      rintro e u4_3 ⟨cs, rfl, qel, qrd, hm⟩
      refine ⟨_, rfl, ?_⟩
      have Hx3 := hid (qel.widen (R' := (fun k => (New wl u4_3 k))) (fun _ h => h))
      have Hx4 := hid qrd
      have zu4_3 := hm.size
      have Cx5 := hid (show Mod (fun k => (R k)) wl u4_3 from hm)
      clear hm
      clear act E qel qrd HRL ea12
      refine QSeq.go fun act E => ?_
      refine qc_buildS (e := 30) (cs := cs) (zc := [.int .i64 0, .int .i64 0, .int .i64 0, .int .u8 0, .int .u8 0, .int .u8 0, .int .u8 0, .int .u8 0, .int .u8 0, .int .u8 0, .int .u8 0, .int .u8 0, .int .u8 0, .int .u8 0, .int .u8 0, .int .u8 0, .int .u8 0, .int .u8 0, .int .u8 0, .int .u8 0, .int .u8 0, .int .u8 0, .int .u8 0, .int .u8 0, .int .u8 0, .int .u8 0, .int .u8 0, .int .u8 0, .int .u8 0, .int .u8 0, .int .u8 0, .int .u8 0, .int .u8 0, .int .u8 0, .int .u8 0, .int .u64 0, .int .i64 0, .int .i64 0]) (sz := 38) rfl (wanted_none rfl) rfl Try.underlying50 (by kernel_rfl) rfl (by decide) (by decide) (E.d 3 0) (StR.len Hx3.out) ?_
      intro u4_4 qrow hm
      have zl4_4 := qrow.lt
      have Hx6 := hid qrow
      have zu4_4 := hm.size
      have HMu4_4 := hid hm
      have Cx7 := hid (Cx5.out.goE hm)
      clear hm Cx5
      clear act E qrow
      refine QSeq.go fun act E => ?_
      refine qc_appS (A := StR) (e := 30) rfl (wanted_none rfl) rfl (.agg #[.int .i64 0, .int .i64 0, .int .i64 0, .int .u8 0, .int .u8 0, .int .u8 0, .int .u8 0, .int .u8 0, .int .u8 0, .int .u8 0, .int .u8 0, .int .u8 0, .int .u8 0, .int .u8 0, .int .u8 0, .int .u8 0, .int .u8 0, .int .u8 0, .int .u8 0, .int .u8 0, .int .u8 0, .int .u8 0, .int .u8 0, .int .u8 0, .int .u8 0, .int .u8 0, .int .u8 0, .int .u8 0, .int .u8 0, .int .u8 0, .int .u8 0, .int .u8 0, .int .u8 0, .int .u8 0, .int .u8 0, .int .u64 0, .int .i64 0, .int .i64 0]) 80 Try.underlying50 info_St (by rfl) (of_decide_eq_true (by kernel_rfl)) (E.d 0 4) (E.d 4 0) ((HAL.out.mod Cx7.out (by intro k h1 h2; have hb := HBR.out k h2; omega) (by intro k h1 h2; have hb := HBR.out k h2; omega))) (RdS.single (R := (fun k => (New wl u4_3 k) ∨ (k = u4_3.heap.size))) Hx6.out ((Hx3.out.mod HMu4_4.out (fun _ _ h => h)).widen (by intro k h1; first | omega | exact h1.elim | exact Or.inl h1 | exact Or.inr (h1))) (by first | exact Or.inr rfl | exact Or.inr (Or.inr rfl) | (right; omega))) (by intro k h1 h2; omega) (by rw [HKA.out]; simp only [List.length_cons, List.length_nil]; omega) (by rw [HKA.out]; simp only [List.length_cons, List.length_nil]; rw [maxLen_val]; omega) ?_
      intro ao4 cap4 u4_5 qout hm
      have Hx8 := hid (qout.widen (R' := (fun k => (New w wl k) ∨ (New u4_4 u4_5 k))) (E' := (fun k => (New w wl k) ∨ (New wl u4_3 k) ∨ (k = u4_3.heap.size))) (fun _ h => h) (by intro k h1; rcases h1 with h1 | (h1 | h1) <;> first | omega | exact h1.elim | exact Or.inl h1 | exact Or.inr (Or.inl h1) | exact Or.inr (Or.inr (h1))))
      have zu4_5 := hm.size
      have HMu4_5 := hid hm
      have Cx9 := hid (Mod.goS (S' := (fun k => (R k) ∨ (New w wl k))) Cx7.out hm (fun _ h => Or.inl h) (by intro k h0 h2; exact Or.inr (h2)))
      clear hm Cx7
      clear act E qout HAL
      refine QSeq.pure rfl (.slice ao4 (acc.length + 1) cap4) (fun E => ex_assign rfl (E.d 5 0)) ?_
      have Hx10 := hid ((Hx4.out.mod HMu4_4.out (fun _ _ h => h)).mod HMu4_5.out (by intro k h1 h2; have hb := HBR.out k h1; omega))
      have Hx11 := hid ((Hx3.out.mod HMu4_4.out (fun _ _ h => h)).mod HMu4_5.out (by intro k h1 h2; omega))
      have Hx12 := hid (Hx6.out.mod HMu4_5.out (by intro h2; omega))
      clear Hx4 Hx3 Hx6 HMu4_4 HMu4_5
      refine QSeq.nil (t' := [_, _, _, _, _, _, _]) rfl ?_
      have ha0 := HA0.out
      subst ha0
      clear HA0 hsz0 oe0 oe1 oe5
      simp only [putAll, Act.put, List.setIfInBounds_toArray, List.set_cons_zero, List.set_cons_succ]
      clear Hx11
      clear Hx12
      cases st2 with
      | none =>
        go_upto_region 5 with (fail)
        generalize ha0 : Act.mk _ _ = a0
        have oe0 : a0.eval (.tmp 0) = .pointer (some ⟨r, 0, none⟩) := by rw [← ha0]; rfl
        have hsz0 : a0.tmps.size = 21 := by rw [← ha0]; rfl
        have HA0 := hid ha0
        clear ha0
        refine wp_region_S 21 hsz0 [16, 17, 18] [0, 1, 2] ?_
        refine QSeq.pure rfl (.pointer (some ⟨r, 0, none⟩)) (fun E => ex_move rfl (E.v oe0)) ?_
        refine QSeq.go fun act E => ?_
        refine qc_callF (args := #[.pointer (some ⟨r, 0, none⟩)]) rfl (wanted_none rfl) rfl Try.func39 (args1 (E.d 0 0)) (OK_R Hx10.out) ?_
        rintro e w2 ⟨rfl, hw2⟩
        obtain rfl : u4_5 = w2 := by first | exact hw2 | exact hw2.symm
        refine ⟨_, rfl, ?_⟩
        clear act E
        refine QSeq.pure rfl (.bool true) (fun E => ex_not rfl (E.d 1 0)) ?_
        refine QSeq.nil (t' := [_, _, _]) rfl ?_
        have ha0 := HA0.out
        subst ha0
        clear HA0 hsz0 oe0
        simp only [putAll, Act.put, List.setIfInBounds_toArray, List.set_cons_zero, List.set_cons_succ]
        go_upto_region 6 with (fail)
        generalize ha0 : Act.mk _ _ = a0
        have hsz0 : a0.tmps.size = 21 := by rw [← ha0]; rfl
        have HA0 := hid ha0
        clear ha0
        refine wp_region_S 21 hsz0 [4] [0] ?_
        refine QSeq.pure rfl (.slice none 0 0) (fun E => ex_assign rfl rfl) ?_
        refine QSeq.nil (t' := [_]) rfl ?_
        have ha0 := HA0.out
        subst ha0
        clear HA0 hsz0
        simp only [putAll, Act.put, List.setIfInBounds_toArray, List.set_cons_zero, List.set_cons_succ]
        go_wp2
        go_ret
        have hq := HG.out
        rw [HGN.out, if_pos trivial] at hq
        have e := HGL.out
        rw [← hq] at e
        refine ⟨_, rfl, ?_, ?_, (HML.out.trans Cx9.out (by intro k h1 h2; rcases h2 with h2 | h2 <;> first | exact h2 | omega | (have hb := HBR.out k h2; omega)))⟩
        · rw [e]; exact RdS.nil _ _ _
        · rw [e]; exact Hx10.out
      | some l2 =>
        go_upto_region 5 with (fail)
        generalize ha0 : Act.mk _ _ = a0
        have oe0 : a0.eval (.tmp 0) = .pointer (some ⟨r, 0, none⟩) := by rw [← ha0]; rfl
        have hsz0 : a0.tmps.size = 21 := by rw [← ha0]; rfl
        have HA0 := hid ha0
        clear ha0
        refine wp_region_S 21 hsz0 [16, 17, 18] [0, 1, 2] ?_
        refine QSeq.pure rfl (.pointer (some ⟨r, 0, none⟩)) (fun E => ex_move rfl (E.v oe0)) ?_
        refine QSeq.go fun act E => ?_
        refine qc_callF (args := #[.pointer (some ⟨r, 0, none⟩)]) rfl (wanted_none rfl) rfl Try.func39 (args1 (E.d 0 0)) (OK_R Hx10.out) ?_
        rintro e w2 ⟨rfl, hw2⟩
        obtain rfl : u4_5 = w2 := by first | exact hw2 | exact hw2.symm
        refine ⟨_, rfl, ?_⟩
        clear act E
        refine QSeq.pure rfl (.bool false) (fun E => ex_not rfl (E.d 1 0)) ?_
        refine QSeq.nil (t' := [_, _, _]) rfl ?_
        have ha0 := HA0.out
        subst ha0
        clear HA0 hsz0 oe0
        simp only [putAll, Act.put, List.setIfInBounds_toArray, List.set_cons_zero, List.set_cons_succ]
        go_upto_region 7 with (fail)
        generalize ha0 : Act.mk _ _ = a0
        have oe8 : a0.eval (.tmp 8) = .int .i64 ((k : Nat) : Int) := by rw [← ha0]; rfl
        have hsz0 : a0.tmps.size = 21 := by rw [← ha0]; rfl
        have HA0 := hid ha0
        clear ha0
        refine wp_region_S 21 hsz0 [19, 8] [0, 1] ?_
        refine QSeq.pure rfl (.int .i64 (((k : Nat) : Int) + 1)) (fun E => ex_binE rfl (E.y 1 oe8) rfl (guard_ints _ _ _ _ _ _) (run_add_i _ _ Try.underlying3) (congrArg (Value.int .i64) (IntWalk.i64_in _ (by omega)))) ?_
        refine QSeq.pure rfl (.int .i64 (((k : Nat) : Int) + 1)) (fun E => ex_move rfl (E.d 0 0)) ?_
        refine QSeq.nil (t' := [_, _]) rfl ?_
        have ha0 := HA0.out
        subst ha0
        clear HA0 hsz0 oe8
        simp only [putAll, Act.put, List.setIfInBounds_toArray, List.set_cons_zero, List.set_cons_succ]
        go_wp2
        go_roundw
        case rel => exact ⟨k + 1, acc ++ [x], some l2, by go_num, by omega, by rw [List.length_append, HKA.out]; rfl, HST2.out, (by have hq := HG.out; rw [HGN.out, if_neg (by simp)] at hq; exact hq), by omega, (Hx8.out.widen (by intro b h1; omega) (by intro b h1; rcases h1 with h1 | h1 | h1 <;> first | omega | exact h1.elim)), Hx10.out, (HML.out.trans Cx9.out (by intro k h1 h2; rcases h2 with h2 | h2 <;> first | exact h2 | omega | (have hb := HBR.out k h2; omega)))⟩
        case measure => simp [intOf] <;> omega
    · obtain rfl : n = k := by omega
      go_upto_region 3 with (fail)
      generalize ha0 : Act.mk _ _ = a0
      have oe7 : a0.eval (.tmp 7) = .int .i64 ((n : Nat) : Int) := by rw [← ha0]; rfl
      have oe8 : a0.eval (.tmp 8) = .int .i64 ((n : Nat) : Int) := by rw [← ha0]; rfl
      have hsz0 : a0.tmps.size = 21 := by rw [← ha0]; rfl
      have HA0 := hid ha0
      clear ha0
      refine wp_region_S 21 hsz0 [9] [0] ?_
      refine QSeq.pure rfl (.bool false) (fun E => ex_binE rfl (E.v oe8) (E.v oe7) (guard_ints _ _ _ _ _ _) (run_lss_i _ _ _ Try.underlying3) (congrArg Value.bool (decide_eq_false (by omega)))) ?_
      refine QSeq.nil (t' := [_]) rfl ?_
      have ha0 := HA0.out
      subst ha0
      clear HA0 hsz0 oe7 oe8
      simp only [putAll, Act.put, List.setIfInBounds_toArray, List.set_cons_zero, List.set_cons_succ]
      go_upto_region 8 with (fail)
      generalize ha0 : Act.mk _ _ = a0
      have oe5 : a0.eval (.tmp 5) = .slice aol acc.length capl := by rw [← ha0]; rfl
      have hsz0 : a0.tmps.size = 21 := by rw [← ha0]; rfl
      have HA0 := hid ha0
      clear ha0
      refine wp_region_S 21 hsz0 [20, 4] [0, 1] ?_
      refine QSeq.pure rfl (.slice aol acc.length capl) (fun E => ex_move rfl (E.v oe5)) ?_
      refine QSeq.pure rfl (.slice aol acc.length capl) (fun E => ex_assign rfl (E.d 0 0)) ?_
      refine QSeq.nil (t' := [_, _]) rfl ?_
      have ha0 := HA0.out
      subst ha0
      clear HA0 hsz0 oe5
      simp only [putAll, Act.put, List.setIfInBounds_toArray, List.set_cons_zero, List.set_cons_succ]
      go_wp2
      go_ret
      have hq := HG.out
      rw [Nat.sub_self] at hq
      have e := HGL.out
      rw [← hq] at e
      refine ⟨_, rfl, ?_, ?_, HML.out⟩
      · rw [e]; exact HAL.out.rd.widen (by intro b h1; (try dsimp only at h1 ⊢); omega)
      · rw [e]; exact HRL.out
set_option maxHeartbeats 4000000 in
theorem cList_Dn : GetsL DnR 125 150 151 gDn := by
  intro R r s w hR hB hl
  have HRD := Lib.hid hR
  have HBR := Lib.hid hB
  have HLN := Lib.hid hl
  clear hR hB hl
  go_enter Try.func150, Try.ntmps150
  go_upto_region 2 with (fail)
  have HM0 := hid (Mod.refl (fun k => (R k)) w)
  go_upto_region 2 with (fail)
  generalize ha0 : Act.mk _ _ = a0
  have oe0 : a0.eval (.tmp 0) = .pointer (some ⟨r, 0, none⟩) := by rw [← ha0]; rfl
  have hsz0 : a0.tmps.size = 21 := by rw [← ha0]; rfl
  have HA0 := hid ha0
  clear ha0
  refine wp_region_S 21 hsz0 [6, 7, 8] [0, 1, 2] ?_
  refine QSeq.pure rfl (.pointer (some ⟨r, 0, none⟩)) (fun E => ex_move rfl (E.v oe0)) ?_
  refine QSeq.go fun act E => ?_
  refine qc_callF (args := #[.pointer (some ⟨r, 0, none⟩), .int .i64 100]) rfl (wanted_none rfl) rfl Try.func115 (args2 (E.d 0 0) rfl) (RInt_R HRD.out (by decide)) ?_
  rintro e u2_1 ⟨rfl, qrd, hm⟩
  refine ⟨_, rfl, ?_⟩
  have Hx1 := hid qrd
  have zu2_1 := hm.size
  have Cx2 := hid (show Mod (fun k => (R k)) w u2_1 from hm)
  clear hm
  clear act E qrd HRD
  refine QSeq.pure rfl (.int .i64 0) (fun E => ex_move rfl rfl) ?_
  refine QSeq.nil (t' := [_, _, _]) rfl ?_
  have ha0 := HA0.out
  subst ha0
  clear HA0 hsz0 oe0
  simp only [putAll, Act.put, List.setIfInBounds_toArray, List.set_cons_zero, List.set_cons_succ]
  obtain ⟨n, hn⟩ : ∃ n, n = (rInt 100 s).1 := ⟨_, rfl⟩
  obtain ⟨s1, hs1⟩ : ∃ z, z = (rInt 100 s).2 := ⟨_, rfl⟩
  have hn100 : n ≤ 100 := by have := rInt_le 100 s; omega
  have HLS := hid (show (s1.getD []).length ≤ 900000 by rw [hs1]; exact Nat.le_trans ((rInt_suf 100).len s) HLN.out)
  have HGL := hid (show gList gDn s = gItems gDn n [] s1 by rw [hn, hs1]; rfl)
  rw [← hn]
  have hq := Hx1.out
  rw [← hs1] at hq
  have HR1 := Lib.hid hq
  clear hq hn hs1 HLN
  go_wp2
  go_loopw [5, 8] (fun ta ti wr => ∃ (k : Nat) (acc : List Dn) (st : RSt), ti = .int .i64 (k : Int) ∧ k ≤ n ∧ acc.length = k ∧ (st.getD []).length ≤ 900000 ∧ gItems gDn (n - k) acc st = gItems gDn n [] s1 ∧ u2_1.heap.size ≤ wr.heap.size ∧ OwS DnR 34 (fun b => w.heap.size ≤ b ∧ b < wr.heap.size) (fun b => w.heap.size ≤ b ∧ b < wr.heap.size) wr ta acc ∧ RrR 125 R wr r st ∧ Mod R w wr) (fun _ ti _ => n - (intOf ti).toNat)
  case atStart => exact ⟨0, [], s1, rfl, Nat.zero_le _, rfl, HLS.out, rfl, Nat.le_refl _, OwS.nil _ _ _ _ _, HR1.out, (HM0.out.trans Cx2.out (fun _ _ h => h))⟩
  case round =>
    obtain ⟨k, acc, st, rfl, hk, hka, hst, hg, hz, ha, hr, hm⟩ := hrel
    obtain ⟨wl, rfl⟩ : ∃ x, x = wr := ⟨_, rfl⟩
    obtain ⟨aol, capl, rfl⟩ := ha.shape
    have HAL := Lib.hid ha
    have HRL := Lib.hid hr
    have HML := Lib.hid hm
    have HST := Lib.hid hst
    have HG := Lib.hid hg
    have HKA := Lib.hid hka
    clear ha hr hm hst hg hka HR1 HM0
    by_cases hlt : k < n
    · skip
      go_upto_region 3 with (fail)
      generalize ha0 : Act.mk _ _ = a0
      have oe7 : a0.eval (.tmp 7) = .int .i64 ((n : Nat) : Int) := by rw [← ha0]; rfl
      have oe8 : a0.eval (.tmp 8) = .int .i64 ((k : Nat) : Int) := by rw [← ha0]; rfl
      have hsz0 : a0.tmps.size = 21 := by rw [← ha0]; rfl
      have HA0 := hid ha0
      clear ha0
      refine wp_region_S 21 hsz0 [9] [0] ?_
      refine QSeq.pure rfl (.bool true) (fun E => ex_binE rfl (E.v oe8) (E.v oe7) (guard_ints _ _ _ _ _ _) (run_lss_i _ _ _ Try.underlying3) (congrArg Value.bool (decide_eq_true (by omega)))) ?_
      refine QSeq.nil (t' := [_]) rfl ?_
      have ha0 := HA0.out
      subst ha0
      clear HA0 hsz0 oe7 oe8
      simp only [putAll, Act.put, List.setIfInBounds_toArray, List.set_cons_zero, List.set_cons_succ]
      obtain ⟨p, hp⟩ : ∃ p, p = gDn st := ⟨_, rfl⟩
      obtain ⟨x, st2⟩ := p
      have HP1 := hid (congrArg Prod.fst hp.symm)
      have HP2 := hid (congrArg Prod.snd hp.symm)
      clear hp
      dsimp only at HP1 HP2
      have HST2 := hid (show (st2.getD []).length ≤ 900000 by rw [← HP2.out]; exact Nat.le_trans (gDn_suf.len st) HST.out)
      have HGN := hid (show gItems gDn (n - k) acc st = if st2 = none then ([], none) else gItems gDn (n - (k + 1)) (acc ++ [x]) st2 by rw [show n - k = (n - (k + 1)) + 1 by omega]; show (if (gDn st).2 = none then _ else _) = _; rw [HP2.out, HP1.out])
      go_upto_region 4 with (fail)
      generalize ha0 : Act.mk _ _ = a0
      have oe0 : a0.eval (.tmp 0) = .pointer (some ⟨r, 0, none⟩) := by rw [← ha0]; rfl
      have oe1 : a0.eval (.tmp 1) = .func (.func 151) #[] #[] := by rw [← ha0]; rfl
      have oe5 : a0.eval (.tmp 5) = .slice aol acc.length capl := by rw [← ha0]; rfl
      have hsz0 : a0.tmps.size = 21 := by rw [← ha0]; rfl
      have HA0 := hid ha0
      clear ha0
      refine wp_region_S 21 hsz0 [10, 11, 12, 13, 14, 15, 5] [0, 1, 2, 3, 4, 5, 6] ?_
      refine QSeq.pure rfl (.slice aol acc.length capl) (fun E => ex_move rfl (E.y 6 oe5)) ?_
      refine QSeq.pure rfl (.func (.func 151) #[] #[]) (fun E => ex_move rfl (E.v oe1)) ?_
      refine QSeq.pure rfl (.pointer (some ⟨r, 0, none⟩)) (fun E => ex_move rfl (E.v oe0)) ?_
      refine QSeq.go fun act E => ?_
      have ea12 : act.eval (.tmp 12) = .pointer (some ⟨r, 0, none⟩) := (E.d 2 0)
      refine qc_call (args := #[.pointer (some ⟨r, 0, none⟩)]) rfl (wanted_none rfl) (by rw [ex_callV rfl (E.d 1 1) Try.func151 (by kernel_rfl) (by kernel_rfl)]; exact congrArg (fun z => Result.ok (Next.enter _ z) _) (by simp only [List.map_toArray, List.map_cons, List.map_nil, ea12]; try rfl)) ((cDn_G).to HP1.out HP2.out HRL.out (by intro k h1; have hb := HBR.out k h1; omega) HST.out) ?_
      rintro e u4_3 ⟨cs, rfl, qel, qrd, hm⟩
      refine ⟨_, rfl, ?_⟩
      have Hx3 := hid (qel.widen (R' := (fun k => (New wl u4_3 k))) (fun _ h => h))
      have Hx4 := hid qrd
      have zu4_3 := hm.size
      have Cx5 := hid (show Mod (fun k => (R k)) wl u4_3 from hm)
      clear hm
      clear act E qel qrd HRL ea12
      refine QSeq.go fun act E => ?_
      refine qc_buildS (e := 34) (cs := cs) (zc := [.int .i64 0, .int .i64 0, .int .i64 0, .int .i64 0]) (sz := 4) rfl (wanted_none rfl) rfl Try.underlying88 (by kernel_rfl) rfl (by decide) (by decide) (E.d 3 0) (DnR.len Hx3.out) ?_
      intro u4_4 qrow hm
      have zl4_4 := qrow.lt
      have Hx6 := hid qrow
      have zu4_4 := hm.size
      have HMu4_4 := hid hm
      have Cx7 := hid (Cx5.out.goE hm)
      clear hm Cx5
      clear act E qrow
      refine QSeq.go fun act E => ?_
      refine qc_appS (A := DnR) (e := 34) rfl (wanted_none rfl) rfl (.agg #[.int .i64 0, .int .i64 0, .int .i64 0, .int .i64 0]) 32 Try.underlying88 info_Dn (by rfl) (of_decide_eq_true (by kernel_rfl)) (E.d 0 4) (E.d 4 0) ((HAL.out.mod Cx7.out (by intro k h1 h2; have hb := HBR.out k h2; omega) (by intro k h1 h2; have hb := HBR.out k h2; omega))) (RdS.single (R := (fun k => (New wl u4_3 k) ∨ (k = u4_3.heap.size))) Hx6.out ((Hx3.out.mod HMu4_4.out (fun _ _ h => h)).widen (by intro k h1; first | omega | exact h1.elim | exact Or.inl h1 | exact Or.inr (h1))) (by first | exact Or.inr rfl | exact Or.inr (Or.inr rfl) | (right; omega))) (by intro k h1 h2; omega) (by rw [HKA.out]; simp only [List.length_cons, List.length_nil]; omega) (by rw [HKA.out]; simp only [List.length_cons, List.length_nil]; rw [maxLen_val]; omega) ?_
      intro ao4 cap4 u4_5 qout hm
      have Hx8 := hid (qout.widen (R' := (fun k => (New w wl k) ∨ (New u4_4 u4_5 k))) (E' := (fun k => (New w wl k) ∨ (New wl u4_3 k) ∨ (k = u4_3.heap.size))) (fun _ h => h) (by intro k h1; rcases h1 with h1 | (h1 | h1) <;> first | omega | exact h1.elim | exact Or.inl h1 | exact Or.inr (Or.inl h1) | exact Or.inr (Or.inr (h1))))
      have zu4_5 := hm.size
      have HMu4_5 := hid hm
      have Cx9 := hid (Mod.goS (S' := (fun k => (R k) ∨ (New w wl k))) Cx7.out hm (fun _ h => Or.inl h) (by intro k h0 h2; exact Or.inr (h2)))
      clear hm Cx7
      clear act E qout HAL
      refine QSeq.pure rfl (.slice ao4 (acc.length + 1) cap4) (fun E => ex_assign rfl (E.d 5 0)) ?_
      have Hx10 := hid ((Hx4.out.mod HMu4_4.out (fun _ _ h => h)).mod HMu4_5.out (by intro k h1 h2; have hb := HBR.out k h1; omega))
      have Hx11 := hid ((Hx3.out.mod HMu4_4.out (fun _ _ h => h)).mod HMu4_5.out (by intro k h1 h2; omega))
      have Hx12 := hid (Hx6.out.mod HMu4_5.out (by intro h2; omega))
      clear Hx4 Hx3 Hx6 HMu4_4 HMu4_5
      refine QSeq.nil (t' := [_, _, _, _, _, _, _]) rfl ?_
      have ha0 := HA0.out
      subst ha0
      clear HA0 hsz0 oe0 oe1 oe5
      simp only [putAll, Act.put, List.setIfInBounds_toArray, List.set_cons_zero, List.set_cons_succ]
      clear Hx11
      clear Hx12
      cases st2 with
      | none =>
        go_upto_region 5 with (fail)
        generalize ha0 : Act.mk _ _ = a0
        have oe0 : a0.eval (.tmp 0) = .pointer (some ⟨r, 0, none⟩) := by rw [← ha0]; rfl
        have hsz0 : a0.tmps.size = 21 := by rw [← ha0]; rfl
        have HA0 := hid ha0
        clear ha0
        refine wp_region_S 21 hsz0 [16, 17, 18] [0, 1, 2] ?_
        refine QSeq.pure rfl (.pointer (some ⟨r, 0, none⟩)) (fun E => ex_move rfl (E.v oe0)) ?_
        refine QSeq.go fun act E => ?_
        refine qc_callF (args := #[.pointer (some ⟨r, 0, none⟩)]) rfl (wanted_none rfl) rfl Try.func39 (args1 (E.d 0 0)) (OK_R Hx10.out) ?_
        rintro e w2 ⟨rfl, hw2⟩
        obtain rfl : u4_5 = w2 := by first | exact hw2 | exact hw2.symm
        refine ⟨_, rfl, ?_⟩
        clear act E
        refine QSeq.pure rfl (.bool true) (fun E => ex_not rfl (E.d 1 0)) ?_
        refine QSeq.nil (t' := [_, _, _]) rfl ?_
        have ha0 := HA0.out
        subst ha0
        clear HA0 hsz0 oe0
        simp only [putAll, Act.put, List.setIfInBounds_toArray, List.set_cons_zero, List.set_cons_succ]
        go_upto_region 6 with (fail)
        generalize ha0 : Act.mk _ _ = a0
        have hsz0 : a0.tmps.size = 21 := by rw [← ha0]; rfl
        have HA0 := hid ha0
        clear ha0
        refine wp_region_S 21 hsz0 [4] [0] ?_
        refine QSeq.pure rfl (.slice none 0 0) (fun E => ex_assign rfl rfl) ?_
        refine QSeq.nil (t' := [_]) rfl ?_
        have ha0 := HA0.out
        subst ha0
        clear HA0 hsz0
        simp only [putAll, Act.put, List.setIfInBounds_toArray, List.set_cons_zero, List.set_cons_succ]
        go_wp2
        go_ret
        have hq := HG.out
        rw [HGN.out, if_pos trivial] at hq
        have e := HGL.out
        rw [← hq] at e
        refine ⟨_, rfl, ?_, ?_, (HML.out.trans Cx9.out (by intro k h1 h2; rcases h2 with h2 | h2 <;> first | exact h2 | omega | (have hb := HBR.out k h2; omega)))⟩
        · rw [e]; exact RdS.nil _ _ _
        · rw [e]; exact Hx10.out
      | some l2 =>
        go_upto_region 5 with (fail)
        generalize ha0 : Act.mk _ _ = a0
        have oe0 : a0.eval (.tmp 0) = .pointer (some ⟨r, 0, none⟩) := by rw [← ha0]; rfl
        have hsz0 : a0.tmps.size = 21 := by rw [← ha0]; rfl
        have HA0 := hid ha0
        clear ha0
        refine wp_region_S 21 hsz0 [16, 17, 18] [0, 1, 2] ?_
        refine QSeq.pure rfl (.pointer (some ⟨r, 0, none⟩)) (fun E => ex_move rfl (E.v oe0)) ?_
        refine QSeq.go fun act E => ?_
        refine qc_callF (args := #[.pointer (some ⟨r, 0, none⟩)]) rfl (wanted_none rfl) rfl Try.func39 (args1 (E.d 0 0)) (OK_R Hx10.out) ?_
        rintro e w2 ⟨rfl, hw2⟩
        obtain rfl : u4_5 = w2 := by first | exact hw2 | exact hw2.symm
        refine ⟨_, rfl, ?_⟩
        clear act E
        refine QSeq.pure rfl (.bool false) (fun E => ex_not rfl (E.d 1 0)) ?_
        refine QSeq.nil (t' := [_, _, _]) rfl ?_
        have ha0 := HA0.out
        subst ha0
        clear HA0 hsz0 oe0
        simp only [putAll, Act.put, List.setIfInBounds_toArray, List.set_cons_zero, List.set_cons_succ]
        go_upto_region 7 with (fail)
        generalize ha0 : Act.mk _ _ = a0
        have oe8 : a0.eval (.tmp 8) = .int .i64 ((k : Nat) : Int) := by rw [← ha0]; rfl
        have hsz0 : a0.tmps.size = 21 := by rw [← ha0]; rfl
        have HA0 := hid ha0
        clear ha0
        refine wp_region_S 21 hsz0 [19, 8] [0, 1] ?_
        refine QSeq.pure rfl (.int .i64 (((k : Nat) : Int) + 1)) (fun E => ex_binE rfl (E.y 1 oe8) rfl (guard_ints _ _ _ _ _ _) (run_add_i _ _ Try.underlying3) (congrArg (Value.int .i64) (IntWalk.i64_in _ (by omega)))) ?_
        refine QSeq.pure rfl (.int .i64 (((k : Nat) : Int) + 1)) (fun E => ex_move rfl (E.d 0 0)) ?_
        refine QSeq.nil (t' := [_, _]) rfl ?_
        have ha0 := HA0.out
        subst ha0
        clear HA0 hsz0 oe8
        simp only [putAll, Act.put, List.setIfInBounds_toArray, List.set_cons_zero, List.set_cons_succ]
        go_wp2
        go_roundw
        case rel => exact ⟨k + 1, acc ++ [x], some l2, by go_num, by omega, by rw [List.length_append, HKA.out]; rfl, HST2.out, (by have hq := HG.out; rw [HGN.out, if_neg (by simp)] at hq; exact hq), by omega, (Hx8.out.widen (by intro b h1; omega) (by intro b h1; rcases h1 with h1 | h1 | h1 <;> first | omega | exact h1.elim)), Hx10.out, (HML.out.trans Cx9.out (by intro k h1 h2; rcases h2 with h2 | h2 <;> first | exact h2 | omega | (have hb := HBR.out k h2; omega)))⟩
        case measure => simp [intOf] <;> omega
    · obtain rfl : n = k := by omega
      go_upto_region 3 with (fail)
      generalize ha0 : Act.mk _ _ = a0
      have oe7 : a0.eval (.tmp 7) = .int .i64 ((n : Nat) : Int) := by rw [← ha0]; rfl
      have oe8 : a0.eval (.tmp 8) = .int .i64 ((n : Nat) : Int) := by rw [← ha0]; rfl
      have hsz0 : a0.tmps.size = 21 := by rw [← ha0]; rfl
      have HA0 := hid ha0
      clear ha0
      refine wp_region_S 21 hsz0 [9] [0] ?_
      refine QSeq.pure rfl (.bool false) (fun E => ex_binE rfl (E.v oe8) (E.v oe7) (guard_ints _ _ _ _ _ _) (run_lss_i _ _ _ Try.underlying3) (congrArg Value.bool (decide_eq_false (by omega)))) ?_
      refine QSeq.nil (t' := [_]) rfl ?_
      have ha0 := HA0.out
      subst ha0
      clear HA0 hsz0 oe7 oe8
      simp only [putAll, Act.put, List.setIfInBounds_toArray, List.set_cons_zero, List.set_cons_succ]
      go_upto_region 8 with (fail)
      generalize ha0 : Act.mk _ _ = a0
      have oe5 : a0.eval (.tmp 5) = .slice aol acc.length capl := by rw [← ha0]; rfl
      have hsz0 : a0.tmps.size = 21 := by rw [← ha0]; rfl
      have HA0 := hid ha0
      clear ha0
      refine wp_region_S 21 hsz0 [20, 4] [0, 1] ?_
      refine QSeq.pure rfl (.slice aol acc.length capl) (fun E => ex_move rfl (E.v oe5)) ?_
      refine QSeq.pure rfl (.slice aol acc.length capl) (fun E => ex_assign rfl (E.d 0 0)) ?_
      refine QSeq.nil (t' := [_, _]) rfl ?_
      have ha0 := HA0.out
      subst ha0
      clear HA0 hsz0 oe5
      simp only [putAll, Act.put, List.setIfInBounds_toArray, List.set_cons_zero, List.set_cons_succ]
      go_wp2
      go_ret
      have hq := HG.out
      rw [Nat.sub_self] at hq
      have e := HGL.out
      rw [← hq] at e
      refine ⟨_, rfl, ?_, ?_, HML.out⟩
      · rw [e]; exact HAL.out.rd.widen (by intro b h1; (try dsimp only at h1 ⊢); omega)
      · rw [e]; exact HRL.out
end Go.Proofs.Ytknpapcfhnhheaa

/- Parts of messages, read. -/
set_option maxRecDepth 100000
set_option linter.unusedVariables false
namespace Go.Proofs.Ytknpapcfhnhheaa
open Go Go.RowKit Go.Gv

theorem ce_len (x : Ce) (v : Value) (h : x.c.h.length = 32) : (x.cells v).length = 38 := by simp [Ce.cells, Cm.len h]
theorem op_len2 (x : Op) (v : Value) (h : x.nc.length = 32) : (x.cells v).length = 34 := by simp [Op.cells, h]
theorem one_ce2 (x : Ce) (v : Value) (h : v.oneCell' = true) : ∀ u ∈ x.cells v, u.oneCell' = true := by
  intro u hu
  simp only [Ce.cells, List.mem_append, List.mem_cons, List.not_mem_nil, or_false] at hu
  rcases hu with hu | rfl
  · exact Cm_one _ _ hu
  · exact h
theorem one_op2 (x : Op) (v : Value) (h : v.oneCell' = true) : ∀ u ∈ x.cells v, u.oneCell' = true := by
  intro u hu
  simp only [Op.cells, List.mem_append, List.mem_cons, List.not_mem_nil, or_false, List.mem_map] at hu
  rcases hu with (rfl | rfl) | ⟨y, -, rfl⟩
  · rfl
  · exact h
  · rfl
set_option maxHeartbeats 4000000 in
theorem cCe_G : Gets CeR 125 81 gCe := by
  intro R r s w hR hB hl
  have HRD := Lib.hid hR
  have HBR := Lib.hid hB
  have HBY := hid hR.bytes
  clear hR hB
  have HLN := Lib.hid hl
  clear hl
  go_enter Try.func81, Try.ntmps81
  go_upto_region 1 with (fail)
  obtain ⟨w1, hw1⟩ : ∃ zz, zz = (w.alloc (.cells #[.int .i64 0, .int .i64 0, .int .u8 0, .int .u8 0, .int .u8 0, .int .u8 0, .int .u8 0, .int .u8 0, .int .u8 0, .int .u8 0, .int .u8 0, .int .u8 0, .int .u8 0, .int .u8 0, .int .u8 0, .int .u8 0, .int .u8 0, .int .u8 0, .int .u8 0, .int .u8 0, .int .u8 0, .int .u8 0, .int .u8 0, .int .u8 0, .int .u8 0, .int .u8 0, .int .u8 0, .int .u8 0, .int .u8 0, .int .u8 0, .int .u8 0, .int .u8 0, .int .u8 0, .int .u8 0, .int .i64 0, .int .i64 0, .int .i64 0, .slice none 0 0] 52)) := ⟨_, rfl⟩
  change Code.wp _ _ _ _ (w.alloc (.cells #[.int .i64 0, .int .i64 0, .int .u8 0, .int .u8 0, .int .u8 0, .int .u8 0, .int .u8 0, .int .u8 0, .int .u8 0, .int .u8 0, .int .u8 0, .int .u8 0, .int .u8 0, .int .u8 0, .int .u8 0, .int .u8 0, .int .u8 0, .int .u8 0, .int .u8 0, .int .u8 0, .int .u8 0, .int .u8 0, .int .u8 0, .int .u8 0, .int .u8 0, .int .u8 0, .int .u8 0, .int .u8 0, .int .u8 0, .int .u8 0, .int .u8 0, .int .u8 0, .int .u8 0, .int .u8 0, .int .i64 0, .int .i64 0, .int .i64 0, .slice none 0 0] 52))
  rw [← hw1]
  have HB2 := hid (show Cs w1 (w.heap.size) #[.int .i64 0, .int .i64 0, .int .u8 0, .int .u8 0, .int .u8 0, .int .u8 0, .int .u8 0, .int .u8 0, .int .u8 0, .int .u8 0, .int .u8 0, .int .u8 0, .int .u8 0, .int .u8 0, .int .u8 0, .int .u8 0, .int .u8 0, .int .u8 0, .int .u8 0, .int .u8 0, .int .u8 0, .int .u8 0, .int .u8 0, .int .u8 0, .int .u8 0, .int .u8 0, .int .u8 0, .int .u8 0, .int .u8 0, .int .u8 0, .int .u8 0, .int .u8 0, .int .u8 0, .int .u8 0, .int .i64 0, .int .i64 0, .int .i64 0, .slice none 0 0] 52 by rw [hw1]; exact Cs.new _ _ _)
  have hm : Mod (fun _ => False) w w1 := by rw [hw1]; exact (Mod.refl _ _).alloc _
  have HM0 := hid (show Mod (fun k => (R k)) w w1 from hm.mono (fun _ _ h => h.elim))
  have hs1 : w1.heap.size = w.heap.size + 1 := by rw [hw1]; simp
  have Hx1 := hid (HRD.out.mod hm (fun _ _ h => h))
  clear HRD
  clear hw1 hm
  go_upto_region 1 with (fail)
  generalize ha0 : Act.mk _ _ = a0
  have oe0 : a0.eval (.tmp 0) = .pointer (some ⟨r, 0, none⟩) := by rw [← ha0]; rfl
  have oe2 : a0.eval (.tmp 2) = .pointer (some ⟨w.heap.size, 0, none⟩) := by rw [← ha0]; rfl
  have hsz0 : a0.tmps.size = 8 := by rw [← ha0]; rfl
  have HA0 := hid ha0
  clear ha0
  refine wp_region_S 8 hsz0 [3, 4, 5, 6, 7, 13] [0, 1, 2, 3, 4, 5] ?_
  refine QSeq.pure rfl (.pointer (some ⟨r, 0, none⟩)) (fun E => ex_move rfl (E.v oe0)) ?_
  refine QSeq.go fun act E => ?_
  refine qc_callF (args := #[.pointer (some ⟨r, 0, none⟩)]) rfl (wanted_none rfl) rfl Try.func109 (args1 (E.d 0 0)) (cCm_Q _ _ _ _ Hx1.out (by intro k h1; have hb := HBR.out k h1; omega)) ?_
  rintro e u1_1 ⟨rfl, qrd, hm⟩
  refine ⟨_, rfl, ?_⟩
  have Hx2 := hid qrd
  have zu1_1 := hm.size
  have Cx3 := hid (show Mod (fun k => (R k)) w1 u1_1 from hm)
  clear hm
  clear act E qrd Hx1
  refine QSeq.pure rfl (.pointer (some ⟨r, 0, none⟩)) (fun E => ex_move rfl (E.v oe0)) ?_
  refine QSeq.go fun act E => ?_
  refine qc_callF (args := #[.pointer (some ⟨r, 0, none⟩), .func (.func 111) #[] #[]]) rfl (wanted_none rfl) rfl Try.func110 (args2 (E.d 2 0) rfl) (cList_St _ _ _ _ Hx2.out (by intro k h1; have hb := HBR.out k h1; omega) (Nat.le_trans (gCm_suf.len _) HLN.out)) ?_
  rintro e u1_3 ⟨vlSt, rfl, qlSt, qrd, hm⟩
  obtain ⟨ao_lSt, cap_lSt, rfl⟩ := qlSt.shape
  refine ⟨_, rfl, ?_⟩
  have Hx4 := hid (qlSt.widen (R' := (fun k => (New u1_1 u1_3 k))) (fun _ h => h))
  have Hx5 := hid qrd
  have zu1_3 := hm.size
  have HMu1_3 := hid hm
  have Cx6 := hid (Mod.goS (S' := (fun k => (R k))) Cx3.out hm (fun _ h => h) (by intro k h0 h2; exact h2))
  clear hm Cx3
  clear act E qlSt qrd Hx2
  refine QSeq.go fun act E => ?_
  refine qc_run rfl (wanted_none rfl) (v := .agg ((gCe s).1.cells (Value.slice ao_lSt (gList gSt (gCm s).2).1.length cap_lSt) : List Value).toArray) (ex_build rfl (z := [.int .i64 0, .int .i64 0, .int .u8 0, .int .u8 0, .int .u8 0, .int .u8 0, .int .u8 0, .int .u8 0, .int .u8 0, .int .u8 0, .int .u8 0, .int .u8 0, .int .u8 0, .int .u8 0, .int .u8 0, .int .u8 0, .int .u8 0, .int .u8 0, .int .u8 0, .int .u8 0, .int .u8 0, .int .u8 0, .int .u8 0, .int .u8 0, .int .u8 0, .int .u8 0, .int .u8 0, .int .u8 0, .int .u8 0, .int .u8 0, .int .u8 0, .int .u8 0, .int .u8 0, .int .u8 0, .int .i64 0, .int .i64 0, .int .i64 0, .slice none 0 0]) (places := [(0, 37), (37, 1)]) (by kernel_rfl) (parts := [(0, (gCm s).1.val), (1, .slice ao_lSt (gList gSt (gCm s).2).1.length cap_lSt)]) (by simp only [List.map_toArray, List.map_cons, List.map_nil, show act.eval (.tmp 4) = (gCm s).1.val from (E.d 1 2), show act.eval (.tmp 6) = .slice ao_lSt (gList gSt (gCm s).2).1.length cap_lSt from (E.d 3 0)]; try rfl) (r := (gCe s).1.cells (Value.slice ao_lSt (gList gSt (gCm s).2).1.length cap_lSt)) (by exact laid_segs (ns := [37, 1]) rfl [(0, (gCm s).1.val), (1, .slice ao_lSt (gList gSt (gCm s).2).1.length cap_lSt)] [[.int .i64 0, .int .i64 0, .int .u8 0, .int .u8 0, .int .u8 0, .int .u8 0, .int .u8 0, .int .u8 0, .int .u8 0, .int .u8 0, .int .u8 0, .int .u8 0, .int .u8 0, .int .u8 0, .int .u8 0, .int .u8 0, .int .u8 0, .int .u8 0, .int .u8 0, .int .u8 0, .int .u8 0, .int .u8 0, .int .u8 0, .int .u8 0, .int .u8 0, .int .u8 0, .int .u8 0, .int .u8 0, .int .u8 0, .int .u8 0, .int .u8 0, .int .u8 0, .int .u8 0, .int .u8 0, .int .i64 0, .int .i64 0, .int .i64 0], [.slice none 0 0]] rfl ⟨(szv (Cm.len (rHash_HK (gSig_suf.bytes HBY.out) |>.1))), rfl, trivial⟩)) ?_
  clear act E
  refine QSeq.go fun act E => ?_
  refine qc_store rfl (wanted_none rfl) rfl (HB2.out.mod Cx6.out (by intro h2; first | omega | (have hb := HBR.out _ h2; omega))) (off := 0) (vs := ((gCe s).1.cells (Value.slice ao_lSt (gList gSt (gCm s).2).1.length cap_lSt))) (by rw [show ((gCe s).1.cells (Value.slice ao_lSt (gList gSt (gCm s).2).1.length cap_lSt)).length = _ from (ce_len _ _ (gCm_OK HBY.out).2.1)]; kernel_rfl) (one_ce2 _ _ rfl) (by rw [show ((gCe s).1.cells (Value.slice ao_lSt (gList gSt (gCm s).2).1.length cap_lSt)).length = _ from (ce_len _ _ (gCm_OK HBY.out).2.1)]; decide) (E.v oe2) (by rw [show act.eval ((.tmp 7)) = _ from (E.d 4 0)]; rfl) ?_
  intro u1_5 qc0 hm
  have qB2 : Cs u1_5 (w.heap.size) (((gCe s).1.cells (Value.slice ao_lSt (gList gSt (gCm s).2).1.length cap_lSt)) : List Value).toArray 52 := by rw [show lay _ 0 _ = (((gCe s).1.cells (Value.slice ao_lSt (gList gSt (gCm s).2).1.length cap_lSt)) : List Value).toArray from lay_whole _ _ (by rw [show ((gCe s).1.cells (Value.slice ao_lSt (gList gSt (gCm s).2).1.length cap_lSt)).length = _ from (ce_len _ _ (gCm_OK HBY.out).2.1)]; rfl)] at qc0; exact qc0
  clear qc0
  have Hx7 := hid qB2
  have zu1_5 := hm.size
  have HMu1_5 := hid hm
  have Cx8 := hid (Mod.goS (S' := (fun k => (R k) ∨ (k = w.heap.size))) Cx6.out hm (fun _ h => Or.inl h) (by intro k h0 h2; exact Or.inr (h2)))
  clear hm Cx6
  clear act E qB2 HB2
  have Hx9 := hid (Hx5.out.mod HMu1_5.out (by intro k h1 h2; have hb := HBR.out k h1; omega))
  have Hx10 := hid (Hx4.out.mod HMu1_5.out (by intro k h1 h2; omega))
  clear Hx5 Hx4 HMu1_3 HMu1_5
  refine QSeq.nil (t' := [_, _, _, _, _, _]) rfl ?_
  have ha0 := HA0.out
  subst ha0
  clear HA0 hsz0 oe0 oe2
  simp only [putAll, Act.put, List.setIfInBounds_toArray, List.set_cons_zero, List.set_cons_succ, List.set_nil]
  go_wp2
  exact bodyPost_ret (results_cellA rfl _ _ w.heap.size ((gCe s).1.cells (Value.slice ao_lSt (gList gSt (gCm s).2).1.length cap_lSt)) rfl (fun k u hu => by rw [Hx7.out.cell]; simpa using hu) Try.underlying52 rfl (by rw [show ((gCe s).1.cells (Value.slice ao_lSt (gList gSt (gCm s).2).1.length cap_lSt)).length = _ from (ce_len _ _ (gCm_OK HBY.out).2.1)]; kernel_rfl)) rfl ⟨_, rfl, ⟨_, rfl, gCe_OK HBY.out, (Hx10.out.widen (R' := (fun k => New w u1_5 k)) (by intro k h1; omega))⟩, Hx9.out, (HM0.out.trans Cx8.out (by intro k h1 h2; rcases h2 with h2 | h2 <;> first | exact h2 | omega | (have hb := HBR.out k h2; omega)))⟩
set_option maxHeartbeats 4000000 in
theorem cList_Ce : GetsL CeR 125 117 81 gCe := by
  intro R r s w hR hB hl
  have HRD := Lib.hid hR
  have HBR := Lib.hid hB
  have HLN := Lib.hid hl
  clear hR hB hl
  go_enter Try.func117, Try.ntmps117
  go_upto_region 2 with (fail)
  have HM0 := hid (Mod.refl (fun k => (R k)) w)
  go_upto_region 2 with (fail)
  generalize ha0 : Act.mk _ _ = a0
  have oe0 : a0.eval (.tmp 0) = .pointer (some ⟨r, 0, none⟩) := by rw [← ha0]; rfl
  have hsz0 : a0.tmps.size = 21 := by rw [← ha0]; rfl
  have HA0 := hid ha0
  clear ha0
  refine wp_region_S 21 hsz0 [6, 7, 8] [0, 1, 2] ?_
  refine QSeq.pure rfl (.pointer (some ⟨r, 0, none⟩)) (fun E => ex_move rfl (E.v oe0)) ?_
  refine QSeq.go fun act E => ?_
  refine qc_callF (args := #[.pointer (some ⟨r, 0, none⟩), .int .i64 100]) rfl (wanted_none rfl) rfl Try.func115 (args2 (E.d 0 0) rfl) (RInt_R HRD.out (by decide)) ?_
  rintro e u2_1 ⟨rfl, qrd, hm⟩
  refine ⟨_, rfl, ?_⟩
  have Hx1 := hid qrd
  have zu2_1 := hm.size
  have Cx2 := hid (show Mod (fun k => (R k)) w u2_1 from hm)
  clear hm
  clear act E qrd HRD
  refine QSeq.pure rfl (.int .i64 0) (fun E => ex_move rfl rfl) ?_
  refine QSeq.nil (t' := [_, _, _]) rfl ?_
  have ha0 := HA0.out
  subst ha0
  clear HA0 hsz0 oe0
  simp only [putAll, Act.put, List.setIfInBounds_toArray, List.set_cons_zero, List.set_cons_succ]
  obtain ⟨n, hn⟩ : ∃ n, n = (rInt 100 s).1 := ⟨_, rfl⟩
  obtain ⟨s1, hs1⟩ : ∃ z, z = (rInt 100 s).2 := ⟨_, rfl⟩
  have hn100 : n ≤ 100 := by have := rInt_le 100 s; omega
  have HLS := hid (show (s1.getD []).length ≤ 900000 by rw [hs1]; exact Nat.le_trans ((rInt_suf 100).len s) HLN.out)
  have HGL := hid (show gList gCe s = gItems gCe n [] s1 by rw [hn, hs1]; rfl)
  rw [← hn]
  have hq := Hx1.out
  rw [← hs1] at hq
  have HR1 := Lib.hid hq
  clear hq hn hs1 HLN
  go_wp2
  go_loopw [5, 8] (fun ta ti wr => ∃ (k : Nat) (acc : List Ce) (st : RSt), ti = .int .i64 (k : Int) ∧ k ≤ n ∧ acc.length = k ∧ (st.getD []).length ≤ 900000 ∧ gItems gCe (n - k) acc st = gItems gCe n [] s1 ∧ u2_1.heap.size ≤ wr.heap.size ∧ OwS CeR 52 (fun b => w.heap.size ≤ b ∧ b < wr.heap.size) (fun b => w.heap.size ≤ b ∧ b < wr.heap.size) wr ta acc ∧ RrR 125 R wr r st ∧ Mod R w wr) (fun _ ti _ => n - (intOf ti).toNat)
  case atStart => exact ⟨0, [], s1, rfl, Nat.zero_le _, rfl, HLS.out, rfl, Nat.le_refl _, OwS.nil _ _ _ _ _, HR1.out, (HM0.out.trans Cx2.out (fun _ _ h => h))⟩
  case round =>
    obtain ⟨k, acc, st, rfl, hk, hka, hst, hg, hz, ha, hr, hm⟩ := hrel
    obtain ⟨wl, rfl⟩ : ∃ x, x = wr := ⟨_, rfl⟩
    obtain ⟨aol, capl, rfl⟩ := ha.shape
    have HAL := Lib.hid ha
    have HRL := Lib.hid hr
    have HML := Lib.hid hm
    have HST := Lib.hid hst
    have HG := Lib.hid hg
    have HKA := Lib.hid hka
    clear ha hr hm hst hg hka HR1 HM0
    by_cases hlt : k < n
    · skip
      go_upto_region 3 with (fail)
      generalize ha0 : Act.mk _ _ = a0
      have oe7 : a0.eval (.tmp 7) = .int .i64 ((n : Nat) : Int) := by rw [← ha0]; rfl
      have oe8 : a0.eval (.tmp 8) = .int .i64 ((k : Nat) : Int) := by rw [← ha0]; rfl
      have hsz0 : a0.tmps.size = 21 := by rw [← ha0]; rfl
      have HA0 := hid ha0
      clear ha0
      refine wp_region_S 21 hsz0 [9] [0] ?_
      refine QSeq.pure rfl (.bool true) (fun E => ex_binE rfl (E.v oe8) (E.v oe7) (guard_ints _ _ _ _ _ _) (run_lss_i _ _ _ Try.underlying3) (congrArg Value.bool (decide_eq_true (by omega)))) ?_
      refine QSeq.nil (t' := [_]) rfl ?_
      have ha0 := HA0.out
      subst ha0
      clear HA0 hsz0 oe7 oe8
      simp only [putAll, Act.put, List.setIfInBounds_toArray, List.set_cons_zero, List.set_cons_succ]
      obtain ⟨p, hp⟩ : ∃ p, p = gCe st := ⟨_, rfl⟩
      obtain ⟨x, st2⟩ := p
      have HP1 := hid (congrArg Prod.fst hp.symm)
      have HP2 := hid (congrArg Prod.snd hp.symm)
      clear hp
      dsimp only at HP1 HP2
      have HST2 := hid (show (st2.getD []).length ≤ 900000 by rw [← HP2.out]; exact Nat.le_trans (gCe_suf.len st) HST.out)
      have HGN := hid (show gItems gCe (n - k) acc st = if st2 = none then ([], none) else gItems gCe (n - (k + 1)) (acc ++ [x]) st2 by rw [show n - k = (n - (k + 1)) + 1 by omega]; show (if (gCe st).2 = none then _ else _) = _; rw [HP2.out, HP1.out])
      go_upto_region 4 with (fail)
      generalize ha0 : Act.mk _ _ = a0
      have oe0 : a0.eval (.tmp 0) = .pointer (some ⟨r, 0, none⟩) := by rw [← ha0]; rfl
      have oe1 : a0.eval (.tmp 1) = .func (.func 81) #[] #[] := by rw [← ha0]; rfl
      have oe5 : a0.eval (.tmp 5) = .slice aol acc.length capl := by rw [← ha0]; rfl
      have hsz0 : a0.tmps.size = 21 := by rw [← ha0]; rfl
      have HA0 := hid ha0
      clear ha0
      refine wp_region_S 21 hsz0 [10, 11, 12, 13, 14, 15, 5] [0, 1, 2, 3, 4, 5, 6] ?_
      refine QSeq.pure rfl (.slice aol acc.length capl) (fun E => ex_move rfl (E.y 6 oe5)) ?_
      refine QSeq.pure rfl (.func (.func 81) #[] #[]) (fun E => ex_move rfl (E.v oe1)) ?_
      refine QSeq.pure rfl (.pointer (some ⟨r, 0, none⟩)) (fun E => ex_move rfl (E.v oe0)) ?_
      refine QSeq.go fun act E => ?_
      have ea12 : act.eval (.tmp 12) = .pointer (some ⟨r, 0, none⟩) := (E.d 2 0)
      refine qc_call (args := #[.pointer (some ⟨r, 0, none⟩)]) rfl (wanted_none rfl) (by rw [ex_callV rfl (E.d 1 1) Try.func81 (by kernel_rfl) (by kernel_rfl)]; exact congrArg (fun z => Result.ok (Next.enter _ z) _) (by simp only [List.map_toArray, List.map_cons, List.map_nil, ea12]; try rfl)) ((cCe_G).to HP1.out HP2.out HRL.out (by intro k h1; have hb := HBR.out k h1; omega) HST.out) ?_
      rintro e u4_3 ⟨cs, rfl, qel, qrd, hm⟩
      refine ⟨_, rfl, ?_⟩
      have Hx3 := hid (qel.widen (R' := (fun k => (New wl u4_3 k))) (fun _ h => h))
      have Hx4 := hid qrd
      have zu4_3 := hm.size
      have Cx5 := hid (show Mod (fun k => (R k)) wl u4_3 from hm)
      clear hm
      clear act E qel qrd HRL ea12
      refine QSeq.go fun act E => ?_
      refine qc_buildS (e := 52) (cs := cs) (zc := [.int .i64 0, .int .i64 0, .int .u8 0, .int .u8 0, .int .u8 0, .int .u8 0, .int .u8 0, .int .u8 0, .int .u8 0, .int .u8 0, .int .u8 0, .int .u8 0, .int .u8 0, .int .u8 0, .int .u8 0, .int .u8 0, .int .u8 0, .int .u8 0, .int .u8 0, .int .u8 0, .int .u8 0, .int .u8 0, .int .u8 0, .int .u8 0, .int .u8 0, .int .u8 0, .int .u8 0, .int .u8 0, .int .u8 0, .int .u8 0, .int .u8 0, .int .u8 0, .int .u8 0, .int .u8 0, .int .i64 0, .int .i64 0, .int .i64 0, .slice none 0 0]) (sz := 38) rfl (wanted_none rfl) rfl Try.underlying53 (by kernel_rfl) rfl (by decide) (by decide) (E.d 3 0) (CeR.len Hx3.out) ?_
      intro u4_4 qrow hm
      have zl4_4 := qrow.lt
      have Hx6 := hid qrow
      have zu4_4 := hm.size
      have HMu4_4 := hid hm
      have Cx7 := hid (Cx5.out.goE hm)
      clear hm Cx5
      clear act E qrow
      refine QSeq.go fun act E => ?_
      refine qc_appS (A := CeR) (e := 52) rfl (wanted_none rfl) rfl (.agg #[.int .i64 0, .int .i64 0, .int .u8 0, .int .u8 0, .int .u8 0, .int .u8 0, .int .u8 0, .int .u8 0, .int .u8 0, .int .u8 0, .int .u8 0, .int .u8 0, .int .u8 0, .int .u8 0, .int .u8 0, .int .u8 0, .int .u8 0, .int .u8 0, .int .u8 0, .int .u8 0, .int .u8 0, .int .u8 0, .int .u8 0, .int .u8 0, .int .u8 0, .int .u8 0, .int .u8 0, .int .u8 0, .int .u8 0, .int .u8 0, .int .u8 0, .int .u8 0, .int .u8 0, .int .u8 0, .int .i64 0, .int .i64 0, .int .i64 0, .slice none 0 0]) 96 Try.underlying53 info_Ce (by rfl) (of_decide_eq_true (by kernel_rfl)) (E.d 0 4) (E.d 4 0) ((HAL.out.mod Cx7.out (by intro k h1 h2; have hb := HBR.out k h2; omega) (by intro k h1 h2; have hb := HBR.out k h2; omega))) (RdS.single (R := (fun k => (New wl u4_3 k) ∨ (k = u4_3.heap.size))) Hx6.out ((Hx3.out.mod HMu4_4.out (fun _ _ h => h)).widen (by intro k h1; first | omega | exact h1.elim | exact Or.inl h1 | exact Or.inr (h1))) (by first | exact Or.inr rfl | exact Or.inr (Or.inr rfl) | (right; omega))) (by intro k h1 h2; omega) (by rw [HKA.out]; simp only [List.length_cons, List.length_nil]; omega) (by rw [HKA.out]; simp only [List.length_cons, List.length_nil]; rw [maxLen_val]; omega) ?_
      intro ao4 cap4 u4_5 qout hm
      have Hx8 := hid (qout.widen (R' := (fun k => (New w wl k) ∨ (New u4_4 u4_5 k))) (E' := (fun k => (New w wl k) ∨ (New wl u4_3 k) ∨ (k = u4_3.heap.size))) (fun _ h => h) (by intro k h1; rcases h1 with h1 | (h1 | h1) <;> first | omega | exact h1.elim | exact Or.inl h1 | exact Or.inr (Or.inl h1) | exact Or.inr (Or.inr (h1))))
      have zu4_5 := hm.size
      have HMu4_5 := hid hm
      have Cx9 := hid (Mod.goS (S' := (fun k => (R k) ∨ (New w wl k))) Cx7.out hm (fun _ h => Or.inl h) (by intro k h0 h2; exact Or.inr (h2)))
      clear hm Cx7
      clear act E qout HAL
      refine QSeq.pure rfl (.slice ao4 (acc.length + 1) cap4) (fun E => ex_assign rfl (E.d 5 0)) ?_
      have Hx10 := hid ((Hx4.out.mod HMu4_4.out (fun _ _ h => h)).mod HMu4_5.out (by intro k h1 h2; have hb := HBR.out k h1; omega))
      have Hx11 := hid ((Hx3.out.mod HMu4_4.out (fun _ _ h => h)).mod HMu4_5.out (by intro k h1 h2; omega))
      have Hx12 := hid (Hx6.out.mod HMu4_5.out (by intro h2; omega))
      clear Hx4 Hx3 Hx6 HMu4_4 HMu4_5
      refine QSeq.nil (t' := [_, _, _, _, _, _, _]) rfl ?_
      have ha0 := HA0.out
      subst ha0
      clear HA0 hsz0 oe0 oe1 oe5
      simp only [putAll, Act.put, List.setIfInBounds_toArray, List.set_cons_zero, List.set_cons_succ]
      clear Hx11
      clear Hx12
      cases st2 with
      | none =>
        go_upto_region 5 with (fail)
        generalize ha0 : Act.mk _ _ = a0
        have oe0 : a0.eval (.tmp 0) = .pointer (some ⟨r, 0, none⟩) := by rw [← ha0]; rfl
        have hsz0 : a0.tmps.size = 21 := by rw [← ha0]; rfl
        have HA0 := hid ha0
        clear ha0
        refine wp_region_S 21 hsz0 [16, 17, 18] [0, 1, 2] ?_
        refine QSeq.pure rfl (.pointer (some ⟨r, 0, none⟩)) (fun E => ex_move rfl (E.v oe0)) ?_
        refine QSeq.go fun act E => ?_
        refine qc_callF (args := #[.pointer (some ⟨r, 0, none⟩)]) rfl (wanted_none rfl) rfl Try.func39 (args1 (E.d 0 0)) (OK_R Hx10.out) ?_
        rintro e w2 ⟨rfl, hw2⟩
        obtain rfl : u4_5 = w2 := by first | exact hw2 | exact hw2.symm
        refine ⟨_, rfl, ?_⟩
        clear act E
        refine QSeq.pure rfl (.bool true) (fun E => ex_not rfl (E.d 1 0)) ?_
        refine QSeq.nil (t' := [_, _, _]) rfl ?_
        have ha0 := HA0.out
        subst ha0
        clear HA0 hsz0 oe0
        simp only [putAll, Act.put, List.setIfInBounds_toArray, List.set_cons_zero, List.set_cons_succ]
        go_upto_region 6 with (fail)
        generalize ha0 : Act.mk _ _ = a0
        have hsz0 : a0.tmps.size = 21 := by rw [← ha0]; rfl
        have HA0 := hid ha0
        clear ha0
        refine wp_region_S 21 hsz0 [4] [0] ?_
        refine QSeq.pure rfl (.slice none 0 0) (fun E => ex_assign rfl rfl) ?_
        refine QSeq.nil (t' := [_]) rfl ?_
        have ha0 := HA0.out
        subst ha0
        clear HA0 hsz0
        simp only [putAll, Act.put, List.setIfInBounds_toArray, List.set_cons_zero, List.set_cons_succ]
        go_wp2
        go_ret
        have hq := HG.out
        rw [HGN.out, if_pos trivial] at hq
        have e := HGL.out
        rw [← hq] at e
        refine ⟨_, rfl, ?_, ?_, (HML.out.trans Cx9.out (by intro k h1 h2; rcases h2 with h2 | h2 <;> first | exact h2 | omega | (have hb := HBR.out k h2; omega)))⟩
        · rw [e]; exact RdS.nil _ _ _
        · rw [e]; exact Hx10.out
      | some l2 =>
        go_upto_region 5 with (fail)
        generalize ha0 : Act.mk _ _ = a0
        have oe0 : a0.eval (.tmp 0) = .pointer (some ⟨r, 0, none⟩) := by rw [← ha0]; rfl
        have hsz0 : a0.tmps.size = 21 := by rw [← ha0]; rfl
        have HA0 := hid ha0
        clear ha0
        refine wp_region_S 21 hsz0 [16, 17, 18] [0, 1, 2] ?_
        refine QSeq.pure rfl (.pointer (some ⟨r, 0, none⟩)) (fun E => ex_move rfl (E.v oe0)) ?_
        refine QSeq.go fun act E => ?_
        refine qc_callF (args := #[.pointer (some ⟨r, 0, none⟩)]) rfl (wanted_none rfl) rfl Try.func39 (args1 (E.d 0 0)) (OK_R Hx10.out) ?_
        rintro e w2 ⟨rfl, hw2⟩
        obtain rfl : u4_5 = w2 := by first | exact hw2 | exact hw2.symm
        refine ⟨_, rfl, ?_⟩
        clear act E
        refine QSeq.pure rfl (.bool false) (fun E => ex_not rfl (E.d 1 0)) ?_
        refine QSeq.nil (t' := [_, _, _]) rfl ?_
        have ha0 := HA0.out
        subst ha0
        clear HA0 hsz0 oe0
        simp only [putAll, Act.put, List.setIfInBounds_toArray, List.set_cons_zero, List.set_cons_succ]
        go_upto_region 7 with (fail)
        generalize ha0 : Act.mk _ _ = a0
        have oe8 : a0.eval (.tmp 8) = .int .i64 ((k : Nat) : Int) := by rw [← ha0]; rfl
        have hsz0 : a0.tmps.size = 21 := by rw [← ha0]; rfl
        have HA0 := hid ha0
        clear ha0
        refine wp_region_S 21 hsz0 [19, 8] [0, 1] ?_
        refine QSeq.pure rfl (.int .i64 (((k : Nat) : Int) + 1)) (fun E => ex_binE rfl (E.y 1 oe8) rfl (guard_ints _ _ _ _ _ _) (run_add_i _ _ Try.underlying3) (congrArg (Value.int .i64) (IntWalk.i64_in _ (by omega)))) ?_
        refine QSeq.pure rfl (.int .i64 (((k : Nat) : Int) + 1)) (fun E => ex_move rfl (E.d 0 0)) ?_
        refine QSeq.nil (t' := [_, _]) rfl ?_
        have ha0 := HA0.out
        subst ha0
        clear HA0 hsz0 oe8
        simp only [putAll, Act.put, List.setIfInBounds_toArray, List.set_cons_zero, List.set_cons_succ]
        go_wp2
        go_roundw
        case rel => exact ⟨k + 1, acc ++ [x], some l2, by go_num, by omega, by rw [List.length_append, HKA.out]; rfl, HST2.out, (by have hq := HG.out; rw [HGN.out, if_neg (by simp)] at hq; exact hq), by omega, (Hx8.out.widen (by intro b h1; omega) (by intro b h1; rcases h1 with h1 | h1 | h1 <;> first | omega | exact h1.elim)), Hx10.out, (HML.out.trans Cx9.out (by intro k h1 h2; rcases h2 with h2 | h2 <;> first | exact h2 | omega | (have hb := HBR.out k h2; omega)))⟩
        case measure => simp [intOf] <;> omega
    · obtain rfl : n = k := by omega
      go_upto_region 3 with (fail)
      generalize ha0 : Act.mk _ _ = a0
      have oe7 : a0.eval (.tmp 7) = .int .i64 ((n : Nat) : Int) := by rw [← ha0]; rfl
      have oe8 : a0.eval (.tmp 8) = .int .i64 ((n : Nat) : Int) := by rw [← ha0]; rfl
      have hsz0 : a0.tmps.size = 21 := by rw [← ha0]; rfl
      have HA0 := hid ha0
      clear ha0
      refine wp_region_S 21 hsz0 [9] [0] ?_
      refine QSeq.pure rfl (.bool false) (fun E => ex_binE rfl (E.v oe8) (E.v oe7) (guard_ints _ _ _ _ _ _) (run_lss_i _ _ _ Try.underlying3) (congrArg Value.bool (decide_eq_false (by omega)))) ?_
      refine QSeq.nil (t' := [_]) rfl ?_
      have ha0 := HA0.out
      subst ha0
      clear HA0 hsz0 oe7 oe8
      simp only [putAll, Act.put, List.setIfInBounds_toArray, List.set_cons_zero, List.set_cons_succ]
      go_upto_region 8 with (fail)
      generalize ha0 : Act.mk _ _ = a0
      have oe5 : a0.eval (.tmp 5) = .slice aol acc.length capl := by rw [← ha0]; rfl
      have hsz0 : a0.tmps.size = 21 := by rw [← ha0]; rfl
      have HA0 := hid ha0
      clear ha0
      refine wp_region_S 21 hsz0 [20, 4] [0, 1] ?_
      refine QSeq.pure rfl (.slice aol acc.length capl) (fun E => ex_move rfl (E.v oe5)) ?_
      refine QSeq.pure rfl (.slice aol acc.length capl) (fun E => ex_assign rfl (E.d 0 0)) ?_
      refine QSeq.nil (t' := [_, _]) rfl ?_
      have ha0 := HA0.out
      subst ha0
      clear HA0 hsz0 oe5
      simp only [putAll, Act.put, List.setIfInBounds_toArray, List.set_cons_zero, List.set_cons_succ]
      go_wp2
      go_ret
      have hq := HG.out
      rw [Nat.sub_self] at hq
      have e := HGL.out
      rw [← hq] at e
      refine ⟨_, rfl, ?_, ?_, HML.out⟩
      · rw [e]; exact HAL.out.rd.widen (by intro b h1; (try dsimp only at h1 ⊢); omega)
      · rw [e]; exact HRL.out
set_option maxHeartbeats 4000000 in
theorem cTb_G : Gets TbR 125 127 gTb := by
  intro R r s w hR hB hl
  have HRD := Lib.hid hR
  have HBR := Lib.hid hB
  have HBY := hid hR.bytes
  clear hR hB
  have HLN := Lib.hid hl
  clear hl
  go_enter Try.func127, Try.ntmps127
  go_upto_region 1 with (fail)
  obtain ⟨w1, hw1⟩ : ∃ zz, zz = (w.alloc (.cells #[.int .i64 0, .slice none 0 0] 90)) := ⟨_, rfl⟩
  change Code.wp _ _ _ _ (w.alloc (.cells #[.int .i64 0, .slice none 0 0] 90))
  rw [← hw1]
  have HB2 := hid (show Cs w1 (w.heap.size) #[.int .i64 0, .slice none 0 0] 90 by rw [hw1]; exact Cs.new _ _ _)
  have hm : Mod (fun _ => False) w w1 := by rw [hw1]; exact (Mod.refl _ _).alloc _
  have HM0 := hid (show Mod (fun k => (R k)) w w1 from hm.mono (fun _ _ h => h.elim))
  have hs1 : w1.heap.size = w.heap.size + 1 := by rw [hw1]; simp
  have Hx1 := hid (HRD.out.mod hm (fun _ _ h => h))
  clear HRD
  clear hw1 hm
  go_upto_region 1 with (fail)
  generalize ha0 : Act.mk _ _ = a0
  have oe0 : a0.eval (.tmp 0) = .pointer (some ⟨r, 0, none⟩) := by rw [← ha0]; rfl
  have oe2 : a0.eval (.tmp 2) = .pointer (some ⟨w.heap.size, 0, none⟩) := by rw [← ha0]; rfl
  have hsz0 : a0.tmps.size = 8 := by rw [← ha0]; rfl
  have HA0 := hid ha0
  clear ha0
  refine wp_region_S 8 hsz0 [3, 4, 5, 6, 7, 13] [0, 1, 2, 3, 4, 5] ?_
  refine QSeq.pure rfl (.pointer (some ⟨r, 0, none⟩)) (fun E => ex_move rfl (E.v oe0)) ?_
  refine QSeq.go fun act E => ?_
  refine qc_callF (args := #[.pointer (some ⟨r, 0, none⟩), .int .i64 1099511627776]) rfl (wanted_none rfl) rfl Try.func115 (args2 (E.d 0 0) rfl) (cI_Q Hx1.out) ?_
  rintro e u1_1 ⟨rfl, qrd, hm⟩
  refine ⟨_, rfl, ?_⟩
  have Hx2 := hid qrd
  have zu1_1 := hm.size
  have Cx3 := hid (show Mod (fun k => (R k)) w1 u1_1 from hm)
  clear hm
  clear act E qrd Hx1
  refine QSeq.pure rfl (.pointer (some ⟨r, 0, none⟩)) (fun E => ex_move rfl (E.v oe0)) ?_
  refine QSeq.go fun act E => ?_
  refine qc_callF (args := #[.pointer (some ⟨r, 0, none⟩), .func (.func 151) #[] #[]]) rfl (wanted_none rfl) rfl Try.func150 (args2 (E.d 2 0) rfl) (cList_Dn _ _ _ _ Hx2.out (by intro k h1; have hb := HBR.out k h1; omega) (Nat.le_trans (gI_suf.len _) HLN.out)) ?_
  rintro e u1_3 ⟨vlDn, rfl, qlDn, qrd, hm⟩
  obtain ⟨ao_lDn, cap_lDn, rfl⟩ := qlDn.shape
  refine ⟨_, rfl, ?_⟩
  have Hx4 := hid (qlDn.widen (R' := (fun k => (New u1_1 u1_3 k))) (fun _ h => h))
  have Hx5 := hid qrd
  have zu1_3 := hm.size
  have HMu1_3 := hid hm
  have Cx6 := hid (Mod.goS (S' := (fun k => (R k))) Cx3.out hm (fun _ h => h) (by intro k h0 h2; exact h2))
  clear hm Cx3
  clear act E qlDn qrd Hx2
  refine QSeq.go fun act E => ?_
  refine qc_run rfl (wanted_none rfl) (v := .agg ((gTb s).1.cells (Value.slice ao_lDn (gList gDn (gI s).2).1.length cap_lDn) : List Value).toArray) (ex_build rfl (z := [.int .i64 0, .slice none 0 0]) (places := [(0, 1), (1, 1)]) (by kernel_rfl) (parts := [(0, .int .i64 (gI s).1), (1, .slice ao_lDn (gList gDn (gI s).2).1.length cap_lDn)]) (by simp only [List.map_toArray, List.map_cons, List.map_nil, show act.eval (.tmp 4) = .int .i64 (gI s).1 from (E.d 1 2), show act.eval (.tmp 6) = .slice ao_lDn (gList gDn (gI s).2).1.length cap_lDn from (E.d 3 0)]; try rfl) (r := (gTb s).1.cells (Value.slice ao_lDn (gList gDn (gI s).2).1.length cap_lDn)) (by exact laid_segs (ns := [1, 1]) rfl [(0, .int .i64 (gI s).1), (1, .slice ao_lDn (gList gDn (gI s).2).1.length cap_lDn)] [[.int .i64 0], [.slice none 0 0]] rfl ⟨rfl, rfl, trivial⟩)) ?_
  clear act E
  refine QSeq.go fun act E => ?_
  refine qc_store rfl (wanted_none rfl) rfl (HB2.out.mod Cx6.out (by intro h2; first | omega | (have hb := HBR.out _ h2; omega))) (off := 0) (vs := ((gTb s).1.cells (Value.slice ao_lDn (gList gDn (gI s).2).1.length cap_lDn))) (by kernel_rfl) (by intro u hu; simp only [Tb.cells, List.mem_cons, List.not_mem_nil, or_false] at hu; rcases hu with rfl | rfl <;> rfl) (by simp) (E.v oe2) (by rw [show act.eval ((.tmp 7)) = _ from (E.d 4 0)]; rfl) ?_
  intro u1_5 qc0 hm
  have qB2 : Cs u1_5 (w.heap.size) (((gTb s).1.cells (Value.slice ao_lDn (gList gDn (gI s).2).1.length cap_lDn)) : List Value).toArray 90 := by rw [show lay _ 0 _ = (((gTb s).1.cells (Value.slice ao_lDn (gList gDn (gI s).2).1.length cap_lDn)) : List Value).toArray from lay_whole #[.int .i64 0, .slice none 0 0] _ rfl] at qc0; exact qc0
  clear qc0
  have Hx7 := hid qB2
  have zu1_5 := hm.size
  have HMu1_5 := hid hm
  have Cx8 := hid (Mod.goS (S' := (fun k => (R k) ∨ (k = w.heap.size))) Cx6.out hm (fun _ h => Or.inl h) (by intro k h0 h2; exact Or.inr (h2)))
  clear hm Cx6
  clear act E qB2 HB2
  have Hx9 := hid (Hx5.out.mod HMu1_5.out (by intro k h1 h2; have hb := HBR.out k h1; omega))
  have Hx10 := hid (Hx4.out.mod HMu1_5.out (by intro k h1 h2; omega))
  clear Hx5 Hx4 HMu1_3 HMu1_5
  refine QSeq.nil (t' := [_, _, _, _, _, _]) rfl ?_
  have ha0 := HA0.out
  subst ha0
  clear HA0 hsz0 oe0 oe2
  simp only [putAll, Act.put, List.setIfInBounds_toArray, List.set_cons_zero, List.set_cons_succ, List.set_nil]
  go_wp2
  exact bodyPost_ret (results_cellA rfl _ _ w.heap.size ((gTb s).1.cells (Value.slice ao_lDn (gList gDn (gI s).2).1.length cap_lDn)) rfl (fun k u hu => by rw [Hx7.out.cell]; simpa using hu) Try.underlying90 rfl (by kernel_rfl)) rfl ⟨_, rfl, ⟨_, rfl, gTb_OK HBY.out, (Hx10.out.widen (R' := (fun k => New w u1_5 k)) (by intro k h1; omega))⟩, Hx9.out, (HM0.out.trans Cx8.out (by intro k h1 h2; rcases h2 with h2 | h2 <;> first | exact h2 | omega | (have hb := HBR.out k h2; omega)))⟩
set_option maxHeartbeats 4000000 in
theorem cList_Tb : GetsL TbR 125 126 127 gTb := by
  intro R r s w hR hB hl
  have HRD := Lib.hid hR
  have HBR := Lib.hid hB
  have HLN := Lib.hid hl
  clear hR hB hl
  go_enter Try.func126, Try.ntmps126
  go_upto_region 2 with (fail)
  have HM0 := hid (Mod.refl (fun k => (R k)) w)
  go_upto_region 2 with (fail)
  generalize ha0 : Act.mk _ _ = a0
  have oe0 : a0.eval (.tmp 0) = .pointer (some ⟨r, 0, none⟩) := by rw [← ha0]; rfl
  have hsz0 : a0.tmps.size = 21 := by rw [← ha0]; rfl
  have HA0 := hid ha0
  clear ha0
  refine wp_region_S 21 hsz0 [6, 7, 8] [0, 1, 2] ?_
  refine QSeq.pure rfl (.pointer (some ⟨r, 0, none⟩)) (fun E => ex_move rfl (E.v oe0)) ?_
  refine QSeq.go fun act E => ?_
  refine qc_callF (args := #[.pointer (some ⟨r, 0, none⟩), .int .i64 100]) rfl (wanted_none rfl) rfl Try.func115 (args2 (E.d 0 0) rfl) (RInt_R HRD.out (by decide)) ?_
  rintro e u2_1 ⟨rfl, qrd, hm⟩
  refine ⟨_, rfl, ?_⟩
  have Hx1 := hid qrd
  have zu2_1 := hm.size
  have Cx2 := hid (show Mod (fun k => (R k)) w u2_1 from hm)
  clear hm
  clear act E qrd HRD
  refine QSeq.pure rfl (.int .i64 0) (fun E => ex_move rfl rfl) ?_
  refine QSeq.nil (t' := [_, _, _]) rfl ?_
  have ha0 := HA0.out
  subst ha0
  clear HA0 hsz0 oe0
  simp only [putAll, Act.put, List.setIfInBounds_toArray, List.set_cons_zero, List.set_cons_succ]
  obtain ⟨n, hn⟩ : ∃ n, n = (rInt 100 s).1 := ⟨_, rfl⟩
  obtain ⟨s1, hs1⟩ : ∃ z, z = (rInt 100 s).2 := ⟨_, rfl⟩
  have hn100 : n ≤ 100 := by have := rInt_le 100 s; omega
  have HLS := hid (show (s1.getD []).length ≤ 900000 by rw [hs1]; exact Nat.le_trans ((rInt_suf 100).len s) HLN.out)
  have HGL := hid (show gList gTb s = gItems gTb n [] s1 by rw [hn, hs1]; rfl)
  rw [← hn]
  have hq := Hx1.out
  rw [← hs1] at hq
  have HR1 := Lib.hid hq
  clear hq hn hs1 HLN
  go_wp2
  go_loopw [5, 8] (fun ta ti wr => ∃ (k : Nat) (acc : List Tb) (st : RSt), ti = .int .i64 (k : Int) ∧ k ≤ n ∧ acc.length = k ∧ (st.getD []).length ≤ 900000 ∧ gItems gTb (n - k) acc st = gItems gTb n [] s1 ∧ u2_1.heap.size ≤ wr.heap.size ∧ OwS TbR 90 (fun b => w.heap.size ≤ b ∧ b < wr.heap.size) (fun b => w.heap.size ≤ b ∧ b < wr.heap.size) wr ta acc ∧ RrR 125 R wr r st ∧ Mod R w wr) (fun _ ti _ => n - (intOf ti).toNat)
  case atStart => exact ⟨0, [], s1, rfl, Nat.zero_le _, rfl, HLS.out, rfl, Nat.le_refl _, OwS.nil _ _ _ _ _, HR1.out, (HM0.out.trans Cx2.out (fun _ _ h => h))⟩
  case round =>
    obtain ⟨k, acc, st, rfl, hk, hka, hst, hg, hz, ha, hr, hm⟩ := hrel
    obtain ⟨wl, rfl⟩ : ∃ x, x = wr := ⟨_, rfl⟩
    obtain ⟨aol, capl, rfl⟩ := ha.shape
    have HAL := Lib.hid ha
    have HRL := Lib.hid hr
    have HML := Lib.hid hm
    have HST := Lib.hid hst
    have HG := Lib.hid hg
    have HKA := Lib.hid hka
    clear ha hr hm hst hg hka HR1 HM0
    by_cases hlt : k < n
    · skip
      go_upto_region 3 with (fail)
      generalize ha0 : Act.mk _ _ = a0
      have oe7 : a0.eval (.tmp 7) = .int .i64 ((n : Nat) : Int) := by rw [← ha0]; rfl
      have oe8 : a0.eval (.tmp 8) = .int .i64 ((k : Nat) : Int) := by rw [← ha0]; rfl
      have hsz0 : a0.tmps.size = 21 := by rw [← ha0]; rfl
      have HA0 := hid ha0
      clear ha0
      refine wp_region_S 21 hsz0 [9] [0] ?_
      refine QSeq.pure rfl (.bool true) (fun E => ex_binE rfl (E.v oe8) (E.v oe7) (guard_ints _ _ _ _ _ _) (run_lss_i _ _ _ Try.underlying3) (congrArg Value.bool (decide_eq_true (by omega)))) ?_
      refine QSeq.nil (t' := [_]) rfl ?_
      have ha0 := HA0.out
      subst ha0
      clear HA0 hsz0 oe7 oe8
      simp only [putAll, Act.put, List.setIfInBounds_toArray, List.set_cons_zero, List.set_cons_succ]
      obtain ⟨p, hp⟩ : ∃ p, p = gTb st := ⟨_, rfl⟩
      obtain ⟨x, st2⟩ := p
      have HP1 := hid (congrArg Prod.fst hp.symm)
      have HP2 := hid (congrArg Prod.snd hp.symm)
      clear hp
      dsimp only at HP1 HP2
      have HST2 := hid (show (st2.getD []).length ≤ 900000 by rw [← HP2.out]; exact Nat.le_trans (gTb_suf.len st) HST.out)
      have HGN := hid (show gItems gTb (n - k) acc st = if st2 = none then ([], none) else gItems gTb (n - (k + 1)) (acc ++ [x]) st2 by rw [show n - k = (n - (k + 1)) + 1 by omega]; show (if (gTb st).2 = none then _ else _) = _; rw [HP2.out, HP1.out])
      go_upto_region 4 with (fail)
      generalize ha0 : Act.mk _ _ = a0
      have oe0 : a0.eval (.tmp 0) = .pointer (some ⟨r, 0, none⟩) := by rw [← ha0]; rfl
      have oe1 : a0.eval (.tmp 1) = .func (.func 127) #[] #[] := by rw [← ha0]; rfl
      have oe5 : a0.eval (.tmp 5) = .slice aol acc.length capl := by rw [← ha0]; rfl
      have hsz0 : a0.tmps.size = 21 := by rw [← ha0]; rfl
      have HA0 := hid ha0
      clear ha0
      refine wp_region_S 21 hsz0 [10, 11, 12, 13, 14, 15, 5] [0, 1, 2, 3, 4, 5, 6] ?_
      refine QSeq.pure rfl (.slice aol acc.length capl) (fun E => ex_move rfl (E.y 6 oe5)) ?_
      refine QSeq.pure rfl (.func (.func 127) #[] #[]) (fun E => ex_move rfl (E.v oe1)) ?_
      refine QSeq.pure rfl (.pointer (some ⟨r, 0, none⟩)) (fun E => ex_move rfl (E.v oe0)) ?_
      refine QSeq.go fun act E => ?_
      have ea12 : act.eval (.tmp 12) = .pointer (some ⟨r, 0, none⟩) := (E.d 2 0)
      refine qc_call (args := #[.pointer (some ⟨r, 0, none⟩)]) rfl (wanted_none rfl) (by rw [ex_callV rfl (E.d 1 1) Try.func127 (by kernel_rfl) (by kernel_rfl)]; exact congrArg (fun z => Result.ok (Next.enter _ z) _) (by simp only [List.map_toArray, List.map_cons, List.map_nil, ea12]; try rfl)) ((cTb_G).to HP1.out HP2.out HRL.out (by intro k h1; have hb := HBR.out k h1; omega) HST.out) ?_
      rintro e u4_3 ⟨cs, rfl, qel, qrd, hm⟩
      refine ⟨_, rfl, ?_⟩
      have Hx3 := hid (qel.widen (R' := (fun k => (New wl u4_3 k))) (fun _ h => h))
      have Hx4 := hid qrd
      have zu4_3 := hm.size
      have Cx5 := hid (show Mod (fun k => (R k)) wl u4_3 from hm)
      clear hm
      clear act E qel qrd HRL ea12
      refine QSeq.go fun act E => ?_
      refine qc_buildS (e := 90) (cs := cs) (zc := [.int .i64 0, .slice none 0 0]) (sz := 2) rfl (wanted_none rfl) rfl Try.underlying58 (by kernel_rfl) rfl (by decide) (by decide) (E.d 3 0) (TbR.len Hx3.out) ?_
      intro u4_4 qrow hm
      have zl4_4 := qrow.lt
      have Hx6 := hid qrow
      have zu4_4 := hm.size
      have HMu4_4 := hid hm
      have Cx7 := hid (Cx5.out.goE hm)
      clear hm Cx5
      clear act E qrow
      refine QSeq.go fun act E => ?_
      refine qc_appS (A := TbR) (e := 90) rfl (wanted_none rfl) rfl (.agg #[.int .i64 0, .slice none 0 0]) 32 Try.underlying58 info_Tb (by rfl) (of_decide_eq_true (by kernel_rfl)) (E.d 0 4) (E.d 4 0) ((HAL.out.mod Cx7.out (by intro k h1 h2; have hb := HBR.out k h2; omega) (by intro k h1 h2; have hb := HBR.out k h2; omega))) (RdS.single (R := (fun k => (New wl u4_3 k) ∨ (k = u4_3.heap.size))) Hx6.out ((Hx3.out.mod HMu4_4.out (fun _ _ h => h)).widen (by intro k h1; first | omega | exact h1.elim | exact Or.inl h1 | exact Or.inr (h1))) (by first | exact Or.inr rfl | exact Or.inr (Or.inr rfl) | (right; omega))) (by intro k h1 h2; omega) (by rw [HKA.out]; simp only [List.length_cons, List.length_nil]; omega) (by rw [HKA.out]; simp only [List.length_cons, List.length_nil]; rw [maxLen_val]; omega) ?_
      intro ao4 cap4 u4_5 qout hm
      have Hx8 := hid (qout.widen (R' := (fun k => (New w wl k) ∨ (New u4_4 u4_5 k))) (E' := (fun k => (New w wl k) ∨ (New wl u4_3 k) ∨ (k = u4_3.heap.size))) (fun _ h => h) (by intro k h1; rcases h1 with h1 | (h1 | h1) <;> first | omega | exact h1.elim | exact Or.inl h1 | exact Or.inr (Or.inl h1) | exact Or.inr (Or.inr (h1))))
      have zu4_5 := hm.size
      have HMu4_5 := hid hm
      have Cx9 := hid (Mod.goS (S' := (fun k => (R k) ∨ (New w wl k))) Cx7.out hm (fun _ h => Or.inl h) (by intro k h0 h2; exact Or.inr (h2)))
      clear hm Cx7
      clear act E qout HAL
      refine QSeq.pure rfl (.slice ao4 (acc.length + 1) cap4) (fun E => ex_assign rfl (E.d 5 0)) ?_
      have Hx10 := hid ((Hx4.out.mod HMu4_4.out (fun _ _ h => h)).mod HMu4_5.out (by intro k h1 h2; have hb := HBR.out k h1; omega))
      have Hx11 := hid ((Hx3.out.mod HMu4_4.out (fun _ _ h => h)).mod HMu4_5.out (by intro k h1 h2; omega))
      have Hx12 := hid (Hx6.out.mod HMu4_5.out (by intro h2; omega))
      clear Hx4 Hx3 Hx6 HMu4_4 HMu4_5
      refine QSeq.nil (t' := [_, _, _, _, _, _, _]) rfl ?_
      have ha0 := HA0.out
      subst ha0
      clear HA0 hsz0 oe0 oe1 oe5
      simp only [putAll, Act.put, List.setIfInBounds_toArray, List.set_cons_zero, List.set_cons_succ]
      clear Hx11
      clear Hx12
      cases st2 with
      | none =>
        go_upto_region 5 with (fail)
        generalize ha0 : Act.mk _ _ = a0
        have oe0 : a0.eval (.tmp 0) = .pointer (some ⟨r, 0, none⟩) := by rw [← ha0]; rfl
        have hsz0 : a0.tmps.size = 21 := by rw [← ha0]; rfl
        have HA0 := hid ha0
        clear ha0
        refine wp_region_S 21 hsz0 [16, 17, 18] [0, 1, 2] ?_
        refine QSeq.pure rfl (.pointer (some ⟨r, 0, none⟩)) (fun E => ex_move rfl (E.v oe0)) ?_
        refine QSeq.go fun act E => ?_
        refine qc_callF (args := #[.pointer (some ⟨r, 0, none⟩)]) rfl (wanted_none rfl) rfl Try.func39 (args1 (E.d 0 0)) (OK_R Hx10.out) ?_
        rintro e w2 ⟨rfl, hw2⟩
        obtain rfl : u4_5 = w2 := by first | exact hw2 | exact hw2.symm
        refine ⟨_, rfl, ?_⟩
        clear act E
        refine QSeq.pure rfl (.bool true) (fun E => ex_not rfl (E.d 1 0)) ?_
        refine QSeq.nil (t' := [_, _, _]) rfl ?_
        have ha0 := HA0.out
        subst ha0
        clear HA0 hsz0 oe0
        simp only [putAll, Act.put, List.setIfInBounds_toArray, List.set_cons_zero, List.set_cons_succ]
        go_upto_region 6 with (fail)
        generalize ha0 : Act.mk _ _ = a0
        have hsz0 : a0.tmps.size = 21 := by rw [← ha0]; rfl
        have HA0 := hid ha0
        clear ha0
        refine wp_region_S 21 hsz0 [4] [0] ?_
        refine QSeq.pure rfl (.slice none 0 0) (fun E => ex_assign rfl rfl) ?_
        refine QSeq.nil (t' := [_]) rfl ?_
        have ha0 := HA0.out
        subst ha0
        clear HA0 hsz0
        simp only [putAll, Act.put, List.setIfInBounds_toArray, List.set_cons_zero, List.set_cons_succ]
        go_wp2
        go_ret
        have hq := HG.out
        rw [HGN.out, if_pos trivial] at hq
        have e := HGL.out
        rw [← hq] at e
        refine ⟨_, rfl, ?_, ?_, (HML.out.trans Cx9.out (by intro k h1 h2; rcases h2 with h2 | h2 <;> first | exact h2 | omega | (have hb := HBR.out k h2; omega)))⟩
        · rw [e]; exact RdS.nil _ _ _
        · rw [e]; exact Hx10.out
      | some l2 =>
        go_upto_region 5 with (fail)
        generalize ha0 : Act.mk _ _ = a0
        have oe0 : a0.eval (.tmp 0) = .pointer (some ⟨r, 0, none⟩) := by rw [← ha0]; rfl
        have hsz0 : a0.tmps.size = 21 := by rw [← ha0]; rfl
        have HA0 := hid ha0
        clear ha0
        refine wp_region_S 21 hsz0 [16, 17, 18] [0, 1, 2] ?_
        refine QSeq.pure rfl (.pointer (some ⟨r, 0, none⟩)) (fun E => ex_move rfl (E.v oe0)) ?_
        refine QSeq.go fun act E => ?_
        refine qc_callF (args := #[.pointer (some ⟨r, 0, none⟩)]) rfl (wanted_none rfl) rfl Try.func39 (args1 (E.d 0 0)) (OK_R Hx10.out) ?_
        rintro e w2 ⟨rfl, hw2⟩
        obtain rfl : u4_5 = w2 := by first | exact hw2 | exact hw2.symm
        refine ⟨_, rfl, ?_⟩
        clear act E
        refine QSeq.pure rfl (.bool false) (fun E => ex_not rfl (E.d 1 0)) ?_
        refine QSeq.nil (t' := [_, _, _]) rfl ?_
        have ha0 := HA0.out
        subst ha0
        clear HA0 hsz0 oe0
        simp only [putAll, Act.put, List.setIfInBounds_toArray, List.set_cons_zero, List.set_cons_succ]
        go_upto_region 7 with (fail)
        generalize ha0 : Act.mk _ _ = a0
        have oe8 : a0.eval (.tmp 8) = .int .i64 ((k : Nat) : Int) := by rw [← ha0]; rfl
        have hsz0 : a0.tmps.size = 21 := by rw [← ha0]; rfl
        have HA0 := hid ha0
        clear ha0
        refine wp_region_S 21 hsz0 [19, 8] [0, 1] ?_
        refine QSeq.pure rfl (.int .i64 (((k : Nat) : Int) + 1)) (fun E => ex_binE rfl (E.y 1 oe8) rfl (guard_ints _ _ _ _ _ _) (run_add_i _ _ Try.underlying3) (congrArg (Value.int .i64) (IntWalk.i64_in _ (by omega)))) ?_
        refine QSeq.pure rfl (.int .i64 (((k : Nat) : Int) + 1)) (fun E => ex_move rfl (E.d 0 0)) ?_
        refine QSeq.nil (t' := [_, _]) rfl ?_
        have ha0 := HA0.out
        subst ha0
        clear HA0 hsz0 oe8
        simp only [putAll, Act.put, List.setIfInBounds_toArray, List.set_cons_zero, List.set_cons_succ]
        go_wp2
        go_roundw
        case rel => exact ⟨k + 1, acc ++ [x], some l2, by go_num, by omega, by rw [List.length_append, HKA.out]; rfl, HST2.out, (by have hq := HG.out; rw [HGN.out, if_neg (by simp)] at hq; exact hq), by omega, (Hx8.out.widen (by intro b h1; omega) (by intro b h1; rcases h1 with h1 | h1 | h1 <;> first | omega | exact h1.elim)), Hx10.out, (HML.out.trans Cx9.out (by intro k h1 h2; rcases h2 with h2 | h2 <;> first | exact h2 | omega | (have hb := HBR.out k h2; omega)))⟩
        case measure => simp [intOf] <;> omega
    · obtain rfl : n = k := by omega
      go_upto_region 3 with (fail)
      generalize ha0 : Act.mk _ _ = a0
      have oe7 : a0.eval (.tmp 7) = .int .i64 ((n : Nat) : Int) := by rw [← ha0]; rfl
      have oe8 : a0.eval (.tmp 8) = .int .i64 ((n : Nat) : Int) := by rw [← ha0]; rfl
      have hsz0 : a0.tmps.size = 21 := by rw [← ha0]; rfl
      have HA0 := hid ha0
      clear ha0
      refine wp_region_S 21 hsz0 [9] [0] ?_
      refine QSeq.pure rfl (.bool false) (fun E => ex_binE rfl (E.v oe8) (E.v oe7) (guard_ints _ _ _ _ _ _) (run_lss_i _ _ _ Try.underlying3) (congrArg Value.bool (decide_eq_false (by omega)))) ?_
      refine QSeq.nil (t' := [_]) rfl ?_
      have ha0 := HA0.out
      subst ha0
      clear HA0 hsz0 oe7 oe8
      simp only [putAll, Act.put, List.setIfInBounds_toArray, List.set_cons_zero, List.set_cons_succ]
      go_upto_region 8 with (fail)
      generalize ha0 : Act.mk _ _ = a0
      have oe5 : a0.eval (.tmp 5) = .slice aol acc.length capl := by rw [← ha0]; rfl
      have hsz0 : a0.tmps.size = 21 := by rw [← ha0]; rfl
      have HA0 := hid ha0
      clear ha0
      refine wp_region_S 21 hsz0 [20, 4] [0, 1] ?_
      refine QSeq.pure rfl (.slice aol acc.length capl) (fun E => ex_move rfl (E.v oe5)) ?_
      refine QSeq.pure rfl (.slice aol acc.length capl) (fun E => ex_assign rfl (E.d 0 0)) ?_
      refine QSeq.nil (t' := [_, _]) rfl ?_
      have ha0 := HA0.out
      subst ha0
      clear HA0 hsz0 oe5
      simp only [putAll, Act.put, List.setIfInBounds_toArray, List.set_cons_zero, List.set_cons_succ]
      go_wp2
      go_ret
      have hq := HG.out
      rw [Nat.sub_self] at hq
      have e := HGL.out
      rw [← hq] at e
      refine ⟨_, rfl, ?_, ?_, HML.out⟩
      · rw [e]; exact HAL.out.rd.widen (by intro b h1; (try dsimp only at h1 ⊢); omega)
      · rw [e]; exact HRL.out
set_option maxHeartbeats 4000000 in
theorem cOp_G : Gets OpR 125 125 gOp := by
  intro R r s w hR hB hl
  have HRD := Lib.hid hR
  have HBR := Lib.hid hB
  have HBY := hid hR.bytes
  clear hR hB
  have HLN := Lib.hid hl
  clear hl
  go_enter Try.func125, Try.ntmps125
  go_upto_region 1 with (fail)
  obtain ⟨w1, hw1⟩ : ∃ zz, zz = (w.alloc (.cells #[.int .i64 0, .slice none 0 0, .int .u8 0, .int .u8 0, .int .u8 0, .int .u8 0, .int .u8 0, .int .u8 0, .int .u8 0, .int .u8 0, .int .u8 0, .int .u8 0, .int .u8 0, .int .u8 0, .int .u8 0, .int .u8 0, .int .u8 0, .int .u8 0, .int .u8 0, .int .u8 0, .int .u8 0, .int .u8 0, .int .u8 0, .int .u8 0, .int .u8 0, .int .u8 0, .int .u8 0, .int .u8 0, .int .u8 0, .int .u8 0, .int .u8 0, .int .u8 0, .int .u8 0, .int .u8 0] 87)) := ⟨_, rfl⟩
  change Code.wp _ _ _ _ (w.alloc (.cells #[.int .i64 0, .slice none 0 0, .int .u8 0, .int .u8 0, .int .u8 0, .int .u8 0, .int .u8 0, .int .u8 0, .int .u8 0, .int .u8 0, .int .u8 0, .int .u8 0, .int .u8 0, .int .u8 0, .int .u8 0, .int .u8 0, .int .u8 0, .int .u8 0, .int .u8 0, .int .u8 0, .int .u8 0, .int .u8 0, .int .u8 0, .int .u8 0, .int .u8 0, .int .u8 0, .int .u8 0, .int .u8 0, .int .u8 0, .int .u8 0, .int .u8 0, .int .u8 0, .int .u8 0, .int .u8 0] 87))
  rw [← hw1]
  have HB2 := hid (show Cs w1 (w.heap.size) #[.int .i64 0, .slice none 0 0, .int .u8 0, .int .u8 0, .int .u8 0, .int .u8 0, .int .u8 0, .int .u8 0, .int .u8 0, .int .u8 0, .int .u8 0, .int .u8 0, .int .u8 0, .int .u8 0, .int .u8 0, .int .u8 0, .int .u8 0, .int .u8 0, .int .u8 0, .int .u8 0, .int .u8 0, .int .u8 0, .int .u8 0, .int .u8 0, .int .u8 0, .int .u8 0, .int .u8 0, .int .u8 0, .int .u8 0, .int .u8 0, .int .u8 0, .int .u8 0, .int .u8 0, .int .u8 0] 87 by rw [hw1]; exact Cs.new _ _ _)
  have hm : Mod (fun _ => False) w w1 := by rw [hw1]; exact (Mod.refl _ _).alloc _
  have HM0 := hid (show Mod (fun k => (R k)) w w1 from hm.mono (fun _ _ h => h.elim))
  have hs1 : w1.heap.size = w.heap.size + 1 := by rw [hw1]; simp
  have Hx1 := hid (HRD.out.mod hm (fun _ _ h => h))
  clear HRD
  clear hw1 hm
  go_upto_region 1 with (fail)
  generalize ha0 : Act.mk _ _ = a0
  have oe0 : a0.eval (.tmp 0) = .pointer (some ⟨r, 0, none⟩) := by rw [← ha0]; rfl
  have oe2 : a0.eval (.tmp 2) = .pointer (some ⟨w.heap.size, 0, none⟩) := by rw [← ha0]; rfl
  have hsz0 : a0.tmps.size = 10 := by rw [← ha0]; rfl
  have HA0 := hid ha0
  clear ha0
  refine wp_region_S 10 hsz0 [3, 4, 5, 6, 7, 8, 9, 17] [0, 1, 2, 3, 4, 5, 6, 7] ?_
  refine QSeq.pure rfl (.pointer (some ⟨r, 0, none⟩)) (fun E => ex_move rfl (E.v oe0)) ?_
  refine QSeq.go fun act E => ?_
  refine qc_callF (args := #[.pointer (some ⟨r, 0, none⟩), .int .i64 1099511627776]) rfl (wanted_none rfl) rfl Try.func115 (args2 (E.d 0 0) rfl) (cI_Q Hx1.out) ?_
  rintro e u1_1 ⟨rfl, qrd, hm⟩
  refine ⟨_, rfl, ?_⟩
  have Hx2 := hid qrd
  have zu1_1 := hm.size
  have Cx3 := hid (show Mod (fun k => (R k)) w1 u1_1 from hm)
  clear hm
  clear act E qrd Hx1
  refine QSeq.pure rfl (.pointer (some ⟨r, 0, none⟩)) (fun E => ex_move rfl (E.v oe0)) ?_
  refine QSeq.go fun act E => ?_
  refine qc_callF (args := #[.pointer (some ⟨r, 0, none⟩), .int .i64 256]) rfl (wanted_none rfl) rfl Try.func149 (args2 (E.d 2 0) rfl) (cRow_Q Hx2.out) ?_
  rintro e u1_3 ⟨vr, rfl, qrow, qrd, hm⟩
  obtain ⟨ao_row, cap_row, rfl⟩ := qrow.shape
  refine ⟨_, rfl, ?_⟩
  have Hx4 := hid (qrow.widen (R' := (fun k => (New u1_1 u1_3 k))) (fun _ h => h) (Nat.le_refl _))
  have Hx5 := hid qrd
  have zu1_3 := hm.size
  have HMu1_3 := hid hm
  have Cx6 := hid (Mod.goS (S' := (fun k => (R k))) Cx3.out hm (fun _ h => h) (by intro k h0 h2; exact h2))
  clear hm Cx3
  clear act E qrow qrd Hx2
  refine QSeq.pure rfl (.pointer (some ⟨r, 0, none⟩)) (fun E => ex_move rfl (E.v oe0)) ?_
  refine QSeq.go fun act E => ?_
  refine qc_callF (args := #[.pointer (some ⟨r, 0, none⟩)]) rfl (wanted_none rfl) rfl Try.func144 (args1 (E.d 4 0)) (RHash_R Hx5.out) ?_
  rintro e u1_5 ⟨rfl, qrd, hm⟩
  refine ⟨_, rfl, ?_⟩
  have Hx7 := hid qrd
  have zu1_5 := hm.size
  have HMu1_5 := hid hm
  have Cx8 := hid (Mod.goS (S' := (fun k => (R k))) Cx6.out hm (fun _ h => h) (by intro k h0 h2; exact h2))
  clear hm Cx6
  clear act E qrd Hx5
  refine QSeq.go fun act E => ?_
  refine qc_run rfl (wanted_none rfl) (v := .agg ((gOp s).1.cells (Value.slice ao_row (rRow 256 (gI s).2).1.length cap_row) : List Value).toArray) (ex_build rfl (z := [.int .i64 0, .slice none 0 0, .int .u8 0, .int .u8 0, .int .u8 0, .int .u8 0, .int .u8 0, .int .u8 0, .int .u8 0, .int .u8 0, .int .u8 0, .int .u8 0, .int .u8 0, .int .u8 0, .int .u8 0, .int .u8 0, .int .u8 0, .int .u8 0, .int .u8 0, .int .u8 0, .int .u8 0, .int .u8 0, .int .u8 0, .int .u8 0, .int .u8 0, .int .u8 0, .int .u8 0, .int .u8 0, .int .u8 0, .int .u8 0, .int .u8 0, .int .u8 0, .int .u8 0, .int .u8 0]) (places := [(0, 1), (1, 1), (2, 32)]) (by kernel_rfl) (parts := [(0, .int .i64 (gI s).1), (1, .slice ao_row (rRow 256 (gI s).2).1.length cap_row), (2, hv (rHash (rRow 256 (gI s).2).2).1)]) (by simp only [List.map_toArray, List.map_cons, List.map_nil, show act.eval (.tmp 4) = .int .i64 (gI s).1 from (E.d 1 4), show act.eval (.tmp 6) = .slice ao_row (rRow 256 (gI s).2).1.length cap_row from (E.d 3 2), show act.eval (.tmp 8) = hv (rHash (rRow 256 (gI s).2).2).1 from (E.d 5 0)]; try rfl) (r := (gOp s).1.cells (Value.slice ao_row (rRow 256 (gI s).2).1.length cap_row)) (by exact (laid_segs (ns := [1, 1, 32]) rfl [(0, .int .i64 (gI s).1), (1, .slice ao_row (rRow 256 (gI s).2).1.length cap_row), (2, hv (rHash (rRow 256 (gI s).2).2).1)] [[.int .i64 0], [.slice none 0 0], [.int .u8 0, .int .u8 0, .int .u8 0, .int .u8 0, .int .u8 0, .int .u8 0, .int .u8 0, .int .u8 0, .int .u8 0, .int .u8 0, .int .u8 0, .int .u8 0, .int .u8 0, .int .u8 0, .int .u8 0, .int .u8 0, .int .u8 0, .int .u8 0, .int .u8 0, .int .u8 0, .int .u8 0, .int .u8 0, .int .u8 0, .int .u8 0, .int .u8 0, .int .u8 0, .int .u8 0, .int .u8 0, .int .u8 0, .int .u8 0, .int .u8 0, .int .u8 0]] rfl ⟨rfl, rfl, (szv (by rw [List.length_map]; exact rHash_l _)), trivial⟩).trans (congrArg some (show ([_] ++ ([_] ++ (_ ++ [])) : List Value) = _ by rw [List.append_nil]; rfl)))) ?_
  clear act E
  refine QSeq.go fun act E => ?_
  refine qc_store rfl (wanted_none rfl) rfl (HB2.out.mod Cx8.out (by intro h2; first | omega | (have hb := HBR.out _ h2; omega))) (off := 0) (vs := ((gOp s).1.cells (Value.slice ao_row (rRow 256 (gI s).2).1.length cap_row))) (by rw [show ((gOp s).1.cells (Value.slice ao_row (rRow 256 (gI s).2).1.length cap_row)).length = _ from (op_len2 _ _ (gOp_OK HBY.out).2.1)]; kernel_rfl) (one_op2 _ _ rfl) (by rw [show ((gOp s).1.cells (Value.slice ao_row (rRow 256 (gI s).2).1.length cap_row)).length = _ from (op_len2 _ _ (gOp_OK HBY.out).2.1)]; decide) (E.v oe2) (by rw [show act.eval ((.tmp 9)) = _ from (E.d 6 0)]; rfl) ?_
  intro u1_7 qc0 hm
  have qB2 : Cs u1_7 (w.heap.size) (((gOp s).1.cells (Value.slice ao_row (rRow 256 (gI s).2).1.length cap_row)) : List Value).toArray 87 := by rw [show lay _ 0 _ = (((gOp s).1.cells (Value.slice ao_row (rRow 256 (gI s).2).1.length cap_row)) : List Value).toArray from lay_whole _ _ (by rw [show ((gOp s).1.cells (Value.slice ao_row (rRow 256 (gI s).2).1.length cap_row)).length = _ from (op_len2 _ _ (gOp_OK HBY.out).2.1)]; rfl)] at qc0; exact qc0
  clear qc0
  have Hx9 := hid qB2
  have zu1_7 := hm.size
  have HMu1_7 := hid hm
  have Cx10 := hid (Mod.goS (S' := (fun k => (R k) ∨ (k = w.heap.size))) Cx8.out hm (fun _ h => Or.inl h) (by intro k h0 h2; exact Or.inr (h2)))
  clear hm Cx8
  clear act E qB2 HB2
  have Hx11 := hid (Hx7.out.mod HMu1_7.out (by intro k h1 h2; have hb := HBR.out k h1; omega))
  have Hx12 := hid ((Hx4.out.mod HMu1_5.out (by intro k h1 h2; have hb := HBR.out k h2; omega)).mod HMu1_7.out (by intro k h1 h2; omega))
  clear Hx7 Hx4 HMu1_3 HMu1_5 HMu1_7
  refine QSeq.nil (t' := [_, _, _, _, _, _, _, _]) rfl ?_
  have ha0 := HA0.out
  subst ha0
  clear HA0 hsz0 oe0 oe2
  simp only [putAll, Act.put, List.setIfInBounds_toArray, List.set_cons_zero, List.set_cons_succ, List.set_nil]
  go_wp2
  exact bodyPost_ret (results_cellA rfl _ _ w.heap.size ((gOp s).1.cells (Value.slice ao_row (rRow 256 (gI s).2).1.length cap_row)) rfl (fun k u hu => by rw [Hx9.out.cell]; simpa using hu) Try.underlying87 rfl (by rw [show ((gOp s).1.cells (Value.slice ao_row (rRow 256 (gI s).2).1.length cap_row)).length = _ from (op_len2 _ _ (gOp_OK HBY.out).2.1)]; kernel_rfl)) rfl ⟨_, rfl, ⟨_, rfl, gOp_OK HBY.out, (Hx12.out.widen (R' := (fun k => New w u1_7 k)) (by intro k h1; omega) (Nat.le_refl _))⟩, Hx11.out, (HM0.out.trans Cx10.out (by intro k h1 h2; rcases h2 with h2 | h2 <;> first | exact h2 | omega | (have hb := HBR.out k h2; omega)))⟩
set_option maxHeartbeats 4000000 in
theorem cList_Op : GetsL OpR 125 124 125 gOp := by
  intro R r s w hR hB hl
  have HRD := Lib.hid hR
  have HBR := Lib.hid hB
  have HLN := Lib.hid hl
  clear hR hB hl
  go_enter Try.func124, Try.ntmps124
  go_upto_region 2 with (fail)
  have HM0 := hid (Mod.refl (fun k => (R k)) w)
  go_upto_region 2 with (fail)
  generalize ha0 : Act.mk _ _ = a0
  have oe0 : a0.eval (.tmp 0) = .pointer (some ⟨r, 0, none⟩) := by rw [← ha0]; rfl
  have hsz0 : a0.tmps.size = 21 := by rw [← ha0]; rfl
  have HA0 := hid ha0
  clear ha0
  refine wp_region_S 21 hsz0 [6, 7, 8] [0, 1, 2] ?_
  refine QSeq.pure rfl (.pointer (some ⟨r, 0, none⟩)) (fun E => ex_move rfl (E.v oe0)) ?_
  refine QSeq.go fun act E => ?_
  refine qc_callF (args := #[.pointer (some ⟨r, 0, none⟩), .int .i64 100]) rfl (wanted_none rfl) rfl Try.func115 (args2 (E.d 0 0) rfl) (RInt_R HRD.out (by decide)) ?_
  rintro e u2_1 ⟨rfl, qrd, hm⟩
  refine ⟨_, rfl, ?_⟩
  have Hx1 := hid qrd
  have zu2_1 := hm.size
  have Cx2 := hid (show Mod (fun k => (R k)) w u2_1 from hm)
  clear hm
  clear act E qrd HRD
  refine QSeq.pure rfl (.int .i64 0) (fun E => ex_move rfl rfl) ?_
  refine QSeq.nil (t' := [_, _, _]) rfl ?_
  have ha0 := HA0.out
  subst ha0
  clear HA0 hsz0 oe0
  simp only [putAll, Act.put, List.setIfInBounds_toArray, List.set_cons_zero, List.set_cons_succ]
  obtain ⟨n, hn⟩ : ∃ n, n = (rInt 100 s).1 := ⟨_, rfl⟩
  obtain ⟨s1, hs1⟩ : ∃ z, z = (rInt 100 s).2 := ⟨_, rfl⟩
  have hn100 : n ≤ 100 := by have := rInt_le 100 s; omega
  have HLS := hid (show (s1.getD []).length ≤ 900000 by rw [hs1]; exact Nat.le_trans ((rInt_suf 100).len s) HLN.out)
  have HGL := hid (show gList gOp s = gItems gOp n [] s1 by rw [hn, hs1]; rfl)
  rw [← hn]
  have hq := Hx1.out
  rw [← hs1] at hq
  have HR1 := Lib.hid hq
  clear hq hn hs1 HLN
  go_wp2
  go_loopw [5, 8] (fun ta ti wr => ∃ (k : Nat) (acc : List Op) (st : RSt), ti = .int .i64 (k : Int) ∧ k ≤ n ∧ acc.length = k ∧ (st.getD []).length ≤ 900000 ∧ gItems gOp (n - k) acc st = gItems gOp n [] s1 ∧ u2_1.heap.size ≤ wr.heap.size ∧ OwS OpR 87 (fun b => w.heap.size ≤ b ∧ b < wr.heap.size) (fun b => w.heap.size ≤ b ∧ b < wr.heap.size) wr ta acc ∧ RrR 125 R wr r st ∧ Mod R w wr) (fun _ ti _ => n - (intOf ti).toNat)
  case atStart => exact ⟨0, [], s1, rfl, Nat.zero_le _, rfl, HLS.out, rfl, Nat.le_refl _, OwS.nil _ _ _ _ _, HR1.out, (HM0.out.trans Cx2.out (fun _ _ h => h))⟩
  case round =>
    obtain ⟨k, acc, st, rfl, hk, hka, hst, hg, hz, ha, hr, hm⟩ := hrel
    obtain ⟨wl, rfl⟩ : ∃ x, x = wr := ⟨_, rfl⟩
    obtain ⟨aol, capl, rfl⟩ := ha.shape
    have HAL := Lib.hid ha
    have HRL := Lib.hid hr
    have HML := Lib.hid hm
    have HST := Lib.hid hst
    have HG := Lib.hid hg
    have HKA := Lib.hid hka
    clear ha hr hm hst hg hka HR1 HM0
    by_cases hlt : k < n
    · skip
      go_upto_region 3 with (fail)
      generalize ha0 : Act.mk _ _ = a0
      have oe7 : a0.eval (.tmp 7) = .int .i64 ((n : Nat) : Int) := by rw [← ha0]; rfl
      have oe8 : a0.eval (.tmp 8) = .int .i64 ((k : Nat) : Int) := by rw [← ha0]; rfl
      have hsz0 : a0.tmps.size = 21 := by rw [← ha0]; rfl
      have HA0 := hid ha0
      clear ha0
      refine wp_region_S 21 hsz0 [9] [0] ?_
      refine QSeq.pure rfl (.bool true) (fun E => ex_binE rfl (E.v oe8) (E.v oe7) (guard_ints _ _ _ _ _ _) (run_lss_i _ _ _ Try.underlying3) (congrArg Value.bool (decide_eq_true (by omega)))) ?_
      refine QSeq.nil (t' := [_]) rfl ?_
      have ha0 := HA0.out
      subst ha0
      clear HA0 hsz0 oe7 oe8
      simp only [putAll, Act.put, List.setIfInBounds_toArray, List.set_cons_zero, List.set_cons_succ]
      obtain ⟨p, hp⟩ : ∃ p, p = gOp st := ⟨_, rfl⟩
      obtain ⟨x, st2⟩ := p
      have HP1 := hid (congrArg Prod.fst hp.symm)
      have HP2 := hid (congrArg Prod.snd hp.symm)
      clear hp
      dsimp only at HP1 HP2
      have HST2 := hid (show (st2.getD []).length ≤ 900000 by rw [← HP2.out]; exact Nat.le_trans (gOp_suf.len st) HST.out)
      have HGN := hid (show gItems gOp (n - k) acc st = if st2 = none then ([], none) else gItems gOp (n - (k + 1)) (acc ++ [x]) st2 by rw [show n - k = (n - (k + 1)) + 1 by omega]; show (if (gOp st).2 = none then _ else _) = _; rw [HP2.out, HP1.out])
      go_upto_region 4 with (fail)
      generalize ha0 : Act.mk _ _ = a0
      have oe0 : a0.eval (.tmp 0) = .pointer (some ⟨r, 0, none⟩) := by rw [← ha0]; rfl
      have oe1 : a0.eval (.tmp 1) = .func (.func 125) #[] #[] := by rw [← ha0]; rfl
      have oe5 : a0.eval (.tmp 5) = .slice aol acc.length capl := by rw [← ha0]; rfl
      have hsz0 : a0.tmps.size = 21 := by rw [← ha0]; rfl
      have HA0 := hid ha0
      clear ha0
      refine wp_region_S 21 hsz0 [10, 11, 12, 13, 14, 15, 5] [0, 1, 2, 3, 4, 5, 6] ?_
      refine QSeq.pure rfl (.slice aol acc.length capl) (fun E => ex_move rfl (E.y 6 oe5)) ?_
      refine QSeq.pure rfl (.func (.func 125) #[] #[]) (fun E => ex_move rfl (E.v oe1)) ?_
      refine QSeq.pure rfl (.pointer (some ⟨r, 0, none⟩)) (fun E => ex_move rfl (E.v oe0)) ?_
      refine QSeq.go fun act E => ?_
      have ea12 : act.eval (.tmp 12) = .pointer (some ⟨r, 0, none⟩) := (E.d 2 0)
      refine qc_call (args := #[.pointer (some ⟨r, 0, none⟩)]) rfl (wanted_none rfl) (by rw [ex_callV rfl (E.d 1 1) Try.func125 (by kernel_rfl) (by kernel_rfl)]; exact congrArg (fun z => Result.ok (Next.enter _ z) _) (by simp only [List.map_toArray, List.map_cons, List.map_nil, ea12]; try rfl)) ((cOp_G).to HP1.out HP2.out HRL.out (by intro k h1; have hb := HBR.out k h1; omega) HST.out) ?_
      rintro e u4_3 ⟨cs, rfl, qel, qrd, hm⟩
      refine ⟨_, rfl, ?_⟩
      have Hx3 := hid (qel.widen (R' := (fun k => (New wl u4_3 k))) (fun _ h => h))
      have Hx4 := hid qrd
      have zu4_3 := hm.size
      have Cx5 := hid (show Mod (fun k => (R k)) wl u4_3 from hm)
      clear hm
      clear act E qel qrd HRL ea12
      refine QSeq.go fun act E => ?_
      refine qc_buildS (e := 87) (cs := cs) (zc := [.int .i64 0, .slice none 0 0, .int .u8 0, .int .u8 0, .int .u8 0, .int .u8 0, .int .u8 0, .int .u8 0, .int .u8 0, .int .u8 0, .int .u8 0, .int .u8 0, .int .u8 0, .int .u8 0, .int .u8 0, .int .u8 0, .int .u8 0, .int .u8 0, .int .u8 0, .int .u8 0, .int .u8 0, .int .u8 0, .int .u8 0, .int .u8 0, .int .u8 0, .int .u8 0, .int .u8 0, .int .u8 0, .int .u8 0, .int .u8 0, .int .u8 0, .int .u8 0, .int .u8 0, .int .u8 0]) (sz := 34) rfl (wanted_none rfl) rfl Try.underlying57 (by kernel_rfl) rfl (by decide) (by decide) (E.d 3 0) (OpR.len Hx3.out) ?_
      intro u4_4 qrow hm
      have zl4_4 := qrow.lt
      have Hx6 := hid qrow
      have zu4_4 := hm.size
      have HMu4_4 := hid hm
      have Cx7 := hid (Cx5.out.goE hm)
      clear hm Cx5
      clear act E qrow
      refine QSeq.go fun act E => ?_
      refine qc_appS (A := OpR) (e := 87) rfl (wanted_none rfl) rfl (.agg #[.int .i64 0, .slice none 0 0, .int .u8 0, .int .u8 0, .int .u8 0, .int .u8 0, .int .u8 0, .int .u8 0, .int .u8 0, .int .u8 0, .int .u8 0, .int .u8 0, .int .u8 0, .int .u8 0, .int .u8 0, .int .u8 0, .int .u8 0, .int .u8 0, .int .u8 0, .int .u8 0, .int .u8 0, .int .u8 0, .int .u8 0, .int .u8 0, .int .u8 0, .int .u8 0, .int .u8 0, .int .u8 0, .int .u8 0, .int .u8 0, .int .u8 0, .int .u8 0, .int .u8 0, .int .u8 0]) 64 Try.underlying57 info_Op (by rfl) (of_decide_eq_true (by kernel_rfl)) (E.d 0 4) (E.d 4 0) ((HAL.out.mod Cx7.out (by intro k h1 h2; have hb := HBR.out k h2; omega) (by intro k h1 h2; have hb := HBR.out k h2; omega))) (RdS.single (R := (fun k => (New wl u4_3 k) ∨ (k = u4_3.heap.size))) Hx6.out ((Hx3.out.mod HMu4_4.out (fun _ _ h => h)).widen (by intro k h1; first | omega | exact h1.elim | exact Or.inl h1 | exact Or.inr (h1))) (by first | exact Or.inr rfl | exact Or.inr (Or.inr rfl) | (right; omega))) (by intro k h1 h2; omega) (by rw [HKA.out]; simp only [List.length_cons, List.length_nil]; omega) (by rw [HKA.out]; simp only [List.length_cons, List.length_nil]; rw [maxLen_val]; omega) ?_
      intro ao4 cap4 u4_5 qout hm
      have Hx8 := hid (qout.widen (R' := (fun k => (New w wl k) ∨ (New u4_4 u4_5 k))) (E' := (fun k => (New w wl k) ∨ (New wl u4_3 k) ∨ (k = u4_3.heap.size))) (fun _ h => h) (by intro k h1; rcases h1 with h1 | (h1 | h1) <;> first | omega | exact h1.elim | exact Or.inl h1 | exact Or.inr (Or.inl h1) | exact Or.inr (Or.inr (h1))))
      have zu4_5 := hm.size
      have HMu4_5 := hid hm
      have Cx9 := hid (Mod.goS (S' := (fun k => (R k) ∨ (New w wl k))) Cx7.out hm (fun _ h => Or.inl h) (by intro k h0 h2; exact Or.inr (h2)))
      clear hm Cx7
      clear act E qout HAL
      refine QSeq.pure rfl (.slice ao4 (acc.length + 1) cap4) (fun E => ex_assign rfl (E.d 5 0)) ?_
      have Hx10 := hid ((Hx4.out.mod HMu4_4.out (fun _ _ h => h)).mod HMu4_5.out (by intro k h1 h2; have hb := HBR.out k h1; omega))
      have Hx11 := hid ((Hx3.out.mod HMu4_4.out (fun _ _ h => h)).mod HMu4_5.out (by intro k h1 h2; omega))
      have Hx12 := hid (Hx6.out.mod HMu4_5.out (by intro h2; omega))
      clear Hx4 Hx3 Hx6 HMu4_4 HMu4_5
      refine QSeq.nil (t' := [_, _, _, _, _, _, _]) rfl ?_
      have ha0 := HA0.out
      subst ha0
      clear HA0 hsz0 oe0 oe1 oe5
      simp only [putAll, Act.put, List.setIfInBounds_toArray, List.set_cons_zero, List.set_cons_succ]
      clear Hx11
      clear Hx12
      cases st2 with
      | none =>
        go_upto_region 5 with (fail)
        generalize ha0 : Act.mk _ _ = a0
        have oe0 : a0.eval (.tmp 0) = .pointer (some ⟨r, 0, none⟩) := by rw [← ha0]; rfl
        have hsz0 : a0.tmps.size = 21 := by rw [← ha0]; rfl
        have HA0 := hid ha0
        clear ha0
        refine wp_region_S 21 hsz0 [16, 17, 18] [0, 1, 2] ?_
        refine QSeq.pure rfl (.pointer (some ⟨r, 0, none⟩)) (fun E => ex_move rfl (E.v oe0)) ?_
        refine QSeq.go fun act E => ?_
        refine qc_callF (args := #[.pointer (some ⟨r, 0, none⟩)]) rfl (wanted_none rfl) rfl Try.func39 (args1 (E.d 0 0)) (OK_R Hx10.out) ?_
        rintro e w2 ⟨rfl, hw2⟩
        obtain rfl : u4_5 = w2 := by first | exact hw2 | exact hw2.symm
        refine ⟨_, rfl, ?_⟩
        clear act E
        refine QSeq.pure rfl (.bool true) (fun E => ex_not rfl (E.d 1 0)) ?_
        refine QSeq.nil (t' := [_, _, _]) rfl ?_
        have ha0 := HA0.out
        subst ha0
        clear HA0 hsz0 oe0
        simp only [putAll, Act.put, List.setIfInBounds_toArray, List.set_cons_zero, List.set_cons_succ]
        go_upto_region 6 with (fail)
        generalize ha0 : Act.mk _ _ = a0
        have hsz0 : a0.tmps.size = 21 := by rw [← ha0]; rfl
        have HA0 := hid ha0
        clear ha0
        refine wp_region_S 21 hsz0 [4] [0] ?_
        refine QSeq.pure rfl (.slice none 0 0) (fun E => ex_assign rfl rfl) ?_
        refine QSeq.nil (t' := [_]) rfl ?_
        have ha0 := HA0.out
        subst ha0
        clear HA0 hsz0
        simp only [putAll, Act.put, List.setIfInBounds_toArray, List.set_cons_zero, List.set_cons_succ]
        go_wp2
        go_ret
        have hq := HG.out
        rw [HGN.out, if_pos trivial] at hq
        have e := HGL.out
        rw [← hq] at e
        refine ⟨_, rfl, ?_, ?_, (HML.out.trans Cx9.out (by intro k h1 h2; rcases h2 with h2 | h2 <;> first | exact h2 | omega | (have hb := HBR.out k h2; omega)))⟩
        · rw [e]; exact RdS.nil _ _ _
        · rw [e]; exact Hx10.out
      | some l2 =>
        go_upto_region 5 with (fail)
        generalize ha0 : Act.mk _ _ = a0
        have oe0 : a0.eval (.tmp 0) = .pointer (some ⟨r, 0, none⟩) := by rw [← ha0]; rfl
        have hsz0 : a0.tmps.size = 21 := by rw [← ha0]; rfl
        have HA0 := hid ha0
        clear ha0
        refine wp_region_S 21 hsz0 [16, 17, 18] [0, 1, 2] ?_
        refine QSeq.pure rfl (.pointer (some ⟨r, 0, none⟩)) (fun E => ex_move rfl (E.v oe0)) ?_
        refine QSeq.go fun act E => ?_
        refine qc_callF (args := #[.pointer (some ⟨r, 0, none⟩)]) rfl (wanted_none rfl) rfl Try.func39 (args1 (E.d 0 0)) (OK_R Hx10.out) ?_
        rintro e w2 ⟨rfl, hw2⟩
        obtain rfl : u4_5 = w2 := by first | exact hw2 | exact hw2.symm
        refine ⟨_, rfl, ?_⟩
        clear act E
        refine QSeq.pure rfl (.bool false) (fun E => ex_not rfl (E.d 1 0)) ?_
        refine QSeq.nil (t' := [_, _, _]) rfl ?_
        have ha0 := HA0.out
        subst ha0
        clear HA0 hsz0 oe0
        simp only [putAll, Act.put, List.setIfInBounds_toArray, List.set_cons_zero, List.set_cons_succ]
        go_upto_region 7 with (fail)
        generalize ha0 : Act.mk _ _ = a0
        have oe8 : a0.eval (.tmp 8) = .int .i64 ((k : Nat) : Int) := by rw [← ha0]; rfl
        have hsz0 : a0.tmps.size = 21 := by rw [← ha0]; rfl
        have HA0 := hid ha0
        clear ha0
        refine wp_region_S 21 hsz0 [19, 8] [0, 1] ?_
        refine QSeq.pure rfl (.int .i64 (((k : Nat) : Int) + 1)) (fun E => ex_binE rfl (E.y 1 oe8) rfl (guard_ints _ _ _ _ _ _) (run_add_i _ _ Try.underlying3) (congrArg (Value.int .i64) (IntWalk.i64_in _ (by omega)))) ?_
        refine QSeq.pure rfl (.int .i64 (((k : Nat) : Int) + 1)) (fun E => ex_move rfl (E.d 0 0)) ?_
        refine QSeq.nil (t' := [_, _]) rfl ?_
        have ha0 := HA0.out
        subst ha0
        clear HA0 hsz0 oe8
        simp only [putAll, Act.put, List.setIfInBounds_toArray, List.set_cons_zero, List.set_cons_succ]
        go_wp2
        go_roundw
        case rel => exact ⟨k + 1, acc ++ [x], some l2, by go_num, by omega, by rw [List.length_append, HKA.out]; rfl, HST2.out, (by have hq := HG.out; rw [HGN.out, if_neg (by simp)] at hq; exact hq), by omega, (Hx8.out.widen (by intro b h1; omega) (by intro b h1; rcases h1 with h1 | h1 | h1 <;> first | omega | exact h1.elim)), Hx10.out, (HML.out.trans Cx9.out (by intro k h1 h2; rcases h2 with h2 | h2 <;> first | exact h2 | omega | (have hb := HBR.out k h2; omega)))⟩
        case measure => simp [intOf] <;> omega
    · obtain rfl : n = k := by omega
      go_upto_region 3 with (fail)
      generalize ha0 : Act.mk _ _ = a0
      have oe7 : a0.eval (.tmp 7) = .int .i64 ((n : Nat) : Int) := by rw [← ha0]; rfl
      have oe8 : a0.eval (.tmp 8) = .int .i64 ((n : Nat) : Int) := by rw [← ha0]; rfl
      have hsz0 : a0.tmps.size = 21 := by rw [← ha0]; rfl
      have HA0 := hid ha0
      clear ha0
      refine wp_region_S 21 hsz0 [9] [0] ?_
      refine QSeq.pure rfl (.bool false) (fun E => ex_binE rfl (E.v oe8) (E.v oe7) (guard_ints _ _ _ _ _ _) (run_lss_i _ _ _ Try.underlying3) (congrArg Value.bool (decide_eq_false (by omega)))) ?_
      refine QSeq.nil (t' := [_]) rfl ?_
      have ha0 := HA0.out
      subst ha0
      clear HA0 hsz0 oe7 oe8
      simp only [putAll, Act.put, List.setIfInBounds_toArray, List.set_cons_zero, List.set_cons_succ]
      go_upto_region 8 with (fail)
      generalize ha0 : Act.mk _ _ = a0
      have oe5 : a0.eval (.tmp 5) = .slice aol acc.length capl := by rw [← ha0]; rfl
      have hsz0 : a0.tmps.size = 21 := by rw [← ha0]; rfl
      have HA0 := hid ha0
      clear ha0
      refine wp_region_S 21 hsz0 [20, 4] [0, 1] ?_
      refine QSeq.pure rfl (.slice aol acc.length capl) (fun E => ex_move rfl (E.v oe5)) ?_
      refine QSeq.pure rfl (.slice aol acc.length capl) (fun E => ex_assign rfl (E.d 0 0)) ?_
      refine QSeq.nil (t' := [_, _]) rfl ?_
      have ha0 := HA0.out
      subst ha0
      clear HA0 hsz0 oe5
      simp only [putAll, Act.put, List.setIfInBounds_toArray, List.set_cons_zero, List.set_cons_succ]
      go_wp2
      go_ret
      have hq := HG.out
      rw [Nat.sub_self] at hq
      have e := HGL.out
      rw [← hq] at e
      refine ⟨_, rfl, ?_, ?_, HML.out⟩
      · rw [e]; exact HAL.out.rd.widen (by intro b h1; (try dsimp only at h1 ⊢); omega)
      · rw [e]; exact HRL.out
set_option maxHeartbeats 4000000 in
theorem cPm_G : Gets PmR 125 85 gPm := by
  intro R r s w hR hB hl
  have HRD := Lib.hid hR
  have HBR := Lib.hid hB
  have HBY := hid hR.bytes
  clear hR hB
  have HLN := Lib.hid hl
  clear hl
  go_enter Try.func85, Try.ntmps85
  go_upto_region 1 with (fail)
  obtain ⟨w1, hw1⟩ : ∃ zz, zz = (w.alloc (.cells #[.int .i64 0, .int .i64 0, .int .u64 0, .slice none 0 0, .int .i64 0, .int .i64 0] 55)) := ⟨_, rfl⟩
  change Code.wp _ _ _ _ (w.alloc (.cells #[.int .i64 0, .int .i64 0, .int .u64 0, .slice none 0 0, .int .i64 0, .int .i64 0] 55))
  rw [← hw1]
  have HB2 := hid (show Cs w1 (w.heap.size) #[.int .i64 0, .int .i64 0, .int .u64 0, .slice none 0 0, .int .i64 0, .int .i64 0] 55 by rw [hw1]; exact Cs.new _ _ _)
  have hm : Mod (fun _ => False) w w1 := by rw [hw1]; exact (Mod.refl _ _).alloc _
  have HM0 := hid (show Mod (fun k => (R k)) w w1 from hm.mono (fun _ _ h => h.elim))
  have hs1 : w1.heap.size = w.heap.size + 1 := by rw [hw1]; simp
  have Hx1 := hid (HRD.out.mod hm (fun _ _ h => h))
  clear HRD
  clear hw1 hm
  go_upto_region 1 with (fail)
  generalize ha0 : Act.mk _ _ = a0
  have oe0 : a0.eval (.tmp 0) = .pointer (some ⟨r, 0, none⟩) := by rw [← ha0]; rfl
  have oe2 : a0.eval (.tmp 2) = .pointer (some ⟨w.heap.size, 0, none⟩) := by rw [← ha0]; rfl
  have hsz0 : a0.tmps.size = 14 := by rw [← ha0]; rfl
  have HA0 := hid ha0
  clear ha0
  refine wp_region_S 14 hsz0 [3, 4, 5, 6, 7, 8, 9, 10, 11, 12, 13, 25] [0, 1, 2, 3, 4, 5, 6, 7, 8, 9, 10, 11] ?_
  refine QSeq.pure rfl (.pointer (some ⟨r, 0, none⟩)) (fun E => ex_move rfl (E.v oe0)) ?_
  refine QSeq.go fun act E => ?_
  refine qc_callF (args := #[.pointer (some ⟨r, 0, none⟩), .int .i64 1099511627776]) rfl (wanted_none rfl) rfl Try.func115 (args2 (E.d 0 0) rfl) (cI_Q Hx1.out) ?_
  rintro e u1_1 ⟨rfl, qrd, hm⟩
  refine ⟨_, rfl, ?_⟩
  have Hx2 := hid qrd
  have zu1_1 := hm.size
  have Cx3 := hid (show Mod (fun k => (R k)) w1 u1_1 from hm)
  clear hm
  clear act E qrd Hx1
  refine QSeq.pure rfl (.pointer (some ⟨r, 0, none⟩)) (fun E => ex_move rfl (E.v oe0)) ?_
  refine QSeq.go fun act E => ?_
  refine qc_callF (args := #[.pointer (some ⟨r, 0, none⟩), .int .i64 1099511627776]) rfl (wanted_none rfl) rfl Try.func115 (args2 (E.d 2 0) rfl) (cI_Q Hx2.out) ?_
  rintro e u1_3 ⟨rfl, qrd, hm⟩
  refine ⟨_, rfl, ?_⟩
  have Hx4 := hid qrd
  have zu1_3 := hm.size
  have HMu1_3 := hid hm
  have Cx5 := hid (Mod.goS (S' := (fun k => (R k))) Cx3.out hm (fun _ h => h) (by intro k h0 h2; exact h2))
  clear hm Cx3
  clear act E qrd Hx2
  refine QSeq.pure rfl (.pointer (some ⟨r, 0, none⟩)) (fun E => ex_move rfl (E.v oe0)) ?_
  refine QSeq.go fun act E => ?_
  refine qc_callF (args := #[.pointer (some ⟨r, 0, none⟩)]) rfl (wanted_none rfl) rfl Try.func116 (args1 (E.d 4 0)) (RNum_R Hx4.out) ?_
  rintro e u1_5 ⟨rfl, qrd, hm⟩
  refine ⟨_, rfl, ?_⟩
  have Hx6 := hid qrd
  have zu1_5 := hm.size
  have HMu1_5 := hid hm
  have Cx7 := hid (Mod.goS (S' := (fun k => (R k))) Cx5.out hm (fun _ h => h) (by intro k h0 h2; exact h2))
  clear hm Cx5
  clear act E qrd Hx4
  refine QSeq.pure rfl (.pointer (some ⟨r, 0, none⟩)) (fun E => ex_move rfl (E.v oe0)) ?_
  refine QSeq.go fun act E => ?_
  refine qc_callF (args := #[.pointer (some ⟨r, 0, none⟩), .func (.func 81) #[] #[]]) rfl (wanted_none rfl) rfl Try.func117 (args2 (E.d 6 0) rfl) (cList_Ce _ _ _ _ Hx6.out (by intro k h1; have hb := HBR.out k h1; omega) (Nat.le_trans (rNum_suf.len _) (Nat.le_trans (gI_suf.len _) (Nat.le_trans (gI_suf.len _) HLN.out)))) ?_
  rintro e u1_7 ⟨vlCe, rfl, qlCe, qrd, hm⟩
  obtain ⟨ao_lCe, cap_lCe, rfl⟩ := qlCe.shape
  refine ⟨_, rfl, ?_⟩
  have Hx8 := hid (qlCe.widen (R' := (fun k => (New u1_5 u1_7 k))) (fun _ h => h))
  have Hx9 := hid qrd
  have zu1_7 := hm.size
  have HMu1_7 := hid hm
  have Cx10 := hid (Mod.goS (S' := (fun k => (R k))) Cx7.out hm (fun _ h => h) (by intro k h0 h2; exact h2))
  clear hm Cx7
  clear act E qlCe qrd Hx6
  refine QSeq.pure rfl (.pointer (some ⟨r, 0, none⟩)) (fun E => ex_move rfl (E.v oe0)) ?_
  refine QSeq.go fun act E => ?_
  refine qc_callF (args := #[.pointer (some ⟨r, 0, none⟩)]) rfl (wanted_none rfl) rfl Try.func118 (args1 (E.d 8 0)) (cSig_Q _ _ _ _ Hx9.out (by intro k h1; have hb := HBR.out k h1; omega)) ?_
  rintro e u1_9 ⟨rfl, qrd, hm⟩
  refine ⟨_, rfl, ?_⟩
  have Hx11 := hid qrd
  have zu1_9 := hm.size
  have HMu1_9 := hid hm
  have Cx12 := hid (Mod.goS (S' := (fun k => (R k))) Cx10.out hm (fun _ h => h) (by intro k h0 h2; exact h2))
  clear hm Cx10
  clear act E qrd Hx9
  refine QSeq.go fun act E => ?_
  refine qc_run rfl (wanted_none rfl) (v := .agg ((gPm s).1.cells (Value.slice ao_lCe (gList gCe (rNum (gI (gI s).2).2).2).1.length cap_lCe) : List Value).toArray) (ex_build rfl (z := [.int .i64 0, .int .i64 0, .int .u64 0, .slice none 0 0, .int .i64 0, .int .i64 0]) (places := [(0, 1), (1, 1), (2, 1), (3, 1), (4, 2)]) (by kernel_rfl) (parts := [(0, .int .i64 (gI s).1), (1, .int .i64 (gI (gI s).2).1), (2, .int .u64 ((rNum (gI (gI s).2).2).1 : Nat)), (3, .slice ao_lCe (gList gCe (rNum (gI (gI s).2).2).2).1.length cap_lCe), (4, .agg #[.int .i64 (gSig (gList gCe (rNum (gI (gI s).2).2).2).2).1.1, .int .i64 (gSig (gList gCe (rNum (gI (gI s).2).2).2).2).1.2])]) (by simp only [List.map_toArray, List.map_cons, List.map_nil, show act.eval (.tmp 4) = .int .i64 (gI s).1 from (E.d 1 8), show act.eval (.tmp 6) = .int .i64 (gI (gI s).2).1 from (E.d 3 6), show act.eval (.tmp 8) = .int .u64 ((rNum (gI (gI s).2).2).1 : Nat) from (E.d 5 4), show act.eval (.tmp 10) = .slice ao_lCe (gList gCe (rNum (gI (gI s).2).2).2).1.length cap_lCe from (E.d 7 2), show act.eval (.tmp 12) = .agg #[.int .i64 (gSig (gList gCe (rNum (gI (gI s).2).2).2).2).1.1, .int .i64 (gSig (gList gCe (rNum (gI (gI s).2).2).2).2).1.2] from (E.d 9 0)]; try rfl) (r := (gPm s).1.cells (Value.slice ao_lCe (gList gCe (rNum (gI (gI s).2).2).2).1.length cap_lCe)) (by exact laid_segs (ns := [1, 1, 1, 1, 2]) rfl [(0, .int .i64 (gI s).1), (1, .int .i64 (gI (gI s).2).1), (2, .int .u64 ((rNum (gI (gI s).2).2).1 : Nat)), (3, .slice ao_lCe (gList gCe (rNum (gI (gI s).2).2).2).1.length cap_lCe), (4, .agg #[.int .i64 (gSig (gList gCe (rNum (gI (gI s).2).2).2).2).1.1, .int .i64 (gSig (gList gCe (rNum (gI (gI s).2).2).2).2).1.2])] [[.int .i64 0], [.int .i64 0], [.int .u64 0], [.slice none 0 0], [.int .i64 0, .int .i64 0]] rfl ⟨rfl, rfl, rfl, rfl, rfl, trivial⟩)) ?_
  clear act E
  refine QSeq.go fun act E => ?_
  refine qc_store rfl (wanted_none rfl) rfl (HB2.out.mod Cx12.out (by intro h2; first | omega | (have hb := HBR.out _ h2; omega))) (off := 0) (vs := ((gPm s).1.cells (Value.slice ao_lCe (gList gCe (rNum (gI (gI s).2).2).2).1.length cap_lCe))) (by kernel_rfl) (by intro u hu; simp only [Pm.cells, List.mem_cons, List.not_mem_nil, or_false] at hu; rcases hu with rfl | rfl | rfl | rfl | rfl | rfl <;> rfl) (by simp) (E.v oe2) (by rw [show act.eval ((.tmp 13)) = _ from (E.d 10 0)]; rfl) ?_
  intro u1_11 qc0 hm
  have qB2 : Cs u1_11 (w.heap.size) (((gPm s).1.cells (Value.slice ao_lCe (gList gCe (rNum (gI (gI s).2).2).2).1.length cap_lCe)) : List Value).toArray 55 := by rw [show lay _ 0 _ = (((gPm s).1.cells (Value.slice ao_lCe (gList gCe (rNum (gI (gI s).2).2).2).1.length cap_lCe)) : List Value).toArray from lay_whole #[.int .i64 0, .int .i64 0, .int .u64 0, .slice none 0 0, .int .i64 0, .int .i64 0] _ rfl] at qc0; exact qc0
  clear qc0
  have Hx13 := hid qB2
  have zu1_11 := hm.size
  have HMu1_11 := hid hm
  have Cx14 := hid (Mod.goS (S' := (fun k => (R k) ∨ (k = w.heap.size))) Cx12.out hm (fun _ h => Or.inl h) (by intro k h0 h2; exact Or.inr (h2)))
  clear hm Cx12
  clear act E qB2 HB2
  have Hx15 := hid (Hx11.out.mod HMu1_11.out (by intro k h1 h2; have hb := HBR.out k h1; omega))
  have Hx16 := hid ((Hx8.out.mod HMu1_9.out (by intro k h1 h2; have hb := HBR.out k h2; omega)).mod HMu1_11.out (by intro k h1 h2; omega))
  clear Hx11 Hx8 HMu1_3 HMu1_5 HMu1_7 HMu1_9 HMu1_11
  refine QSeq.nil (t' := [_, _, _, _, _, _, _, _, _, _, _, _]) rfl ?_
  have ha0 := HA0.out
  subst ha0
  clear HA0 hsz0 oe0 oe2
  simp only [putAll, Act.put, List.setIfInBounds_toArray, List.set_cons_zero, List.set_cons_succ, List.set_nil]
  go_wp2
  exact bodyPost_ret (results_cellA rfl _ _ w.heap.size ((gPm s).1.cells (Value.slice ao_lCe (gList gCe (rNum (gI (gI s).2).2).2).1.length cap_lCe)) rfl (fun k u hu => by rw [Hx13.out.cell]; simpa using hu) Try.underlying55 rfl (by kernel_rfl)) rfl ⟨_, rfl, ⟨_, rfl, gPm_OK HBY.out, (Hx16.out.widen (R' := (fun k => New w u1_11 k)) (by intro k h1; omega))⟩, Hx15.out, (HM0.out.trans Cx14.out (by intro k h1 h2; rcases h2 with h2 | h2 <;> first | exact h2 | omega | (have hb := HBR.out k h2; omega)))⟩
set_option maxHeartbeats 4000000 in
theorem cList_Pm : GetsL PmR 125 123 85 gPm := by
  intro R r s w hR hB hl
  have HRD := Lib.hid hR
  have HBR := Lib.hid hB
  have HLN := Lib.hid hl
  clear hR hB hl
  go_enter Try.func123, Try.ntmps123
  go_upto_region 2 with (fail)
  have HM0 := hid (Mod.refl (fun k => (R k)) w)
  go_upto_region 2 with (fail)
  generalize ha0 : Act.mk _ _ = a0
  have oe0 : a0.eval (.tmp 0) = .pointer (some ⟨r, 0, none⟩) := by rw [← ha0]; rfl
  have hsz0 : a0.tmps.size = 21 := by rw [← ha0]; rfl
  have HA0 := hid ha0
  clear ha0
  refine wp_region_S 21 hsz0 [6, 7, 8] [0, 1, 2] ?_
  refine QSeq.pure rfl (.pointer (some ⟨r, 0, none⟩)) (fun E => ex_move rfl (E.v oe0)) ?_
  refine QSeq.go fun act E => ?_
  refine qc_callF (args := #[.pointer (some ⟨r, 0, none⟩), .int .i64 100]) rfl (wanted_none rfl) rfl Try.func115 (args2 (E.d 0 0) rfl) (RInt_R HRD.out (by decide)) ?_
  rintro e u2_1 ⟨rfl, qrd, hm⟩
  refine ⟨_, rfl, ?_⟩
  have Hx1 := hid qrd
  have zu2_1 := hm.size
  have Cx2 := hid (show Mod (fun k => (R k)) w u2_1 from hm)
  clear hm
  clear act E qrd HRD
  refine QSeq.pure rfl (.int .i64 0) (fun E => ex_move rfl rfl) ?_
  refine QSeq.nil (t' := [_, _, _]) rfl ?_
  have ha0 := HA0.out
  subst ha0
  clear HA0 hsz0 oe0
  simp only [putAll, Act.put, List.setIfInBounds_toArray, List.set_cons_zero, List.set_cons_succ]
  obtain ⟨n, hn⟩ : ∃ n, n = (rInt 100 s).1 := ⟨_, rfl⟩
  obtain ⟨s1, hs1⟩ : ∃ z, z = (rInt 100 s).2 := ⟨_, rfl⟩
  have hn100 : n ≤ 100 := by have := rInt_le 100 s; omega
  have HLS := hid (show (s1.getD []).length ≤ 900000 by rw [hs1]; exact Nat.le_trans ((rInt_suf 100).len s) HLN.out)
  have HGL := hid (show gList gPm s = gItems gPm n [] s1 by rw [hn, hs1]; rfl)
  rw [← hn]
  have hq := Hx1.out
  rw [← hs1] at hq
  have HR1 := Lib.hid hq
  clear hq hn hs1 HLN
  go_wp2
  go_loopw [5, 8] (fun ta ti wr => ∃ (k : Nat) (acc : List Pm) (st : RSt), ti = .int .i64 (k : Int) ∧ k ≤ n ∧ acc.length = k ∧ (st.getD []).length ≤ 900000 ∧ gItems gPm (n - k) acc st = gItems gPm n [] s1 ∧ u2_1.heap.size ≤ wr.heap.size ∧ OwS PmR 55 (fun b => w.heap.size ≤ b ∧ b < wr.heap.size) (fun b => w.heap.size ≤ b ∧ b < wr.heap.size) wr ta acc ∧ RrR 125 R wr r st ∧ Mod R w wr) (fun _ ti _ => n - (intOf ti).toNat)
  case atStart => exact ⟨0, [], s1, rfl, Nat.zero_le _, rfl, HLS.out, rfl, Nat.le_refl _, OwS.nil _ _ _ _ _, HR1.out, (HM0.out.trans Cx2.out (fun _ _ h => h))⟩
  case round =>
    obtain ⟨k, acc, st, rfl, hk, hka, hst, hg, hz, ha, hr, hm⟩ := hrel
    obtain ⟨wl, rfl⟩ : ∃ x, x = wr := ⟨_, rfl⟩
    obtain ⟨aol, capl, rfl⟩ := ha.shape
    have HAL := Lib.hid ha
    have HRL := Lib.hid hr
    have HML := Lib.hid hm
    have HST := Lib.hid hst
    have HG := Lib.hid hg
    have HKA := Lib.hid hka
    clear ha hr hm hst hg hka HR1 HM0
    by_cases hlt : k < n
    · skip
      go_upto_region 3 with (fail)
      generalize ha0 : Act.mk _ _ = a0
      have oe7 : a0.eval (.tmp 7) = .int .i64 ((n : Nat) : Int) := by rw [← ha0]; rfl
      have oe8 : a0.eval (.tmp 8) = .int .i64 ((k : Nat) : Int) := by rw [← ha0]; rfl
      have hsz0 : a0.tmps.size = 21 := by rw [← ha0]; rfl
      have HA0 := hid ha0
      clear ha0
      refine wp_region_S 21 hsz0 [9] [0] ?_
      refine QSeq.pure rfl (.bool true) (fun E => ex_binE rfl (E.v oe8) (E.v oe7) (guard_ints _ _ _ _ _ _) (run_lss_i _ _ _ Try.underlying3) (congrArg Value.bool (decide_eq_true (by omega)))) ?_
      refine QSeq.nil (t' := [_]) rfl ?_
      have ha0 := HA0.out
      subst ha0
      clear HA0 hsz0 oe7 oe8
      simp only [putAll, Act.put, List.setIfInBounds_toArray, List.set_cons_zero, List.set_cons_succ]
      obtain ⟨p, hp⟩ : ∃ p, p = gPm st := ⟨_, rfl⟩
      obtain ⟨x, st2⟩ := p
      have HP1 := hid (congrArg Prod.fst hp.symm)
      have HP2 := hid (congrArg Prod.snd hp.symm)
      clear hp
      dsimp only at HP1 HP2
      have HST2 := hid (show (st2.getD []).length ≤ 900000 by rw [← HP2.out]; exact Nat.le_trans (gPm_suf.len st) HST.out)
      have HGN := hid (show gItems gPm (n - k) acc st = if st2 = none then ([], none) else gItems gPm (n - (k + 1)) (acc ++ [x]) st2 by rw [show n - k = (n - (k + 1)) + 1 by omega]; show (if (gPm st).2 = none then _ else _) = _; rw [HP2.out, HP1.out])
      go_upto_region 4 with (fail)
      generalize ha0 : Act.mk _ _ = a0
      have oe0 : a0.eval (.tmp 0) = .pointer (some ⟨r, 0, none⟩) := by rw [← ha0]; rfl
      have oe1 : a0.eval (.tmp 1) = .func (.func 85) #[] #[] := by rw [← ha0]; rfl
      have oe5 : a0.eval (.tmp 5) = .slice aol acc.length capl := by rw [← ha0]; rfl
      have hsz0 : a0.tmps.size = 21 := by rw [← ha0]; rfl
      have HA0 := hid ha0
      clear ha0
      refine wp_region_S 21 hsz0 [10, 11, 12, 13, 14, 15, 5] [0, 1, 2, 3, 4, 5, 6] ?_
      refine QSeq.pure rfl (.slice aol acc.length capl) (fun E => ex_move rfl (E.y 6 oe5)) ?_
      refine QSeq.pure rfl (.func (.func 85) #[] #[]) (fun E => ex_move rfl (E.v oe1)) ?_
      refine QSeq.pure rfl (.pointer (some ⟨r, 0, none⟩)) (fun E => ex_move rfl (E.v oe0)) ?_
      refine QSeq.go fun act E => ?_
      have ea12 : act.eval (.tmp 12) = .pointer (some ⟨r, 0, none⟩) := (E.d 2 0)
      refine qc_call (args := #[.pointer (some ⟨r, 0, none⟩)]) rfl (wanted_none rfl) (by rw [ex_callV rfl (E.d 1 1) Try.func85 (by kernel_rfl) (by kernel_rfl)]; exact congrArg (fun z => Result.ok (Next.enter _ z) _) (by simp only [List.map_toArray, List.map_cons, List.map_nil, ea12]; try rfl)) ((cPm_G).to HP1.out HP2.out HRL.out (by intro k h1; have hb := HBR.out k h1; omega) HST.out) ?_
      rintro e u4_3 ⟨cs, rfl, qel, qrd, hm⟩
      refine ⟨_, rfl, ?_⟩
      have Hx3 := hid (qel.widen (R' := (fun k => (New wl u4_3 k))) (fun _ h => h))
      have Hx4 := hid qrd
      have zu4_3 := hm.size
      have Cx5 := hid (show Mod (fun k => (R k)) wl u4_3 from hm)
      clear hm
      clear act E qel qrd HRL ea12
      refine QSeq.go fun act E => ?_
      refine qc_buildS (e := 55) (cs := cs) (zc := [.int .i64 0, .int .i64 0, .int .u64 0, .slice none 0 0, .int .i64 0, .int .i64 0]) (sz := 6) rfl (wanted_none rfl) rfl Try.underlying56 (by kernel_rfl) rfl (by decide) (by decide) (E.d 3 0) (PmR.len Hx3.out) ?_
      intro u4_4 qrow hm
      have zl4_4 := qrow.lt
      have Hx6 := hid qrow
      have zu4_4 := hm.size
      have HMu4_4 := hid hm
      have Cx7 := hid (Cx5.out.goE hm)
      clear hm Cx5
      clear act E qrow
      refine QSeq.go fun act E => ?_
      refine qc_appS (A := PmR) (e := 55) rfl (wanted_none rfl) rfl (.agg #[.int .i64 0, .int .i64 0, .int .u64 0, .slice none 0 0, .int .i64 0, .int .i64 0]) 64 Try.underlying56 info_Pm (by rfl) (of_decide_eq_true (by kernel_rfl)) (E.d 0 4) (E.d 4 0) ((HAL.out.mod Cx7.out (by intro k h1 h2; have hb := HBR.out k h2; omega) (by intro k h1 h2; have hb := HBR.out k h2; omega))) (RdS.single (R := (fun k => (New wl u4_3 k) ∨ (k = u4_3.heap.size))) Hx6.out ((Hx3.out.mod HMu4_4.out (fun _ _ h => h)).widen (by intro k h1; first | omega | exact h1.elim | exact Or.inl h1 | exact Or.inr (h1))) (by first | exact Or.inr rfl | exact Or.inr (Or.inr rfl) | (right; omega))) (by intro k h1 h2; omega) (by rw [HKA.out]; simp only [List.length_cons, List.length_nil]; omega) (by rw [HKA.out]; simp only [List.length_cons, List.length_nil]; rw [maxLen_val]; omega) ?_
      intro ao4 cap4 u4_5 qout hm
      have Hx8 := hid (qout.widen (R' := (fun k => (New w wl k) ∨ (New u4_4 u4_5 k))) (E' := (fun k => (New w wl k) ∨ (New wl u4_3 k) ∨ (k = u4_3.heap.size))) (fun _ h => h) (by intro k h1; rcases h1 with h1 | (h1 | h1) <;> first | omega | exact h1.elim | exact Or.inl h1 | exact Or.inr (Or.inl h1) | exact Or.inr (Or.inr (h1))))
      have zu4_5 := hm.size
      have HMu4_5 := hid hm
      have Cx9 := hid (Mod.goS (S' := (fun k => (R k) ∨ (New w wl k))) Cx7.out hm (fun _ h => Or.inl h) (by intro k h0 h2; exact Or.inr (h2)))
      clear hm Cx7
      clear act E qout HAL
      refine QSeq.pure rfl (.slice ao4 (acc.length + 1) cap4) (fun E => ex_assign rfl (E.d 5 0)) ?_
      have Hx10 := hid ((Hx4.out.mod HMu4_4.out (fun _ _ h => h)).mod HMu4_5.out (by intro k h1 h2; have hb := HBR.out k h1; omega))
      have Hx11 := hid ((Hx3.out.mod HMu4_4.out (fun _ _ h => h)).mod HMu4_5.out (by intro k h1 h2; omega))
      have Hx12 := hid (Hx6.out.mod HMu4_5.out (by intro h2; omega))
      clear Hx4 Hx3 Hx6 HMu4_4 HMu4_5
      refine QSeq.nil (t' := [_, _, _, _, _, _, _]) rfl ?_
      have ha0 := HA0.out
      subst ha0
      clear HA0 hsz0 oe0 oe1 oe5
      simp only [putAll, Act.put, List.setIfInBounds_toArray, List.set_cons_zero, List.set_cons_succ]
      clear Hx11
      clear Hx12
      cases st2 with
      | none =>
        go_upto_region 5 with (fail)
        generalize ha0 : Act.mk _ _ = a0
        have oe0 : a0.eval (.tmp 0) = .pointer (some ⟨r, 0, none⟩) := by rw [← ha0]; rfl
        have hsz0 : a0.tmps.size = 21 := by rw [← ha0]; rfl
        have HA0 := hid ha0
        clear ha0
        refine wp_region_S 21 hsz0 [16, 17, 18] [0, 1, 2] ?_
        refine QSeq.pure rfl (.pointer (some ⟨r, 0, none⟩)) (fun E => ex_move rfl (E.v oe0)) ?_
        refine QSeq.go fun act E => ?_
        refine qc_callF (args := #[.pointer (some ⟨r, 0, none⟩)]) rfl (wanted_none rfl) rfl Try.func39 (args1 (E.d 0 0)) (OK_R Hx10.out) ?_
        rintro e w2 ⟨rfl, hw2⟩
        obtain rfl : u4_5 = w2 := by first | exact hw2 | exact hw2.symm
        refine ⟨_, rfl, ?_⟩
        clear act E
        refine QSeq.pure rfl (.bool true) (fun E => ex_not rfl (E.d 1 0)) ?_
        refine QSeq.nil (t' := [_, _, _]) rfl ?_
        have ha0 := HA0.out
        subst ha0
        clear HA0 hsz0 oe0
        simp only [putAll, Act.put, List.setIfInBounds_toArray, List.set_cons_zero, List.set_cons_succ]
        go_upto_region 6 with (fail)
        generalize ha0 : Act.mk _ _ = a0
        have hsz0 : a0.tmps.size = 21 := by rw [← ha0]; rfl
        have HA0 := hid ha0
        clear ha0
        refine wp_region_S 21 hsz0 [4] [0] ?_
        refine QSeq.pure rfl (.slice none 0 0) (fun E => ex_assign rfl rfl) ?_
        refine QSeq.nil (t' := [_]) rfl ?_
        have ha0 := HA0.out
        subst ha0
        clear HA0 hsz0
        simp only [putAll, Act.put, List.setIfInBounds_toArray, List.set_cons_zero, List.set_cons_succ]
        go_wp2
        go_ret
        have hq := HG.out
        rw [HGN.out, if_pos trivial] at hq
        have e := HGL.out
        rw [← hq] at e
        refine ⟨_, rfl, ?_, ?_, (HML.out.trans Cx9.out (by intro k h1 h2; rcases h2 with h2 | h2 <;> first | exact h2 | omega | (have hb := HBR.out k h2; omega)))⟩
        · rw [e]; exact RdS.nil _ _ _
        · rw [e]; exact Hx10.out
      | some l2 =>
        go_upto_region 5 with (fail)
        generalize ha0 : Act.mk _ _ = a0
        have oe0 : a0.eval (.tmp 0) = .pointer (some ⟨r, 0, none⟩) := by rw [← ha0]; rfl
        have hsz0 : a0.tmps.size = 21 := by rw [← ha0]; rfl
        have HA0 := hid ha0
        clear ha0
        refine wp_region_S 21 hsz0 [16, 17, 18] [0, 1, 2] ?_
        refine QSeq.pure rfl (.pointer (some ⟨r, 0, none⟩)) (fun E => ex_move rfl (E.v oe0)) ?_
        refine QSeq.go fun act E => ?_
        refine qc_callF (args := #[.pointer (some ⟨r, 0, none⟩)]) rfl (wanted_none rfl) rfl Try.func39 (args1 (E.d 0 0)) (OK_R Hx10.out) ?_
        rintro e w2 ⟨rfl, hw2⟩
        obtain rfl : u4_5 = w2 := by first | exact hw2 | exact hw2.symm
        refine ⟨_, rfl, ?_⟩
        clear act E
        refine QSeq.pure rfl (.bool false) (fun E => ex_not rfl (E.d 1 0)) ?_
        refine QSeq.nil (t' := [_, _, _]) rfl ?_
        have ha0 := HA0.out
        subst ha0
        clear HA0 hsz0 oe0
        simp only [putAll, Act.put, List.setIfInBounds_toArray, List.set_cons_zero, List.set_cons_succ]
        go_upto_region 7 with (fail)
        generalize ha0 : Act.mk _ _ = a0
        have oe8 : a0.eval (.tmp 8) = .int .i64 ((k : Nat) : Int) := by rw [← ha0]; rfl
        have hsz0 : a0.tmps.size = 21 := by rw [← ha0]; rfl
        have HA0 := hid ha0
        clear ha0
        refine wp_region_S 21 hsz0 [19, 8] [0, 1] ?_
        refine QSeq.pure rfl (.int .i64 (((k : Nat) : Int) + 1)) (fun E => ex_binE rfl (E.y 1 oe8) rfl (guard_ints _ _ _ _ _ _) (run_add_i _ _ Try.underlying3) (congrArg (Value.int .i64) (IntWalk.i64_in _ (by omega)))) ?_
        refine QSeq.pure rfl (.int .i64 (((k : Nat) : Int) + 1)) (fun E => ex_move rfl (E.d 0 0)) ?_
        refine QSeq.nil (t' := [_, _]) rfl ?_
        have ha0 := HA0.out
        subst ha0
        clear HA0 hsz0 oe8
        simp only [putAll, Act.put, List.setIfInBounds_toArray, List.set_cons_zero, List.set_cons_succ]
        go_wp2
        go_roundw
        case rel => exact ⟨k + 1, acc ++ [x], some l2, by go_num, by omega, by rw [List.length_append, HKA.out]; rfl, HST2.out, (by have hq := HG.out; rw [HGN.out, if_neg (by simp)] at hq; exact hq), by omega, (Hx8.out.widen (by intro b h1; omega) (by intro b h1; rcases h1 with h1 | h1 | h1 <;> first | omega | exact h1.elim)), Hx10.out, (HML.out.trans Cx9.out (by intro k h1 h2; rcases h2 with h2 | h2 <;> first | exact h2 | omega | (have hb := HBR.out k h2; omega)))⟩
        case measure => simp [intOf] <;> omega
    · obtain rfl : n = k := by omega
      go_upto_region 3 with (fail)
      generalize ha0 : Act.mk _ _ = a0
      have oe7 : a0.eval (.tmp 7) = .int .i64 ((n : Nat) : Int) := by rw [← ha0]; rfl
      have oe8 : a0.eval (.tmp 8) = .int .i64 ((n : Nat) : Int) := by rw [← ha0]; rfl
      have hsz0 : a0.tmps.size = 21 := by rw [← ha0]; rfl
      have HA0 := hid ha0
      clear ha0
      refine wp_region_S 21 hsz0 [9] [0] ?_
      refine QSeq.pure rfl (.bool false) (fun E => ex_binE rfl (E.v oe8) (E.v oe7) (guard_ints _ _ _ _ _ _) (run_lss_i _ _ _ Try.underlying3) (congrArg Value.bool (decide_eq_false (by omega)))) ?_
      refine QSeq.nil (t' := [_]) rfl ?_
      have ha0 := HA0.out
      subst ha0
      clear HA0 hsz0 oe7 oe8
      simp only [putAll, Act.put, List.setIfInBounds_toArray, List.set_cons_zero, List.set_cons_succ]
      go_upto_region 8 with (fail)
      generalize ha0 : Act.mk _ _ = a0
      have oe5 : a0.eval (.tmp 5) = .slice aol acc.length capl := by rw [← ha0]; rfl
      have hsz0 : a0.tmps.size = 21 := by rw [← ha0]; rfl
      have HA0 := hid ha0
      clear ha0
      refine wp_region_S 21 hsz0 [20, 4] [0, 1] ?_
      refine QSeq.pure rfl (.slice aol acc.length capl) (fun E => ex_move rfl (E.v oe5)) ?_
      refine QSeq.pure rfl (.slice aol acc.length capl) (fun E => ex_assign rfl (E.d 0 0)) ?_
      refine QSeq.nil (t' := [_, _]) rfl ?_
      have ha0 := HA0.out
      subst ha0
      clear HA0 hsz0 oe5
      simp only [putAll, Act.put, List.setIfInBounds_toArray, List.set_cons_zero, List.set_cons_succ]
      go_wp2
      go_ret
      have hq := HG.out
      rw [Nat.sub_self] at hq
      have e := HGL.out
      rw [← hq] at e
      refine ⟨_, rfl, ?_, ?_, HML.out⟩
      · rw [e]; exact HAL.out.rd.widen (by intro b h1; (try dsimp only at h1 ⊢); omega)
      · rw [e]; exact HRL.out
set_option maxHeartbeats 4000000 in
theorem cBa_G : Gets BaR 125 90 gBa := by
  intro R r s w hR hB hl
  have HRD := Lib.hid hR
  have HBR := Lib.hid hB
  have HBY := hid hR.bytes
  clear hR hB
  have HLN := Lib.hid hl
  clear hl
  go_enter Try.func90, Try.ntmps90
  go_upto_region 1 with (fail)
  obtain ⟨w1, hw1⟩ : ∃ zz, zz = (w.alloc (.cells #[.int .i64 0, .int .u64 0, .slice none 0 0, .slice none 0 0, .slice none 0 0] 60)) := ⟨_, rfl⟩
  change Code.wp _ _ _ _ (w.alloc (.cells #[.int .i64 0, .int .u64 0, .slice none 0 0, .slice none 0 0, .slice none 0 0] 60))
  rw [← hw1]
  have HB2 := hid (show Cs w1 (w.heap.size) #[.int .i64 0, .int .u64 0, .slice none 0 0, .slice none 0 0, .slice none 0 0] 60 by rw [hw1]; exact Cs.new _ _ _)
  have hm : Mod (fun _ => False) w w1 := by rw [hw1]; exact (Mod.refl _ _).alloc _
  have HM0 := hid (show Mod (fun k => (R k)) w w1 from hm.mono (fun _ _ h => h.elim))
  have hs1 : w1.heap.size = w.heap.size + 1 := by rw [hw1]; simp
  have Hx1 := hid (HRD.out.mod hm (fun _ _ h => h))
  clear HRD
  clear hw1 hm
  go_upto_region 1 with (fail)
  generalize ha0 : Act.mk _ _ = a0
  have oe0 : a0.eval (.tmp 0) = .pointer (some ⟨r, 0, none⟩) := by rw [← ha0]; rfl
  have oe2 : a0.eval (.tmp 2) = .pointer (some ⟨w.heap.size, 0, none⟩) := by rw [← ha0]; rfl
  have hsz0 : a0.tmps.size = 14 := by rw [← ha0]; rfl
  have HA0 := hid ha0
  clear ha0
  refine wp_region_S 14 hsz0 [3, 4, 5, 6, 7, 8, 9, 10, 11, 12, 13, 25] [0, 1, 2, 3, 4, 5, 6, 7, 8, 9, 10, 11] ?_
  refine QSeq.pure rfl (.pointer (some ⟨r, 0, none⟩)) (fun E => ex_move rfl (E.v oe0)) ?_
  refine QSeq.go fun act E => ?_
  refine qc_callF (args := #[.pointer (some ⟨r, 0, none⟩), .int .i64 1099511627776]) rfl (wanted_none rfl) rfl Try.func115 (args2 (E.d 0 0) rfl) (cI_Q Hx1.out) ?_
  rintro e u1_1 ⟨rfl, qrd, hm⟩
  refine ⟨_, rfl, ?_⟩
  have Hx2 := hid qrd
  have zu1_1 := hm.size
  have Cx3 := hid (show Mod (fun k => (R k)) w1 u1_1 from hm)
  clear hm
  clear act E qrd Hx1
  refine QSeq.pure rfl (.pointer (some ⟨r, 0, none⟩)) (fun E => ex_move rfl (E.v oe0)) ?_
  refine QSeq.go fun act E => ?_
  refine qc_callF (args := #[.pointer (some ⟨r, 0, none⟩)]) rfl (wanted_none rfl) rfl Try.func116 (args1 (E.d 2 0)) (RNum_R Hx2.out) ?_
  rintro e u1_3 ⟨rfl, qrd, hm⟩
  refine ⟨_, rfl, ?_⟩
  have Hx4 := hid qrd
  have zu1_3 := hm.size
  have HMu1_3 := hid hm
  have Cx5 := hid (Mod.goS (S' := (fun k => (R k))) Cx3.out hm (fun _ h => h) (by intro k h0 h2; exact h2))
  clear hm Cx3
  clear act E qrd Hx2
  refine QSeq.pure rfl (.pointer (some ⟨r, 0, none⟩)) (fun E => ex_move rfl (E.v oe0)) ?_
  refine QSeq.go fun act E => ?_
  refine qc_callF (args := #[.pointer (some ⟨r, 0, none⟩), .func (.func 85) #[] #[]]) rfl (wanted_none rfl) rfl Try.func123 (args2 (E.d 4 0) rfl) (cList_Pm _ _ _ _ Hx4.out (by intro k h1; have hb := HBR.out k h1; omega) (Nat.le_trans (rNum_suf.len _) (Nat.le_trans (gI_suf.len _) HLN.out))) ?_
  rintro e u1_5 ⟨vlPm, rfl, qlPm, qrd, hm⟩
  obtain ⟨ao_lPm, cap_lPm, rfl⟩ := qlPm.shape
  refine ⟨_, rfl, ?_⟩
  have Hx6 := hid (qlPm.widen (R' := (fun k => (New u1_3 u1_5 k))) (fun _ h => h))
  have Hx7 := hid qrd
  have zu1_5 := hm.size
  have HMu1_5 := hid hm
  have Cx8 := hid (Mod.goS (S' := (fun k => (R k))) Cx5.out hm (fun _ h => h) (by intro k h0 h2; exact h2))
  clear hm Cx5
  clear act E qlPm qrd Hx4
  refine QSeq.pure rfl (.pointer (some ⟨r, 0, none⟩)) (fun E => ex_move rfl (E.v oe0)) ?_
  refine QSeq.go fun act E => ?_
  refine qc_callF (args := #[.pointer (some ⟨r, 0, none⟩), .func (.func 125) #[] #[]]) rfl (wanted_none rfl) rfl Try.func124 (args2 (E.d 6 0) rfl) (cList_Op _ _ _ _ Hx7.out (by intro k h1; have hb := HBR.out k h1; omega) (Nat.le_trans ((gList_suf gPm_suf).len _) (Nat.le_trans (rNum_suf.len _) (Nat.le_trans (gI_suf.len _) HLN.out)))) ?_
  rintro e u1_7 ⟨vlOp, rfl, qlOp, qrd, hm⟩
  obtain ⟨ao_lOp, cap_lOp, rfl⟩ := qlOp.shape
  refine ⟨_, rfl, ?_⟩
  have Hx9 := hid (qlOp.widen (R' := (fun k => (New u1_5 u1_7 k))) (fun _ h => h))
  have Hx10 := hid qrd
  have zu1_7 := hm.size
  have HMu1_7 := hid hm
  have Cx11 := hid (Mod.goS (S' := (fun k => (R k))) Cx8.out hm (fun _ h => h) (by intro k h0 h2; exact h2))
  clear hm Cx8
  clear act E qlOp qrd Hx7
  refine QSeq.pure rfl (.pointer (some ⟨r, 0, none⟩)) (fun E => ex_move rfl (E.v oe0)) ?_
  refine QSeq.go fun act E => ?_
  refine qc_callF (args := #[.pointer (some ⟨r, 0, none⟩), .func (.func 127) #[] #[]]) rfl (wanted_none rfl) rfl Try.func126 (args2 (E.d 8 0) rfl) (cList_Tb _ _ _ _ Hx10.out (by intro k h1; have hb := HBR.out k h1; omega) (Nat.le_trans ((gList_suf gOp_suf).len _) (Nat.le_trans ((gList_suf gPm_suf).len _) (Nat.le_trans (rNum_suf.len _) (Nat.le_trans (gI_suf.len _) HLN.out))))) ?_
  rintro e u1_9 ⟨vlTb, rfl, qlTb, qrd, hm⟩
  obtain ⟨ao_lTb, cap_lTb, rfl⟩ := qlTb.shape
  refine ⟨_, rfl, ?_⟩
  have Hx12 := hid (qlTb.widen (R' := (fun k => (New u1_7 u1_9 k))) (fun _ h => h))
  have Hx13 := hid qrd
  have zu1_9 := hm.size
  have HMu1_9 := hid hm
  have Cx14 := hid (Mod.goS (S' := (fun k => (R k))) Cx11.out hm (fun _ h => h) (by intro k h0 h2; exact h2))
  clear hm Cx11
  clear act E qlTb qrd Hx10
  refine QSeq.go fun act E => ?_
  refine qc_run rfl (wanted_none rfl) (v := .agg ((gBa s).1.cells (Value.slice ao_lPm (gList gPm (rNum (gI s).2).2).1.length cap_lPm) (Value.slice ao_lOp (gList gOp (gList gPm (rNum (gI s).2).2).2).1.length cap_lOp) (Value.slice ao_lTb (gList gTb (gList gOp (gList gPm (rNum (gI s).2).2).2).2).1.length cap_lTb) : List Value).toArray) (ex_build rfl (z := [.int .i64 0, .int .u64 0, .slice none 0 0, .slice none 0 0, .slice none 0 0]) (places := [(0, 1), (1, 1), (2, 1), (3, 1), (4, 1)]) (by kernel_rfl) (parts := [(0, .int .i64 (gI s).1), (1, .int .u64 ((rNum (gI s).2).1 : Nat)), (2, .slice ao_lPm (gList gPm (rNum (gI s).2).2).1.length cap_lPm), (3, .slice ao_lOp (gList gOp (gList gPm (rNum (gI s).2).2).2).1.length cap_lOp), (4, .slice ao_lTb (gList gTb (gList gOp (gList gPm (rNum (gI s).2).2).2).2).1.length cap_lTb)]) (by simp only [List.map_toArray, List.map_cons, List.map_nil, show act.eval (.tmp 4) = .int .i64 (gI s).1 from (E.d 1 8), show act.eval (.tmp 6) = .int .u64 ((rNum (gI s).2).1 : Nat) from (E.d 3 6), show act.eval (.tmp 8) = .slice ao_lPm (gList gPm (rNum (gI s).2).2).1.length cap_lPm from (E.d 5 4), show act.eval (.tmp 10) = .slice ao_lOp (gList gOp (gList gPm (rNum (gI s).2).2).2).1.length cap_lOp from (E.d 7 2), show act.eval (.tmp 12) = .slice ao_lTb (gList gTb (gList gOp (gList gPm (rNum (gI s).2).2).2).2).1.length cap_lTb from (E.d 9 0)]; try rfl) (r := (gBa s).1.cells (Value.slice ao_lPm (gList gPm (rNum (gI s).2).2).1.length cap_lPm) (Value.slice ao_lOp (gList gOp (gList gPm (rNum (gI s).2).2).2).1.length cap_lOp) (Value.slice ao_lTb (gList gTb (gList gOp (gList gPm (rNum (gI s).2).2).2).2).1.length cap_lTb)) (by exact laid_segs (ns := [1, 1, 1, 1, 1]) rfl [(0, .int .i64 (gI s).1), (1, .int .u64 ((rNum (gI s).2).1 : Nat)), (2, .slice ao_lPm (gList gPm (rNum (gI s).2).2).1.length cap_lPm), (3, .slice ao_lOp (gList gOp (gList gPm (rNum (gI s).2).2).2).1.length cap_lOp), (4, .slice ao_lTb (gList gTb (gList gOp (gList gPm (rNum (gI s).2).2).2).2).1.length cap_lTb)] [[.int .i64 0], [.int .u64 0], [.slice none 0 0], [.slice none 0 0], [.slice none 0 0]] rfl ⟨rfl, rfl, rfl, rfl, rfl, trivial⟩)) ?_
  clear act E
  refine QSeq.go fun act E => ?_
  refine qc_store rfl (wanted_none rfl) rfl (HB2.out.mod Cx14.out (by intro h2; first | omega | (have hb := HBR.out _ h2; omega))) (off := 0) (vs := ((gBa s).1.cells (Value.slice ao_lPm (gList gPm (rNum (gI s).2).2).1.length cap_lPm) (Value.slice ao_lOp (gList gOp (gList gPm (rNum (gI s).2).2).2).1.length cap_lOp) (Value.slice ao_lTb (gList gTb (gList gOp (gList gPm (rNum (gI s).2).2).2).2).1.length cap_lTb))) (by kernel_rfl) (by intro u hu; simp only [Ba.cells, List.mem_cons, List.not_mem_nil, or_false] at hu; rcases hu with rfl | rfl | rfl | rfl | rfl <;> rfl) (by simp) (E.v oe2) (by rw [show act.eval ((.tmp 13)) = _ from (E.d 10 0)]; rfl) ?_
  intro u1_11 qc0 hm
  have qB2 : Cs u1_11 (w.heap.size) (((gBa s).1.cells (Value.slice ao_lPm (gList gPm (rNum (gI s).2).2).1.length cap_lPm) (Value.slice ao_lOp (gList gOp (gList gPm (rNum (gI s).2).2).2).1.length cap_lOp) (Value.slice ao_lTb (gList gTb (gList gOp (gList gPm (rNum (gI s).2).2).2).2).1.length cap_lTb)) : List Value).toArray 60 := by rw [show lay _ 0 _ = (((gBa s).1.cells (Value.slice ao_lPm (gList gPm (rNum (gI s).2).2).1.length cap_lPm) (Value.slice ao_lOp (gList gOp (gList gPm (rNum (gI s).2).2).2).1.length cap_lOp) (Value.slice ao_lTb (gList gTb (gList gOp (gList gPm (rNum (gI s).2).2).2).2).1.length cap_lTb)) : List Value).toArray from lay_whole #[.int .i64 0, .int .u64 0, .slice none 0 0, .slice none 0 0, .slice none 0 0] _ rfl] at qc0; exact qc0
  clear qc0
  have Hx15 := hid qB2
  have zu1_11 := hm.size
  have HMu1_11 := hid hm
  have Cx16 := hid (Mod.goS (S' := (fun k => (R k) ∨ (k = w.heap.size))) Cx14.out hm (fun _ h => Or.inl h) (by intro k h0 h2; exact Or.inr (h2)))
  clear hm Cx14
  clear act E qB2 HB2
  have Hx17 := hid (Hx13.out.mod HMu1_11.out (by intro k h1 h2; have hb := HBR.out k h1; omega))
  have Hx18 := hid (((Hx6.out.mod HMu1_7.out (by intro k h1 h2; have hb := HBR.out k h2; omega)).mod HMu1_9.out (by intro k h1 h2; have hb := HBR.out k h2; omega)).mod HMu1_11.out (by intro k h1 h2; omega))
  have Hx19 := hid ((Hx9.out.mod HMu1_9.out (by intro k h1 h2; have hb := HBR.out k h2; omega)).mod HMu1_11.out (by intro k h1 h2; omega))
  have Hx20 := hid (Hx12.out.mod HMu1_11.out (by intro k h1 h2; omega))
  clear Hx13 Hx6 Hx9 Hx12 HMu1_3 HMu1_5 HMu1_7 HMu1_9 HMu1_11
  refine QSeq.nil (t' := [_, _, _, _, _, _, _, _, _, _, _, _]) rfl ?_
  have ha0 := HA0.out
  subst ha0
  clear HA0 hsz0 oe0 oe2
  simp only [putAll, Act.put, List.setIfInBounds_toArray, List.set_cons_zero, List.set_cons_succ, List.set_nil]
  go_wp2
  exact bodyPost_ret (results_cellA rfl _ _ w.heap.size ((gBa s).1.cells (Value.slice ao_lPm (gList gPm (rNum (gI s).2).2).1.length cap_lPm) (Value.slice ao_lOp (gList gOp (gList gPm (rNum (gI s).2).2).2).1.length cap_lOp) (Value.slice ao_lTb (gList gTb (gList gOp (gList gPm (rNum (gI s).2).2).2).2).1.length cap_lTb)) rfl (fun k u hu => by rw [Hx15.out.cell]; simpa using hu) Try.underlying60 rfl (by kernel_rfl)) rfl ⟨_, rfl, ⟨_, _, _, rfl, gBa_OK HBY.out, (Hx18.out.widen (R' := (fun k => New w u1_11 k)) (by intro k h1; omega)), (Hx19.out.widen (R' := (fun k => New w u1_11 k)) (by intro k h1; omega)), (Hx20.out.widen (R' := (fun k => New w u1_11 k)) (by intro k h1; omega))⟩, Hx17.out, (HM0.out.trans Cx16.out (by intro k h1 h2; rcases h2 with h2 | h2 <;> first | exact h2 | omega | (have hb := HBR.out k h2; omega)))⟩
end Go.Proofs.Ytknpapcfhnhheaa
