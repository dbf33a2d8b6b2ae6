/- Texts that are built one behind the other: XGt2, XGw, XCut2. No condition. -/
import Derived.Test.YtknpapcfhnhheaaHg3
/- Parts of messages, read. -/
set_option maxRecDepth 100000
set_option linter.unusedVariables false
namespace Go.Proofs.Ytknpapcfhnhheaa
open Go Go.RowKit Go.Gv

theorem ce_len (x : Ce) (v : Value) (h : x.c.h.length = 32) : (x.cells v).length = 38 := by simp [Ce.cells, Cm.len h]
theorem op_len2 (x : Op) (v : Value) (h : x.nc.length = 32) : (x.cells v).length = 34 := by simp [Op.cells, h]
theorem one_ce2 (x : Ce) (v : Value) (h : v.oneCell' = true) : ∀ u ∈ x.cells v, u.oneCell' = true := by
  intro u hu
  simp only [Ce.cells, List.mem_append, List.mem_cons, List.not_mem_nil, or_false] at hu
  rcases hu with hu | rfl
  · exact Cm_one _ _ hu
  · exact h
theorem one_op2 (x : Op) (v : Value) (h : v.oneCell' = true) : ∀ u ∈ x.cells v, u.oneCell' = true := by
  intro u hu
  simp only [Op.cells, List.mem_append, List.mem_cons, List.not_mem_nil, or_false, List.mem_map] at hu
  rcases hu with (rfl | rfl) | ⟨y, -, rfl⟩
  · rfl
  · exact h
  · rfl
set_option maxHeartbeats 4000000 in
theorem cCe_G : Gets CeR 125 81 gCe := by
  intro R r s w hR hB hl
  have HRD := Lib.hid hR
  have HBR := Lib.hid hB
  have HBY := hid hR.bytes
  clear hR hB
  have HLN := Lib.hid hl
  clear hl
  go_enter Try.func81, Try.ntmps81
  go_upto_region 1 with (fail)
  obtain ⟨w1, hw1⟩ : ∃ zz, zz = (w.alloc (.cells #[.int .i64 0, .int .i64 0, .int .u8 0, .int .u8 0, .int .u8 0, .int .u8 0, .int .u8 0, .int .u8 0, .int .u8 0, .int .u8 0, .int .u8 0, .int .u8 0, .int .u8 0, .int .u8 0, .int .u8 0, .int .u8 0, .int .u8 0, .int .u8 0, .int .u8 0, .int .u8 0, .int .u8 0, .int .u8 0, .int .u8 0, .int .u8 0, .int .u8 0, .int .u8 0, .int .u8 0, .int .u8 0, .int .u8 0, .int .u8 0, .int .u8 0, .int .u8 0, .int .u8 0, .int .u8 0, .int .i64 0, .int .i64 0, .int .i64 0, .slice none 0 0] 52)) := ⟨_, rfl⟩
  change Code.wp _ _ _ _ (w.alloc (.cells #[.int .i64 0, .int .i64 0, .int .u8 0, .int .u8 0, .int .u8 0, .int .u8 0, .int .u8 0, .int .u8 0, .int .u8 0, .int .u8 0, .int .u8 0, .int .u8 0, .int .u8 0, .int .u8 0, .int .u8 0, .int .u8 0, .int .u8 0, .int .u8 0, .int .u8 0, .int .u8 0, .int .u8 0, .int .u8 0, .int .u8 0, .int .u8 0, .int .u8 0, .int .u8 0, .int .u8 0, .int .u8 0, .int .u8 0, .int .u8 0, .int .u8 0, .int .u8 0, .int .u8 0, .int .u8 0, .int .i64 0, .int .i64 0, .int .i64 0, .slice none 0 0] 52))
  rw [← hw1]
  have HB2 := hid (show Cs w1 (w.heap.size) #[.int .i64 0, .int .i64 0, .int .u8 0, .int .u8 0, .int .u8 0, .int .u8 0, .int .u8 0, .int .u8 0, .int .u8 0, .int .u8 0, .int .u8 0, .int .u8 0, .int .u8 0, .int .u8 0, .int .u8 0, .int .u8 0, .int .u8 0, .int .u8 0, .int .u8 0, .int .u8 0, .int .u8 0, .int .u8 0, .int .u8 0, .int .u8 0, .int .u8 0, .int .u8 0, .int .u8 0, .int .u8 0, .int .u8 0, .int .u8 0, .int .u8 0, .int .u8 0, .int .u8 0, .int .u8 0, .int .i64 0, .int .i64 0, .int .i64 0, .slice none 0 0] 52 by rw [hw1]; exact Cs.new _ _ _)
  have hm : Mod (fun _ => False) w w1 := by rw [hw1]; exact (Mod.refl _ _).alloc _
  have HM0 := hid (show Mod (fun k => (R k)) w w1 from hm.mono (fun _ _ h => h.elim))
  have hs1 : w1.heap.size = w.heap.size + 1 := by rw [hw1]; simp
  have Hx1 := hid (HRD.out.mod hm (fun _ _ h => h))
  clear HRD
  clear hw1 hm
  go_upto_region 1 with (fail)
  generalize ha0 : Act.mk _ _ = a0
  have oe0 : a0.eval (.tmp 0) = .pointer (some ⟨r, 0, none⟩) := by rw [← ha0]; rfl
  have oe2 : a0.eval (.tmp 2) = .pointer (some ⟨w.heap.size, 0, none⟩) := by rw [← ha0]; rfl
  have hsz0 : a0.tmps.size = 8 := by rw [← ha0]; rfl
  have HA0 := hid ha0
  clear ha0
  refine wp_region_S 8 hsz0 [3, 4, 5, 6, 7, 13] [0, 1, 2, 3, 4, 5] ?_
  refine QSeq.pure rfl (.pointer (some ⟨r, 0, none⟩)) (fun E => ex_move rfl (E.v oe0)) ?_
  refine QSeq.go fun act E => ?_
  refine qc_callF (args := #[.pointer (some ⟨r, 0, none⟩)]) rfl (wanted_none rfl) rfl Try.func109 (args1 (E.d 0 0)) (cCm_Q _ _ _ _ Hx1.out (by intro k h1; have hb := HBR.out k h1; omega)) ?_
  rintro e u1_1 ⟨rfl, qrd, hm⟩
  refine ⟨_, rfl, ?_⟩
  have Hx2 := hid qrd
  have zu1_1 := hm.size
  have Cx3 := hid (show Mod (fun k => (R k)) w1 u1_1 from hm)
  clear hm
  clear act E qrd Hx1
  refine QSeq.pure rfl (.pointer (some ⟨r, 0, none⟩)) (fun E => ex_move rfl (E.v oe0)) ?_
  refine QSeq.go fun act E => ?_
  refine qc_callF (args := #[.pointer (some ⟨r, 0, none⟩), .func (.func 111) #[] #[]]) rfl (wanted_none rfl) rfl Try.func110 (args2 (E.d 2 0) rfl) (cList_St _ _ _ _ Hx2.out (by intro k h1; have hb := HBR.out k h1; omega) (Nat.le_trans (gCm_suf.len _) HLN.out)) ?_
  rintro e u1_3 ⟨vlSt, rfl, qlSt, qrd, hm⟩
  obtain ⟨ao_lSt, cap_lSt, rfl⟩ := qlSt.shape
  refine ⟨_, rfl, ?_⟩
  have Hx4 := hid (qlSt.widen (R' := (fun k => (New u1_1 u1_3 k))) (fun _ h => h))
  have Hx5 := hid qrd
  have zu1_3 := hm.size
  have HMu1_3 := hid hm
  have Cx6 := hid (Mod.goS (S' := (fun k => (R k))) Cx3.out hm (fun _ h => h) (by intro k h0 h2; exact h2))
  clear hm Cx3
  clear act E qlSt qrd Hx2
  refine QSeq.go fun act E => ?_
  refine qc_run rfl (wanted_none rfl) (v := .agg ((gCe s).1.cells (Value.slice ao_lSt (gList gSt (gCm s).2).1.length cap_lSt) : List Value).toArray) (ex_build rfl (z := [.int .i64 0, .int .i64 0, .int .u8 0, .int .u8 0, .int .u8 0, .int .u8 0, .int .u8 0, .int .u8 0, .int .u8 0, .int .u8 0, .int .u8 0, .int .u8 0, .int .u8 0, .int .u8 0, .int .u8 0, .int .u8 0, .int .u8 0, .int .u8 0, .int .u8 0, .int .u8 0, .int .u8 0, .int .u8 0, .int .u8 0, .int .u8 0, .int .u8 0, .int .u8 0, .int .u8 0, .int .u8 0, .int .u8 0, .int .u8 0, .int .u8 0, .int .u8 0, .int .u8 0, .int .u8 0, .int .i64 0, .int .i64 0, .int .i64 0, .slice none 0 0]) (places := [(0, 37), (37, 1)]) (by kernel_rfl) (parts := [(0, (gCm s).1.val), (1, .slice ao_lSt (gList gSt (gCm s).2).1.length cap_lSt)]) (by simp only [List.map_toArray, List.map_cons, List.map_nil, show act.eval (.tmp 4) = (gCm s).1.val from (E.d 1 2), show act.eval (.tmp 6) = .slice ao_lSt (gList gSt (gCm s).2).1.length cap_lSt from (E.d 3 0)]; try rfl) (r := (gCe s).1.cells (Value.slice ao_lSt (gList gSt (gCm s).2).1.length cap_lSt)) (by exact laid_segs (ns := [37, 1]) rfl [(0, (gCm s).1.val), (1, .slice ao_lSt (gList gSt (gCm s).2).1.length cap_lSt)] [[.int .i64 0, .int .i64 0, .int .u8 0, .int .u8 0, .int .u8 0, .int .u8 0, .int .u8 0, .int .u8 0, .int .u8 0, .int .u8 0, .int .u8 0, .int .u8 0, .int .u8 0, .int .u8 0, .int .u8 0, .int .u8 0, .int .u8 0, .int .u8 0, .int .u8 0, .int .u8 0, .int .u8 0, .int .u8 0, .int .u8 0, .int .u8 0, .int .u8 0, .int .u8 0, .int .u8 0, .int .u8 0, .int .u8 0, .int .u8 0, .int .u8 0, .int .u8 0, .int .u8 0, .int .u8 0, .int .i64 0, .int .i64 0, .int .i64 0], [.slice none 0 0]] rfl ⟨(szv (Cm.len (rHash_HK (gSig_suf.bytes HBY.out) |>.1))), rfl, trivial⟩)) ?_
  clear act E
  refine QSeq.go fun act E => ?_
  refine qc_store rfl (wanted_none rfl) rfl (HB2.out.mod Cx6.out (by intro h2; first | omega | (have hb := HBR.out _ h2; omega))) (off := 0) (vs := ((gCe s).1.cells (Value.slice ao_lSt (gList gSt (gCm s).2).1.length cap_lSt))) (by rw [show ((gCe s).1.cells (Value.slice ao_lSt (gList gSt (gCm s).2).1.length cap_lSt)).length = _ from (ce_len _ _ (gCm_OK HBY.out).2.1)]; kernel_rfl) (one_ce2 _ _ rfl) (by rw [show ((gCe s).1.cells (Value.slice ao_lSt (gList gSt (gCm s).2).1.length cap_lSt)).length = _ from (ce_len _ _ (gCm_OK HBY.out).2.1)]; decide) (E.v oe2) (by rw [show act.eval ((.tmp 7)) = _ from (E.d 4 0)]; rfl) ?_
  intro u1_5 qc0 hm
  have qB2 : Cs u1_5 (w.heap.size) (((gCe s).1.cells (Value.slice ao_lSt (gList gSt (gCm s).2).1.length cap_lSt)) : List Value).toArray 52 := by rw [show lay _ 0 _ = (((gCe s).1.cells (Value.slice ao_lSt (gList gSt (gCm s).2).1.length cap_lSt)) : List Value).toArray from lay_whole _ _ (by rw [show ((gCe s).1.cells (Value.slice ao_lSt (gList gSt (gCm s).2).1.length cap_lSt)).length = _ from (ce_len _ _ (gCm_OK HBY.out).2.1)]; rfl)] at qc0; exact qc0
  clear qc0
  have Hx7 := hid qB2
  have zu1_5 := hm.size
  have HMu1_5 := hid hm
  have Cx8 := hid (Mod.goS (S' := (fun k => (R k) ∨ (k = w.heap.size))) Cx6.out hm (fun _ h => Or.inl h) (by intro k h0 h2; exact Or.inr (h2)))
  clear hm Cx6
  clear act E qB2 HB2
  have Hx9 := hid (Hx5.out.mod HMu1_5.out (by intro k h1 h2; have hb := HBR.out k h1; omega))
  have Hx10 := hid (Hx4.out.mod HMu1_5.out (by intro k h1 h2; omega))
  clear Hx5 Hx4 HMu1_3 HMu1_5
  refine QSeq.nil (t' := [_, _, _, _, _, _]) rfl ?_
  have ha0 := HA0.out
  subst ha0
  clear HA0 hsz0 oe0 oe2
  simp only [putAll, Act.put, List.setIfInBounds_toArray, List.set_cons_zero, List.set_cons_succ, List.set_nil]
  go_wp2
  exact bodyPost_ret (results_cellA rfl _ _ w.heap.size ((gCe s).1.cells (Value.slice ao_lSt (gList gSt (gCm s).2).1.length cap_lSt)) rfl (fun k u hu => by rw [Hx7.out.cell]; simpa using hu) Try.underlying52 rfl (by rw [show ((gCe s).1.cells (Value.slice ao_lSt (gList gSt (gCm s).2).1.length cap_lSt)).length = _ from (ce_len _ _ (gCm_OK HBY.out).2.1)]; kernel_rfl)) rfl ⟨_, rfl, ⟨_, rfl, gCe_OK HBY.out, (Hx10.out.widen (R' := (fun k => New w u1_5 k)) (by intro k h1; omega))⟩, Hx9.out, (HM0.out.trans Cx8.out (by intro k h1 h2; rcases h2 with h2 | h2 <;> first | exact h2 | omega | (have hb := HBR.out k h2; omega)))⟩
set_option maxHeartbeats 4000000 in
theorem cList_Ce : GetsL CeR 125 117 81 gCe := by
  intro R r s w hR hB hl
  have HRD := Lib.hid hR
  have HBR := Lib.hid hB
  have HLN := Lib.hid hl
  clear hR hB hl
  go_enter Try.func117, Try.ntmps117
  go_upto_region 2 with (fail)
  have HM0 := hid (Mod.refl (fun k => (R k)) w)
  go_upto_region 2 with (fail)
  generalize ha0 : Act.mk _ _ = a0
  have oe0 : a0.eval (.tmp 0) = .pointer (some ⟨r, 0, none⟩) := by rw [← ha0]; rfl
  have hsz0 : a0.tmps.size = 21 := by rw [← ha0]; rfl
  have HA0 := hid ha0
  clear ha0
  refine wp_region_S 21 hsz0 [6, 7, 8] [0, 1, 2] ?_
  refine QSeq.pure rfl (.pointer (some ⟨r, 0, none⟩)) (fun E => ex_move rfl (E.v oe0)) ?_
  refine QSeq.go fun act E => ?_
  refine qc_callF (args := #[.pointer (some ⟨r, 0, none⟩), .int .i64 100]) rfl (wanted_none rfl) rfl Try.func115 (args2 (E.d 0 0) rfl) (RInt_R HRD.out (by decide)) ?_
  rintro e u2_1 ⟨rfl, qrd, hm⟩
  refine ⟨_, rfl, ?_⟩
  have Hx1 := hid qrd
  have zu2_1 := hm.size
  have Cx2 := hid (show Mod (fun k => (R k)) w u2_1 from hm)
  clear hm
  clear act E qrd HRD
  refine QSeq.pure rfl (.int .i64 0) (fun E => ex_move rfl rfl) ?_
  refine QSeq.nil (t' := [_, _, _]) rfl ?_
  have ha0 := HA0.out
  subst ha0
  clear HA0 hsz0 oe0
  simp only [putAll, Act.put, List.setIfInBounds_toArray, List.set_cons_zero, List.set_cons_succ]
  obtain ⟨n, hn⟩ : ∃ n, n = (rInt 100 s).1 := ⟨_, rfl⟩
  obtain ⟨s1, hs1⟩ : ∃ z, z = (rInt 100 s).2 := ⟨_, rfl⟩
  have hn100 : n ≤ 100 := by have := rInt_le 100 s; omega
  have HLS := hid (show (s1.getD []).length ≤ 900000 by rw [hs1]; exact Nat.le_trans ((rInt_suf 100).len s) HLN.out)
  have HGL := hid (show gList gCe s = gItems gCe n [] s1 by rw [hn, hs1]; rfl)
  rw [← hn]
  have hq := Hx1.out
  rw [← hs1] at hq
  have HR1 := Lib.hid hq
  clear hq hn hs1 HLN
  go_wp2
  go_loopw [5, 8] (fun ta ti wr => ∃ (k : Nat) (acc : List Ce) (st : RSt), ti = .int .i64 (k : Int) ∧ k ≤ n ∧ acc.length = k ∧ (st.getD []).length ≤ 900000 ∧ gItems gCe (n - k) acc st = gItems gCe n [] s1 ∧ u2_1.heap.size ≤ wr.heap.size ∧ OwS CeR 52 (fun b => w.heap.size ≤ b ∧ b < wr.heap.size) (fun b => w.heap.size ≤ b ∧ b < wr.heap.size) wr ta acc ∧ RrR 125 R wr r st ∧ Mod R w wr) (fun _ ti _ => n - (intOf ti).toNat)
  case atStart => exact ⟨0, [], s1, rfl, Nat.zero_le _, rfl, HLS.out, rfl, Nat.le_refl _, OwS.nil _ _ _ _ _, HR1.out, (HM0.out.trans Cx2.out (fun _ _ h => h))⟩
  case round =>
    obtain ⟨k, acc, st, rfl, hk, hka, hst, hg, hz, ha, hr, hm⟩ := hrel
    obtain ⟨wl, rfl⟩ : ∃ x, x = wr := ⟨_, rfl⟩
    obtain ⟨aol, capl, rfl⟩ := ha.shape
    have HAL := Lib.hid ha
    have HRL := Lib.hid hr
    have HML := Lib.hid hm
    have HST := Lib.hid hst
    have HG := Lib.hid hg
    have HKA := Lib.hid hka
    clear ha hr hm hst hg hka HR1 HM0
    by_cases hlt : k < n
    · skip
      go_upto_region 3 with (fail)
      generalize ha0 : Act.mk _ _ = a0
      have oe7 : a0.eval (.tmp 7) = .int .i64 ((n : Nat) : Int) := by rw [← ha0]; rfl
      have oe8 : a0.eval (.tmp 8) = .int .i64 ((k : Nat) : Int) := by rw [← ha0]; rfl
      have hsz0 : a0.tmps.size = 21 := by rw [← ha0]; rfl
      have HA0 := hid ha0
      clear ha0
      refine wp_region_S 21 hsz0 [9] [0] ?_
      refine QSeq.pure rfl (.bool true) (fun E => ex_binE rfl (E.v oe8) (E.v oe7) (guard_ints _ _ _ _ _ _) (run_lss_i _ _ _ Try.underlying3) (congrArg Value.bool (decide_eq_true (by omega)))) ?_
      refine QSeq.nil (t' := [_]) rfl ?_
      have ha0 := HA0.out
      subst ha0
      clear HA0 hsz0 oe7 oe8
      simp only [putAll, Act.put, List.setIfInBounds_toArray, List.set_cons_zero, List.set_cons_succ]
      obtain ⟨p, hp⟩ : ∃ p, p = gCe st := ⟨_, rfl⟩
      obtain ⟨x, st2⟩ := p
      have HP1 := hid (congrArg Prod.fst hp.symm)
      have HP2 := hid (congrArg Prod.snd hp.symm)
      clear hp
      dsimp only at HP1 HP2
      have HST2 := hid (show (st2.getD []).length ≤ 900000 by rw [← HP2.out]; exact Nat.le_trans (gCe_suf.len st) HST.out)
      have HGN := hid (show gItems gCe (n - k) acc st = if st2 = none then ([], none) else gItems gCe (n - (k + 1)) (acc ++ [x]) st2 by rw [show n - k = (n - (k + 1)) + 1 by omega]; show (if (gCe st).2 = none then _ else _) = _; rw [HP2.out, HP1.out])
      go_upto_region 4 with (fail)
      generalize ha0 : Act.mk _ _ = a0
      have oe0 : a0.eval (.tmp 0) = .pointer (some ⟨r, 0, none⟩) := by rw [← ha0]; rfl
      have oe1 : a0.eval (.tmp 1) = .func (.func 81) #[] #[] := by rw [← ha0]; rfl
      have oe5 : a0.eval (.tmp 5) = .slice aol acc.length capl := by rw [← ha0]; rfl
      have hsz0 : a0.tmps.size = 21 := by rw [← ha0]; rfl
      have HA0 := hid ha0
      clear ha0
      refine wp_region_S 21 hsz0 [10, 11, 12, 13, 14, 15, 5] [0, 1, 2, 3, 4, 5, 6] ?_
      refine QSeq.pure rfl (.slice aol acc.length capl) (fun E => ex_move rfl (E.y 6 oe5)) ?_
      refine QSeq.pure rfl (.func (.func 81) #[] #[]) (fun E => ex_move rfl (E.v oe1)) ?_
      refine QSeq.pure rfl (.pointer (some ⟨r, 0, none⟩)) (fun E => ex_move rfl (E.v oe0)) ?_
      refine QSeq.go fun act E => ?_
      have ea12 : act.eval (.tmp 12) = .pointer (some ⟨r, 0, none⟩) := (E.d 2 0)
      refine qc_call (args := #[.pointer (some ⟨r, 0, none⟩)]) rfl (wanted_none rfl) (by rw [ex_callV rfl (E.d 1 1) Try.func81 (by kernel_rfl) (by kernel_rfl)]; exact congrArg (fun z => Result.ok (Next.enter _ z) _) (by simp only [List.map_toArray, List.map_cons, List.map_nil, ea12]; try rfl)) ((cCe_G).to HP1.out HP2.out HRL.out (by intro k h1; have hb := HBR.out k h1; omega) HST.out) ?_
      rintro e u4_3 ⟨cs, rfl, qel, qrd, hm⟩
      refine ⟨_, rfl, ?_⟩
      have Hx3 := hid (qel.widen (R' := (fun k => (New wl u4_3 k))) (fun _ h => h))
      have Hx4 := hid qrd
      have zu4_3 := hm.size
      have Cx5 := hid (show Mod (fun k => (R k)) wl u4_3 from hm)
      clear hm
      clear act E qel qrd HRL ea12
      refine QSeq.go fun act E => ?_
      refine qc_buildS (e := 52) (cs := cs) (zc := [.int .i64 0, .int .i64 0, .int .u8 0, .int .u8 0, .int .u8 0, .int .u8 0, .int .u8 0, .int .u8 0, .int .u8 0, .int .u8 0, .int .u8 0, .int .u8 0, .int .u8 0, .int .u8 0, .int .u8 0, .int .u8 0, .int .u8 0, .int .u8 0, .int .u8 0, .int .u8 0, .int .u8 0, .int .u8 0, .int .u8 0, .int .u8 0, .int .u8 0, .int .u8 0, .int .u8 0, .int .u8 0, .int .u8 0, .int .u8 0, .int .u8 0, .int .u8 0, .int .u8 0, .int .u8 0, .int .i64 0, .int .i64 0, .int .i64 0, .slice none 0 0]) (sz := 38) rfl (wanted_none rfl) rfl Try.underlying53 (by kernel_rfl) rfl (by decide) (by decide) (E.d 3 0) (CeR.len Hx3.out) ?_
      intro u4_4 qrow hm
      have zl4_4 := qrow.lt
      have Hx6 := hid qrow
      have zu4_4 := hm.size
      have HMu4_4 := hid hm
      have Cx7 := hid (Cx5.out.goE hm)
      clear hm Cx5
      clear act E qrow
      refine QSeq.go fun act E => ?_
      refine qc_appS (A := CeR) (e := 52) rfl (wanted_none rfl) rfl (.agg #[.int .i64 0, .int .i64 0, .int .u8 0, .int .u8 0, .int .u8 0, .int .u8 0, .int .u8 0, .int .u8 0, .int .u8 0, .int .u8 0, .int .u8 0, .int .u8 0, .int .u8 0, .int .u8 0, .int .u8 0, .int .u8 0, .int .u8 0, .int .u8 0, .int .u8 0, .int .u8 0, .int .u8 0, .int .u8 0, .int .u8 0, .int .u8 0, .int .u8 0, .int .u8 0, .int .u8 0, .int .u8 0, .int .u8 0, .int .u8 0, .int .u8 0, .int .u8 0, .int .u8 0, .int .u8 0, .int .i64 0, .int .i64 0, .int .i64 0, .slice none 0 0]) 96 Try.underlying53 info_Ce (by rfl) (of_decide_eq_true (by kernel_rfl)) (E.d 0 4) (E.d 4 0) ((HAL.out.mod Cx7.out (by intro k h1 h2; have hb := HBR.out k h2; omega) (by intro k h1 h2; have hb := HBR.out k h2; omega))) (RdS.single (R := (fun k => (New wl u4_3 k) ∨ (k = u4_3.heap.size))) Hx6.out ((Hx3.out.mod HMu4_4.out (fun _ _ h => h)).widen (by intro k h1; first | omega | exact h1.elim | exact Or.inl h1 | exact Or.inr (h1))) (by first | exact Or.inr rfl | exact Or.inr (Or.inr rfl) | (right; omega))) (by intro k h1 h2; omega) (by rw [HKA.out]; simp only [List.length_cons, List.length_nil]; omega) (by rw [HKA.out]; simp only [List.length_cons, List.length_nil]; rw [maxLen_val]; omega) ?_
      intro ao4 cap4 u4_5 qout hm
      have Hx8 := hid (qout.widen (R' := (fun k => (New w wl k) ∨ (New u4_4 u4_5 k))) (E' := (fun k => (New w wl k) ∨ (New wl u4_3 k) ∨ (k = u4_3.heap.size))) (fun _ h => h) (by intro k h1; rcases h1 with h1 | (h1 | h1) <;> first | omega | exact h1.elim | exact Or.inl h1 | exact Or.inr (Or.inl h1) | exact Or.inr (Or.inr (h1))))
      have zu4_5 := hm.size
      have HMu4_5 := hid hm
      have Cx9 := hid (Mod.goS (S' := (fun k => (R k) ∨ (New w wl k))) Cx7.out hm (fun _ h => Or.inl h) (by intro k h0 h2; exact Or.inr (h2)))
      clear hm Cx7
      clear act E qout HAL
      refine QSeq.pure rfl (.slice ao4 (acc.length + 1) cap4) (fun E => ex_assign rfl (E.d 5 0)) ?_
      have Hx10 := hid ((Hx4.out.mod HMu4_4.out (fun _ _ h => h)).mod HMu4_5.out (by intro k h1 h2; have hb := HBR.out k h1; omega))
      have Hx11 := hid ((Hx3.out.mod HMu4_4.out (fun _ _ h => h)).mod HMu4_5.out (by intro k h1 h2; omega))
      have Hx12 := hid (Hx6.out.mod HMu4_5.out (by intro h2; omega))
      clear Hx4 Hx3 Hx6 HMu4_4 HMu4_5
      refine QSeq.nil (t' := [_, _, _, _, _, _, _]) rfl ?_
      have ha0 := HA0.out
      subst ha0
      clear HA0 hsz0 oe0 oe1 oe5
      simp only [putAll, Act.put, List.setIfInBounds_toArray, List.set_cons_zero, List.set_cons_succ]
      clear Hx11
      clear Hx12
      cases st2 with
      | none =>
        go_upto_region 5 with (fail)
        generalize ha0 : Act.mk _ _ = a0
        have oe0 : a0.eval (.tmp 0) = .pointer (some ⟨r, 0, none⟩) := by rw [← ha0]; rfl
        have hsz0 : a0.tmps.size = 21 := by rw [← ha0]; rfl
        have HA0 := hid ha0
        clear ha0
        refine wp_region_S 21 hsz0 [16, 17, 18] [0, 1, 2] ?_
        refine QSeq.pure rfl (.pointer (some ⟨r, 0, none⟩)) (fun E => ex_move rfl (E.v oe0)) ?_
        refine QSeq.go fun act E => ?_
        refine qc_callF (args := #[.pointer (some ⟨r, 0, none⟩)]) rfl (wanted_none rfl) rfl Try.func39 (args1 (E.d 0 0)) (OK_R Hx10.out) ?_
        rintro e w2 ⟨rfl, hw2⟩
        obtain rfl : u4_5 = w2 := by first | exact hw2 | exact hw2.symm
        refine ⟨_, rfl, ?_⟩
        clear act E
        refine QSeq.pure rfl (.bool true) (fun E => ex_not rfl (E.d 1 0)) ?_
        refine QSeq.nil (t' := [_, _, _]) rfl ?_
        have ha0 := HA0.out
        subst ha0
        clear HA0 hsz0 oe0
        simp only [putAll, Act.put, List.setIfInBounds_toArray, List.set_cons_zero, List.set_cons_succ]
        go_upto_region 6 with (fail)
        generalize ha0 : Act.mk _ _ = a0
        have hsz0 : a0.tmps.size = 21 := by rw [← ha0]; rfl
        have HA0 := hid ha0
        clear ha0
        refine wp_region_S 21 hsz0 [4] [0] ?_
        refine QSeq.pure rfl (.slice none 0 0) (fun E => ex_assign rfl rfl) ?_
        refine QSeq.nil (t' := [_]) rfl ?_
        have ha0 := HA0.out
        subst ha0
        clear HA0 hsz0
        simp only [putAll, Act.put, List.setIfInBounds_toArray, List.set_cons_zero, List.set_cons_succ]
        go_wp2
        go_ret
        have hq := HG.out
        rw [HGN.out, if_pos trivial] at hq
        have e := HGL.out
        rw [← hq] at e
        refine ⟨_, rfl, ?_, ?_, (HML.out.trans Cx9.out (by intro k h1 h2; rcases h2 with h2 | h2 <;> first | exact h2 | omega | (have hb := HBR.out k h2; omega)))⟩
        · rw [e]; exact RdS.nil _ _ _
        · rw [e]; exact Hx10.out
      | some l2 =>
        go_upto_region 5 with (fail)
        generalize ha0 : Act.mk _ _ = a0
        have oe0 : a0.eval (.tmp 0) = .pointer (some ⟨r, 0, none⟩) := by rw [← ha0]; rfl
        have hsz0 : a0.tmps.size = 21 := by rw [← ha0]; rfl
        have HA0 := hid ha0
        clear ha0
        refine wp_region_S 21 hsz0 [16, 17, 18] [0, 1, 2] ?_
        refine QSeq.pure rfl (.pointer (some ⟨r, 0, none⟩)) (fun E => ex_move rfl (E.v oe0)) ?_
        refine QSeq.go fun act E => ?_
        refine qc_callF (args := #[.pointer (some ⟨r, 0, none⟩)]) rfl (wanted_none rfl) rfl Try.func39 (args1 (E.d 0 0)) (OK_R Hx10.out) ?_
        rintro e w2 ⟨rfl, hw2⟩
        obtain rfl : u4_5 = w2 := by first | exact hw2 | exact hw2.symm
        refine ⟨_, rfl, ?_⟩
        clear act E
        refine QSeq.pure rfl (.bool false) (fun E => ex_not rfl (E.d 1 0)) ?_
        refine QSeq.nil (t' := [_, _, _]) rfl ?_
        have ha0 := HA0.out
        subst ha0
        clear HA0 hsz0 oe0
        simp only [putAll, Act.put, List.setIfInBounds_toArray, List.set_cons_zero, List.set_cons_succ]
        go_upto_region 7 with (fail)
        generalize ha0 : Act.mk _ _ = a0
        have oe8 : a0.eval (.tmp 8) = .int .i64 ((k : Nat) : Int) := by rw [← ha0]; rfl
        have hsz0 : a0.tmps.size = 21 := by rw [← ha0]; rfl
        have HA0 := hid ha0
        clear ha0
        refine wp_region_S 21 hsz0 [19, 8] [0, 1] ?_
        refine QSeq.pure rfl (.int .i64 (((k : Nat) : Int) + 1)) (fun E => ex_binE rfl (E.y 1 oe8) rfl (guard_ints _ _ _ _ _ _) (run_add_i _ _ Try.underlying3) (congrArg (Value.int .i64) (IntWalk.i64_in _ (by omega)))) ?_
        refine QSeq.pure rfl (.int .i64 (((k : Nat) : Int) + 1)) (fun E => ex_move rfl (E.d 0 0)) ?_
        refine QSeq.nil (t' := [_, _]) rfl ?_
        have ha0 := HA0.out
        subst ha0
        clear HA0 hsz0 oe8
        simp only [putAll, Act.put, List.setIfInBounds_toArray, List.set_cons_zero, List.set_cons_succ]
        go_wp2
        go_roundw
        case rel => exact ⟨k + 1, acc ++ [x], some l2, by go_num, by omega, by rw [List.length_append, HKA.out]; rfl, HST2.out, (by have hq := HG.out; rw [HGN.out, if_neg (by simp)] at hq; exact hq), by omega, (Hx8.out.widen (by intro b h1; omega) (by intro b h1; rcases h1 with h1 | h1 | h1 <;> first | omega | exact h1.elim)), Hx10.out, (HML.out.trans Cx9.out (by intro k h1 h2; rcases h2 with h2 | h2 <;> first | exact h2 | omega | (have hb := HBR.out k h2; omega)))⟩
        case measure => simp [intOf] <;> omega
    · obtain rfl : n = k := by omega
      go_upto_region 3 with (fail)
      generalize ha0 : Act.mk _ _ = a0
      have oe7 : a0.eval (.tmp 7) = .int .i64 ((n : Nat) : Int) := by rw [← ha0]; rfl
      have oe8 : a0.eval (.tmp 8) = .int .i64 ((n : Nat) : Int) := by rw [← ha0]; rfl
      have hsz0 : a0.tmps.size = 21 := by rw [← ha0]; rfl
      have HA0 := hid ha0
      clear ha0
      refine wp_region_S 21 hsz0 [9] [0] ?_
      refine QSeq.pure rfl (.bool false) (fun E => ex_binE rfl (E.v oe8) (E.v oe7) (guard_ints _ _ _ _ _ _) (run_lss_i _ _ _ Try.underlying3) (congrArg Value.bool (decide_eq_false (by omega)))) ?_
      refine QSeq.nil (t' := [_]) rfl ?_
      have ha0 := HA0.out
      subst ha0
      clear HA0 hsz0 oe7 oe8
      simp only [putAll, Act.put, List.setIfInBounds_toArray, List.set_cons_zero, List.set_cons_succ]
      go_upto_region 8 with (fail)
      generalize ha0 : Act.mk _ _ = a0
      have oe5 : a0.eval (.tmp 5) = .slice aol acc.length capl := by rw [← ha0]; rfl
      have hsz0 : a0.tmps.size = 21 := by rw [← ha0]; rfl
      have HA0 := hid ha0
      clear ha0
      refine wp_region_S 21 hsz0 [20, 4] [0, 1] ?_
      refine QSeq.pure rfl (.slice aol acc.length capl) (fun E => ex_move rfl (E.v oe5)) ?_
      refine QSeq.pure rfl (.slice aol acc.length capl) (fun E => ex_assign rfl (E.d 0 0)) ?_
      refine QSeq.nil (t' := [_, _]) rfl ?_
      have ha0 := HA0.out
      subst ha0
      clear HA0 hsz0 oe5
      simp only [putAll, Act.put, List.setIfInBounds_toArray, List.set_cons_zero, List.set_cons_succ]
      go_wp2
      go_ret
      have hq := HG.out
      rw [Nat.sub_self] at hq
      have e := HGL.out
      rw [← hq] at e
      refine ⟨_, rfl, ?_, ?_, HML.out⟩
      · rw [e]; exact HAL.out.rd.widen (by intro b h1; (try dsimp only at h1 ⊢); omega)
      · rw [e]; exact HRL.out
set_option maxHeartbeats 4000000 in
theorem cTb_G : Gets TbR 125 127 gTb := by
  intro R r s w hR hB hl
  have HRD := Lib.hid hR
  have HBR := Lib.hid hB
  have HBY := hid hR.bytes
  clear hR hB
  have HLN := Lib.hid hl
  clear hl
  go_enter Try.func127, Try.ntmps127
  go_upto_region 1 with (fail)
  obtain ⟨w1, hw1⟩ : ∃ zz, zz = (w.alloc (.cells #[.int .i64 0, .slice none 0 0] 90)) := ⟨_, rfl⟩
  change Code.wp _ _ _ _ (w.alloc (.cells #[.int .i64 0, .slice none 0 0] 90))
  rw [← hw1]
  have HB2 := hid (show Cs w1 (w.heap.size) #[.int .i64 0, .slice none 0 0] 90 by rw [hw1]; exact Cs.new _ _ _)
  have hm : Mod (fun _ => False) w w1 := by rw [hw1]; exact (Mod.refl _ _).alloc _
  have HM0 := hid (show Mod (fun k => (R k)) w w1 from hm.mono (fun _ _ h => h.elim))
  have hs1 : w1.heap.size = w.heap.size + 1 := by rw [hw1]; simp
  have Hx1 := hid (HRD.out.mod hm (fun _ _ h => h))
  clear HRD
  clear hw1 hm
  go_upto_region 1 with (fail)
  generalize ha0 : Act.mk _ _ = a0
  have oe0 : a0.eval (.tmp 0) = .pointer (some ⟨r, 0, none⟩) := by rw [← ha0]; rfl
  have oe2 : a0.eval (.tmp 2) = .pointer (some ⟨w.heap.size, 0, none⟩) := by rw [← ha0]; rfl
  have hsz0 : a0.tmps.size = 8 := by rw [← ha0]; rfl
  have HA0 := hid ha0
  clear ha0
  refine wp_region_S 8 hsz0 [3, 4, 5, 6, 7, 13] [0, 1, 2, 3, 4, 5] ?_
  refine QSeq.pure rfl (.pointer (some ⟨r, 0, none⟩)) (fun E => ex_move rfl (E.v oe0)) ?_
  refine QSeq.go fun act E => ?_
  refine qc_callF (args := #[.pointer (some ⟨r, 0, none⟩), .int .i64 1099511627776]) rfl (wanted_none rfl) rfl Try.func115 (args2 (E.d 0 0) rfl) (cI_Q Hx1.out) ?_
  rintro e u1_1 ⟨rfl, qrd, hm⟩
  refine ⟨_, rfl, ?_⟩
  have Hx2 := hid qrd
  have zu1_1 := hm.size
  have Cx3 := hid (show Mod (fun k => (R k)) w1 u1_1 from hm)
  clear hm
  clear act E qrd Hx1
  refine QSeq.pure rfl (.pointer (some ⟨r, 0, none⟩)) (fun E => ex_move rfl (E.v oe0)) ?_
  refine QSeq.go fun act E => ?_
  refine qc_callF (args := #[.pointer (some ⟨r, 0, none⟩), .func (.func 151) #[] #[]]) rfl (wanted_none rfl) rfl Try.func150 (args2 (E.d 2 0) rfl) (cList_Dn _ _ _ _ Hx2.out (by intro k h1; have hb := HBR.out k h1; omega) (Nat.le_trans (gI_suf.len _) HLN.out)) ?_
  rintro e u1_3 ⟨vlDn, rfl, qlDn, qrd, hm⟩
  obtain ⟨ao_lDn, cap_lDn, rfl⟩ := qlDn.shape
  refine ⟨_, rfl, ?_⟩
  have Hx4 := hid (qlDn.widen (R' := (fun k => (New u1_1 u1_3 k))) (fun _ h => h))
  have Hx5 := hid qrd
  have zu1_3 := hm.size
  have HMu1_3 := hid hm
  have Cx6 := hid (Mod.goS (S' := (fun k => (R k))) Cx3.out hm (fun _ h => h) (by intro k h0 h2; exact h2))
  clear hm Cx3
  clear act E qlDn qrd Hx2
  refine QSeq.go fun act E => ?_
  refine qc_run rfl (wanted_none rfl) (v := .agg ((gTb s).1.cells (Value.slice ao_lDn (gList gDn (gI s).2).1.length cap_lDn) : List Value).toArray) (ex_build rfl (z := [.int .i64 0, .slice none 0 0]) (places := [(0, 1), (1, 1)]) (by kernel_rfl) (parts := [(0, .int .i64 (gI s).1), (1, .slice ao_lDn (gList gDn (gI s).2).1.length cap_lDn)]) (by simp only [List.map_toArray, List.map_cons, List.map_nil, show act.eval (.tmp 4) = .int .i64 (gI s).1 from (E.d 1 2), show act.eval (.tmp 6) = .slice ao_lDn (gList gDn (gI s).2).1.length cap_lDn from (E.d 3 0)]; try rfl) (r := (gTb s).1.cells (Value.slice ao_lDn (gList gDn (gI s).2).1.length cap_lDn)) (by exact laid_segs (ns := [1, 1]) rfl [(0, .int .i64 (gI s).1), (1, .slice ao_lDn (gList gDn (gI s).2).1.length cap_lDn)] [[.int .i64 0], [.slice none 0 0]] rfl ⟨rfl, rfl, trivial⟩)) ?_
  clear act E
  refine QSeq.go fun act E => ?_
  refine qc_store rfl (wanted_none rfl) rfl (HB2.out.mod Cx6.out (by intro h2; first | omega | (have hb := HBR.out _ h2; omega))) (off := 0) (vs := ((gTb s).1.cells (Value.slice ao_lDn (gList gDn (gI s).2).1.length cap_lDn))) (by kernel_rfl) (by intro u hu; simp only [Tb.cells, List.mem_cons, List.not_mem_nil, or_false] at hu; rcases hu with rfl | rfl <;> rfl) (by simp) (E.v oe2) (by rw [show act.eval ((.tmp 7)) = _ from (E.d 4 0)]; rfl) ?_
  intro u1_5 qc0 hm
  have qB2 : Cs u1_5 (w.heap.size) (((gTb s).1.cells (Value.slice ao_lDn (gList gDn (gI s).2).1.length cap_lDn)) : List Value).toArray 90 := by rw [show lay _ 0 _ = (((gTb s).1.cells (Value.slice ao_lDn (gList gDn (gI s).2).1.length cap_lDn)) : List Value).toArray from lay_whole #[.int .i64 0, .slice none 0 0] _ rfl] at qc0; exact qc0
  clear qc0
  have Hx7 := hid qB2
  have zu1_5 := hm.size
  have HMu1_5 := hid hm
  have Cx8 := hid (Mod.goS (S' := (fun k => (R k) ∨ (k = w.heap.size))) Cx6.out hm (fun _ h => Or.inl h) (by intro k h0 h2; exact Or.inr (h2)))
  clear hm Cx6
  clear act E qB2 HB2
  have Hx9 := hid (Hx5.out.mod HMu1_5.out (by intro k h1 h2; have hb := HBR.out k h1; omega))
  have Hx10 := hid (Hx4.out.mod HMu1_5.out (by intro k h1 h2; omega))
  clear Hx5 Hx4 HMu1_3 HMu1_5
  refine QSeq.nil (t' := [_, _, _, _, _, _]) rfl ?_
  have ha0 := HA0.out
  subst ha0
  clear HA0 hsz0 oe0 oe2
  simp only [putAll, Act.put, List.setIfInBounds_toArray, List.set_cons_zero, List.set_cons_succ, List.set_nil]
  go_wp2
  exact bodyPost_ret (results_cellA rfl _ _ w.heap.size ((gTb s).1.cells (Value.slice ao_lDn (gList gDn (gI s).2).1.length cap_lDn)) rfl (fun k u hu => by rw [Hx7.out.cell]; simpa using hu) Try.underlying90 rfl (by kernel_rfl)) rfl ⟨_, rfl, ⟨_, rfl, gTb_OK HBY.out, (Hx10.out.widen (R' := (fun k => New w u1_5 k)) (by intro k h1; omega))⟩, Hx9.out, (HM0.out.trans Cx8.out (by intro k h1 h2; rcases h2 with h2 | h2 <;> first | exact h2 | omega | (have hb := HBR.out k h2; omega)))⟩
set_option maxHeartbeats 4000000 in
theorem cList_Tb : GetsL TbR 125 126 127 gTb := by
  intro R r s w hR hB hl
  have HRD := Lib.hid hR
  have HBR := Lib.hid hB
  have HLN := Lib.hid hl
  clear hR hB hl
  go_enter Try.func126, Try.ntmps126
  go_upto_region 2 with (fail)
  have HM0 := hid (Mod.refl (fun k => (R k)) w)
  go_upto_region 2 with (fail)
  generalize ha0 : Act.mk _ _ = a0
  have oe0 : a0.eval (.tmp 0) = .pointer (some ⟨r, 0, none⟩) := by rw [← ha0]; rfl
  have hsz0 : a0.tmps.size = 21 := by rw [← ha0]; rfl
  have HA0 := hid ha0
  clear ha0
  refine wp_region_S 21 hsz0 [6, 7, 8] [0, 1, 2] ?_
  refine QSeq.pure rfl (.pointer (some ⟨r, 0, none⟩)) (fun E => ex_move rfl (E.v oe0)) ?_
  refine QSeq.go fun act E => ?_
  refine qc_callF (args := #[.pointer (some ⟨r, 0, none⟩), .int .i64 100]) rfl (wanted_none rfl) rfl Try.func115 (args2 (E.d 0 0) rfl) (RInt_R HRD.out (by decide)) ?_
  rintro e u2_1 ⟨rfl, qrd, hm⟩
  refine ⟨_, rfl, ?_⟩
  have Hx1 := hid qrd
  have zu2_1 := hm.size
  have Cx2 := hid (show Mod (fun k => (R k)) w u2_1 from hm)
  clear hm
  clear act E qrd HRD
  refine QSeq.pure rfl (.int .i64 0) (fun E => ex_move rfl rfl) ?_
  refine QSeq.nil (t' := [_, _, _]) rfl ?_
  have ha0 := HA0.out
  subst ha0
  clear HA0 hsz0 oe0
  simp only [putAll, Act.put, List.setIfInBounds_toArray, List.set_cons_zero, List.set_cons_succ]
  obtain ⟨n, hn⟩ : ∃ n, n = (rInt 100 s).1 := ⟨_, rfl⟩
  obtain ⟨s1, hs1⟩ : ∃ z, z = (rInt 100 s).2 := ⟨_, rfl⟩
  have hn100 : n ≤ 100 := by have := rInt_le 100 s; omega
  have HLS := hid (show (s1.getD []).length ≤ 900000 by rw [hs1]; exact Nat.le_trans ((rInt_suf 100).len s) HLN.out)
  have HGL := hid (show gList gTb s = gItems gTb n [] s1 by rw [hn, hs1]; rfl)
  rw [← hn]
  have hq := Hx1.out
  rw [← hs1] at hq
  have HR1 := Lib.hid hq
  clear hq hn hs1 HLN
  go_wp2
  go_loopw [5, 8] (fun ta ti wr => ∃ (k : Nat) (acc : List Tb) (st : RSt), ti = .int .i64 (k : Int) ∧ k ≤ n ∧ acc.length = k ∧ (st.getD []).length ≤ 900000 ∧ gItems gTb (n - k) acc st = gItems gTb n [] s1 ∧ u2_1.heap.size ≤ wr.heap.size ∧ OwS TbR 90 (fun b => w.heap.size ≤ b ∧ b < wr.heap.size) (fun b => w.heap.size ≤ b ∧ b < wr.heap.size) wr ta acc ∧ RrR 125 R wr r st ∧ Mod R w wr) (fun _ ti _ => n - (intOf ti).toNat)
  case atStart => exact ⟨0, [], s1, rfl, Nat.zero_le _, rfl, HLS.out, rfl, Nat.le_refl _, OwS.nil _ _ _ _ _, HR1.out, (HM0.out.trans Cx2.out (fun _ _ h => h))⟩
  case round =>
    obtain ⟨k, acc, st, rfl, hk, hka, hst, hg, hz, ha, hr, hm⟩ := hrel
    obtain ⟨wl, rfl⟩ : ∃ x, x = wr := ⟨_, rfl⟩
    obtain ⟨aol, capl, rfl⟩ := ha.shape
    have HAL := Lib.hid ha
    have HRL := Lib.hid hr
    have HML := Lib.hid hm
    have HST := Lib.hid hst
    have HG := Lib.hid hg
    have HKA := Lib.hid hka
    clear ha hr hm hst hg hka HR1 HM0
    by_cases hlt : k < n
    · skip
      go_upto_region 3 with (fail)
      generalize ha0 : Act.mk _ _ = a0
      have oe7 : a0.eval (.tmp 7) = .int .i64 ((n : Nat) : Int) := by rw [← ha0]; rfl
      have oe8 : a0.eval (.tmp 8) = .int .i64 ((k : Nat) : Int) := by rw [← ha0]; rfl
      have hsz0 : a0.tmps.size = 21 := by rw [← ha0]; rfl
      have HA0 := hid ha0
      clear ha0
      refine wp_region_S 21 hsz0 [9] [0] ?_
      refine QSeq.pure rfl (.bool true) (fun E => ex_binE rfl (E.v oe8) (E.v oe7) (guard_ints _ _ _ _ _ _) (run_lss_i _ _ _ Try.underlying3) (congrArg Value.bool (decide_eq_true (by omega)))) ?_
      refine QSeq.nil (t' := [_]) rfl ?_
      have ha0 := HA0.out
      subst ha0
      clear HA0 hsz0 oe7 oe8
      simp only [putAll, Act.put, List.setIfInBounds_toArray, List.set_cons_zero, List.set_cons_succ]
      obtain ⟨p, hp⟩ : ∃ p, p = gTb st := ⟨_, rfl⟩
      obtain ⟨x, st2⟩ := p
      have HP1 := hid (congrArg Prod.fst hp.symm)
      have HP2 := hid (congrArg Prod.snd hp.symm)
      clear hp
      dsimp only at HP1 HP2
      have HST2 := hid (show (st2.getD []).length ≤ 900000 by rw [← HP2.out]; exact Nat.le_trans (gTb_suf.len st) HST.out)
      have HGN := hid (show gItems gTb (n - k) acc st = if st2 = none then ([], none) else gItems gTb (n - (k + 1)) (acc ++ [x]) st2 by rw [show n - k = (n - (k + 1)) + 1 by omega]; show (if (gTb st).2 = none then _ else _) = _; rw [HP2.out, HP1.out])
      go_upto_region 4 with (fail)
      generalize ha0 : Act.mk _ _ = a0
      have oe0 : a0.eval (.tmp 0) = .pointer (some ⟨r, 0, none⟩) := by rw [← ha0]; rfl
      have oe1 : a0.eval (.tmp 1) = .func (.func 127) #[] #[] := by rw [← ha0]; rfl
      have oe5 : a0.eval (.tmp 5) = .slice aol acc.length capl := by rw [← ha0]; rfl
      have hsz0 : a0.tmps.size = 21 := by rw [← ha0]; rfl
      have HA0 := hid ha0
      clear ha0
      refine wp_region_S 21 hsz0 [10, 11, 12, 13, 14, 15, 5] [0, 1, 2, 3, 4, 5, 6] ?_
      refine QSeq.pure rfl (.slice aol acc.length capl) (fun E => ex_move rfl (E.y 6 oe5)) ?_
      refine QSeq.pure rfl (.func (.func 127) #[] #[]) (fun E => ex_move rfl (E.v oe1)) ?_
      refine QSeq.pure rfl (.pointer (some ⟨r, 0, none⟩)) (fun E => ex_move rfl (E.v oe0)) ?_
      refine QSeq.go fun act E => ?_
      have ea12 : act.eval (.tmp 12) = .pointer (some ⟨r, 0, none⟩) := (E.d 2 0)
      refine qc_call (args := #[.pointer (some ⟨r, 0, none⟩)]) rfl (wanted_none rfl) (by rw [ex_callV rfl (E.d 1 1) Try.func127 (by kernel_rfl) (by kernel_rfl)]; exact congrArg (fun z => Result.ok (Next.enter _ z) _) (by simp only [List.map_toArray, List.map_cons, List.map_nil, ea12]; try rfl)) ((cTb_G).to HP1.out HP2.out HRL.out (by intro k h1; have hb := HBR.out k h1; omega) HST.out) ?_
      rintro e u4_3 ⟨cs, rfl, qel, qrd, hm⟩
      refine ⟨_, rfl, ?_⟩
      have Hx3 := hid (qel.widen (R' := (fun k => (New wl u4_3 k))) (fun _ h => h))
      have Hx4 := hid qrd
      have zu4_3 := hm.size
      have Cx5 := hid (show Mod (fun k => (R k)) wl u4_3 from hm)
      clear hm
      clear act E qel qrd HRL ea12
      refine QSeq.go fun act E => ?_
      refine qc_buildS (e := 90) (cs := cs) (zc := [.int .i64 0, .slice none 0 0]) (sz := 2) rfl (wanted_none rfl) rfl Try.underlying58 (by kernel_rfl) rfl (by decide) (by decide) (E.d 3 0) (TbR.len Hx3.out) ?_
      intro u4_4 qrow hm
      have zl4_4 := qrow.lt
      have Hx6 := hid qrow
      have zu4_4 := hm.size
      have HMu4_4 := hid hm
      have Cx7 := hid (Cx5.out.goE hm)
      clear hm Cx5
      clear act E qrow
      refine QSeq.go fun act E => ?_
      refine qc_appS (A := TbR) (e := 90) rfl (wanted_none rfl) rfl (.agg #[.int .i64 0, .slice none 0 0]) 32 Try.underlying58 info_Tb (by rfl) (of_decide_eq_true (by kernel_rfl)) (E.d 0 4) (E.d 4 0) ((HAL.out.mod Cx7.out (by intro k h1 h2; have hb := HBR.out k h2; omega) (by intro k h1 h2; have hb := HBR.out k h2; omega))) (RdS.single (R := (fun k => (New wl u4_3 k) ∨ (k = u4_3.heap.size))) Hx6.out ((Hx3.out.mod HMu4_4.out (fun _ _ h => h)).widen (by intro k h1; first | omega | exact h1.elim | exact Or.inl h1 | exact Or.inr (h1))) (by first | exact Or.inr rfl | exact Or.inr (Or.inr rfl) | (right; omega))) (by intro k h1 h2; omega) (by rw [HKA.out]; simp only [List.length_cons, List.length_nil]; omega) (by rw [HKA.out]; simp only [List.length_cons, List.length_nil]; rw [maxLen_val]; omega) ?_
      intro ao4 cap4 u4_5 qout hm
      have Hx8 := hid (qout.widen (R' := (fun k => (New w wl k) ∨ (New u4_4 u4_5 k))) (E' := (fun k => (New w wl k) ∨ (New wl u4_3 k) ∨ (k = u4_3.heap.size))) (fun _ h => h) (by intro k h1; rcases h1 with h1 | (h1 | h1) <;> first | omega | exact h1.elim | exact Or.inl h1 | exact Or.inr (Or.inl h1) | exact Or.inr (Or.inr (h1))))
      have zu4_5 := hm.size
      have HMu4_5 := hid hm
      have Cx9 := hid (Mod.goS (S' := (fun k => (R k) ∨ (New w wl k))) Cx7.out hm (fun _ h => Or.inl h) (by intro k h0 h2; exact Or.inr (h2)))
      clear hm Cx7
      clear act E qout HAL
      refine QSeq.pure rfl (.slice ao4 (acc.length + 1) cap4) (fun E => ex_assign rfl (E.d 5 0)) ?_
      have Hx10 := hid ((Hx4.out.mod HMu4_4.out (fun _ _ h => h)).mod HMu4_5.out (by intro k h1 h2; have hb := HBR.out k h1; omega))
      have Hx11 := hid ((Hx3.out.mod HMu4_4.out (fun _ _ h => h)).mod HMu4_5.out (by intro k h1 h2; omega))
      have Hx12 := hid (Hx6.out.mod HMu4_5.out (by intro h2; omega))
      clear Hx4 Hx3 Hx6 HMu4_4 HMu4_5
      refine QSeq.nil (t' := [_, _, _, _, _, _, _]) rfl ?_
      have ha0 := HA0.out
      subst ha0
      clear HA0 hsz0 oe0 oe1 oe5
      simp only [putAll, Act.put, List.setIfInBounds_toArray, List.set_cons_zero, List.set_cons_succ]
      clear Hx11
      clear Hx12
      cases st2 with
      | none =>
        go_upto_region 5 with (fail)
        generalize ha0 : Act.mk _ _ = a0
        have oe0 : a0.eval (.tmp 0) = .pointer (some ⟨r, 0, none⟩) := by rw [← ha0]; rfl
        have hsz0 : a0.tmps.size = 21 := by rw [← ha0]; rfl
        have HA0 := hid ha0
        clear ha0
        refine wp_region_S 21 hsz0 [16, 17, 18] [0, 1, 2] ?_
        refine QSeq.pure rfl (.pointer (some ⟨r, 0, none⟩)) (fun E => ex_move rfl (E.v oe0)) ?_
        refine QSeq.go fun act E => ?_
        refine qc_callF (args := #[.pointer (some ⟨r, 0, none⟩)]) rfl (wanted_none rfl) rfl Try.func39 (args1 (E.d 0 0)) (OK_R Hx10.out) ?_
        rintro e w2 ⟨rfl, hw2⟩
        obtain rfl : u4_5 = w2 := by first | exact hw2 | exact hw2.symm
        refine ⟨_, rfl, ?_⟩
        clear act E
        refine QSeq.pure rfl (.bool true) (fun E => ex_not rfl (E.d 1 0)) ?_
        refine QSeq.nil (t' := [_, _, _]) rfl ?_
        have ha0 := HA0.out
        subst ha0
        clear HA0 hsz0 oe0
        simp only [putAll, Act.put, List.setIfInBounds_toArray, List.set_cons_zero, List.set_cons_succ]
        go_upto_region 6 with (fail)
        generalize ha0 : Act.mk _ _ = a0
        have hsz0 : a0.tmps.size = 21 := by rw [← ha0]; rfl
        have HA0 := hid ha0
        clear ha0
        refine wp_region_S 21 hsz0 [4] [0] ?_
        refine QSeq.pure rfl (.slice none 0 0) (fun E => ex_assign rfl rfl) ?_
        refine QSeq.nil (t' := [_]) rfl ?_
        have ha0 := HA0.out
        subst ha0
        clear HA0 hsz0
        simp only [putAll, Act.put, List.setIfInBounds_toArray, List.set_cons_zero, List.set_cons_succ]
        go_wp2
        go_ret
        have hq := HG.out
        rw [HGN.out, if_pos trivial] at hq
        have e := HGL.out
        rw [← hq] at e
        refine ⟨_, rfl, ?_, ?_, (HML.out.trans Cx9.out (by intro k h1 h2; rcases h2 with h2 | h2 <;> first | exact h2 | omega | (have hb := HBR.out k h2; omega)))⟩
        · rw [e]; exact RdS.nil _ _ _
        · rw [e]; exact Hx10.out
      | some l2 =>
        go_upto_region 5 with (fail)
        generalize ha0 : Act.mk _ _ = a0
        have oe0 : a0.eval (.tmp 0) = .pointer (some ⟨r, 0, none⟩) := by rw [← ha0]; rfl
        have hsz0 : a0.tmps.size = 21 := by rw [← ha0]; rfl
        have HA0 := hid ha0
        clear ha0
        refine wp_region_S 21 hsz0 [16, 17, 18] [0, 1, 2] ?_
        refine QSeq.pure rfl (.pointer (some ⟨r, 0, none⟩)) (fun E => ex_move rfl (E.v oe0)) ?_
        refine QSeq.go fun act E => ?_
        refine qc_callF (args := #[.pointer (some ⟨r, 0, none⟩)]) rfl (wanted_none rfl) rfl Try.func39 (args1 (E.d 0 0)) (OK_R Hx10.out) ?_
        rintro e w2 ⟨rfl, hw2⟩
        obtain rfl : u4_5 = w2 := by first | exact hw2 | exact hw2.symm
        refine ⟨_, rfl, ?_⟩
        clear act E
        refine QSeq.pure rfl (.bool false) (fun E => ex_not rfl (E.d 1 0)) ?_
        refine QSeq.nil (t' := [_, _, _]) rfl ?_
        have ha0 := HA0.out
        subst ha0
        clear HA0 hsz0 oe0
        simp only [putAll, Act.put, List.setIfInBounds_toArray, List.set_cons_zero, List.set_cons_succ]
        go_upto_region 7 with (fail)
        generalize ha0 : Act.mk _ _ = a0
        have oe8 : a0.eval (.tmp 8) = .int .i64 ((k : Nat) : Int) := by rw [← ha0]; rfl
        have hsz0 : a0.tmps.size = 21 := by rw [← ha0]; rfl
        have HA0 := hid ha0
        clear ha0
        refine wp_region_S 21 hsz0 [19, 8] [0, 1] ?_
        refine QSeq.pure rfl (.int .i64 (((k : Nat) : Int) + 1)) (fun E => ex_binE rfl (E.y 1 oe8) rfl (guard_ints _ _ _ _ _ _) (run_add_i _ _ Try.underlying3) (congrArg (Value.int .i64) (IntWalk.i64_in _ (by omega)))) ?_
        refine QSeq.pure rfl (.int .i64 (((k : Nat) : Int) + 1)) (fun E => ex_move rfl (E.d 0 0)) ?_
        refine QSeq.nil (t' := [_, _]) rfl ?_
        have ha0 := HA0.out
        subst ha0
        clear HA0 hsz0 oe8
        simp only [putAll, Act.put, List.setIfInBounds_toArray, List.set_cons_zero, List.set_cons_succ]
        go_wp2
        go_roundw
        case rel => exact ⟨k + 1, acc ++ [x], some l2, by go_num, by omega, by rw [List.length_append, HKA.out]; rfl, HST2.out, (by have hq := HG.out; rw [HGN.out, if_neg (by simp)] at hq; exact hq), by omega, (Hx8.out.widen (by intro b h1; omega) (by intro b h1; rcases h1 with h1 | h1 | h1 <;> first | omega | exact h1.elim)), Hx10.out, (HML.out.trans Cx9.out (by intro k h1 h2; rcases h2 with h2 | h2 <;> first | exact h2 | omega | (have hb := HBR.out k h2; omega)))⟩
        case measure => simp [intOf] <;> omega
    · obtain rfl : n = k := by omega
      go_upto_region 3 with (fail)
      generalize ha0 : Act.mk _ _ = a0
      have oe7 : a0.eval (.tmp 7) = .int .i64 ((n : Nat) : Int) := by rw [← ha0]; rfl
      have oe8 : a0.eval (.tmp 8) = .int .i64 ((n : Nat) : Int) := by rw [← ha0]; rfl
      have hsz0 : a0.tmps.size = 21 := by rw [← ha0]; rfl
      have HA0 := hid ha0
      clear ha0
      refine wp_region_S 21 hsz0 [9] [0] ?_
      refine QSeq.pure rfl (.bool false) (fun E => ex_binE rfl (E.v oe8) (E.v oe7) (guard_ints _ _ _ _ _ _) (run_lss_i _ _ _ Try.underlying3) (congrArg Value.bool (decide_eq_false (by omega)))) ?_
      refine QSeq.nil (t' := [_]) rfl ?_
      have ha0 := HA0.out
      subst ha0
      clear HA0 hsz0 oe7 oe8
      simp only [putAll, Act.put, List.setIfInBounds_toArray, List.set_cons_zero, List.set_cons_succ]
      go_upto_region 8 with (fail)
      generalize ha0 : Act.mk _ _ = a0
      have oe5 : a0.eval (.tmp 5) = .slice aol acc.length capl := by rw [← ha0]; rfl
      have hsz0 : a0.tmps.size = 21 := by rw [← ha0]; rfl
      have HA0 := hid ha0
      clear ha0
      refine wp_region_S 21 hsz0 [20, 4] [0, 1] ?_
      refine QSeq.pure rfl (.slice aol acc.length capl) (fun E => ex_move rfl (E.v oe5)) ?_
      refine QSeq.pure rfl (.slice aol acc.length capl) (fun E => ex_assign rfl (E.d 0 0)) ?_
      refine QSeq.nil (t' := [_, _]) rfl ?_
      have ha0 := HA0.out
      subst ha0
      clear HA0 hsz0 oe5
      simp only [putAll, Act.put, List.setIfInBounds_toArray, List.set_cons_zero, List.set_cons_succ]
      go_wp2
      go_ret
      have hq := HG.out
      rw [Nat.sub_self] at hq
      have e := HGL.out
      rw [← hq] at e
      refine ⟨_, rfl, ?_, ?_, HML.out⟩
      · rw [e]; exact HAL.out.rd.widen (by intro b h1; (try dsimp only at h1 ⊢); omega)
      · rw [e]; exact HRL.out
set_option maxHeartbeats 4000000 in
theorem cOp_G : Gets OpR 125 125 gOp := by
  intro R r s w hR hB hl
  have HRD := Lib.hid hR
  have HBR := Lib.hid hB
  have HBY := hid hR.bytes
  clear hR hB
  have HLN := Lib.hid hl
  clear hl
  go_enter Try.func125, Try.ntmps125
  go_upto_region 1 with (fail)
  obtain ⟨w1, hw1⟩ : ∃ zz, zz = (w.alloc (.cells #[.int .i64 0, .slice none 0 0, .int .u8 0, .int .u8 0, .int .u8 0, .int .u8 0, .int .u8 0, .int .u8 0, .int .u8 0, .int .u8 0, .int .u8 0, .int .u8 0, .int .u8 0, .int .u8 0, .int .u8 0, .int .u8 0, .int .u8 0, .int .u8 0, .int .u8 0, .int .u8 0, .int .u8 0, .int .u8 0, .int .u8 0, .int .u8 0, .int .u8 0, .int .u8 0, .int .u8 0, .int .u8 0, .int .u8 0, .int .u8 0, .int .u8 0, .int .u8 0, .int .u8 0, .int .u8 0] 87)) := ⟨_, rfl⟩
  change Code.wp _ _ _ _ (w.alloc (.cells #[.int .i64 0, .slice none 0 0, .int .u8 0, .int .u8 0, .int .u8 0, .int .u8 0, .int .u8 0, .int .u8 0, .int .u8 0, .int .u8 0, .int .u8 0, .int .u8 0, .int .u8 0, .int .u8 0, .int .u8 0, .int .u8 0, .int .u8 0, .int .u8 0, .int .u8 0, .int .u8 0, .int .u8 0, .int .u8 0, .int .u8 0, .int .u8 0, .int .u8 0, .int .u8 0, .int .u8 0, .int .u8 0, .int .u8 0, .int .u8 0, .int .u8 0, .int .u8 0, .int .u8 0, .int .u8 0] 87))
  rw [← hw1]
  have HB2 := hid (show Cs w1 (w.heap.size) #[.int .i64 0, .slice none 0 0, .int .u8 0, .int .u8 0, .int .u8 0, .int .u8 0, .int .u8 0, .int .u8 0, .int .u8 0, .int .u8 0, .int .u8 0, .int .u8 0, .int .u8 0, .int .u8 0, .int .u8 0, .int .u8 0, .int .u8 0, .int .u8 0, .int .u8 0, .int .u8 0, .int .u8 0, .int .u8 0, .int .u8 0, .int .u8 0, .int .u8 0, .int .u8 0, .int .u8 0, .int .u8 0, .int .u8 0, .int .u8 0, .int .u8 0, .int .u8 0, .int .u8 0, .int .u8 0] 87 by rw [hw1]; exact Cs.new _ _ _)
  have hm : Mod (fun _ => False) w w1 := by rw [hw1]; exact (Mod.refl _ _).alloc _
  have HM0 := hid (show Mod (fun k => (R k)) w w1 from hm.mono (fun _ _ h => h.elim))
  have hs1 : w1.heap.size = w.heap.size + 1 := by rw [hw1]; simp
  have Hx1 := hid (HRD.out.mod hm (fun _ _ h => h))
  clear HRD
  clear hw1 hm
  go_upto_region 1 with (fail)
  generalize ha0 : Act.mk _ _ = a0
  have oe0 : a0.eval (.tmp 0) = .pointer (some ⟨r, 0, none⟩) := by rw [← ha0]; rfl
  have oe2 : a0.eval (.tmp 2) = .pointer (some ⟨w.heap.size, 0, none⟩) := by rw [← ha0]; rfl
  have hsz0 : a0.tmps.size = 10 := by rw [← ha0]; rfl
  have HA0 := hid ha0
  clear ha0
  refine wp_region_S 10 hsz0 [3, 4, 5, 6, 7, 8, 9, 17] [0, 1, 2, 3, 4, 5, 6, 7] ?_
  refine QSeq.pure rfl (.pointer (some ⟨r, 0, none⟩)) (fun E => ex_move rfl (E.v oe0)) ?_
  refine QSeq.go fun act E => ?_
  refine qc_callF (args := #[.pointer (some ⟨r, 0, none⟩), .int .i64 1099511627776]) rfl (wanted_none rfl) rfl Try.func115 (args2 (E.d 0 0) rfl) (cI_Q Hx1.out) ?_
  rintro e u1_1 ⟨rfl, qrd, hm⟩
  refine ⟨_, rfl, ?_⟩
  have Hx2 := hid qrd
  have zu1_1 := hm.size
  have Cx3 := hid (show Mod (fun k => (R k)) w1 u1_1 from hm)
  clear hm
  clear act E qrd Hx1
  refine QSeq.pure rfl (.pointer (some ⟨r, 0, none⟩)) (fun E => ex_move rfl (E.v oe0)) ?_
  refine QSeq.go fun act E => ?_
  refine qc_callF (args := #[.pointer (some ⟨r, 0, none⟩), .int .i64 256]) rfl (wanted_none rfl) rfl Try.func149 (args2 (E.d 2 0) rfl) (cRow_Q Hx2.out) ?_
  rintro e u1_3 ⟨vr, rfl, qrow, qrd, hm⟩
  obtain ⟨ao_row, cap_row, rfl⟩ := qrow.shape
  refine ⟨_, rfl, ?_⟩
  have Hx4 := hid (qrow.widen (R' := (fun k => (New u1_1 u1_3 k))) (fun _ h => h) (Nat.le_refl _))
  have Hx5 := hid qrd
  have zu1_3 := hm.size
  have HMu1_3 := hid hm
  have Cx6 := hid (Mod.goS (S' := (fun k => (R k))) Cx3.out hm (fun _ h => h) (by intro k h0 h2; exact h2))
  clear hm Cx3
  clear act E qrow qrd Hx2
  refine QSeq.pure rfl (.pointer (some ⟨r, 0, none⟩)) (fun E => ex_move rfl (E.v oe0)) ?_
  refine QSeq.go fun act E => ?_
  refine qc_callF (args := #[.pointer (some ⟨r, 0, none⟩)]) rfl (wanted_none rfl) rfl Try.func144 (args1 (E.d 4 0)) (RHash_R Hx5.out) ?_
  rintro e u1_5 ⟨rfl, qrd, hm⟩
  refine ⟨_, rfl, ?_⟩
  have Hx7 := hid qrd
  have zu1_5 := hm.size
  have HMu1_5 := hid hm
  have Cx8 := hid (Mod.goS (S' := (fun k => (R k))) Cx6.out hm (fun _ h => h) (by intro k h0 h2; exact h2))
  clear hm Cx6
  clear act E qrd Hx5
  refine QSeq.go fun act E => ?_
  refine qc_run rfl (wanted_none rfl) (v := .agg ((gOp s).1.cells (Value.slice ao_row (rRow 256 (gI s).2).1.length cap_row) : List Value).toArray) (ex_build rfl (z := [.int .i64 0, .slice none 0 0, .int .u8 0, .int .u8 0, .int .u8 0, .int .u8 0, .int .u8 0, .int .u8 0, .int .u8 0, .int .u8 0, .int .u8 0, .int .u8 0, .int .u8 0, .int .u8 0, .int .u8 0, .int .u8 0, .int .u8 0, .int .u8 0, .int .u8 0, .int .u8 0, .int .u8 0, .int .u8 0, .int .u8 0, .int .u8 0, .int .u8 0, .int .u8 0, .int .u8 0, .int .u8 0, .int .u8 0, .int .u8 0, .int .u8 0, .int .u8 0, .int .u8 0, .int .u8 0]) (places := [(0, 1), (1, 1), (2, 32)]) (by kernel_rfl) (parts := [(0, .int .i64 (gI s).1), (1, .slice ao_row (rRow 256 (gI s).2).1.length cap_row), (2, hv (rHash (rRow 256 (gI s).2).2).1)]) (by simp only [List.map_toArray, List.map_cons, List.map_nil, show act.eval (.tmp 4) = .int .i64 (gI s).1 from (E.d 1 4), show act.eval (.tmp 6) = .slice ao_row (rRow 256 (gI s).2).1.length cap_row from (E.d 3 2), show act.eval (.tmp 8) = hv (rHash (rRow 256 (gI s).2).2).1 from (E.d 5 0)]; try rfl) (r := (gOp s).1.cells (Value.slice ao_row (rRow 256 (gI s).2).1.length cap_row)) (by exact (laid_segs (ns := [1, 1, 32]) rfl [(0, .int .i64 (gI s).1), (1, .slice ao_row (rRow 256 (gI s).2).1.length cap_row), (2, hv (rHash (rRow 256 (gI s).2).2).1)] [[.int .i64 0], [.slice none 0 0], [.int .u8 0, .int .u8 0, .int .u8 0, .int .u8 0, .int .u8 0, .int .u8 0, .int .u8 0, .int .u8 0, .int .u8 0, .int .u8 0, .int .u8 0, .int .u8 0, .int .u8 0, .int .u8 0, .int .u8 0, .int .u8 0, .int .u8 0, .int .u8 0, .int .u8 0, .int .u8 0, .int .u8 0, .int .u8 0, .int .u8 0, .int .u8 0, .int .u8 0, .int .u8 0, .int .u8 0, .int .u8 0, .int .u8 0, .int .u8 0, .int .u8 0, .int .u8 0]] rfl ⟨rfl, rfl, (szv (by rw [List.length_map]; exact rHash_l _)), trivial⟩).trans (congrArg some (show ([_] ++ ([_] ++ (_ ++ [])) : List Value) = _ by rw [List.append_nil]; rfl)))) ?_
  clear act E
  refine QSeq.go fun act E => ?_
  refine qc_store rfl (wanted_none rfl) rfl (HB2.out.mod Cx8.out (by intro h2; first | omega | (have hb := HBR.out _ h2; omega))) (off := 0) (vs := ((gOp s).1.cells (Value.slice ao_row (rRow 256 (gI s).2).1.length cap_row))) (by rw [show ((gOp s).1.cells (Value.slice ao_row (rRow 256 (gI s).2).1.length cap_row)).length = _ from (op_len2 _ _ (gOp_OK HBY.out).2.1)]; kernel_rfl) (one_op2 _ _ rfl) (by rw [show ((gOp s).1.cells (Value.slice ao_row (rRow 256 (gI s).2).1.length cap_row)).length = _ from (op_len2 _ _ (gOp_OK HBY.out).2.1)]; decide) (E.v oe2) (by rw [show act.eval ((.tmp 9)) = _ from (E.d 6 0)]; rfl) ?_
  intro u1_7 qc0 hm
  have qB2 : Cs u1_7 (w.heap.size) (((gOp s).1.cells (Value.slice ao_row (rRow 256 (gI s).2).1.length cap_row)) : List Value).toArray 87 := by rw [show lay _ 0 _ = (((gOp s).1.cells (Value.slice ao_row (rRow 256 (gI s).2).1.length cap_row)) : List Value).toArray from lay_whole _ _ (by rw [show ((gOp s).1.cells (Value.slice ao_row (rRow 256 (gI s).2).1.length cap_row)).length = _ from (op_len2 _ _ (gOp_OK HBY.out).2.1)]; rfl)] at qc0; exact qc0
  clear qc0
  have Hx9 := hid qB2
  have zu1_7 := hm.size
  have HMu1_7 := hid hm
  have Cx10 := hid (Mod.goS (S' := (fun k => (R k) ∨ (k = w.heap.size))) Cx8.out hm (fun _ h => Or.inl h) (by intro k h0 h2; exact Or.inr (h2)))
  clear hm Cx8
  clear act E qB2 HB2
  have Hx11 := hid (Hx7.out.mod HMu1_7.out (by intro k h1 h2; have hb := HBR.out k h1; omega))
  have Hx12 := hid ((Hx4.out.mod HMu1_5.out (by intro k h1 h2; have hb := HBR.out k h2; omega)).mod HMu1_7.out (by intro k h1 h2; omega))
  clear Hx7 Hx4 HMu1_3 HMu1_5 HMu1_7
  refine QSeq.nil (t' := [_, _, _, _, _, _, _, _]) rfl ?_
  have ha0 := HA0.out
  subst ha0
  clear HA0 hsz0 oe0 oe2
  simp only [putAll, Act.put, List.setIfInBounds_toArray, List.set_cons_zero, List.set_cons_succ, List.set_nil]
  go_wp2
  exact bodyPost_ret (results_cellA rfl _ _ w.heap.size ((gOp s).1.cells (Value.slice ao_row (rRow 256 (gI s).2).1.length cap_row)) rfl (fun k u hu => by rw [Hx9.out.cell]; simpa using hu) Try.underlying87 rfl (by rw [show ((gOp s).1.cells (Value.slice ao_row (rRow 256 (gI s).2).1.length cap_row)).length = _ from (op_len2 _ _ (gOp_OK HBY.out).2.1)]; kernel_rfl)) rfl ⟨_, rfl, ⟨_, rfl, gOp_OK HBY.out, (Hx12.out.widen (R' := (fun k => New w u1_7 k)) (by intro k h1; omega) (Nat.le_refl _))⟩, Hx11.out, (HM0.out.trans Cx10.out (by intro k h1 h2; rcases h2 with h2 | h2 <;> first | exact h2 | omega | (have hb := HBR.out k h2; omega)))⟩
set_option maxHeartbeats 4000000 in
theorem cList_Op : GetsL OpR 125 124 125 gOp := by
  intro R r s w hR hB hl
  have HRD := Lib.hid hR
  have HBR := Lib.hid hB
  have HLN := Lib.hid hl
  clear hR hB hl
  go_enter Try.func124, Try.ntmps124
  go_upto_region 2 with (fail)
  have HM0 := hid (Mod.refl (fun k => (R k)) w)
  go_upto_region 2 with (fail)
  generalize ha0 : Act.mk _ _ = a0
  have oe0 : a0.eval (.tmp 0) = .pointer (some ⟨r, 0, none⟩) := by rw [← ha0]; rfl
  have hsz0 : a0.tmps.size = 21 := by rw [← ha0]; rfl
  have HA0 := hid ha0
  clear ha0
  refine wp_region_S 21 hsz0 [6, 7, 8] [0, 1, 2] ?_
  refine QSeq.pure rfl (.pointer (some ⟨r, 0, none⟩)) (fun E => ex_move rfl (E.v oe0)) ?_
  refine QSeq.go fun act E => ?_
  refine qc_callF (args := #[.pointer (some ⟨r, 0, none⟩), .int .i64 100]) rfl (wanted_none rfl) rfl Try.func115 (args2 (E.d 0 0) rfl) (RInt_R HRD.out (by decide)) ?_
  rintro e u2_1 ⟨rfl, qrd, hm⟩
  refine ⟨_, rfl, ?_⟩
  have Hx1 := hid qrd
  have zu2_1 := hm.size
  have Cx2 := hid (show Mod (fun k => (R k)) w u2_1 from hm)
  clear hm
  clear act E qrd HRD
  refine QSeq.pure rfl (.int .i64 0) (fun E => ex_move rfl rfl) ?_
  refine QSeq.nil (t' := [_, _, _]) rfl ?_
  have ha0 := HA0.out
  subst ha0
  clear HA0 hsz0 oe0
  simp only [putAll, Act.put, List.setIfInBounds_toArray, List.set_cons_zero, List.set_cons_succ]
  obtain ⟨n, hn⟩ : ∃ n, n = (rInt 100 s).1 := ⟨_, rfl⟩
  obtain ⟨s1, hs1⟩ : ∃ z, z = (rInt 100 s).2 := ⟨_, rfl⟩
  have hn100 : n ≤ 100 := by have := rInt_le 100 s; omega
  have HLS := hid (show (s1.getD []).length ≤ 900000 by rw [hs1]; exact Nat.le_trans ((rInt_suf 100).len s) HLN.out)
  have HGL := hid (show gList gOp s = gItems gOp n [] s1 by rw [hn, hs1]; rfl)
  rw [← hn]
  have hq := Hx1.out
  rw [← hs1] at hq
  have HR1 := Lib.hid hq
  clear hq hn hs1 HLN
  go_wp2
  go_loopw [5, 8] (fun ta ti wr => ∃ (k : Nat) (acc : List Op) (st : RSt), ti = .int .i64 (k : Int) ∧ k ≤ n ∧ acc.length = k ∧ (st.getD []).length ≤ 900000 ∧ gItems gOp (n - k) acc st = gItems gOp n [] s1 ∧ u2_1.heap.size ≤ wr.heap.size ∧ OwS OpR 87 (fun b => w.heap.size ≤ b ∧ b < wr.heap.size) (fun b => w.heap.size ≤ b ∧ b < wr.heap.size) wr ta acc ∧ RrR 125 R wr r st ∧ Mod R w wr) (fun _ ti _ => n - (intOf ti).toNat)
  case atStart => exact ⟨0, [], s1, rfl, Nat.zero_le _, rfl, HLS.out, rfl, Nat.le_refl _, OwS.nil _ _ _ _ _, HR1.out, (HM0.out.trans Cx2.out (fun _ _ h => h))⟩
  case round =>
    obtain ⟨k, acc, st, rfl, hk, hka, hst, hg, hz, ha, hr, hm⟩ := hrel
    obtain ⟨wl, rfl⟩ : ∃ x, x = wr := ⟨_, rfl⟩
    obtain ⟨aol, capl, rfl⟩ := ha.shape
    have HAL := Lib.hid ha
    have HRL := Lib.hid hr
    have HML := Lib.hid hm
    have HST := Lib.hid hst
    have HG := Lib.hid hg
    have HKA := Lib.hid hka
    clear ha hr hm hst hg hka HR1 HM0
    by_cases hlt : k < n
    · skip
      go_upto_region 3 with (fail)
      generalize ha0 : Act.mk _ _ = a0
      have oe7 : a0.eval (.tmp 7) = .int .i64 ((n : Nat) : Int) := by rw [← ha0]; rfl
      have oe8 : a0.eval (.tmp 8) = .int .i64 ((k : Nat) : Int) := by rw [← ha0]; rfl
      have hsz0 : a0.tmps.size = 21 := by rw [← ha0]; rfl
      have HA0 := hid ha0
      clear ha0
      refine wp_region_S 21 hsz0 [9] [0] ?_
      refine QSeq.pure rfl (.bool true) (fun E => ex_binE rfl (E.v oe8) (E.v oe7) (guard_ints _ _ _ _ _ _) (run_lss_i _ _ _ Try.underlying3) (congrArg Value.bool (decide_eq_true (by omega)))) ?_
      refine QSeq.nil (t' := [_]) rfl ?_
      have ha0 := HA0.out
      subst ha0
      clear HA0 hsz0 oe7 oe8
      simp only [putAll, Act.put, List.setIfInBounds_toArray, List.set_cons_zero, List.set_cons_succ]
      obtain ⟨p, hp⟩ : ∃ p, p = gOp st := ⟨_, rfl⟩
      obtain ⟨x, st2⟩ := p
      have HP1 := hid (congrArg Prod.fst hp.symm)
      have HP2 := hid (congrArg Prod.snd hp.symm)
      clear hp
      dsimp only at HP1 HP2
      have HST2 := hid (show (st2.getD []).length ≤ 900000 by rw [← HP2.out]; exact Nat.le_trans (gOp_suf.len st) HST.out)
      have HGN := hid (show gItems gOp (n - k) acc st = if st2 = none then ([], none) else gItems gOp (n - (k + 1)) (acc ++ [x]) st2 by rw [show n - k = (n - (k + 1)) + 1 by omega]; show (if (gOp st).2 = none then _ else _) = _; rw [HP2.out, HP1.out])
      go_upto_region 4 with (fail)
      generalize ha0 : Act.mk _ _ = a0
      have oe0 : a0.eval (.tmp 0) = .pointer (some ⟨r, 0, none⟩) := by rw [← ha0]; rfl
      have oe1 : a0.eval (.tmp 1) = .func (.func 125) #[] #[] := by rw [← ha0]; rfl
      have oe5 : a0.eval (.tmp 5) = .slice aol acc.length capl := by rw [← ha0]; rfl
      have hsz0 : a0.tmps.size = 21 := by rw [← ha0]; rfl
      have HA0 := hid ha0
      clear ha0
      refine wp_region_S 21 hsz0 [10, 11, 12, 13, 14, 15, 5] [0, 1, 2, 3, 4, 5, 6] ?_
      refine QSeq.pure rfl (.slice aol acc.length capl) (fun E => ex_move rfl (E.y 6 oe5)) ?_
      refine QSeq.pure rfl (.func (.func 125) #[] #[]) (fun E => ex_move rfl (E.v oe1)) ?_
      refine QSeq.pure rfl (.pointer (some ⟨r, 0, none⟩)) (fun E => ex_move rfl (E.v oe0)) ?_
      refine QSeq.go fun act E => ?_
      have ea12 : act.eval (.tmp 12) = .pointer (some ⟨r, 0, none⟩) := (E.d 2 0)
      refine qc_call (args := #[.pointer (some ⟨r, 0, none⟩)]) rfl (wanted_none rfl) (by rw [ex_callV rfl (E.d 1 1) Try.func125 (by kernel_rfl) (by kernel_rfl)]; exact congrArg (fun z => Result.ok (Next.enter _ z) _) (by simp only [List.map_toArray, List.map_cons, List.map_nil, ea12]; try rfl)) ((cOp_G).to HP1.out HP2.out HRL.out (by intro k h1; have hb := HBR.out k h1; omega) HST.out) ?_
      rintro e u4_3 ⟨cs, rfl, qel, qrd, hm⟩
      refine ⟨_, rfl, ?_⟩
      have Hx3 := hid (qel.widen (R' := (fun k => (New wl u4_3 k))) (fun _ h => h))
      have Hx4 := hid qrd
      have zu4_3 := hm.size
      have Cx5 := hid (show Mod (fun k => (R k)) wl u4_3 from hm)
      clear hm
      clear act E qel qrd HRL ea12
      refine QSeq.go fun act E => ?_
      refine qc_buildS (e := 87) (cs := cs) (zc := [.int .i64 0, .slice none 0 0, .int .u8 0, .int .u8 0, .int .u8 0, .int .u8 0, .int .u8 0, .int .u8 0, .int .u8 0, .int .u8 0, .int .u8 0, .int .u8 0, .int .u8 0, .int .u8 0, .int .u8 0, .int .u8 0, .int .u8 0, .int .u8 0, .int .u8 0, .int .u8 0, .int .u8 0, .int .u8 0, .int .u8 0, .int .u8 0, .int .u8 0, .int .u8 0, .int .u8 0, .int .u8 0, .int .u8 0, .int .u8 0, .int .u8 0, .int .u8 0, .int .u8 0, .int .u8 0]) (sz := 34) rfl (wanted_none rfl) rfl Try.underlying57 (by kernel_rfl) rfl (by decide) (by decide) (E.d 3 0) (OpR.len Hx3.out) ?_
      intro u4_4 qrow hm
      have zl4_4 := qrow.lt
      have Hx6 := hid qrow
      have zu4_4 := hm.size
      have HMu4_4 := hid hm
      have Cx7 := hid (Cx5.out.goE hm)
      clear hm Cx5
      clear act E qrow
      refine QSeq.go fun act E => ?_
      refine qc_appS (A := OpR) (e := 87) rfl (wanted_none rfl) rfl (.agg #[.int .i64 0, .slice none 0 0, .int .u8 0, .int .u8 0, .int .u8 0, .int .u8 0, .int .u8 0, .int .u8 0, .int .u8 0, .int .u8 0, .int .u8 0, .int .u8 0, .int .u8 0, .int .u8 0, .int .u8 0, .int .u8 0, .int .u8 0, .int .u8 0, .int .u8 0, .int .u8 0, .int .u8 0, .int .u8 0, .int .u8 0, .int .u8 0, .int .u8 0, .int .u8 0, .int .u8 0, .int .u8 0, .int .u8 0, .int .u8 0, .int .u8 0, .int .u8 0, .int .u8 0, .int .u8 0]) 64 Try.underlying57 info_Op (by rfl) (of_decide_eq_true (by kernel_rfl)) (E.d 0 4) (E.d 4 0) ((HAL.out.mod Cx7.out (by intro k h1 h2; have hb := HBR.out k h2; omega) (by intro k h1 h2; have hb := HBR.out k h2; omega))) (RdS.single (R := (fun k => (New wl u4_3 k) ∨ (k = u4_3.heap.size))) Hx6.out ((Hx3.out.mod HMu4_4.out (fun _ _ h => h)).widen (by intro k h1; first | omega | exact h1.elim | exact Or.inl h1 | exact Or.inr (h1))) (by first | exact Or.inr rfl | exact Or.inr (Or.inr rfl) | (right; omega))) (by intro k h1 h2; omega) (by rw [HKA.out]; simp only [List.length_cons, List.length_nil]; omega) (by rw [HKA.out]; simp only [List.length_cons, List.length_nil]; rw [maxLen_val]; omega) ?_
      intro ao4 cap4 u4_5 qout hm
      have Hx8 := hid (qout.widen (R' := (fun k => (New w wl k) ∨ (New u4_4 u4_5 k))) (E' := (fun k => (New w wl k) ∨ (New wl u4_3 k) ∨ (k = u4_3.heap.size))) (fun _ h => h) (by intro k h1; rcases h1 with h1 | (h1 | h1) <;> first | omega | exact h1.elim | exact Or.inl h1 | exact Or.inr (Or.inl h1) | exact Or.inr (Or.inr (h1))))
      have zu4_5 := hm.size
      have HMu4_5 := hid hm
      have Cx9 := hid (Mod.goS (S' := (fun k => (R k) ∨ (New w wl k))) Cx7.out hm (fun _ h => Or.inl h) (by intro k h0 h2; exact Or.inr (h2)))
      clear hm Cx7
      clear act E qout HAL
      refine QSeq.pure rfl (.slice ao4 (acc.length + 1) cap4) (fun E => ex_assign rfl (E.d 5 0)) ?_
      have Hx10 := hid ((Hx4.out.mod HMu4_4.out (fun _ _ h => h)).mod HMu4_5.out (by intro k h1 h2; have hb := HBR.out k h1; omega))
      have Hx11 := hid ((Hx3.out.mod HMu4_4.out (fun _ _ h => h)).mod HMu4_5.out (by intro k h1 h2; omega))
      have Hx12 := hid (Hx6.out.mod HMu4_5.out (by intro h2; omega))
      clear Hx4 Hx3 Hx6 HMu4_4 HMu4_5
      refine QSeq.nil (t' := [_, _, _, _, _, _, _]) rfl ?_
      have ha0 := HA0.out
      subst ha0
      clear HA0 hsz0 oe0 oe1 oe5
      simp only [putAll, Act.put, List.setIfInBounds_toArray, List.set_cons_zero, List.set_cons_succ]
      clear Hx11
      clear Hx12
      cases st2 with
      | none =>
        go_upto_region 5 with (fail)
        generalize ha0 : Act.mk _ _ = a0
        have oe0 : a0.eval (.tmp 0) = .pointer (some ⟨r, 0, none⟩) := by rw [← ha0]; rfl
        have hsz0 : a0.tmps.size = 21 := by rw [← ha0]; rfl
        have HA0 := hid ha0
        clear ha0
        refine wp_region_S 21 hsz0 [16, 17, 18] [0, 1, 2] ?_
        refine QSeq.pure rfl (.pointer (some ⟨r, 0, none⟩)) (fun E => ex_move rfl (E.v oe0)) ?_
        refine QSeq.go fun act E => ?_
        refine qc_callF (args := #[.pointer (some ⟨r, 0, none⟩)]) rfl (wanted_none rfl) rfl Try.func39 (args1 (E.d 0 0)) (OK_R Hx10.out) ?_
        rintro e w2 ⟨rfl, hw2⟩
        obtain rfl : u4_5 = w2 := by first | exact hw2 | exact hw2.symm
        refine ⟨_, rfl, ?_⟩
        clear act E
        refine QSeq.pure rfl (.bool true) (fun E => ex_not rfl (E.d 1 0)) ?_
        refine QSeq.nil (t' := [_, _, _]) rfl ?_
        have ha0 := HA0.out
        subst ha0
        clear HA0 hsz0 oe0
        simp only [putAll, Act.put, List.setIfInBounds_toArray, List.set_cons_zero, List.set_cons_succ]
        go_upto_region 6 with (fail)
        generalize ha0 : Act.mk _ _ = a0
        have hsz0 : a0.tmps.size = 21 := by rw [← ha0]; rfl
        have HA0 := hid ha0
        clear ha0
        refine wp_region_S 21 hsz0 [4] [0] ?_
        refine QSeq.pure rfl (.slice none 0 0) (fun E => ex_assign rfl rfl) ?_
        refine QSeq.nil (t' := [_]) rfl ?_
        have ha0 := HA0.out
        subst ha0
        clear HA0 hsz0
        simp only [putAll, Act.put, List.setIfInBounds_toArray, List.set_cons_zero, List.set_cons_succ]
        go_wp2
        go_ret
        have hq := HG.out
        rw [HGN.out, if_pos trivial] at hq
        have e := HGL.out
        rw [← hq] at e
        refine ⟨_, rfl, ?_, ?_, (HML.out.trans Cx9.out (by intro k h1 h2; rcases h2 with h2 | h2 <;> first | exact h2 | omega | (have hb := HBR.out k h2; omega)))⟩
        · rw [e]; exact RdS.nil _ _ _
        · rw [e]; exact Hx10.out
      | some l2 =>
        go_upto_region 5 with (fail)
        generalize ha0 : Act.mk _ _ = a0
        have oe0 : a0.eval (.tmp 0) = .pointer (some ⟨r, 0, none⟩) := by rw [← ha0]; rfl
        have hsz0 : a0.tmps.size = 21 := by rw [← ha0]; rfl
        have HA0 := hid ha0
        clear ha0
        refine wp_region_S 21 hsz0 [16, 17, 18] [0, 1, 2] ?_
        refine QSeq.pure rfl (.pointer (some ⟨r, 0, none⟩)) (fun E => ex_move rfl (E.v oe0)) ?_
        refine QSeq.go fun act E => ?_
        refine qc_callF (args := #[.pointer (some ⟨r, 0, none⟩)]) rfl (wanted_none rfl) rfl Try.func39 (args1 (E.d 0 0)) (OK_R Hx10.out) ?_
        rintro e w2 ⟨rfl, hw2⟩
        obtain rfl : u4_5 = w2 := by first | exact hw2 | exact hw2.symm
        refine ⟨_, rfl, ?_⟩
        clear act E
        refine QSeq.pure rfl (.bool false) (fun E => ex_not rfl (E.d 1 0)) ?_
        refine QSeq.nil (t' := [_, _, _]) rfl ?_
        have ha0 := HA0.out
        subst ha0
        clear HA0 hsz0 oe0
        simp only [putAll, Act.put, List.setIfInBounds_toArray, List.set_cons_zero, List.set_cons_succ]
        go_upto_region 7 with (fail)
        generalize ha0 : Act.mk _ _ = a0
        have oe8 : a0.eval (.tmp 8) = .int .i64 ((k : Nat) : Int) := by rw [← ha0]; rfl
        have hsz0 : a0.tmps.size = 21 := by rw [← ha0]; rfl
        have HA0 := hid ha0
        clear ha0
        refine wp_region_S 21 hsz0 [19, 8] [0, 1] ?_
        refine QSeq.pure rfl (.int .i64 (((k : Nat) : Int) + 1)) (fun E => ex_binE rfl (E.y 1 oe8) rfl (guard_ints _ _ _ _ _ _) (run_add_i _ _ Try.underlying3) (congrArg (Value.int .i64) (IntWalk.i64_in _ (by omega)))) ?_
        refine QSeq.pure rfl (.int .i64 (((k : Nat) : Int) + 1)) (fun E => ex_move rfl (E.d 0 0)) ?_
        refine QSeq.nil (t' := [_, _]) rfl ?_
        have ha0 := HA0.out
        subst ha0
        clear HA0 hsz0 oe8
        simp only [putAll, Act.put, List.setIfInBounds_toArray, List.set_cons_zero, List.set_cons_succ]
        go_wp2
        go_roundw
        case rel => exact ⟨k + 1, acc ++ [x], some l2, by go_num, by omega, by rw [List.length_append, HKA.out]; rfl, HST2.out, (by have hq := HG.out; rw [HGN.out, if_neg (by simp)] at hq; exact hq), by omega, (Hx8.out.widen (by intro b h1; omega) (by intro b h1; rcases h1 with h1 | h1 | h1 <;> first | omega | exact h1.elim)), Hx10.out, (HML.out.trans Cx9.out (by intro k h1 h2; rcases h2 with h2 | h2 <;> first | exact h2 | omega | (have hb := HBR.out k h2; omega)))⟩
        case measure => simp [intOf] <;> omega
    · obtain rfl : n = k := by omega
      go_upto_region 3 with (fail)
      generalize ha0 : Act.mk _ _ = a0
      have oe7 : a0.eval (.tmp 7) = .int .i64 ((n : Nat) : Int) := by rw [← ha0]; rfl
      have oe8 : a0.eval (.tmp 8) = .int .i64 ((n : Nat) : Int) := by rw [← ha0]; rfl
      have hsz0 : a0.tmps.size = 21 := by rw [← ha0]; rfl
      have HA0 := hid ha0
      clear ha0
      refine wp_region_S 21 hsz0 [9] [0] ?_
      refine QSeq.pure rfl (.bool false) (fun E => ex_binE rfl (E.v oe8) (E.v oe7) (guard_ints _ _ _ _ _ _) (run_lss_i _ _ _ Try.underlying3) (congrArg Value.bool (decide_eq_false (by omega)))) ?_
      refine QSeq.nil (t' := [_]) rfl ?_
      have ha0 := HA0.out
      subst ha0
      clear HA0 hsz0 oe7 oe8
      simp only [putAll, Act.put, List.setIfInBounds_toArray, List.set_cons_zero, List.set_cons_succ]
      go_upto_region 8 with (fail)
      generalize ha0 : Act.mk _ _ = a0
      have oe5 : a0.eval (.tmp 5) = .slice aol acc.length capl := by rw [← ha0]; rfl
      have hsz0 : a0.tmps.size = 21 := by rw [← ha0]; rfl
      have HA0 := hid ha0
      clear ha0
      refine wp_region_S 21 hsz0 [20, 4] [0, 1] ?_
      refine QSeq.pure rfl (.slice aol acc.length capl) (fun E => ex_move rfl (E.v oe5)) ?_
      refine QSeq.pure rfl (.slice aol acc.length capl) (fun E => ex_assign rfl (E.d 0 0)) ?_
      refine QSeq.nil (t' := [_, _]) rfl ?_
      have ha0 := HA0.out
      subst ha0
      clear HA0 hsz0 oe5
      simp only [putAll, Act.put, List.setIfInBounds_toArray, List.set_cons_zero, List.set_cons_succ]
      go_wp2
      go_ret
      have hq := HG.out
      rw [Nat.sub_self] at hq
      have e := HGL.out
      rw [← hq] at e
      refine ⟨_, rfl, ?_, ?_, HML.out⟩
      · rw [e]; exact HAL.out.rd.widen (by intro b h1; (try dsimp only at h1 ⊢); omega)
      · rw [e]; exact HRL.out
set_option maxHeartbeats 4000000 in
theorem cPm_G : Gets PmR 125 85 gPm := by
  intro R r s w hR hB hl
  have HRD := Lib.hid hR
  have HBR := Lib.hid hB
  have HBY := hid hR.bytes
  clear hR hB
  have HLN := Lib.hid hl
  clear hl
  go_enter Try.func85, Try.ntmps85
  go_upto_region 1 with (fail)
  obtain ⟨w1, hw1⟩ : ∃ zz, zz = (w.alloc (.cells #[.int .i64 0, .int .i64 0, .int .u64 0, .slice none 0 0, .int .i64 0, .int .i64 0] 55)) := ⟨_, rfl⟩
  change Code.wp _ _ _ _ (w.alloc (.cells #[.int .i64 0, .int .i64 0, .int .u64 0, .slice none 0 0, .int .i64 0, .int .i64 0] 55))
  rw [← hw1]
  have HB2 := hid (show Cs w1 (w.heap.size) #[.int .i64 0, .int .i64 0, .int .u64 0, .slice none 0 0, .int .i64 0, .int .i64 0] 55 by rw [hw1]; exact Cs.new _ _ _)
  have hm : Mod (fun _ => False) w w1 := by rw [hw1]; exact (Mod.refl _ _).alloc _
  have HM0 := hid (show Mod (fun k => (R k)) w w1 from hm.mono (fun _ _ h => h.elim))
  have hs1 : w1.heap.size = w.heap.size + 1 := by rw [hw1]; simp
  have Hx1 := hid (HRD.out.mod hm (fun _ _ h => h))
  clear HRD
  clear hw1 hm
  go_upto_region 1 with (fail)
  generalize ha0 : Act.mk _ _ = a0
  have oe0 : a0.eval (.tmp 0) = .pointer (some ⟨r, 0, none⟩) := by rw [← ha0]; rfl
  have oe2 : a0.eval (.tmp 2) = .pointer (some ⟨w.heap.size, 0, none⟩) := by rw [← ha0]; rfl
  have hsz0 : a0.tmps.size = 14 := by rw [← ha0]; rfl
  have HA0 := hid ha0
  clear ha0
  refine wp_region_S 14 hsz0 [3, 4, 5, 6, 7, 8, 9, 10, 11, 12, 13, 25] [0, 1, 2, 3, 4, 5, 6, 7, 8, 9, 10, 11] ?_
  refine QSeq.pure rfl (.pointer (some ⟨r, 0, none⟩)) (fun E => ex_move rfl (E.v oe0)) ?_
  refine QSeq.go fun act E => ?_
  refine qc_callF (args := #[.pointer (some ⟨r, 0, none⟩), .int .i64 1099511627776]) rfl (wanted_none rfl) rfl Try.func115 (args2 (E.d 0 0) rfl) (cI_Q Hx1.out) ?_
  rintro e u1_1 ⟨rfl, qrd, hm⟩
  refine ⟨_, rfl, ?_⟩
  have Hx2 := hid qrd
  have zu1_1 := hm.size
  have Cx3 := hid (show Mod (fun k => (R k)) w1 u1_1 from hm)
  clear hm
  clear act E qrd Hx1
  refine QSeq.pure rfl (.pointer (some ⟨r, 0, none⟩)) (fun E => ex_move rfl (E.v oe0)) ?_
  refine QSeq.go fun act E => ?_
  refine qc_callF (args := #[.pointer (some ⟨r, 0, none⟩), .int .i64 1099511627776]) rfl (wanted_none rfl) rfl Try.func115 (args2 (E.d 2 0) rfl) (cI_Q Hx2.out) ?_
  rintro e u1_3 ⟨rfl, qrd, hm⟩
  refine ⟨_, rfl, ?_⟩
  have Hx4 := hid qrd
  have zu1_3 := hm.size
  have HMu1_3 := hid hm
  have Cx5 := hid (Mod.goS (S' := (fun k => (R k))) Cx3.out hm (fun _ h => h) (by intro k h0 h2; exact h2))
  clear hm Cx3
  clear act E qrd Hx2
  refine QSeq.pure rfl (.pointer (some ⟨r, 0, none⟩)) (fun E => ex_move rfl (E.v oe0)) ?_
  refine QSeq.go fun act E => ?_
  refine qc_callF (args := #[.pointer (some ⟨r, 0, none⟩)]) rfl (wanted_none rfl) rfl Try.func116 (args1 (E.d 4 0)) (RNum_R Hx4.out) ?_
  rintro e u1_5 ⟨rfl, qrd, hm⟩
  refine ⟨_, rfl, ?_⟩
  have Hx6 := hid qrd
  have zu1_5 := hm.size
  have HMu1_5 := hid hm
  have Cx7 := hid (Mod.goS (S' := (fun k => (R k))) Cx5.out hm (fun _ h => h) (by intro k h0 h2; exact h2))
  clear hm Cx5
  clear act E qrd Hx4
  refine QSeq.pure rfl (.pointer (some ⟨r, 0, none⟩)) (fun E => ex_move rfl (E.v oe0)) ?_
  refine QSeq.go fun act E => ?_
  refine qc_callF (args := #[.pointer (some ⟨r, 0, none⟩), .func (.func 81) #[] #[]]) rfl (wanted_none rfl) rfl Try.func117 (args2 (E.d 6 0) rfl) (cList_Ce _ _ _ _ Hx6.out (by intro k h1; have hb := HBR.out k h1; omega) (Nat.le_trans (rNum_suf.len _) (Nat.le_trans (gI_suf.len _) (Nat.le_trans (gI_suf.len _) HLN.out)))) ?_
  rintro e u1_7 ⟨vlCe, rfl, qlCe, qrd, hm⟩
  obtain ⟨ao_lCe, cap_lCe, rfl⟩ := qlCe.shape
  refine ⟨_, rfl, ?_⟩
  have Hx8 := hid (qlCe.widen (R' := (fun k => (New u1_5 u1_7 k))) (fun _ h => h))
  have Hx9 := hid qrd
  have zu1_7 := hm.size
  have HMu1_7 := hid hm
  have Cx10 := hid (Mod.goS (S' := (fun k => (R k))) Cx7.out hm (fun _ h => h) (by intro k h0 h2; exact h2))
  clear hm Cx7
  clear act E qlCe qrd Hx6
  refine QSeq.pure rfl (.pointer (some ⟨r, 0, none⟩)) (fun E => ex_move rfl (E.v oe0)) ?_
  refine QSeq.go fun act E => ?_
  refine qc_callF (args := #[.pointer (some ⟨r, 0, none⟩)]) rfl (wanted_none rfl) rfl Try.func118 (args1 (E.d 8 0)) (cSig_Q _ _ _ _ Hx9.out (by intro k h1; have hb := HBR.out k h1; omega)) ?_
  rintro e u1_9 ⟨rfl, qrd, hm⟩
  refine ⟨_, rfl, ?_⟩
  have Hx11 := hid qrd
  have zu1_9 := hm.size
  have HMu1_9 := hid hm
  have Cx12 := hid (Mod.goS (S' := (fun k => (R k))) Cx10.out hm (fun _ h => h) (by intro k h0 h2; exact h2))
  clear hm Cx10
  clear act E qrd Hx9
  refine QSeq.go fun act E => ?_
  refine qc_run rfl (wanted_none rfl) (v := .agg ((gPm s).1.cells (Value.slice ao_lCe (gList gCe (rNum (gI (gI s).2).2).2).1.length cap_lCe) : List Value).toArray) (ex_build rfl (z := [.int .i64 0, .int .i64 0, .int .u64 0, .slice none 0 0, .int .i64 0, .int .i64 0]) (places := [(0, 1), (1, 1), (2, 1), (3, 1), (4, 2)]) (by kernel_rfl) (parts := [(0, .int .i64 (gI s).1), (1, .int .i64 (gI (gI s).2).1), (2, .int .u64 ((rNum (gI (gI s).2).2).1 : Nat)), (3, .slice ao_lCe (gList gCe (rNum (gI (gI s).2).2).2).1.length cap_lCe), (4, .agg #[.int .i64 (gSig (gList gCe (rNum (gI (gI s).2).2).2).2).1.1, .int .i64 (gSig (gList gCe (rNum (gI (gI s).2).2).2).2).1.2])]) (by simp only [List.map_toArray, List.map_cons, List.map_nil, show act.eval (.tmp 4) = .int .i64 (gI s).1 from (E.d 1 8), show act.eval (.tmp 6) = .int .i64 (gI (gI s).2).1 from (E.d 3 6), show act.eval (.tmp 8) = .int .u64 ((rNum (gI (gI s).2).2).1 : Nat) from (E.d 5 4), show act.eval (.tmp 10) = .slice ao_lCe (gList gCe (rNum (gI (gI s).2).2).2).1.length cap_lCe from (E.d 7 2), show act.eval (.tmp 12) = .agg #[.int .i64 (gSig (gList gCe (rNum (gI (gI s).2).2).2).2).1.1, .int .i64 (gSig (gList gCe (rNum (gI (gI s).2).2).2).2).1.2] from (E.d 9 0)]; try rfl) (r := (gPm s).1.cells (Value.slice ao_lCe (gList gCe (rNum (gI (gI s).2).2).2).1.length cap_lCe)) (by exact laid_segs (ns := [1, 1, 1, 1, 2]) rfl [(0, .int .i64 (gI s).1), (1, .int .i64 (gI (gI s).2).1), (2, .int .u64 ((rNum (gI (gI s).2).2).1 : Nat)), (3, .slice ao_lCe (gList gCe (rNum (gI (gI s).2).2).2).1.length cap_lCe), (4, .agg #[.int .i64 (gSig (gList gCe (rNum (gI (gI s).2).2).2).2).1.1, .int .i64 (gSig (gList gCe (rNum (gI (gI s).2).2).2).2).1.2])] [[.int .i64 0], [.int .i64 0], [.int .u64 0], [.slice none 0 0], [.int .i64 0, .int .i64 0]] rfl ⟨rfl, rfl, rfl, rfl, rfl, trivial⟩)) ?_
  clear act E
  refine QSeq.go fun act E => ?_
  refine qc_store rfl (wanted_none rfl) rfl (HB2.out.mod Cx12.out (by intro h2; first | omega | (have hb := HBR.out _ h2; omega))) (off := 0) (vs := ((gPm s).1.cells (Value.slice ao_lCe (gList gCe (rNum (gI (gI s).2).2).2).1.length cap_lCe))) (by kernel_rfl) (by intro u hu; simp only [Pm.cells, List.mem_cons, List.not_mem_nil, or_false] at hu; rcases hu with rfl | rfl | rfl | rfl | rfl | rfl <;> rfl) (by simp) (E.v oe2) (by rw [show act.eval ((.tmp 13)) = _ from (E.d 10 0)]; rfl) ?_
  intro u1_11 qc0 hm
  have qB2 : Cs u1_11 (w.heap.size) (((gPm s).1.cells (Value.slice ao_lCe (gList gCe (rNum (gI (gI s).2).2).2).1.length cap_lCe)) : List Value).toArray 55 := by rw [show lay _ 0 _ = (((gPm s).1.cells (Value.slice ao_lCe (gList gCe (rNum (gI (gI s).2).2).2).1.length cap_lCe)) : List Value).toArray from lay_whole #[.int .i64 0, .int .i64 0, .int .u64 0, .slice none 0 0, .int .i64 0, .int .i64 0] _ rfl] at qc0; exact qc0
  clear qc0
  have Hx13 := hid qB2
  have zu1_11 := hm.size
  have HMu1_11 := hid hm
  have Cx14 := hid (Mod.goS (S' := (fun k => (R k) ∨ (k = w.heap.size))) Cx12.out hm (fun _ h => Or.inl h) (by intro k h0 h2; exact Or.inr (h2)))
  clear hm Cx12
  clear act E qB2 HB2
  have Hx15 := hid (Hx11.out.mod HMu1_11.out (by intro k h1 h2; have hb := HBR.out k h1; omega))
  have Hx16 := hid ((Hx8.out.mod HMu1_9.out (by intro k h1 h2; have hb := HBR.out k h2; omega)).mod HMu1_11.out (by intro k h1 h2; omega))
  clear Hx11 Hx8 HMu1_3 HMu1_5 HMu1_7 HMu1_9 HMu1_11
  refine QSeq.nil (t' := [_, _, _, _, _, _, _, _, _, _, _, _]) rfl ?_
  have ha0 := HA0.out
  subst ha0
  clear HA0 hsz0 oe0 oe2
  simp only [putAll, Act.put, List.setIfInBounds_toArray, List.set_cons_zero, List.set_cons_succ, List.set_nil]
  go_wp2
  exact bodyPost_ret (results_cellA rfl _ _ w.heap.size ((gPm s).1.cells (Value.slice ao_lCe (gList gCe (rNum (gI (gI s).2).2).2).1.length cap_lCe)) rfl (fun k u hu => by rw [Hx13.out.cell]; simpa using hu) Try.underlying55 rfl (by kernel_rfl)) rfl ⟨_, rfl, ⟨_, rfl, gPm_OK HBY.out, (Hx16.out.widen (R' := (fun k => New w u1_11 k)) (by intro k h1; omega))⟩, Hx15.out, (HM0.out.trans Cx14.out (by intro k h1 h2; rcases h2 with h2 | h2 <;> first | exact h2 | omega | (have hb := HBR.out k h2; omega)))⟩
set_option maxHeartbeats 4000000 in
theorem cList_Pm : GetsL PmR 125 123 85 gPm := by
  intro R r s w hR hB hl
  have HRD := Lib.hid hR
  have HBR := Lib.hid hB
  have HLN := Lib.hid hl
  clear hR hB hl
  go_enter Try.func123, Try.ntmps123
  go_upto_region 2 with (fail)
  have HM0 := hid (Mod.refl (fun k => (R k)) w)
  go_upto_region 2 with (fail)
  generalize ha0 : Act.mk _ _ = a0
  have oe0 : a0.eval (.tmp 0) = .pointer (some ⟨r, 0, none⟩) := by rw [← ha0]; rfl
  have hsz0 : a0.tmps.size = 21 := by rw [← ha0]; rfl
  have HA0 := hid ha0
  clear ha0
  refine wp_region_S 21 hsz0 [6, 7, 8] [0, 1, 2] ?_
  refine QSeq.pure rfl (.pointer (some ⟨r, 0, none⟩)) (fun E => ex_move rfl (E.v oe0)) ?_
  refine QSeq.go fun act E => ?_
  refine qc_callF (args := #[.pointer (some ⟨r, 0, none⟩), .int .i64 100]) rfl (wanted_none rfl) rfl Try.func115 (args2 (E.d 0 0) rfl) (RInt_R HRD.out (by decide)) ?_
  rintro e u2_1 ⟨rfl, qrd, hm⟩
  refine ⟨_, rfl, ?_⟩
  have Hx1 := hid qrd
  have zu2_1 := hm.size
  have Cx2 := hid (show Mod (fun k => (R k)) w u2_1 from hm)
  clear hm
  clear act E qrd HRD
  refine QSeq.pure rfl (.int .i64 0) (fun E => ex_move rfl rfl) ?_
  refine QSeq.nil (t' := [_, _, _]) rfl ?_
  have ha0 := HA0.out
  subst ha0
  clear HA0 hsz0 oe0
  simp only [putAll, Act.put, List.setIfInBounds_toArray, List.set_cons_zero, List.set_cons_succ]
  obtain ⟨n, hn⟩ : ∃ n, n = (rInt 100 s).1 := ⟨_, rfl⟩
  obtain ⟨s1, hs1⟩ : ∃ z, z = (rInt 100 s).2 := ⟨_, rfl⟩
  have hn100 : n ≤ 100 := by have := rInt_le 100 s; omega
  have HLS := hid (show (s1.getD []).length ≤ 900000 by rw [hs1]; exact Nat.le_trans ((rInt_suf 100).len s) HLN.out)
  have HGL := hid (show gList gPm s = gItems gPm n [] s1 by rw [hn, hs1]; rfl)
  rw [← hn]
  have hq := Hx1.out
  rw [← hs1] at hq
  have HR1 := Lib.hid hq
  clear hq hn hs1 HLN
  go_wp2
  go_loopw [5, 8] (fun ta ti wr => ∃ (k : Nat) (acc : List Pm) (st : RSt), ti = .int .i64 (k : Int) ∧ k ≤ n ∧ acc.length = k ∧ (st.getD []).length ≤ 900000 ∧ gItems gPm (n - k) acc st = gItems gPm n [] s1 ∧ u2_1.heap.size ≤ wr.heap.size ∧ OwS PmR 55 (fun b => w.heap.size ≤ b ∧ b < wr.heap.size) (fun b => w.heap.size ≤ b ∧ b < wr.heap.size) wr ta acc ∧ RrR 125 R wr r st ∧ Mod R w wr) (fun _ ti _ => n - (intOf ti).toNat)
  case atStart => exact ⟨0, [], s1, rfl, Nat.zero_le _, rfl, HLS.out, rfl, Nat.le_refl _, OwS.nil _ _ _ _ _, HR1.out, (HM0.out.trans Cx2.out (fun _ _ h => h))⟩
  case round =>
    obtain ⟨k, acc, st, rfl, hk, hka, hst, hg, hz, ha, hr, hm⟩ := hrel
    obtain ⟨wl, rfl⟩ : ∃ x, x = wr := ⟨_, rfl⟩
    obtain ⟨aol, capl, rfl⟩ := ha.shape
    have HAL := Lib.hid ha
    have HRL := Lib.hid hr
    have HML := Lib.hid hm
    have HST := Lib.hid hst
    have HG := Lib.hid hg
    have HKA := Lib.hid hka
    clear ha hr hm hst hg hka HR1 HM0
    by_cases hlt : k < n
    · skip
      go_upto_region 3 with (fail)
      generalize ha0 : Act.mk _ _ = a0
      have oe7 : a0.eval (.tmp 7) = .int .i64 ((n : Nat) : Int) := by rw [← ha0]; rfl
      have oe8 : a0.eval (.tmp 8) = .int .i64 ((k : Nat) : Int) := by rw [← ha0]; rfl
      have hsz0 : a0.tmps.size = 21 := by rw [← ha0]; rfl
      have HA0 := hid ha0
      clear ha0
      refine wp_region_S 21 hsz0 [9] [0] ?_
      refine QSeq.pure rfl (.bool true) (fun E => ex_binE rfl (E.v oe8) (E.v oe7) (guard_ints _ _ _ _ _ _) (run_lss_i _ _ _ Try.underlying3) (congrArg Value.bool (decide_eq_true (by omega)))) ?_
      refine QSeq.nil (t' := [_]) rfl ?_
      have ha0 := HA0.out
      subst ha0
      clear HA0 hsz0 oe7 oe8
      simp only [putAll, Act.put, List.setIfInBounds_toArray, List.set_cons_zero, List.set_cons_succ]
      obtain ⟨p, hp⟩ : ∃ p, p = gPm st := ⟨_, rfl⟩
      obtain ⟨x, st2⟩ := p
      have HP1 := hid (congrArg Prod.fst hp.symm)
      have HP2 := hid (congrArg Prod.snd hp.symm)
      clear hp
      dsimp only at HP1 HP2
      have HST2 := hid (show (st2.getD []).length ≤ 900000 by rw [← HP2.out]; exact Nat.le_trans (gPm_suf.len st) HST.out)
      have HGN := hid (show gItems gPm (n - k) acc st = if st2 = none then ([], none) else gItems gPm (n - (k + 1)) (acc ++ [x]) st2 by rw [show n - k = (n - (k + 1)) + 1 by omega]; show (if (gPm st).2 = none then _ else _) = _; rw [HP2.out, HP1.out])
      go_upto_region 4 with (fail)
      generalize ha0 : Act.mk _ _ = a0
      have oe0 : a0.eval (.tmp 0) = .pointer (some ⟨r, 0, none⟩) := by rw [← ha0]; rfl
      have oe1 : a0.eval (.tmp 1) = .func (.func 85) #[] #[] := by rw [← ha0]; rfl
      have oe5 : a0.eval (.tmp 5) = .slice aol acc.length capl := by rw [← ha0]; rfl
      have hsz0 : a0.tmps.size = 21 := by rw [← ha0]; rfl
      have HA0 := hid ha0
      clear ha0
      refine wp_region_S 21 hsz0 [10, 11, 12, 13, 14, 15, 5] [0, 1, 2, 3, 4, 5, 6] ?_
      refine QSeq.pure rfl (.slice aol acc.length capl) (fun E => ex_move rfl (E.y 6 oe5)) ?_
      refine QSeq.pure rfl (.func (.func 85) #[] #[]) (fun E => ex_move rfl (E.v oe1)) ?_
      refine QSeq.pure rfl (.pointer (some ⟨r, 0, none⟩)) (fun E => ex_move rfl (E.v oe0)) ?_
      refine QSeq.go fun act E => ?_
      have ea12 : act.eval (.tmp 12) = .pointer (some ⟨r, 0, none⟩) := (E.d 2 0)
      refine qc_call (args := #[.pointer (some ⟨r, 0, none⟩)]) rfl (wanted_none rfl) (by rw [ex_callV rfl (E.d 1 1) Try.func85 (by kernel_rfl) (by kernel_rfl)]; exact congrArg (fun z => Result.ok (Next.enter _ z) _) (by simp only [List.map_toArray, List.map_cons, List.map_nil, ea12]; try rfl)) ((cPm_G).to HP1.out HP2.out HRL.out (by intro k h1; have hb := HBR.out k h1; omega) HST.out) ?_
      rintro e u4_3 ⟨cs, rfl, qel, qrd, hm⟩
      refine ⟨_, rfl, ?_⟩
      have Hx3 := hid (qel.widen (R' := (fun k => (New wl u4_3 k))) (fun _ h => h))
      have Hx4 := hid qrd
      have zu4_3 := hm.size
      have Cx5 := hid (show Mod (fun k => (R k)) wl u4_3 from hm)
      clear hm
      clear act E qel qrd HRL ea12
      refine QSeq.go fun act E => ?_
      refine qc_buildS (e := 55) (cs := cs) (zc := [.int .i64 0, .int .i64 0, .int .u64 0, .slice none 0 0, .int .i64 0, .int .i64 0]) (sz := 6) rfl (wanted_none rfl) rfl Try.underlying56 (by kernel_rfl) rfl (by decide) (by decide) (E.d 3 0) (PmR.len Hx3.out) ?_
      intro u4_4 qrow hm
      have zl4_4 := qrow.lt
      have Hx6 := hid qrow
      have zu4_4 := hm.size
      have HMu4_4 := hid hm
      have Cx7 := hid (Cx5.out.goE hm)
      clear hm Cx5
      clear act E qrow
      refine QSeq.go fun act E => ?_
      refine qc_appS (A := PmR) (e := 55) rfl (wanted_none rfl) rfl (.agg #[.int .i64 0, .int .i64 0, .int .u64 0, .slice none 0 0, .int .i64 0, .int .i64 0]) 64 Try.underlying56 info_Pm (by rfl) (of_decide_eq_true (by kernel_rfl)) (E.d 0 4) (E.d 4 0) ((HAL.out.mod Cx7.out (by intro k h1 h2; have hb := HBR.out k h2; omega) (by intro k h1 h2; have hb := HBR.out k h2; omega))) (RdS.single (R := (fun k => (New wl u4_3 k) ∨ (k = u4_3.heap.size))) Hx6.out ((Hx3.out.mod HMu4_4.out (fun _ _ h => h)).widen (by intro k h1; first | omega | exact h1.elim | exact Or.inl h1 | exact Or.inr (h1))) (by first | exact Or.inr rfl | exact Or.inr (Or.inr rfl) | (right; omega))) (by intro k h1 h2; omega) (by rw [HKA.out]; simp only [List.length_cons, List.length_nil]; omega) (by rw [HKA.out]; simp only [List.length_cons, List.length_nil]; rw [maxLen_val]; omega) ?_
      intro ao4 cap4 u4_5 qout hm
      have Hx8 := hid (qout.widen (R' := (fun k => (New w wl k) ∨ (New u4_4 u4_5 k))) (E' := (fun k => (New w wl k) ∨ (New wl u4_3 k) ∨ (k = u4_3.heap.size))) (fun _ h => h) (by intro k h1; rcases h1 with h1 | (h1 | h1) <;> first | omega | exact h1.elim | exact Or.inl h1 | exact Or.inr (Or.inl h1) | exact Or.inr (Or.inr (h1))))
      have zu4_5 := hm.size
      have HMu4_5 := hid hm
      have Cx9 := hid (Mod.goS (S' := (fun k => (R k) ∨ (New w wl k))) Cx7.out hm (fun _ h => Or.inl h) (by intro k h0 h2; exact Or.inr (h2)))
      clear hm Cx7
      clear act E qout HAL
      refine QSeq.pure rfl (.slice ao4 (acc.length + 1) cap4) (fun E => ex_assign rfl (E.d 5 0)) ?_
      have Hx10 := hid ((Hx4.out.mod HMu4_4.out (fun _ _ h => h)).mod HMu4_5.out (by intro k h1 h2; have hb := HBR.out k h1; omega))
      have Hx11 := hid ((Hx3.out.mod HMu4_4.out (fun _ _ h => h)).mod HMu4_5.out (by intro k h1 h2; omega))
      have Hx12 := hid (Hx6.out.mod HMu4_5.out (by intro h2; omega))
      clear Hx4 Hx3 Hx6 HMu4_4 HMu4_5
      refine QSeq.nil (t' := [_, _, _, _, _, _, _]) rfl ?_
      have ha0 := HA0.out
      subst ha0
      clear HA0 hsz0 oe0 oe1 oe5
      simp only [putAll, Act.put, List.setIfInBounds_toArray, List.set_cons_zero, List.set_cons_succ]
      clear Hx11
      clear Hx12
      cases st2 with
      | none =>
        go_upto_region 5 with (fail)
        generalize ha0 : Act.mk _ _ = a0
        have oe0 : a0.eval (.tmp 0) = .pointer (some ⟨r, 0, none⟩) := by rw [← ha0]; rfl
        have hsz0 : a0.tmps.size = 21 := by rw [← ha0]; rfl
        have HA0 := hid ha0
        clear ha0
        refine wp_region_S 21 hsz0 [16, 17, 18] [0, 1, 2] ?_
        refine QSeq.pure rfl (.pointer (some ⟨r, 0, none⟩)) (fun E => ex_move rfl (E.v oe0)) ?_
        refine QSeq.go fun act E => ?_
        refine qc_callF (args := #[.pointer (some ⟨r, 0, none⟩)]) rfl (wanted_none rfl) rfl Try.func39 (args1 (E.d 0 0)) (OK_R Hx10.out) ?_
        rintro e w2 ⟨rfl, hw2⟩
        obtain rfl : u4_5 = w2 := by first | exact hw2 | exact hw2.symm
        refine ⟨_, rfl, ?_⟩
        clear act E
        refine QSeq.pure rfl (.bool true) (fun E => ex_not rfl (E.d 1 0)) ?_
        refine QSeq.nil (t' := [_, _, _]) rfl ?_
        have ha0 := HA0.out
        subst ha0
        clear HA0 hsz0 oe0
        simp only [putAll, Act.put, List.setIfInBounds_toArray, List.set_cons_zero, List.set_cons_succ]
        go_upto_region 6 with (fail)
        generalize ha0 : Act.mk _ _ = a0
        have hsz0 : a0.tmps.size = 21 := by rw [← ha0]; rfl
        have HA0 := hid ha0
        clear ha0
        refine wp_region_S 21 hsz0 [4] [0] ?_
        refine QSeq.pure rfl (.slice none 0 0) (fun E => ex_assign rfl rfl) ?_
        refine QSeq.nil (t' := [_]) rfl ?_
        have ha0 := HA0.out
        subst ha0
        clear HA0 hsz0
        simp only [putAll, Act.put, List.setIfInBounds_toArray, List.set_cons_zero, List.set_cons_succ]
        go_wp2
        go_ret
        have hq := HG.out
        rw [HGN.out, if_pos trivial] at hq
        have e := HGL.out
        rw [← hq] at e
        refine ⟨_, rfl, ?_, ?_, (HML.out.trans Cx9.out (by intro k h1 h2; rcases h2 with h2 | h2 <;> first | exact h2 | omega | (have hb := HBR.out k h2; omega)))⟩
        · rw [e]; exact RdS.nil _ _ _
        · rw [e]; exact Hx10.out
      | some l2 =>
        go_upto_region 5 with (fail)
        generalize ha0 : Act.mk _ _ = a0
        have oe0 : a0.eval (.tmp 0) = .pointer (some ⟨r, 0, none⟩) := by rw [← ha0]; rfl
        have hsz0 : a0.tmps.size = 21 := by rw [← ha0]; rfl
        have HA0 := hid ha0
        clear ha0
        refine wp_region_S 21 hsz0 [16, 17, 18] [0, 1, 2] ?_
        refine QSeq.pure rfl (.pointer (some ⟨r, 0, none⟩)) (fun E => ex_move rfl (E.v oe0)) ?_
        refine QSeq.go fun act E => ?_
        refine qc_callF (args := #[.pointer (some ⟨r, 0, none⟩)]) rfl (wanted_none rfl) rfl Try.func39 (args1 (E.d 0 0)) (OK_R Hx10.out) ?_
        rintro e w2 ⟨rfl, hw2⟩
        obtain rfl : u4_5 = w2 := by first | exact hw2 | exact hw2.symm
        refine ⟨_, rfl, ?_⟩
        clear act E
        refine QSeq.pure rfl (.bool false) (fun E => ex_not rfl (E.d 1 0)) ?_
        refine QSeq.nil (t' := [_, _, _]) rfl ?_
        have ha0 := HA0.out
        subst ha0
        clear HA0 hsz0 oe0
        simp only [putAll, Act.put, List.setIfInBounds_toArray, List.set_cons_zero, List.set_cons_succ]
        go_upto_region 7 with (fail)
        generalize ha0 : Act.mk _ _ = a0
        have oe8 : a0.eval (.tmp 8) = .int .i64 ((k : Nat) : Int) := by rw [← ha0]; rfl
        have hsz0 : a0.tmps.size = 21 := by rw [← ha0]; rfl
        have HA0 := hid ha0
        clear ha0
        refine wp_region_S 21 hsz0 [19, 8] [0, 1] ?_
        refine QSeq.pure rfl (.int .i64 (((k : Nat) : Int) + 1)) (fun E => ex_binE rfl (E.y 1 oe8) rfl (guard_ints _ _ _ _ _ _) (run_add_i _ _ Try.underlying3) (congrArg (Value.int .i64) (IntWalk.i64_in _ (by omega)))) ?_
        refine QSeq.pure rfl (.int .i64 (((k : Nat) : Int) + 1)) (fun E => ex_move rfl (E.d 0 0)) ?_
        refine QSeq.nil (t' := [_, _]) rfl ?_
        have ha0 := HA0.out
        subst ha0
        clear HA0 hsz0 oe8
        simp only [putAll, Act.put, List.setIfInBounds_toArray, List.set_cons_zero, List.set_cons_succ]
        go_wp2
        go_roundw
        case rel => exact ⟨k + 1, acc ++ [x], some l2, by go_num, by omega, by rw [List.length_append, HKA.out]; rfl, HST2.out, (by have hq := HG.out; rw [HGN.out, if_neg (by simp)] at hq; exact hq), by omega, (Hx8.out.widen (by intro b h1; omega) (by intro b h1; rcases h1 with h1 | h1 | h1 <;> first | omega | exact h1.elim)), Hx10.out, (HML.out.trans Cx9.out (by intro k h1 h2; rcases h2 with h2 | h2 <;> first | exact h2 | omega | (have hb := HBR.out k h2; omega)))⟩
        case measure => simp [intOf] <;> omega
    · obtain rfl : n = k := by omega
      go_upto_region 3 with (fail)
      generalize ha0 : Act.mk _ _ = a0
      have oe7 : a0.eval (.tmp 7) = .int .i64 ((n : Nat) : Int) := by rw [← ha0]; rfl
      have oe8 : a0.eval (.tmp 8) = .int .i64 ((n : Nat) : Int) := by rw [← ha0]; rfl
      have hsz0 : a0.tmps.size = 21 := by rw [← ha0]; rfl
      have HA0 := hid ha0
      clear ha0
      refine wp_region_S 21 hsz0 [9] [0] ?_
      refine QSeq.pure rfl (.bool false) (fun E => ex_binE rfl (E.v oe8) (E.v oe7) (guard_ints _ _ _ _ _ _) (run_lss_i _ _ _ Try.underlying3) (congrArg Value.bool (decide_eq_false (by omega)))) ?_
      refine QSeq.nil (t' := [_]) rfl ?_
      have ha0 := HA0.out
      subst ha0
      clear HA0 hsz0 oe7 oe8
      simp only [putAll, Act.put, List.setIfInBounds_toArray, List.set_cons_zero, List.set_cons_succ]
      go_upto_region 8 with (fail)
      generalize ha0 : Act.mk _ _ = a0
      have oe5 : a0.eval (.tmp 5) = .slice aol acc.length capl := by rw [← ha0]; rfl
      have hsz0 : a0.tmps.size = 21 := by rw [← ha0]; rfl
      have HA0 := hid ha0
      clear ha0
      refine wp_region_S 21 hsz0 [20, 4] [0, 1] ?_
      refine QSeq.pure rfl (.slice aol acc.length capl) (fun E => ex_move rfl (E.v oe5)) ?_
      refine QSeq.pure rfl (.slice aol acc.length capl) (fun E => ex_assign rfl (E.d 0 0)) ?_
      refine QSeq.nil (t' := [_, _]) rfl ?_
      have ha0 := HA0.out
      subst ha0
      clear HA0 hsz0 oe5
      simp only [putAll, Act.put, List.setIfInBounds_toArray, List.set_cons_zero, List.set_cons_succ]
      go_wp2
      go_ret
      have hq := HG.out
      rw [Nat.sub_self] at hq
      have e := HGL.out
      rw [← hq] at e
      refine ⟨_, rfl, ?_, ?_, HML.out⟩
      · rw [e]; exact HAL.out.rd.widen (by intro b h1; (try dsimp only at h1 ⊢); omega)
      · rw [e]; exact HRL.out
set_option maxHeartbeats 4000000 in
theorem cBa_G : Gets BaR 125 90 gBa := by
  intro R r s w hR hB hl
  have HRD := Lib.hid hR
  have HBR := Lib.hid hB
  have HBY := hid hR.bytes
  clear hR hB
  have HLN := Lib.hid hl
  clear hl
  go_enter Try.func90, Try.ntmps90
  go_upto_region 1 with (fail)
  obtain ⟨w1, hw1⟩ : ∃ zz, zz = (w.alloc (.cells #[.int .i64 0, .int .u64 0, .slice none 0 0, .slice none 0 0, .slice none 0 0] 60)) := ⟨_, rfl⟩
  change Code.wp _ _ _ _ (w.alloc (.cells #[.int .i64 0, .int .u64 0, .slice none 0 0, .slice none 0 0, .slice none 0 0] 60))
  rw [← hw1]
  have HB2 := hid (show Cs w1 (w.heap.size) #[.int .i64 0, .int .u64 0, .slice none 0 0, .slice none 0 0, .slice none 0 0] 60 by rw [hw1]; exact Cs.new _ _ _)
  have hm : Mod (fun _ => False) w w1 := by rw [hw1]; exact (Mod.refl _ _).alloc _
  have HM0 := hid (show Mod (fun k => (R k)) w w1 from hm.mono (fun _ _ h => h.elim))
  have hs1 : w1.heap.size = w.heap.size + 1 := by rw [hw1]; simp
  have Hx1 := hid (HRD.out.mod hm (fun _ _ h => h))
  clear HRD
  clear hw1 hm
  go_upto_region 1 with (fail)
  generalize ha0 : Act.mk _ _ = a0
  have oe0 : a0.eval (.tmp 0) = .pointer (some ⟨r, 0, none⟩) := by rw [← ha0]; rfl
  have oe2 : a0.eval (.tmp 2) = .pointer (some ⟨w.heap.size, 0, none⟩) := by rw [← ha0]; rfl
  have hsz0 : a0.tmps.size = 14 := by rw [← ha0]; rfl
  have HA0 := hid ha0
  clear ha0
  refine wp_region_S 14 hsz0 [3, 4, 5, 6, 7, 8, 9, 10, 11, 12, 13, 25] [0, 1, 2, 3, 4, 5, 6, 7, 8, 9, 10, 11] ?_
  refine QSeq.pure rfl (.pointer (some ⟨r, 0, none⟩)) (fun E => ex_move rfl (E.v oe0)) ?_
  refine QSeq.go fun act E => ?_
  refine qc_callF (args := #[.pointer (some ⟨r, 0, none⟩), .int .i64 1099511627776]) rfl (wanted_none rfl) rfl Try.func115 (args2 (E.d 0 0) rfl) (cI_Q Hx1.out) ?_
  rintro e u1_1 ⟨rfl, qrd, hm⟩
  refine ⟨_, rfl, ?_⟩
  have Hx2 := hid qrd
  have zu1_1 := hm.size
  have Cx3 := hid (show Mod (fun k => (R k)) w1 u1_1 from hm)
  clear hm
  clear act E qrd Hx1
  refine QSeq.pure rfl (.pointer (some ⟨r, 0, none⟩)) (fun E => ex_move rfl (E.v oe0)) ?_
  refine QSeq.go fun act E => ?_
  refine qc_callF (args := #[.pointer (some ⟨r, 0, none⟩)]) rfl (wanted_none rfl) rfl Try.func116 (args1 (E.d 2 0)) (RNum_R Hx2.out) ?_
  rintro e u1_3 ⟨rfl, qrd, hm⟩
  refine ⟨_, rfl, ?_⟩
  have Hx4 := hid qrd
  have zu1_3 := hm.size
  have HMu1_3 := hid hm
  have Cx5 := hid (Mod.goS (S' := (fun k => (R k))) Cx3.out hm (fun _ h => h) (by intro k h0 h2; exact h2))
  clear hm Cx3
  clear act E qrd Hx2
  refine QSeq.pure rfl (.pointer (some ⟨r, 0, none⟩)) (fun E => ex_move rfl (E.v oe0)) ?_
  refine QSeq.go fun act E => ?_
  refine qc_callF (args := #[.pointer (some ⟨r, 0, none⟩), .func (.func 85) #[] #[]]) rfl (wanted_none rfl) rfl Try.func123 (args2 (E.d 4 0) rfl) (cList_Pm _ _ _ _ Hx4.out (by intro k h1; have hb := HBR.out k h1; omega) (Nat.le_trans (rNum_suf.len _) (Nat.le_trans (gI_suf.len _) HLN.out))) ?_
  rintro e u1_5 ⟨vlPm, rfl, qlPm, qrd, hm⟩
  obtain ⟨ao_lPm, cap_lPm, rfl⟩ := qlPm.shape
  refine ⟨_, rfl, ?_⟩
  have Hx6 := hid (qlPm.widen (R' := (fun k => (New u1_3 u1_5 k))) (fun _ h => h))
  have Hx7 := hid qrd
  have zu1_5 := hm.size
  have HMu1_5 := hid hm
  have Cx8 := hid (Mod.goS (S' := (fun k => (R k))) Cx5.out hm (fun _ h => h) (by intro k h0 h2; exact h2))
  clear hm Cx5
  clear act E qlPm qrd Hx4
  refine QSeq.pure rfl (.pointer (some ⟨r, 0, none⟩)) (fun E => ex_move rfl (E.v oe0)) ?_
  refine QSeq.go fun act E => ?_
  refine qc_callF (args := #[.pointer (some ⟨r, 0, none⟩), .func (.func 125) #[] #[]]) rfl (wanted_none rfl) rfl Try.func124 (args2 (E.d 6 0) rfl) (cList_Op _ _ _ _ Hx7.out (by intro k h1; have hb := HBR.out k h1; omega) (Nat.le_trans ((gList_suf gPm_suf).len _) (Nat.le_trans (rNum_suf.len _) (Nat.le_trans (gI_suf.len _) HLN.out)))) ?_
  rintro e u1_7 ⟨vlOp, rfl, qlOp, qrd, hm⟩
  obtain ⟨ao_lOp, cap_lOp, rfl⟩ := qlOp.shape
  refine ⟨_, rfl, ?_⟩
  have Hx9 := hid (qlOp.widen (R' := (fun k => (New u1_5 u1_7 k))) (fun _ h => h))
  have Hx10 := hid qrd
  have zu1_7 := hm.size
  have HMu1_7 := hid hm
  have Cx11 := hid (Mod.goS (S' := (fun k => (R k))) Cx8.out hm (fun _ h => h) (by intro k h0 h2; exact h2))
  clear hm Cx8
  clear act E qlOp qrd Hx7
  refine QSeq.pure rfl (.pointer (some ⟨r, 0, none⟩)) (fun E => ex_move rfl (E.v oe0)) ?_
  refine QSeq.go fun act E => ?_
  refine qc_callF (args := #[.pointer (some ⟨r, 0, none⟩), .func (.func 127) #[] #[]]) rfl (wanted_none rfl) rfl Try.func126 (args2 (E.d 8 0) rfl) (cList_Tb _ _ _ _ Hx10.out (by intro k h1; have hb := HBR.out k h1; omega) (Nat.le_trans ((gList_suf gOp_suf).len _) (Nat.le_trans ((gList_suf gPm_suf).len _) (Nat.le_trans (rNum_suf.len _) (Nat.le_trans (gI_suf.len _) HLN.out))))) ?_
  rintro e u1_9 ⟨vlTb, rfl, qlTb, qrd, hm⟩
  obtain ⟨ao_lTb, cap_lTb, rfl⟩ := qlTb.shape
  refine ⟨_, rfl, ?_⟩
  have Hx12 := hid (qlTb.widen (R' := (fun k => (New u1_7 u1_9 k))) (fun _ h => h))
  have Hx13 := hid qrd
  have zu1_9 := hm.size
  have HMu1_9 := hid hm
  have Cx14 := hid (Mod.goS (S' := (fun k => (R k))) Cx11.out hm (fun _ h => h) (by intro k h0 h2; exact h2))
  clear hm Cx11
  clear act E qlTb qrd Hx10
  refine QSeq.go fun act E => ?_
  refine qc_run rfl (wanted_none rfl) (v := .agg ((gBa s).1.cells (Value.slice ao_lPm (gList gPm (rNum (gI s).2).2).1.length cap_lPm) (Value.slice ao_lOp (gList gOp (gList gPm (rNum (gI s).2).2).2).1.length cap_lOp) (Value.slice ao_lTb (gList gTb (gList gOp (gList gPm (rNum (gI s).2).2).2).2).1.length cap_lTb) : List Value).toArray) (ex_build rfl (z := [.int .i64 0, .int .u64 0, .slice none 0 0, .slice none 0 0, .slice none 0 0]) (places := [(0, 1), (1, 1), (2, 1), (3, 1), (4, 1)]) (by kernel_rfl) (parts := [(0, .int .i64 (gI s).1), (1, .int .u64 ((rNum (gI s).2).1 : Nat)), (2, .slice ao_lPm (gList gPm (rNum (gI s).2).2).1.length cap_lPm), (3, .slice ao_lOp (gList gOp (gList gPm (rNum (gI s).2).2).2).1.length cap_lOp), (4, .slice ao_lTb (gList gTb (gList gOp (gList gPm (rNum (gI s).2).2).2).2).1.length cap_lTb)]) (by simp only [List.map_toArray, List.map_cons, List.map_nil, show act.eval (.tmp 4) = .int .i64 (gI s).1 from (E.d 1 8), show act.eval (.tmp 6) = .int .u64 ((rNum (gI s).2).1 : Nat) from (E.d 3 6), show act.eval (.tmp 8) = .slice ao_lPm (gList gPm (rNum (gI s).2).2).1.length cap_lPm from (E.d 5 4), show act.eval (.tmp 10) = .slice ao_lOp (gList gOp (gList gPm (rNum (gI s).2).2).2).1.length cap_lOp from (E.d 7 2), show act.eval (.tmp 12) = .slice ao_lTb (gList gTb (gList gOp (gList gPm (rNum (gI s).2).2).2).2).1.length cap_lTb from (E.d 9 0)]; try rfl) (r := (gBa s).1.cells (Value.slice ao_lPm (gList gPm (rNum (gI s).2).2).1.length cap_lPm) (Value.slice ao_lOp (gList gOp (gList gPm (rNum (gI s).2).2).2).1.length cap_lOp) (Value.slice ao_lTb (gList gTb (gList gOp (gList gPm (rNum (gI s).2).2).2).2).1.length cap_lTb)) (by exact laid_segs (ns := [1, 1, 1, 1, 1]) rfl [(0, .int .i64 (gI s).1), (1, .int .u64 ((rNum (gI s).2).1 : Nat)), (2, .slice ao_lPm (gList gPm (rNum (gI s).2).2).1.length cap_lPm), (3, .slice ao_lOp (gList gOp (gList gPm (rNum (gI s).2).2).2).1.length cap_lOp), (4, .slice ao_lTb (gList gTb (gList gOp (gList gPm (rNum (gI s).2).2).2).2).1.length cap_lTb)] [[.int .i64 0], [.int .u64 0], [.slice none 0 0], [.slice none 0 0], [.slice none 0 0]] rfl ⟨rfl, rfl, rfl, rfl, rfl, trivial⟩)) ?_
  clear act E
  refine QSeq.go fun act E => ?_
  refine qc_store rfl (wanted_none rfl) rfl (HB2.out.mod Cx14.out (by intro h2; first | omega | (have hb := HBR.out _ h2; omega))) (off := 0) (vs := ((gBa s).1.cells (Value.slice ao_lPm (gList gPm (rNum (gI s).2).2).1.length cap_lPm) (Value.slice ao_lOp (gList gOp (gList gPm (rNum (gI s).2).2).2).1.length cap_lOp) (Value.slice ao_lTb (gList gTb (gList gOp (gList gPm (rNum (gI s).2).2).2).2).1.length cap_lTb))) (by kernel_rfl) (by intro u hu; simp only [Ba.cells, List.mem_cons, List.not_mem_nil, or_false] at hu; rcases hu with rfl | rfl | rfl | rfl | rfl <;> rfl) (by simp) (E.v oe2) (by rw [show act.eval ((.tmp 13)) = _ from (E.d 10 0)]; rfl) ?_
  intro u1_11 qc0 hm
  have qB2 : Cs u1_11 (w.heap.size) (((gBa s).1.cells (Value.slice ao_lPm (gList gPm (rNum (gI s).2).2).1.length cap_lPm) (Value.slice ao_lOp (gList gOp (gList gPm (rNum (gI s).2).2).2).1.length cap_lOp) (Value.slice ao_lTb (gList gTb (gList gOp (gList gPm (rNum (gI s).2).2).2).2).1.length cap_lTb)) : List Value).toArray 60 := by rw [show lay _ 0 _ = (((gBa s).1.cells (Value.slice ao_lPm (gList gPm (rNum (gI s).2).2).1.length cap_lPm) (Value.slice ao_lOp (gList gOp (gList gPm (rNum (gI s).2).2).2).1.length cap_lOp) (Value.slice ao_lTb (gList gTb (gList gOp (gList gPm (rNum (gI s).2).2).2).2).1.length cap_lTb)) : List Value).toArray from lay_whole #[.int .i64 0, .int .u64 0, .slice none 0 0, .slice none 0 0, .slice none 0 0] _ rfl] at qc0; exact qc0
  clear qc0
  have Hx15 := hid qB2
  have zu1_11 := hm.size
  have HMu1_11 := hid hm
  have Cx16 := hid (Mod.goS (S' := (fun k => (R k) ∨ (k = w.heap.size))) Cx14.out hm (fun _ h => Or.inl h) (by intro k h0 h2; exact Or.inr (h2)))
  clear hm Cx14
  clear act E qB2 HB2
  have Hx17 := hid (Hx13.out.mod HMu1_11.out (by intro k h1 h2; have hb := HBR.out k h1; omega))
  have Hx18 := hid (((Hx6.out.mod HMu1_7.out (by intro k h1 h2; have hb := HBR.out k h2; omega)).mod HMu1_9.out (by intro k h1 h2; have hb := HBR.out k h2; omega)).mod HMu1_11.out (by intro k h1 h2; omega))
  have Hx19 := hid ((Hx9.out.mod HMu1_9.out (by intro k h1 h2; have hb := HBR.out k h2; omega)).mod HMu1_11.out (by intro k h1 h2; omega))
  have Hx20 := hid (Hx12.out.mod HMu1_11.out (by intro k h1 h2; omega))
  clear Hx13 Hx6 Hx9 Hx12 HMu1_3 HMu1_5 HMu1_7 HMu1_9 HMu1_11
  refine QSeq.nil (t' := [_, _, _, _, _, _, _, _, _, _, _, _]) rfl ?_
  have ha0 := HA0.out
  subst ha0
  clear HA0 hsz0 oe0 oe2
  simp only [putAll, Act.put, List.setIfInBounds_toArray, List.set_cons_zero, List.set_cons_succ, List.set_nil]
  go_wp2
  exact bodyPost_ret (results_cellA rfl _ _ w.heap.size ((gBa s).1.cells (Value.slice ao_lPm (gList gPm (rNum (gI s).2).2).1.length cap_lPm) (Value.slice ao_lOp (gList gOp (gList gPm (rNum (gI s).2).2).2).1.length cap_lOp) (Value.slice ao_lTb (gList gTb (gList gOp (gList gPm (rNum (gI s).2).2).2).2).1.length cap_lTb)) rfl (fun k u hu => by rw [Hx15.out.cell]; simpa using hu) Try.underlying60 rfl (by kernel_rfl)) rfl ⟨_, rfl, ⟨_, _, _, rfl, gBa_OK HBY.out, (Hx18.out.widen (R' := (fun k => New w u1_11 k)) (by intro k h1; omega)), (Hx19.out.widen (R' := (fun k => New w u1_11 k)) (by intro k h1; omega)), (Hx20.out.widen (R' := (fun k => New w u1_11 k)) (by intro k h1; omega))⟩, Hx17.out, (HM0.out.trans Cx16.out (by intro k h1 h2; rcases h2 with h2 | h2 <;> first | exact h2 | omega | (have hb := HBR.out k h2; omega)))⟩
end Go.Proofs.Ytknpapcfhnhheaa

/- Whole parts of messages, read (package wire). -/
set_option maxRecDepth 100000
set_option linter.unusedVariables false
namespace Go.Proofs.Ytknpapcfhnhheaa
open Go Go.RowKit Go.Gv


def gW {α : Type} (z : α) (g : RSt → α × RSt) (s : RSt) : α × RSt := (if (g s).2.isSome then (g s).1 else z, (g s).2)
def zCe : Ce := ⟨⟨0, 0, List.replicate 32 0, 0, 0, 0⟩, []⟩
def zPm : Pm := ⟨0, 0, 0, [], 0, 0⟩
def zBa : Ba := ⟨0, 0, [], [], []⟩
theorem HK_zero : HK (List.replicate 32 0) := by
  refine ⟨by simp, ?_⟩
  intro x hx
  simp at hx
  subst hx
  decide
theorem I64_0 : I64 0 := by unfold I64; decide
theorem U64_0 : 0 < U64 := by unfold U64; decide
theorem zCe_OK : zCe.OK := ⟨⟨I64_0, I64_0, I64_0, I64_0, I64_0⟩, HK_zero⟩
theorem zPm_OK : zPm.OK := ⟨I64_0, I64_0, U64_0, I64_0, I64_0⟩
theorem zBa_OK : zBa.OK := ⟨I64_0, U64_0⟩
theorem zCe_rd (R : Nat → Prop) (w : World) : CeR.rd R w (zCe.cells (.slice none 0 0)) zCe := ⟨_, rfl, zCe_OK, RdS.nil _ _ _⟩
theorem zPm_rd (R : Nat → Prop) (w : World) : PmR.rd R w (zPm.cells (.slice none 0 0)) zPm := ⟨_, rfl, zPm_OK, RdS.nil _ _ _⟩
theorem zBa_rd (R : Nat → Prop) (w : World) : BaR.rd R w (zBa.cells (.slice none 0 0) (.slice none 0 0) (.slice none 0 0)) zBa := ⟨_, _, _, rfl, zBa_OK, RdS.nil _ _ _, RdS.nil _ _ _, RdS.nil _ _ _⟩
set_option maxHeartbeats 4000000 in
theorem whole_Ce : ∀ (R R2 : Nat → Prop) (r : Nat) (s : RSt) (cs : List Value) (x : Ce) (w : World), RrR 125 R w r s → (∀ k, R k → k < w.heap.size) → CeR.rd R2 w cs x → (∀ k, R2 k → k < w.heap.size) →
    Calls Try.prog 80 #[.pointer (some ⟨r, 0, none⟩), .agg cs.toArray] w fun e w' => ∃ cs', e = .returned (.agg cs'.toArray) ∧ CeR.rd R2 w' cs' (if s.isSome then x else zCe) ∧ Mod (fun _ => False) w w' := by
  intro R R2 r s cs x w hR hB hx hB2
  have hcl : cs.length = 38 := CeR.len hx
  have HCL := Lib.hid hcl
  have HOC := hid (CeR.one hx)
  have HRD := Lib.hid hR
  have HBR := Lib.hid hB
  have HX := Lib.hid hx
  have HBT := Lib.hid hB2
  clear hR hB hx hB2 hcl
  go_enter Try.func80, Try.ntmps80
  go_upto_region 1 with (fail)
  obtain ⟨w1, hw1⟩ : ∃ zz, zz = ((w.alloc (.cells (cs : List Value).toArray 52)).alloc (.cells #[.int .i64 0, .int .i64 0, .int .u8 0, .int .u8 0, .int .u8 0, .int .u8 0, .int .u8 0, .int .u8 0, .int .u8 0, .int .u8 0, .int .u8 0, .int .u8 0, .int .u8 0, .int .u8 0, .int .u8 0, .int .u8 0, .int .u8 0, .int .u8 0, .int .u8 0, .int .u8 0, .int .u8 0, .int .u8 0, .int .u8 0, .int .u8 0, .int .u8 0, .int .u8 0, .int .u8 0, .int .u8 0, .int .u8 0, .int .u8 0, .int .u8 0, .int .u8 0, .int .u8 0, .int .u8 0, .int .i64 0, .int .i64 0, .int .i64 0, .slice none 0 0] 52)) := ⟨_, rfl⟩
  change Code.wp _ _ _ _ ((w.alloc (.cells (cs : List Value).toArray 52)).alloc (.cells #[.int .i64 0, .int .i64 0, .int .u8 0, .int .u8 0, .int .u8 0, .int .u8 0, .int .u8 0, .int .u8 0, .int .u8 0, .int .u8 0, .int .u8 0, .int .u8 0, .int .u8 0, .int .u8 0, .int .u8 0, .int .u8 0, .int .u8 0, .int .u8 0, .int .u8 0, .int .u8 0, .int .u8 0, .int .u8 0, .int .u8 0, .int .u8 0, .int .u8 0, .int .u8 0, .int .u8 0, .int .u8 0, .int .u8 0, .int .u8 0, .int .u8 0, .int .u8 0, .int .u8 0, .int .u8 0, .int .i64 0, .int .i64 0, .int .i64 0, .slice none 0 0] 52))
  rw [← hw1]
  have HB3 := hid (show Cs w1 (w.heap.size) (cs : List Value).toArray 52 by rw [hw1]; exact (Cs.new _ _ _).alloc _)
  have HB4 := hid (show Cs w1 (w.heap.size + 1) #[.int .i64 0, .int .i64 0, .int .u8 0, .int .u8 0, .int .u8 0, .int .u8 0, .int .u8 0, .int .u8 0, .int .u8 0, .int .u8 0, .int .u8 0, .int .u8 0, .int .u8 0, .int .u8 0, .int .u8 0, .int .u8 0, .int .u8 0, .int .u8 0, .int .u8 0, .int .u8 0, .int .u8 0, .int .u8 0, .int .u8 0, .int .u8 0, .int .u8 0, .int .u8 0, .int .u8 0, .int .u8 0, .int .u8 0, .int .u8 0, .int .u8 0, .int .u8 0, .int .u8 0, .int .u8 0, .int .i64 0, .int .i64 0, .int .i64 0, .slice none 0 0] 52 by rw [hw1]; exact Cs_newN _ _ _ (by simp))
  have hm : Mod (fun _ => False) w w1 := by rw [hw1]; exact ((Mod.refl _ _).alloc _).alloc _
  have HM0 := hid (show Mod (fun _ => False) w w1 from hm.mono (fun _ _ h => h.elim))
  have hs1 : w1.heap.size = w.heap.size + 2 := by rw [hw1]; simp
  have Hx1 := hid (HRD.out.mod hm (fun _ _ h => h))
  clear HRD
  have Hx2 := hid (HX.out.mod hm (fun _ _ h => h))
  clear HX
  clear hw1 hm
  go_upto_region 1 with (fail)
  generalize ha0 : Act.mk _ _ = a0
  have hsz0 : a0.tmps.size = 11 := by rw [← ha0]; rfl
  have HA0 := hid ha0
  clear ha0
  refine wp_region_S 11 hsz0 [5] [0] ?_
  refine QSeq.go fun act E => ?_
  refine qc_alloc rfl (wanted_none rfl) rfl (z := [.int .i64 0, .int .i64 0, .int .u8 0, .int .u8 0, .int .u8 0, .int .u8 0, .int .u8 0, .int .u8 0, .int .u8 0, .int .u8 0, .int .u8 0, .int .u8 0, .int .u8 0, .int .u8 0, .int .u8 0, .int .u8 0, .int .u8 0, .int .u8 0, .int .u8 0, .int .u8 0, .int .u8 0, .int .u8 0, .int .u8 0, .int .u8 0, .int .u8 0, .int .u8 0, .int .u8 0, .int .u8 0, .int .u8 0, .int .u8 0, .int .u8 0, .int .u8 0, .int .u8 0, .int .u8 0, .int .i64 0, .int .i64 0, .int .i64 0, .slice none 0 0]) (by kernel_rfl) ?_
  intro u1_0 qB5 hm
  have zl1_0 := qB5.lt
  have Hx3 := hid qB5
  have zu1_0 := hm.size
  have Cx4 := hid (show Mod (fun _ => False) w1 u1_0 from hm)
  clear hm
  clear act E qB5
  refine QSeq.nil (t' := [_]) rfl ?_
  have ha0 := HA0.out
  subst ha0
  clear HA0 hsz0
  simp only [putAll, Act.put, List.setIfInBounds_toArray, List.set_cons_zero, List.set_cons_succ]
  cases s with
  | none =>
    go_upto_region 2 with (fail)
    generalize ha0 : Act.mk _ _ = a0
    have oe0 : a0.eval (.tmp 0) = .pointer (some ⟨r, 0, none⟩) := by rw [← ha0]; rfl
    have hsz0 : a0.tmps.size = 11 := by rw [← ha0]; rfl
    have HA0 := hid ha0
    clear ha0
    refine wp_region_S 11 hsz0 [6, 7, 8] [0, 1, 2] ?_
    refine QSeq.pure rfl (.pointer (some ⟨r, 0, none⟩)) (fun E => ex_move rfl (E.v oe0)) ?_
    refine QSeq.go fun act E => ?_
    refine qc_callF (args := #[.pointer (some ⟨r, 0, none⟩)]) rfl (wanted_none rfl) rfl Try.func39 (args1 (E.d 0 0)) (OK_R (Hx1.out.mod Cx4.out (fun _ _ h => h))) ?_
    rintro e w2 ⟨rfl, hw2⟩
    obtain rfl : u1_0 = w2 := by first | exact hw2 | exact hw2.symm
    refine ⟨_, rfl, ?_⟩
    clear act E
    refine QSeq.pure rfl (.bool true) (fun E => ex_not rfl (E.d 1 0)) ?_
    refine QSeq.nil (t' := [_, _, _]) rfl ?_
    have ha0 := HA0.out
    subst ha0
    clear HA0 hsz0 oe0
    simp only [putAll, Act.put, List.setIfInBounds_toArray, List.set_cons_zero, List.set_cons_succ]
    go_upto_region 3 with (fail)
    generalize ha0 : Act.mk _ _ = a0
    have oe4 : a0.eval (.tmp 4) = .pointer (some ⟨w.heap.size + 1, 0, none⟩) := by rw [← ha0]; rfl
    have oe5 : a0.eval (.tmp 5) = .pointer (some ⟨w1.heap.size, 0, none⟩) := by rw [← ha0]; rfl
    have hsz0 : a0.tmps.size = 11 := by rw [← ha0]; rfl
    have HA0 := hid ha0
    clear ha0
    refine wp_region_S 11 hsz0 [9, 12] [0, 1] ?_
    refine QSeq.pure rfl (.agg #[.int .i64 0, .int .i64 0, .int .u8 0, .int .u8 0, .int .u8 0, .int .u8 0, .int .u8 0, .int .u8 0, .int .u8 0, .int .u8 0, .int .u8 0, .int .u8 0, .int .u8 0, .int .u8 0, .int .u8 0, .int .u8 0, .int .u8 0, .int .u8 0, .int .u8 0, .int .u8 0, .int .u8 0, .int .u8 0, .int .u8 0, .int .u8 0, .int .u8 0, .int .u8 0, .int .u8 0, .int .u8 0, .int .u8 0, .int .u8 0, .int .u8 0, .int .u8 0, .int .u8 0, .int .u8 0, .int .i64 0, .int .i64 0, .int .i64 0, .slice none 0 0]) (fun E => ex_loadA rfl Try.underlying52 rfl (off := 0) (cs := [.int .i64 0, .int .i64 0, .int .u8 0, .int .u8 0, .int .u8 0, .int .u8 0, .int .u8 0, .int .u8 0, .int .u8 0, .int .u8 0, .int .u8 0, .int .u8 0, .int .u8 0, .int .u8 0, .int .u8 0, .int .u8 0, .int .u8 0, .int .u8 0, .int .u8 0, .int .u8 0, .int .u8 0, .int .u8 0, .int .u8 0, .int .u8 0, .int .u8 0, .int .u8 0, .int .u8 0, .int .u8 0, .int .u8 0, .int .u8 0, .int .u8 0, .int .u8 0, .int .u8 0, .int .u8 0, .int .i64 0, .int .i64 0, .int .i64 0, .slice none 0 0]) (by kernel_rfl) (E.v oe5) (Cs.whole Hx3.out)) ?_
    refine QSeq.go fun act E => ?_
    refine qc_store rfl (wanted_none rfl) rfl (HB4.out.mod Cx4.out (fun h => h)) (off := 0) (vs := [.int .i64 0, .int .i64 0, .int .u8 0, .int .u8 0, .int .u8 0, .int .u8 0, .int .u8 0, .int .u8 0, .int .u8 0, .int .u8 0, .int .u8 0, .int .u8 0, .int .u8 0, .int .u8 0, .int .u8 0, .int .u8 0, .int .u8 0, .int .u8 0, .int .u8 0, .int .u8 0, .int .u8 0, .int .u8 0, .int .u8 0, .int .u8 0, .int .u8 0, .int .u8 0, .int .u8 0, .int .u8 0, .int .u8 0, .int .u8 0, .int .u8 0, .int .u8 0, .int .u8 0, .int .u8 0, .int .i64 0, .int .i64 0, .int .i64 0, .slice none 0 0]) (by kernel_rfl) (CeR.one (zCe_rd (fun _ => False) w)) (by show 38 ≤ 38; exact Nat.le_refl _) (E.v oe4) (by rw [show act.eval ((.tmp 9)) = _ from (E.d 0 0)]; rfl) ?_
    intro u3_1 qc0 hm
    have qB4 : Cs u3_1 (w.heap.size + 1) #[.int .i64 0, .int .i64 0, .int .u8 0, .int .u8 0, .int .u8 0, .int .u8 0, .int .u8 0, .int .u8 0, .int .u8 0, .int .u8 0, .int .u8 0, .int .u8 0, .int .u8 0, .int .u8 0, .int .u8 0, .int .u8 0, .int .u8 0, .int .u8 0, .int .u8 0, .int .u8 0, .int .u8 0, .int .u8 0, .int .u8 0, .int .u8 0, .int .u8 0, .int .u8 0, .int .u8 0, .int .u8 0, .int .u8 0, .int .u8 0, .int .u8 0, .int .u8 0, .int .u8 0, .int .u8 0, .int .i64 0, .int .i64 0, .int .i64 0, .slice none 0 0] 52 := by rw [show lay _ 0 _ = #[.int .i64 0, .int .i64 0, .int .u8 0, .int .u8 0, .int .u8 0, .int .u8 0, .int .u8 0, .int .u8 0, .int .u8 0, .int .u8 0, .int .u8 0, .int .u8 0, .int .u8 0, .int .u8 0, .int .u8 0, .int .u8 0, .int .u8 0, .int .u8 0, .int .u8 0, .int .u8 0, .int .u8 0, .int .u8 0, .int .u8 0, .int .u8 0, .int .u8 0, .int .u8 0, .int .u8 0, .int .u8 0, .int .u8 0, .int .u8 0, .int .u8 0, .int .u8 0, .int .u8 0, .int .u8 0, .int .i64 0, .int .i64 0, .int .i64 0, .slice none 0 0] from lay_whole #[.int .i64 0, .int .i64 0, .int .u8 0, .int .u8 0, .int .u8 0, .int .u8 0, .int .u8 0, .int .u8 0, .int .u8 0, .int .u8 0, .int .u8 0, .int .u8 0, .int .u8 0, .int .u8 0, .int .u8 0, .int .u8 0, .int .u8 0, .int .u8 0, .int .u8 0, .int .u8 0, .int .u8 0, .int .u8 0, .int .u8 0, .int .u8 0, .int .u8 0, .int .u8 0, .int .u8 0, .int .u8 0, .int .u8 0, .int .u8 0, .int .u8 0, .int .u8 0, .int .u8 0, .int .u8 0, .int .i64 0, .int .i64 0, .int .i64 0, .slice none 0 0] [.int .i64 0, .int .i64 0, .int .u8 0, .int .u8 0, .int .u8 0, .int .u8 0, .int .u8 0, .int .u8 0, .int .u8 0, .int .u8 0, .int .u8 0, .int .u8 0, .int .u8 0, .int .u8 0, .int .u8 0, .int .u8 0, .int .u8 0, .int .u8 0, .int .u8 0, .int .u8 0, .int .u8 0, .int .u8 0, .int .u8 0, .int .u8 0, .int .u8 0, .int .u8 0, .int .u8 0, .int .u8 0, .int .u8 0, .int .u8 0, .int .u8 0, .int .u8 0, .int .u8 0, .int .u8 0, .int .i64 0, .int .i64 0, .int .i64 0, .slice none 0 0] rfl] at qc0; exact qc0
    clear qc0
    have Hx5 := hid qB4
    have zu3_1 := hm.size
    have Cx6 := hid (show Mod (fun k => (k = w.heap.size + 1)) u1_0 u3_1 from hm)
    clear hm
    clear act E qB4 HB4
    refine QSeq.nil (t' := [_, _]) rfl ?_
    have ha0 := HA0.out
    subst ha0
    clear HA0 hsz0 oe4 oe5
    simp only [putAll, Act.put, List.setIfInBounds_toArray, List.set_cons_zero, List.set_cons_succ, List.set_nil]
    go_wp2
    exact bodyPost_ret (results_cellA rfl _ _ (w.heap.size + 1) ([.int .i64 0, .int .i64 0, .int .u8 0, .int .u8 0, .int .u8 0, .int .u8 0, .int .u8 0, .int .u8 0, .int .u8 0, .int .u8 0, .int .u8 0, .int .u8 0, .int .u8 0, .int .u8 0, .int .u8 0, .int .u8 0, .int .u8 0, .int .u8 0, .int .u8 0, .int .u8 0, .int .u8 0, .int .u8 0, .int .u8 0, .int .u8 0, .int .u8 0, .int .u8 0, .int .u8 0, .int .u8 0, .int .u8 0, .int .u8 0, .int .u8 0, .int .u8 0, .int .u8 0, .int .u8 0, .int .i64 0, .int .i64 0, .int .i64 0, .slice none 0 0]) rfl (fun k u hu => by rw [Hx5.out.cell]; simpa using hu) Try.underlying52 rfl (by kernel_rfl)) rfl ⟨_, rfl, zCe_rd _ _, ((HM0.out.trans Cx4.out (fun _ _ h => h.elim)).trans Cx6.out (by intro k h1 h2; omega))⟩
  | some l =>
    go_upto_region 2 with (fail)
    generalize ha0 : Act.mk _ _ = a0
    have oe0 : a0.eval (.tmp 0) = .pointer (some ⟨r, 0, none⟩) := by rw [← ha0]; rfl
    have hsz0 : a0.tmps.size = 11 := by rw [← ha0]; rfl
    have HA0 := hid ha0
    clear ha0
    refine wp_region_S 11 hsz0 [6, 7, 8] [0, 1, 2] ?_
    refine QSeq.pure rfl (.pointer (some ⟨r, 0, none⟩)) (fun E => ex_move rfl (E.v oe0)) ?_
    refine QSeq.go fun act E => ?_
    refine qc_callF (args := #[.pointer (some ⟨r, 0, none⟩)]) rfl (wanted_none rfl) rfl Try.func39 (args1 (E.d 0 0)) (OK_R (Hx1.out.mod Cx4.out (fun _ _ h => h))) ?_
    rintro e w2 ⟨rfl, hw2⟩
    obtain rfl : u1_0 = w2 := by first | exact hw2 | exact hw2.symm
    refine ⟨_, rfl, ?_⟩
    clear act E
    refine QSeq.pure rfl (.bool false) (fun E => ex_not rfl (E.d 1 0)) ?_
    refine QSeq.nil (t' := [_, _, _]) rfl ?_
    have ha0 := HA0.out
    subst ha0
    clear HA0 hsz0 oe0
    simp only [putAll, Act.put, List.setIfInBounds_toArray, List.set_cons_zero, List.set_cons_succ]
    go_upto_region 4 with (fail)
    generalize ha0 : Act.mk _ _ = a0
    have oe3 : a0.eval (.tmp 3) = .pointer (some ⟨w.heap.size, 0, none⟩) := by rw [← ha0]; rfl
    have oe4 : a0.eval (.tmp 4) = .pointer (some ⟨w.heap.size + 1, 0, none⟩) := by rw [← ha0]; rfl
    have hsz0 : a0.tmps.size = 11 := by rw [← ha0]; rfl
    have HA0 := hid ha0
    clear ha0
    refine wp_region_S 11 hsz0 [10, 12] [0, 1] ?_
    refine QSeq.pure rfl (.agg cs.toArray) (fun E => ex_loadA rfl Try.underlying52 rfl (off := 0) (cs := cs) (by rw [HCL.out]; kernel_rfl) (E.v oe3) (Cs.whole (HB3.out.mod Cx4.out (fun h => h)))) ?_
    refine QSeq.go fun act E => ?_
    refine qc_store rfl (wanted_none rfl) rfl (HB4.out.mod Cx4.out (fun h => h)) (off := 0) (vs := cs) (by rw [HCL.out]; kernel_rfl) HOC.out (by rw [HCL.out]; decide) (E.v oe4) (by rw [show act.eval ((.tmp 10)) = _ from (E.d 0 0)]; rfl) ?_
    intro u4_1 qc0 hm
    have qB4 : Cs u4_1 (w.heap.size + 1) (cs : List Value).toArray 52 := by rw [show lay _ 0 _ = (cs : List Value).toArray from lay_whole _ _ (by rw [HCL.out]; rfl)] at qc0; exact qc0
    clear qc0
    have Hx7 := hid qB4
    have zu4_1 := hm.size
    have Cx8 := hid (show Mod (fun k => (k = w.heap.size + 1)) u1_0 u4_1 from hm)
    clear hm
    clear act E qB4 HB4
    refine QSeq.nil (t' := [_, _]) rfl ?_
    have ha0 := HA0.out
    subst ha0
    clear HA0 hsz0 oe3 oe4
    simp only [putAll, Act.put, List.setIfInBounds_toArray, List.set_cons_zero, List.set_cons_succ, List.set_nil]
    go_wp2
    exact bodyPost_ret (results_cellA rfl _ _ (w.heap.size + 1) (cs) rfl (fun k u hu => by rw [Hx7.out.cell]; simpa using hu) Try.underlying52 rfl (by rw [HCL.out]; kernel_rfl)) rfl ⟨_, rfl, ((Hx2.out.mod Cx4.out (fun _ _ h => h)).mod Cx8.out (by intro k h1 h2; have hb := HBT.out k h1; omega)), ((HM0.out.trans Cx4.out (fun _ _ h => h.elim)).trans Cx8.out (by intro k h1 h2; omega))⟩
set_option maxHeartbeats 4000000 in
theorem Wire_Ce : Gets CeR 125 31 (gW zCe gCe) := by
  intro R r s w hR hB hl
  have HRD := Lib.hid hR
  have HBR := Lib.hid hB
  have HLN := Lib.hid hl
  clear hR hB hl
  go_enter Try.func31, Try.ntmps31
  go_upto_region 1 with (fail)
  obtain ⟨w1, hw1⟩ : ∃ zz, zz = (w.alloc (.cells #[.int .i64 0, .int .i64 0, .int .u8 0, .int .u8 0, .int .u8 0, .int .u8 0, .int .u8 0, .int .u8 0, .int .u8 0, .int .u8 0, .int .u8 0, .int .u8 0, .int .u8 0, .int .u8 0, .int .u8 0, .int .u8 0, .int .u8 0, .int .u8 0, .int .u8 0, .int .u8 0, .int .u8 0, .int .u8 0, .int .u8 0, .int .u8 0, .int .u8 0, .int .u8 0, .int .u8 0, .int .u8 0, .int .u8 0, .int .u8 0, .int .u8 0, .int .u8 0, .int .u8 0, .int .u8 0, .int .i64 0, .int .i64 0, .int .i64 0, .slice none 0 0] 52)) := ⟨_, rfl⟩
  change Code.wp _ _ _ _ (w.alloc (.cells #[.int .i64 0, .int .i64 0, .int .u8 0, .int .u8 0, .int .u8 0, .int .u8 0, .int .u8 0, .int .u8 0, .int .u8 0, .int .u8 0, .int .u8 0, .int .u8 0, .int .u8 0, .int .u8 0, .int .u8 0, .int .u8 0, .int .u8 0, .int .u8 0, .int .u8 0, .int .u8 0, .int .u8 0, .int .u8 0, .int .u8 0, .int .u8 0, .int .u8 0, .int .u8 0, .int .u8 0, .int .u8 0, .int .u8 0, .int .u8 0, .int .u8 0, .int .u8 0, .int .u8 0, .int .u8 0, .int .i64 0, .int .i64 0, .int .i64 0, .slice none 0 0] 52))
  rw [← hw1]
  have HB2 := hid (show Cs w1 (w.heap.size) #[.int .i64 0, .int .i64 0, .int .u8 0, .int .u8 0, .int .u8 0, .int .u8 0, .int .u8 0, .int .u8 0, .int .u8 0, .int .u8 0, .int .u8 0, .int .u8 0, .int .u8 0, .int .u8 0, .int .u8 0, .int .u8 0, .int .u8 0, .int .u8 0, .int .u8 0, .int .u8 0, .int .u8 0, .int .u8 0, .int .u8 0, .int .u8 0, .int .u8 0, .int .u8 0, .int .u8 0, .int .u8 0, .int .u8 0, .int .u8 0, .int .u8 0, .int .u8 0, .int .u8 0, .int .u8 0, .int .i64 0, .int .i64 0, .int .i64 0, .slice none 0 0] 52 by rw [hw1]; exact Cs.new _ _ _)
  have hm : Mod (fun _ => False) w w1 := by rw [hw1]; exact (Mod.refl _ _).alloc _
  have HM0 := hid (show Mod (fun k => (R k)) w w1 from hm.mono (fun _ _ h => h.elim))
  have hs1 : w1.heap.size = w.heap.size + 1 := by rw [hw1]; simp
  have Hx1 := hid (HRD.out.mod hm (fun _ _ h => h))
  clear HRD
  clear hw1 hm
  go_upto_region 1 with (fail)
  generalize ha0 : Act.mk _ _ = a0
  have oe0 : a0.eval (.tmp 0) = .pointer (some ⟨r, 0, none⟩) := by rw [← ha0]; rfl
  have oe2 : a0.eval (.tmp 2) = .pointer (some ⟨w.heap.size, 0, none⟩) := by rw [← ha0]; rfl
  have hsz0 : a0.tmps.size = 7 := by rw [← ha0]; rfl
  have HA0 := hid ha0
  clear ha0
  refine wp_region_S 7 hsz0 [3, 4, 5, 6, 11] [0, 1, 2, 3, 4] ?_
  refine QSeq.pure rfl (.pointer (some ⟨r, 0, none⟩)) (fun E => ex_move rfl (E.v oe0)) ?_
  refine QSeq.pure rfl (.pointer (some ⟨r, 0, none⟩)) (fun E => ex_move rfl (E.v oe0)) ?_
  refine QSeq.go fun act E => ?_
  refine qc_callF (args := #[.pointer (some ⟨r, 0, none⟩)]) rfl (wanted_none rfl) rfl Try.func81 (args1 (E.d 1 0)) (cCe_G _ _ _ _ Hx1.out (by intro k h1; have hb := HBR.out k h1; omega) HLN.out) ?_
  rintro e u1_2 ⟨cs1, rfl, qx1, qrd, hm⟩
  refine ⟨_, rfl, ?_⟩
  have Hx2 := hid (qx1.widen (R' := (fun k => (New w1 u1_2 k))) (fun _ h => h))
  have Hx3 := hid qrd
  have zu1_2 := hm.size
  have Cx4 := hid (show Mod (fun k => (R k)) w1 u1_2 from hm)
  clear hm
  clear act E qx1 qrd Hx1
  refine QSeq.go fun act E => ?_
  refine qc_callF (args := #[.pointer (some ⟨r, 0, none⟩), .agg cs1.toArray]) rfl (wanted_none rfl) rfl Try.func80 (args2 (E.d 0 2) (E.d 2 0)) (whole_Ce _ _ _ _ _ _ _ Hx3.out (by intro k h1; have hb := HBR.out k h1; omega) Hx2.out (by intro k h1; omega)) ?_
  rintro e u1_3 ⟨cs2, rfl, qx1, hm⟩
  have hcl : cs2.length = 38 := CeR.len qx1
  have HCL := Lib.hid hcl
  have HOC := hid (CeR.one qx1)
  clear hcl
  refine ⟨_, rfl, ?_⟩
  have Hx5 := hid qx1
  have zu1_3 := hm.size
  have HMu1_3 := hid hm
  have Cx6 := hid (Cx4.out.goE hm)
  clear hm Cx4
  clear act E qx1 Hx2
  refine QSeq.go fun act E => ?_
  refine qc_store rfl (wanted_none rfl) rfl (HB2.out.mod Cx6.out (by intro h2; first | omega | (have hb := HBR.out _ h2; omega))) (off := 0) (vs := cs2) (by rw [HCL.out]; kernel_rfl) HOC.out (by rw [HCL.out]; decide) (E.v oe2) (by rw [show act.eval ((.tmp 6)) = _ from (E.d 3 0)]; rfl) ?_
  intro u1_4 qc0 hm
  have qB2 : Cs u1_4 (w.heap.size) (cs2 : List Value).toArray 52 := by rw [show lay _ 0 _ = (cs2 : List Value).toArray from lay_whole _ _ (by rw [HCL.out]; rfl)] at qc0; exact qc0
  clear qc0
  have Hx7 := hid qB2
  have zu1_4 := hm.size
  have HMu1_4 := hid hm
  have Cx8 := hid (Mod.goS (S' := (fun k => (R k) ∨ (k = w.heap.size))) Cx6.out hm (fun _ h => Or.inl h) (by intro k h0 h2; exact Or.inr (h2)))
  clear hm Cx6
  clear act E qB2 HB2
  have Hx9 := hid ((Hx3.out.mod HMu1_3.out (fun _ _ h => h)).mod HMu1_4.out (by intro k h1 h2; have hb := HBR.out k h1; omega))
  have Hx10 := hid (Hx5.out.mod HMu1_4.out (by intro k h1 h2; omega))
  clear Hx3 Hx5 HMu1_3 HMu1_4
  refine QSeq.nil (t' := [_, _, _, _, _]) rfl ?_
  have ha0 := HA0.out
  subst ha0
  clear HA0 hsz0 oe0 oe2
  simp only [putAll, Act.put, List.setIfInBounds_toArray, List.set_cons_zero, List.set_cons_succ, List.set_nil]
  go_wp2
  exact bodyPost_ret (results_cellA rfl _ _ w.heap.size cs2 rfl (fun k u hu => by rw [Hx7.out.cell]; simpa using hu) Try.underlying52 rfl (by rw [HCL.out]; kernel_rfl)) rfl ⟨_, rfl, (Hx10.out.widen (R' := (fun k => New w u1_4 k)) (by intro k h1; omega)), Hx9.out, (HM0.out.trans Cx8.out (by intro k h1 h2; rcases h2 with h2 | h2 <;> first | exact h2 | omega | (have hb := HBR.out k h2; omega)))⟩
set_option maxHeartbeats 4000000 in
theorem whole_Pm : ∀ (R R2 : Nat → Prop) (r : Nat) (s : RSt) (cs : List Value) (x : Pm) (w : World), RrR 125 R w r s → (∀ k, R k → k < w.heap.size) → PmR.rd R2 w cs x → (∀ k, R2 k → k < w.heap.size) →
    Calls Try.prog 84 #[.pointer (some ⟨r, 0, none⟩), .agg cs.toArray] w fun e w' => ∃ cs', e = .returned (.agg cs'.toArray) ∧ PmR.rd R2 w' cs' (if s.isSome then x else zPm) ∧ Mod (fun _ => False) w w' := by
  intro R R2 r s cs x w hR hB hx hB2
  have hcl : cs.length = 6 := PmR.len hx
  have HCL := Lib.hid hcl
  have HOC := hid (PmR.one hx)
  have HRD := Lib.hid hR
  have HBR := Lib.hid hB
  have HX := Lib.hid hx
  have HBT := Lib.hid hB2
  clear hR hB hx hB2 hcl
  go_enter Try.func84, Try.ntmps84
  go_upto_region 1 with (fail)
  obtain ⟨w1, hw1⟩ : ∃ zz, zz = ((w.alloc (.cells (cs : List Value).toArray 55)).alloc (.cells #[.int .i64 0, .int .i64 0, .int .u64 0, .slice none 0 0, .int .i64 0, .int .i64 0] 55)) := ⟨_, rfl⟩
  change Code.wp _ _ _ _ ((w.alloc (.cells (cs : List Value).toArray 55)).alloc (.cells #[.int .i64 0, .int .i64 0, .int .u64 0, .slice none 0 0, .int .i64 0, .int .i64 0] 55))
  rw [← hw1]
  have HB3 := hid (show Cs w1 (w.heap.size) (cs : List Value).toArray 55 by rw [hw1]; exact (Cs.new _ _ _).alloc _)
  have HB4 := hid (show Cs w1 (w.heap.size + 1) #[.int .i64 0, .int .i64 0, .int .u64 0, .slice none 0 0, .int .i64 0, .int .i64 0] 55 by rw [hw1]; exact Cs_newN _ _ _ (by simp))
  have hm : Mod (fun _ => False) w w1 := by rw [hw1]; exact ((Mod.refl _ _).alloc _).alloc _
  have HM0 := hid (show Mod (fun _ => False) w w1 from hm.mono (fun _ _ h => h.elim))
  have hs1 : w1.heap.size = w.heap.size + 2 := by rw [hw1]; simp
  have Hx1 := hid (HRD.out.mod hm (fun _ _ h => h))
  clear HRD
  have Hx2 := hid (HX.out.mod hm (fun _ _ h => h))
  clear HX
  clear hw1 hm
  go_upto_region 1 with (fail)
  generalize ha0 : Act.mk _ _ = a0
  have hsz0 : a0.tmps.size = 11 := by rw [← ha0]; rfl
  have HA0 := hid ha0
  clear ha0
  refine wp_region_S 11 hsz0 [5] [0] ?_
  refine QSeq.go fun act E => ?_
  refine qc_alloc rfl (wanted_none rfl) rfl (z := [.int .i64 0, .int .i64 0, .int .u64 0, .slice none 0 0, .int .i64 0, .int .i64 0]) (by kernel_rfl) ?_
  intro u1_0 qB5 hm
  have zl1_0 := qB5.lt
  have Hx3 := hid qB5
  have zu1_0 := hm.size
  have Cx4 := hid (show Mod (fun _ => False) w1 u1_0 from hm)
  clear hm
  clear act E qB5
  refine QSeq.nil (t' := [_]) rfl ?_
  have ha0 := HA0.out
  subst ha0
  clear HA0 hsz0
  simp only [putAll, Act.put, List.setIfInBounds_toArray, List.set_cons_zero, List.set_cons_succ]
  cases s with
  | none =>
    go_upto_region 2 with (fail)
    generalize ha0 : Act.mk _ _ = a0
    have oe0 : a0.eval (.tmp 0) = .pointer (some ⟨r, 0, none⟩) := by rw [← ha0]; rfl
    have hsz0 : a0.tmps.size = 11 := by rw [← ha0]; rfl
    have HA0 := hid ha0
    clear ha0
    refine wp_region_S 11 hsz0 [6, 7, 8] [0, 1, 2] ?_
    refine QSeq.pure rfl (.pointer (some ⟨r, 0, none⟩)) (fun E => ex_move rfl (E.v oe0)) ?_
    refine QSeq.go fun act E => ?_
    refine qc_callF (args := #[.pointer (some ⟨r, 0, none⟩)]) rfl (wanted_none rfl) rfl Try.func39 (args1 (E.d 0 0)) (OK_R (Hx1.out.mod Cx4.out (fun _ _ h => h))) ?_
    rintro e w2 ⟨rfl, hw2⟩
    obtain rfl : u1_0 = w2 := by first | exact hw2 | exact hw2.symm
    refine ⟨_, rfl, ?_⟩
    clear act E
    refine QSeq.pure rfl (.bool true) (fun E => ex_not rfl (E.d 1 0)) ?_
    refine QSeq.nil (t' := [_, _, _]) rfl ?_
    have ha0 := HA0.out
    subst ha0
    clear HA0 hsz0 oe0
    simp only [putAll, Act.put, List.setIfInBounds_toArray, List.set_cons_zero, List.set_cons_succ]
    go_upto_region 3 with (fail)
    generalize ha0 : Act.mk _ _ = a0
    have oe4 : a0.eval (.tmp 4) = .pointer (some ⟨w.heap.size + 1, 0, none⟩) := by rw [← ha0]; rfl
    have oe5 : a0.eval (.tmp 5) = .pointer (some ⟨w1.heap.size, 0, none⟩) := by rw [← ha0]; rfl
    have hsz0 : a0.tmps.size = 11 := by rw [← ha0]; rfl
    have HA0 := hid ha0
    clear ha0
    refine wp_region_S 11 hsz0 [9, 12] [0, 1] ?_
    refine QSeq.pure rfl (.agg #[.int .i64 0, .int .i64 0, .int .u64 0, .slice none 0 0, .int .i64 0, .int .i64 0]) (fun E => ex_loadA rfl Try.underlying55 rfl (off := 0) (cs := [.int .i64 0, .int .i64 0, .int .u64 0, .slice none 0 0, .int .i64 0, .int .i64 0]) (by kernel_rfl) (E.v oe5) (Cs.whole Hx3.out)) ?_
    refine QSeq.go fun act E => ?_
    refine qc_store rfl (wanted_none rfl) rfl (HB4.out.mod Cx4.out (fun h => h)) (off := 0) (vs := [.int .i64 0, .int .i64 0, .int .u64 0, .slice none 0 0, .int .i64 0, .int .i64 0]) (by kernel_rfl) (PmR.one (zPm_rd (fun _ => False) w)) (by show 6 ≤ 6; exact Nat.le_refl _) (E.v oe4) (by rw [show act.eval ((.tmp 9)) = _ from (E.d 0 0)]; rfl) ?_
    intro u3_1 qc0 hm
    have qB4 : Cs u3_1 (w.heap.size + 1) #[.int .i64 0, .int .i64 0, .int .u64 0, .slice none 0 0, .int .i64 0, .int .i64 0] 55 := by rw [show lay _ 0 _ = #[.int .i64 0, .int .i64 0, .int .u64 0, .slice none 0 0, .int .i64 0, .int .i64 0] from lay_whole #[.int .i64 0, .int .i64 0, .int .u64 0, .slice none 0 0, .int .i64 0, .int .i64 0] [.int .i64 0, .int .i64 0, .int .u64 0, .slice none 0 0, .int .i64 0, .int .i64 0] rfl] at qc0; exact qc0
    clear qc0
    have Hx5 := hid qB4
    have zu3_1 := hm.size
    have Cx6 := hid (show Mod (fun k => (k = w.heap.size + 1)) u1_0 u3_1 from hm)
    clear hm
    clear act E qB4 HB4
    refine QSeq.nil (t' := [_, _]) rfl ?_
    have ha0 := HA0.out
    subst ha0
    clear HA0 hsz0 oe4 oe5
    simp only [putAll, Act.put, List.setIfInBounds_toArray, List.set_cons_zero, List.set_cons_succ, List.set_nil]
    go_wp2
    exact bodyPost_ret (results_cellA rfl _ _ (w.heap.size + 1) ([.int .i64 0, .int .i64 0, .int .u64 0, .slice none 0 0, .int .i64 0, .int .i64 0]) rfl (fun k u hu => by rw [Hx5.out.cell]; simpa using hu) Try.underlying55 rfl (by kernel_rfl)) rfl ⟨_, rfl, zPm_rd _ _, ((HM0.out.trans Cx4.out (fun _ _ h => h.elim)).trans Cx6.out (by intro k h1 h2; omega))⟩
  | some l =>
    go_upto_region 2 with (fail)
    generalize ha0 : Act.mk _ _ = a0
    have oe0 : a0.eval (.tmp 0) = .pointer (some ⟨r, 0, none⟩) := by rw [← ha0]; rfl
    have hsz0 : a0.tmps.size = 11 := by rw [← ha0]; rfl
    have HA0 := hid ha0
    clear ha0
    refine wp_region_S 11 hsz0 [6, 7, 8] [0, 1, 2] ?_
    refine QSeq.pure rfl (.pointer (some ⟨r, 0, none⟩)) (fun E => ex_move rfl (E.v oe0)) ?_
    refine QSeq.go fun act E => ?_
    refine qc_callF (args := #[.pointer (some ⟨r, 0, none⟩)]) rfl (wanted_none rfl) rfl Try.func39 (args1 (E.d 0 0)) (OK_R (Hx1.out.mod Cx4.out (fun _ _ h => h))) ?_
    rintro e w2 ⟨rfl, hw2⟩
    obtain rfl : u1_0 = w2 := by first | exact hw2 | exact hw2.symm
    refine ⟨_, rfl, ?_⟩
    clear act E
    refine QSeq.pure rfl (.bool false) (fun E => ex_not rfl (E.d 1 0)) ?_
    refine QSeq.nil (t' := [_, _, _]) rfl ?_
    have ha0 := HA0.out
    subst ha0
    clear HA0 hsz0 oe0
    simp only [putAll, Act.put, List.setIfInBounds_toArray, List.set_cons_zero, List.set_cons_succ]
    go_upto_region 4 with (fail)
    generalize ha0 : Act.mk _ _ = a0
    have oe3 : a0.eval (.tmp 3) = .pointer (some ⟨w.heap.size, 0, none⟩) := by rw [← ha0]; rfl
    have oe4 : a0.eval (.tmp 4) = .pointer (some ⟨w.heap.size + 1, 0, none⟩) := by rw [← ha0]; rfl
    have hsz0 : a0.tmps.size = 11 := by rw [← ha0]; rfl
    have HA0 := hid ha0
    clear ha0
    refine wp_region_S 11 hsz0 [10, 12] [0, 1] ?_
    refine QSeq.pure rfl (.agg cs.toArray) (fun E => ex_loadA rfl Try.underlying55 rfl (off := 0) (cs := cs) (by rw [HCL.out]; kernel_rfl) (E.v oe3) (Cs.whole (HB3.out.mod Cx4.out (fun h => h)))) ?_
    refine QSeq.go fun act E => ?_
    refine qc_store rfl (wanted_none rfl) rfl (HB4.out.mod Cx4.out (fun h => h)) (off := 0) (vs := cs) (by rw [HCL.out]; kernel_rfl) HOC.out (by rw [HCL.out]; decide) (E.v oe4) (by rw [show act.eval ((.tmp 10)) = _ from (E.d 0 0)]; rfl) ?_
    intro u4_1 qc0 hm
    have qB4 : Cs u4_1 (w.heap.size + 1) (cs : List Value).toArray 55 := by rw [show lay _ 0 _ = (cs : List Value).toArray from lay_whole _ _ (by rw [HCL.out]; rfl)] at qc0; exact qc0
    clear qc0
    have Hx7 := hid qB4
    have zu4_1 := hm.size
    have Cx8 := hid (show Mod (fun k => (k = w.heap.size + 1)) u1_0 u4_1 from hm)
    clear hm
    clear act E qB4 HB4
    refine QSeq.nil (t' := [_, _]) rfl ?_
    have ha0 := HA0.out
    subst ha0
    clear HA0 hsz0 oe3 oe4
    simp only [putAll, Act.put, List.setIfInBounds_toArray, List.set_cons_zero, List.set_cons_succ, List.set_nil]
    go_wp2
    exact bodyPost_ret (results_cellA rfl _ _ (w.heap.size + 1) (cs) rfl (fun k u hu => by rw [Hx7.out.cell]; simpa using hu) Try.underlying55 rfl (by rw [HCL.out]; kernel_rfl)) rfl ⟨_, rfl, ((Hx2.out.mod Cx4.out (fun _ _ h => h)).mod Cx8.out (by intro k h1 h2; have hb := HBT.out k h1; omega)), ((HM0.out.trans Cx4.out (fun _ _ h => h.elim)).trans Cx8.out (by intro k h1 h2; omega))⟩
set_option maxHeartbeats 4000000 in
theorem Wire_Pm : Gets PmR 125 34 (gW zPm gPm) := by
  intro R r s w hR hB hl
  have HRD := Lib.hid hR
  have HBR := Lib.hid hB
  have HLN := Lib.hid hl
  clear hR hB hl
  go_enter Try.func34, Try.ntmps34
  go_upto_region 1 with (fail)
  obtain ⟨w1, hw1⟩ : ∃ zz, zz = (w.alloc (.cells #[.int .i64 0, .int .i64 0, .int .u64 0, .slice none 0 0, .int .i64 0, .int .i64 0] 55)) := ⟨_, rfl⟩
  change Code.wp _ _ _ _ (w.alloc (.cells #[.int .i64 0, .int .i64 0, .int .u64 0, .slice none 0 0, .int .i64 0, .int .i64 0] 55))
  rw [← hw1]
  have HB2 := hid (show Cs w1 (w.heap.size) #[.int .i64 0, .int .i64 0, .int .u64 0, .slice none 0 0, .int .i64 0, .int .i64 0] 55 by rw [hw1]; exact Cs.new _ _ _)
  have hm : Mod (fun _ => False) w w1 := by rw [hw1]; exact (Mod.refl _ _).alloc _
  have HM0 := hid (show Mod (fun k => (R k)) w w1 from hm.mono (fun _ _ h => h.elim))
  have hs1 : w1.heap.size = w.heap.size + 1 := by rw [hw1]; simp
  have Hx1 := hid (HRD.out.mod hm (fun _ _ h => h))
  clear HRD
  clear hw1 hm
  go_upto_region 1 with (fail)
  generalize ha0 : Act.mk _ _ = a0
  have oe0 : a0.eval (.tmp 0) = .pointer (some ⟨r, 0, none⟩) := by rw [← ha0]; rfl
  have oe2 : a0.eval (.tmp 2) = .pointer (some ⟨w.heap.size, 0, none⟩) := by rw [← ha0]; rfl
  have hsz0 : a0.tmps.size = 7 := by rw [← ha0]; rfl
  have HA0 := hid ha0
  clear ha0
  refine wp_region_S 7 hsz0 [3, 4, 5, 6, 11] [0, 1, 2, 3, 4] ?_
  refine QSeq.pure rfl (.pointer (some ⟨r, 0, none⟩)) (fun E => ex_move rfl (E.v oe0)) ?_
  refine QSeq.pure rfl (.pointer (some ⟨r, 0, none⟩)) (fun E => ex_move rfl (E.v oe0)) ?_
  refine QSeq.go fun act E => ?_
  refine qc_callF (args := #[.pointer (some ⟨r, 0, none⟩)]) rfl (wanted_none rfl) rfl Try.func85 (args1 (E.d 1 0)) (cPm_G _ _ _ _ Hx1.out (by intro k h1; have hb := HBR.out k h1; omega) HLN.out) ?_
  rintro e u1_2 ⟨cs1, rfl, qx1, qrd, hm⟩
  refine ⟨_, rfl, ?_⟩
  have Hx2 := hid (qx1.widen (R' := (fun k => (New w1 u1_2 k))) (fun _ h => h))
  have Hx3 := hid qrd
  have zu1_2 := hm.size
  have Cx4 := hid (show Mod (fun k => (R k)) w1 u1_2 from hm)
  clear hm
  clear act E qx1 qrd Hx1
  refine QSeq.go fun act E => ?_
  refine qc_callF (args := #[.pointer (some ⟨r, 0, none⟩), .agg cs1.toArray]) rfl (wanted_none rfl) rfl Try.func84 (args2 (E.d 0 2) (E.d 2 0)) (whole_Pm _ _ _ _ _ _ _ Hx3.out (by intro k h1; have hb := HBR.out k h1; omega) Hx2.out (by intro k h1; omega)) ?_
  rintro e u1_3 ⟨cs2, rfl, qx1, hm⟩
  have hcl : cs2.length = 6 := PmR.len qx1
  have HCL := Lib.hid hcl
  have HOC := hid (PmR.one qx1)
  clear hcl
  refine ⟨_, rfl, ?_⟩
  have Hx5 := hid qx1
  have zu1_3 := hm.size
  have HMu1_3 := hid hm
  have Cx6 := hid (Cx4.out.goE hm)
  clear hm Cx4
  clear act E qx1 Hx2
  refine QSeq.go fun act E => ?_
  refine qc_store rfl (wanted_none rfl) rfl (HB2.out.mod Cx6.out (by intro h2; first | omega | (have hb := HBR.out _ h2; omega))) (off := 0) (vs := cs2) (by rw [HCL.out]; kernel_rfl) HOC.out (by rw [HCL.out]; decide) (E.v oe2) (by rw [show act.eval ((.tmp 6)) = _ from (E.d 3 0)]; rfl) ?_
  intro u1_4 qc0 hm
  have qB2 : Cs u1_4 (w.heap.size) (cs2 : List Value).toArray 55 := by rw [show lay _ 0 _ = (cs2 : List Value).toArray from lay_whole _ _ (by rw [HCL.out]; rfl)] at qc0; exact qc0
  clear qc0
  have Hx7 := hid qB2
  have zu1_4 := hm.size
  have HMu1_4 := hid hm
  have Cx8 := hid (Mod.goS (S' := (fun k => (R k) ∨ (k = w.heap.size))) Cx6.out hm (fun _ h => Or.inl h) (by intro k h0 h2; exact Or.inr (h2)))
  clear hm Cx6
  clear act E qB2 HB2
  have Hx9 := hid ((Hx3.out.mod HMu1_3.out (fun _ _ h => h)).mod HMu1_4.out (by intro k h1 h2; have hb := HBR.out k h1; omega))
  have Hx10 := hid (Hx5.out.mod HMu1_4.out (by intro k h1 h2; omega))
  clear Hx3 Hx5 HMu1_3 HMu1_4
  refine QSeq.nil (t' := [_, _, _, _, _]) rfl ?_
  have ha0 := HA0.out
  subst ha0
  clear HA0 hsz0 oe0 oe2
  simp only [putAll, Act.put, List.setIfInBounds_toArray, List.set_cons_zero, List.set_cons_succ, List.set_nil]
  go_wp2
  exact bodyPost_ret (results_cellA rfl _ _ w.heap.size cs2 rfl (fun k u hu => by rw [Hx7.out.cell]; simpa using hu) Try.underlying55 rfl (by rw [HCL.out]; kernel_rfl)) rfl ⟨_, rfl, (Hx10.out.widen (R' := (fun k => New w u1_4 k)) (by intro k h1; omega)), Hx9.out, (HM0.out.trans Cx8.out (by intro k h1 h2; rcases h2 with h2 | h2 <;> first | exact h2 | omega | (have hb := HBR.out k h2; omega)))⟩
set_option maxHeartbeats 4000000 in
theorem whole_Ba : ∀ (R R2 : Nat → Prop) (r : Nat) (s : RSt) (cs : List Value) (x : Ba) (w : World), RrR 125 R w r s → (∀ k, R k → k < w.heap.size) → BaR.rd R2 w cs x → (∀ k, R2 k → k < w.heap.size) →
    Calls Try.prog 89 #[.pointer (some ⟨r, 0, none⟩), .agg cs.toArray] w fun e w' => ∃ cs', e = .returned (.agg cs'.toArray) ∧ BaR.rd R2 w' cs' (if s.isSome then x else zBa) ∧ Mod (fun _ => False) w w' := by
  intro R R2 r s cs x w hR hB hx hB2
  have hcl : cs.length = 5 := BaR.len hx
  have HCL := Lib.hid hcl
  have HOC := hid (BaR.one hx)
  have HRD := Lib.hid hR
  have HBR := Lib.hid hB
  have HX := Lib.hid hx
  have HBT := Lib.hid hB2
  clear hR hB hx hB2 hcl
  go_enter Try.func89, Try.ntmps89
  go_upto_region 1 with (fail)
  obtain ⟨w1, hw1⟩ : ∃ zz, zz = ((w.alloc (.cells (cs : List Value).toArray 60)).alloc (.cells #[.int .i64 0, .int .u64 0, .slice none 0 0, .slice none 0 0, .slice none 0 0] 60)) := ⟨_, rfl⟩
  change Code.wp _ _ _ _ ((w.alloc (.cells (cs : List Value).toArray 60)).alloc (.cells #[.int .i64 0, .int .u64 0, .slice none 0 0, .slice none 0 0, .slice none 0 0] 60))
  rw [← hw1]
  have HB3 := hid (show Cs w1 (w.heap.size) (cs : List Value).toArray 60 by rw [hw1]; exact (Cs.new _ _ _).alloc _)
  have HB4 := hid (show Cs w1 (w.heap.size + 1) #[.int .i64 0, .int .u64 0, .slice none 0 0, .slice none 0 0, .slice none 0 0] 60 by rw [hw1]; exact Cs_newN _ _ _ (by simp))
  have hm : Mod (fun _ => False) w w1 := by rw [hw1]; exact ((Mod.refl _ _).alloc _).alloc _
  have HM0 := hid (show Mod (fun _ => False) w w1 from hm.mono (fun _ _ h => h.elim))
  have hs1 : w1.heap.size = w.heap.size + 2 := by rw [hw1]; simp
  have Hx1 := hid (HRD.out.mod hm (fun _ _ h => h))
  clear HRD
  have Hx2 := hid (HX.out.mod hm (fun _ _ h => h))
  clear HX
  clear hw1 hm
  go_upto_region 1 with (fail)
  generalize ha0 : Act.mk _ _ = a0
  have hsz0 : a0.tmps.size = 11 := by rw [← ha0]; rfl
  have HA0 := hid ha0
  clear ha0
  refine wp_region_S 11 hsz0 [5] [0] ?_
  refine QSeq.go fun act E => ?_
  refine qc_alloc rfl (wanted_none rfl) rfl (z := [.int .i64 0, .int .u64 0, .slice none 0 0, .slice none 0 0, .slice none 0 0]) (by kernel_rfl) ?_
  intro u1_0 qB5 hm
  have zl1_0 := qB5.lt
  have Hx3 := hid qB5
  have zu1_0 := hm.size
  have Cx4 := hid (show Mod (fun _ => False) w1 u1_0 from hm)
  clear hm
  clear act E qB5
  refine QSeq.nil (t' := [_]) rfl ?_
  have ha0 := HA0.out
  subst ha0
  clear HA0 hsz0
  simp only [putAll, Act.put, List.setIfInBounds_toArray, List.set_cons_zero, List.set_cons_succ]
  cases s with
  | none =>
    go_upto_region 2 with (fail)
    generalize ha0 : Act.mk _ _ = a0
    have oe0 : a0.eval (.tmp 0) = .pointer (some ⟨r, 0, none⟩) := by rw [← ha0]; rfl
    have hsz0 : a0.tmps.size = 11 := by rw [← ha0]; rfl
    have HA0 := hid ha0
    clear ha0
    refine wp_region_S 11 hsz0 [6, 7, 8] [0, 1, 2] ?_
    refine QSeq.pure rfl (.pointer (some ⟨r, 0, none⟩)) (fun E => ex_move rfl (E.v oe0)) ?_
    refine QSeq.go fun act E => ?_
    refine qc_callF (args := #[.pointer (some ⟨r, 0, none⟩)]) rfl (wanted_none rfl) rfl Try.func39 (args1 (E.d 0 0)) (OK_R (Hx1.out.mod Cx4.out (fun _ _ h => h))) ?_
    rintro e w2 ⟨rfl, hw2⟩
    obtain rfl : u1_0 = w2 := by first | exact hw2 | exact hw2.symm
    refine ⟨_, rfl, ?_⟩
    clear act E
    refine QSeq.pure rfl (.bool true) (fun E => ex_not rfl (E.d 1 0)) ?_
    refine QSeq.nil (t' := [_, _, _]) rfl ?_
    have ha0 := HA0.out
    subst ha0
    clear HA0 hsz0 oe0
    simp only [putAll, Act.put, List.setIfInBounds_toArray, List.set_cons_zero, List.set_cons_succ]
    go_upto_region 3 with (fail)
    generalize ha0 : Act.mk _ _ = a0
    have oe4 : a0.eval (.tmp 4) = .pointer (some ⟨w.heap.size + 1, 0, none⟩) := by rw [← ha0]; rfl
    have oe5 : a0.eval (.tmp 5) = .pointer (some ⟨w1.heap.size, 0, none⟩) := by rw [← ha0]; rfl
    have hsz0 : a0.tmps.size = 11 := by rw [← ha0]; rfl
    have HA0 := hid ha0
    clear ha0
    refine wp_region_S 11 hsz0 [9, 12] [0, 1] ?_
    refine QSeq.pure rfl (.agg #[.int .i64 0, .int .u64 0, .slice none 0 0, .slice none 0 0, .slice none 0 0]) (fun E => ex_loadA rfl Try.underlying60 rfl (off := 0) (cs := [.int .i64 0, .int .u64 0, .slice none 0 0, .slice none 0 0, .slice none 0 0]) (by kernel_rfl) (E.v oe5) (Cs.whole Hx3.out)) ?_
    refine QSeq.go fun act E => ?_
    refine qc_store rfl (wanted_none rfl) rfl (HB4.out.mod Cx4.out (fun h => h)) (off := 0) (vs := [.int .i64 0, .int .u64 0, .slice none 0 0, .slice none 0 0, .slice none 0 0]) (by kernel_rfl) (BaR.one (zBa_rd (fun _ => False) w)) (by show 5 ≤ 5; exact Nat.le_refl _) (E.v oe4) (by rw [show act.eval ((.tmp 9)) = _ from (E.d 0 0)]; rfl) ?_
    intro u3_1 qc0 hm
    have qB4 : Cs u3_1 (w.heap.size + 1) #[.int .i64 0, .int .u64 0, .slice none 0 0, .slice none 0 0, .slice none 0 0] 60 := by rw [show lay _ 0 _ = #[.int .i64 0, .int .u64 0, .slice none 0 0, .slice none 0 0, .slice none 0 0] from lay_whole #[.int .i64 0, .int .u64 0, .slice none 0 0, .slice none 0 0, .slice none 0 0] [.int .i64 0, .int .u64 0, .slice none 0 0, .slice none 0 0, .slice none 0 0] rfl] at qc0; exact qc0
    clear qc0
    have Hx5 := hid qB4
    have zu3_1 := hm.size
    have Cx6 := hid (show Mod (fun k => (k = w.heap.size + 1)) u1_0 u3_1 from hm)
    clear hm
    clear act E qB4 HB4
    refine QSeq.nil (t' := [_, _]) rfl ?_
    have ha0 := HA0.out
    subst ha0
    clear HA0 hsz0 oe4 oe5
    simp only [putAll, Act.put, List.setIfInBounds_toArray, List.set_cons_zero, List.set_cons_succ, List.set_nil]
    go_wp2
    exact bodyPost_ret (results_cellA rfl _ _ (w.heap.size + 1) ([.int .i64 0, .int .u64 0, .slice none 0 0, .slice none 0 0, .slice none 0 0]) rfl (fun k u hu => by rw [Hx5.out.cell]; simpa using hu) Try.underlying60 rfl (by kernel_rfl)) rfl ⟨_, rfl, zBa_rd _ _, ((HM0.out.trans Cx4.out (fun _ _ h => h.elim)).trans Cx6.out (by intro k h1 h2; omega))⟩
  | some l =>
    go_upto_region 2 with (fail)
    generalize ha0 : Act.mk _ _ = a0
    have oe0 : a0.eval (.tmp 0) = .pointer (some ⟨r, 0, none⟩) := by rw [← ha0]; rfl
    have hsz0 : a0.tmps.size = 11 := by rw [← ha0]; rfl
    have HA0 := hid ha0
    clear ha0
    refine wp_region_S 11 hsz0 [6, 7, 8] [0, 1, 2] ?_
    refine QSeq.pure rfl (.pointer (some ⟨r, 0, none⟩)) (fun E => ex_move rfl (E.v oe0)) ?_
    refine QSeq.go fun act E => ?_
    refine qc_callF (args := #[.pointer (some ⟨r, 0, none⟩)]) rfl (wanted_none rfl) rfl Try.func39 (args1 (E.d 0 0)) (OK_R (Hx1.out.mod Cx4.out (fun _ _ h => h))) ?_
    rintro e w2 ⟨rfl, hw2⟩
    obtain rfl : u1_0 = w2 := by first | exact hw2 | exact hw2.symm
    refine ⟨_, rfl, ?_⟩
    clear act E
    refine QSeq.pure rfl (.bool false) (fun E => ex_not rfl (E.d 1 0)) ?_
    refine QSeq.nil (t' := [_, _, _]) rfl ?_
    have ha0 := HA0.out
    subst ha0
    clear HA0 hsz0 oe0
    simp only [putAll, Act.put, List.setIfInBounds_toArray, List.set_cons_zero, List.set_cons_succ]
    go_upto_region 4 with (fail)
    generalize ha0 : Act.mk _ _ = a0
    have oe3 : a0.eval (.tmp 3) = .pointer (some ⟨w.heap.size, 0, none⟩) := by rw [← ha0]; rfl
    have oe4 : a0.eval (.tmp 4) = .pointer (some ⟨w.heap.size + 1, 0, none⟩) := by rw [← ha0]; rfl
    have hsz0 : a0.tmps.size = 11 := by rw [← ha0]; rfl
    have HA0 := hid ha0
    clear ha0
    refine wp_region_S 11 hsz0 [10, 12] [0, 1] ?_
    refine QSeq.pure rfl (.agg cs.toArray) (fun E => ex_loadA rfl Try.underlying60 rfl (off := 0) (cs := cs) (by rw [HCL.out]; kernel_rfl) (E.v oe3) (Cs.whole (HB3.out.mod Cx4.out (fun h => h)))) ?_
    refine QSeq.go fun act E => ?_
    refine qc_store rfl (wanted_none rfl) rfl (HB4.out.mod Cx4.out (fun h => h)) (off := 0) (vs := cs) (by rw [HCL.out]; kernel_rfl) HOC.out (by rw [HCL.out]; decide) (E.v oe4) (by rw [show act.eval ((.tmp 10)) = _ from (E.d 0 0)]; rfl) ?_
    intro u4_1 qc0 hm
    have qB4 : Cs u4_1 (w.heap.size + 1) (cs : List Value).toArray 60 := by rw [show lay _ 0 _ = (cs : List Value).toArray from lay_whole _ _ (by rw [HCL.out]; rfl)] at qc0; exact qc0
    clear qc0
    have Hx7 := hid qB4
    have zu4_1 := hm.size
    have Cx8 := hid (show Mod (fun k => (k = w.heap.size + 1)) u1_0 u4_1 from hm)
    clear hm
    clear act E qB4 HB4
    refine QSeq.nil (t' := [_, _]) rfl ?_
    have ha0 := HA0.out
    subst ha0
    clear HA0 hsz0 oe3 oe4
    simp only [putAll, Act.put, List.setIfInBounds_toArray, List.set_cons_zero, List.set_cons_succ, List.set_nil]
    go_wp2
    exact bodyPost_ret (results_cellA rfl _ _ (w.heap.size + 1) (cs) rfl (fun k u hu => by rw [Hx7.out.cell]; simpa using hu) Try.underlying60 rfl (by rw [HCL.out]; kernel_rfl)) rfl ⟨_, rfl, ((Hx2.out.mod Cx4.out (fun _ _ h => h)).mod Cx8.out (by intro k h1 h2; have hb := HBT.out k h1; omega)), ((HM0.out.trans Cx4.out (fun _ _ h => h.elim)).trans Cx8.out (by intro k h1 h2; omega))⟩
set_option maxHeartbeats 4000000 in
theorem Wire_Ba : Gets BaR 125 37 (gW zBa gBa) := by
  intro R r s w hR hB hl
  have HRD := Lib.hid hR
  have HBR := Lib.hid hB
  have HLN := Lib.hid hl
  clear hR hB hl
  go_enter Try.func37, Try.ntmps37
  go_upto_region 1 with (fail)
  obtain ⟨w1, hw1⟩ : ∃ zz, zz = (w.alloc (.cells #[.int .i64 0, .int .u64 0, .slice none 0 0, .slice none 0 0, .slice none 0 0] 60)) := ⟨_, rfl⟩
  change Code.wp _ _ _ _ (w.alloc (.cells #[.int .i64 0, .int .u64 0, .slice none 0 0, .slice none 0 0, .slice none 0 0] 60))
  rw [← hw1]
  have HB2 := hid (show Cs w1 (w.heap.size) #[.int .i64 0, .int .u64 0, .slice none 0 0, .slice none 0 0, .slice none 0 0] 60 by rw [hw1]; exact Cs.new _ _ _)
  have hm : Mod (fun _ => False) w w1 := by rw [hw1]; exact (Mod.refl _ _).alloc _
  have HM0 := hid (show Mod (fun k => (R k)) w w1 from hm.mono (fun _ _ h => h.elim))
  have hs1 : w1.heap.size = w.heap.size + 1 := by rw [hw1]; simp
  have Hx1 := hid (HRD.out.mod hm (fun _ _ h => h))
  clear HRD
  clear hw1 hm
  go_upto_region 1 with (fail)
  generalize ha0 : Act.mk _ _ = a0
  have oe0 : a0.eval (.tmp 0) = .pointer (some ⟨r, 0, none⟩) := by rw [← ha0]; rfl
  have oe2 : a0.eval (.tmp 2) = .pointer (some ⟨w.heap.size, 0, none⟩) := by rw [← ha0]; rfl
  have hsz0 : a0.tmps.size = 7 := by rw [← ha0]; rfl
  have HA0 := hid ha0
  clear ha0
  refine wp_region_S 7 hsz0 [3, 4, 5, 6, 11] [0, 1, 2, 3, 4] ?_
  refine QSeq.pure rfl (.pointer (some ⟨r, 0, none⟩)) (fun E => ex_move rfl (E.v oe0)) ?_
  refine QSeq.pure rfl (.pointer (some ⟨r, 0, none⟩)) (fun E => ex_move rfl (E.v oe0)) ?_
  refine QSeq.go fun act E => ?_
  refine qc_callF (args := #[.pointer (some ⟨r, 0, none⟩)]) rfl (wanted_none rfl) rfl Try.func90 (args1 (E.d 1 0)) (cBa_G _ _ _ _ Hx1.out (by intro k h1; have hb := HBR.out k h1; omega) HLN.out) ?_
  rintro e u1_2 ⟨cs1, rfl, qx1, qrd, hm⟩
  refine ⟨_, rfl, ?_⟩
  have Hx2 := hid (qx1.widen (R' := (fun k => (New w1 u1_2 k))) (fun _ h => h))
  have Hx3 := hid qrd
  have zu1_2 := hm.size
  have Cx4 := hid (show Mod (fun k => (R k)) w1 u1_2 from hm)
  clear hm
  clear act E qx1 qrd Hx1
  refine QSeq.go fun act E => ?_
  refine qc_callF (args := #[.pointer (some ⟨r, 0, none⟩), .agg cs1.toArray]) rfl (wanted_none rfl) rfl Try.func89 (args2 (E.d 0 2) (E.d 2 0)) (whole_Ba _ _ _ _ _ _ _ Hx3.out (by intro k h1; have hb := HBR.out k h1; omega) Hx2.out (by intro k h1; omega)) ?_
  rintro e u1_3 ⟨cs2, rfl, qx1, hm⟩
  have hcl : cs2.length = 5 := BaR.len qx1
  have HCL := Lib.hid hcl
  have HOC := hid (BaR.one qx1)
  clear hcl
  refine ⟨_, rfl, ?_⟩
  have Hx5 := hid qx1
  have zu1_3 := hm.size
  have HMu1_3 := hid hm
  have Cx6 := hid (Cx4.out.goE hm)
  clear hm Cx4
  clear act E qx1 Hx2
  refine QSeq.go fun act E => ?_
  refine qc_store rfl (wanted_none rfl) rfl (HB2.out.mod Cx6.out (by intro h2; first | omega | (have hb := HBR.out _ h2; omega))) (off := 0) (vs := cs2) (by rw [HCL.out]; kernel_rfl) HOC.out (by rw [HCL.out]; decide) (E.v oe2) (by rw [show act.eval ((.tmp 6)) = _ from (E.d 3 0)]; rfl) ?_
  intro u1_4 qc0 hm
  have qB2 : Cs u1_4 (w.heap.size) (cs2 : List Value).toArray 60 := by rw [show lay _ 0 _ = (cs2 : List Value).toArray from lay_whole _ _ (by rw [HCL.out]; rfl)] at qc0; exact qc0
  clear qc0
  have Hx7 := hid qB2
  have zu1_4 := hm.size
  have HMu1_4 := hid hm
  have Cx8 := hid (Mod.goS (S' := (fun k => (R k) ∨ (k = w.heap.size))) Cx6.out hm (fun _ h => Or.inl h) (by intro k h0 h2; exact Or.inr (h2)))
  clear hm Cx6
  clear act E qB2 HB2
  have Hx9 := hid ((Hx3.out.mod HMu1_3.out (fun _ _ h => h)).mod HMu1_4.out (by intro k h1 h2; have hb := HBR.out k h1; omega))
  have Hx10 := hid (Hx5.out.mod HMu1_4.out (by intro k h1 h2; omega))
  clear Hx3 Hx5 HMu1_3 HMu1_4
  refine QSeq.nil (t' := [_, _, _, _, _]) rfl ?_
  have ha0 := HA0.out
  subst ha0
  clear HA0 hsz0 oe0 oe2
  simp only [putAll, Act.put, List.setIfInBounds_toArray, List.set_cons_zero, List.set_cons_succ, List.set_nil]
  go_wp2
  exact bodyPost_ret (results_cellA rfl _ _ w.heap.size cs2 rfl (fun k u hu => by rw [Hx7.out.cell]; simpa using hu) Try.underlying60 rfl (by rw [HCL.out]; kernel_rfl)) rfl ⟨_, rfl, (Hx10.out.widen (R' := (fun k => New w u1_4 k)) (by intro k h1; omega)), Hx9.out, (HM0.out.trans Cx8.out (by intro k h1 h2; rcases h2 with h2 | h2 <;> first | exact h2 | omega | (have hb := HBR.out k h2; omega)))⟩
end Go.Proofs.Ytknpapcfhnhheaa

/- Certificates and promises that are cut. -/
set_option maxRecDepth 100000
set_option linter.unusedVariables false
namespace Go.Proofs.Ytknpapcfhnhheaa
open Go Go.RowKit Go.Gv


/-- what the laws leave of a certificate, a promise -/
def cutCe (x : Ce) : Ce := { x with l := x.l.take 5 }
def cutPm (x : Pm) : Pm := { x with l := (x.l.take 3).map cutCe }
/-- a function that gives a thing anew, cut -/
def CutR {α : Type} (A : Rep α) (F : FuncId) (f : α → α) : Prop := ∀ (R2 : Nat → Prop) (x : α) (cs : List Value) (w : World), A.rd R2 w cs x → (∀ k, R2 k → k < w.heap.size) →
  Calls Try.prog F #[.agg cs.toArray] w fun e w' => ∃ cs', e = .returned (.agg cs'.toArray) ∧ A.rd (fun k => R2 k ∨ New w w' k) w' cs' (f x) ∧ Mod (fun _ => False) w w'
theorem size_ce : (Try.prog.info? 52).map (·.size) = some (37 + 1) := by kernel_rfl
theorem one_ce (c : Cm) (v : Value) (h : v.oneCell' = true) : ∀ u ∈ c.cells ++ [v], u.oneCell' = true := by
  intro u hu
  rw [List.mem_append] at hu
  rcases hu with hu | hu
  · exact Cm_one _ _ hu
  · simp at hu; subst hu; exact h
theorem take_two {α : Type} {l : List α} {k n : Nat} (hk : k ≤ n) (h : k = n ∨ l.length ≤ k) : l.take k = l.take n := by
  rcases h with rfl | h
  · rfl
  · rw [List.take_of_length_le h, List.take_of_length_le (by omega)]
theorem lay_l (c : Cm) (u v : Value) (hl : c.h.length = 32) : lay (c.cells ++ [u]).toArray 37 [v] = (c.cells ++ [v]).toArray := by
  have h37 := Cm.len hl
  simp [lay, h37]
set_option maxHeartbeats 4000000 in
theorem LCert_c : CutR CeR 21 cutCe := by
  intro R2 x cs w hx hB2
  obtain ⟨v_l, rfl, hok, hs0⟩ := hx
  obtain ⟨ao, cap, rfl⟩ := hs0.shape
  have HS := Lib.hid hs0
  have HBT := Lib.hid hB2
  have HOK := Lib.hid hok
  clear hs0 hB2 hok
  go_enter Try.func21, Try.ntmps21
  go_upto_region 1 with (fail)
  obtain ⟨w1, hw1⟩ : ∃ zz, zz = ((w.alloc (.cells (x.cells (.slice ao x.l.length cap) : List Value).toArray 52)).alloc (.cells #[.int .i64 0, .int .i64 0, .int .u8 0, .int .u8 0, .int .u8 0, .int .u8 0, .int .u8 0, .int .u8 0, .int .u8 0, .int .u8 0, .int .u8 0, .int .u8 0, .int .u8 0, .int .u8 0, .int .u8 0, .int .u8 0, .int .u8 0, .int .u8 0, .int .u8 0, .int .u8 0, .int .u8 0, .int .u8 0, .int .u8 0, .int .u8 0, .int .u8 0, .int .u8 0, .int .u8 0, .int .u8 0, .int .u8 0, .int .u8 0, .int .u8 0, .int .u8 0, .int .u8 0, .int .u8 0, .int .i64 0, .int .i64 0, .int .i64 0, .slice none 0 0] 52)) := ⟨_, rfl⟩
  change Code.wp _ _ _ _ ((w.alloc (.cells (x.cells (.slice ao x.l.length cap) : List Value).toArray 52)).alloc (.cells #[.int .i64 0, .int .i64 0, .int .u8 0, .int .u8 0, .int .u8 0, .int .u8 0, .int .u8 0, .int .u8 0, .int .u8 0, .int .u8 0, .int .u8 0, .int .u8 0, .int .u8 0, .int .u8 0, .int .u8 0, .int .u8 0, .int .u8 0, .int .u8 0, .int .u8 0, .int .u8 0, .int .u8 0, .int .u8 0, .int .u8 0, .int .u8 0, .int .u8 0, .int .u8 0, .int .u8 0, .int .u8 0, .int .u8 0, .int .u8 0, .int .u8 0, .int .u8 0, .int .u8 0, .int .u8 0, .int .i64 0, .int .i64 0, .int .i64 0, .slice none 0 0] 52))
  rw [← hw1]
  have HB1 := hid (show Cs w1 (w.heap.size) (x.cells (.slice ao x.l.length cap) : List Value).toArray 52 by rw [hw1]; exact (Cs.new _ _ _).alloc _)
  have HB2 := hid (show Cs w1 (w.heap.size + 1) #[.int .i64 0, .int .i64 0, .int .u8 0, .int .u8 0, .int .u8 0, .int .u8 0, .int .u8 0, .int .u8 0, .int .u8 0, .int .u8 0, .int .u8 0, .int .u8 0, .int .u8 0, .int .u8 0, .int .u8 0, .int .u8 0, .int .u8 0, .int .u8 0, .int .u8 0, .int .u8 0, .int .u8 0, .int .u8 0, .int .u8 0, .int .u8 0, .int .u8 0, .int .u8 0, .int .u8 0, .int .u8 0, .int .u8 0, .int .u8 0, .int .u8 0, .int .u8 0, .int .u8 0, .int .u8 0, .int .i64 0, .int .i64 0, .int .i64 0, .slice none 0 0] 52 by rw [hw1]; exact Cs_newN _ _ _ (by simp))
  have hm : Mod (fun _ => False) w w1 := by rw [hw1]; exact ((Mod.refl _ _).alloc _).alloc _
  have HM0 := hid (show Mod (fun _ => False) w w1 from hm.mono (fun _ _ h => h.elim))
  have hs1 : w1.heap.size = w.heap.size + 2 := by rw [hw1]; simp
  have Hx1 := hid (HS.out.mod hm (fun _ _ h => h))
  clear HS
  clear hw1 hm
  go_upto_region 1 with (fail)
  generalize ha0 : Act.mk _ _ = a0
  have oe1 : a0.eval (.tmp 1) = .pointer (some ⟨w.heap.size, 0, none⟩) := by rw [← ha0]; rfl
  have hsz0 : a0.tmps.size = 8 := by rw [← ha0]; rfl
  have HA0 := hid ha0
  clear ha0
  refine wp_region_Q1 8 hsz0 [3, 4, 5, 6, 12] (fun k => (k = w.heap.size)) (fun k j => (k = 1 ∧ ((j = w.heap.size)))) (fun _ _ h => h.2) [qi (.pointer (some ⟨w.heap.size, 37, none⟩)), qi (.slice ao x.l.length cap), qv 0, qi (.pointer (some ⟨w.heap.size, 37, none⟩)), qv 1] ⟨qi_stable, qi_stable, qv_stable, qi_stable, qv_stable, trivial⟩ [2, 4] ⟨?_, ?_, ?_, ?_, ?_, trivial⟩ ?_
  · exact stq (fun E => ex_field rfl Try.underlying52 rfl (by kernel_rfl) (E.v oe1))
  · refine stepq_env rfl rfl rfl fun _ _ _ _ _ _ hm0 _ _ hd hub _ => ?_
    have h0 := hd ⟨0, .data⟩ (by simp) rfl _ rfl
    refine qe_run rfl (wanted_none rfl) (ex_load1 rfl Try.underlying50 rfl h0 (Cs.post1 (pre := []) (mid := x.c.cells) (post := [.slice ao x.l.length cap]) (m := 37) (k := 0) (HB1.out.mod hm0 (by intro h2; have hu := hub 1 4 rfl (by kernel_rfl); rcases h2 with ⟨h0, kk, hk, h2⟩ | h2 <;> omega)) (Cm.len HOK.out.2.1) rfl rfl)) QE.refl ?_
    rfl
  · exact stepq_chain rfl
  · exact stq (fun E => ex_field rfl Try.underlying52 rfl (by kernel_rfl) (E.v oe1))
  · exact stepq_chain rfl
  intro u1_0 hr
  have zu1_0 := hr.size
  have Cx2 := hid (hr.new (S := (fun k => (k = w.heap.size))))
  have Hx3 := hid (HB1.out.mod hr (by intro h2; omega))
  clear HB1
  clear hr
  refine QChain.go fun Z act E => ?_
  refine qc_callF (args := #[.slice ao x.l.length cap, .int .i64 5]) rfl (wanted_none rfl) rfl Try.func72 (args2 (E.d 1) rfl) (Cut_St _ _ x.l 5 _ (Hx1.out.mod Cx2.out (by intro k h1 h2; have hb := HBT.out k h1; omega)) (by intro k h1; have hb := HBT.out k h1; omega) (by omega)) ?_
  rintro e u1_1a ⟨v', rfl, qout, hm⟩
  obtain ⟨ao', cap', rfl⟩ := qout.shape
  have zu1_1a := hm.size
  refine ⟨_, rfl, hm.mono (fun _ _ h => h.elim), (fun _ => rfl), ?_⟩
  intro u1_1 hr
  have zu1_1 := hr.size
  have Hx4 := hid ((qout.widen (R' := (fun k => (New u1_0 u1_1a k))) (E' := (fun k => (R2 k))) (fun _ h => h) (fun _ h => h)).mod hr (by intro k h1 h2; omega) (by intro k h1 h2; have hb := HBT.out k h1; omega))
  have hmr := Mod.after hm hr
  have Hx5 := hid (Hx3.out.mod hmr (by intro h2; omega))
  clear Hx3
  clear hmr
  have Cx6 := hid (Cx2.out.go hm hr)
  clear Cx2 hm hr Z act E qout
  refine QChain.go fun Z act E => ?_
  refine qc_store rfl (wanted_none rfl) rfl Hx5.out (off := 37) (vs := [Value.slice ao' (x.l.take 5).length cap']) (by kernel_rfl) (by intro u hu; simp at hu; subst hu; rfl) (by simp [Ce.cells, Cm.len HOK.out.2.1]) (E.d 3) (by rw [show act.eval ((.tmp 5)) = _ from (chv (v := .slice ao' (x.l.take 5).length cap') (E.d 2))]; rfl) ?_
  intro u1_2a qc0 hm
  have qB1 : Cs u1_2a (w.heap.size) ((x.c.cells ++ [Value.slice ao' (x.l.take 5).length cap']) : List Value).toArray 52 := by rw [show lay _ 37 _ = ((x.c.cells ++ [Value.slice ao' (x.l.take 5).length cap']) : List Value).toArray from lay_l x.c _ _ HOK.out.2.1] at qc0; exact qc0
  clear qc0
  have zu1_2a := hm.size
  refine ⟨hm.mono (by intro k hk h; omega), (fun _ => rfl), ?_⟩
  intro u1_2 hr
  have zu1_2 := hr.size
  have Hx7 := hid (qB1.mod hr (by intro h2; omega))
  have hmr := hm.two hr
  have Hx8 := hid (Hx4.out.mod hmr (by intro k h1 h2; omega) (by intro k h1 h2; have hb := HBT.out k h1; omega))
  clear Hx4
  clear hmr
  have Cx9 := hid (Cx6.out.goM hm hr (fun _ _ h => h))
  clear Cx6 hm hr Z act E qB1 Hx5
  refine QChain.nil fun vs hl hzz hrows hne => ?_
  obtain ⟨Z, hYZ, hZb, hV⟩ := hzz
  have f2 := fvc hV hl 2
  rw [show vs = [gw vs 0, gw vs 1, gw vs 2, gw vs 3, gw vs 4] from (gw_eta hl).trans rfl]
  have ha0 := HA0.out
  subst ha0
  clear HA0 hV hYZ hZb hsz0 hrows hne oe1
  simp only [putAll, Act.put, List.setIfInBounds_toArray, List.set_cons_zero, List.set_cons_succ, List.set_nil, f2]
  clear hl f2
  go_upto_region 2 with (fail)
  generalize ha0 : Act.mk _ _ = a0
  have oe1 : a0.eval (.tmp 1) = .pointer (some ⟨w.heap.size, 0, none⟩) := by rw [← ha0]; rfl
  have oe2 : a0.eval (.tmp 2) = .pointer (some ⟨w.heap.size + 1, 0, none⟩) := by rw [← ha0]; rfl
  have hsz0 : a0.tmps.size = 8 := by rw [← ha0]; rfl
  have HA0 := hid ha0
  clear ha0
  refine wp_region_Q1 8 hsz0 [7, 9] (fun k => (k = w.heap.size + 1)) (fun k j => (k = 0 ∧ ((j = w.heap.size + 1)))) (fun _ _ h => h.2) [qi (.agg (x.c.cells ++ [Value.slice ao' (x.l.take 5).length cap']).toArray), qv 0] ⟨qi_stable, qv_stable, trivial⟩ [1] ⟨?_, ?_, trivial⟩ ?_
  · exact stq (fun E => ex_loadA rfl Try.underlying52 rfl (off := 0) (cs := x.c.cells ++ [Value.slice ao' (x.l.take 5).length cap']) (by rw [List.length_append, Cm.len HOK.out.2.1]; exact size_ce) (E.v oe1) (Cs.whole (Hx7.out.mod E.m (by intro h2; omega))))
  · exact stepq_chain rfl
  intro u2_0 hr
  have zu2_0 := hr.size
  have Cx10 := hid (hr.new (S := (fun k => (k = w.heap.size + 1))))
  have Hx11 := hid ((HB2.out.mod Cx9.out (by intro h2; omega)).mod hr (by intro h2; omega))
  clear HB2
  clear hr
  refine QChain.go fun Z act E => ?_
  refine qc_store rfl (wanted_none rfl) rfl Hx11.out (off := 0) (vs := (x.c.cells ++ [Value.slice ao' (x.l.take 5).length cap'])) (by rw [List.length_append, Cm.len HOK.out.2.1]; exact size_ce) (one_ce _ _ rfl) (by simp [Cm.len HOK.out.2.1]) (E.v oe2) (by rw [show act.eval ((.tmp 7)) = _ from (E.d 0)]; rfl) ?_
  intro u2_1a qc0 hm
  have qB2 : Cs u2_1a (w.heap.size + 1) ((x.c.cells ++ [Value.slice ao' (x.l.take 5).length cap']) : List Value).toArray 52 := by rw [show lay _ 0 _ = ((x.c.cells ++ [Value.slice ao' (x.l.take 5).length cap']) : List Value).toArray from lay_whole _ _ (by simp [Cm.len HOK.out.2.1])] at qc0; exact qc0
  clear qc0
  have zu2_1a := hm.size
  refine ⟨hm.mono (by intro k hk h; omega), (fun _ => rfl), ?_⟩
  intro u2_1 hr
  have zu2_1 := hr.size
  have Hx12 := hid (qB2.mod hr (by intro h2; omega))
  have Cx13 := hid (Cx10.out.goM hm hr (fun _ _ h => h))
  clear Cx10 hm hr Z act E qB2 Hx11
  refine QChain.nil fun vs hl hzz hrows hne => ?_
  obtain ⟨Z, hYZ, hZb, hV⟩ := hzz
  rw [show vs = [gw vs 0, gw vs 1] from (gw_eta hl).trans rfl]
  have ha0 := HA0.out
  subst ha0
  clear HA0 hV hYZ hZb hsz0 hrows hne oe1 oe2
  simp only [putAll, Act.put, List.setIfInBounds_toArray, List.set_cons_zero, List.set_cons_succ, List.set_nil]
  clear hl
  go_wp2
  have hq := (Hx8.out.mod Cx13.out (by intro k h1 h2; omega) (by intro k h1 h2; have hb := HBT.out k h1; omega))
  refine bodyPost_ret (results_cellA rfl _ _ (w.heap.size + 1) (x.c.cells ++ [Value.slice ao' (x.l.take 5).length cap']) rfl (fun k u hu => by rw [Hx12.out.cell]; simpa using hu) Try.underlying52 rfl (by rw [List.length_append, Cm.len HOK.out.2.1]; exact size_ce)) rfl ⟨_, rfl, ⟨_, rfl, HOK.out, hq.rd.widen ?_⟩, ((HM0.out.trans Cx9.out (by intro k h1 h2; omega)).trans Cx13.out (by intro k h1 h2; omega))⟩
  intro k h
  (try dsimp only at h ⊢)
  rcases h with h | h
  · right; omega
  · exact Or.inl h
set_option maxHeartbeats 4000000 in
theorem LPromise_c : CutR PmR 23 cutPm := by
  intro R2 x cs w hx hB2
  obtain ⟨v_l, rfl, hok, hs0⟩ := hx
  obtain ⟨ao, cap, rfl⟩ := hs0.shape
  have HS := Lib.hid hs0
  have HBT := Lib.hid hB2
  have HOK := Lib.hid hok
  clear hs0 hB2 hok
  go_enter Try.func23, Try.ntmps23
  go_upto_region 1 with (fail)
  obtain ⟨w1, hw1⟩ : ∃ zz, zz = ((w.alloc (.cells (x.cells (.slice ao x.l.length cap) : List Value).toArray 55)).alloc (.cells #[.int .i64 0, .int .i64 0, .int .u64 0, .slice none 0 0, .int .i64 0, .int .i64 0] 55)) := ⟨_, rfl⟩
  change Code.wp _ _ _ _ ((w.alloc (.cells (x.cells (.slice ao x.l.length cap) : List Value).toArray 55)).alloc (.cells #[.int .i64 0, .int .i64 0, .int .u64 0, .slice none 0 0, .int .i64 0, .int .i64 0] 55))
  rw [← hw1]
  have HB1 := hid (show Cs w1 (w.heap.size) (x.cells (.slice ao x.l.length cap) : List Value).toArray 55 by rw [hw1]; exact (Cs.new _ _ _).alloc _)
  have HB2 := hid (show Cs w1 (w.heap.size + 1) #[.int .i64 0, .int .i64 0, .int .u64 0, .slice none 0 0, .int .i64 0, .int .i64 0] 55 by rw [hw1]; exact Cs_newN _ _ _ (by simp))
  have hm : Mod (fun _ => False) w w1 := by rw [hw1]; exact ((Mod.refl _ _).alloc _).alloc _
  have HM0 := hid (show Mod (fun _ => False) w w1 from hm.mono (fun _ _ h => h.elim))
  have hs1 : w1.heap.size = w.heap.size + 2 := by rw [hw1]; simp
  have Hx1 := hid (HS.out.mod hm (fun _ _ h => h))
  clear HS
  clear hw1 hm
  go_wp2
  go_loopw [3, 4] (fun ta ti wr => ∃ k : Nat, ti = .int .i64 (k : Int) ∧ k ≤ x.l.length ∧ k ≤ 3 ∧ w1.heap.size ≤ wr.heap.size ∧ OwS CeR 52 (fun b => w1.heap.size ≤ b ∧ b < wr.heap.size) (fun b => R2 b ∨ (w1.heap.size ≤ b ∧ b < wr.heap.size)) wr ta ((x.l.take k).map cutCe) ∧ RdS CeR R2 wr (.slice ao x.l.length cap) x.l ∧ Cs wr (w.heap.size) (x.cells (.slice ao x.l.length cap) : List Value).toArray 55 ∧ Cs wr (w.heap.size + 1) #[.int .i64 0, .int .i64 0, .int .u64 0, .slice none 0 0, .int .i64 0, .int .i64 0] 55 ∧ Mod (fun _ => False) w wr) (fun _ ti _ => x.l.length - (intOf ti).toNat)
  case atStart => exact ⟨0, rfl, Nat.zero_le _, Nat.zero_le _, Nat.le_refl _, OwS.nil _ _ _ _ _, Hx1.out, HB1.out, HB2.out, HM0.out⟩
  case round =>
    obtain ⟨k1, rfl, hk, hkN, hz, ha, hk_0, hk_1, hk_2, hm⟩ := hrel
    obtain ⟨wl1, rfl⟩ : ∃ x, x = wr := ⟨_, rfl⟩
    obtain ⟨aol1, capl1, rfl⟩ := ha.shape
    have HAL1 := Lib.hid ha
    have HKL1_0 := Lib.hid hk_0
    have HKL1_1 := Lib.hid hk_1
    have HKL1_2 := Lib.hid hk_2
    have HML1 := Lib.hid hm
    clear ha hm hk_0 hk_1 hk_2 Hx1 HB1 HB2 HM0
    by_cases hlt1 : k1 < x.l.length ∧ k1 < 3
    · obtain ⟨hlt1, hlN1⟩ := hlt1
      go_upto_region 3 with (fail)
      generalize ha0 : Act.mk _ _ = a0
      have oe1 : a0.eval (.tmp 1) = .pointer (some ⟨w.heap.size, 0, none⟩) := by rw [← ha0]; rfl
      have oe4 : a0.eval (.tmp 4) = .int .i64 ((k1 : Nat) : Int) := by rw [← ha0]; rfl
      have hsz0 : a0.tmps.size = 28 := by rw [← ha0]; rfl
      have HA0 := hid ha0
      clear ha0
      refine wp_region_Q0 28 hsz0 [5, 6, 7, 8, 9, 10, 11, 12, 13] [qi (.int .i64 ((k1 : Nat) : Int)), qi (.pointer (some ⟨w.heap.size, 3, none⟩)), qi (.slice ao x.l.length cap), qi (.int .i64 x.l.length), qi (.bool true), qi (.bool true), qi (.int .i64 ((k1 : Nat) : Int)), qi (.bool true), qi (.bool true)] ⟨qi_stable, qi_stable, qi_stable, qi_stable, qi_stable, qi_stable, qi_stable, qi_stable, qi_stable, trivial⟩ [] ⟨?_, ?_, ?_, ?_, ?_, ?_, ?_, ?_, ?_, trivial⟩ ?_
      · exact stq (fun E => ex_move rfl (E.v oe4))
      · exact stq (fun E => ex_field rfl Try.underlying55 rfl (by kernel_rfl) (E.v oe1))
      · exact stq (fun E => ex_load1 rfl Try.underlying53 rfl (E.d 1) (Cs.lit1 (HKL1_1.out.mod E.m.old (by intro h2; omega)) rfl))
      · exact stq (fun E => ex_lenS rfl (E.d 2) Try.underlying53)
      · exact stq (fun E => ex_binE rfl (E.d 0) (E.d 3) (guard_ints _ _ _ _ _ _) (run_lss_i _ _ _ Try.underlying3) (congrArg Value.bool (decide_eq_true (by omega))))
      · exact stq (fun E => ex_move rfl (E.d 4))
      · refine stepq_env rfl rfl rfl fun _ _ _ _ _ _ _ hout hsz hd _ _ => ?_
        have h5 := hd ⟨5, .guard⟩ (by simp) rfl _ rfl
        refine qe_run rfl ((wanted_of rfl rfl (hsz 10 (by decide)) h5).trans rfl) (ex_move rfl ((hout 4 (by decide)).trans oe4)) QE.refl ?_
        rfl
      · refine stepq_env rfl rfl rfl fun _ _ _ _ _ _ _ _ hsz hd _ _ => ?_
        have h5 := hd ⟨5, .guard⟩ (by simp) rfl _ rfl
        have h6 := hd ⟨6, .data⟩ (by simp) rfl _ rfl
        refine qe_run rfl ((wanted_of rfl rfl (hsz 10 (by decide)) h5).trans rfl) (ex_binE rfl h6 rfl (guard_ints _ _ _ _ _ _) (run_lss_i _ _ _ Try.underlying3) (congrArg Value.bool (decide_eq_true (by omega)))) QE.refl ?_
        rfl
      · exact stq (fun E => ex_pick rfl (E.d 5) (E.d 7) rfl)
      intro u3_0 hr
      have zu3_0 := hr.size
      have Cx2 := hid (hr.new (S := (fun _ => False)))
      clear hr
      refine QChain.nil fun vs hl hzz hrows hne => ?_
      obtain ⟨Z, hYZ, hZb, hV⟩ := hzz
      have f0 := fvi hV hl 0
      have f3 := fvi hV hl 3
      have f5 := fvi hV hl 5
      have f6 := fvi hV hl 6
      have f8 := fvi hV hl 8
      rw [show vs = [gw vs 0, gw vs 1, gw vs 2, gw vs 3, gw vs 4, gw vs 5, gw vs 6, gw vs 7, gw vs 8] from (gw_eta hl).trans rfl]
      have ha0 := HA0.out
      subst ha0
      clear HA0 hV hYZ hZb hsz0 hrows hne oe1 oe4
      simp only [putAll, Act.put, List.setIfInBounds_toArray, List.set_cons_zero, List.set_cons_succ, f0, f3, f5, f6, f8]
      clear hl f0 f3 f5 f6 f8
      have hat := (HKL1_0.out.mod Cx2.out (fun _ _ h => h)).at hlt1
      obtain ⟨g1, o1, cs1, eao, hrg, hrd, hcs⟩ := hat
      subst eao
      have hcl : cs1.length = 38 := CeR.len hrd
      have HCL1 := Lib.hid hcl
      have HAT1 := hid (show CellsAt R2 u3_0 g1 (o1 + k1 * 38) cs1 from ⟨hrg, hcs⟩)
      have HRD1 := Lib.hid hrd
      have HOC1 := hid (CeR.one hrd)
      clear hcl hcs hrd hrg
      have HE1 : Hid (((x.l.take k1).map cutCe) ++ [cutCe x.l[k1]] = (x.l.take (k1 + 1)).map cutCe) := hid (by rw [List.take_succ_eq_append_getElem hlt1, List.map_append]; rfl)
      have HLN1 : Hid (((x.l.take k1).map cutCe).length = k1) := hid (by rw [List.length_map, List.length_take]; omega)
      go_upto_region 5 with (fail)
      generalize ha0 : Act.mk _ _ = a0
      have oe1 : a0.eval (.tmp 1) = .pointer (some ⟨w.heap.size, 0, none⟩) := by rw [← ha0]; rfl
      have oe3 : a0.eval (.tmp 3) = .slice aol1 ((x.l.take k1).map cutCe).length capl1 := by rw [← ha0]; rfl
      have oe4 : a0.eval (.tmp 4) = .int .i64 ((k1 : Nat) : Int) := by rw [← ha0]; rfl
      have hsz0 : a0.tmps.size = 28 := by rw [← ha0]; rfl
      have HA0 := hid ha0
      clear ha0
      refine wp_region_Q1 28 hsz0 [16, 17, 18, 19, 20, 21, 22, 23, 24, 3] (fun k => (New w1 wl1 k)) (fun k j => (k = 2 ∧ ((New w1 wl1 j)))) (fun _ _ h => h.2) [qi (.slice aol1 ((x.l.take k1).map cutCe).length capl1), qi (.pointer (some ⟨w.heap.size, 3, none⟩)), qi (.slice (some ⟨g1, o1, none⟩) x.l.length cap), qi (.int .i64 ((k1 : Nat) : Int)), qi (.pointer (some ⟨g1, o1 + k1 * 38, none⟩)), qi (.agg cs1.toArray), qv 0, qv 1, qv 2, qv 2] ⟨qi_stable, qi_stable, qi_stable, qi_stable, qi_stable, qi_stable, qv_stable, qv_stable, qv_stable, qv_stable, trivial⟩ [6, 7, 8] ⟨?_, ?_, ?_, ?_, ?_, ?_, ?_, ?_, ?_, ?_, trivial⟩ ?_
      · exact stq (fun E => ex_move rfl ((E.pre 9 3 rfl (by kernel_rfl)).trans oe3))
      · exact stq (fun E => ex_field rfl Try.underlying55 rfl (by kernel_rfl) (E.v oe1))
      · exact stq (fun E => ex_load1 rfl Try.underlying53 rfl (E.d 1) (Cs.lit1 ((HKL1_1.out.mod Cx2.out (fun h => h)).mod E.m (by intro h2; omega)) rfl))
      · exact stq (fun E => ex_move rfl (E.v oe4))
      · exact stq (fun E => ex_idxS (i := k1) (s := 38) rfl Try.underlying53 (by kernel_rfl) (E.d 2) (E.d 3) hlt1)
      · exact stq (fun E => ex_loadA rfl Try.underlying52 rfl (off := o1 + k1 * 38) (cs := cs1) (by rw [HCL1.out]; kernel_rfl) (E.d 4) (fun j u hu => ((HAT1.out.mod E.m (by intro k h1 h2; rcases h2 with ⟨h0, h2⟩ | h2 <;> (first | omega | (have hb := HBT.out k h1; omega))))).2 j u hu))
      · exact stepq_chain rfl
      · exact stepq_chain rfl
      · exact stepq_chain rfl
      · refine stepq_env rfl rfl rfl fun _ _ _ _ _ _ _ _ _ hd _ _ => ?_
        have h8 := hd ⟨8, .data⟩ (by simp) rfl _ rfl
        exact qe_run rfl (wanted_none rfl) (ex_assign rfl rfl) QE.refl h8
      intro u5_0 hr
      have zu5_0 := hr.size
      have Cx3 := hid (hr.new (S := (fun k => (New w1 wl1 k))))
      have Hx4 := hid ((HAL1.out.mod Cx2.out (fun _ _ h => h) (fun _ _ h => h)).mod hr (by intro k h1 h2; omega) (by intro k h1 h2; rcases h1 with h1 | h1 <;> first | omega | (have hb := HBT.out k h1; omega)))
      clear HAL1
      clear hr
      refine QChain.go fun Z act E => ?_
      refine qc_callF (args := #[.agg cs1.toArray]) rfl (wanted_none rfl) rfl Try.func21 (args1 (E.d 5)) (LCert_c _ _ _ _ (HRD1.out.mod Cx3.out (by intro k h1 h2; have hb := HBT.out k h1; omega)) (by intro k h1; have hb := HBT.out k h1; omega)) ?_
      rintro e u5_1a ⟨cs', rfl, qel, hm⟩
      have zu5_1a := hm.size
      refine ⟨_, rfl, hm.mono (fun _ _ h => h.elim), (fun _ => rfl), ?_⟩
      intro u5_1 hr
      have zu5_1 := hr.size
      have Hx5 := hid ((qel.widen (R' := (fun k => (R2 k) ∨ (New u5_0 u5_1a k))) (fun _ h => h)).mod hr (by intro k h1 h2; rcases h1 with h1 | h1 <;> first | omega | (have hb := HBT.out k h1; omega)))
      have hmr := Mod.after hm hr
      have Hx6 := hid (Hx4.out.mod hmr (by intro k h1 h2; omega) (by intro k h1 h2; rcases h1 with h1 | h1 <;> first | omega | (have hb := HBT.out k h1; omega)))
      clear Hx4
      clear hmr
      have Cx7 := hid (Cx3.out.go hm hr)
      clear Cx3 hm hr Z act E qel HRD1
      refine QChain.go fun Z act E => ?_
      refine qc_buildS (e := 52) (cs := cs') (zc := [.int .i64 0, .int .i64 0, .int .u8 0, .int .u8 0, .int .u8 0, .int .u8 0, .int .u8 0, .int .u8 0, .int .u8 0, .int .u8 0, .int .u8 0, .int .u8 0, .int .u8 0, .int .u8 0, .int .u8 0, .int .u8 0, .int .u8 0, .int .u8 0, .int .u8 0, .int .u8 0, .int .u8 0, .int .u8 0, .int .u8 0, .int .u8 0, .int .u8 0, .int .u8 0, .int .u8 0, .int .u8 0, .int .u8 0, .int .u8 0, .int .u8 0, .int .u8 0, .int .u8 0, .int .u8 0, .int .i64 0, .int .i64 0, .int .i64 0, .slice none 0 0]) (sz := 38) rfl (wanted_none rfl) rfl Try.underlying53 (by kernel_rfl) rfl (by decide) (by decide) (chv (v := .agg cs'.toArray) (E.d 6)) (CeR.len Hx5.out) ?_
      intro u5_2a qrow hm
      have zl5_7 := qrow.lt
      have zu5_2a := hm.size
      refine ⟨hm.mono (fun _ _ h => h.elim), (fun _ => rfl), ?_⟩
      intro u5_2 hr
      have zu5_2 := hr.size
      have Hx8 := hid (qrow.mod hr (by intro h2; omega))
      have hmr := Mod.after hm hr
      have Hx9 := hid (Hx6.out.mod hmr (by intro k h1 h2; omega) (by intro k h1 h2; rcases h1 with h1 | h1 <;> first | omega | (have hb := HBT.out k h1; omega)))
      have Hx10 := hid (Hx5.out.mod hmr (by intro k h1 h2; rcases h1 with h1 | h1 <;> first | omega | (have hb := HBT.out k h1; omega)))
      clear Hx6 Hx5
      clear hmr
      have Cx11 := hid (Cx7.out.go hm hr)
      clear Cx7 hm hr Z act E qrow
      refine QChain.go fun Z act E => ?_
      refine qc_appS (A := CeR) (e := 52) rfl (wanted_none rfl) rfl (.agg #[.int .i64 0, .int .i64 0, .int .u8 0, .int .u8 0, .int .u8 0, .int .u8 0, .int .u8 0, .int .u8 0, .int .u8 0, .int .u8 0, .int .u8 0, .int .u8 0, .int .u8 0, .int .u8 0, .int .u8 0, .int .u8 0, .int .u8 0, .int .u8 0, .int .u8 0, .int .u8 0, .int .u8 0, .int .u8 0, .int .u8 0, .int .u8 0, .int .u8 0, .int .u8 0, .int .u8 0, .int .u8 0, .int .u8 0, .int .u8 0, .int .u8 0, .int .u8 0, .int .u8 0, .int .u8 0, .int .i64 0, .int .i64 0, .int .i64 0, .slice none 0 0]) 96 Try.underlying53 info_Ce (by rfl) (of_decide_eq_true (by kernel_rfl)) (E.d 0) (chv (v := .slice (some ⟨u5_1.heap.size, 0, none⟩) 1 1) (E.d 7)) (Hx9.out) (RdS.single (R := (fun k => (R2 k) ∨ (New u5_0 u5_1a k) ∨ (k = u5_1.heap.size))) Hx8.out (Hx10.out.widen (by intro k h1; rcases h1 with h1 | h1 <;> first | omega | exact h1.elim | exact Or.inl h1 | exact Or.inr (Or.inl h1) | exact Or.inr (Or.inr (h1)))) (by first | exact Or.inr rfl | exact Or.inr (Or.inr rfl) | (right; omega))) (by intro k h1 h2; rcases h1 with h1 | h1 | h1 <;> first | omega | (have hb := HBT.out k h1; omega)) (by rw [HLN1.out]; simp only [List.length_cons, List.length_nil]; omega) (by rw [HLN1.out, maxLen_val]; simp only [List.length_cons, List.length_nil]; omega) ?_
      intro ao8 cap8 u5_3a qacc hm
      have zu5_3a := hm.size
      refine ⟨hm.mono (by intro k hk h; omega), (fun _ => rfl), ?_⟩
      intro u5_3 hr
      have zu5_3 := hr.size
      have Hx12 := hid ((qacc.widen (R' := (fun k => (New w1 wl1 k) ∨ (New u5_2 u5_3a k))) (E' := (fun k => (R2 k) ∨ (New w1 wl1 k) ∨ (New u5_0 u5_1a k) ∨ (k = u5_1.heap.size))) (fun _ h => h) (by intro k h1; rcases h1 with (h1 | h1) | (h1 | h1 | h1) <;> first | omega | exact h1.elim | exact Or.inl h1 | exact Or.inr (Or.inl h1) | exact Or.inr (Or.inr (Or.inl h1)) | exact Or.inr (Or.inr (Or.inr (h1))))).mod hr (by intro k h1 h2; omega) (by intro k h1 h2; rcases h1 with h1 | h1 | h1 | h1 <;> first | omega | (have hb := HBT.out k h1; omega)))
      have hmr := hm.two hr
      have Hx13 := hid (Hx10.out.mod hmr (by intro k h1 h2; rcases h1 with h1 | h1 <;> first | omega | (have hb := HBT.out k h1; omega)))
      have Hx14 := hid (Hx8.out.mod hmr (by intro h2; omega))
      clear Hx10 Hx8
      clear hmr
      have Cx15 := hid (Cx11.out.goM hm hr (fun _ _ h => h))
      clear Cx11 hm hr Z act E qacc Hx9
      refine QChain.nil fun vs hl hzz hrows hne => ?_
      obtain ⟨Z, hYZ, hZb, hV⟩ := hzz
      have f0 := fvi hV hl 0
      have f3 := fvi hV hl 3
      have f6 := fvc hV hl 6
      have f7 := fvc hV hl 7
      have f8 := fvc hV hl 8
      have f9 := fvc hV hl 9
      rw [show vs = [gw vs 0, gw vs 1, gw vs 2, gw vs 3, gw vs 4, gw vs 5, gw vs 6, gw vs 7, gw vs 8, gw vs 9] from (gw_eta hl).trans rfl]
      have ha0 := HA0.out
      subst ha0
      clear HA0 hV hYZ hZb hsz0 hrows hne oe1 oe3 oe4
      simp only [putAll, Act.put, List.setIfInBounds_toArray, List.set_cons_zero, List.set_cons_succ, f0, f3, f6, f7, f8, f9]
      clear hl f0 f3 f6 f7 f8 f9
      have hq := Hx12.out
      rw [HE1.out] at hq
      have HQ1 := Lib.hid hq
      clear hq
      go_wp2
      go_roundw
      case rel => exact ⟨k1 + 1, by go_num, by omega, by omega, by omega, (HQ1.out.widen (by intro b h1; omega) (by intro k h1; rcases h1 with h1 | h1 | h1 | h1 <;> first | omega | exact h1.elim | exact Or.inl h1 | exact Or.inr (h1))), ((HKL1_0.out.mod Cx2.out (fun _ _ h => h)).mod Cx15.out (by intro k h1 h2; have hb := HBT.out k h1; omega)), ((HKL1_1.out.mod Cx2.out (fun h => h)).mod Cx15.out (by intro h2; omega)), ((HKL1_2.out.mod Cx2.out (fun h => h)).mod Cx15.out (by intro h2; omega)), ((HML1.out.trans Cx2.out (fun _ _ h => h.elim)).trans Cx15.out (by intro k h1 h2; omega))⟩
      case measure => simp [intOf]; omega
    · skip
      obtain ⟨bA1, hbA1⟩ : ∃ b : Bool, b = decide (((k1 : Nat) : Int) < (x.l.length : Int)) := ⟨_, rfl⟩
      obtain ⟨bB1, hbB1⟩ : ∃ b : Bool, b = decide (((k1 : Nat) : Int) < 3) := ⟨_, rfl⟩
      go_upto_region 3 with (fail)
      generalize ha0 : Act.mk _ _ = a0
      have oe1 : a0.eval (.tmp 1) = .pointer (some ⟨w.heap.size, 0, none⟩) := by rw [← ha0]; rfl
      have oe4 : a0.eval (.tmp 4) = .int .i64 ((k1 : Nat) : Int) := by rw [← ha0]; rfl
      have hsz0 : a0.tmps.size = 28 := by rw [← ha0]; rfl
      have HA0 := hid ha0
      clear ha0
      refine wp_region_Q0 28 hsz0 [5, 6, 7, 8, 9, 10, 11, 12, 13] [qi (.int .i64 ((k1 : Nat) : Int)), qi (.pointer (some ⟨w.heap.size, 3, none⟩)), qi (.slice ao x.l.length cap), qi (.int .i64 x.l.length), qi (.bool bA1), qi (.bool bA1), qc bA1 (qi (.int .i64 ((k1 : Nat) : Int))), qc bA1 (qi (.bool bB1)), qi (.bool (bA1 && bB1))] ⟨qi_stable, qi_stable, qi_stable, qi_stable, qi_stable, qi_stable, (qc_stable qi_stable), (qc_stable qi_stable), qi_stable, trivial⟩ [] ⟨?_, ?_, ?_, ?_, ?_, ?_, ?_, ?_, ?_, trivial⟩ ?_
      · exact stq (fun E => ex_move rfl (E.v oe4))
      · exact stq (fun E => ex_field rfl Try.underlying55 rfl (by kernel_rfl) (E.v oe1))
      · exact stq (fun E => ex_load1 rfl Try.underlying53 rfl (E.d 1) (Cs.lit1 (HKL1_1.out.mod E.m.old (by intro h2; omega)) rfl))
      · exact stq (fun E => ex_lenS rfl (E.d 2) Try.underlying53)
      · exact stq (fun E => ex_binE rfl (E.d 0) (E.d 3) (guard_ints _ _ _ _ _ _) (run_lss_i _ _ _ Try.underlying3) (congrArg Value.bool hbA1.symm))
      · exact stq (fun E => ex_move rfl (E.d 4))
      · refine stepq_env rfl rfl rfl fun _ _ _ _ _ _ _ hout hsz hd _ _ => ?_
        have h5 := hd ⟨5, .guard⟩ (by simp) rfl _ rfl
        refine qe_guard rfl (b := bA1) ((wanted_of rfl rfl (hsz 10 (by decide)) h5).trans (by simp)) rfl (fun hb l' hl' => ?_)
        refine qe_run rfl ((wanted_of rfl rfl (hsz 10 (by decide)) h5).trans (by first | exact hb | simpa using hb)) (ex_move rfl ((hout 4 (by decide)).trans oe4)) QE.refl ?_
        rw [hl']; rfl
      · refine stepq_env rfl rfl rfl fun _ _ _ _ _ _ _ _ hsz hd _ _ => ?_
        have h5 := hd ⟨5, .guard⟩ (by simp) rfl _ rfl
        have h6 := hd ⟨6, .data⟩ (by simp) rfl _ rfl
        refine qe_guard rfl (b := bA1) ((wanted_of rfl rfl (hsz 10 (by decide)) h5).trans (by simp)) rfl (fun hb l' hl' => ?_)
        refine qe_run rfl ((wanted_of rfl rfl (hsz 10 (by decide)) h5).trans (by first | exact hb | simpa using hb)) (ex_binE rfl (h6.1 hb) rfl (guard_ints _ _ _ _ _ _) (run_lss_i _ _ _ Try.underlying3) (congrArg Value.bool hbB1.symm)) QE.refl ?_
        rw [hl']; rfl
      · exact stq (fun E => ex_pickE rfl (E.d 5) rfl rfl (and_val fun hb => (E.d 7).1 hb))
      intro u3_0 hr
      have zu3_0 := hr.size
      have Cx16 := hid (hr.new (S := (fun _ => False)))
      clear hr
      refine QChain.nil fun vs hl hzz hrows hne => ?_
      obtain ⟨Z, hYZ, hZb, hV⟩ := hzz
      have f0 := fvi hV hl 0
      have f3 := fvi hV hl 3
      have f5 := fvi hV hl 5
      have f8 := fvi hV hl 8
      rw [show vs = [gw vs 0, gw vs 1, gw vs 2, gw vs 3, gw vs 4, gw vs 5, gw vs 6, gw vs 7, gw vs 8] from (gw_eta hl).trans rfl]
      have ha0 := HA0.out
      subst ha0
      clear HA0 hV hYZ hZb hsz0 hrows hne oe1 oe4
      simp only [putAll, Act.put, List.setIfInBounds_toArray, List.set_cons_zero, List.set_cons_succ, f0, f3, f5, f8]
      clear hl f0 f3 f5 f8
      rw [show (bA1 && bB1) = false by rw [hbA1, hbB1, Bool.and_eq_false_iff, decide_eq_false_iff_not, decide_eq_false_iff_not]; omega]
      have HTK1 := hid (show x.l.take k1 = x.l.take 3 from take_two (by omega) (by omega))
      go_upto_region 6 with (fail)
      generalize ha0 : Act.mk _ _ = a0
      have oe1 : a0.eval (.tmp 1) = .pointer (some ⟨w.heap.size, 0, none⟩) := by rw [← ha0]; rfl
      have oe3 : a0.eval (.tmp 3) = .slice aol1 ((x.l.take k1).map cutCe).length capl1 := by rw [← ha0]; rfl
      have hsz0 : a0.tmps.size = 28 := by rw [← ha0]; rfl
      have HA0 := hid ha0
      clear ha0
      refine wp_region_Q1 28 hsz0 [25, 26, 30] (fun k => (k = w.heap.size)) (fun k j => (k = 0 ∧ ((j = w.heap.size)))) (fun _ _ h => h.2) [qi (.slice aol1 ((x.l.take k1).map cutCe).length capl1), qi (.pointer (some ⟨w.heap.size, 3, none⟩)), qv 0] ⟨qi_stable, qi_stable, qv_stable, trivial⟩ [2] ⟨?_, ?_, ?_, trivial⟩ ?_
      · exact stq (fun E => ex_move rfl (E.v oe3))
      · exact stq (fun E => ex_field rfl Try.underlying55 rfl (by kernel_rfl) (E.v oe1))
      · exact stepq_chain rfl
      intro u6_0 hr
      have zu6_0 := hr.size
      have Cx17 := hid (hr.new (S := (fun k => (k = w.heap.size))))
      have Hx18 := hid ((HKL1_1.out.mod Cx16.out (fun h => h)).mod hr (by intro h2; omega))
      clear HKL1_1
      clear hr
      refine QChain.go fun Z act E => ?_
      refine qc_store rfl (wanted_none rfl) rfl Hx18.out (off := 3) (vs := [Value.slice aol1 ((x.l.take k1).map cutCe).length capl1]) (by kernel_rfl) (by intro u hu; simp at hu; subst hu; rfl) (by simp) (E.d 1) (by rw [show act.eval ((.tmp 25)) = _ from (E.d 0)]; rfl) ?_
      intro u6_1a qc0 hm
      have qB1 : Cs u6_1a (w.heap.size) #[.int .i64 x.rp, .int .i64 x.ep, .int .u64 (x.fl : Nat), Value.slice aol1 ((x.l.take k1).map cutCe).length capl1, .int .i64 x.sb, .int .i64 x.mr] 55 := by rw [show lay _ 3 _ = #[.int .i64 x.rp, .int .i64 x.ep, .int .u64 (x.fl : Nat), Value.slice aol1 ((x.l.take k1).map cutCe).length capl1, .int .i64 x.sb, .int .i64 x.mr] from rfl] at qc0; exact qc0
      clear qc0
      have zu6_1a := hm.size
      refine ⟨hm.mono (by intro k hk h; omega), (fun _ => rfl), ?_⟩
      intro u6_1 hr
      have zu6_1 := hr.size
      have Hx19 := hid (qB1.mod hr (by intro h2; omega))
      have Cx20 := hid (Cx17.out.goM hm hr (fun _ _ h => h))
      clear Cx17 hm hr Z act E qB1 Hx18
      refine QChain.nil fun vs hl hzz hrows hne => ?_
      obtain ⟨Z, hYZ, hZb, hV⟩ := hzz
      have f0 := fvi hV hl 0
      rw [show vs = [gw vs 0, gw vs 1, gw vs 2] from (gw_eta hl).trans rfl]
      have ha0 := HA0.out
      subst ha0
      clear HA0 hV hYZ hZb hsz0 hrows hne oe1 oe3
      simp only [putAll, Act.put, List.setIfInBounds_toArray, List.set_cons_zero, List.set_cons_succ, List.set_nil, f0]
      clear hl f0
      go_upto_region 7 with (fail)
      generalize ha0 : Act.mk _ _ = a0
      have oe1 : a0.eval (.tmp 1) = .pointer (some ⟨w.heap.size, 0, none⟩) := by rw [← ha0]; rfl
      have oe2 : a0.eval (.tmp 2) = .pointer (some ⟨w.heap.size + 1, 0, none⟩) := by rw [← ha0]; rfl
      have hsz0 : a0.tmps.size = 28 := by rw [← ha0]; rfl
      have HA0 := hid ha0
      clear ha0
      refine wp_region_Q1 28 hsz0 [27, 29] (fun k => (k = w.heap.size + 1)) (fun k j => (k = 0 ∧ ((j = w.heap.size + 1)))) (fun _ _ h => h.2) [qi (.agg #[.int .i64 x.rp, .int .i64 x.ep, .int .u64 (x.fl : Nat), Value.slice aol1 ((x.l.take k1).map cutCe).length capl1, .int .i64 x.sb, .int .i64 x.mr]), qv 0] ⟨qi_stable, qv_stable, trivial⟩ [1] ⟨?_, ?_, trivial⟩ ?_
      · exact stq (fun E => ex_loadA rfl Try.underlying55 rfl (off := 0) (cs := [.int .i64 x.rp, .int .i64 x.ep, .int .u64 (x.fl : Nat), Value.slice aol1 ((x.l.take k1).map cutCe).length capl1, .int .i64 x.sb, .int .i64 x.mr]) (by kernel_rfl) (E.v oe1) (Cs.whole (Hx19.out.mod E.m (by intro h2; omega))))
      · exact stepq_chain rfl
      intro u7_0 hr
      have zu7_0 := hr.size
      have Cx21 := hid (hr.new (S := (fun k => (k = w.heap.size + 1))))
      have Hx22 := hid (((HKL1_2.out.mod Cx16.out (fun h => h)).mod Cx20.out (by intro h2; omega)).mod hr (by intro h2; omega))
      clear HKL1_2
      clear hr
      refine QChain.go fun Z act E => ?_
      refine qc_store rfl (wanted_none rfl) rfl Hx22.out (off := 0) (vs := [.int .i64 x.rp, .int .i64 x.ep, .int .u64 (x.fl : Nat), Value.slice aol1 ((x.l.take k1).map cutCe).length capl1, .int .i64 x.sb, .int .i64 x.mr]) (by kernel_rfl) (by intro u hu; simp at hu; rcases hu with rfl | rfl | rfl | rfl | rfl | rfl <;> rfl) (by simp) (E.v oe2) (by rw [show act.eval ((.tmp 27)) = _ from (E.d 0)]; rfl) ?_
      intro u7_1a qc0 hm
      have qB2 : Cs u7_1a (w.heap.size + 1) #[.int .i64 x.rp, .int .i64 x.ep, .int .u64 (x.fl : Nat), Value.slice aol1 ((x.l.take k1).map cutCe).length capl1, .int .i64 x.sb, .int .i64 x.mr] 55 := by rw [show lay _ 0 _ = #[.int .i64 x.rp, .int .i64 x.ep, .int .u64 (x.fl : Nat), Value.slice aol1 ((x.l.take k1).map cutCe).length capl1, .int .i64 x.sb, .int .i64 x.mr] from rfl] at qc0; exact qc0
      clear qc0
      have zu7_1a := hm.size
      refine ⟨hm.mono (by intro k hk h; omega), (fun _ => rfl), ?_⟩
      intro u7_1 hr
      have zu7_1 := hr.size
      have Hx23 := hid (qB2.mod hr (by intro h2; omega))
      have Cx24 := hid (Cx21.out.goM hm hr (fun _ _ h => h))
      clear Cx21 hm hr Z act E qB2 Hx22
      refine QChain.nil fun vs hl hzz hrows hne => ?_
      obtain ⟨Z, hYZ, hZb, hV⟩ := hzz
      rw [show vs = [gw vs 0, gw vs 1] from (gw_eta hl).trans rfl]
      have ha0 := HA0.out
      subst ha0
      clear HA0 hV hYZ hZb hsz0 hrows hne oe1 oe2
      simp only [putAll, Act.put, List.setIfInBounds_toArray, List.set_cons_zero, List.set_cons_succ, List.set_nil]
      clear hl
      go_wp2
      have hq := (((HAL1.out.mod Cx16.out (fun _ _ h => h) (fun _ _ h => h)).mod Cx20.out (by intro k h1 h2; omega) (by intro k h1 h2; rcases h1 with h1 | h1 <;> first | omega | (have hb := HBT.out k h1; omega))).mod Cx24.out (by intro k h1 h2; omega) (by intro k h1 h2; rcases h1 with h1 | h1 <;> first | omega | (have hb := HBT.out k h1; omega)))
      refine bodyPost_ret (results_cellA rfl _ _ (w.heap.size + 1) ([.int .i64 x.rp, .int .i64 x.ep, .int .u64 (x.fl : Nat), Value.slice aol1 ((x.l.take k1).map cutCe).length capl1, .int .i64 x.sb, .int .i64 x.mr]) rfl (fun k u hu => by rw [Hx23.out.cell]; simpa using hu) Try.underlying55 rfl (by kernel_rfl)) rfl ⟨_, rfl, ⟨_, rfl, HOK.out, ?_⟩, (((HML1.out.trans Cx16.out (fun _ _ h => h.elim)).trans Cx20.out (by intro k h1 h2; omega)).trans Cx24.out (by intro k h1 h2; omega))⟩
      rw [show (cutPm x).l = (x.l.take k1).map cutCe from congrArg (List.map cutCe) HTK1.out.symm]
      refine hq.rd.widen ?_
      intro k h
      (try dsimp only at h ⊢)
      rcases h with h | h | h
      · right; omega
      · exact Or.inl h
      · right; omega
end Go.Proofs.Ytknpapcfhnhheaa
