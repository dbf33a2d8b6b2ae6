/- Texts that are built one behind the other: XGt2, XZr, XPt2. No condition. -/
import Derived.Test.YtpnikilkcifncaaMhd3
set_option maxRecDepth 100000
set_option linter.unusedVariables false
/- Parts of messages, read. -/
namespace Go.Proofs.Ytpnikilkcifncaa
open Go Go.RowKit Go.Gv

theorem ce_len (x : Ce) (v : Value) (h : x.c.h.length = 32) : (x.cells v).length = 38 := by simp [Ce.cells, Cm.len h]
theorem op_len2 (x : Op) (v : Value) (h : x.nc.length = 32) : (x.cells v).length = 34 := by simp [Op.cells, h]
theorem one_ce2 (x : Ce) (v : Value) (h : v.oneCell' = true) : ∀ u ∈ x.cells v, u.oneCell' = true := by
  intro u hu
  simp only [Ce.cells, List.mem_append, List.mem_cons, List.not_mem_nil, or_false] at hu
  rcases hu with hu | rfl
  · exact Cm_one _ _ hu
  · exact h
theorem one_op2 (x : Op) (v : Value) (h : v.oneCell' = true) : ∀ u ∈ x.cells v, u.oneCell' = true := by
  intro u hu
  simp only [Op.cells, List.mem_append, List.mem_cons, List.not_mem_nil, or_false, List.mem_map] at hu
  rcases hu with (rfl | rfl) | ⟨y, -, rfl⟩
  · rfl
  · exact h
  · rfl
set_option maxHeartbeats 4000000 in
theorem cCe_G : Gets CeR 183 100 gCe := by
  intro R r s w hR hB hl
  have HRD := Lib.hid hR
  have HBR := Lib.hid hB
  have HBY := hid hR.bytes
  clear hR hB
  have HLN := Lib.hid hl
  clear hl
  go_enter Try.func100, Try.ntmps100
  go_upto_region 1 with (fail)
  obtain ⟨w1, hw1⟩ : ∃ zz, zz = (w.alloc (.cells #[.int .i64 0, .int .i64 0, .int .u8 0, .int .u8 0, .int .u8 0, .int .u8 0, .int .u8 0, .int .u8 0, .int .u8 0, .int .u8 0, .int .u8 0, .int .u8 0, .int .u8 0, .int .u8 0, .int .u8 0, .int .u8 0, .int .u8 0, .int .u8 0, .int .u8 0, .int .u8 0, .int .u8 0, .int .u8 0, .int .u8 0, .int .u8 0, .int .u8 0, .int .u8 0, .int .u8 0, .int .u8 0, .int .u8 0, .int .u8 0, .int .u8 0, .int .u8 0, .int .u8 0, .int .u8 0, .int .i64 0, .int .i64 0, .int .i64 0, .slice none 0 0] 84)) := ⟨_, rfl⟩
  change Code.wp _ _ _ _ (w.alloc (.cells #[.int .i64 0, .int .i64 0, .int .u8 0, .int .u8 0, .int .u8 0, .int .u8 0, .int .u8 0, .int .u8 0, .int .u8 0, .int .u8 0, .int .u8 0, .int .u8 0, .int .u8 0, .int .u8 0, .int .u8 0, .int .u8 0, .int .u8 0, .int .u8 0, .int .u8 0, .int .u8 0, .int .u8 0, .int .u8 0, .int .u8 0, .int .u8 0, .int .u8 0, .int .u8 0, .int .u8 0, .int .u8 0, .int .u8 0, .int .u8 0, .int .u8 0, .int .u8 0, .int .u8 0, .int .u8 0, .int .i64 0, .int .i64 0, .int .i64 0, .slice none 0 0] 84))
  rw [← hw1]
  have HB2 := hid (show Cs w1 (w.heap.size) #[.int .i64 0, .int .i64 0, .int .u8 0, .int .u8 0, .int .u8 0, .int .u8 0, .int .u8 0, .int .u8 0, .int .u8 0, .int .u8 0, .int .u8 0, .int .u8 0, .int .u8 0, .int .u8 0, .int .u8 0, .int .u8 0, .int .u8 0, .int .u8 0, .int .u8 0, .int .u8 0, .int .u8 0, .int .u8 0, .int .u8 0, .int .u8 0, .int .u8 0, .int .u8 0, .int .u8 0, .int .u8 0, .int .u8 0, .int .u8 0, .int .u8 0, .int .u8 0, .int .u8 0, .int .u8 0, .int .i64 0, .int .i64 0, .int .i64 0, .slice none 0 0] 84 by rw [hw1]; exact Cs.new _ _ _)
  have hm : Mod (fun _ => False) w w1 := by rw [hw1]; exact (Mod.refl _ _).alloc _
  have HM0 := hid (show Mod (fun k => (R k)) w w1 from hm.mono (fun _ _ h => h.elim))
  have hs1 : w1.heap.size = w.heap.size + 1 := by rw [hw1]; simp
  have Hx1 := hid (HRD.out.mod hm (fun _ _ h => h))
  clear HRD
  clear hw1 hm
  go_upto_region 1 with (fail)
  refine wp_region_U 8 [3, 4, 5, 6, 7, 13] [0, 1, 2, 3, 4, 5] (fun a0 HA0 => ?_)
  have oe0 := ev HA0 0 rfl
  have oe2 := ev HA0 2 rfl
  refine QSeq.pure rfl _ (fun E => ex_move rfl (E.v oe0)) ?_
  refine QSeq.call rfl rfl Try.func98 (cCm_Q _ _ _ _ Hx1.out (by intro k h1; have hb := HBR.out k h1; omega)) (fun E => args1 (E.d 0 0)) ?_
  rintro e u1_1 ⟨rfl, qrd, hm⟩
  refine ⟨_, rfl, ?_⟩
  have Hx2 := hid qrd
  have zu1_1 := hm.size
  have Cx3 := hid (show Mod (fun k => (R k)) w1 u1_1 from hm)
  clear hm
  clear qrd Hx1
  refine QSeq.pure rfl _ (fun E => ex_move rfl (E.v oe0)) ?_
  refine QSeq.call rfl rfl Try.func133 (cList_St _ _ _ _ Hx2.out (by intro k h1; have hb := HBR.out k h1; omega) (Nat.le_trans (gCm_suf.len _) HLN.out)) (fun E => args2 (E.d 2 0) rfl) ?_
  rintro e u1_3 ⟨vlSt, rfl, qlSt, qrd, hm⟩
  obtain ⟨ao_lSt, cap_lSt, rfl⟩ := qlSt.shape
  refine ⟨_, rfl, ?_⟩
  have Hx4 := hid qlSt
  have Hx5 := hid qrd
  have zu1_3 := hm.size
  have HMu1_3 := hid hm
  have Cx6 := hid (Mod.goS (S' := (fun k => (R k))) Cx3.out hm (fun _ h => h) (by intro k h0 h2; exact h2))
  clear hm Cx3
  clear qlSt qrd Hx2
  refine QSeq.go fun act E => ?_
  refine qc_run rfl (wanted_none rfl) (v := .agg ((gCe s).1.cells (Value.slice ao_lSt (gList gSt (gCm s).2).1.length cap_lSt) : List Value).toArray) (ex_build rfl (z := [.int .i64 0, .int .i64 0, .int .u8 0, .int .u8 0, .int .u8 0, .int .u8 0, .int .u8 0, .int .u8 0, .int .u8 0, .int .u8 0, .int .u8 0, .int .u8 0, .int .u8 0, .int .u8 0, .int .u8 0, .int .u8 0, .int .u8 0, .int .u8 0, .int .u8 0, .int .u8 0, .int .u8 0, .int .u8 0, .int .u8 0, .int .u8 0, .int .u8 0, .int .u8 0, .int .u8 0, .int .u8 0, .int .u8 0, .int .u8 0, .int .u8 0, .int .u8 0, .int .u8 0, .int .u8 0, .int .i64 0, .int .i64 0, .int .i64 0, .slice none 0 0]) (places := [(0, 37), (37, 1)]) (by kernel_rfl) (parts := [(0, (gCm s).1.val), (1, .slice ao_lSt (gList gSt (gCm s).2).1.length cap_lSt)]) (by simp only [List.map_toArray, List.map_cons, List.map_nil, show act.eval (.tmp 4) = (gCm s).1.val from (E.d 1 2), show act.eval (.tmp 6) = .slice ao_lSt (gList gSt (gCm s).2).1.length cap_lSt from (E.d 3 0)]; try rfl) (r := (gCe s).1.cells (Value.slice ao_lSt (gList gSt (gCm s).2).1.length cap_lSt)) (by exact laid_segs (ns := [37, 1]) rfl [(0, (gCm s).1.val), (1, .slice ao_lSt (gList gSt (gCm s).2).1.length cap_lSt)] [[.int .i64 0, .int .i64 0, .int .u8 0, .int .u8 0, .int .u8 0, .int .u8 0, .int .u8 0, .int .u8 0, .int .u8 0, .int .u8 0, .int .u8 0, .int .u8 0, .int .u8 0, .int .u8 0, .int .u8 0, .int .u8 0, .int .u8 0, .int .u8 0, .int .u8 0, .int .u8 0, .int .u8 0, .int .u8 0, .int .u8 0, .int .u8 0, .int .u8 0, .int .u8 0, .int .u8 0, .int .u8 0, .int .u8 0, .int .u8 0, .int .u8 0, .int .u8 0, .int .u8 0, .int .u8 0, .int .i64 0, .int .i64 0, .int .i64 0], [.slice none 0 0]] rfl ⟨(szv (Cm.len (rHash_HK (gSig_suf.bytes HBY.out) |>.1))), rfl, trivial⟩)) ?_
  clear act E
  refine QSeq.go fun act E => ?_
  refine qc_store rfl (wanted_none rfl) rfl (HB2.out.mod Cx6.out (by intro h2; first | omega | (have hb := HBR.out _ h2; omega))) (off := 0) (vs := ((gCe s).1.cells (Value.slice ao_lSt (gList gSt (gCm s).2).1.length cap_lSt))) (by rw [show ((gCe s).1.cells (Value.slice ao_lSt (gList gSt (gCm s).2).1.length cap_lSt)).length = _ from (ce_len _ _ (gCm_OK HBY.out).2.1)]; kernel_rfl) (one_ce2 _ _ rfl) (by rw [show ((gCe s).1.cells (Value.slice ao_lSt (gList gSt (gCm s).2).1.length cap_lSt)).length = _ from (ce_len _ _ (gCm_OK HBY.out).2.1)]; decide) (E.v oe2) (ec (E.d 4 0)) ?_
  intro u1_5 qc0 hm
  have qB2 := qc0.eqv (b := (((gCe s).1.cells (Value.slice ao_lSt (gList gSt (gCm s).2).1.length cap_lSt)) : List Value).toArray) (lay_whole _ _ (by rw [show ((gCe s).1.cells (Value.slice ao_lSt (gList gSt (gCm s).2).1.length cap_lSt)).length = _ from (ce_len _ _ (gCm_OK HBY.out).2.1)]; rfl))
  clear qc0
  have Hx7 := hid qB2
  have zu1_5 := hm.size
  have HMu1_5 := hid hm
  have Cx8 := hid (Mod.goS (S' := (fun k => (R k) ∨ (k = w.heap.size))) Cx6.out hm (fun _ h => Or.inl h) (by intro k h0 h2; exact Or.inr (h2)))
  clear hm Cx6
  clear act E qB2 HB2
  have Hx9 := hid (Hx5.out.mod HMu1_5.out (sB HBR))
  have Hx10 := hid (Hx4.out.mod HMu1_5.out (by intro k h1 h2; omega))
  clear Hx5 Hx4 HMu1_3 HMu1_5
  refine QSeq.nil (t' := [_, _, _, _, _, _]) rfl ?_
  obtain rfl := HA0.out
  clear HA0 oe0 oe2
  simp only [pz, Act.put, List.setIfInBounds_toArray, List.set_cons_zero, List.set_cons_succ, List.set_nil]
  go_wp2
  exact bodyPost_ret (results_cellA rfl _ _ w.heap.size ((gCe s).1.cells (Value.slice ao_lSt (gList gSt (gCm s).2).1.length cap_lSt)) rfl (fun k u hu => by rw [Hx7.out.cell]; simpa using hu) Try.underlying84 rfl (by rw [show ((gCe s).1.cells (Value.slice ao_lSt (gList gSt (gCm s).2).1.length cap_lSt)).length = _ from (ce_len _ _ (gCm_OK HBY.out).2.1)]; kernel_rfl)) rfl ⟨_, rfl, ⟨_, rfl, gCe_OK HBY.out, (Hx10.out.widen (R' := (fun k => New w u1_5 k)) (by intro k h1; omega))⟩, Hx9.out, (HM0.out.trans Cx8.out (by intro k h1 h2; rcases h2 with h2 | h2 <;> first | exact h2 | omega | (have hb := HBR.out k h2; omega)))⟩
set_option maxHeartbeats 4000000 in
theorem cList_Ce : GetsL CeR 183 134 100 gCe := by
  intro R r s w hR hB hl
  have HRD := Lib.hid hR
  have HBR := Lib.hid hB
  have HLN := Lib.hid hl
  clear hR hB hl
  go_enter Try.func134, Try.ntmps134
  go_upto_region 2 with (fail)
  have HM0 := hid (Mod.refl (fun k => (R k)) w)
  go_upto_region 2 with (fail)
  refine wp_region_U 21 [6, 7, 8] [0, 1, 2] (fun a0 HA0 => ?_)
  have oe0 := ev HA0 0 rfl
  refine QSeq.pure rfl _ (fun E => ex_move rfl (E.v oe0)) ?_
  refine QSeq.call rfl rfl Try.func63 (RInt_R HRD.out (by decide)) (fun E => args2 (E.d 0 0) rfl) ?_
  rintro e u2_1 ⟨rfl, qrd, hm⟩
  refine ⟨_, rfl, ?_⟩
  have Hx1 := hid qrd
  have zu2_1 := hm.size
  have Cx2 := hid (show Mod (fun k => (R k)) w u2_1 from hm)
  clear hm
  clear qrd HRD
  refine QSeq.pure rfl (.int .i64 0) (fun E => ex_move rfl rfl) ?_
  refine QSeq.nil (t' := [_, _, _]) rfl ?_
  obtain rfl := HA0.out
  clear HA0 oe0
  simp only [pz, Act.put, List.setIfInBounds_toArray, List.set_cons_zero, List.set_cons_succ]
  obtain ⟨n, hn⟩ : ∃ n, n = (rInt 100 s).1 := ⟨_, rfl⟩
  obtain ⟨s1, hs1⟩ : ∃ z, z = (rInt 100 s).2 := ⟨_, rfl⟩
  have hn100 : n ≤ 100 := by have := rInt_le 100 s; omega
  have HLS := hid (show (s1.getD []).length ≤ 900000 by rw [hs1]; exact Nat.le_trans ((rInt_suf 100).len s) HLN.out)
  have HGL := hid (show gList gCe s = gItems gCe n [] s1 by rw [hn, hs1]; rfl)
  rw [← hn]
  have hq := Hx1.out
  rw [← hs1] at hq
  have HR1 := Lib.hid hq
  clear hq hn hs1 HLN
  go_wp2
  go_loopw [5, 8] (fun ta ti wr => ∃ (k : Nat) (acc : List Ce) (st : RSt), ti = .int .i64 (k : Int) ∧ k ≤ n ∧ acc.length = k ∧ (st.getD []).length ≤ 900000 ∧ gItems gCe (n - k) acc st = gItems gCe n [] s1 ∧ u2_1.heap.size ≤ wr.heap.size ∧ OwS CeR 84 (fun b => w.heap.size ≤ b ∧ b < wr.heap.size) (fun b => w.heap.size ≤ b ∧ b < wr.heap.size) wr ta acc ∧ RrR 183 R wr r st ∧ Mod R w wr) (fun _ ti _ => n - (intOf ti).toNat)
  case atStart => exact ⟨0, [], s1, rfl, Nat.zero_le _, rfl, HLS.out, rfl, Nat.le_refl _, OwS.nil _ _ _ _ _, HR1.out, (HM0.out.trans Cx2.out (fun _ _ h => h))⟩
  case round =>
    obtain ⟨k, acc, st, rfl, hk, hka, hst, hg, hz, ha, hr, hm⟩ := hrel
    obtain ⟨wl, rfl⟩ : ∃ x, x = wr := ⟨_, rfl⟩
    obtain ⟨aol, capl, rfl⟩ := ha.shape
    have HAL := Lib.hid ha
    have HRL := Lib.hid hr
    have HML := Lib.hid hm
    have HST := Lib.hid hst
    have HG := Lib.hid hg
    have HKA := Lib.hid hka
    clear ha hr hm hst hg hka HR1 HM0
    by_cases hlt : k < n
    · skip
      go_upto_region 3 with (fail)
      refine wp_region_U 21 [9] [0] (fun a0 HA0 => ?_)
      have oe7 := ev HA0 7 rfl
      have oe8 := ev HA0 8 rfl
      refine QSeq.pure rfl (.bool true) (fun E => ex_binE rfl (E.v oe8) (E.v oe7) (guard_ints _ _ _ _ _ _) (run_lss_i _ _ _ Try.underlying3) (congrArg Value.bool (decide_eq_true (by omega)))) ?_
      refine QSeq.nil (t' := [_]) rfl ?_
      obtain rfl := HA0.out
      clear HA0 oe7 oe8
      simp only [pz, Act.put, List.setIfInBounds_toArray, List.set_cons_zero, List.set_cons_succ]
      obtain ⟨p, hp⟩ : ∃ p, p = gCe st := ⟨_, rfl⟩
      obtain ⟨x, st2⟩ := p
      have HP1 := hid (congrArg Prod.fst hp.symm)
      have HP2 := hid (congrArg Prod.snd hp.symm)
      clear hp
      dsimp only at HP1 HP2
      have HST2 := hid (show (st2.getD []).length ≤ 900000 by rw [← HP2.out]; exact Nat.le_trans (gCe_suf.len st) HST.out)
      have HGN := hid (show gItems gCe (n - k) acc st = if st2 = none then ([], none) else gItems gCe (n - (k + 1)) (acc ++ [x]) st2 by rw [show n - k = (n - (k + 1)) + 1 by omega]; show (if (gCe st).2 = none then _ else _) = _; rw [HP2.out, HP1.out])
      go_upto_region 4 with (fail)
      refine wp_region_U 21 [10, 11, 12, 13, 14, 15, 5] [0, 1, 2, 3, 4, 5, 6] (fun a0 HA0 => ?_)
      have oe0 := ev HA0 0 rfl
      have oe1 := ev HA0 1 rfl
      have oe5 := ev HA0 5 rfl
      refine QSeq.pure rfl _ (fun E => ex_move rfl (E.y 6 oe5)) ?_
      refine QSeq.pure rfl _ (fun E => ex_move rfl (E.v oe1)) ?_
      refine QSeq.pure rfl _ (fun E => ex_move rfl (E.v oe0)) ?_
      refine QSeq.go fun act E => ?_
      have ea12 : act.eval (.tmp 12) = .pointer (some ⟨r, 0, none⟩) := (E.d 2 0)
      refine qc_call (args := #[.pointer (some ⟨r, 0, none⟩)]) rfl (wanted_none rfl) (by rw [ex_callV rfl (E.d 1 1) Try.func100 (by kernel_rfl) (by kernel_rfl)]; exact congrArg (fun z => Result.ok (Next.enter _ z) _) (by simp only [List.map_toArray, List.map_cons, List.map_nil, ea12]; try rfl)) ((cCe_G).to HP1.out HP2.out HRL.out (by intro k h1; have hb := HBR.out k h1; omega) HST.out) ?_
      rintro e u4_3 ⟨cs, rfl, qel, qrd, hm⟩
      refine ⟨_, rfl, ?_⟩
      have Hx3 := hid qel
      have Hx4 := hid qrd
      have zu4_3 := hm.size
      have Cx5 := hid (show Mod (fun k => (R k)) wl u4_3 from hm)
      clear hm
      clear act E qel qrd HRL ea12
      refine QSeq.go fun act E => ?_
      refine qc_buildS (e := 84) (cs := cs) (zc := [.int .i64 0, .int .i64 0, .int .u8 0, .int .u8 0, .int .u8 0, .int .u8 0, .int .u8 0, .int .u8 0, .int .u8 0, .int .u8 0, .int .u8 0, .int .u8 0, .int .u8 0, .int .u8 0, .int .u8 0, .int .u8 0, .int .u8 0, .int .u8 0, .int .u8 0, .int .u8 0, .int .u8 0, .int .u8 0, .int .u8 0, .int .u8 0, .int .u8 0, .int .u8 0, .int .u8 0, .int .u8 0, .int .u8 0, .int .u8 0, .int .u8 0, .int .u8 0, .int .u8 0, .int .u8 0, .int .i64 0, .int .i64 0, .int .i64 0, .slice none 0 0]) (sz := 38) rfl (wanted_none rfl) rfl Try.underlying87 (by kernel_rfl) rfl (by decide) (by decide) (E.d 3 0) (CeR.len Hx3.out) ?_
      intro u4_4 qrow hm
      have zl4_4 := qrow.lt
      have Hx6 := hid qrow
      have zu4_4 := hm.size
      have HMu4_4 := hid hm
      have Cx7 := hid (Cx5.out.goE hm)
      clear hm Cx5
      clear act E qrow
      refine QSeq.go fun act E => ?_
      refine qc_appS (A := CeR) (e := 84) rfl (wanted_none rfl) rfl (.agg #[.int .i64 0, .int .i64 0, .int .u8 0, .int .u8 0, .int .u8 0, .int .u8 0, .int .u8 0, .int .u8 0, .int .u8 0, .int .u8 0, .int .u8 0, .int .u8 0, .int .u8 0, .int .u8 0, .int .u8 0, .int .u8 0, .int .u8 0, .int .u8 0, .int .u8 0, .int .u8 0, .int .u8 0, .int .u8 0, .int .u8 0, .int .u8 0, .int .u8 0, .int .u8 0, .int .u8 0, .int .u8 0, .int .u8 0, .int .u8 0, .int .u8 0, .int .u8 0, .int .u8 0, .int .u8 0, .int .i64 0, .int .i64 0, .int .i64 0, .slice none 0 0]) 96 Try.underlying87 info_Ce (by rfl) (of_decide_eq_true (by kernel_rfl)) (E.d 0 4) (E.d 4 0) ((HAL.out.mod Cx7.out (by intro k h1 h2; have hb := HBR.out k h2; omega) (by intro k h1 h2; have hb := HBR.out k h2; omega))) (RdS.single (R := (fun k => (New wl u4_3 k) ∨ (k = u4_3.heap.size))) Hx6.out ((Hx3.out.mod HMu4_4.out (fun _ _ h => h)).widen (by intro k h1; first | omega | exact h1.elim | exact Or.inl h1 | exact Or.inr (h1))) (by first | exact Or.inr rfl | exact Or.inr (Or.inr rfl) | (right; omega))) (by intro k h1 h2; omega) (by rw [HKA.out]; simp only [List.length_cons, List.length_nil]; omega) (by rw [HKA.out]; simp only [List.length_cons, List.length_nil]; rw [maxLen_val]; omega) ?_
      intro ao4 cap4 u4_5 qout hm
      have Hx8 := hid (qout.widen (R' := (fun k => (New w wl k) ∨ (New u4_4 u4_5 k))) (E' := (fun k => (New w wl k) ∨ (New wl u4_3 k) ∨ (k = u4_3.heap.size))) (fun _ h => h) (by intro k h1; rcases h1 with h1 | (h1 | h1) <;> first | omega | exact h1.elim | exact Or.inl h1 | exact Or.inr (Or.inl h1) | exact Or.inr (Or.inr (h1))))
      have zu4_5 := hm.size
      have HMu4_5 := hid hm
      have Cx9 := hid (Mod.goS (S' := (fun k => (R k) ∨ (New w wl k))) Cx7.out hm (fun _ h => Or.inl h) (by intro k h0 h2; exact Or.inr (h2)))
      clear hm Cx7
      clear act E qout HAL
      refine QSeq.pure rfl _ (fun E => ex_assign rfl (E.d 5 0)) ?_
      have Hx10 := hid ((Hx4.out.mod HMu4_4.out (fun _ _ h => h)).mod HMu4_5.out (sN HBR))
      have Hx11 := hid ((Hx3.out.mod HMu4_4.out (fun _ _ h => h)).mod HMu4_5.out (by intro k h1 h2; omega))
      have Hx12 := hid (Hx6.out.mod HMu4_5.out (by intro h2; omega))
      clear Hx4 Hx3 Hx6 HMu4_4 HMu4_5
      refine QSeq.nil (t' := [_, _, _, _, _, _, _]) rfl ?_
      obtain rfl := HA0.out
      clear HA0 oe0 oe1 oe5
      simp only [pz, Act.put, List.setIfInBounds_toArray, List.set_cons_zero, List.set_cons_succ]
      clear Hx11
      clear Hx12
      cases st2 with
      | none =>
        go_upto_region 5 with (fail)
        refine wp_region_U 21 [16, 17, 18] [0, 1, 2] (fun a0 HA0 => ?_)
        have oe0 := ev HA0 0 rfl
        refine QSeq.pure rfl _ (fun E => ex_move rfl (E.v oe0)) ?_
        refine QSeq.go fun act E => ?_
        refine qc_callF (args := #[.pointer (some ⟨r, 0, none⟩)]) rfl (wanted_none rfl) rfl Try.func64 (args1 (E.d 0 0)) (OK_R Hx10.out) ?_
        rintro e w2 ⟨rfl, hw2⟩
        obtain rfl : u4_5 = w2 := by first | exact hw2 | exact hw2.symm
        refine ⟨_, rfl, ?_⟩
        clear act E
        refine QSeq.pure rfl (.bool true) (fun E => ex_not rfl (E.d 1 0)) ?_
        refine QSeq.nil (t' := [_, _, _]) rfl ?_
        obtain rfl := HA0.out
        clear HA0 oe0
        simp only [pz, Act.put, List.setIfInBounds_toArray, List.set_cons_zero, List.set_cons_succ]
        go_upto_region 6 with (fail)
        refine wp_region_U 21 [4] [0] (fun a0 HA0 => ?_)
        refine QSeq.pure rfl (.slice none 0 0) (fun E => ex_assign rfl rfl) ?_
        refine QSeq.nil (t' := [_]) rfl ?_
        obtain rfl := HA0.out
        clear HA0
        simp only [pz, Act.put, List.setIfInBounds_toArray, List.set_cons_zero, List.set_cons_succ]
        go_wp2
        go_ret
        have hq := HG.out
        rw [HGN.out, if_pos trivial] at hq
        have e := HGL.out
        rw [← hq] at e
        refine ⟨_, rfl, ?_, ?_, (HML.out.trans Cx9.out (by intro k h1 h2; rcases h2 with h2 | h2 <;> first | exact h2 | omega | (have hb := HBR.out k h2; omega)))⟩
        · rw [e]; exact RdS.nil _ _ _
        · rw [e]; exact Hx10.out
      | some l2 =>
        go_upto_region 5 with (fail)
        refine wp_region_U 21 [16, 17, 18] [0, 1, 2] (fun a0 HA0 => ?_)
        have oe0 := ev HA0 0 rfl
        refine QSeq.pure rfl _ (fun E => ex_move rfl (E.v oe0)) ?_
        refine QSeq.go fun act E => ?_
        refine qc_callF (args := #[.pointer (some ⟨r, 0, none⟩)]) rfl (wanted_none rfl) rfl Try.func64 (args1 (E.d 0 0)) (OK_R Hx10.out) ?_
        rintro e w2 ⟨rfl, hw2⟩
        obtain rfl : u4_5 = w2 := by first | exact hw2 | exact hw2.symm
        refine ⟨_, rfl, ?_⟩
        clear act E
        refine QSeq.pure rfl (.bool false) (fun E => ex_not rfl (E.d 1 0)) ?_
        refine QSeq.nil (t' := [_, _, _]) rfl ?_
        obtain rfl := HA0.out
        clear HA0 oe0
        simp only [pz, Act.put, List.setIfInBounds_toArray, List.set_cons_zero, List.set_cons_succ]
        go_upto_region 7 with (fail)
        refine wp_region_U 21 [19, 8] [0, 1] (fun a0 HA0 => ?_)
        have oe8 := ev HA0 8 rfl
        refine QSeq.pure rfl (.int .i64 (((k : Nat) : Int) + 1)) (fun E => ex_binE rfl (E.y 1 oe8) rfl (guard_ints _ _ _ _ _ _) (run_add_i _ _ Try.underlying3) (congrArg (Value.int .i64) (IntWalk.i64_in _ (by omega)))) ?_
        refine QSeq.pure rfl _ (fun E => ex_move rfl (E.d 0 0)) ?_
        refine QSeq.nil (t' := [_, _]) rfl ?_
        obtain rfl := HA0.out
        clear HA0 oe8
        simp only [pz, Act.put, List.setIfInBounds_toArray, List.set_cons_zero, List.set_cons_succ]
        go_wp2
        go_roundw
        case rel => exact ⟨k + 1, acc ++ [x], some l2, by go_num, by omega, by rw [List.length_append, HKA.out]; rfl, HST2.out, (by have hq := HG.out; rw [HGN.out, if_neg (by simp)] at hq; exact hq), by omega, (Hx8.out.widen (by intro b h1; omega) (by intro b h1; rcases h1 with h1 | h1 | h1 <;> first | omega | exact h1.elim)), Hx10.out, (HML.out.trans Cx9.out (by intro k h1 h2; rcases h2 with h2 | h2 <;> first | exact h2 | omega | (have hb := HBR.out k h2; omega)))⟩
        case measure => simp [intOf] <;> omega
    · obtain rfl : n = k := by omega
      go_upto_region 3 with (fail)
      refine wp_region_U 21 [9] [0] (fun a0 HA0 => ?_)
      have oe7 := ev HA0 7 rfl
      have oe8 := ev HA0 8 rfl
      refine QSeq.pure rfl (.bool false) (fun E => ex_binE rfl (E.v oe8) (E.v oe7) (guard_ints _ _ _ _ _ _) (run_lss_i _ _ _ Try.underlying3) (congrArg Value.bool (decide_eq_false (by omega)))) ?_
      refine QSeq.nil (t' := [_]) rfl ?_
      obtain rfl := HA0.out
      clear HA0 oe7 oe8
      simp only [pz, Act.put, List.setIfInBounds_toArray, List.set_cons_zero, List.set_cons_succ]
      go_upto_region 8 with (fail)
      refine wp_region_U 21 [20, 4] [0, 1] (fun a0 HA0 => ?_)
      have oe5 := ev HA0 5 rfl
      refine QSeq.pure rfl _ (fun E => ex_move rfl (E.v oe5)) ?_
      refine QSeq.pure rfl _ (fun E => ex_assign rfl (E.d 0 0)) ?_
      refine QSeq.nil (t' := [_, _]) rfl ?_
      obtain rfl := HA0.out
      clear HA0 oe5
      simp only [pz, Act.put, List.setIfInBounds_toArray, List.set_cons_zero, List.set_cons_succ]
      go_wp2
      go_ret
      have hq := HG.out
      rw [Nat.sub_self] at hq
      have e := HGL.out
      rw [← hq] at e
      refine ⟨_, rfl, ?_, ?_, HML.out⟩
      · rw [e]; exact HAL.out.rd.widen (by intro b h1; (try dsimp only at h1 ⊢); omega)
      · rw [e]; exact HRL.out
set_option maxHeartbeats 4000000 in
theorem cTb_G : Gets TbR 183 139 gTb := by
  intro R r s w hR hB hl
  have HRD := Lib.hid hR
  have HBR := Lib.hid hB
  have HBY := hid hR.bytes
  clear hR hB
  have HLN := Lib.hid hl
  clear hl
  go_enter Try.func139, Try.ntmps139
  go_upto_region 1 with (fail)
  obtain ⟨w1, hw1⟩ : ∃ zz, zz = (w.alloc (.cells #[.int .i64 0, .slice none 0 0] 214)) := ⟨_, rfl⟩
  change Code.wp _ _ _ _ (w.alloc (.cells #[.int .i64 0, .slice none 0 0] 214))
  rw [← hw1]
  have HB2 := hid (show Cs w1 (w.heap.size) #[.int .i64 0, .slice none 0 0] 214 by rw [hw1]; exact Cs.new _ _ _)
  have hm : Mod (fun _ => False) w w1 := by rw [hw1]; exact (Mod.refl _ _).alloc _
  have HM0 := hid (show Mod (fun k => (R k)) w w1 from hm.mono (fun _ _ h => h.elim))
  have hs1 : w1.heap.size = w.heap.size + 1 := by rw [hw1]; simp
  have Hx1 := hid (HRD.out.mod hm (fun _ _ h => h))
  clear HRD
  clear hw1 hm
  go_upto_region 1 with (fail)
  refine wp_region_U 8 [3, 4, 5, 6, 7, 13] [0, 1, 2, 3, 4, 5] (fun a0 HA0 => ?_)
  have oe0 := ev HA0 0 rfl
  have oe2 := ev HA0 2 rfl
  refine QSeq.pure rfl _ (fun E => ex_move rfl (E.v oe0)) ?_
  refine QSeq.call rfl rfl Try.func63 (cI_Q Hx1.out) (fun E => args2 (E.d 0 0) rfl) ?_
  rintro e u1_1 ⟨rfl, qrd, hm⟩
  refine ⟨_, rfl, ?_⟩
  have Hx2 := hid qrd
  have zu1_1 := hm.size
  have Cx3 := hid (show Mod (fun k => (R k)) w1 u1_1 from hm)
  clear hm
  clear qrd Hx1
  refine QSeq.pure rfl _ (fun E => ex_move rfl (E.v oe0)) ?_
  refine QSeq.call rfl rfl Try.func147 (cList_Dn _ _ _ _ Hx2.out (by intro k h1; have hb := HBR.out k h1; omega) (Nat.le_trans (gI_suf.len _) HLN.out)) (fun E => args2 (E.d 2 0) rfl) ?_
  rintro e u1_3 ⟨vlDn, rfl, qlDn, qrd, hm⟩
  obtain ⟨ao_lDn, cap_lDn, rfl⟩ := qlDn.shape
  refine ⟨_, rfl, ?_⟩
  have Hx4 := hid qlDn
  have Hx5 := hid qrd
  have zu1_3 := hm.size
  have HMu1_3 := hid hm
  have Cx6 := hid (Mod.goS (S' := (fun k => (R k))) Cx3.out hm (fun _ h => h) (by intro k h0 h2; exact h2))
  clear hm Cx3
  clear qlDn qrd Hx2
  refine QSeq.go fun act E => ?_
  refine qc_run rfl (wanted_none rfl) (v := .agg ((gTb s).1.cells (Value.slice ao_lDn (gList gDn (gI s).2).1.length cap_lDn) : List Value).toArray) (ex_build rfl (z := [.int .i64 0, .slice none 0 0]) (places := [(0, 1), (1, 1)]) (by kernel_rfl) (parts := [(0, .int .i64 (gI s).1), (1, .slice ao_lDn (gList gDn (gI s).2).1.length cap_lDn)]) (by simp only [List.map_toArray, List.map_cons, List.map_nil, show act.eval (.tmp 4) = .int .i64 (gI s).1 from (E.d 1 2), show act.eval (.tmp 6) = .slice ao_lDn (gList gDn (gI s).2).1.length cap_lDn from (E.d 3 0)]; try rfl) (r := (gTb s).1.cells (Value.slice ao_lDn (gList gDn (gI s).2).1.length cap_lDn)) (by exact laid_segs (ns := [1, 1]) rfl [(0, .int .i64 (gI s).1), (1, .slice ao_lDn (gList gDn (gI s).2).1.length cap_lDn)] [[.int .i64 0], [.slice none 0 0]] rfl ⟨rfl, rfl, trivial⟩)) ?_
  clear act E
  refine QSeq.go fun act E => ?_
  refine qc_store rfl (wanted_none rfl) rfl (HB2.out.mod Cx6.out (by intro h2; first | omega | (have hb := HBR.out _ h2; omega))) (off := 0) (vs := ((gTb s).1.cells (Value.slice ao_lDn (gList gDn (gI s).2).1.length cap_lDn))) (by kernel_rfl) (by intro u hu; simp only [Tb.cells, List.mem_cons, List.not_mem_nil, or_false] at hu; rcases hu with rfl | rfl <;> rfl) (by simp) (E.v oe2) (ec (E.d 4 0)) ?_
  intro u1_5 qc0 hm
  have qB2 := qc0.eqv (b := (((gTb s).1.cells (Value.slice ao_lDn (gList gDn (gI s).2).1.length cap_lDn)) : List Value).toArray) (lay_whole #[.int .i64 0, .slice none 0 0] _ rfl)
  clear qc0
  have Hx7 := hid qB2
  have zu1_5 := hm.size
  have HMu1_5 := hid hm
  have Cx8 := hid (Mod.goS (S' := (fun k => (R k) ∨ (k = w.heap.size))) Cx6.out hm (fun _ h => Or.inl h) (by intro k h0 h2; exact Or.inr (h2)))
  clear hm Cx6
  clear act E qB2 HB2
  have Hx9 := hid (Hx5.out.mod HMu1_5.out (sB HBR))
  have Hx10 := hid (Hx4.out.mod HMu1_5.out (by intro k h1 h2; omega))
  clear Hx5 Hx4 HMu1_3 HMu1_5
  refine QSeq.nil (t' := [_, _, _, _, _, _]) rfl ?_
  obtain rfl := HA0.out
  clear HA0 oe0 oe2
  simp only [pz, Act.put, List.setIfInBounds_toArray, List.set_cons_zero, List.set_cons_succ, List.set_nil]
  go_wp2
  exact bodyPost_ret (results_cellA rfl _ _ w.heap.size ((gTb s).1.cells (Value.slice ao_lDn (gList gDn (gI s).2).1.length cap_lDn)) rfl (fun k u hu => by rw [Hx7.out.cell]; simpa using hu) Try.underlying214 rfl (by kernel_rfl)) rfl ⟨_, rfl, ⟨_, rfl, gTb_OK HBY.out, (Hx10.out.widen (R' := (fun k => New w u1_5 k)) (by intro k h1; omega))⟩, Hx9.out, (HM0.out.trans Cx8.out (by intro k h1 h2; rcases h2 with h2 | h2 <;> first | exact h2 | omega | (have hb := HBR.out k h2; omega)))⟩
set_option maxHeartbeats 4000000 in
theorem cList_Tb : GetsL TbR 183 138 139 gTb := by
  intro R r s w hR hB hl
  have HRD := Lib.hid hR
  have HBR := Lib.hid hB
  have HLN := Lib.hid hl
  clear hR hB hl
  go_enter Try.func138, Try.ntmps138
  go_upto_region 2 with (fail)
  have HM0 := hid (Mod.refl (fun k => (R k)) w)
  go_upto_region 2 with (fail)
  refine wp_region_U 21 [6, 7, 8] [0, 1, 2] (fun a0 HA0 => ?_)
  have oe0 := ev HA0 0 rfl
  refine QSeq.pure rfl _ (fun E => ex_move rfl (E.v oe0)) ?_
  refine QSeq.call rfl rfl Try.func63 (RInt_R HRD.out (by decide)) (fun E => args2 (E.d 0 0) rfl) ?_
  rintro e u2_1 ⟨rfl, qrd, hm⟩
  refine ⟨_, rfl, ?_⟩
  have Hx1 := hid qrd
  have zu2_1 := hm.size
  have Cx2 := hid (show Mod (fun k => (R k)) w u2_1 from hm)
  clear hm
  clear qrd HRD
  refine QSeq.pure rfl (.int .i64 0) (fun E => ex_move rfl rfl) ?_
  refine QSeq.nil (t' := [_, _, _]) rfl ?_
  obtain rfl := HA0.out
  clear HA0 oe0
  simp only [pz, Act.put, List.setIfInBounds_toArray, List.set_cons_zero, List.set_cons_succ]
  obtain ⟨n, hn⟩ : ∃ n, n = (rInt 100 s).1 := ⟨_, rfl⟩
  obtain ⟨s1, hs1⟩ : ∃ z, z = (rInt 100 s).2 := ⟨_, rfl⟩
  have hn100 : n ≤ 100 := by have := rInt_le 100 s; omega
  have HLS := hid (show (s1.getD []).length ≤ 900000 by rw [hs1]; exact Nat.le_trans ((rInt_suf 100).len s) HLN.out)
  have HGL := hid (show gList gTb s = gItems gTb n [] s1 by rw [hn, hs1]; rfl)
  rw [← hn]
  have hq := Hx1.out
  rw [← hs1] at hq
  have HR1 := Lib.hid hq
  clear hq hn hs1 HLN
  go_wp2
  go_loopw [5, 8] (fun ta ti wr => ∃ (k : Nat) (acc : List Tb) (st : RSt), ti = .int .i64 (k : Int) ∧ k ≤ n ∧ acc.length = k ∧ (st.getD []).length ≤ 900000 ∧ gItems gTb (n - k) acc st = gItems gTb n [] s1 ∧ u2_1.heap.size ≤ wr.heap.size ∧ OwS TbR 214 (fun b => w.heap.size ≤ b ∧ b < wr.heap.size) (fun b => w.heap.size ≤ b ∧ b < wr.heap.size) wr ta acc ∧ RrR 183 R wr r st ∧ Mod R w wr) (fun _ ti _ => n - (intOf ti).toNat)
  case atStart => exact ⟨0, [], s1, rfl, Nat.zero_le _, rfl, HLS.out, rfl, Nat.le_refl _, OwS.nil _ _ _ _ _, HR1.out, (HM0.out.trans Cx2.out (fun _ _ h => h))⟩
  case round =>
    obtain ⟨k, acc, st, rfl, hk, hka, hst, hg, hz, ha, hr, hm⟩ := hrel
    obtain ⟨wl, rfl⟩ : ∃ x, x = wr := ⟨_, rfl⟩
    obtain ⟨aol, capl, rfl⟩ := ha.shape
    have HAL := Lib.hid ha
    have HRL := Lib.hid hr
    have HML := Lib.hid hm
    have HST := Lib.hid hst
    have HG := Lib.hid hg
    have HKA := Lib.hid hka
    clear ha hr hm hst hg hka HR1 HM0
    by_cases hlt : k < n
    · skip
      go_upto_region 3 with (fail)
      refine wp_region_U 21 [9] [0] (fun a0 HA0 => ?_)
      have oe7 := ev HA0 7 rfl
      have oe8 := ev HA0 8 rfl
      refine QSeq.pure rfl (.bool true) (fun E => ex_binE rfl (E.v oe8) (E.v oe7) (guard_ints _ _ _ _ _ _) (run_lss_i _ _ _ Try.underlying3) (congrArg Value.bool (decide_eq_true (by omega)))) ?_
      refine QSeq.nil (t' := [_]) rfl ?_
      obtain rfl := HA0.out
      clear HA0 oe7 oe8
      simp only [pz, Act.put, List.setIfInBounds_toArray, List.set_cons_zero, List.set_cons_succ]
      obtain ⟨p, hp⟩ : ∃ p, p = gTb st := ⟨_, rfl⟩
      obtain ⟨x, st2⟩ := p
      have HP1 := hid (congrArg Prod.fst hp.symm)
      have HP2 := hid (congrArg Prod.snd hp.symm)
      clear hp
      dsimp only at HP1 HP2
      have HST2 := hid (show (st2.getD []).length ≤ 900000 by rw [← HP2.out]; exact Nat.le_trans (gTb_suf.len st) HST.out)
      have HGN := hid (show gItems gTb (n - k) acc st = if st2 = none then ([], none) else gItems gTb (n - (k + 1)) (acc ++ [x]) st2 by rw [show n - k = (n - (k + 1)) + 1 by omega]; show (if (gTb st).2 = none then _ else _) = _; rw [HP2.out, HP1.out])
      go_upto_region 4 with (fail)
      refine wp_region_U 21 [10, 11, 12, 13, 14, 15, 5] [0, 1, 2, 3, 4, 5, 6] (fun a0 HA0 => ?_)
      have oe0 := ev HA0 0 rfl
      have oe1 := ev HA0 1 rfl
      have oe5 := ev HA0 5 rfl
      refine QSeq.pure rfl _ (fun E => ex_move rfl (E.y 6 oe5)) ?_
      refine QSeq.pure rfl _ (fun E => ex_move rfl (E.v oe1)) ?_
      refine QSeq.pure rfl _ (fun E => ex_move rfl (E.v oe0)) ?_
      refine QSeq.go fun act E => ?_
      have ea12 : act.eval (.tmp 12) = .pointer (some ⟨r, 0, none⟩) := (E.d 2 0)
      refine qc_call (args := #[.pointer (some ⟨r, 0, none⟩)]) rfl (wanted_none rfl) (by rw [ex_callV rfl (E.d 1 1) Try.func139 (by kernel_rfl) (by kernel_rfl)]; exact congrArg (fun z => Result.ok (Next.enter _ z) _) (by simp only [List.map_toArray, List.map_cons, List.map_nil, ea12]; try rfl)) ((cTb_G).to HP1.out HP2.out HRL.out (by intro k h1; have hb := HBR.out k h1; omega) HST.out) ?_
      rintro e u4_3 ⟨cs, rfl, qel, qrd, hm⟩
      refine ⟨_, rfl, ?_⟩
      have Hx3 := hid qel
      have Hx4 := hid qrd
      have zu4_3 := hm.size
      have Cx5 := hid (show Mod (fun k => (R k)) wl u4_3 from hm)
      clear hm
      clear act E qel qrd HRL ea12
      refine QSeq.go fun act E => ?_
      refine qc_buildS (e := 214) (cs := cs) (zc := [.int .i64 0, .slice none 0 0]) (sz := 2) rfl (wanted_none rfl) rfl Try.underlying92 (by kernel_rfl) rfl (by decide) (by decide) (E.d 3 0) (TbR.len Hx3.out) ?_
      intro u4_4 qrow hm
      have zl4_4 := qrow.lt
      have Hx6 := hid qrow
      have zu4_4 := hm.size
      have HMu4_4 := hid hm
      have Cx7 := hid (Cx5.out.goE hm)
      clear hm Cx5
      clear act E qrow
      refine QSeq.go fun act E => ?_
      refine qc_appS (A := TbR) (e := 214) rfl (wanted_none rfl) rfl (.agg #[.int .i64 0, .slice none 0 0]) 32 Try.underlying92 info_Tb (by rfl) (of_decide_eq_true (by kernel_rfl)) (E.d 0 4) (E.d 4 0) ((HAL.out.mod Cx7.out (by intro k h1 h2; have hb := HBR.out k h2; omega) (by intro k h1 h2; have hb := HBR.out k h2; omega))) (RdS.single (R := (fun k => (New wl u4_3 k) ∨ (k = u4_3.heap.size))) Hx6.out ((Hx3.out.mod HMu4_4.out (fun _ _ h => h)).widen (by intro k h1; first | omega | exact h1.elim | exact Or.inl h1 | exact Or.inr (h1))) (by first | exact Or.inr rfl | exact Or.inr (Or.inr rfl) | (right; omega))) (by intro k h1 h2; omega) (by rw [HKA.out]; simp only [List.length_cons, List.length_nil]; omega) (by rw [HKA.out]; simp only [List.length_cons, List.length_nil]; rw [maxLen_val]; omega) ?_
      intro ao4 cap4 u4_5 qout hm
      have Hx8 := hid (qout.widen (R' := (fun k => (New w wl k) ∨ (New u4_4 u4_5 k))) (E' := (fun k => (New w wl k) ∨ (New wl u4_3 k) ∨ (k = u4_3.heap.size))) (fun _ h => h) (by intro k h1; rcases h1 with h1 | (h1 | h1) <;> first | omega | exact h1.elim | exact Or.inl h1 | exact Or.inr (Or.inl h1) | exact Or.inr (Or.inr (h1))))
      have zu4_5 := hm.size
      have HMu4_5 := hid hm
      have Cx9 := hid (Mod.goS (S' := (fun k => (R k) ∨ (New w wl k))) Cx7.out hm (fun _ h => Or.inl h) (by intro k h0 h2; exact Or.inr (h2)))
      clear hm Cx7
      clear act E qout HAL
      refine QSeq.pure rfl _ (fun E => ex_assign rfl (E.d 5 0)) ?_
      have Hx10 := hid ((Hx4.out.mod HMu4_4.out (fun _ _ h => h)).mod HMu4_5.out (sN HBR))
      have Hx11 := hid ((Hx3.out.mod HMu4_4.out (fun _ _ h => h)).mod HMu4_5.out (by intro k h1 h2; omega))
      have Hx12 := hid (Hx6.out.mod HMu4_5.out (by intro h2; omega))
      clear Hx4 Hx3 Hx6 HMu4_4 HMu4_5
      refine QSeq.nil (t' := [_, _, _, _, _, _, _]) rfl ?_
      obtain rfl := HA0.out
      clear HA0 oe0 oe1 oe5
      simp only [pz, Act.put, List.setIfInBounds_toArray, List.set_cons_zero, List.set_cons_succ]
      clear Hx11
      clear Hx12
      cases st2 with
      | none =>
        go_upto_region 5 with (fail)
        refine wp_region_U 21 [16, 17, 18] [0, 1, 2] (fun a0 HA0 => ?_)
        have oe0 := ev HA0 0 rfl
        refine QSeq.pure rfl _ (fun E => ex_move rfl (E.v oe0)) ?_
        refine QSeq.go fun act E => ?_
        refine qc_callF (args := #[.pointer (some ⟨r, 0, none⟩)]) rfl (wanted_none rfl) rfl Try.func64 (args1 (E.d 0 0)) (OK_R Hx10.out) ?_
        rintro e w2 ⟨rfl, hw2⟩
        obtain rfl : u4_5 = w2 := by first | exact hw2 | exact hw2.symm
        refine ⟨_, rfl, ?_⟩
        clear act E
        refine QSeq.pure rfl (.bool true) (fun E => ex_not rfl (E.d 1 0)) ?_
        refine QSeq.nil (t' := [_, _, _]) rfl ?_
        obtain rfl := HA0.out
        clear HA0 oe0
        simp only [pz, Act.put, List.setIfInBounds_toArray, List.set_cons_zero, List.set_cons_succ]
        go_upto_region 6 with (fail)
        refine wp_region_U 21 [4] [0] (fun a0 HA0 => ?_)
        refine QSeq.pure rfl (.slice none 0 0) (fun E => ex_assign rfl rfl) ?_
        refine QSeq.nil (t' := [_]) rfl ?_
        obtain rfl := HA0.out
        clear HA0
        simp only [pz, Act.put, List.setIfInBounds_toArray, List.set_cons_zero, List.set_cons_succ]
        go_wp2
        go_ret
        have hq := HG.out
        rw [HGN.out, if_pos trivial] at hq
        have e := HGL.out
        rw [← hq] at e
        refine ⟨_, rfl, ?_, ?_, (HML.out.trans Cx9.out (by intro k h1 h2; rcases h2 with h2 | h2 <;> first | exact h2 | omega | (have hb := HBR.out k h2; omega)))⟩
        · rw [e]; exact RdS.nil _ _ _
        · rw [e]; exact Hx10.out
      | some l2 =>
        go_upto_region 5 with (fail)
        refine wp_region_U 21 [16, 17, 18] [0, 1, 2] (fun a0 HA0 => ?_)
        have oe0 := ev HA0 0 rfl
        refine QSeq.pure rfl _ (fun E => ex_move rfl (E.v oe0)) ?_
        refine QSeq.go fun act E => ?_
        refine qc_callF (args := #[.pointer (some ⟨r, 0, none⟩)]) rfl (wanted_none rfl) rfl Try.func64 (args1 (E.d 0 0)) (OK_R Hx10.out) ?_
        rintro e w2 ⟨rfl, hw2⟩
        obtain rfl : u4_5 = w2 := by first | exact hw2 | exact hw2.symm
        refine ⟨_, rfl, ?_⟩
        clear act E
        refine QSeq.pure rfl (.bool false) (fun E => ex_not rfl (E.d 1 0)) ?_
        refine QSeq.nil (t' := [_, _, _]) rfl ?_
        obtain rfl := HA0.out
        clear HA0 oe0
        simp only [pz, Act.put, List.setIfInBounds_toArray, List.set_cons_zero, List.set_cons_succ]
        go_upto_region 7 with (fail)
        refine wp_region_U 21 [19, 8] [0, 1] (fun a0 HA0 => ?_)
        have oe8 := ev HA0 8 rfl
        refine QSeq.pure rfl (.int .i64 (((k : Nat) : Int) + 1)) (fun E => ex_binE rfl (E.y 1 oe8) rfl (guard_ints _ _ _ _ _ _) (run_add_i _ _ Try.underlying3) (congrArg (Value.int .i64) (IntWalk.i64_in _ (by omega)))) ?_
        refine QSeq.pure rfl _ (fun E => ex_move rfl (E.d 0 0)) ?_
        refine QSeq.nil (t' := [_, _]) rfl ?_
        obtain rfl := HA0.out
        clear HA0 oe8
        simp only [pz, Act.put, List.setIfInBounds_toArray, List.set_cons_zero, List.set_cons_succ]
        go_wp2
        go_roundw
        case rel => exact ⟨k + 1, acc ++ [x], some l2, by go_num, by omega, by rw [List.length_append, HKA.out]; rfl, HST2.out, (by have hq := HG.out; rw [HGN.out, if_neg (by simp)] at hq; exact hq), by omega, (Hx8.out.widen (by intro b h1; omega) (by intro b h1; rcases h1 with h1 | h1 | h1 <;> first | omega | exact h1.elim)), Hx10.out, (HML.out.trans Cx9.out (by intro k h1 h2; rcases h2 with h2 | h2 <;> first | exact h2 | omega | (have hb := HBR.out k h2; omega)))⟩
        case measure => simp [intOf] <;> omega
    · obtain rfl : n = k := by omega
      go_upto_region 3 with (fail)
      refine wp_region_U 21 [9] [0] (fun a0 HA0 => ?_)
      have oe7 := ev HA0 7 rfl
      have oe8 := ev HA0 8 rfl
      refine QSeq.pure rfl (.bool false) (fun E => ex_binE rfl (E.v oe8) (E.v oe7) (guard_ints _ _ _ _ _ _) (run_lss_i _ _ _ Try.underlying3) (congrArg Value.bool (decide_eq_false (by omega)))) ?_
      refine QSeq.nil (t' := [_]) rfl ?_
      obtain rfl := HA0.out
      clear HA0 oe7 oe8
      simp only [pz, Act.put, List.setIfInBounds_toArray, List.set_cons_zero, List.set_cons_succ]
      go_upto_region 8 with (fail)
      refine wp_region_U 21 [20, 4] [0, 1] (fun a0 HA0 => ?_)
      have oe5 := ev HA0 5 rfl
      refine QSeq.pure rfl _ (fun E => ex_move rfl (E.v oe5)) ?_
      refine QSeq.pure rfl _ (fun E => ex_assign rfl (E.d 0 0)) ?_
      refine QSeq.nil (t' := [_, _]) rfl ?_
      obtain rfl := HA0.out
      clear HA0 oe5
      simp only [pz, Act.put, List.setIfInBounds_toArray, List.set_cons_zero, List.set_cons_succ]
      go_wp2
      go_ret
      have hq := HG.out
      rw [Nat.sub_self] at hq
      have e := HGL.out
      rw [← hq] at e
      refine ⟨_, rfl, ?_, ?_, HML.out⟩
      · rw [e]; exact HAL.out.rd.widen (by intro b h1; (try dsimp only at h1 ⊢); omega)
      · rw [e]; exact HRL.out
set_option maxHeartbeats 4000000 in
theorem cOp_G : Gets OpR 183 107 gOp := by
  intro R r s w hR hB hl
  have HRD := Lib.hid hR
  have HBR := Lib.hid hB
  have HBY := hid hR.bytes
  clear hR hB
  have HLN := Lib.hid hl
  clear hl
  go_enter Try.func107, Try.ntmps107
  go_upto_region 1 with (fail)
  obtain ⟨w1, hw1⟩ : ∃ zz, zz = (w.alloc (.cells #[.int .i64 0, .slice none 0 0, .int .u8 0, .int .u8 0, .int .u8 0, .int .u8 0, .int .u8 0, .int .u8 0, .int .u8 0, .int .u8 0, .int .u8 0, .int .u8 0, .int .u8 0, .int .u8 0, .int .u8 0, .int .u8 0, .int .u8 0, .int .u8 0, .int .u8 0, .int .u8 0, .int .u8 0, .int .u8 0, .int .u8 0, .int .u8 0, .int .u8 0, .int .u8 0, .int .u8 0, .int .u8 0, .int .u8 0, .int .u8 0, .int .u8 0, .int .u8 0, .int .u8 0, .int .u8 0] 102)) := ⟨_, rfl⟩
  change Code.wp _ _ _ _ (w.alloc (.cells #[.int .i64 0, .slice none 0 0, .int .u8 0, .int .u8 0, .int .u8 0, .int .u8 0, .int .u8 0, .int .u8 0, .int .u8 0, .int .u8 0, .int .u8 0, .int .u8 0, .int .u8 0, .int .u8 0, .int .u8 0, .int .u8 0, .int .u8 0, .int .u8 0, .int .u8 0, .int .u8 0, .int .u8 0, .int .u8 0, .int .u8 0, .int .u8 0, .int .u8 0, .int .u8 0, .int .u8 0, .int .u8 0, .int .u8 0, .int .u8 0, .int .u8 0, .int .u8 0, .int .u8 0, .int .u8 0] 102))
  rw [← hw1]
  have HB2 := hid (show Cs w1 (w.heap.size) #[.int .i64 0, .slice none 0 0, .int .u8 0, .int .u8 0, .int .u8 0, .int .u8 0, .int .u8 0, .int .u8 0, .int .u8 0, .int .u8 0, .int .u8 0, .int .u8 0, .int .u8 0, .int .u8 0, .int .u8 0, .int .u8 0, .int .u8 0, .int .u8 0, .int .u8 0, .int .u8 0, .int .u8 0, .int .u8 0, .int .u8 0, .int .u8 0, .int .u8 0, .int .u8 0, .int .u8 0, .int .u8 0, .int .u8 0, .int .u8 0, .int .u8 0, .int .u8 0, .int .u8 0, .int .u8 0] 102 by rw [hw1]; exact Cs.new _ _ _)
  have hm : Mod (fun _ => False) w w1 := by rw [hw1]; exact (Mod.refl _ _).alloc _
  have HM0 := hid (show Mod (fun k => (R k)) w w1 from hm.mono (fun _ _ h => h.elim))
  have hs1 : w1.heap.size = w.heap.size + 1 := by rw [hw1]; simp
  have Hx1 := hid (HRD.out.mod hm (fun _ _ h => h))
  clear HRD
  clear hw1 hm
  go_upto_region 1 with (fail)
  refine wp_region_U 10 [3, 4, 5, 6, 7, 8, 9, 17] [0, 1, 2, 3, 4, 5, 6, 7] (fun a0 HA0 => ?_)
  have oe0 := ev HA0 0 rfl
  have oe2 := ev HA0 2 rfl
  refine QSeq.pure rfl _ (fun E => ex_move rfl (E.v oe0)) ?_
  refine QSeq.call rfl rfl Try.func63 (cI_Q Hx1.out) (fun E => args2 (E.d 0 0) rfl) ?_
  rintro e u1_1 ⟨rfl, qrd, hm⟩
  refine ⟨_, rfl, ?_⟩
  have Hx2 := hid qrd
  have zu1_1 := hm.size
  have Cx3 := hid (show Mod (fun k => (R k)) w1 u1_1 from hm)
  clear hm
  clear qrd Hx1
  refine QSeq.pure rfl _ (fun E => ex_move rfl (E.v oe0)) ?_
  refine QSeq.call rfl rfl Try.func109 (cRow_Q Hx2.out) (fun E => args2 (E.d 2 0) rfl) ?_
  rintro e u1_3 ⟨vr, rfl, qrow, qrd, hm⟩
  obtain ⟨ao_row, cap_row, rfl⟩ := qrow.shape
  refine ⟨_, rfl, ?_⟩
  have Hx4 := hid qrow
  have Hx5 := hid qrd
  have zu1_3 := hm.size
  have HMu1_3 := hid hm
  have Cx6 := hid (Mod.goS (S' := (fun k => (R k))) Cx3.out hm (fun _ h => h) (by intro k h0 h2; exact h2))
  clear hm Cx3
  clear qrow qrd Hx2
  refine QSeq.pure rfl _ (fun E => ex_move rfl (E.v oe0)) ?_
  refine QSeq.call rfl rfl Try.func131 (RHash_R Hx5.out) (fun E => args1 (E.d 4 0)) ?_
  rintro e u1_5 ⟨rfl, qrd, hm⟩
  refine ⟨_, rfl, ?_⟩
  have Hx7 := hid qrd
  have zu1_5 := hm.size
  have HMu1_5 := hid hm
  have Cx8 := hid (Mod.goS (S' := (fun k => (R k))) Cx6.out hm (fun _ h => h) (by intro k h0 h2; exact h2))
  clear hm Cx6
  clear qrd Hx5
  refine QSeq.go fun act E => ?_
  refine qc_run rfl (wanted_none rfl) (v := .agg ((gOp s).1.cells (Value.slice ao_row (rRow 256 (gI s).2).1.length cap_row) : List Value).toArray) (ex_build rfl (z := [.int .i64 0, .slice none 0 0, .int .u8 0, .int .u8 0, .int .u8 0, .int .u8 0, .int .u8 0, .int .u8 0, .int .u8 0, .int .u8 0, .int .u8 0, .int .u8 0, .int .u8 0, .int .u8 0, .int .u8 0, .int .u8 0, .int .u8 0, .int .u8 0, .int .u8 0, .int .u8 0, .int .u8 0, .int .u8 0, .int .u8 0, .int .u8 0, .int .u8 0, .int .u8 0, .int .u8 0, .int .u8 0, .int .u8 0, .int .u8 0, .int .u8 0, .int .u8 0, .int .u8 0, .int .u8 0]) (places := [(0, 1), (1, 1), (2, 32)]) (by kernel_rfl) (parts := [(0, .int .i64 (gI s).1), (1, .slice ao_row (rRow 256 (gI s).2).1.length cap_row), (2, hv (rHash (rRow 256 (gI s).2).2).1)]) (by simp only [List.map_toArray, List.map_cons, List.map_nil, show act.eval (.tmp 4) = .int .i64 (gI s).1 from (E.d 1 4), show act.eval (.tmp 6) = .slice ao_row (rRow 256 (gI s).2).1.length cap_row from (E.d 3 2), show act.eval (.tmp 8) = hv (rHash (rRow 256 (gI s).2).2).1 from (E.d 5 0)]; try rfl) (r := (gOp s).1.cells (Value.slice ao_row (rRow 256 (gI s).2).1.length cap_row)) (by exact (laid_segs (ns := [1, 1, 32]) rfl [(0, .int .i64 (gI s).1), (1, .slice ao_row (rRow 256 (gI s).2).1.length cap_row), (2, hv (rHash (rRow 256 (gI s).2).2).1)] [[.int .i64 0], [.slice none 0 0], [.int .u8 0, .int .u8 0, .int .u8 0, .int .u8 0, .int .u8 0, .int .u8 0, .int .u8 0, .int .u8 0, .int .u8 0, .int .u8 0, .int .u8 0, .int .u8 0, .int .u8 0, .int .u8 0, .int .u8 0, .int .u8 0, .int .u8 0, .int .u8 0, .int .u8 0, .int .u8 0, .int .u8 0, .int .u8 0, .int .u8 0, .int .u8 0, .int .u8 0, .int .u8 0, .int .u8 0, .int .u8 0, .int .u8 0, .int .u8 0, .int .u8 0, .int .u8 0]] rfl ⟨rfl, rfl, (szv (by rw [List.length_map]; exact rHash_l _)), trivial⟩).trans (congrArg some (show ([_] ++ ([_] ++ (_ ++ [])) : List Value) = _ by rw [List.append_nil]; rfl)))) ?_
  clear act E
  refine QSeq.go fun act E => ?_
  refine qc_store rfl (wanted_none rfl) rfl (HB2.out.mod Cx8.out (by intro h2; first | omega | (have hb := HBR.out _ h2; omega))) (off := 0) (vs := ((gOp s).1.cells (Value.slice ao_row (rRow 256 (gI s).2).1.length cap_row))) (by rw [show ((gOp s).1.cells (Value.slice ao_row (rRow 256 (gI s).2).1.length cap_row)).length = _ from (op_len2 _ _ (gOp_OK HBY.out).2.1)]; kernel_rfl) (one_op2 _ _ rfl) (by rw [show ((gOp s).1.cells (Value.slice ao_row (rRow 256 (gI s).2).1.length cap_row)).length = _ from (op_len2 _ _ (gOp_OK HBY.out).2.1)]; decide) (E.v oe2) (ec (E.d 6 0)) ?_
  intro u1_7 qc0 hm
  have qB2 := qc0.eqv (b := (((gOp s).1.cells (Value.slice ao_row (rRow 256 (gI s).2).1.length cap_row)) : List Value).toArray) (lay_whole _ _ (by rw [show ((gOp s).1.cells (Value.slice ao_row (rRow 256 (gI s).2).1.length cap_row)).length = _ from (op_len2 _ _ (gOp_OK HBY.out).2.1)]; rfl))
  clear qc0
  have Hx9 := hid qB2
  have zu1_7 := hm.size
  have HMu1_7 := hid hm
  have Cx10 := hid (Mod.goS (S' := (fun k => (R k) ∨ (k = w.heap.size))) Cx8.out hm (fun _ h => Or.inl h) (by intro k h0 h2; exact Or.inr (h2)))
  clear hm Cx8
  clear act E qB2 HB2
  have Hx11 := hid (Hx7.out.mod HMu1_7.out (sB HBR))
  have Hx12 := hid ((Hx4.out.mod HMu1_5.out (by intro k h1 h2; have hb := HBR.out k h2; omega)).mod HMu1_7.out (by intro k h1 h2; omega))
  clear Hx7 Hx4 HMu1_3 HMu1_5 HMu1_7
  refine QSeq.nil (t' := [_, _, _, _, _, _, _, _]) rfl ?_
  obtain rfl := HA0.out
  clear HA0 oe0 oe2
  simp only [pz, Act.put, List.setIfInBounds_toArray, List.set_cons_zero, List.set_cons_succ, List.set_nil]
  go_wp2
  exact bodyPost_ret (results_cellA rfl _ _ w.heap.size ((gOp s).1.cells (Value.slice ao_row (rRow 256 (gI s).2).1.length cap_row)) rfl (fun k u hu => by rw [Hx9.out.cell]; simpa using hu) Try.underlying102 rfl (by rw [show ((gOp s).1.cells (Value.slice ao_row (rRow 256 (gI s).2).1.length cap_row)).length = _ from (op_len2 _ _ (gOp_OK HBY.out).2.1)]; kernel_rfl)) rfl ⟨_, rfl, ⟨_, rfl, gOp_OK HBY.out, (Hx12.out.widen (R' := (fun k => New w u1_7 k)) (by intro k h1; omega) (Nat.le_refl _))⟩, Hx11.out, (HM0.out.trans Cx10.out (by intro k h1 h2; rcases h2 with h2 | h2 <;> first | exact h2 | omega | (have hb := HBR.out k h2; omega)))⟩
set_option maxHeartbeats 4000000 in
theorem cList_Op : GetsL OpR 183 137 107 gOp := by
  intro R r s w hR hB hl
  have HRD := Lib.hid hR
  have HBR := Lib.hid hB
  have HLN := Lib.hid hl
  clear hR hB hl
  go_enter Try.func137, Try.ntmps137
  go_upto_region 2 with (fail)
  have HM0 := hid (Mod.refl (fun k => (R k)) w)
  go_upto_region 2 with (fail)
  refine wp_region_U 21 [6, 7, 8] [0, 1, 2] (fun a0 HA0 => ?_)
  have oe0 := ev HA0 0 rfl
  refine QSeq.pure rfl _ (fun E => ex_move rfl (E.v oe0)) ?_
  refine QSeq.call rfl rfl Try.func63 (RInt_R HRD.out (by decide)) (fun E => args2 (E.d 0 0) rfl) ?_
  rintro e u2_1 ⟨rfl, qrd, hm⟩
  refine ⟨_, rfl, ?_⟩
  have Hx1 := hid qrd
  have zu2_1 := hm.size
  have Cx2 := hid (show Mod (fun k => (R k)) w u2_1 from hm)
  clear hm
  clear qrd HRD
  refine QSeq.pure rfl (.int .i64 0) (fun E => ex_move rfl rfl) ?_
  refine QSeq.nil (t' := [_, _, _]) rfl ?_
  obtain rfl := HA0.out
  clear HA0 oe0
  simp only [pz, Act.put, List.setIfInBounds_toArray, List.set_cons_zero, List.set_cons_succ]
  obtain ⟨n, hn⟩ : ∃ n, n = (rInt 100 s).1 := ⟨_, rfl⟩
  obtain ⟨s1, hs1⟩ : ∃ z, z = (rInt 100 s).2 := ⟨_, rfl⟩
  have hn100 : n ≤ 100 := by have := rInt_le 100 s; omega
  have HLS := hid (show (s1.getD []).length ≤ 900000 by rw [hs1]; exact Nat.le_trans ((rInt_suf 100).len s) HLN.out)
  have HGL := hid (show gList gOp s = gItems gOp n [] s1 by rw [hn, hs1]; rfl)
  rw [← hn]
  have hq := Hx1.out
  rw [← hs1] at hq
  have HR1 := Lib.hid hq
  clear hq hn hs1 HLN
  go_wp2
  go_loopw [5, 8] (fun ta ti wr => ∃ (k : Nat) (acc : List Op) (st : RSt), ti = .int .i64 (k : Int) ∧ k ≤ n ∧ acc.length = k ∧ (st.getD []).length ≤ 900000 ∧ gItems gOp (n - k) acc st = gItems gOp n [] s1 ∧ u2_1.heap.size ≤ wr.heap.size ∧ OwS OpR 102 (fun b => w.heap.size ≤ b ∧ b < wr.heap.size) (fun b => w.heap.size ≤ b ∧ b < wr.heap.size) wr ta acc ∧ RrR 183 R wr r st ∧ Mod R w wr) (fun _ ti _ => n - (intOf ti).toNat)
  case atStart => exact ⟨0, [], s1, rfl, Nat.zero_le _, rfl, HLS.out, rfl, Nat.le_refl _, OwS.nil _ _ _ _ _, HR1.out, (HM0.out.trans Cx2.out (fun _ _ h => h))⟩
  case round =>
    obtain ⟨k, acc, st, rfl, hk, hka, hst, hg, hz, ha, hr, hm⟩ := hrel
    obtain ⟨wl, rfl⟩ : ∃ x, x = wr := ⟨_, rfl⟩
    obtain ⟨aol, capl, rfl⟩ := ha.shape
    have HAL := Lib.hid ha
    have HRL := Lib.hid hr
    have HML := Lib.hid hm
    have HST := Lib.hid hst
    have HG := Lib.hid hg
    have HKA := Lib.hid hka
    clear ha hr hm hst hg hka HR1 HM0
    by_cases hlt : k < n
    · skip
      go_upto_region 3 with (fail)
      refine wp_region_U 21 [9] [0] (fun a0 HA0 => ?_)
      have oe7 := ev HA0 7 rfl
      have oe8 := ev HA0 8 rfl
      refine QSeq.pure rfl (.bool true) (fun E => ex_binE rfl (E.v oe8) (E.v oe7) (guard_ints _ _ _ _ _ _) (run_lss_i _ _ _ Try.underlying3) (congrArg Value.bool (decide_eq_true (by omega)))) ?_
      refine QSeq.nil (t' := [_]) rfl ?_
      obtain rfl := HA0.out
      clear HA0 oe7 oe8
      simp only [pz, Act.put, List.setIfInBounds_toArray, List.set_cons_zero, List.set_cons_succ]
      obtain ⟨p, hp⟩ : ∃ p, p = gOp st := ⟨_, rfl⟩
      obtain ⟨x, st2⟩ := p
      have HP1 := hid (congrArg Prod.fst hp.symm)
      have HP2 := hid (congrArg Prod.snd hp.symm)
      clear hp
      dsimp only at HP1 HP2
      have HST2 := hid (show (st2.getD []).length ≤ 900000 by rw [← HP2.out]; exact Nat.le_trans (gOp_suf.len st) HST.out)
      have HGN := hid (show gItems gOp (n - k) acc st = if st2 = none then ([], none) else gItems gOp (n - (k + 1)) (acc ++ [x]) st2 by rw [show n - k = (n - (k + 1)) + 1 by omega]; show (if (gOp st).2 = none then _ else _) = _; rw [HP2.out, HP1.out])
      go_upto_region 4 with (fail)
      refine wp_region_U 21 [10, 11, 12, 13, 14, 15, 5] [0, 1, 2, 3, 4, 5, 6] (fun a0 HA0 => ?_)
      have oe0 := ev HA0 0 rfl
      have oe1 := ev HA0 1 rfl
      have oe5 := ev HA0 5 rfl
      refine QSeq.pure rfl _ (fun E => ex_move rfl (E.y 6 oe5)) ?_
      refine QSeq.pure rfl _ (fun E => ex_move rfl (E.v oe1)) ?_
      refine QSeq.pure rfl _ (fun E => ex_move rfl (E.v oe0)) ?_
      refine QSeq.go fun act E => ?_
      have ea12 : act.eval (.tmp 12) = .pointer (some ⟨r, 0, none⟩) := (E.d 2 0)
      refine qc_call (args := #[.pointer (some ⟨r, 0, none⟩)]) rfl (wanted_none rfl) (by rw [ex_callV rfl (E.d 1 1) Try.func107 (by kernel_rfl) (by kernel_rfl)]; exact congrArg (fun z => Result.ok (Next.enter _ z) _) (by simp only [List.map_toArray, List.map_cons, List.map_nil, ea12]; try rfl)) ((cOp_G).to HP1.out HP2.out HRL.out (by intro k h1; have hb := HBR.out k h1; omega) HST.out) ?_
      rintro e u4_3 ⟨cs, rfl, qel, qrd, hm⟩
      refine ⟨_, rfl, ?_⟩
      have Hx3 := hid qel
      have Hx4 := hid qrd
      have zu4_3 := hm.size
      have Cx5 := hid (show Mod (fun k => (R k)) wl u4_3 from hm)
      clear hm
      clear act E qel qrd HRL ea12
      refine QSeq.go fun act E => ?_
      refine qc_buildS (e := 102) (cs := cs) (zc := [.int .i64 0, .slice none 0 0, .int .u8 0, .int .u8 0, .int .u8 0, .int .u8 0, .int .u8 0, .int .u8 0, .int .u8 0, .int .u8 0, .int .u8 0, .int .u8 0, .int .u8 0, .int .u8 0, .int .u8 0, .int .u8 0, .int .u8 0, .int .u8 0, .int .u8 0, .int .u8 0, .int .u8 0, .int .u8 0, .int .u8 0, .int .u8 0, .int .u8 0, .int .u8 0, .int .u8 0, .int .u8 0, .int .u8 0, .int .u8 0, .int .u8 0, .int .u8 0, .int .u8 0, .int .u8 0]) (sz := 34) rfl (wanted_none rfl) rfl Try.underlying91 (by kernel_rfl) rfl (by decide) (by decide) (E.d 3 0) (OpR.len Hx3.out) ?_
      intro u4_4 qrow hm
      have zl4_4 := qrow.lt
      have Hx6 := hid qrow
      have zu4_4 := hm.size
      have HMu4_4 := hid hm
      have Cx7 := hid (Cx5.out.goE hm)
      clear hm Cx5
      clear act E qrow
      refine QSeq.go fun act E => ?_
      refine qc_appS (A := OpR) (e := 102) rfl (wanted_none rfl) rfl (.agg #[.int .i64 0, .slice none 0 0, .int .u8 0, .int .u8 0, .int .u8 0, .int .u8 0, .int .u8 0, .int .u8 0, .int .u8 0, .int .u8 0, .int .u8 0, .int .u8 0, .int .u8 0, .int .u8 0, .int .u8 0, .int .u8 0, .int .u8 0, .int .u8 0, .int .u8 0, .int .u8 0, .int .u8 0, .int .u8 0, .int .u8 0, .int .u8 0, .int .u8 0, .int .u8 0, .int .u8 0, .int .u8 0, .int .u8 0, .int .u8 0, .int .u8 0, .int .u8 0, .int .u8 0, .int .u8 0]) 64 Try.underlying91 info_Op (by rfl) (of_decide_eq_true (by kernel_rfl)) (E.d 0 4) (E.d 4 0) ((HAL.out.mod Cx7.out (by intro k h1 h2; have hb := HBR.out k h2; omega) (by intro k h1 h2; have hb := HBR.out k h2; omega))) (RdS.single (R := (fun k => (New wl u4_3 k) ∨ (k = u4_3.heap.size))) Hx6.out ((Hx3.out.mod HMu4_4.out (fun _ _ h => h)).widen (by intro k h1; first | omega | exact h1.elim | exact Or.inl h1 | exact Or.inr (h1))) (by first | exact Or.inr rfl | exact Or.inr (Or.inr rfl) | (right; omega))) (by intro k h1 h2; omega) (by rw [HKA.out]; simp only [List.length_cons, List.length_nil]; omega) (by rw [HKA.out]; simp only [List.length_cons, List.length_nil]; rw [maxLen_val]; omega) ?_
      intro ao4 cap4 u4_5 qout hm
      have Hx8 := hid (qout.widen (R' := (fun k => (New w wl k) ∨ (New u4_4 u4_5 k))) (E' := (fun k => (New w wl k) ∨ (New wl u4_3 k) ∨ (k = u4_3.heap.size))) (fun _ h => h) (by intro k h1; rcases h1 with h1 | (h1 | h1) <;> first | omega | exact h1.elim | exact Or.inl h1 | exact Or.inr (Or.inl h1) | exact Or.inr (Or.inr (h1))))
      have zu4_5 := hm.size
      have HMu4_5 := hid hm
      have Cx9 := hid (Mod.goS (S' := (fun k => (R k) ∨ (New w wl k))) Cx7.out hm (fun _ h => Or.inl h) (by intro k h0 h2; exact Or.inr (h2)))
      clear hm Cx7
      clear act E qout HAL
      refine QSeq.pure rfl _ (fun E => ex_assign rfl (E.d 5 0)) ?_
      have Hx10 := hid ((Hx4.out.mod HMu4_4.out (fun _ _ h => h)).mod HMu4_5.out (sN HBR))
      have Hx11 := hid ((Hx3.out.mod HMu4_4.out (fun _ _ h => h)).mod HMu4_5.out (by intro k h1 h2; omega))
      have Hx12 := hid (Hx6.out.mod HMu4_5.out (by intro h2; omega))
      clear Hx4 Hx3 Hx6 HMu4_4 HMu4_5
      refine QSeq.nil (t' := [_, _, _, _, _, _, _]) rfl ?_
      obtain rfl := HA0.out
      clear HA0 oe0 oe1 oe5
      simp only [pz, Act.put, List.setIfInBounds_toArray, List.set_cons_zero, List.set_cons_succ]
      clear Hx11
      clear Hx12
      cases st2 with
      | none =>
        go_upto_region 5 with (fail)
        refine wp_region_U 21 [16, 17, 18] [0, 1, 2] (fun a0 HA0 => ?_)
        have oe0 := ev HA0 0 rfl
        refine QSeq.pure rfl _ (fun E => ex_move rfl (E.v oe0)) ?_
        refine QSeq.go fun act E => ?_
        refine qc_callF (args := #[.pointer (some ⟨r, 0, none⟩)]) rfl (wanted_none rfl) rfl Try.func64 (args1 (E.d 0 0)) (OK_R Hx10.out) ?_
        rintro e w2 ⟨rfl, hw2⟩
        obtain rfl : u4_5 = w2 := by first | exact hw2 | exact hw2.symm
        refine ⟨_, rfl, ?_⟩
        clear act E
        refine QSeq.pure rfl (.bool true) (fun E => ex_not rfl (E.d 1 0)) ?_
        refine QSeq.nil (t' := [_, _, _]) rfl ?_
        obtain rfl := HA0.out
        clear HA0 oe0
        simp only [pz, Act.put, List.setIfInBounds_toArray, List.set_cons_zero, List.set_cons_succ]
        go_upto_region 6 with (fail)
        refine wp_region_U 21 [4] [0] (fun a0 HA0 => ?_)
        refine QSeq.pure rfl (.slice none 0 0) (fun E => ex_assign rfl rfl) ?_
        refine QSeq.nil (t' := [_]) rfl ?_
        obtain rfl := HA0.out
        clear HA0
        simp only [pz, Act.put, List.setIfInBounds_toArray, List.set_cons_zero, List.set_cons_succ]
        go_wp2
        go_ret
        have hq := HG.out
        rw [HGN.out, if_pos trivial] at hq
        have e := HGL.out
        rw [← hq] at e
        refine ⟨_, rfl, ?_, ?_, (HML.out.trans Cx9.out (by intro k h1 h2; rcases h2 with h2 | h2 <;> first | exact h2 | omega | (have hb := HBR.out k h2; omega)))⟩
        · rw [e]; exact RdS.nil _ _ _
        · rw [e]; exact Hx10.out
      | some l2 =>
        go_upto_region 5 with (fail)
        refine wp_region_U 21 [16, 17, 18] [0, 1, 2] (fun a0 HA0 => ?_)
        have oe0 := ev HA0 0 rfl
        refine QSeq.pure rfl _ (fun E => ex_move rfl (E.v oe0)) ?_
        refine QSeq.go fun act E => ?_
        refine qc_callF (args := #[.pointer (some ⟨r, 0, none⟩)]) rfl (wanted_none rfl) rfl Try.func64 (args1 (E.d 0 0)) (OK_R Hx10.out) ?_
        rintro e w2 ⟨rfl, hw2⟩
        obtain rfl : u4_5 = w2 := by first | exact hw2 | exact hw2.symm
        refine ⟨_, rfl, ?_⟩
        clear act E
        refine QSeq.pure rfl (.bool false) (fun E => ex_not rfl (E.d 1 0)) ?_
        refine QSeq.nil (t' := [_, _, _]) rfl ?_
        obtain rfl := HA0.out
        clear HA0 oe0
        simp only [pz, Act.put, List.setIfInBounds_toArray, List.set_cons_zero, List.set_cons_succ]
        go_upto_region 7 with (fail)
        refine wp_region_U 21 [19, 8] [0, 1] (fun a0 HA0 => ?_)
        have oe8 := ev HA0 8 rfl
        refine QSeq.pure rfl (.int .i64 (((k : Nat) : Int) + 1)) (fun E => ex_binE rfl (E.y 1 oe8) rfl (guard_ints _ _ _ _ _ _) (run_add_i _ _ Try.underlying3) (congrArg (Value.int .i64) (IntWalk.i64_in _ (by omega)))) ?_
        refine QSeq.pure rfl _ (fun E => ex_move rfl (E.d 0 0)) ?_
        refine QSeq.nil (t' := [_, _]) rfl ?_
        obtain rfl := HA0.out
        clear HA0 oe8
        simp only [pz, Act.put, List.setIfInBounds_toArray, List.set_cons_zero, List.set_cons_succ]
        go_wp2
        go_roundw
        case rel => exact ⟨k + 1, acc ++ [x], some l2, by go_num, by omega, by rw [List.length_append, HKA.out]; rfl, HST2.out, (by have hq := HG.out; rw [HGN.out, if_neg (by simp)] at hq; exact hq), by omega, (Hx8.out.widen (by intro b h1; omega) (by intro b h1; rcases h1 with h1 | h1 | h1 <;> first | omega | exact h1.elim)), Hx10.out, (HML.out.trans Cx9.out (by intro k h1 h2; rcases h2 with h2 | h2 <;> first | exact h2 | omega | (have hb := HBR.out k h2; omega)))⟩
        case measure => simp [intOf] <;> omega
    · obtain rfl : n = k := by omega
      go_upto_region 3 with (fail)
      refine wp_region_U 21 [9] [0] (fun a0 HA0 => ?_)
      have oe7 := ev HA0 7 rfl
      have oe8 := ev HA0 8 rfl
      refine QSeq.pure rfl (.bool false) (fun E => ex_binE rfl (E.v oe8) (E.v oe7) (guard_ints _ _ _ _ _ _) (run_lss_i _ _ _ Try.underlying3) (congrArg Value.bool (decide_eq_false (by omega)))) ?_
      refine QSeq.nil (t' := [_]) rfl ?_
      obtain rfl := HA0.out
      clear HA0 oe7 oe8
      simp only [pz, Act.put, List.setIfInBounds_toArray, List.set_cons_zero, List.set_cons_succ]
      go_upto_region 8 with (fail)
      refine wp_region_U 21 [20, 4] [0, 1] (fun a0 HA0 => ?_)
      have oe5 := ev HA0 5 rfl
      refine QSeq.pure rfl _ (fun E => ex_move rfl (E.v oe5)) ?_
      refine QSeq.pure rfl _ (fun E => ex_assign rfl (E.d 0 0)) ?_
      refine QSeq.nil (t' := [_, _]) rfl ?_
      obtain rfl := HA0.out
      clear HA0 oe5
      simp only [pz, Act.put, List.setIfInBounds_toArray, List.set_cons_zero, List.set_cons_succ]
      go_wp2
      go_ret
      have hq := HG.out
      rw [Nat.sub_self] at hq
      have e := HGL.out
      rw [← hq] at e
      refine ⟨_, rfl, ?_, ?_, HML.out⟩
      · rw [e]; exact HAL.out.rd.widen (by intro b h1; (try dsimp only at h1 ⊢); omega)
      · rw [e]; exact HRL.out
set_option maxHeartbeats 4000000 in
theorem cPm_G : Gets PmR 183 103 gPm := by
  intro R r s w hR hB hl
  have HRD := Lib.hid hR
  have HBR := Lib.hid hB
  have HBY := hid hR.bytes
  clear hR hB
  have HLN := Lib.hid hl
  clear hl
  go_enter Try.func103, Try.ntmps103
  go_upto_region 1 with (fail)
  obtain ⟨w1, hw1⟩ : ∃ zz, zz = (w.alloc (.cells #[.int .i64 0, .int .i64 0, .int .u64 0, .slice none 0 0, .int .i64 0, .int .i64 0] 89)) := ⟨_, rfl⟩
  change Code.wp _ _ _ _ (w.alloc (.cells #[.int .i64 0, .int .i64 0, .int .u64 0, .slice none 0 0, .int .i64 0, .int .i64 0] 89))
  rw [← hw1]
  have HB2 := hid (show Cs w1 (w.heap.size) #[.int .i64 0, .int .i64 0, .int .u64 0, .slice none 0 0, .int .i64 0, .int .i64 0] 89 by rw [hw1]; exact Cs.new _ _ _)
  have hm : Mod (fun _ => False) w w1 := by rw [hw1]; exact (Mod.refl _ _).alloc _
  have HM0 := hid (show Mod (fun k => (R k)) w w1 from hm.mono (fun _ _ h => h.elim))
  have hs1 : w1.heap.size = w.heap.size + 1 := by rw [hw1]; simp
  have Hx1 := hid (HRD.out.mod hm (fun _ _ h => h))
  clear HRD
  clear hw1 hm
  go_upto_region 1 with (fail)
  refine wp_region_U 14 [3, 4, 5, 6, 7, 8, 9, 10, 11, 12, 13, 25] [0, 1, 2, 3, 4, 5, 6, 7, 8, 9, 10, 11] (fun a0 HA0 => ?_)
  have oe0 := ev HA0 0 rfl
  have oe2 := ev HA0 2 rfl
  refine QSeq.pure rfl _ (fun E => ex_move rfl (E.v oe0)) ?_
  refine QSeq.call rfl rfl Try.func63 (cI_Q Hx1.out) (fun E => args2 (E.d 0 0) rfl) ?_
  rintro e u1_1 ⟨rfl, qrd, hm⟩
  refine ⟨_, rfl, ?_⟩
  have Hx2 := hid qrd
  have zu1_1 := hm.size
  have Cx3 := hid (show Mod (fun k => (R k)) w1 u1_1 from hm)
  clear hm
  clear qrd Hx1
  refine QSeq.pure rfl _ (fun E => ex_move rfl (E.v oe0)) ?_
  refine QSeq.call rfl rfl Try.func63 (cI_Q Hx2.out) (fun E => args2 (E.d 2 0) rfl) ?_
  rintro e u1_3 ⟨rfl, qrd, hm⟩
  refine ⟨_, rfl, ?_⟩
  have Hx4 := hid qrd
  have zu1_3 := hm.size
  have HMu1_3 := hid hm
  have Cx5 := hid (Mod.goS (S' := (fun k => (R k))) Cx3.out hm (fun _ h => h) (by intro k h0 h2; exact h2))
  clear hm Cx3
  clear qrd Hx2
  refine QSeq.pure rfl _ (fun E => ex_move rfl (E.v oe0)) ?_
  refine QSeq.call rfl rfl Try.func102 (RNum_R Hx4.out) (fun E => args1 (E.d 4 0)) ?_
  rintro e u1_5 ⟨rfl, qrd, hm⟩
  refine ⟨_, rfl, ?_⟩
  have Hx6 := hid qrd
  have zu1_5 := hm.size
  have HMu1_5 := hid hm
  have Cx7 := hid (Mod.goS (S' := (fun k => (R k))) Cx5.out hm (fun _ h => h) (by intro k h0 h2; exact h2))
  clear hm Cx5
  clear qrd Hx4
  refine QSeq.pure rfl _ (fun E => ex_move rfl (E.v oe0)) ?_
  refine QSeq.call rfl rfl Try.func134 (cList_Ce _ _ _ _ Hx6.out (by intro k h1; have hb := HBR.out k h1; omega) (Nat.le_trans (rNum_suf.len _) (Nat.le_trans (gI_suf.len _) (Nat.le_trans (gI_suf.len _) HLN.out)))) (fun E => args2 (E.d 6 0) rfl) ?_
  rintro e u1_7 ⟨vlCe, rfl, qlCe, qrd, hm⟩
  obtain ⟨ao_lCe, cap_lCe, rfl⟩ := qlCe.shape
  refine ⟨_, rfl, ?_⟩
  have Hx8 := hid qlCe
  have Hx9 := hid qrd
  have zu1_7 := hm.size
  have HMu1_7 := hid hm
  have Cx10 := hid (Mod.goS (S' := (fun k => (R k))) Cx7.out hm (fun _ h => h) (by intro k h0 h2; exact h2))
  clear hm Cx7
  clear qlCe qrd Hx6
  refine QSeq.pure rfl _ (fun E => ex_move rfl (E.v oe0)) ?_
  refine QSeq.call rfl rfl Try.func132 (cSig_Q _ _ _ _ Hx9.out (by intro k h1; have hb := HBR.out k h1; omega)) (fun E => args1 (E.d 8 0)) ?_
  rintro e u1_9 ⟨rfl, qrd, hm⟩
  refine ⟨_, rfl, ?_⟩
  have Hx11 := hid qrd
  have zu1_9 := hm.size
  have HMu1_9 := hid hm
  have Cx12 := hid (Mod.goS (S' := (fun k => (R k))) Cx10.out hm (fun _ h => h) (by intro k h0 h2; exact h2))
  clear hm Cx10
  clear qrd Hx9
  refine QSeq.go fun act E => ?_
  refine qc_run rfl (wanted_none rfl) (v := .agg ((gPm s).1.cells (Value.slice ao_lCe (gList gCe (rNum (gI (gI s).2).2).2).1.length cap_lCe) : List Value).toArray) (ex_build rfl (z := [.int .i64 0, .int .i64 0, .int .u64 0, .slice none 0 0, .int .i64 0, .int .i64 0]) (places := [(0, 1), (1, 1), (2, 1), (3, 1), (4, 2)]) (by kernel_rfl) (parts := [(0, .int .i64 (gI s).1), (1, .int .i64 (gI (gI s).2).1), (2, .int .u64 ((rNum (gI (gI s).2).2).1 : Nat)), (3, .slice ao_lCe (gList gCe (rNum (gI (gI s).2).2).2).1.length cap_lCe), (4, .agg #[.int .i64 (gSig (gList gCe (rNum (gI (gI s).2).2).2).2).1.1, .int .i64 (gSig (gList gCe (rNum (gI (gI s).2).2).2).2).1.2])]) (by simp only [List.map_toArray, List.map_cons, List.map_nil, show act.eval (.tmp 4) = .int .i64 (gI s).1 from (E.d 1 8), show act.eval (.tmp 6) = .int .i64 (gI (gI s).2).1 from (E.d 3 6), show act.eval (.tmp 8) = .int .u64 ((rNum (gI (gI s).2).2).1 : Nat) from (E.d 5 4), show act.eval (.tmp 10) = .slice ao_lCe (gList gCe (rNum (gI (gI s).2).2).2).1.length cap_lCe from (E.d 7 2), show act.eval (.tmp 12) = .agg #[.int .i64 (gSig (gList gCe (rNum (gI (gI s).2).2).2).2).1.1, .int .i64 (gSig (gList gCe (rNum (gI (gI s).2).2).2).2).1.2] from (E.d 9 0)]; try rfl) (r := (gPm s).1.cells (Value.slice ao_lCe (gList gCe (rNum (gI (gI s).2).2).2).1.length cap_lCe)) (by exact laid_segs (ns := [1, 1, 1, 1, 2]) rfl [(0, .int .i64 (gI s).1), (1, .int .i64 (gI (gI s).2).1), (2, .int .u64 ((rNum (gI (gI s).2).2).1 : Nat)), (3, .slice ao_lCe (gList gCe (rNum (gI (gI s).2).2).2).1.length cap_lCe), (4, .agg #[.int .i64 (gSig (gList gCe (rNum (gI (gI s).2).2).2).2).1.1, .int .i64 (gSig (gList gCe (rNum (gI (gI s).2).2).2).2).1.2])] [[.int .i64 0], [.int .i64 0], [.int .u64 0], [.slice none 0 0], [.int .i64 0, .int .i64 0]] rfl ⟨rfl, rfl, rfl, rfl, rfl, trivial⟩)) ?_
  clear act E
  refine QSeq.go fun act E => ?_
  refine qc_store rfl (wanted_none rfl) rfl (HB2.out.mod Cx12.out (by intro h2; first | omega | (have hb := HBR.out _ h2; omega))) (off := 0) (vs := ((gPm s).1.cells (Value.slice ao_lCe (gList gCe (rNum (gI (gI s).2).2).2).1.length cap_lCe))) (by kernel_rfl) (by intro u hu; simp only [Pm.cells, List.mem_cons, List.not_mem_nil, or_false] at hu; rcases hu with rfl | rfl | rfl | rfl | rfl | rfl <;> rfl) (by simp) (E.v oe2) (ec (E.d 10 0)) ?_
  intro u1_11 qc0 hm
  have qB2 := qc0.eqv (b := (((gPm s).1.cells (Value.slice ao_lCe (gList gCe (rNum (gI (gI s).2).2).2).1.length cap_lCe)) : List Value).toArray) (lay_whole #[.int .i64 0, .int .i64 0, .int .u64 0, .slice none 0 0, .int .i64 0, .int .i64 0] _ rfl)
  clear qc0
  have Hx13 := hid qB2
  have zu1_11 := hm.size
  have HMu1_11 := hid hm
  have Cx14 := hid (Mod.goS (S' := (fun k => (R k) ∨ (k = w.heap.size))) Cx12.out hm (fun _ h => Or.inl h) (by intro k h0 h2; exact Or.inr (h2)))
  clear hm Cx12
  clear act E qB2 HB2
  have Hx15 := hid (Hx11.out.mod HMu1_11.out (sB HBR))
  have Hx16 := hid ((Hx8.out.mod HMu1_9.out (by intro k h1 h2; have hb := HBR.out k h2; omega)).mod HMu1_11.out (by intro k h1 h2; omega))
  clear Hx11 Hx8 HMu1_3 HMu1_5 HMu1_7 HMu1_9 HMu1_11
  refine QSeq.nil (t' := [_, _, _, _, _, _, _, _, _, _, _, _]) rfl ?_
  obtain rfl := HA0.out
  clear HA0 oe0 oe2
  simp only [pz, Act.put, List.setIfInBounds_toArray, List.set_cons_zero, List.set_cons_succ, List.set_nil]
  go_wp2
  exact bodyPost_ret (results_cellA rfl _ _ w.heap.size ((gPm s).1.cells (Value.slice ao_lCe (gList gCe (rNum (gI (gI s).2).2).2).1.length cap_lCe)) rfl (fun k u hu => by rw [Hx13.out.cell]; simpa using hu) Try.underlying89 rfl (by kernel_rfl)) rfl ⟨_, rfl, ⟨_, rfl, gPm_OK HBY.out, (Hx16.out.widen (R' := (fun k => New w u1_11 k)) (by intro k h1; omega))⟩, Hx15.out, (HM0.out.trans Cx14.out (by intro k h1 h2; rcases h2 with h2 | h2 <;> first | exact h2 | omega | (have hb := HBR.out k h2; omega)))⟩
set_option maxHeartbeats 4000000 in
theorem cList_Pm : GetsL PmR 183 136 103 gPm := by
  intro R r s w hR hB hl
  have HRD := Lib.hid hR
  have HBR := Lib.hid hB
  have HLN := Lib.hid hl
  clear hR hB hl
  go_enter Try.func136, Try.ntmps136
  go_upto_region 2 with (fail)
  have HM0 := hid (Mod.refl (fun k => (R k)) w)
  go_upto_region 2 with (fail)
  refine wp_region_U 21 [6, 7, 8] [0, 1, 2] (fun a0 HA0 => ?_)
  have oe0 := ev HA0 0 rfl
  refine QSeq.pure rfl _ (fun E => ex_move rfl (E.v oe0)) ?_
  refine QSeq.call rfl rfl Try.func63 (RInt_R HRD.out (by decide)) (fun E => args2 (E.d 0 0) rfl) ?_
  rintro e u2_1 ⟨rfl, qrd, hm⟩
  refine ⟨_, rfl, ?_⟩
  have Hx1 := hid qrd
  have zu2_1 := hm.size
  have Cx2 := hid (show Mod (fun k => (R k)) w u2_1 from hm)
  clear hm
  clear qrd HRD
  refine QSeq.pure rfl (.int .i64 0) (fun E => ex_move rfl rfl) ?_
  refine QSeq.nil (t' := [_, _, _]) rfl ?_
  obtain rfl := HA0.out
  clear HA0 oe0
  simp only [pz, Act.put, List.setIfInBounds_toArray, List.set_cons_zero, List.set_cons_succ]
  obtain ⟨n, hn⟩ : ∃ n, n = (rInt 100 s).1 := ⟨_, rfl⟩
  obtain ⟨s1, hs1⟩ : ∃ z, z = (rInt 100 s).2 := ⟨_, rfl⟩
  have hn100 : n ≤ 100 := by have := rInt_le 100 s; omega
  have HLS := hid (show (s1.getD []).length ≤ 900000 by rw [hs1]; exact Nat.le_trans ((rInt_suf 100).len s) HLN.out)
  have HGL := hid (show gList gPm s = gItems gPm n [] s1 by rw [hn, hs1]; rfl)
  rw [← hn]
  have hq := Hx1.out
  rw [← hs1] at hq
  have HR1 := Lib.hid hq
  clear hq hn hs1 HLN
  go_wp2
  go_loopw [5, 8] (fun ta ti wr => ∃ (k : Nat) (acc : List Pm) (st : RSt), ti = .int .i64 (k : Int) ∧ k ≤ n ∧ acc.length = k ∧ (st.getD []).length ≤ 900000 ∧ gItems gPm (n - k) acc st = gItems gPm n [] s1 ∧ u2_1.heap.size ≤ wr.heap.size ∧ OwS PmR 89 (fun b => w.heap.size ≤ b ∧ b < wr.heap.size) (fun b => w.heap.size ≤ b ∧ b < wr.heap.size) wr ta acc ∧ RrR 183 R wr r st ∧ Mod R w wr) (fun _ ti _ => n - (intOf ti).toNat)
  case atStart => exact ⟨0, [], s1, rfl, Nat.zero_le _, rfl, HLS.out, rfl, Nat.le_refl _, OwS.nil _ _ _ _ _, HR1.out, (HM0.out.trans Cx2.out (fun _ _ h => h))⟩
  case round =>
    obtain ⟨k, acc, st, rfl, hk, hka, hst, hg, hz, ha, hr, hm⟩ := hrel
    obtain ⟨wl, rfl⟩ : ∃ x, x = wr := ⟨_, rfl⟩
    obtain ⟨aol, capl, rfl⟩ := ha.shape
    have HAL := Lib.hid ha
    have HRL := Lib.hid hr
    have HML := Lib.hid hm
    have HST := Lib.hid hst
    have HG := Lib.hid hg
    have HKA := Lib.hid hka
    clear ha hr hm hst hg hka HR1 HM0
    by_cases hlt : k < n
    · skip
      go_upto_region 3 with (fail)
      refine wp_region_U 21 [9] [0] (fun a0 HA0 => ?_)
      have oe7 := ev HA0 7 rfl
      have oe8 := ev HA0 8 rfl
      refine QSeq.pure rfl (.bool true) (fun E => ex_binE rfl (E.v oe8) (E.v oe7) (guard_ints _ _ _ _ _ _) (run_lss_i _ _ _ Try.underlying3) (congrArg Value.bool (decide_eq_true (by omega)))) ?_
      refine QSeq.nil (t' := [_]) rfl ?_
      obtain rfl := HA0.out
      clear HA0 oe7 oe8
      simp only [pz, Act.put, List.setIfInBounds_toArray, List.set_cons_zero, List.set_cons_succ]
      obtain ⟨p, hp⟩ : ∃ p, p = gPm st := ⟨_, rfl⟩
      obtain ⟨x, st2⟩ := p
      have HP1 := hid (congrArg Prod.fst hp.symm)
      have HP2 := hid (congrArg Prod.snd hp.symm)
      clear hp
      dsimp only at HP1 HP2
      have HST2 := hid (show (st2.getD []).length ≤ 900000 by rw [← HP2.out]; exact Nat.le_trans (gPm_suf.len st) HST.out)
      have HGN := hid (show gItems gPm (n - k) acc st = if st2 = none then ([], none) else gItems gPm (n - (k + 1)) (acc ++ [x]) st2 by rw [show n - k = (n - (k + 1)) + 1 by omega]; show (if (gPm st).2 = none then _ else _) = _; rw [HP2.out, HP1.out])
      go_upto_region 4 with (fail)
      refine wp_region_U 21 [10, 11, 12, 13, 14, 15, 5] [0, 1, 2, 3, 4, 5, 6] (fun a0 HA0 => ?_)
      have oe0 := ev HA0 0 rfl
      have oe1 := ev HA0 1 rfl
      have oe5 := ev HA0 5 rfl
      refine QSeq.pure rfl _ (fun E => ex_move rfl (E.y 6 oe5)) ?_
      refine QSeq.pure rfl _ (fun E => ex_move rfl (E.v oe1)) ?_
      refine QSeq.pure rfl _ (fun E => ex_move rfl (E.v oe0)) ?_
      refine QSeq.go fun act E => ?_
      have ea12 : act.eval (.tmp 12) = .pointer (some ⟨r, 0, none⟩) := (E.d 2 0)
      refine qc_call (args := #[.pointer (some ⟨r, 0, none⟩)]) rfl (wanted_none rfl) (by rw [ex_callV rfl (E.d 1 1) Try.func103 (by kernel_rfl) (by kernel_rfl)]; exact congrArg (fun z => Result.ok (Next.enter _ z) _) (by simp only [List.map_toArray, List.map_cons, List.map_nil, ea12]; try rfl)) ((cPm_G).to HP1.out HP2.out HRL.out (by intro k h1; have hb := HBR.out k h1; omega) HST.out) ?_
      rintro e u4_3 ⟨cs, rfl, qel, qrd, hm⟩
      refine ⟨_, rfl, ?_⟩
      have Hx3 := hid qel
      have Hx4 := hid qrd
      have zu4_3 := hm.size
      have Cx5 := hid (show Mod (fun k => (R k)) wl u4_3 from hm)
      clear hm
      clear act E qel qrd HRL ea12
      refine QSeq.go fun act E => ?_
      refine qc_buildS (e := 89) (cs := cs) (zc := [.int .i64 0, .int .i64 0, .int .u64 0, .slice none 0 0, .int .i64 0, .int .i64 0]) (sz := 6) rfl (wanted_none rfl) rfl Try.underlying90 (by kernel_rfl) rfl (by decide) (by decide) (E.d 3 0) (PmR.len Hx3.out) ?_
      intro u4_4 qrow hm
      have zl4_4 := qrow.lt
      have Hx6 := hid qrow
      have zu4_4 := hm.size
      have HMu4_4 := hid hm
      have Cx7 := hid (Cx5.out.goE hm)
      clear hm Cx5
      clear act E qrow
      refine QSeq.go fun act E => ?_
      refine qc_appS (A := PmR) (e := 89) rfl (wanted_none rfl) rfl (.agg #[.int .i64 0, .int .i64 0, .int .u64 0, .slice none 0 0, .int .i64 0, .int .i64 0]) 64 Try.underlying90 info_Pm (by rfl) (of_decide_eq_true (by kernel_rfl)) (E.d 0 4) (E.d 4 0) ((HAL.out.mod Cx7.out (by intro k h1 h2; have hb := HBR.out k h2; omega) (by intro k h1 h2; have hb := HBR.out k h2; omega))) (RdS.single (R := (fun k => (New wl u4_3 k) ∨ (k = u4_3.heap.size))) Hx6.out ((Hx3.out.mod HMu4_4.out (fun _ _ h => h)).widen (by intro k h1; first | omega | exact h1.elim | exact Or.inl h1 | exact Or.inr (h1))) (by first | exact Or.inr rfl | exact Or.inr (Or.inr rfl) | (right; omega))) (by intro k h1 h2; omega) (by rw [HKA.out]; simp only [List.length_cons, List.length_nil]; omega) (by rw [HKA.out]; simp only [List.length_cons, List.length_nil]; rw [maxLen_val]; omega) ?_
      intro ao4 cap4 u4_5 qout hm
      have Hx8 := hid (qout.widen (R' := (fun k => (New w wl k) ∨ (New u4_4 u4_5 k))) (E' := (fun k => (New w wl k) ∨ (New wl u4_3 k) ∨ (k = u4_3.heap.size))) (fun _ h => h) (by intro k h1; rcases h1 with h1 | (h1 | h1) <;> first | omega | exact h1.elim | exact Or.inl h1 | exact Or.inr (Or.inl h1) | exact Or.inr (Or.inr (h1))))
      have zu4_5 := hm.size
      have HMu4_5 := hid hm
      have Cx9 := hid (Mod.goS (S' := (fun k => (R k) ∨ (New w wl k))) Cx7.out hm (fun _ h => Or.inl h) (by intro k h0 h2; exact Or.inr (h2)))
      clear hm Cx7
      clear act E qout HAL
      refine QSeq.pure rfl _ (fun E => ex_assign rfl (E.d 5 0)) ?_
      have Hx10 := hid ((Hx4.out.mod HMu4_4.out (fun _ _ h => h)).mod HMu4_5.out (sN HBR))
      have Hx11 := hid ((Hx3.out.mod HMu4_4.out (fun _ _ h => h)).mod HMu4_5.out (by intro k h1 h2; omega))
      have Hx12 := hid (Hx6.out.mod HMu4_5.out (by intro h2; omega))
      clear Hx4 Hx3 Hx6 HMu4_4 HMu4_5
      refine QSeq.nil (t' := [_, _, _, _, _, _, _]) rfl ?_
      obtain rfl := HA0.out
      clear HA0 oe0 oe1 oe5
      simp only [pz, Act.put, List.setIfInBounds_toArray, List.set_cons_zero, List.set_cons_succ]
      clear Hx11
      clear Hx12
      cases st2 with
      | none =>
        go_upto_region 5 with (fail)
        refine wp_region_U 21 [16, 17, 18] [0, 1, 2] (fun a0 HA0 => ?_)
        have oe0 := ev HA0 0 rfl
        refine QSeq.pure rfl _ (fun E => ex_move rfl (E.v oe0)) ?_
        refine QSeq.go fun act E => ?_
        refine qc_callF (args := #[.pointer (some ⟨r, 0, none⟩)]) rfl (wanted_none rfl) rfl Try.func64 (args1 (E.d 0 0)) (OK_R Hx10.out) ?_
        rintro e w2 ⟨rfl, hw2⟩
        obtain rfl : u4_5 = w2 := by first | exact hw2 | exact hw2.symm
        refine ⟨_, rfl, ?_⟩
        clear act E
        refine QSeq.pure rfl (.bool true) (fun E => ex_not rfl (E.d 1 0)) ?_
        refine QSeq.nil (t' := [_, _, _]) rfl ?_
        obtain rfl := HA0.out
        clear HA0 oe0
        simp only [pz, Act.put, List.setIfInBounds_toArray, List.set_cons_zero, List.set_cons_succ]
        go_upto_region 6 with (fail)
        refine wp_region_U 21 [4] [0] (fun a0 HA0 => ?_)
        refine QSeq.pure rfl (.slice none 0 0) (fun E => ex_assign rfl rfl) ?_
        refine QSeq.nil (t' := [_]) rfl ?_
        obtain rfl := HA0.out
        clear HA0
        simp only [pz, Act.put, List.setIfInBounds_toArray, List.set_cons_zero, List.set_cons_succ]
        go_wp2
        go_ret
        have hq := HG.out
        rw [HGN.out, if_pos trivial] at hq
        have e := HGL.out
        rw [← hq] at e
        refine ⟨_, rfl, ?_, ?_, (HML.out.trans Cx9.out (by intro k h1 h2; rcases h2 with h2 | h2 <;> first | exact h2 | omega | (have hb := HBR.out k h2; omega)))⟩
        · rw [e]; exact RdS.nil _ _ _
        · rw [e]; exact Hx10.out
      | some l2 =>
        go_upto_region 5 with (fail)
        refine wp_region_U 21 [16, 17, 18] [0, 1, 2] (fun a0 HA0 => ?_)
        have oe0 := ev HA0 0 rfl
        refine QSeq.pure rfl _ (fun E => ex_move rfl (E.v oe0)) ?_
        refine QSeq.go fun act E => ?_
        refine qc_callF (args := #[.pointer (some ⟨r, 0, none⟩)]) rfl (wanted_none rfl) rfl Try.func64 (args1 (E.d 0 0)) (OK_R Hx10.out) ?_
        rintro e w2 ⟨rfl, hw2⟩
        obtain rfl : u4_5 = w2 := by first | exact hw2 | exact hw2.symm
        refine ⟨_, rfl, ?_⟩
        clear act E
        refine QSeq.pure rfl (.bool false) (fun E => ex_not rfl (E.d 1 0)) ?_
        refine QSeq.nil (t' := [_, _, _]) rfl ?_
        obtain rfl := HA0.out
        clear HA0 oe0
        simp only [pz, Act.put, List.setIfInBounds_toArray, List.set_cons_zero, List.set_cons_succ]
        go_upto_region 7 with (fail)
        refine wp_region_U 21 [19, 8] [0, 1] (fun a0 HA0 => ?_)
        have oe8 := ev HA0 8 rfl
        refine QSeq.pure rfl (.int .i64 (((k : Nat) : Int) + 1)) (fun E => ex_binE rfl (E.y 1 oe8) rfl (guard_ints _ _ _ _ _ _) (run_add_i _ _ Try.underlying3) (congrArg (Value.int .i64) (IntWalk.i64_in _ (by omega)))) ?_
        refine QSeq.pure rfl _ (fun E => ex_move rfl (E.d 0 0)) ?_
        refine QSeq.nil (t' := [_, _]) rfl ?_
        obtain rfl := HA0.out
        clear HA0 oe8
        simp only [pz, Act.put, List.setIfInBounds_toArray, List.set_cons_zero, List.set_cons_succ]
        go_wp2
        go_roundw
        case rel => exact ⟨k + 1, acc ++ [x], some l2, by go_num, by omega, by rw [List.length_append, HKA.out]; rfl, HST2.out, (by have hq := HG.out; rw [HGN.out, if_neg (by simp)] at hq; exact hq), by omega, (Hx8.out.widen (by intro b h1; omega) (by intro b h1; rcases h1 with h1 | h1 | h1 <;> first | omega | exact h1.elim)), Hx10.out, (HML.out.trans Cx9.out (by intro k h1 h2; rcases h2 with h2 | h2 <;> first | exact h2 | omega | (have hb := HBR.out k h2; omega)))⟩
        case measure => simp [intOf] <;> omega
    · obtain rfl : n = k := by omega
      go_upto_region 3 with (fail)
      refine wp_region_U 21 [9] [0] (fun a0 HA0 => ?_)
      have oe7 := ev HA0 7 rfl
      have oe8 := ev HA0 8 rfl
      refine QSeq.pure rfl (.bool false) (fun E => ex_binE rfl (E.v oe8) (E.v oe7) (guard_ints _ _ _ _ _ _) (run_lss_i _ _ _ Try.underlying3) (congrArg Value.bool (decide_eq_false (by omega)))) ?_
      refine QSeq.nil (t' := [_]) rfl ?_
      obtain rfl := HA0.out
      clear HA0 oe7 oe8
      simp only [pz, Act.put, List.setIfInBounds_toArray, List.set_cons_zero, List.set_cons_succ]
      go_upto_region 8 with (fail)
      refine wp_region_U 21 [20, 4] [0, 1] (fun a0 HA0 => ?_)
      have oe5 := ev HA0 5 rfl
      refine QSeq.pure rfl _ (fun E => ex_move rfl (E.v oe5)) ?_
      refine QSeq.pure rfl _ (fun E => ex_assign rfl (E.d 0 0)) ?_
      refine QSeq.nil (t' := [_, _]) rfl ?_
      obtain rfl := HA0.out
      clear HA0 oe5
      simp only [pz, Act.put, List.setIfInBounds_toArray, List.set_cons_zero, List.set_cons_succ]
      go_wp2
      go_ret
      have hq := HG.out
      rw [Nat.sub_self] at hq
      have e := HGL.out
      rw [← hq] at e
      refine ⟨_, rfl, ?_, ?_, HML.out⟩
      · rw [e]; exact HAL.out.rd.widen (by intro b h1; (try dsimp only at h1 ⊢); omega)
      · rw [e]; exact HRL.out
set_option maxHeartbeats 4000000 in
theorem cBa_G : Gets BaR 183 110 gBa := by
  intro R r s w hR hB hl
  have HRD := Lib.hid hR
  have HBR := Lib.hid hB
  have HBY := hid hR.bytes
  clear hR hB
  have HLN := Lib.hid hl
  clear hl
  go_enter Try.func110, Try.ntmps110
  go_upto_region 1 with (fail)
  obtain ⟨w1, hw1⟩ : ∃ zz, zz = (w.alloc (.cells #[.int .i64 0, .int .u64 0, .slice none 0 0, .slice none 0 0, .slice none 0 0] 94)) := ⟨_, rfl⟩
  change Code.wp _ _ _ _ (w.alloc (.cells #[.int .i64 0, .int .u64 0, .slice none 0 0, .slice none 0 0, .slice none 0 0] 94))
  rw [← hw1]
  have HB2 := hid (show Cs w1 (w.heap.size) #[.int .i64 0, .int .u64 0, .slice none 0 0, .slice none 0 0, .slice none 0 0] 94 by rw [hw1]; exact Cs.new _ _ _)
  have hm : Mod (fun _ => False) w w1 := by rw [hw1]; exact (Mod.refl _ _).alloc _
  have HM0 := hid (show Mod (fun k => (R k)) w w1 from hm.mono (fun _ _ h => h.elim))
  have hs1 : w1.heap.size = w.heap.size + 1 := by rw [hw1]; simp
  have Hx1 := hid (HRD.out.mod hm (fun _ _ h => h))
  clear HRD
  clear hw1 hm
  go_upto_region 1 with (fail)
  refine wp_region_U 14 [3, 4, 5, 6, 7, 8, 9, 10, 11, 12, 13, 25] [0, 1, 2, 3, 4, 5, 6, 7, 8, 9, 10, 11] (fun a0 HA0 => ?_)
  have oe0 := ev HA0 0 rfl
  have oe2 := ev HA0 2 rfl
  refine QSeq.pure rfl _ (fun E => ex_move rfl (E.v oe0)) ?_
  refine QSeq.call rfl rfl Try.func63 (cI_Q Hx1.out) (fun E => args2 (E.d 0 0) rfl) ?_
  rintro e u1_1 ⟨rfl, qrd, hm⟩
  refine ⟨_, rfl, ?_⟩
  have Hx2 := hid qrd
  have zu1_1 := hm.size
  have Cx3 := hid (show Mod (fun k => (R k)) w1 u1_1 from hm)
  clear hm
  clear qrd Hx1
  refine QSeq.pure rfl _ (fun E => ex_move rfl (E.v oe0)) ?_
  refine QSeq.call rfl rfl Try.func102 (RNum_R Hx2.out) (fun E => args1 (E.d 2 0)) ?_
  rintro e u1_3 ⟨rfl, qrd, hm⟩
  refine ⟨_, rfl, ?_⟩
  have Hx4 := hid qrd
  have zu1_3 := hm.size
  have HMu1_3 := hid hm
  have Cx5 := hid (Mod.goS (S' := (fun k => (R k))) Cx3.out hm (fun _ h => h) (by intro k h0 h2; exact h2))
  clear hm Cx3
  clear qrd Hx2
  refine QSeq.pure rfl _ (fun E => ex_move rfl (E.v oe0)) ?_
  refine QSeq.call rfl rfl Try.func136 (cList_Pm _ _ _ _ Hx4.out (by intro k h1; have hb := HBR.out k h1; omega) (Nat.le_trans (rNum_suf.len _) (Nat.le_trans (gI_suf.len _) HLN.out))) (fun E => args2 (E.d 4 0) rfl) ?_
  rintro e u1_5 ⟨vlPm, rfl, qlPm, qrd, hm⟩
  obtain ⟨ao_lPm, cap_lPm, rfl⟩ := qlPm.shape
  refine ⟨_, rfl, ?_⟩
  have Hx6 := hid qlPm
  have Hx7 := hid qrd
  have zu1_5 := hm.size
  have HMu1_5 := hid hm
  have Cx8 := hid (Mod.goS (S' := (fun k => (R k))) Cx5.out hm (fun _ h => h) (by intro k h0 h2; exact h2))
  clear hm Cx5
  clear qlPm qrd Hx4
  refine QSeq.pure rfl _ (fun E => ex_move rfl (E.v oe0)) ?_
  refine QSeq.call rfl rfl Try.func137 (cList_Op _ _ _ _ Hx7.out (by intro k h1; have hb := HBR.out k h1; omega) (Nat.le_trans ((gList_suf gPm_suf).len _) (Nat.le_trans (rNum_suf.len _) (Nat.le_trans (gI_suf.len _) HLN.out)))) (fun E => args2 (E.d 6 0) rfl) ?_
  rintro e u1_7 ⟨vlOp, rfl, qlOp, qrd, hm⟩
  obtain ⟨ao_lOp, cap_lOp, rfl⟩ := qlOp.shape
  refine ⟨_, rfl, ?_⟩
  have Hx9 := hid qlOp
  have Hx10 := hid qrd
  have zu1_7 := hm.size
  have HMu1_7 := hid hm
  have Cx11 := hid (Mod.goS (S' := (fun k => (R k))) Cx8.out hm (fun _ h => h) (by intro k h0 h2; exact h2))
  clear hm Cx8
  clear qlOp qrd Hx7
  refine QSeq.pure rfl _ (fun E => ex_move rfl (E.v oe0)) ?_
  refine QSeq.call rfl rfl Try.func138 (cList_Tb _ _ _ _ Hx10.out (by intro k h1; have hb := HBR.out k h1; omega) (Nat.le_trans ((gList_suf gOp_suf).len _) (Nat.le_trans ((gList_suf gPm_suf).len _) (Nat.le_trans (rNum_suf.len _) (Nat.le_trans (gI_suf.len _) HLN.out))))) (fun E => args2 (E.d 8 0) rfl) ?_
  rintro e u1_9 ⟨vlTb, rfl, qlTb, qrd, hm⟩
  obtain ⟨ao_lTb, cap_lTb, rfl⟩ := qlTb.shape
  refine ⟨_, rfl, ?_⟩
  have Hx12 := hid qlTb
  have Hx13 := hid qrd
  have zu1_9 := hm.size
  have HMu1_9 := hid hm
  have Cx14 := hid (Mod.goS (S' := (fun k => (R k))) Cx11.out hm (fun _ h => h) (by intro k h0 h2; exact h2))
  clear hm Cx11
  clear qlTb qrd Hx10
  refine QSeq.go fun act E => ?_
  refine qc_run rfl (wanted_none rfl) (v := .agg ((gBa s).1.cells (Value.slice ao_lPm (gList gPm (rNum (gI s).2).2).1.length cap_lPm) (Value.slice ao_lOp (gList gOp (gList gPm (rNum (gI s).2).2).2).1.length cap_lOp) (Value.slice ao_lTb (gList gTb (gList gOp (gList gPm (rNum (gI s).2).2).2).2).1.length cap_lTb) : List Value).toArray) (ex_build rfl (z := [.int .i64 0, .int .u64 0, .slice none 0 0, .slice none 0 0, .slice none 0 0]) (places := [(0, 1), (1, 1), (2, 1), (3, 1), (4, 1)]) (by kernel_rfl) (parts := [(0, .int .i64 (gI s).1), (1, .int .u64 ((rNum (gI s).2).1 : Nat)), (2, .slice ao_lPm (gList gPm (rNum (gI s).2).2).1.length cap_lPm), (3, .slice ao_lOp (gList gOp (gList gPm (rNum (gI s).2).2).2).1.length cap_lOp), (4, .slice ao_lTb (gList gTb (gList gOp (gList gPm (rNum (gI s).2).2).2).2).1.length cap_lTb)]) (by simp only [List.map_toArray, List.map_cons, List.map_nil, show act.eval (.tmp 4) = .int .i64 (gI s).1 from (E.d 1 8), show act.eval (.tmp 6) = .int .u64 ((rNum (gI s).2).1 : Nat) from (E.d 3 6), show act.eval (.tmp 8) = .slice ao_lPm (gList gPm (rNum (gI s).2).2).1.length cap_lPm from (E.d 5 4), show act.eval (.tmp 10) = .slice ao_lOp (gList gOp (gList gPm (rNum (gI s).2).2).2).1.length cap_lOp from (E.d 7 2), show act.eval (.tmp 12) = .slice ao_lTb (gList gTb (gList gOp (gList gPm (rNum (gI s).2).2).2).2).1.length cap_lTb from (E.d 9 0)]; try rfl) (r := (gBa s).1.cells (Value.slice ao_lPm (gList gPm (rNum (gI s).2).2).1.length cap_lPm) (Value.slice ao_lOp (gList gOp (gList gPm (rNum (gI s).2).2).2).1.length cap_lOp) (Value.slice ao_lTb (gList gTb (gList gOp (gList gPm (rNum (gI s).2).2).2).2).1.length cap_lTb)) (by exact laid_segs (ns := [1, 1, 1, 1, 1]) rfl [(0, .int .i64 (gI s).1), (1, .int .u64 ((rNum (gI s).2).1 : Nat)), (2, .slice ao_lPm (gList gPm (rNum (gI s).2).2).1.length cap_lPm), (3, .slice ao_lOp (gList gOp (gList gPm (rNum (gI s).2).2).2).1.length cap_lOp), (4, .slice ao_lTb (gList gTb (gList gOp (gList gPm (rNum (gI s).2).2).2).2).1.length cap_lTb)] [[.int .i64 0], [.int .u64 0], [.slice none 0 0], [.slice none 0 0], [.slice none 0 0]] rfl ⟨rfl, rfl, rfl, rfl, rfl, trivial⟩)) ?_
  clear act E
  refine QSeq.go fun act E => ?_
  refine qc_store rfl (wanted_none rfl) rfl (HB2.out.mod Cx14.out (by intro h2; first | omega | (have hb := HBR.out _ h2; omega))) (off := 0) (vs := ((gBa s).1.cells (Value.slice ao_lPm (gList gPm (rNum (gI s).2).2).1.length cap_lPm) (Value.slice ao_lOp (gList gOp (gList gPm (rNum (gI s).2).2).2).1.length cap_lOp) (Value.slice ao_lTb (gList gTb (gList gOp (gList gPm (rNum (gI s).2).2).2).2).1.length cap_lTb))) (by kernel_rfl) (by intro u hu; simp only [Ba.cells, List.mem_cons, List.not_mem_nil, or_false] at hu; rcases hu with rfl | rfl | rfl | rfl | rfl <;> rfl) (by simp) (E.v oe2) (ec (E.d 10 0)) ?_
  intro u1_11 qc0 hm
  have qB2 := qc0.eqv (b := (((gBa s).1.cells (Value.slice ao_lPm (gList gPm (rNum (gI s).2).2).1.length cap_lPm) (Value.slice ao_lOp (gList gOp (gList gPm (rNum (gI s).2).2).2).1.length cap_lOp) (Value.slice ao_lTb (gList gTb (gList gOp (gList gPm (rNum (gI s).2).2).2).2).1.length cap_lTb)) : List Value).toArray) (lay_whole #[.int .i64 0, .int .u64 0, .slice none 0 0, .slice none 0 0, .slice none 0 0] _ rfl)
  clear qc0
  have Hx15 := hid qB2
  have zu1_11 := hm.size
  have HMu1_11 := hid hm
  have Cx16 := hid (Mod.goS (S' := (fun k => (R k) ∨ (k = w.heap.size))) Cx14.out hm (fun _ h => Or.inl h) (by intro k h0 h2; exact Or.inr (h2)))
  clear hm Cx14
  clear act E qB2 HB2
  have Hx17 := hid (Hx13.out.mod HMu1_11.out (sB HBR))
  have Hx18 := hid (((Hx6.out.mod HMu1_7.out (by intro k h1 h2; have hb := HBR.out k h2; omega)).mod HMu1_9.out (by intro k h1 h2; have hb := HBR.out k h2; omega)).mod HMu1_11.out (by intro k h1 h2; omega))
  have Hx19 := hid ((Hx9.out.mod HMu1_9.out (by intro k h1 h2; have hb := HBR.out k h2; omega)).mod HMu1_11.out (by intro k h1 h2; omega))
  have Hx20 := hid (Hx12.out.mod HMu1_11.out (by intro k h1 h2; omega))
  clear Hx13 Hx6 Hx9 Hx12 HMu1_3 HMu1_5 HMu1_7 HMu1_9 HMu1_11
  refine QSeq.nil (t' := [_, _, _, _, _, _, _, _, _, _, _, _]) rfl ?_
  obtain rfl := HA0.out
  clear HA0 oe0 oe2
  simp only [pz, Act.put, List.setIfInBounds_toArray, List.set_cons_zero, List.set_cons_succ, List.set_nil]
  go_wp2
  exact bodyPost_ret (results_cellA rfl _ _ w.heap.size ((gBa s).1.cells (Value.slice ao_lPm (gList gPm (rNum (gI s).2).2).1.length cap_lPm) (Value.slice ao_lOp (gList gOp (gList gPm (rNum (gI s).2).2).2).1.length cap_lOp) (Value.slice ao_lTb (gList gTb (gList gOp (gList gPm (rNum (gI s).2).2).2).2).1.length cap_lTb)) rfl (fun k u hu => by rw [Hx15.out.cell]; simpa using hu) Try.underlying94 rfl (by kernel_rfl)) rfl ⟨_, rfl, ⟨_, _, _, rfl, gBa_OK HBY.out, (Hx18.out.widen (R' := (fun k => New w u1_11 k)) (by intro k h1; omega)), (Hx19.out.widen (R' := (fun k => New w u1_11 k)) (by intro k h1; omega)), (Hx20.out.widen (R' := (fun k => New w u1_11 k)) (by intro k h1; omega))⟩, Hx17.out, (HM0.out.trans Cx16.out (by intro k h1 h2; rcases h2 with h2 | h2 <;> first | exact h2 | omega | (have hb := HBR.out k h2; omega)))⟩
end Go.Proofs.Ytpnikilkcifncaa

/- Things that are nothing. No walk here. -/
namespace Go.Proofs.Ytpnikilkcifncaa
open Go Go.RowKit Go.Gv

def zCe : Ce := ⟨⟨0, 0, List.replicate 32 0, 0, 0, 0⟩, []⟩
def zPm : Pm := ⟨0, 0, 0, [], 0, 0⟩
def zBa : Ba := ⟨0, 0, [], [], []⟩
theorem HK_zero : HK (List.replicate 32 0) := by
  refine ⟨by simp, ?_⟩
  intro x hx
  simp at hx
  subst hx
  decide
theorem I64_0 : I64 0 := by unfold I64; decide
theorem U64_0 : 0 < U64 := by unfold U64; decide
theorem zCe_OK : zCe.OK := ⟨⟨I64_0, I64_0, I64_0, I64_0, I64_0⟩, HK_zero⟩
theorem zPm_OK : zPm.OK := ⟨I64_0, I64_0, U64_0, I64_0, I64_0⟩
theorem zBa_OK : zBa.OK := ⟨I64_0, U64_0⟩
theorem zCe_rd (R : Nat → Prop) (w : World) : CeR.rd R w (zCe.cells (.slice none 0 0)) zCe := ⟨_, rfl, zCe_OK, RdS.nil _ _ _⟩
theorem zPm_rd (R : Nat → Prop) (w : World) : PmR.rd R w (zPm.cells (.slice none 0 0)) zPm := ⟨_, rfl, zPm_OK, RdS.nil _ _ _⟩
end Go.Proofs.Ytpnikilkcifncaa

/- Parts of messages, put as bytes. -/
namespace Go.Proofs.Ytpnikilkcifncaa
open Go Go.RowKit Go.Gv

set_option maxHeartbeats 4000000 in
theorem PutDn_Q : Puts DnR 91 dnB := by
  intro R R2 g bs cs x w hW hB hx hB2 hD hl
  obtain ⟨rfl, hok⟩ := hx
  have HW := Lib.hid hW
  have HBR := Lib.hid hB
  have HBT := Lib.hid hB2
  have HDJ := Lib.hid hD
  have HOK := Lib.hid hok
  have HL := Lib.hid hl
  clear hW hB hB2 hD hl hok
  unfold dnB at HL
  go_enter Try.func91, Try.ntmps91
  go_upto_region 1 with (fail)
  obtain ⟨w1, hw1⟩ : ∃ zz, zz = (w.alloc (.cells (x.cells : List Value).toArray 104)) := ⟨_, rfl⟩
  change Code.wp _ _ _ _ (w.alloc (.cells (x.cells : List Value).toArray 104))
  rw [← hw1]
  have HB3 := hid (show Cs w1 (w.heap.size) (x.cells : List Value).toArray 104 by rw [hw1]; exact Cs.new _ _ _)
  have hm : Mod (fun _ => False) w w1 := by rw [hw1]; exact (Mod.refl _ _).alloc _
  have HM0 := hid (show Mod (fun k => (R k)) w w1 from hm.mono (fun _ _ h => h.elim))
  have hs1 : w1.heap.size = w.heap.size + 1 := by rw [hw1]; simp
  have Hx1 := hid (HW.out.mod hm (fun _ _ h => h))
  clear HW
  clear hw1 hm
  go_upto_region 1 with (fail)
  generalize ha0 : Act.mk _ _ = a0
  have oe0 : a0.eval (.tmp 0) = .pointer (some ⟨g, 0, none⟩) := by rw [← ha0]; rfl
  have oe3 : a0.eval (.tmp 3) = .pointer (some ⟨w.heap.size, 0, none⟩) := by rw [← ha0]; rfl
  have hsz0 : a0.tmps.size = 15 := by rw [← ha0]; rfl
  have HA0 := hid ha0
  clear ha0
  refine wp_region_Q1 15 hsz0 [4, 5, 6, 7, 8, 9, 10] (fun k => (R k)) (fun k j => (k = 0 ∧ ((R j))) ∨ (k = 1 ∧ ((R j)))) (by intro k j h; (try dsimp only at h ⊢); rcases h with ⟨-, h⟩ | ⟨-, h⟩; (exact h); (exact h)) [qi (.pointer (some ⟨g, 0, none⟩)), qi (.pointer (some ⟨w.heap.size, 0, none⟩)), qi (.int .i64 x.rp), qi (.pointer (some ⟨g, 0, none⟩)), qi (.pointer (some ⟨w.heap.size, 1, none⟩)), qi (.int .i64 x.ix), qi (.pointer (some ⟨g, 0, none⟩))] ⟨qi_stable, qi_stable, qi_stable, qi_stable, qi_stable, qi_stable, qi_stable, trivial⟩ [3, 6] ⟨?_, ?_, ?_, ?_, ?_, ?_, ?_, trivial⟩ ?_
  · exact stq (fun E => ex_move rfl (E.v oe0))
  · exact stq (fun E => ex_field rfl Try.underlying104 rfl (by kernel_rfl) (E.v oe3))
  · exact stq (fun E => ex_load1 rfl Try.underlying3 rfl (E.d 1) (Cs.lit1 (HB3.out.mod E.m (by intro h2; rcases h2 with ⟨h0, h2⟩ | h2 <;> first | omega | (have hb := HBR.out _ h2; omega))) rfl))
  · exact stepq_chain rfl
  · exact stq (fun E => ex_field rfl Try.underlying104 rfl (by kernel_rfl) (E.v oe3))
  · exact stq (fun E => ex_load1 rfl Try.underlying3 rfl (E.d 4) (Cs.lit1 (HB3.out.mod E.m (by intro h2; rcases h2 with ⟨h0, h2⟩ | h2 <;> first | omega | (have hb := HBR.out _ h2; omega))) rfl))
  · exact stepq_chain rfl
  intro u1_0 hr
  have zu1_0 := hr.size
  have Cx2 := hid (hr.new (S := (fun k => (R k))))
  have Hx3 := hid (Hx1.out.mod hr (by intro k h1 h2; have hb := HBR.out k h1; omega))
  clear Hx1
  clear hr
  refine QChain.go fun Z act E => ?_
  refine qc_callF (args := #[.pointer (some ⟨g, 0, none⟩), .int .i64 x.rp]) rfl (wanted_none rfl) rfl Try.func52 (args2 (E.d 0) (E.d 2)) (WInt_Q Hx3.out HOK.out.rp (by have := HL.out; simp only [List.length_append] at this ⊢; omega)) ?_
  rintro e u1_1a ⟨rfl, qwr, hm⟩
  have zu1_1a := hm.size
  refine ⟨_, rfl, hm.mono (by intro k hk h; first | omega | exact Or.inl ⟨(by have hb := HBR.out k h; omega), Or.inl ⟨rfl, h⟩⟩), (fun _ => rfl), ?_⟩
  intro u1_1 hr
  have zu1_1 := hr.size
  have Hx4 := hid ((qwr.widen (R' := (fun k => (R k) ∨ (New u1_0 u1_1a k))) (fun _ h => h) (Nat.le_refl _)).mod hr (by intro k h1 h2; rcases h1 with h1 | h1 <;> first | omega | (have hb := HBR.out k h1; omega)))
  have Cx5 := hid (Cx2.out.goM hm hr (fun _ _ h => h))
  clear Cx2 hm hr Z act E qwr Hx3
  refine QChain.go fun Z act E => ?_
  refine qc_callF (args := #[.pointer (some ⟨g, 0, none⟩), .int .i64 x.ix]) rfl (wanted_none rfl) rfl Try.func52 (args2 (E.d 3) (E.d 5)) (WInt_Q Hx4.out HOK.out.ix (by have := HL.out; simp only [List.length_append] at this ⊢; omega)) ?_
  rintro e u1_2a ⟨rfl, qwr, hm⟩
  have zu1_2a := hm.size
  refine ⟨_, rfl, hm.mono (by intro k hk h; rcases h with h | h <;> first | omega | exact Or.inl ⟨(by have hb := HBR.out k h; omega), Or.inr (⟨rfl, h⟩)⟩), (fun _ => rfl), ?_⟩
  intro u1_2 hr
  have zu1_2 := hr.size
  have Hx6 := hid ((qwr.widen (R' := (fun k => (R k) ∨ (New u1_0 u1_1a k) ∨ (New u1_1 u1_2a k))) (by intro k h1; simp only [or_assoc] at h1 ⊢; exact h1) (Nat.le_refl _)).mod hr (by intro k h1 h2; rcases h1 with h1 | h1 | h1 <;> first | omega | (have hb := HBR.out k h1; omega)))
  have Cx7 := hid (Cx5.out.goM hm hr (by intro k h0 h2; rcases h2 with h2 | h2 <;> first | omega | exact h2))
  clear Cx5 hm hr Z act E qwr Hx4
  refine QChain.nil fun vs hl hzz hrows hne => ?_
  obtain ⟨Z, hYZ, hZb, hV⟩ := hzz
  have f0 := fvi hV hl 0
  have f3 := fvi hV hl 3
  have f6 := fvi hV hl 6
  rw [show vs = [gw vs 0, gw vs 1, gw vs 2, gw vs 3, gw vs 4, gw vs 5, gw vs 6] from (gw_eta hl).trans rfl]
  have ha0 := HA0.out
  subst ha0
  clear HA0 hV hYZ hZb hsz0 hrows hne oe0 oe3
  simp only [putAll, Act.put, List.setIfInBounds_toArray, List.set_cons_zero, List.set_cons_succ, f0, f3, f6]
  clear hl f0 f3 f6
  go_upto_region 2 with (fail)
  refine wp_region_U 15 [11, 12, 13, 14] [0, 1, 2, 3] (fun a0 HA0 => ?_)
  have oe0 := ev HA0 0 rfl
  have oe3 := ev HA0 3 rfl
  refine QSeq.pure rfl _ (fun E => ex_move rfl (E.v oe0)) ?_
  refine QSeq.pure rfl (.pointer (some ⟨w.heap.size, 2, none⟩)) (fun E => ex_field rfl Try.underlying104 rfl (by kernel_rfl) (E.v oe3)) ?_
  refine QSeq.pure rfl _ (fun E => ex_loadA rfl Try.underlying34 rfl (off := 2) (cs := [.int .i64 x.sb, .int .i64 x.mr]) (by kernel_rfl) (E.d 1 0) (Cs.litA (HB3.out.mod Cx7.out (by intro h2; first | omega | (have hb := HBR.out _ h2; omega))) rfl)) ?_
  refine QSeq.call rfl rfl Try.func122 (PutSig_Q Hx6.out (by intro k h1; rcases h1 with h1 | h1 | h1 <;> first | omega | (have hb := HBR.out k h1; omega)) HOK.out.sb HOK.out.mr (by have := HL.out; simp only [List.length_append] at this ⊢; omega)) (fun E => args2 (E.d 0 2) (E.d 2 0)) ?_
  rintro e u2_3 ⟨rfl, qwr, hm⟩
  refine ⟨_, rfl, ?_⟩
  have Hx8 := hid (qwr.widen (R' := (fun k => (R k) ∨ (New u1_0 u1_1a k) ∨ (New u1_1 u1_2a k) ∨ (New u1_2 u2_3 k))) (by intro k h1; simp only [or_assoc] at h1 ⊢; exact h1) (Nat.le_refl _))
  have zu2_3 := hm.size
  have Cx9 := hid (show Mod (fun k => (R k) ∨ (New u1_0 u1_1a k) ∨ (New u1_1 u1_2a k)) u1_2 u2_3 from hm)
  clear hm
  clear qwr Hx6
  refine QSeq.nil (t' := [_, _, _, _]) rfl ?_
  obtain rfl := HA0.out
  clear HA0 oe0 oe3
  simp only [pz, Act.put, List.setIfInBounds_toArray, List.set_cons_zero, List.set_cons_succ]
  go_wp2
  go_end0
  have hq := (Hx8.out.widen (R' := (fun k => R k ∨ New w u2_3 k)) (by intro k h1; rcases h1 with h1 | h1 | h1 | h1 <;> first | exact Or.inl h1 | (right; omega)) (Nat.le_refl _))
  simp only [List.append_assoc] at hq
  exact ⟨rfl, by simpa only [dnB, List.append_assoc] using hq, ((HM0.out.trans Cx7.out (fun _ _ h => h)).trans Cx9.out (by intro k h1 h2; rcases h2 with h2 | h2 | h2 <;> first | exact h2 | omega | (have hb := HBR.out k h2; omega)))⟩
set_option maxHeartbeats 4000000 in
theorem PutList_Dn : PutsL DnR 146 91 dnB := by
  intro R R2 g bs v l w hW hB hs hB2 hD hl
  obtain ⟨ao, cap, rfl⟩ := hs.shape
  have hb64 : l.length ≤ maxLen := hs.bd
  rw [maxLen_val] at hb64
  have HI64 := hid (show I64 (l.length : Int) by unfold I64; omega)
  have HW := Lib.hid hW
  have HS := Lib.hid hs
  have HBR := Lib.hid hB
  have HBT := Lib.hid hB2
  have HDJ := Lib.hid hD
  have HL := Lib.hid hl
  clear hW hB hs hB2 hD hl
  unfold listB at HL
  go_enter Try.func146, Try.ntmps146
  go_upto_region 0 with (fail)
  have HM0 := hid (Mod.refl (fun k => (R k)) w)
  go_upto_region 0 with (fail)
  refine wp_region_U 23 [8, 9, 10, 11] [0, 1, 2, 3] (fun a0 HA0 => ?_)
  have oe0 := ev HA0 0 rfl
  have oe1 := ev HA0 1 rfl
  refine QSeq.pure rfl _ (fun E => ex_move rfl (E.v oe0)) ?_
  refine QSeq.pure rfl _ (fun E => ex_move rfl (E.v oe1)) ?_
  refine QSeq.pure rfl (.int .i64 l.length) (fun E => ex_lenS rfl (E.d 1 0) Try.underlying212) ?_
  refine QSeq.call rfl rfl Try.func52 (WInt_Q HW.out HI64.out (by have := HL.out; simp only [List.length_append] at this ⊢; omega)) (fun E => args2 (E.d 0 2) (E.d 2 0)) ?_
  rintro e u0_3 ⟨rfl, qwr, hm⟩
  refine ⟨_, rfl, ?_⟩
  have Hx1 := hid (qwr.widen (R' := (fun k => (R k) ∨ (New w u0_3 k))) (fun _ h => h) (Nat.le_refl _))
  have zu0_3 := hm.size
  have Cx2 := hid (show Mod (fun k => (R k)) w u0_3 from hm)
  clear hm
  clear qwr HW
  refine QSeq.nil (t' := [_, _, _, _]) rfl ?_
  obtain rfl := HA0.out
  clear HA0 oe0 oe1
  simp only [pz, Act.put, List.setIfInBounds_toArray, List.set_cons_zero, List.set_cons_succ]
  go_wp2
  go_loopw [14] (fun t wr => ∃ k : Nat, t = .int .i64 (k : Int) ∧ k ≤ l.length ∧ u0_3.heap.size ≤ wr.heap.size ∧ WrR (fun b => R b ∨ (w.heap.size ≤ b ∧ b < wr.heap.size)) 900000 wr g (bs ++ (encI l.length ++ ((l.take k).map dnB).flatten)) ∧ RdS DnR R2 wr (.slice ao l.length cap) l ∧ Mod R w wr) (fun t _ => l.length - (intOf t).toNat)
  case atStart => exact ⟨0, rfl, Nat.zero_le _, Nat.le_refl _, by have hq := (Hx1.out.widen (R' := (fun k => R k ∨ (w.heap.size ≤ k ∧ k < u0_3.heap.size))) (by intro k h1; rcases h1 with h1 | h1 <;> first | exact Or.inl h1 | (right; omega)) (Nat.le_refl _)); simpa only [List.take_zero, List.map_nil, List.flatten_nil, List.append_nil] using hq, (HS.out.mod Cx2.out (by intro k h1 h2; first | omega | (have hb := HBT.out k h1; omega) | (have hb := HBR.out k h2; omega) | exact HDJ.out k h1 h2 | exact HDJ.out k h2 h1 | (have hb := HBT.out k h1; have hb2 := HBR.out k h2; omega))), (HM0.out.trans Cx2.out (fun _ _ h => h))⟩
  case round =>
    obtain ⟨k, rfl, hk, hz, hw, hs, hm⟩ := hrel
    have HW2 := Lib.hid hw
    have HS2 := Lib.hid hs
    have HM2 := Lib.hid hm
    clear hw hs hm Hx1 HS HM0
    obtain ⟨wo, rfl⟩ : ∃ x, x = wr := ⟨_, rfl⟩
    by_cases hlt : k < l.length
    · skip
      obtain ⟨g0, o0, cs, rfl, hrg, hrd, hcs⟩ := HS2.out.at hlt
      have hcl : cs.length = 4 := DnR.len hrd
      have HCL := Lib.hid hcl
      have HAT := hid (show CellsAt R2 wo g0 (o0 + k * 4) cs from ⟨hrg, hcs⟩)
      have HRD := Lib.hid hrd
      have HOC := hid (DnR.one hrd)
      clear hcl hcs hrd hrg
      have HE : Hid (bs ++ (encI l.length ++ ((l.take k).map dnB).flatten) ++ dnB l[k] = bs ++ (encI l.length ++ ((l.take (k + 1)).map dnB).flatten)) := hid (by rw [List.take_succ_eq_append_getElem hlt, List.map_append, List.flatten_append]; simp [List.append_assoc])
      have HLk := hid (show (bs ++ (encI l.length ++ ((l.take k).map dnB).flatten) ++ dnB l[k]).length ≤ 900000 by rw [HE.out]; exact Nat.le_trans (put_len _ _ _ _ _) HL.out)
      go_upto_region 3 with (fail)
      refine wp_region_U 23 [16, 17, 7, 26] [0, 1, 2, 3] (fun a0 HA0 => ?_)
      have oe12 := ev HA0 12 rfl
      have oe14 := ev HA0 14 rfl
      refine QSeq.pure rfl (.pointer (some ⟨g0, o0 + k * 4, none⟩)) (fun E => ex_idxS (i := k) (s := 4) rfl Try.underlying212 (by kernel_rfl) (E.v oe12) (E.v oe14) (by omega)) ?_
      refine QSeq.pure rfl _ (fun E => ex_loadA rfl Try.underlying104 rfl (off := o0 + k * 4) (cs := cs) (by rw [HCL.out]; kernel_rfl) (E.d 0 0) (fun j u hu => (HAT.out).2 j u hu)) ?_
      refine QSeq.go fun act E => ?_
      refine qc_alloc rfl (wanted_none rfl) rfl (z := [.int .i64 0, .int .i64 0, .int .i64 0, .int .i64 0]) (by kernel_rfl) ?_
      intro u3_2 qq hm
      have zl3_2 := qq.lt
      have Hx3 := hid qq
      have zu3_2 := hm.size
      have Cx4 := hid (show Mod (fun _ => False) wo u3_2 from hm)
      clear hm
      clear act E qq
      refine QSeq.go fun act E => ?_
      have hlz : (cs).length = List.length ([.int .i64 0, .int .i64 0, .int .i64 0, .int .i64 0] : List Value) := (by rw [HCL.out]; rfl)
      refine qc_store rfl (wanted_none rfl) rfl Hx3.out (off := 0) (vs := cs) (by rw [hlz]; kernel_rfl) HOC.out (by rw [hlz]; exact Nat.le_of_eq (Nat.zero_add _)) (E.d 2 0) (ec (E.d 1 1)) ?_
      intro u3_3 qc0 hm
      have qq := qc0.eqv (b := (cs : List Value).toArray) (lay_whole #[.int .i64 0, .int .i64 0, .int .i64 0, .int .i64 0] _ (by rw [hlz]; rfl))
      clear qc0 hlz
      have Hx5 := hid qq
      have zu3_3 := hm.size
      have HMu3_3 := hid hm
      have Cx6 := hid (Mod.goS (S' := (fun _ => False)) Cx4.out hm (fun _ h => h) (by intro k h0 h2; omega))
      clear hm Cx4
      clear act E qq Hx3
      clear HMu3_3
      refine QSeq.nil (t' := [_, _, _, _]) rfl ?_
      obtain rfl := HA0.out
      clear HA0 oe12 oe14
      simp only [pz, Act.put, List.setIfInBounds_toArray, List.set_cons_zero, List.set_cons_succ, List.set_nil]
      go_upto_region 4 with (fail)
      refine wp_region_U 23 [18, 19, 20, 21] [0, 1, 2, 3] (fun a0 HA0 => ?_)
      have oe0 := ev HA0 0 rfl
      have oe2 := ev HA0 2 rfl
      have oe7 := ev HA0 7 rfl
      refine QSeq.pure rfl _ (fun E => ex_move rfl (E.v oe2)) ?_
      refine QSeq.pure rfl _ (fun E => ex_move rfl (E.v oe0)) ?_
      refine QSeq.pure rfl _ (fun E => ex_loadA rfl Try.underlying104 rfl (off := 0) (cs := cs) (by rw [HCL.out]; kernel_rfl) (E.v oe7) (Cs.whole Hx5.out)) ?_
      refine QSeq.go fun act E => ?_
      have ea19 : act.eval (.tmp 19) = .pointer (some ⟨g, 0, none⟩) := (E.d 1 1)
      have ea20 : act.eval (.tmp 20) = .agg cs.toArray := (E.d 2 0)
      refine qc_call (args := #[.pointer (some ⟨g, 0, none⟩), .agg cs.toArray]) rfl (wanted_none rfl) (by rw [ex_callV rfl (E.d 0 2) Try.func91 (by kernel_rfl) (by kernel_rfl)]; exact congrArg (fun z => Result.ok (Next.enter _ z) _) (by simp only [List.map_toArray, List.map_cons, List.map_nil, ea19, ea20]; try rfl)) (PutDn_Q _ _ _ _ _ _ _ (HW2.out.mod Cx6.out (fun _ _ h => h)) (by intro k h1; rcases h1 with h1 | h1 <;> first | omega | (have hb := HBR.out k h1; omega)) (HRD.out.mod Cx6.out (fun _ _ h => h)) (by intro k h1; have hb := HBT.out k h1; omega) (by intro k h1 h2; rcases h1 with h1 | h1 <;> first | omega | (have hb := HBR.out k h1; omega) | (have hb := HBT.out k h2; omega) | exact HDJ.out k h1 h2 | exact HDJ.out k h2 h1 | (have hb := HBR.out k h1; have hb2 := HBT.out k h2; omega)) HLk.out) ?_
      rintro e u4_3 ⟨rfl, qwr, hm⟩
      refine ⟨_, rfl, ?_⟩
      have Hx7 := hid (qwr.widen (R' := (fun k => (R k) ∨ (New w wo k) ∨ (New u3_3 u4_3 k))) (by intro k h1; simp only [or_assoc] at h1 ⊢; exact h1) (Nat.le_refl _))
      have zu4_3 := hm.size
      have Cx8 := hid (show Mod (fun k => (R k) ∨ (New w wo k)) u3_3 u4_3 from hm)
      clear hm
      clear act E qwr HW2 ea19 ea20
      refine QSeq.nil (t' := [_, _, _, _]) rfl ?_
      obtain rfl := HA0.out
      clear HA0 oe0 oe2 oe7
      simp only [pz, Act.put, List.setIfInBounds_toArray, List.set_cons_zero, List.set_cons_succ]
      have hq := Hx7.out
      rw [HE.out] at hq
      have HQ := Lib.hid hq
      clear hq
      go_wp2
      go_roundw
      case rel => exact ⟨k + 1, by go_num, by omega, by omega, (HQ.out.widen (by intro b h1; rcases h1 with h1 | h1 | h1 <;> first | exact Or.inl h1 | (right; omega)) (Nat.le_refl _)), ((HS2.out.mod Cx6.out (fun _ _ h => h)).mod Cx8.out (by intro k h1 h2; rcases h2 with h2 | h2 <;> first | omega | (have hb := HBT.out k h1; omega) | (have hb := HBR.out k h2; omega) | exact HDJ.out k h1 h2 | exact HDJ.out k h2 h1 | (have hb := HBT.out k h1; have hb2 := HBR.out k h2; omega))), ((HM2.out.trans Cx6.out (fun _ _ h => h.elim)).trans Cx8.out (by intro k h1 h2; rcases h2 with h2 | h2 <;> first | exact h2 | omega | (have hb := HBR.out k h2; omega)))⟩
      case measure => simp [intOf]; omega
    · have hkk : k = l.length := by omega
      subst hkk
      go_wp2
      go_end0
      have hq := HW2.out
      rw [List.take_length] at hq
      exact ⟨rfl, hq, HM2.out⟩
set_option maxHeartbeats 4000000 in
theorem PutTb_Q : Puts TbR 128 tbB := by
  intro R R2 g bs cs x w hW hB hx hB2 hD hl
  obtain ⟨v_l, rfl, hok, hs0⟩ := hx
  have HS0 := Lib.hid hs0
  clear hs0
  have HW := Lib.hid hW
  have HBR := Lib.hid hB
  have HBT := Lib.hid hB2
  have HDJ := Lib.hid hD
  have HOK := Lib.hid hok
  have HL := Lib.hid hl
  clear hW hB hB2 hD hl hok
  unfold tbB at HL
  go_enter Try.func128, Try.ntmps128
  go_upto_region 1 with (fail)
  obtain ⟨w1, hw1⟩ : ∃ zz, zz = (w.alloc (.cells (x.cells v_l : List Value).toArray 214)) := ⟨_, rfl⟩
  change Code.wp _ _ _ _ (w.alloc (.cells (x.cells v_l : List Value).toArray 214))
  rw [← hw1]
  have HB3 := hid (show Cs w1 (w.heap.size) (x.cells v_l : List Value).toArray 214 by rw [hw1]; exact Cs.new _ _ _)
  have hm : Mod (fun _ => False) w w1 := by rw [hw1]; exact (Mod.refl _ _).alloc _
  have HM0 := hid (show Mod (fun k => (R k)) w w1 from hm.mono (fun _ _ h => h.elim))
  have hs1 : w1.heap.size = w.heap.size + 1 := by rw [hw1]; simp
  have Hx1 := hid (HW.out.mod hm (fun _ _ h => h))
  clear HW
  have Hx2 := hid (HS0.out.mod hm (fun _ _ h => h))
  clear HS0
  clear hw1 hm
  go_upto_region 1 with (fail)
  refine wp_region_U 12 [4, 5, 6, 7] [0, 1, 2, 3] (fun a0 HA0 => ?_)
  have oe0 := ev HA0 0 rfl
  have oe3 := ev HA0 3 rfl
  refine QSeq.pure rfl _ (fun E => ex_move rfl (E.v oe0)) ?_
  refine QSeq.pure rfl (.pointer (some ⟨w.heap.size, 0, none⟩)) (fun E => ex_field rfl Try.underlying214 rfl (by kernel_rfl) (E.v oe3)) ?_
  refine QSeq.pure rfl _ (fun E => ex_load1 rfl Try.underlying3 rfl (E.d 1 0) (Cs.lit1 HB3.out rfl)) ?_
  refine QSeq.call rfl rfl Try.func52 (WInt_Q Hx1.out HOK.out (by have := HL.out; simp only [List.length_append] at this ⊢; omega)) (fun E => args2 (E.d 0 2) (E.d 2 0)) ?_
  rintro e u1_3 ⟨rfl, qwr, hm⟩
  refine ⟨_, rfl, ?_⟩
  have Hx3 := hid (qwr.widen (R' := (fun k => (R k) ∨ (New w1 u1_3 k))) (fun _ h => h) (Nat.le_refl _))
  have zu1_3 := hm.size
  have Cx4 := hid (show Mod (fun k => (R k)) w1 u1_3 from hm)
  clear hm
  clear qwr Hx1
  refine QSeq.nil (t' := [_, _, _, _]) rfl ?_
  obtain rfl := HA0.out
  clear HA0 oe0 oe3
  simp only [pz, Act.put, List.setIfInBounds_toArray, List.set_cons_zero, List.set_cons_succ]
  go_upto_region 2 with (fail)
  refine wp_region_U 12 [8, 9, 10, 11] [0, 1, 2, 3] (fun a0 HA0 => ?_)
  have oe0 := ev HA0 0 rfl
  have oe3 := ev HA0 3 rfl
  refine QSeq.pure rfl _ (fun E => ex_move rfl (E.v oe0)) ?_
  refine QSeq.pure rfl (.pointer (some ⟨w.heap.size, 1, none⟩)) (fun E => ex_field rfl Try.underlying214 rfl (by kernel_rfl) (E.v oe3)) ?_
  refine QSeq.pure rfl _ (fun E => ex_load1 rfl Try.underlying212 rfl (E.d 1 0) (Cs.lit1 (HB3.out.mod Cx4.out (by intro h2; first | omega | (have hb := HBR.out _ h2; omega))) rfl)) ?_
  refine QSeq.call rfl rfl Try.func146 (PutList_Dn _ _ _ _ _ _ _ Hx3.out (by intro k h1; rcases h1 with h1 | h1 <;> first | omega | (have hb := HBR.out k h1; omega)) (Hx2.out.mod Cx4.out (by intro k h1 h2; first | omega | (have hb := HBT.out k h1; omega) | (have hb := HBR.out k h2; omega) | exact HDJ.out k h1 h2 | exact HDJ.out k h2 h1 | (have hb := HBT.out k h1; have hb2 := HBR.out k h2; omega))) (by intro k h1; have hb := HBT.out k h1; omega) (by intro k h1 h2; rcases h1 with h1 | h1 <;> first | omega | (have hb := HBR.out k h1; omega) | (have hb := HBT.out k h2; omega) | exact HDJ.out k h1 h2 | exact HDJ.out k h2 h1 | (have hb := HBR.out k h1; have hb2 := HBT.out k h2; omega)) (by have := HL.out; simp only [List.length_append] at this ⊢; omega)) (fun E => args3 (E.d 0 2) (E.d 2 0) rfl) ?_
  rintro e u2_3 ⟨rfl, qwr, hm⟩
  refine ⟨_, rfl, ?_⟩
  have Hx5 := hid (qwr.widen (R' := (fun k => (R k) ∨ (New w1 u1_3 k) ∨ (New u1_3 u2_3 k))) (by intro k h1; simp only [or_assoc] at h1 ⊢; exact h1) (Nat.le_refl _))
  have zu2_3 := hm.size
  have Cx6 := hid (show Mod (fun k => (R k) ∨ (New w1 u1_3 k)) u1_3 u2_3 from hm)
  clear hm
  clear qwr Hx3
  refine QSeq.nil (t' := [_, _, _, _]) rfl ?_
  obtain rfl := HA0.out
  clear HA0 oe0 oe3
  simp only [pz, Act.put, List.setIfInBounds_toArray, List.set_cons_zero, List.set_cons_succ]
  go_wp2
  go_end0
  have hq := (Hx5.out.widen (R' := (fun k => R k ∨ New w u2_3 k)) (by intro k h1; rcases h1 with h1 | h1 | h1 <;> first | exact Or.inl h1 | (right; omega)) (Nat.le_refl _))
  simp only [List.append_assoc] at hq
  exact ⟨rfl, by simpa only [tbB, List.append_assoc] using hq, ((HM0.out.trans Cx4.out (fun _ _ h => h)).trans Cx6.out (by intro k h1 h2; rcases h2 with h2 | h2 <;> first | exact h2 | omega | (have hb := HBR.out k h2; omega)))⟩
set_option maxHeartbeats 4000000 in
theorem PutList_Tb : PutsL TbR 127 128 tbB := by
  intro R R2 g bs v l w hW hB hs hB2 hD hl
  obtain ⟨ao, cap, rfl⟩ := hs.shape
  have hb64 : l.length ≤ maxLen := hs.bd
  rw [maxLen_val] at hb64
  have HI64 := hid (show I64 (l.length : Int) by unfold I64; omega)
  have HW := Lib.hid hW
  have HS := Lib.hid hs
  have HBR := Lib.hid hB
  have HBT := Lib.hid hB2
  have HDJ := Lib.hid hD
  have HL := Lib.hid hl
  clear hW hB hs hB2 hD hl
  unfold listB at HL
  go_enter Try.func127, Try.ntmps127
  go_upto_region 0 with (fail)
  have HM0 := hid (Mod.refl (fun k => (R k)) w)
  go_upto_region 0 with (fail)
  refine wp_region_U 23 [8, 9, 10, 11] [0, 1, 2, 3] (fun a0 HA0 => ?_)
  have oe0 := ev HA0 0 rfl
  have oe1 := ev HA0 1 rfl
  refine QSeq.pure rfl _ (fun E => ex_move rfl (E.v oe0)) ?_
  refine QSeq.pure rfl _ (fun E => ex_move rfl (E.v oe1)) ?_
  refine QSeq.pure rfl (.int .i64 l.length) (fun E => ex_lenS rfl (E.d 1 0) Try.underlying92) ?_
  refine QSeq.call rfl rfl Try.func52 (WInt_Q HW.out HI64.out (by have := HL.out; simp only [List.length_append] at this ⊢; omega)) (fun E => args2 (E.d 0 2) (E.d 2 0)) ?_
  rintro e u0_3 ⟨rfl, qwr, hm⟩
  refine ⟨_, rfl, ?_⟩
  have Hx1 := hid (qwr.widen (R' := (fun k => (R k) ∨ (New w u0_3 k))) (fun _ h => h) (Nat.le_refl _))
  have zu0_3 := hm.size
  have Cx2 := hid (show Mod (fun k => (R k)) w u0_3 from hm)
  clear hm
  clear qwr HW
  refine QSeq.nil (t' := [_, _, _, _]) rfl ?_
  obtain rfl := HA0.out
  clear HA0 oe0 oe1
  simp only [pz, Act.put, List.setIfInBounds_toArray, List.set_cons_zero, List.set_cons_succ]
  go_wp2
  go_loopw [14] (fun t wr => ∃ k : Nat, t = .int .i64 (k : Int) ∧ k ≤ l.length ∧ u0_3.heap.size ≤ wr.heap.size ∧ WrR (fun b => R b ∨ (w.heap.size ≤ b ∧ b < wr.heap.size)) 900000 wr g (bs ++ (encI l.length ++ ((l.take k).map tbB).flatten)) ∧ RdS TbR R2 wr (.slice ao l.length cap) l ∧ Mod R w wr) (fun t _ => l.length - (intOf t).toNat)
  case atStart => exact ⟨0, rfl, Nat.zero_le _, Nat.le_refl _, by have hq := (Hx1.out.widen (R' := (fun k => R k ∨ (w.heap.size ≤ k ∧ k < u0_3.heap.size))) (by intro k h1; rcases h1 with h1 | h1 <;> first | exact Or.inl h1 | (right; omega)) (Nat.le_refl _)); simpa only [List.take_zero, List.map_nil, List.flatten_nil, List.append_nil] using hq, (HS.out.mod Cx2.out (by intro k h1 h2; first | omega | (have hb := HBT.out k h1; omega) | (have hb := HBR.out k h2; omega) | exact HDJ.out k h1 h2 | exact HDJ.out k h2 h1 | (have hb := HBT.out k h1; have hb2 := HBR.out k h2; omega))), (HM0.out.trans Cx2.out (fun _ _ h => h))⟩
  case round =>
    obtain ⟨k, rfl, hk, hz, hw, hs, hm⟩ := hrel
    have HW2 := Lib.hid hw
    have HS2 := Lib.hid hs
    have HM2 := Lib.hid hm
    clear hw hs hm Hx1 HS HM0
    obtain ⟨wo, rfl⟩ : ∃ x, x = wr := ⟨_, rfl⟩
    by_cases hlt : k < l.length
    · skip
      obtain ⟨g0, o0, cs, rfl, hrg, hrd, hcs⟩ := HS2.out.at hlt
      have hcl : cs.length = 2 := TbR.len hrd
      have HCL := Lib.hid hcl
      have HAT := hid (show CellsAt R2 wo g0 (o0 + k * 2) cs from ⟨hrg, hcs⟩)
      have HRD := Lib.hid hrd
      have HOC := hid (TbR.one hrd)
      clear hcl hcs hrd hrg
      have HE : Hid (bs ++ (encI l.length ++ ((l.take k).map tbB).flatten) ++ tbB l[k] = bs ++ (encI l.length ++ ((l.take (k + 1)).map tbB).flatten)) := hid (by rw [List.take_succ_eq_append_getElem hlt, List.map_append, List.flatten_append]; simp [List.append_assoc])
      have HLk := hid (show (bs ++ (encI l.length ++ ((l.take k).map tbB).flatten) ++ tbB l[k]).length ≤ 900000 by rw [HE.out]; exact Nat.le_trans (put_len _ _ _ _ _) HL.out)
      go_upto_region 3 with (fail)
      refine wp_region_U 23 [16, 17, 7, 26] [0, 1, 2, 3] (fun a0 HA0 => ?_)
      have oe12 := ev HA0 12 rfl
      have oe14 := ev HA0 14 rfl
      refine QSeq.pure rfl (.pointer (some ⟨g0, o0 + k * 2, none⟩)) (fun E => ex_idxS (i := k) (s := 2) rfl Try.underlying92 (by kernel_rfl) (E.v oe12) (E.v oe14) (by omega)) ?_
      refine QSeq.pure rfl _ (fun E => ex_loadA rfl Try.underlying214 rfl (off := o0 + k * 2) (cs := cs) (by rw [HCL.out]; kernel_rfl) (E.d 0 0) (fun j u hu => (HAT.out).2 j u hu)) ?_
      refine QSeq.go fun act E => ?_
      refine qc_alloc rfl (wanted_none rfl) rfl (z := [.int .i64 0, .slice none 0 0]) (by kernel_rfl) ?_
      intro u3_2 qq hm
      have zl3_2 := qq.lt
      have Hx3 := hid qq
      have zu3_2 := hm.size
      have Cx4 := hid (show Mod (fun _ => False) wo u3_2 from hm)
      clear hm
      clear act E qq
      refine QSeq.go fun act E => ?_
      have hlz : (cs).length = List.length ([.int .i64 0, .slice none 0 0] : List Value) := (by rw [HCL.out]; rfl)
      refine qc_store rfl (wanted_none rfl) rfl Hx3.out (off := 0) (vs := cs) (by rw [hlz]; kernel_rfl) HOC.out (by rw [hlz]; exact Nat.le_of_eq (Nat.zero_add _)) (E.d 2 0) (ec (E.d 1 1)) ?_
      intro u3_3 qc0 hm
      have qq := qc0.eqv (b := (cs : List Value).toArray) (lay_whole #[.int .i64 0, .slice none 0 0] _ (by rw [hlz]; rfl))
      clear qc0 hlz
      have Hx5 := hid qq
      have zu3_3 := hm.size
      have HMu3_3 := hid hm
      have Cx6 := hid (Mod.goS (S' := (fun _ => False)) Cx4.out hm (fun _ h => h) (by intro k h0 h2; omega))
      clear hm Cx4
      clear act E qq Hx3
      clear HMu3_3
      refine QSeq.nil (t' := [_, _, _, _]) rfl ?_
      obtain rfl := HA0.out
      clear HA0 oe12 oe14
      simp only [pz, Act.put, List.setIfInBounds_toArray, List.set_cons_zero, List.set_cons_succ, List.set_nil]
      go_upto_region 4 with (fail)
      refine wp_region_U 23 [18, 19, 20, 21] [0, 1, 2, 3] (fun a0 HA0 => ?_)
      have oe0 := ev HA0 0 rfl
      have oe2 := ev HA0 2 rfl
      have oe7 := ev HA0 7 rfl
      refine QSeq.pure rfl _ (fun E => ex_move rfl (E.v oe2)) ?_
      refine QSeq.pure rfl _ (fun E => ex_move rfl (E.v oe0)) ?_
      refine QSeq.pure rfl _ (fun E => ex_loadA rfl Try.underlying214 rfl (off := 0) (cs := cs) (by rw [HCL.out]; kernel_rfl) (E.v oe7) (Cs.whole Hx5.out)) ?_
      refine QSeq.go fun act E => ?_
      have ea19 : act.eval (.tmp 19) = .pointer (some ⟨g, 0, none⟩) := (E.d 1 1)
      have ea20 : act.eval (.tmp 20) = .agg cs.toArray := (E.d 2 0)
      refine qc_call (args := #[.pointer (some ⟨g, 0, none⟩), .agg cs.toArray]) rfl (wanted_none rfl) (by rw [ex_callV rfl (E.d 0 2) Try.func128 (by kernel_rfl) (by kernel_rfl)]; exact congrArg (fun z => Result.ok (Next.enter _ z) _) (by simp only [List.map_toArray, List.map_cons, List.map_nil, ea19, ea20]; try rfl)) (PutTb_Q _ _ _ _ _ _ _ (HW2.out.mod Cx6.out (fun _ _ h => h)) (by intro k h1; rcases h1 with h1 | h1 <;> first | omega | (have hb := HBR.out k h1; omega)) (HRD.out.mod Cx6.out (fun _ _ h => h)) (by intro k h1; have hb := HBT.out k h1; omega) (by intro k h1 h2; rcases h1 with h1 | h1 <;> first | omega | (have hb := HBR.out k h1; omega) | (have hb := HBT.out k h2; omega) | exact HDJ.out k h1 h2 | exact HDJ.out k h2 h1 | (have hb := HBR.out k h1; have hb2 := HBT.out k h2; omega)) HLk.out) ?_
      rintro e u4_3 ⟨rfl, qwr, hm⟩
      refine ⟨_, rfl, ?_⟩
      have Hx7 := hid (qwr.widen (R' := (fun k => (R k) ∨ (New w wo k) ∨ (New u3_3 u4_3 k))) (by intro k h1; simp only [or_assoc] at h1 ⊢; exact h1) (Nat.le_refl _))
      have zu4_3 := hm.size
      have Cx8 := hid (show Mod (fun k => (R k) ∨ (New w wo k)) u3_3 u4_3 from hm)
      clear hm
      clear act E qwr HW2 ea19 ea20
      refine QSeq.nil (t' := [_, _, _, _]) rfl ?_
      obtain rfl := HA0.out
      clear HA0 oe0 oe2 oe7
      simp only [pz, Act.put, List.setIfInBounds_toArray, List.set_cons_zero, List.set_cons_succ]
      have hq := Hx7.out
      rw [HE.out] at hq
      have HQ := Lib.hid hq
      clear hq
      go_wp2
      go_roundw
      case rel => exact ⟨k + 1, by go_num, by omega, by omega, (HQ.out.widen (by intro b h1; rcases h1 with h1 | h1 | h1 <;> first | exact Or.inl h1 | (right; omega)) (Nat.le_refl _)), ((HS2.out.mod Cx6.out (fun _ _ h => h)).mod Cx8.out (by intro k h1 h2; rcases h2 with h2 | h2 <;> first | omega | (have hb := HBT.out k h1; omega) | (have hb := HBR.out k h2; omega) | exact HDJ.out k h1 h2 | exact HDJ.out k h2 h1 | (have hb := HBT.out k h1; have hb2 := HBR.out k h2; omega))), ((HM2.out.trans Cx6.out (fun _ _ h => h.elim)).trans Cx8.out (by intro k h1 h2; rcases h2 with h2 | h2 <;> first | exact h2 | omega | (have hb := HBR.out k h2; omega)))⟩
      case measure => simp [intOf]; omega
    · have hkk : k = l.length := by omega
      subst hkk
      go_wp2
      go_end0
      have hq := HW2.out
      rw [List.take_length] at hq
      exact ⟨rfl, hq, HM2.out⟩
set_option maxHeartbeats 4000000 in
theorem PutOp_Q : Puts OpR 90 opB := by
  intro R R2 g bs cs x w hW hB hx hB2 hD hl
  obtain ⟨v_pl, rfl, hok, hs0⟩ := hx
  have HS0 := Lib.hid hs0
  clear hs0
  have HW := Lib.hid hW
  have HBR := Lib.hid hB
  have HBT := Lib.hid hB2
  have HDJ := Lib.hid hD
  have HOK := Lib.hid hok
  have HL := Lib.hid hl
  clear hW hB hB2 hD hl hok
  unfold opB at HL
  go_enter Try.func90, Try.ntmps90
  go_upto_region 1 with (fail)
  obtain ⟨w1, hw1⟩ : ∃ zz, zz = (w.alloc (.cells (x.cells v_pl : List Value).toArray 102)) := ⟨_, rfl⟩
  change Code.wp _ _ _ _ (w.alloc (.cells (x.cells v_pl : List Value).toArray 102))
  rw [← hw1]
  have HB3 := hid (show Cs w1 (w.heap.size) (x.cells v_pl : List Value).toArray 102 by rw [hw1]; exact Cs.new _ _ _)
  have hm : Mod (fun _ => False) w w1 := by rw [hw1]; exact (Mod.refl _ _).alloc _
  have HM0 := hid (show Mod (fun k => (R k)) w w1 from hm.mono (fun _ _ h => h.elim))
  have hs1 : w1.heap.size = w.heap.size + 1 := by rw [hw1]; simp
  have Hx1 := hid (HW.out.mod hm (fun _ _ h => h))
  clear HW
  have Hx2 := hid (HS0.out.mod hm (fun _ _ h => h))
  clear HS0
  clear hw1 hm
  go_upto_region 1 with (fail)
  generalize ha0 : Act.mk _ _ = a0
  have oe0 : a0.eval (.tmp 0) = .pointer (some ⟨g, 0, none⟩) := by rw [← ha0]; rfl
  have oe3 : a0.eval (.tmp 3) = .pointer (some ⟨w.heap.size, 0, none⟩) := by rw [← ha0]; rfl
  have hsz0 : a0.tmps.size = 14 := by rw [← ha0]; rfl
  have HA0 := hid ha0
  clear ha0
  refine wp_region_Q1 14 hsz0 [4, 5, 6, 7, 8, 9, 10, 11, 12, 13] (fun k => (R k)) (fun k j => (k = 0 ∧ ((R j))) ∨ (k = 1 ∧ ((R j))) ∨ (k = 2 ∧ ((R j)))) (by intro k j h; (try dsimp only at h ⊢); rcases h with ⟨-, h⟩ | ⟨-, h⟩ | ⟨-, h⟩; (exact h); (exact h); (exact h)) [qi (.pointer (some ⟨g, 0, none⟩)), qi (.pointer (some ⟨w.heap.size, 0, none⟩)), qi (.int .i64 x.ix), qi (.pointer (some ⟨g, 0, none⟩)), qi (.pointer (some ⟨w.heap.size, 1, none⟩)), qi (v_pl), qi (.pointer (some ⟨g, 0, none⟩)), qi (.pointer (some ⟨w.heap.size, 2, none⟩)), qi (hv x.nc), qi (.pointer (some ⟨g, 0, none⟩))] ⟨qi_stable, qi_stable, qi_stable, qi_stable, qi_stable, qi_stable, qi_stable, qi_stable, qi_stable, qi_stable, trivial⟩ [3, 6, 9] ⟨?_, ?_, ?_, ?_, ?_, ?_, ?_, ?_, ?_, ?_, trivial⟩ ?_
  · exact stq (fun E => ex_move rfl (E.v oe0))
  · exact stq (fun E => ex_field rfl Try.underlying102 rfl (by kernel_rfl) (E.v oe3))
  · exact stq (fun E => ex_load1 rfl Try.underlying3 rfl (E.d 1) (Cs.hd1 (HB3.out.mod E.m (by intro h2; rcases h2 with ⟨h0, h2⟩ | h2 <;> first | omega | (have hb := HBR.out _ h2; omega))) rfl))
  · exact stepq_chain rfl
  · exact stq (fun E => ex_field rfl Try.underlying102 rfl (by kernel_rfl) (E.v oe3))
  · exact stq (fun E => ex_load1 rfl Try.underlying38 rfl (E.d 4) (Cs.hd1 (HB3.out.mod E.m (by intro h2; rcases h2 with ⟨h0, h2⟩ | h2 <;> first | omega | (have hb := HBR.out _ h2; omega))) rfl))
  · exact stepq_chain rfl
  · exact stq (fun E => ex_field rfl Try.underlying102 rfl (by kernel_rfl) (E.v oe3))
  · exact stq (fun E => ex_loadA rfl Try.underlying32 rfl (off := 2) (cs := x.nc.map bv) (by rw [List.length_map, HOK.out.2.1]; exact size_hash) (E.d 7) (Cs.tlA (HB3.out.mod E.m (by intro h2; rcases h2 with ⟨h0, h2⟩ | h2 <;> first | omega | (have hb := HBR.out _ h2; omega))) rfl))
  · exact stepq_chain rfl
  intro u1_0 hr
  have zu1_0 := hr.size
  have Cx3 := hid (hr.new (S := (fun k => (R k))))
  have Hx4 := hid (Hx1.out.mod hr (by intro k h1 h2; have hb := HBR.out k h1; omega))
  clear Hx1
  clear hr
  refine QChain.go fun Z act E => ?_
  refine qc_callF (args := #[.pointer (some ⟨g, 0, none⟩), .int .i64 x.ix]) rfl (wanted_none rfl) rfl Try.func52 (args2 (E.d 0) (E.d 2)) (WInt_Q Hx4.out HOK.out.1 (by have := HL.out; simp only [List.length_append] at this ⊢; omega)) ?_
  rintro e u1_1a ⟨rfl, qwr, hm⟩
  have zu1_1a := hm.size
  refine ⟨_, rfl, hm.mono (by intro k hk h; first | omega | exact Or.inl ⟨(by have hb := HBR.out k h; omega), Or.inl ⟨rfl, h⟩⟩), (fun _ => rfl), ?_⟩
  intro u1_1 hr
  have zu1_1 := hr.size
  have Hx5 := hid ((qwr.widen (R' := (fun k => (R k) ∨ (New u1_0 u1_1a k))) (fun _ h => h) (Nat.le_refl _)).mod hr (by intro k h1 h2; rcases h1 with h1 | h1 <;> first | omega | (have hb := HBR.out k h1; omega)))
  have Cx6 := hid (Cx3.out.goM hm hr (fun _ _ h => h))
  clear Cx3 hm hr Z act E qwr Hx4
  refine QChain.go fun Z act E => ?_
  refine qc_callF (args := #[.pointer (some ⟨g, 0, none⟩), v_pl]) rfl (wanted_none rfl) rfl Try.func67 (args2 (E.d 3) (E.d 5)) (WRow_Q Hx5.out (Hx2.out.mod Cx6.out (by intro k h1 h2; first | omega | (have hb := HBT.out k h1; omega) | (have hb := HBR.out k h2; omega) | exact HDJ.out k h1 h2 | exact HDJ.out k h2 h1 | (have hb := HBT.out k h1; have hb2 := HBR.out k h2; omega))) (by intro k h1 h2; rcases h2 with h2 | h2 <;> first | omega | (have hb := HBT.out k h1; omega) | (have hb := HBR.out k h2; omega) | exact HDJ.out k h1 h2 | exact HDJ.out k h2 h1 | (have hb := HBT.out k h1; have hb2 := HBR.out k h2; omega)) (by have := HL.out; simp only [List.length_append] at this ⊢; omega)) ?_
  rintro e u1_2a ⟨rfl, qwr, hm⟩
  have zu1_2a := hm.size
  refine ⟨_, rfl, hm.mono (by intro k hk h; rcases h with h | h <;> first | omega | exact Or.inl ⟨(by have hb := HBR.out k h; omega), Or.inr (Or.inl ⟨rfl, h⟩)⟩), (fun _ => rfl), ?_⟩
  intro u1_2 hr
  have zu1_2 := hr.size
  have Hx7 := hid ((qwr.widen (R' := (fun k => (R k) ∨ (New u1_0 u1_1a k) ∨ (New u1_1 u1_2a k))) (by intro k h1; simp only [or_assoc] at h1 ⊢; exact h1) (Nat.le_refl _)).mod hr (by intro k h1 h2; rcases h1 with h1 | h1 | h1 <;> first | omega | (have hb := HBR.out k h1; omega)))
  have Cx8 := hid (Cx6.out.goM hm hr (by intro k h0 h2; rcases h2 with h2 | h2 <;> first | omega | exact h2))
  clear Cx6 hm hr Z act E qwr Hx5
  refine QChain.go fun Z act E => ?_
  refine qc_callF (args := #[.pointer (some ⟨g, 0, none⟩), hv x.nc]) rfl (wanted_none rfl) rfl Try.func69 (args2 (E.d 6) (E.d 8)) (WHash_Q Hx7.out HOK.out.2 (by have := HL.out; simp only [List.length_append] at this ⊢; omega)) ?_
  rintro e u1_3a ⟨rfl, qwr, hm⟩
  have zu1_3a := hm.size
  refine ⟨_, rfl, hm.mono (by intro k hk h; rcases h with h | h | h <;> first | omega | exact Or.inl ⟨(by have hb := HBR.out k h; omega), Or.inr (Or.inr (⟨rfl, h⟩))⟩), (fun _ => rfl), ?_⟩
  intro u1_3 hr
  have zu1_3 := hr.size
  have Hx9 := hid ((qwr.widen (R' := (fun k => (R k) ∨ (New u1_0 u1_1a k) ∨ (New u1_1 u1_2a k) ∨ (New u1_2 u1_3a k))) (by intro k h1; simp only [or_assoc] at h1 ⊢; exact h1) (Nat.le_refl _)).mod hr (by intro k h1 h2; rcases h1 with h1 | h1 | h1 | h1 <;> first | omega | (have hb := HBR.out k h1; omega)))
  have Cx10 := hid (Cx8.out.goM hm hr (by intro k h0 h2; rcases h2 with h2 | h2 | h2 <;> first | omega | exact h2))
  clear Cx8 hm hr Z act E qwr Hx7
  refine QChain.nil fun vs hl hzz hrows hne => ?_
  obtain ⟨Z, hYZ, hZb, hV⟩ := hzz
  have f0 := fvi hV hl 0
  have f3 := fvi hV hl 3
  have f6 := fvi hV hl 6
  have f9 := fvi hV hl 9
  rw [show vs = [gw vs 0, gw vs 1, gw vs 2, gw vs 3, gw vs 4, gw vs 5, gw vs 6, gw vs 7, gw vs 8, gw vs 9] from (gw_eta hl).trans rfl]
  have ha0 := HA0.out
  subst ha0
  clear HA0 hV hYZ hZb hsz0 hrows hne oe0 oe3
  simp only [putAll, Act.put, List.setIfInBounds_toArray, List.set_cons_zero, List.set_cons_succ, f0, f3, f6, f9]
  clear hl f0 f3 f6 f9
  go_wp2
  go_end0
  have hq := (Hx9.out.widen (R' := (fun k => R k ∨ New w u1_3 k)) (by intro k h1; rcases h1 with h1 | h1 | h1 | h1 <;> first | exact Or.inl h1 | (right; omega)) (Nat.le_refl _))
  simp only [List.append_assoc] at hq
  exact ⟨rfl, by simpa only [opB, List.append_assoc] using hq, (HM0.out.trans Cx10.out (fun _ _ h => h))⟩
set_option maxHeartbeats 4000000 in
theorem PutList_Op : PutsL OpR 126 90 opB := by
  intro R R2 g bs v l w hW hB hs hB2 hD hl
  obtain ⟨ao, cap, rfl⟩ := hs.shape
  have hb64 : l.length ≤ maxLen := hs.bd
  rw [maxLen_val] at hb64
  have HI64 := hid (show I64 (l.length : Int) by unfold I64; omega)
  have HW := Lib.hid hW
  have HS := Lib.hid hs
  have HBR := Lib.hid hB
  have HBT := Lib.hid hB2
  have HDJ := Lib.hid hD
  have HL := Lib.hid hl
  clear hW hB hs hB2 hD hl
  unfold listB at HL
  go_enter Try.func126, Try.ntmps126
  go_upto_region 0 with (fail)
  have HM0 := hid (Mod.refl (fun k => (R k)) w)
  go_upto_region 0 with (fail)
  refine wp_region_U 23 [8, 9, 10, 11] [0, 1, 2, 3] (fun a0 HA0 => ?_)
  have oe0 := ev HA0 0 rfl
  have oe1 := ev HA0 1 rfl
  refine QSeq.pure rfl _ (fun E => ex_move rfl (E.v oe0)) ?_
  refine QSeq.pure rfl _ (fun E => ex_move rfl (E.v oe1)) ?_
  refine QSeq.pure rfl (.int .i64 l.length) (fun E => ex_lenS rfl (E.d 1 0) Try.underlying91) ?_
  refine QSeq.call rfl rfl Try.func52 (WInt_Q HW.out HI64.out (by have := HL.out; simp only [List.length_append] at this ⊢; omega)) (fun E => args2 (E.d 0 2) (E.d 2 0)) ?_
  rintro e u0_3 ⟨rfl, qwr, hm⟩
  refine ⟨_, rfl, ?_⟩
  have Hx1 := hid (qwr.widen (R' := (fun k => (R k) ∨ (New w u0_3 k))) (fun _ h => h) (Nat.le_refl _))
  have zu0_3 := hm.size
  have Cx2 := hid (show Mod (fun k => (R k)) w u0_3 from hm)
  clear hm
  clear qwr HW
  refine QSeq.nil (t' := [_, _, _, _]) rfl ?_
  obtain rfl := HA0.out
  clear HA0 oe0 oe1
  simp only [pz, Act.put, List.setIfInBounds_toArray, List.set_cons_zero, List.set_cons_succ]
  go_wp2
  go_loopw [14] (fun t wr => ∃ k : Nat, t = .int .i64 (k : Int) ∧ k ≤ l.length ∧ u0_3.heap.size ≤ wr.heap.size ∧ WrR (fun b => R b ∨ (w.heap.size ≤ b ∧ b < wr.heap.size)) 900000 wr g (bs ++ (encI l.length ++ ((l.take k).map opB).flatten)) ∧ RdS OpR R2 wr (.slice ao l.length cap) l ∧ Mod R w wr) (fun t _ => l.length - (intOf t).toNat)
  case atStart => exact ⟨0, rfl, Nat.zero_le _, Nat.le_refl _, by have hq := (Hx1.out.widen (R' := (fun k => R k ∨ (w.heap.size ≤ k ∧ k < u0_3.heap.size))) (by intro k h1; rcases h1 with h1 | h1 <;> first | exact Or.inl h1 | (right; omega)) (Nat.le_refl _)); simpa only [List.take_zero, List.map_nil, List.flatten_nil, List.append_nil] using hq, (HS.out.mod Cx2.out (by intro k h1 h2; first | omega | (have hb := HBT.out k h1; omega) | (have hb := HBR.out k h2; omega) | exact HDJ.out k h1 h2 | exact HDJ.out k h2 h1 | (have hb := HBT.out k h1; have hb2 := HBR.out k h2; omega))), (HM0.out.trans Cx2.out (fun _ _ h => h))⟩
  case round =>
    obtain ⟨k, rfl, hk, hz, hw, hs, hm⟩ := hrel
    have HW2 := Lib.hid hw
    have HS2 := Lib.hid hs
    have HM2 := Lib.hid hm
    clear hw hs hm Hx1 HS HM0
    obtain ⟨wo, rfl⟩ : ∃ x, x = wr := ⟨_, rfl⟩
    by_cases hlt : k < l.length
    · skip
      obtain ⟨g0, o0, cs, rfl, hrg, hrd, hcs⟩ := HS2.out.at hlt
      have hcl : cs.length = 34 := OpR.len hrd
      have HCL := Lib.hid hcl
      have HAT := hid (show CellsAt R2 wo g0 (o0 + k * 34) cs from ⟨hrg, hcs⟩)
      have HRD := Lib.hid hrd
      have HOC := hid (OpR.one hrd)
      clear hcl hcs hrd hrg
      have HE : Hid (bs ++ (encI l.length ++ ((l.take k).map opB).flatten) ++ opB l[k] = bs ++ (encI l.length ++ ((l.take (k + 1)).map opB).flatten)) := hid (by rw [List.take_succ_eq_append_getElem hlt, List.map_append, List.flatten_append]; simp [List.append_assoc])
      have HLk := hid (show (bs ++ (encI l.length ++ ((l.take k).map opB).flatten) ++ opB l[k]).length ≤ 900000 by rw [HE.out]; exact Nat.le_trans (put_len _ _ _ _ _) HL.out)
      go_upto_region 3 with (fail)
      refine wp_region_U 23 [16, 17, 7, 26] [0, 1, 2, 3] (fun a0 HA0 => ?_)
      have oe12 := ev HA0 12 rfl
      have oe14 := ev HA0 14 rfl
      refine QSeq.pure rfl (.pointer (some ⟨g0, o0 + k * 34, none⟩)) (fun E => ex_idxS (i := k) (s := 34) rfl Try.underlying91 (by kernel_rfl) (E.v oe12) (E.v oe14) (by omega)) ?_
      refine QSeq.pure rfl _ (fun E => ex_loadA rfl Try.underlying102 rfl (off := o0 + k * 34) (cs := cs) (by rw [HCL.out]; kernel_rfl) (E.d 0 0) (fun j u hu => (HAT.out).2 j u hu)) ?_
      refine QSeq.go fun act E => ?_
      refine qc_alloc rfl (wanted_none rfl) rfl (z := [.int .i64 0, .slice none 0 0, .int .u8 0, .int .u8 0, .int .u8 0, .int .u8 0, .int .u8 0, .int .u8 0, .int .u8 0, .int .u8 0, .int .u8 0, .int .u8 0, .int .u8 0, .int .u8 0, .int .u8 0, .int .u8 0, .int .u8 0, .int .u8 0, .int .u8 0, .int .u8 0, .int .u8 0, .int .u8 0, .int .u8 0, .int .u8 0, .int .u8 0, .int .u8 0, .int .u8 0, .int .u8 0, .int .u8 0, .int .u8 0, .int .u8 0, .int .u8 0, .int .u8 0, .int .u8 0]) (by kernel_rfl) ?_
      intro u3_2 qq hm
      have zl3_2 := qq.lt
      have Hx3 := hid qq
      have zu3_2 := hm.size
      have Cx4 := hid (show Mod (fun _ => False) wo u3_2 from hm)
      clear hm
      clear act E qq
      refine QSeq.go fun act E => ?_
      have hlz : (cs).length = List.length ([.int .i64 0, .slice none 0 0, .int .u8 0, .int .u8 0, .int .u8 0, .int .u8 0, .int .u8 0, .int .u8 0, .int .u8 0, .int .u8 0, .int .u8 0, .int .u8 0, .int .u8 0, .int .u8 0, .int .u8 0, .int .u8 0, .int .u8 0, .int .u8 0, .int .u8 0, .int .u8 0, .int .u8 0, .int .u8 0, .int .u8 0, .int .u8 0, .int .u8 0, .int .u8 0, .int .u8 0, .int .u8 0, .int .u8 0, .int .u8 0, .int .u8 0, .int .u8 0, .int .u8 0, .int .u8 0] : List Value) := (by rw [HCL.out]; rfl)
      refine qc_store rfl (wanted_none rfl) rfl Hx3.out (off := 0) (vs := cs) (by rw [hlz]; kernel_rfl) HOC.out (by rw [hlz]; exact Nat.le_of_eq (Nat.zero_add _)) (E.d 2 0) (ec (E.d 1 1)) ?_
      intro u3_3 qc0 hm
      have qq := qc0.eqv (b := (cs : List Value).toArray) (lay_whole #[.int .i64 0, .slice none 0 0, .int .u8 0, .int .u8 0, .int .u8 0, .int .u8 0, .int .u8 0, .int .u8 0, .int .u8 0, .int .u8 0, .int .u8 0, .int .u8 0, .int .u8 0, .int .u8 0, .int .u8 0, .int .u8 0, .int .u8 0, .int .u8 0, .int .u8 0, .int .u8 0, .int .u8 0, .int .u8 0, .int .u8 0, .int .u8 0, .int .u8 0, .int .u8 0, .int .u8 0, .int .u8 0, .int .u8 0, .int .u8 0, .int .u8 0, .int .u8 0, .int .u8 0, .int .u8 0] _ (by rw [hlz]; rfl))
      clear qc0 hlz
      have Hx5 := hid qq
      have zu3_3 := hm.size
      have HMu3_3 := hid hm
      have Cx6 := hid (Mod.goS (S' := (fun _ => False)) Cx4.out hm (fun _ h => h) (by intro k h0 h2; omega))
      clear hm Cx4
      clear act E qq Hx3
      clear HMu3_3
      refine QSeq.nil (t' := [_, _, _, _]) rfl ?_
      obtain rfl := HA0.out
      clear HA0 oe12 oe14
      simp only [pz, Act.put, List.setIfInBounds_toArray, List.set_cons_zero, List.set_cons_succ, List.set_nil]
      go_upto_region 4 with (fail)
      refine wp_region_U 23 [18, 19, 20, 21] [0, 1, 2, 3] (fun a0 HA0 => ?_)
      have oe0 := ev HA0 0 rfl
      have oe2 := ev HA0 2 rfl
      have oe7 := ev HA0 7 rfl
      refine QSeq.pure rfl _ (fun E => ex_move rfl (E.v oe2)) ?_
      refine QSeq.pure rfl _ (fun E => ex_move rfl (E.v oe0)) ?_
      refine QSeq.pure rfl _ (fun E => ex_loadA rfl Try.underlying102 rfl (off := 0) (cs := cs) (by rw [HCL.out]; kernel_rfl) (E.v oe7) (Cs.whole Hx5.out)) ?_
      refine QSeq.go fun act E => ?_
      have ea19 : act.eval (.tmp 19) = .pointer (some ⟨g, 0, none⟩) := (E.d 1 1)
      have ea20 : act.eval (.tmp 20) = .agg cs.toArray := (E.d 2 0)
      refine qc_call (args := #[.pointer (some ⟨g, 0, none⟩), .agg cs.toArray]) rfl (wanted_none rfl) (by rw [ex_callV rfl (E.d 0 2) Try.func90 (by kernel_rfl) (by kernel_rfl)]; exact congrArg (fun z => Result.ok (Next.enter _ z) _) (by simp only [List.map_toArray, List.map_cons, List.map_nil, ea19, ea20]; try rfl)) (PutOp_Q _ _ _ _ _ _ _ (HW2.out.mod Cx6.out (fun _ _ h => h)) (by intro k h1; rcases h1 with h1 | h1 <;> first | omega | (have hb := HBR.out k h1; omega)) (HRD.out.mod Cx6.out (fun _ _ h => h)) (by intro k h1; have hb := HBT.out k h1; omega) (by intro k h1 h2; rcases h1 with h1 | h1 <;> first | omega | (have hb := HBR.out k h1; omega) | (have hb := HBT.out k h2; omega) | exact HDJ.out k h1 h2 | exact HDJ.out k h2 h1 | (have hb := HBR.out k h1; have hb2 := HBT.out k h2; omega)) HLk.out) ?_
      rintro e u4_3 ⟨rfl, qwr, hm⟩
      refine ⟨_, rfl, ?_⟩
      have Hx7 := hid (qwr.widen (R' := (fun k => (R k) ∨ (New w wo k) ∨ (New u3_3 u4_3 k))) (by intro k h1; simp only [or_assoc] at h1 ⊢; exact h1) (Nat.le_refl _))
      have zu4_3 := hm.size
      have Cx8 := hid (show Mod (fun k => (R k) ∨ (New w wo k)) u3_3 u4_3 from hm)
      clear hm
      clear act E qwr HW2 ea19 ea20
      refine QSeq.nil (t' := [_, _, _, _]) rfl ?_
      obtain rfl := HA0.out
      clear HA0 oe0 oe2 oe7
      simp only [pz, Act.put, List.setIfInBounds_toArray, List.set_cons_zero, List.set_cons_succ]
      have hq := Hx7.out
      rw [HE.out] at hq
      have HQ := Lib.hid hq
      clear hq
      go_wp2
      go_roundw
      case rel => exact ⟨k + 1, by go_num, by omega, by omega, (HQ.out.widen (by intro b h1; rcases h1 with h1 | h1 | h1 <;> first | exact Or.inl h1 | (right; omega)) (Nat.le_refl _)), ((HS2.out.mod Cx6.out (fun _ _ h => h)).mod Cx8.out (by intro k h1 h2; rcases h2 with h2 | h2 <;> first | omega | (have hb := HBT.out k h1; omega) | (have hb := HBR.out k h2; omega) | exact HDJ.out k h1 h2 | exact HDJ.out k h2 h1 | (have hb := HBT.out k h1; have hb2 := HBR.out k h2; omega))), ((HM2.out.trans Cx6.out (fun _ _ h => h.elim)).trans Cx8.out (by intro k h1 h2; rcases h2 with h2 | h2 <;> first | exact h2 | omega | (have hb := HBR.out k h2; omega)))⟩
      case measure => simp [intOf]; omega
    · have hkk : k = l.length := by omega
      subst hkk
      go_wp2
      go_end0
      have hq := HW2.out
      rw [List.take_length] at hq
      exact ⟨rfl, hq, HM2.out⟩
set_option maxHeartbeats 4000000 in
theorem PutList_Ce : PutsL CeR 124 84 ceB := by
  intro R R2 g bs v l w hW hB hs hB2 hD hl
  obtain ⟨ao, cap, rfl⟩ := hs.shape
  have hb64 : l.length ≤ maxLen := hs.bd
  rw [maxLen_val] at hb64
  have HI64 := hid (show I64 (l.length : Int) by unfold I64; omega)
  have HW := Lib.hid hW
  have HS := Lib.hid hs
  have HBR := Lib.hid hB
  have HBT := Lib.hid hB2
  have HDJ := Lib.hid hD
  have HL := Lib.hid hl
  clear hW hB hs hB2 hD hl
  unfold listB at HL
  go_enter Try.func124, Try.ntmps124
  go_upto_region 0 with (fail)
  have HM0 := hid (Mod.refl (fun k => (R k)) w)
  go_upto_region 0 with (fail)
  refine wp_region_U 23 [8, 9, 10, 11] [0, 1, 2, 3] (fun a0 HA0 => ?_)
  have oe0 := ev HA0 0 rfl
  have oe1 := ev HA0 1 rfl
  refine QSeq.pure rfl _ (fun E => ex_move rfl (E.v oe0)) ?_
  refine QSeq.pure rfl _ (fun E => ex_move rfl (E.v oe1)) ?_
  refine QSeq.pure rfl (.int .i64 l.length) (fun E => ex_lenS rfl (E.d 1 0) Try.underlying87) ?_
  refine QSeq.call rfl rfl Try.func52 (WInt_Q HW.out HI64.out (by have := HL.out; simp only [List.length_append] at this ⊢; omega)) (fun E => args2 (E.d 0 2) (E.d 2 0)) ?_
  rintro e u0_3 ⟨rfl, qwr, hm⟩
  refine ⟨_, rfl, ?_⟩
  have Hx1 := hid (qwr.widen (R' := (fun k => (R k) ∨ (New w u0_3 k))) (fun _ h => h) (Nat.le_refl _))
  have zu0_3 := hm.size
  have Cx2 := hid (show Mod (fun k => (R k)) w u0_3 from hm)
  clear hm
  clear qwr HW
  refine QSeq.nil (t' := [_, _, _, _]) rfl ?_
  obtain rfl := HA0.out
  clear HA0 oe0 oe1
  simp only [pz, Act.put, List.setIfInBounds_toArray, List.set_cons_zero, List.set_cons_succ]
  go_wp2
  go_loopw [14] (fun t wr => ∃ k : Nat, t = .int .i64 (k : Int) ∧ k ≤ l.length ∧ u0_3.heap.size ≤ wr.heap.size ∧ WrR (fun b => R b ∨ (w.heap.size ≤ b ∧ b < wr.heap.size)) 900000 wr g (bs ++ (encI l.length ++ ((l.take k).map ceB).flatten)) ∧ RdS CeR R2 wr (.slice ao l.length cap) l ∧ Mod R w wr) (fun t _ => l.length - (intOf t).toNat)
  case atStart => exact ⟨0, rfl, Nat.zero_le _, Nat.le_refl _, by have hq := (Hx1.out.widen (R' := (fun k => R k ∨ (w.heap.size ≤ k ∧ k < u0_3.heap.size))) (by intro k h1; rcases h1 with h1 | h1 <;> first | exact Or.inl h1 | (right; omega)) (Nat.le_refl _)); simpa only [List.take_zero, List.map_nil, List.flatten_nil, List.append_nil] using hq, (HS.out.mod Cx2.out (by intro k h1 h2; first | omega | (have hb := HBT.out k h1; omega) | (have hb := HBR.out k h2; omega) | exact HDJ.out k h1 h2 | exact HDJ.out k h2 h1 | (have hb := HBT.out k h1; have hb2 := HBR.out k h2; omega))), (HM0.out.trans Cx2.out (fun _ _ h => h))⟩
  case round =>
    obtain ⟨k, rfl, hk, hz, hw, hs, hm⟩ := hrel
    have HW2 := Lib.hid hw
    have HS2 := Lib.hid hs
    have HM2 := Lib.hid hm
    clear hw hs hm Hx1 HS HM0
    obtain ⟨wo, rfl⟩ : ∃ x, x = wr := ⟨_, rfl⟩
    by_cases hlt : k < l.length
    · skip
      obtain ⟨g0, o0, cs, rfl, hrg, hrd, hcs⟩ := HS2.out.at hlt
      have hcl : cs.length = 38 := CeR.len hrd
      have HCL := Lib.hid hcl
      have HAT := hid (show CellsAt R2 wo g0 (o0 + k * 38) cs from ⟨hrg, hcs⟩)
      have HRD := Lib.hid hrd
      have HOC := hid (CeR.one hrd)
      clear hcl hcs hrd hrg
      have HE : Hid (bs ++ (encI l.length ++ ((l.take k).map ceB).flatten) ++ ceB l[k] = bs ++ (encI l.length ++ ((l.take (k + 1)).map ceB).flatten)) := hid (by rw [List.take_succ_eq_append_getElem hlt, List.map_append, List.flatten_append]; simp [List.append_assoc])
      have HLk := hid (show (bs ++ (encI l.length ++ ((l.take k).map ceB).flatten) ++ ceB l[k]).length ≤ 900000 by rw [HE.out]; exact Nat.le_trans (put_len _ _ _ _ _) HL.out)
      go_upto_region 3 with (fail)
      refine wp_region_U 23 [16, 17, 7, 26] [0, 1, 2, 3] (fun a0 HA0 => ?_)
      have oe12 := ev HA0 12 rfl
      have oe14 := ev HA0 14 rfl
      refine QSeq.pure rfl (.pointer (some ⟨g0, o0 + k * 38, none⟩)) (fun E => ex_idxS (i := k) (s := 38) rfl Try.underlying87 (by kernel_rfl) (E.v oe12) (E.v oe14) (by omega)) ?_
      refine QSeq.pure rfl _ (fun E => ex_loadA rfl Try.underlying84 rfl (off := o0 + k * 38) (cs := cs) (by rw [HCL.out]; kernel_rfl) (E.d 0 0) (fun j u hu => (HAT.out).2 j u hu)) ?_
      refine QSeq.go fun act E => ?_
      refine qc_alloc rfl (wanted_none rfl) rfl (z := [.int .i64 0, .int .i64 0, .int .u8 0, .int .u8 0, .int .u8 0, .int .u8 0, .int .u8 0, .int .u8 0, .int .u8 0, .int .u8 0, .int .u8 0, .int .u8 0, .int .u8 0, .int .u8 0, .int .u8 0, .int .u8 0, .int .u8 0, .int .u8 0, .int .u8 0, .int .u8 0, .int .u8 0, .int .u8 0, .int .u8 0, .int .u8 0, .int .u8 0, .int .u8 0, .int .u8 0, .int .u8 0, .int .u8 0, .int .u8 0, .int .u8 0, .int .u8 0, .int .u8 0, .int .u8 0, .int .i64 0, .int .i64 0, .int .i64 0, .slice none 0 0]) (by kernel_rfl) ?_
      intro u3_2 qq hm
      have zl3_2 := qq.lt
      have Hx3 := hid qq
      have zu3_2 := hm.size
      have Cx4 := hid (show Mod (fun _ => False) wo u3_2 from hm)
      clear hm
      clear act E qq
      refine QSeq.go fun act E => ?_
      have hlz : (cs).length = List.length ([.int .i64 0, .int .i64 0, .int .u8 0, .int .u8 0, .int .u8 0, .int .u8 0, .int .u8 0, .int .u8 0, .int .u8 0, .int .u8 0, .int .u8 0, .int .u8 0, .int .u8 0, .int .u8 0, .int .u8 0, .int .u8 0, .int .u8 0, .int .u8 0, .int .u8 0, .int .u8 0, .int .u8 0, .int .u8 0, .int .u8 0, .int .u8 0, .int .u8 0, .int .u8 0, .int .u8 0, .int .u8 0, .int .u8 0, .int .u8 0, .int .u8 0, .int .u8 0, .int .u8 0, .int .u8 0, .int .i64 0, .int .i64 0, .int .i64 0, .slice none 0 0] : List Value) := (by rw [HCL.out]; rfl)
      refine qc_store rfl (wanted_none rfl) rfl Hx3.out (off := 0) (vs := cs) (by rw [hlz]; kernel_rfl) HOC.out (by rw [hlz]; exact Nat.le_of_eq (Nat.zero_add _)) (E.d 2 0) (ec (E.d 1 1)) ?_
      intro u3_3 qc0 hm
      have qq := qc0.eqv (b := (cs : List Value).toArray) (lay_whole #[.int .i64 0, .int .i64 0, .int .u8 0, .int .u8 0, .int .u8 0, .int .u8 0, .int .u8 0, .int .u8 0, .int .u8 0, .int .u8 0, .int .u8 0, .int .u8 0, .int .u8 0, .int .u8 0, .int .u8 0, .int .u8 0, .int .u8 0, .int .u8 0, .int .u8 0, .int .u8 0, .int .u8 0, .int .u8 0, .int .u8 0, .int .u8 0, .int .u8 0, .int .u8 0, .int .u8 0, .int .u8 0, .int .u8 0, .int .u8 0, .int .u8 0, .int .u8 0, .int .u8 0, .int .u8 0, .int .i64 0, .int .i64 0, .int .i64 0, .slice none 0 0] _ (by rw [hlz]; rfl))
      clear qc0 hlz
      have Hx5 := hid qq
      have zu3_3 := hm.size
      have HMu3_3 := hid hm
      have Cx6 := hid (Mod.goS (S' := (fun _ => False)) Cx4.out hm (fun _ h => h) (by intro k h0 h2; omega))
      clear hm Cx4
      clear act E qq Hx3
      clear HMu3_3
      refine QSeq.nil (t' := [_, _, _, _]) rfl ?_
      obtain rfl := HA0.out
      clear HA0 oe12 oe14
      simp only [pz, Act.put, List.setIfInBounds_toArray, List.set_cons_zero, List.set_cons_succ, List.set_nil]
      go_upto_region 4 with (fail)
      refine wp_region_U 23 [18, 19, 20, 21] [0, 1, 2, 3] (fun a0 HA0 => ?_)
      have oe0 := ev HA0 0 rfl
      have oe2 := ev HA0 2 rfl
      have oe7 := ev HA0 7 rfl
      refine QSeq.pure rfl _ (fun E => ex_move rfl (E.v oe2)) ?_
      refine QSeq.pure rfl _ (fun E => ex_move rfl (E.v oe0)) ?_
      refine QSeq.pure rfl _ (fun E => ex_loadA rfl Try.underlying84 rfl (off := 0) (cs := cs) (by rw [HCL.out]; kernel_rfl) (E.v oe7) (Cs.whole Hx5.out)) ?_
      refine QSeq.go fun act E => ?_
      have ea19 : act.eval (.tmp 19) = .pointer (some ⟨g, 0, none⟩) := (E.d 1 1)
      have ea20 : act.eval (.tmp 20) = .agg cs.toArray := (E.d 2 0)
      refine qc_call (args := #[.pointer (some ⟨g, 0, none⟩), .agg cs.toArray]) rfl (wanted_none rfl) (by rw [ex_callV rfl (E.d 0 2) Try.func84 (by kernel_rfl) (by kernel_rfl)]; exact congrArg (fun z => Result.ok (Next.enter _ z) _) (by simp only [List.map_toArray, List.map_cons, List.map_nil, ea19, ea20]; try rfl)) (PutCe_Q _ _ _ _ _ _ _ (HW2.out.mod Cx6.out (fun _ _ h => h)) (by intro k h1; rcases h1 with h1 | h1 <;> first | omega | (have hb := HBR.out k h1; omega)) (HRD.out.mod Cx6.out (fun _ _ h => h)) (by intro k h1; have hb := HBT.out k h1; omega) (by intro k h1 h2; rcases h1 with h1 | h1 <;> first | omega | (have hb := HBR.out k h1; omega) | (have hb := HBT.out k h2; omega) | exact HDJ.out k h1 h2 | exact HDJ.out k h2 h1 | (have hb := HBR.out k h1; have hb2 := HBT.out k h2; omega)) HLk.out) ?_
      rintro e u4_3 ⟨rfl, qwr, hm⟩
      refine ⟨_, rfl, ?_⟩
      have Hx7 := hid (qwr.widen (R' := (fun k => (R k) ∨ (New w wo k) ∨ (New u3_3 u4_3 k))) (by intro k h1; simp only [or_assoc] at h1 ⊢; exact h1) (Nat.le_refl _))
      have zu4_3 := hm.size
      have Cx8 := hid (show Mod (fun k => (R k) ∨ (New w wo k)) u3_3 u4_3 from hm)
      clear hm
      clear act E qwr HW2 ea19 ea20
      refine QSeq.nil (t' := [_, _, _, _]) rfl ?_
      obtain rfl := HA0.out
      clear HA0 oe0 oe2 oe7
      simp only [pz, Act.put, List.setIfInBounds_toArray, List.set_cons_zero, List.set_cons_succ]
      have hq := Hx7.out
      rw [HE.out] at hq
      have HQ := Lib.hid hq
      clear hq
      go_wp2
      go_roundw
      case rel => exact ⟨k + 1, by go_num, by omega, by omega, (HQ.out.widen (by intro b h1; rcases h1 with h1 | h1 | h1 <;> first | exact Or.inl h1 | (right; omega)) (Nat.le_refl _)), ((HS2.out.mod Cx6.out (fun _ _ h => h)).mod Cx8.out (by intro k h1 h2; rcases h2 with h2 | h2 <;> first | omega | (have hb := HBT.out k h1; omega) | (have hb := HBR.out k h2; omega) | exact HDJ.out k h1 h2 | exact HDJ.out k h2 h1 | (have hb := HBT.out k h1; have hb2 := HBR.out k h2; omega))), ((HM2.out.trans Cx6.out (fun _ _ h => h.elim)).trans Cx8.out (by intro k h1 h2; rcases h2 with h2 | h2 <;> first | exact h2 | omega | (have hb := HBR.out k h2; omega)))⟩
      case measure => simp [intOf]; omega
    · have hkk : k = l.length := by omega
      subst hkk
      go_wp2
      go_end0
      have hq := HW2.out
      rw [List.take_length] at hq
      exact ⟨rfl, hq, HM2.out⟩
set_option maxHeartbeats 4000000 in
theorem PutPm_Q : Puts PmR 86 pmB := by
  intro R R2 g bs cs x w hW hB hx hB2 hD hl
  obtain ⟨v_l, rfl, hok, hs0⟩ := hx
  have HS0 := Lib.hid hs0
  clear hs0
  have HW := Lib.hid hW
  have HBR := Lib.hid hB
  have HBT := Lib.hid hB2
  have HDJ := Lib.hid hD
  have HOK := Lib.hid hok
  have HL := Lib.hid hl
  clear hW hB hB2 hD hl hok
  unfold pmB at HL
  go_enter Try.func86, Try.ntmps86
  go_upto_region 1 with (fail)
  obtain ⟨w1, hw1⟩ : ∃ zz, zz = (w.alloc (.cells (x.cells v_l : List Value).toArray 89)) := ⟨_, rfl⟩
  change Code.wp _ _ _ _ (w.alloc (.cells (x.cells v_l : List Value).toArray 89))
  rw [← hw1]
  have HB3 := hid (show Cs w1 (w.heap.size) (x.cells v_l : List Value).toArray 89 by rw [hw1]; exact Cs.new _ _ _)
  have hm : Mod (fun _ => False) w w1 := by rw [hw1]; exact (Mod.refl _ _).alloc _
  have HM0 := hid (show Mod (fun k => (R k)) w w1 from hm.mono (fun _ _ h => h.elim))
  have hs1 : w1.heap.size = w.heap.size + 1 := by rw [hw1]; simp
  have Hx1 := hid (HW.out.mod hm (fun _ _ h => h))
  clear HW
  have Hx2 := hid (HS0.out.mod hm (fun _ _ h => h))
  clear HS0
  clear hw1 hm
  go_upto_region 1 with (fail)
  generalize ha0 : Act.mk _ _ = a0
  have oe0 : a0.eval (.tmp 0) = .pointer (some ⟨g, 0, none⟩) := by rw [← ha0]; rfl
  have oe3 : a0.eval (.tmp 3) = .pointer (some ⟨w.heap.size, 0, none⟩) := by rw [← ha0]; rfl
  have hsz0 : a0.tmps.size = 22 := by rw [← ha0]; rfl
  have HA0 := hid ha0
  clear ha0
  refine wp_region_Q1 22 hsz0 [4, 5, 6, 7, 8, 9, 10, 11, 12, 13] (fun k => (R k)) (fun k j => (k = 0 ∧ ((R j))) ∨ (k = 1 ∧ ((R j))) ∨ (k = 2 ∧ ((R j)))) (by intro k j h; (try dsimp only at h ⊢); rcases h with ⟨-, h⟩ | ⟨-, h⟩ | ⟨-, h⟩; (exact h); (exact h); (exact h)) [qi (.pointer (some ⟨g, 0, none⟩)), qi (.pointer (some ⟨w.heap.size, 0, none⟩)), qi (.int .i64 x.rp), qi (.pointer (some ⟨g, 0, none⟩)), qi (.pointer (some ⟨w.heap.size, 1, none⟩)), qi (.int .i64 x.ep), qi (.pointer (some ⟨g, 0, none⟩)), qi (.pointer (some ⟨w.heap.size, 2, none⟩)), qi (.int .u64 (x.fl : Nat)), qi (.pointer (some ⟨g, 0, none⟩))] ⟨qi_stable, qi_stable, qi_stable, qi_stable, qi_stable, qi_stable, qi_stable, qi_stable, qi_stable, qi_stable, trivial⟩ [3, 6, 9] ⟨?_, ?_, ?_, ?_, ?_, ?_, ?_, ?_, ?_, ?_, trivial⟩ ?_
  · exact stq (fun E => ex_move rfl (E.v oe0))
  · exact stq (fun E => ex_field rfl Try.underlying89 rfl (by kernel_rfl) (E.v oe3))
  · exact stq (fun E => ex_load1 rfl Try.underlying3 rfl (E.d 1) (Cs.lit1 (HB3.out.mod E.m (by intro h2; rcases h2 with ⟨h0, h2⟩ | h2 <;> first | omega | (have hb := HBR.out _ h2; omega))) rfl))
  · exact stepq_chain rfl
  · exact stq (fun E => ex_field rfl Try.underlying89 rfl (by kernel_rfl) (E.v oe3))
  · exact stq (fun E => ex_load1 rfl Try.underlying3 rfl (E.d 4) (Cs.lit1 (HB3.out.mod E.m (by intro h2; rcases h2 with ⟨h0, h2⟩ | h2 <;> first | omega | (have hb := HBR.out _ h2; omega))) rfl))
  · exact stepq_chain rfl
  · exact stq (fun E => ex_field rfl Try.underlying89 rfl (by kernel_rfl) (E.v oe3))
  · exact stq (fun E => ex_load1 rfl Try.underlying45 rfl (E.d 7) (Cs.lit1 (HB3.out.mod E.m (by intro h2; rcases h2 with ⟨h0, h2⟩ | h2 <;> first | omega | (have hb := HBR.out _ h2; omega))) rfl))
  · exact stepq_chain rfl
  intro u1_0 hr
  have zu1_0 := hr.size
  have Cx3 := hid (hr.new (S := (fun k => (R k))))
  have Hx4 := hid (Hx1.out.mod hr (by intro k h1 h2; have hb := HBR.out k h1; omega))
  clear Hx1
  clear hr
  refine QChain.go fun Z act E => ?_
  refine qc_callF (args := #[.pointer (some ⟨g, 0, none⟩), .int .i64 x.rp]) rfl (wanted_none rfl) rfl Try.func52 (args2 (E.d 0) (E.d 2)) (WInt_Q Hx4.out HOK.out.1 (by have := HL.out; simp only [List.length_append] at this ⊢; omega)) ?_
  rintro e u1_1a ⟨rfl, qwr, hm⟩
  have zu1_1a := hm.size
  refine ⟨_, rfl, hm.mono (by intro k hk h; first | omega | exact Or.inl ⟨(by have hb := HBR.out k h; omega), Or.inl ⟨rfl, h⟩⟩), (fun _ => rfl), ?_⟩
  intro u1_1 hr
  have zu1_1 := hr.size
  have Hx5 := hid ((qwr.widen (R' := (fun k => (R k) ∨ (New u1_0 u1_1a k))) (fun _ h => h) (Nat.le_refl _)).mod hr (by intro k h1 h2; rcases h1 with h1 | h1 <;> first | omega | (have hb := HBR.out k h1; omega)))
  have Cx6 := hid (Cx3.out.goM hm hr (fun _ _ h => h))
  clear Cx3 hm hr Z act E qwr Hx4
  refine QChain.go fun Z act E => ?_
  refine qc_callF (args := #[.pointer (some ⟨g, 0, none⟩), .int .i64 x.ep]) rfl (wanted_none rfl) rfl Try.func52 (args2 (E.d 3) (E.d 5)) (WInt_Q Hx5.out HOK.out.2.1 (by have := HL.out; simp only [List.length_append] at this ⊢; omega)) ?_
  rintro e u1_2a ⟨rfl, qwr, hm⟩
  have zu1_2a := hm.size
  refine ⟨_, rfl, hm.mono (by intro k hk h; rcases h with h | h <;> first | omega | exact Or.inl ⟨(by have hb := HBR.out k h; omega), Or.inr (Or.inl ⟨rfl, h⟩)⟩), (fun _ => rfl), ?_⟩
  intro u1_2 hr
  have zu1_2 := hr.size
  have Hx7 := hid ((qwr.widen (R' := (fun k => (R k) ∨ (New u1_0 u1_1a k) ∨ (New u1_1 u1_2a k))) (by intro k h1; simp only [or_assoc] at h1 ⊢; exact h1) (Nat.le_refl _)).mod hr (by intro k h1 h2; rcases h1 with h1 | h1 | h1 <;> first | omega | (have hb := HBR.out k h1; omega)))
  have Cx8 := hid (Cx6.out.goM hm hr (by intro k h0 h2; rcases h2 with h2 | h2 <;> first | omega | exact h2))
  clear Cx6 hm hr Z act E qwr Hx5
  refine QChain.go fun Z act E => ?_
  refine qc_callF (args := #[.pointer (some ⟨g, 0, none⟩), .int .u64 (x.fl : Nat)]) rfl (wanted_none rfl) rfl Try.func75 (args2 (E.d 6) (E.d 8)) (WNum_Q Hx7.out HOK.out.2.2.1 (by have := HL.out; simp only [List.length_append] at this ⊢; omega)) ?_
  rintro e u1_3a ⟨rfl, qwr, hm⟩
  have zu1_3a := hm.size
  refine ⟨_, rfl, hm.mono (by intro k hk h; rcases h with h | h | h <;> first | omega | exact Or.inl ⟨(by have hb := HBR.out k h; omega), Or.inr (Or.inr (⟨rfl, h⟩))⟩), (fun _ => rfl), ?_⟩
  intro u1_3 hr
  have zu1_3 := hr.size
  have Hx9 := hid ((qwr.widen (R' := (fun k => (R k) ∨ (New u1_0 u1_1a k) ∨ (New u1_1 u1_2a k) ∨ (New u1_2 u1_3a k))) (by intro k h1; simp only [or_assoc] at h1 ⊢; exact h1) (Nat.le_refl _)).mod hr (by intro k h1 h2; rcases h1 with h1 | h1 | h1 | h1 <;> first | omega | (have hb := HBR.out k h1; omega)))
  have Cx10 := hid (Cx8.out.goM hm hr (by intro k h0 h2; rcases h2 with h2 | h2 | h2 <;> first | omega | exact h2))
  clear Cx8 hm hr Z act E qwr Hx7
  refine QChain.nil fun vs hl hzz hrows hne => ?_
  obtain ⟨Z, hYZ, hZb, hV⟩ := hzz
  have f0 := fvi hV hl 0
  have f3 := fvi hV hl 3
  have f6 := fvi hV hl 6
  have f9 := fvi hV hl 9
  rw [show vs = [gw vs 0, gw vs 1, gw vs 2, gw vs 3, gw vs 4, gw vs 5, gw vs 6, gw vs 7, gw vs 8, gw vs 9] from (gw_eta hl).trans rfl]
  have ha0 := HA0.out
  subst ha0
  clear HA0 hV hYZ hZb hsz0 hrows hne oe0 oe3
  simp only [putAll, Act.put, List.setIfInBounds_toArray, List.set_cons_zero, List.set_cons_succ, f0, f3, f6, f9]
  clear hl f0 f3 f6 f9
  go_upto_region 2 with (fail)
  refine wp_region_U 22 [14, 15, 16, 17] [0, 1, 2, 3] (fun a0 HA0 => ?_)
  have oe0 := ev HA0 0 rfl
  have oe3 := ev HA0 3 rfl
  refine QSeq.pure rfl _ (fun E => ex_move rfl (E.v oe0)) ?_
  refine QSeq.pure rfl (.pointer (some ⟨w.heap.size, 3, none⟩)) (fun E => ex_field rfl Try.underlying89 rfl (by kernel_rfl) (E.v oe3)) ?_
  refine QSeq.pure rfl _ (fun E => ex_load1 rfl Try.underlying87 rfl (E.d 1 0) (Cs.lit1 (HB3.out.mod Cx10.out (by intro h2; first | omega | (have hb := HBR.out _ h2; omega))) rfl)) ?_
  refine QSeq.call rfl rfl Try.func124 (PutList_Ce _ _ _ _ _ _ _ Hx9.out (by intro k h1; rcases h1 with h1 | h1 | h1 | h1 <;> first | omega | (have hb := HBR.out k h1; omega)) (Hx2.out.mod Cx10.out (by intro k h1 h2; first | omega | (have hb := HBT.out k h1; omega) | (have hb := HBR.out k h2; omega) | exact HDJ.out k h1 h2 | exact HDJ.out k h2 h1 | (have hb := HBT.out k h1; have hb2 := HBR.out k h2; omega))) (by intro k h1; have hb := HBT.out k h1; omega) (by intro k h1 h2; rcases h1 with h1 | h1 | h1 | h1 <;> first | omega | (have hb := HBR.out k h1; omega) | (have hb := HBT.out k h2; omega) | exact HDJ.out k h1 h2 | exact HDJ.out k h2 h1 | (have hb := HBR.out k h1; have hb2 := HBT.out k h2; omega)) (by have := HL.out; simp only [List.length_append] at this ⊢; omega)) (fun E => args3 (E.d 0 2) (E.d 2 0) rfl) ?_
  rintro e u2_3 ⟨rfl, qwr, hm⟩
  refine ⟨_, rfl, ?_⟩
  have Hx11 := hid (qwr.widen (R' := (fun k => (R k) ∨ (New u1_0 u1_1a k) ∨ (New u1_1 u1_2a k) ∨ (New u1_2 u1_3a k) ∨ (New u1_3 u2_3 k))) (by intro k h1; simp only [or_assoc] at h1 ⊢; exact h1) (Nat.le_refl _))
  have zu2_3 := hm.size
  have Cx12 := hid (show Mod (fun k => (R k) ∨ (New u1_0 u1_1a k) ∨ (New u1_1 u1_2a k) ∨ (New u1_2 u1_3a k)) u1_3 u2_3 from hm)
  clear hm
  clear qwr Hx9
  refine QSeq.nil (t' := [_, _, _, _]) rfl ?_
  obtain rfl := HA0.out
  clear HA0 oe0 oe3
  simp only [pz, Act.put, List.setIfInBounds_toArray, List.set_cons_zero, List.set_cons_succ]
  go_upto_region 3 with (fail)
  refine wp_region_U 22 [18, 19, 20, 21] [0, 1, 2, 3] (fun a0 HA0 => ?_)
  have oe0 := ev HA0 0 rfl
  have oe3 := ev HA0 3 rfl
  refine QSeq.pure rfl _ (fun E => ex_move rfl (E.v oe0)) ?_
  refine QSeq.pure rfl (.pointer (some ⟨w.heap.size, 4, none⟩)) (fun E => ex_field rfl Try.underlying89 rfl (by kernel_rfl) (E.v oe3)) ?_
  refine QSeq.pure rfl _ (fun E => ex_loadA rfl Try.underlying34 rfl (off := 4) (cs := [.int .i64 x.sb, .int .i64 x.mr]) (by kernel_rfl) (E.d 1 0) (Cs.litA ((HB3.out.mod Cx10.out (by intro h2; first | omega | (have hb := HBR.out _ h2; omega))).mod Cx12.out (by intro h2; rcases h2 with h2 | h2 | h2 | h2 <;> first | omega | (have hb := HBR.out _ h2; omega))) rfl)) ?_
  refine QSeq.call rfl rfl Try.func122 (PutSig_Q Hx11.out (by intro k h1; rcases h1 with h1 | h1 | h1 | h1 | h1 <;> first | omega | (have hb := HBR.out k h1; omega)) HOK.out.2.2.2.1 HOK.out.2.2.2.2 (by have := HL.out; simp only [List.length_append] at this ⊢; omega)) (fun E => args2 (E.d 0 2) (E.d 2 0)) ?_
  rintro e u3_3 ⟨rfl, qwr, hm⟩
  refine ⟨_, rfl, ?_⟩
  have Hx13 := hid (qwr.widen (R' := (fun k => (R k) ∨ (New u1_0 u1_1a k) ∨ (New u1_1 u1_2a k) ∨ (New u1_2 u1_3a k) ∨ (New u1_3 u2_3 k) ∨ (New u2_3 u3_3 k))) (by intro k h1; simp only [or_assoc] at h1 ⊢; exact h1) (Nat.le_refl _))
  have zu3_3 := hm.size
  have Cx14 := hid (show Mod (fun k => (R k) ∨ (New u1_0 u1_1a k) ∨ (New u1_1 u1_2a k) ∨ (New u1_2 u1_3a k) ∨ (New u1_3 u2_3 k)) u2_3 u3_3 from hm)
  clear hm
  clear qwr Hx11
  refine QSeq.nil (t' := [_, _, _, _]) rfl ?_
  obtain rfl := HA0.out
  clear HA0 oe0 oe3
  simp only [pz, Act.put, List.setIfInBounds_toArray, List.set_cons_zero, List.set_cons_succ]
  go_wp2
  go_end0
  have hq := (Hx13.out.widen (R' := (fun k => R k ∨ New w u3_3 k)) (by intro k h1; rcases h1 with h1 | h1 | h1 | h1 | h1 | h1 <;> first | exact Or.inl h1 | (right; omega)) (Nat.le_refl _))
  simp only [List.append_assoc] at hq
  exact ⟨rfl, by simpa only [pmB, List.append_assoc] using hq, (((HM0.out.trans Cx10.out (fun _ _ h => h)).trans Cx12.out (by intro k h1 h2; rcases h2 with h2 | h2 | h2 | h2 <;> first | exact h2 | omega | (have hb := HBR.out k h2; omega))).trans Cx14.out (by intro k h1 h2; rcases h2 with h2 | h2 | h2 | h2 | h2 <;> first | exact h2 | omega | (have hb := HBR.out k h2; omega)))⟩
set_option maxHeartbeats 4000000 in
theorem PutList_Pm : PutsL PmR 125 86 pmB := by
  intro R R2 g bs v l w hW hB hs hB2 hD hl
  obtain ⟨ao, cap, rfl⟩ := hs.shape
  have hb64 : l.length ≤ maxLen := hs.bd
  rw [maxLen_val] at hb64
  have HI64 := hid (show I64 (l.length : Int) by unfold I64; omega)
  have HW := Lib.hid hW
  have HS := Lib.hid hs
  have HBR := Lib.hid hB
  have HBT := Lib.hid hB2
  have HDJ := Lib.hid hD
  have HL := Lib.hid hl
  clear hW hB hs hB2 hD hl
  unfold listB at HL
  go_enter Try.func125, Try.ntmps125
  go_upto_region 0 with (fail)
  have HM0 := hid (Mod.refl (fun k => (R k)) w)
  go_upto_region 0 with (fail)
  refine wp_region_U 23 [8, 9, 10, 11] [0, 1, 2, 3] (fun a0 HA0 => ?_)
  have oe0 := ev HA0 0 rfl
  have oe1 := ev HA0 1 rfl
  refine QSeq.pure rfl _ (fun E => ex_move rfl (E.v oe0)) ?_
  refine QSeq.pure rfl _ (fun E => ex_move rfl (E.v oe1)) ?_
  refine QSeq.pure rfl (.int .i64 l.length) (fun E => ex_lenS rfl (E.d 1 0) Try.underlying90) ?_
  refine QSeq.call rfl rfl Try.func52 (WInt_Q HW.out HI64.out (by have := HL.out; simp only [List.length_append] at this ⊢; omega)) (fun E => args2 (E.d 0 2) (E.d 2 0)) ?_
  rintro e u0_3 ⟨rfl, qwr, hm⟩
  refine ⟨_, rfl, ?_⟩
  have Hx1 := hid (qwr.widen (R' := (fun k => (R k) ∨ (New w u0_3 k))) (fun _ h => h) (Nat.le_refl _))
  have zu0_3 := hm.size
  have Cx2 := hid (show Mod (fun k => (R k)) w u0_3 from hm)
  clear hm
  clear qwr HW
  refine QSeq.nil (t' := [_, _, _, _]) rfl ?_
  obtain rfl := HA0.out
  clear HA0 oe0 oe1
  simp only [pz, Act.put, List.setIfInBounds_toArray, List.set_cons_zero, List.set_cons_succ]
  go_wp2
  go_loopw [14] (fun t wr => ∃ k : Nat, t = .int .i64 (k : Int) ∧ k ≤ l.length ∧ u0_3.heap.size ≤ wr.heap.size ∧ WrR (fun b => R b ∨ (w.heap.size ≤ b ∧ b < wr.heap.size)) 900000 wr g (bs ++ (encI l.length ++ ((l.take k).map pmB).flatten)) ∧ RdS PmR R2 wr (.slice ao l.length cap) l ∧ Mod R w wr) (fun t _ => l.length - (intOf t).toNat)
  case atStart => exact ⟨0, rfl, Nat.zero_le _, Nat.le_refl _, by have hq := (Hx1.out.widen (R' := (fun k => R k ∨ (w.heap.size ≤ k ∧ k < u0_3.heap.size))) (by intro k h1; rcases h1 with h1 | h1 <;> first | exact Or.inl h1 | (right; omega)) (Nat.le_refl _)); simpa only [List.take_zero, List.map_nil, List.flatten_nil, List.append_nil] using hq, (HS.out.mod Cx2.out (by intro k h1 h2; first | omega | (have hb := HBT.out k h1; omega) | (have hb := HBR.out k h2; omega) | exact HDJ.out k h1 h2 | exact HDJ.out k h2 h1 | (have hb := HBT.out k h1; have hb2 := HBR.out k h2; omega))), (HM0.out.trans Cx2.out (fun _ _ h => h))⟩
  case round =>
    obtain ⟨k, rfl, hk, hz, hw, hs, hm⟩ := hrel
    have HW2 := Lib.hid hw
    have HS2 := Lib.hid hs
    have HM2 := Lib.hid hm
    clear hw hs hm Hx1 HS HM0
    obtain ⟨wo, rfl⟩ : ∃ x, x = wr := ⟨_, rfl⟩
    by_cases hlt : k < l.length
    · skip
      obtain ⟨g0, o0, cs, rfl, hrg, hrd, hcs⟩ := HS2.out.at hlt
      have hcl : cs.length = 6 := PmR.len hrd
      have HCL := Lib.hid hcl
      have HAT := hid (show CellsAt R2 wo g0 (o0 + k * 6) cs from ⟨hrg, hcs⟩)
      have HRD := Lib.hid hrd
      have HOC := hid (PmR.one hrd)
      clear hcl hcs hrd hrg
      have HE : Hid (bs ++ (encI l.length ++ ((l.take k).map pmB).flatten) ++ pmB l[k] = bs ++ (encI l.length ++ ((l.take (k + 1)).map pmB).flatten)) := hid (by rw [List.take_succ_eq_append_getElem hlt, List.map_append, List.flatten_append]; simp [List.append_assoc])
      have HLk := hid (show (bs ++ (encI l.length ++ ((l.take k).map pmB).flatten) ++ pmB l[k]).length ≤ 900000 by rw [HE.out]; exact Nat.le_trans (put_len _ _ _ _ _) HL.out)
      go_upto_region 3 with (fail)
      refine wp_region_U 23 [16, 17, 7, 26] [0, 1, 2, 3] (fun a0 HA0 => ?_)
      have oe12 := ev HA0 12 rfl
      have oe14 := ev HA0 14 rfl
      refine QSeq.pure rfl (.pointer (some ⟨g0, o0 + k * 6, none⟩)) (fun E => ex_idxS (i := k) (s := 6) rfl Try.underlying90 (by kernel_rfl) (E.v oe12) (E.v oe14) (by omega)) ?_
      refine QSeq.pure rfl _ (fun E => ex_loadA rfl Try.underlying89 rfl (off := o0 + k * 6) (cs := cs) (by rw [HCL.out]; kernel_rfl) (E.d 0 0) (fun j u hu => (HAT.out).2 j u hu)) ?_
      refine QSeq.go fun act E => ?_
      refine qc_alloc rfl (wanted_none rfl) rfl (z := [.int .i64 0, .int .i64 0, .int .u64 0, .slice none 0 0, .int .i64 0, .int .i64 0]) (by kernel_rfl) ?_
      intro u3_2 qq hm
      have zl3_2 := qq.lt
      have Hx3 := hid qq
      have zu3_2 := hm.size
      have Cx4 := hid (show Mod (fun _ => False) wo u3_2 from hm)
      clear hm
      clear act E qq
      refine QSeq.go fun act E => ?_
      have hlz : (cs).length = List.length ([.int .i64 0, .int .i64 0, .int .u64 0, .slice none 0 0, .int .i64 0, .int .i64 0] : List Value) := (by rw [HCL.out]; rfl)
      refine qc_store rfl (wanted_none rfl) rfl Hx3.out (off := 0) (vs := cs) (by rw [hlz]; kernel_rfl) HOC.out (by rw [hlz]; exact Nat.le_of_eq (Nat.zero_add _)) (E.d 2 0) (ec (E.d 1 1)) ?_
      intro u3_3 qc0 hm
      have qq := qc0.eqv (b := (cs : List Value).toArray) (lay_whole #[.int .i64 0, .int .i64 0, .int .u64 0, .slice none 0 0, .int .i64 0, .int .i64 0] _ (by rw [hlz]; rfl))
      clear qc0 hlz
      have Hx5 := hid qq
      have zu3_3 := hm.size
      have HMu3_3 := hid hm
      have Cx6 := hid (Mod.goS (S' := (fun _ => False)) Cx4.out hm (fun _ h => h) (by intro k h0 h2; omega))
      clear hm Cx4
      clear act E qq Hx3
      clear HMu3_3
      refine QSeq.nil (t' := [_, _, _, _]) rfl ?_
      obtain rfl := HA0.out
      clear HA0 oe12 oe14
      simp only [pz, Act.put, List.setIfInBounds_toArray, List.set_cons_zero, List.set_cons_succ, List.set_nil]
      go_upto_region 4 with (fail)
      refine wp_region_U 23 [18, 19, 20, 21] [0, 1, 2, 3] (fun a0 HA0 => ?_)
      have oe0 := ev HA0 0 rfl
      have oe2 := ev HA0 2 rfl
      have oe7 := ev HA0 7 rfl
      refine QSeq.pure rfl _ (fun E => ex_move rfl (E.v oe2)) ?_
      refine QSeq.pure rfl _ (fun E => ex_move rfl (E.v oe0)) ?_
      refine QSeq.pure rfl _ (fun E => ex_loadA rfl Try.underlying89 rfl (off := 0) (cs := cs) (by rw [HCL.out]; kernel_rfl) (E.v oe7) (Cs.whole Hx5.out)) ?_
      refine QSeq.go fun act E => ?_
      have ea19 : act.eval (.tmp 19) = .pointer (some ⟨g, 0, none⟩) := (E.d 1 1)
      have ea20 : act.eval (.tmp 20) = .agg cs.toArray := (E.d 2 0)
      refine qc_call (args := #[.pointer (some ⟨g, 0, none⟩), .agg cs.toArray]) rfl (wanted_none rfl) (by rw [ex_callV rfl (E.d 0 2) Try.func86 (by kernel_rfl) (by kernel_rfl)]; exact congrArg (fun z => Result.ok (Next.enter _ z) _) (by simp only [List.map_toArray, List.map_cons, List.map_nil, ea19, ea20]; try rfl)) (PutPm_Q _ _ _ _ _ _ _ (HW2.out.mod Cx6.out (fun _ _ h => h)) (by intro k h1; rcases h1 with h1 | h1 <;> first | omega | (have hb := HBR.out k h1; omega)) (HRD.out.mod Cx6.out (fun _ _ h => h)) (by intro k h1; have hb := HBT.out k h1; omega) (by intro k h1 h2; rcases h1 with h1 | h1 <;> first | omega | (have hb := HBR.out k h1; omega) | (have hb := HBT.out k h2; omega) | exact HDJ.out k h1 h2 | exact HDJ.out k h2 h1 | (have hb := HBR.out k h1; have hb2 := HBT.out k h2; omega)) HLk.out) ?_
      rintro e u4_3 ⟨rfl, qwr, hm⟩
      refine ⟨_, rfl, ?_⟩
      have Hx7 := hid (qwr.widen (R' := (fun k => (R k) ∨ (New w wo k) ∨ (New u3_3 u4_3 k))) (by intro k h1; simp only [or_assoc] at h1 ⊢; exact h1) (Nat.le_refl _))
      have zu4_3 := hm.size
      have Cx8 := hid (show Mod (fun k => (R k) ∨ (New w wo k)) u3_3 u4_3 from hm)
      clear hm
      clear act E qwr HW2 ea19 ea20
      refine QSeq.nil (t' := [_, _, _, _]) rfl ?_
      obtain rfl := HA0.out
      clear HA0 oe0 oe2 oe7
      simp only [pz, Act.put, List.setIfInBounds_toArray, List.set_cons_zero, List.set_cons_succ]
      have hq := Hx7.out
      rw [HE.out] at hq
      have HQ := Lib.hid hq
      clear hq
      go_wp2
      go_roundw
      case rel => exact ⟨k + 1, by go_num, by omega, by omega, (HQ.out.widen (by intro b h1; rcases h1 with h1 | h1 | h1 <;> first | exact Or.inl h1 | (right; omega)) (Nat.le_refl _)), ((HS2.out.mod Cx6.out (fun _ _ h => h)).mod Cx8.out (by intro k h1 h2; rcases h2 with h2 | h2 <;> first | omega | (have hb := HBT.out k h1; omega) | (have hb := HBR.out k h2; omega) | exact HDJ.out k h1 h2 | exact HDJ.out k h2 h1 | (have hb := HBT.out k h1; have hb2 := HBR.out k h2; omega))), ((HM2.out.trans Cx6.out (fun _ _ h => h.elim)).trans Cx8.out (by intro k h1 h2; rcases h2 with h2 | h2 <;> first | exact h2 | omega | (have hb := HBR.out k h2; omega)))⟩
      case measure => simp [intOf]; omega
    · have hkk : k = l.length := by omega
      subst hkk
      go_wp2
      go_end0
      have hq := HW2.out
      rw [List.take_length] at hq
      exact ⟨rfl, hq, HM2.out⟩
set_option maxHeartbeats 4000000 in
theorem PutBa_Q : Puts BaR 92 baB := by
  intro R R2 g bs cs x w hW hB hx hB2 hD hl
  obtain ⟨v_ps, v_os, v_ts, rfl, hok, hs0, hs1, hs2⟩ := hx
  have HS0 := Lib.hid hs0
  clear hs0
  have HS1 := Lib.hid hs1
  clear hs1
  have HS2 := Lib.hid hs2
  clear hs2
  have HW := Lib.hid hW
  have HBR := Lib.hid hB
  have HBT := Lib.hid hB2
  have HDJ := Lib.hid hD
  have HOK := Lib.hid hok
  have HL := Lib.hid hl
  clear hW hB hB2 hD hl hok
  unfold baB at HL
  go_enter Try.func92, Try.ntmps92
  go_upto_region 1 with (fail)
  obtain ⟨w1, hw1⟩ : ∃ zz, zz = (w.alloc (.cells (x.cells v_ps v_os v_ts : List Value).toArray 94)) := ⟨_, rfl⟩
  change Code.wp _ _ _ _ (w.alloc (.cells (x.cells v_ps v_os v_ts : List Value).toArray 94))
  rw [← hw1]
  have HB3 := hid (show Cs w1 (w.heap.size) (x.cells v_ps v_os v_ts : List Value).toArray 94 by rw [hw1]; exact Cs.new _ _ _)
  have hm : Mod (fun _ => False) w w1 := by rw [hw1]; exact (Mod.refl _ _).alloc _
  have HM0 := hid (show Mod (fun k => (R k)) w w1 from hm.mono (fun _ _ h => h.elim))
  have hs1 : w1.heap.size = w.heap.size + 1 := by rw [hw1]; simp
  have Hx1 := hid (HW.out.mod hm (fun _ _ h => h))
  clear HW
  have Hx2 := hid (HS0.out.mod hm (fun _ _ h => h))
  clear HS0
  have Hx3 := hid (HS1.out.mod hm (fun _ _ h => h))
  clear HS1
  have Hx4 := hid (HS2.out.mod hm (fun _ _ h => h))
  clear HS2
  clear hw1 hm
  go_upto_region 1 with (fail)
  generalize ha0 : Act.mk _ _ = a0
  have oe0 : a0.eval (.tmp 0) = .pointer (some ⟨g, 0, none⟩) := by rw [← ha0]; rfl
  have oe3 : a0.eval (.tmp 3) = .pointer (some ⟨w.heap.size, 0, none⟩) := by rw [← ha0]; rfl
  have hsz0 : a0.tmps.size = 23 := by rw [← ha0]; rfl
  have HA0 := hid ha0
  clear ha0
  refine wp_region_Q1 23 hsz0 [4, 5, 6, 7, 8, 9, 10] (fun k => (R k)) (fun k j => (k = 0 ∧ ((R j))) ∨ (k = 1 ∧ ((R j)))) (by intro k j h; (try dsimp only at h ⊢); rcases h with ⟨-, h⟩ | ⟨-, h⟩; (exact h); (exact h)) [qi (.pointer (some ⟨g, 0, none⟩)), qi (.pointer (some ⟨w.heap.size, 0, none⟩)), qi (.int .i64 x.ep), qi (.pointer (some ⟨g, 0, none⟩)), qi (.pointer (some ⟨w.heap.size, 1, none⟩)), qi (.int .u64 (x.tm : Nat)), qi (.pointer (some ⟨g, 0, none⟩))] ⟨qi_stable, qi_stable, qi_stable, qi_stable, qi_stable, qi_stable, qi_stable, trivial⟩ [3, 6] ⟨?_, ?_, ?_, ?_, ?_, ?_, ?_, trivial⟩ ?_
  · exact stq (fun E => ex_move rfl (E.v oe0))
  · exact stq (fun E => ex_field rfl Try.underlying94 rfl (by kernel_rfl) (E.v oe3))
  · exact stq (fun E => ex_load1 rfl Try.underlying3 rfl (E.d 1) (Cs.lit1 (HB3.out.mod E.m (by intro h2; rcases h2 with ⟨h0, h2⟩ | h2 <;> first | omega | (have hb := HBR.out _ h2; omega))) rfl))
  · exact stepq_chain rfl
  · exact stq (fun E => ex_field rfl Try.underlying94 rfl (by kernel_rfl) (E.v oe3))
  · exact stq (fun E => ex_load1 rfl Try.underlying45 rfl (E.d 4) (Cs.lit1 (HB3.out.mod E.m (by intro h2; rcases h2 with ⟨h0, h2⟩ | h2 <;> first | omega | (have hb := HBR.out _ h2; omega))) rfl))
  · exact stepq_chain rfl
  intro u1_0 hr
  have zu1_0 := hr.size
  have Cx5 := hid (hr.new (S := (fun k => (R k))))
  have Hx6 := hid (Hx1.out.mod hr (by intro k h1 h2; have hb := HBR.out k h1; omega))
  clear Hx1
  clear hr
  refine QChain.go fun Z act E => ?_
  refine qc_callF (args := #[.pointer (some ⟨g, 0, none⟩), .int .i64 x.ep]) rfl (wanted_none rfl) rfl Try.func52 (args2 (E.d 0) (E.d 2)) (WInt_Q Hx6.out HOK.out.1 (by have := HL.out; simp only [List.length_append] at this ⊢; omega)) ?_
  rintro e u1_1a ⟨rfl, qwr, hm⟩
  have zu1_1a := hm.size
  refine ⟨_, rfl, hm.mono (by intro k hk h; first | omega | exact Or.inl ⟨(by have hb := HBR.out k h; omega), Or.inl ⟨rfl, h⟩⟩), (fun _ => rfl), ?_⟩
  intro u1_1 hr
  have zu1_1 := hr.size
  have Hx7 := hid ((qwr.widen (R' := (fun k => (R k) ∨ (New u1_0 u1_1a k))) (fun _ h => h) (Nat.le_refl _)).mod hr (by intro k h1 h2; rcases h1 with h1 | h1 <;> first | omega | (have hb := HBR.out k h1; omega)))
  have Cx8 := hid (Cx5.out.goM hm hr (fun _ _ h => h))
  clear Cx5 hm hr Z act E qwr Hx6
  refine QChain.go fun Z act E => ?_
  refine qc_callF (args := #[.pointer (some ⟨g, 0, none⟩), .int .u64 (x.tm : Nat)]) rfl (wanted_none rfl) rfl Try.func75 (args2 (E.d 3) (E.d 5)) (WNum_Q Hx7.out HOK.out.2 (by have := HL.out; simp only [List.length_append] at this ⊢; omega)) ?_
  rintro e u1_2a ⟨rfl, qwr, hm⟩
  have zu1_2a := hm.size
  refine ⟨_, rfl, hm.mono (by intro k hk h; rcases h with h | h <;> first | omega | exact Or.inl ⟨(by have hb := HBR.out k h; omega), Or.inr (⟨rfl, h⟩)⟩), (fun _ => rfl), ?_⟩
  intro u1_2 hr
  have zu1_2 := hr.size
  have Hx9 := hid ((qwr.widen (R' := (fun k => (R k) ∨ (New u1_0 u1_1a k) ∨ (New u1_1 u1_2a k))) (by intro k h1; simp only [or_assoc] at h1 ⊢; exact h1) (Nat.le_refl _)).mod hr (by intro k h1 h2; rcases h1 with h1 | h1 | h1 <;> first | omega | (have hb := HBR.out k h1; omega)))
  have Cx10 := hid (Cx8.out.goM hm hr (by intro k h0 h2; rcases h2 with h2 | h2 <;> first | omega | exact h2))
  clear Cx8 hm hr Z act E qwr Hx7
  refine QChain.nil fun vs hl hzz hrows hne => ?_
  obtain ⟨Z, hYZ, hZb, hV⟩ := hzz
  have f0 := fvi hV hl 0
  have f3 := fvi hV hl 3
  have f6 := fvi hV hl 6
  rw [show vs = [gw vs 0, gw vs 1, gw vs 2, gw vs 3, gw vs 4, gw vs 5, gw vs 6] from (gw_eta hl).trans rfl]
  have ha0 := HA0.out
  subst ha0
  clear HA0 hV hYZ hZb hsz0 hrows hne oe0 oe3
  simp only [putAll, Act.put, List.setIfInBounds_toArray, List.set_cons_zero, List.set_cons_succ, f0, f3, f6]
  clear hl f0 f3 f6
  go_upto_region 2 with (fail)
  refine wp_region_U 23 [11, 12, 13, 14] [0, 1, 2, 3] (fun a0 HA0 => ?_)
  have oe0 := ev HA0 0 rfl
  have oe3 := ev HA0 3 rfl
  refine QSeq.pure rfl _ (fun E => ex_move rfl (E.v oe0)) ?_
  refine QSeq.pure rfl (.pointer (some ⟨w.heap.size, 2, none⟩)) (fun E => ex_field rfl Try.underlying94 rfl (by kernel_rfl) (E.v oe3)) ?_
  refine QSeq.pure rfl _ (fun E => ex_load1 rfl Try.underlying90 rfl (E.d 1 0) (Cs.lit1 (HB3.out.mod Cx10.out (by intro h2; first | omega | (have hb := HBR.out _ h2; omega))) rfl)) ?_
  refine QSeq.call rfl rfl Try.func125 (PutList_Pm _ _ _ _ _ _ _ Hx9.out (by intro k h1; rcases h1 with h1 | h1 | h1 <;> first | omega | (have hb := HBR.out k h1; omega)) (Hx2.out.mod Cx10.out (by intro k h1 h2; first | omega | (have hb := HBT.out k h1; omega) | (have hb := HBR.out k h2; omega) | exact HDJ.out k h1 h2 | exact HDJ.out k h2 h1 | (have hb := HBT.out k h1; have hb2 := HBR.out k h2; omega))) (by intro k h1; have hb := HBT.out k h1; omega) (by intro k h1 h2; rcases h1 with h1 | h1 | h1 <;> first | omega | (have hb := HBR.out k h1; omega) | (have hb := HBT.out k h2; omega) | exact HDJ.out k h1 h2 | exact HDJ.out k h2 h1 | (have hb := HBR.out k h1; have hb2 := HBT.out k h2; omega)) (by have := HL.out; simp only [List.length_append] at this ⊢; omega)) (fun E => args3 (E.d 0 2) (E.d 2 0) rfl) ?_
  rintro e u2_3 ⟨rfl, qwr, hm⟩
  refine ⟨_, rfl, ?_⟩
  have Hx11 := hid (qwr.widen (R' := (fun k => (R k) ∨ (New u1_0 u1_1a k) ∨ (New u1_1 u1_2a k) ∨ (New u1_2 u2_3 k))) (by intro k h1; simp only [or_assoc] at h1 ⊢; exact h1) (Nat.le_refl _))
  have zu2_3 := hm.size
  have Cx12 := hid (show Mod (fun k => (R k) ∨ (New u1_0 u1_1a k) ∨ (New u1_1 u1_2a k)) u1_2 u2_3 from hm)
  clear hm
  clear qwr Hx9
  refine QSeq.nil (t' := [_, _, _, _]) rfl ?_
  obtain rfl := HA0.out
  clear HA0 oe0 oe3
  simp only [pz, Act.put, List.setIfInBounds_toArray, List.set_cons_zero, List.set_cons_succ]
  go_upto_region 3 with (fail)
  refine wp_region_U 23 [15, 16, 17, 18] [0, 1, 2, 3] (fun a0 HA0 => ?_)
  have oe0 := ev HA0 0 rfl
  have oe3 := ev HA0 3 rfl
  refine QSeq.pure rfl _ (fun E => ex_move rfl (E.v oe0)) ?_
  refine QSeq.pure rfl (.pointer (some ⟨w.heap.size, 3, none⟩)) (fun E => ex_field rfl Try.underlying94 rfl (by kernel_rfl) (E.v oe3)) ?_
  refine QSeq.pure rfl _ (fun E => ex_load1 rfl Try.underlying91 rfl (E.d 1 0) (Cs.lit1 ((HB3.out.mod Cx10.out (by intro h2; first | omega | (have hb := HBR.out _ h2; omega))).mod Cx12.out (by intro h2; rcases h2 with h2 | h2 | h2 <;> first | omega | (have hb := HBR.out _ h2; omega))) rfl)) ?_
  refine QSeq.call rfl rfl Try.func126 (PutList_Op _ _ _ _ _ _ _ Hx11.out (by intro k h1; rcases h1 with h1 | h1 | h1 | h1 <;> first | omega | (have hb := HBR.out k h1; omega)) ((Hx3.out.mod Cx10.out (by intro k h1 h2; first | omega | (have hb := HBT.out k h1; omega) | (have hb := HBR.out k h2; omega) | exact HDJ.out k h1 h2 | exact HDJ.out k h2 h1 | (have hb := HBT.out k h1; have hb2 := HBR.out k h2; omega))).mod Cx12.out (by intro k h1 h2; rcases h2 with h2 | h2 | h2 <;> first | omega | (have hb := HBT.out k h1; omega) | (have hb := HBR.out k h2; omega) | exact HDJ.out k h1 h2 | exact HDJ.out k h2 h1 | (have hb := HBT.out k h1; have hb2 := HBR.out k h2; omega))) (by intro k h1; have hb := HBT.out k h1; omega) (by intro k h1 h2; rcases h1 with h1 | h1 | h1 | h1 <;> first | omega | (have hb := HBR.out k h1; omega) | (have hb := HBT.out k h2; omega) | exact HDJ.out k h1 h2 | exact HDJ.out k h2 h1 | (have hb := HBR.out k h1; have hb2 := HBT.out k h2; omega)) (by have := HL.out; simp only [List.length_append] at this ⊢; omega)) (fun E => args3 (E.d 0 2) (E.d 2 0) rfl) ?_
  rintro e u3_3 ⟨rfl, qwr, hm⟩
  refine ⟨_, rfl, ?_⟩
  have Hx13 := hid (qwr.widen (R' := (fun k => (R k) ∨ (New u1_0 u1_1a k) ∨ (New u1_1 u1_2a k) ∨ (New u1_2 u2_3 k) ∨ (New u2_3 u3_3 k))) (by intro k h1; simp only [or_assoc] at h1 ⊢; exact h1) (Nat.le_refl _))
  have zu3_3 := hm.size
  have Cx14 := hid (show Mod (fun k => (R k) ∨ (New u1_0 u1_1a k) ∨ (New u1_1 u1_2a k) ∨ (New u1_2 u2_3 k)) u2_3 u3_3 from hm)
  clear hm
  clear qwr Hx11
  refine QSeq.nil (t' := [_, _, _, _]) rfl ?_
  obtain rfl := HA0.out
  clear HA0 oe0 oe3
  simp only [pz, Act.put, List.setIfInBounds_toArray, List.set_cons_zero, List.set_cons_succ]
  go_upto_region 4 with (fail)
  refine wp_region_U 23 [19, 20, 21, 22] [0, 1, 2, 3] (fun a0 HA0 => ?_)
  have oe0 := ev HA0 0 rfl
  have oe3 := ev HA0 3 rfl
  refine QSeq.pure rfl _ (fun E => ex_move rfl (E.v oe0)) ?_
  refine QSeq.pure rfl (.pointer (some ⟨w.heap.size, 4, none⟩)) (fun E => ex_field rfl Try.underlying94 rfl (by kernel_rfl) (E.v oe3)) ?_
  refine QSeq.pure rfl _ (fun E => ex_load1 rfl Try.underlying92 rfl (E.d 1 0) (Cs.lit1 (((HB3.out.mod Cx10.out (by intro h2; first | omega | (have hb := HBR.out _ h2; omega))).mod Cx12.out (by intro h2; rcases h2 with h2 | h2 | h2 <;> first | omega | (have hb := HBR.out _ h2; omega))).mod Cx14.out (by intro h2; rcases h2 with h2 | h2 | h2 | h2 <;> first | omega | (have hb := HBR.out _ h2; omega))) rfl)) ?_
  refine QSeq.call rfl rfl Try.func127 (PutList_Tb _ _ _ _ _ _ _ Hx13.out (by intro k h1; rcases h1 with h1 | h1 | h1 | h1 | h1 <;> first | omega | (have hb := HBR.out k h1; omega)) (((Hx4.out.mod Cx10.out (by intro k h1 h2; first | omega | (have hb := HBT.out k h1; omega) | (have hb := HBR.out k h2; omega) | exact HDJ.out k h1 h2 | exact HDJ.out k h2 h1 | (have hb := HBT.out k h1; have hb2 := HBR.out k h2; omega))).mod Cx12.out (by intro k h1 h2; rcases h2 with h2 | h2 | h2 <;> first | omega | (have hb := HBT.out k h1; omega) | (have hb := HBR.out k h2; omega) | exact HDJ.out k h1 h2 | exact HDJ.out k h2 h1 | (have hb := HBT.out k h1; have hb2 := HBR.out k h2; omega))).mod Cx14.out (by intro k h1 h2; rcases h2 with h2 | h2 | h2 | h2 <;> first | omega | (have hb := HBT.out k h1; omega) | (have hb := HBR.out k h2; omega) | exact HDJ.out k h1 h2 | exact HDJ.out k h2 h1 | (have hb := HBT.out k h1; have hb2 := HBR.out k h2; omega))) (by intro k h1; have hb := HBT.out k h1; omega) (by intro k h1 h2; rcases h1 with h1 | h1 | h1 | h1 | h1 <;> first | omega | (have hb := HBR.out k h1; omega) | (have hb := HBT.out k h2; omega) | exact HDJ.out k h1 h2 | exact HDJ.out k h2 h1 | (have hb := HBR.out k h1; have hb2 := HBT.out k h2; omega)) (by have := HL.out; simp only [List.length_append] at this ⊢; omega)) (fun E => args3 (E.d 0 2) (E.d 2 0) rfl) ?_
  rintro e u4_3 ⟨rfl, qwr, hm⟩
  refine ⟨_, rfl, ?_⟩
  have Hx15 := hid (qwr.widen (R' := (fun k => (R k) ∨ (New u1_0 u1_1a k) ∨ (New u1_1 u1_2a k) ∨ (New u1_2 u2_3 k) ∨ (New u2_3 u3_3 k) ∨ (New u3_3 u4_3 k))) (by intro k h1; simp only [or_assoc] at h1 ⊢; exact h1) (Nat.le_refl _))
  have zu4_3 := hm.size
  have Cx16 := hid (show Mod (fun k => (R k) ∨ (New u1_0 u1_1a k) ∨ (New u1_1 u1_2a k) ∨ (New u1_2 u2_3 k) ∨ (New u2_3 u3_3 k)) u3_3 u4_3 from hm)
  clear hm
  clear qwr Hx13
  refine QSeq.nil (t' := [_, _, _, _]) rfl ?_
  obtain rfl := HA0.out
  clear HA0 oe0 oe3
  simp only [pz, Act.put, List.setIfInBounds_toArray, List.set_cons_zero, List.set_cons_succ]
  go_wp2
  go_end0
  have hq := (Hx15.out.widen (R' := (fun k => R k ∨ New w u4_3 k)) (by intro k h1; rcases h1 with h1 | h1 | h1 | h1 | h1 | h1 <;> first | exact Or.inl h1 | (right; omega)) (Nat.le_refl _))
  simp only [List.append_assoc] at hq
  exact ⟨rfl, by simpa only [baB, List.append_assoc] using hq, ((((HM0.out.trans Cx10.out (fun _ _ h => h)).trans Cx12.out (by intro k h1 h2; rcases h2 with h2 | h2 | h2 <;> first | exact h2 | omega | (have hb := HBR.out k h2; omega))).trans Cx14.out (by intro k h1 h2; rcases h2 with h2 | h2 | h2 | h2 <;> first | exact h2 | omega | (have hb := HBR.out k h2; omega))).trans Cx16.out (by intro k h1 h2; rcases h2 with h2 | h2 | h2 | h2 | h2 <;> first | exact h2 | omega | (have hb := HBR.out k h2; omega)))⟩
end Go.Proofs.Ytpnikilkcifncaa
