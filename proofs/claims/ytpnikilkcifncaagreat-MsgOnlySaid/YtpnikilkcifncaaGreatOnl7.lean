/- Texts that are built one behind the other: XSq, XOl, XMq0, XCmEq, XEq, XEb. No condition. -/
import Derived.Test.YtpnikilkcifncaaGreatOnl6
set_option maxRecDepth 100000
set_option linter.unusedVariables false
open List renaming setIfInBounds_toArray → sIB, set_cons_zero → sCZ, set_cons_succ → sCS
/- gavellaw06.Small. -/
namespace Go.Proofs.YtpnikilkcifncaaGreat
open Go Go.RowKit Go.Gv


theorem ex_lenStr {P : Program} {o : Oper} {a : Act} {w : World} {t : TypeId} {m : Operand} {s : ByteArray} (ho : o.op = Op.call { callee := Callee.builtin Builtin.len, args := #[m], argTypes := #[t] }) (hm : a.eval m = .string s) (ht : P.underlying t = some .string) : (execOp a.eval o).run P w = .ok (.value (.int .i64 ((s.size : Nat) : Int))) w := by
 simp [execOp, ho, resolve, invoke, builtin, hm, Builtin.len_, run_underlying ht, goInt, Result.andThen]
theorem ex_sliceStr {P : Program} {o : Oper} {a : Act} {w : World} {T : TypeId} {x y : Operand} {s : ByteArray} {k : IntKind} {i : Nat} (ho : o.op = .slice T x none (some y) none) (hu : P.underlying T = some .string) (hx : a.eval x = .string s) (hy : a.eval y = .int k (i : Int)) (hi : i ≤ s.size) : (execOp a.eval o).run P w = .ok (.value (.string (s.extract 0 i))) w := by
 unfold execOp
 simp [ho, hx, hy, Instr.sliceAt, Instr.slice, Instr.sliceBounds, Instr.sliceBound, asIntOf, run_underlying hu, hi]
/-- what the laws leave of a message -/
def cutVl (v : Int) : Int := if v = 9223372036854775807 then 0 else v
def cutRp (s : ByteArray) : ByteArray := if 260 < s.size then s.extract 0 260 else s
def smallM (x : Mg) : Mg := { x with ce := cutCe x.ce, pm := cutPm x.pm, pr := { x.pr with ba := cutBa x.pr.ba, vl := cutVl x.pr.vl }, op := cutOp x.op, rp := cutRp x.rp, dc := { x.dc with ba := cutBa x.dc.ba, l := x.dc.l.take 5 } }
theorem info_VtD : (Tryz.prog.info? 49).map (fun i => (i.zero, i.size, i.bytes)) = some (some (.agg #[.int .i64 0, .int .i64 0, .int .i64 0, .int .i64 0, .int .u8 0, .int .u8 0, .int .u8 0, .int .u8 0, .int .u8 0, .int .u8 0, .int .u8 0, .int .u8 0, .int .u8 0, .int .u8 0, .int .u8 0, .int .u8 0, .int .u8 0, .int .u8 0, .int .u8 0, .int .u8 0, .int .u8 0, .int .u8 0, .int .u8 0, .int .u8 0, .int .u8 0, .int .u8 0, .int .u8 0, .int .u8 0, .int .u8 0, .int .u8 0, .int .u8 0, .int .u8 0, .int .u8 0, .int .u8 0, .int .u8 0, .int .u8 0, .int .i64 0, .int .i64 0]), 38, 80) := by kernel_rfl
set_option maxHeartbeats 2000000 in
theorem Copy_Vt : CopiesS VtR 49 76 := by
 intro R2 v l w hs hB2 hl
 obtain ⟨ao, cap, rfl⟩ := hs.shape
 have HS := Lib.hid hs
 have HBT := Lib.hid hB2
 clear hs hB2
 go_enter Tryz.func76, Tryz.ntmps76
 go_upto_region 1 with (fail)
 have HM0 := hid (Mod.refl (fun _ => False) w)
 go_upto_region 1 with (fail)
 refine wp_region_U 5 [3, 4, 2] [0, 1, 2] (fun a0 HA0 => ?_)
 have oe0 := ev HA0 0 rfl
 refine QSeq.pure rfl _ (fun E => ex_move rfl (E.v oe0)) ?_
 refine QSeq.go fun act E => ?_
 refine qc_appS (A := VtR) (e := 49) rfl (wanted_none rfl) rfl (.agg #[.int .i64 0, .int .i64 0, .int .i64 0, .int .i64 0, .int .u8 0, .int .u8 0, .int .u8 0, .int .u8 0, .int .u8 0, .int .u8 0, .int .u8 0, .int .u8 0, .int .u8 0, .int .u8 0, .int .u8 0, .int .u8 0, .int .u8 0, .int .u8 0, .int .u8 0, .int .u8 0, .int .u8 0, .int .u8 0, .int .u8 0, .int .u8 0, .int .u8 0, .int .u8 0, .int .u8 0, .int .u8 0, .int .u8 0, .int .u8 0, .int .u8 0, .int .u8 0, .int .u8 0, .int .u8 0, .int .u8 0, .int .u8 0, .int .i64 0, .int .i64 0]) 80 Tryz.underlying57 info_VtD (by rfl) (of_decide_eq_true (by kernel_rfl)) rfl (E.d 0 0) (OwS.nil _ _ (fun _ => False) (fun _ => False) _) (HS.out) (fun _ _ h => h) (by simp only [List.length_nil]; omega) (by simp only [List.length_nil]; rw [maxLen_val]; omega) ?_
 intro ao0 cap0 u1_1 qout hm
 have Hx1 := hid (qout.widen (R' := (fun k => (New w u1_1 k))) (E' := (fun k => (R2 k))) (fun _ h => h.elim (fun h => h.elim) (fun h => h)) (by intro k h1; rcases h1 with h1 | h1 <;> first | omega | exact h1.elim | exact h1))
 have zu1_1 := hm.size
 have Cx2 := hid (show Mod (fun _ => False) w u1_1 from hm)
 clear hm
 clear act E qout
 refine QSeq.pure rfl _ (fun E => ex_assign rfl (E.d 1 0)) ?_
 refine QSeq.nil (t' := [_, _, _]) rfl ?_
 obtain rfl := HA0.out
 clear HA0 oe0
 simp only [pz, Act.put, sIB, sCZ, sCS]
 go_wp2
 go_ret
 have hq := Hx1.out
 exact ⟨_, rfl, hq.widen (by intro k h; omega) (by intro k h; exact h), (HM0.out.trans Cx2.out (fun _ _ h => h.elim))⟩
set_option maxHeartbeats 2000000 in
theorem Cut_Vt : CutsS VtR 49 40 := by
 intro R2 v l n w hs hB2 hn
 obtain ⟨css, k1, k2, ⟨k3, ao, cap, rfl, hlc, hcm, k5, k6⟩, k7⟩ := id hs
 clear k1 k2 k3 k5 k6 k7
 rw [maxLen_val] at hcm
 have HS := Lib.hid hs
 have HBT := Lib.hid hB2
 clear hs hB2
 clear css
 go_enter Tryz.func40, Tryz.ntmps40
 go_upto_region 1 with (fail)
 have HM0 := hid (Mod.refl (fun _ => False) w)
 go_upto_region 1 with (fail)
 refine wp_region_U 12 [5, 6, 7, 8, 9, 10, 11, 4] [0, 1, 2, 3, 4, 5, 6, 7] (fun a0 HA0 => ?_)
 have oe0 := ev HA0 0 rfl
 have oe1 := ev HA0 1 rfl
 refine QSeq.pure rfl _ (fun E => ex_move rfl (E.v oe0)) ?_
 refine QSeq.pure rfl _ (fun E => ex_move rfl (E.v oe0)) ?_
 refine QSeq.pure rfl (.int .i64 l.length) (fun E => ex_lenS rfl (E.d 1 0) Tryz.underlying57) ?_
 refine QSeq.pure rfl _ (fun E => ex_move rfl (E.v oe1)) ?_
 refine QSeq.pure rfl (.int .i64 ((min l.length n : Nat) : Int)) (fun E => ex_min (r := ((min l.length n : Nat) : Int)) rfl (E.d 2 1) (E.d 3 0) (by split <;> omega)) ?_
 refine QSeq.pure rfl (.slice ao (min l.length n) cap) (fun E => ex_sliceTo (i := min l.length n) (s := 38) rfl Tryz.underlying57 (by kernel_rfl) (E.d 0 4) (E.d 4 0) (by omega)) ?_
 refine QSeq.call rfl rfl Tryz.func76 (Copy_Vt _ _ (l.take (min l.length n)) _ (HS.out.upto (min l.length n) (by omega)) (by intro k h1; have hb := HBT.out k h1; omega) (by simp; omega)) (fun E => args1 (E.d 5 0)) ?_
 rintro e u1_6 ⟨v', rfl, qout, hm⟩
 refine ⟨_, rfl, ?_⟩
 have Hx1 := hid (qout.widen (R' := (fun k => (New w u1_6 k))) (E' := (fun k => (R2 k))) (fun _ h => h) (fun _ h => h))
 have zu1_6 := hm.size
 have Cx2 := hid (show Mod (fun _ => False) w u1_6 from hm)
 clear hm
 clear qout
 refine QSeq.pure rfl _ (fun E => ex_assign rfl (E.d 6 0)) ?_
 refine QSeq.nil (t' := [_, _, _, _, _, _, _, _]) rfl ?_
 obtain rfl := HA0.out
 clear HA0 oe0 oe1
 simp only [pz, Act.put, sIB, sCZ, sCS]
 go_wp2
 go_ret
 have hq := Hx1.out
 rw [show l.take (min l.length n) = l.take n by rw [Nat.min_comm, ← List.take_take, List.take_length]] at hq
 exact ⟨v', rfl, hq.widen (by intro k h; omega) (fun _ h => h), (HM0.out.trans Cx2.out (fun _ _ h => h.elim))⟩
set_option maxHeartbeats 8000000 in
theorem Small_c : CutR MgR 8 smallM := by
 intro R2 x cs w hx hB2
 obtain ⟨c5, c10, c11, c15, c18, rfl, hok, h5, h10, h11, h15, h18⟩ := hx
 have HC5 := hid (CeR.len h5)
 have HC10 := hid (PmR.len h10)
 have HC15 := hid (OpR.len h15)
 have HLN := hid (Mg.lns hok h5 h10 h11 h15 h18)
 obtain ⟨p_ps, p_os, p_ts, rfl, hokp, hp0, hp1, hp2⟩ := h11
 obtain ⟨d_ps, d_os, d_ts, d_l, rfl, hokd, hd0, hd1, hd2, hd3⟩ := h18
 obtain ⟨v_o, rfl, hoko, ho0⟩ := h15
 have H5 := Lib.hid h5
 have H10 := Lib.hid h10
 have H15 := Lib.hid ho0
 have HP0 := Lib.hid hp0
 have HP1 := Lib.hid hp1
 have HP2 := Lib.hid hp2
 have HD0 := Lib.hid hd0
 have HD1 := Lib.hid hd1
 have HD2 := Lib.hid hd2
 have HD3 := Lib.hid hd3
 have HBT := Lib.hid hB2
 have HOK := Lib.hid hok
 have HOP := Lib.hid hokp
 have HOD := Lib.hid hokd
 have HOO := Lib.hid hoko
 clear hB2 hok hokp hokd hoko h5 h10 ho0 hp0 hp1 hp2 hd0 hd1 hd2 hd3
 go_enter Tryz.func8, Tryz.ntmps8
 go_upto_region 1 with (fail)
 obtain ⟨w1, hw1⟩ : ∃ zz, zz = ((w.alloc (.cells ((Mg.segs x c5 c10 (x.pr.cells p_ps p_os p_ts) (x.op.cells v_o) (x.dc.cells d_ps d_os d_ts d_l)).flatten : List Value).toArray 61)).alloc (.cells ((mg0C 0 0 0) : List Value).toArray 61)) := ⟨_, rfl⟩
 change Code.wp _ _ _ _ ((w.alloc (.cells ((Mg.segs x c5 c10 (x.pr.cells p_ps p_os p_ts) (x.op.cells v_o) (x.dc.cells d_ps d_os d_ts d_l)).flatten : List Value).toArray 61)).alloc (.cells ((mg0C 0 0 0) : List Value).toArray 61))
 rw [← hw1]
 have HB1 := hid (show Cs w1 (w.heap.size) ((Mg.segs x c5 c10 (x.pr.cells p_ps p_os p_ts) (x.op.cells v_o) (x.dc.cells d_ps d_os d_ts d_l)).flatten : List Value).toArray 61 by rw [hw1]; exact (Cs.new _ _ _).alloc _)
 have HB2 := hid (show Cs w1 (w.heap.size + 1) ((mg0C 0 0 0) : List Value).toArray 61 by rw [hw1]; exact Cs_newN _ _ _ (by simp))
 have hm : Mod (fun _ => False) w w1 := by rw [hw1]; exact ((Mod.refl _ _).alloc _).alloc _
 have HM0 := hid (show Mod (fun _ => False) w w1 from hm.mono (fun _ _ h => h.elim))
 have hs1 : w1.heap.size = w.heap.size + 2 := by rw [hw1]; simp
 have Hx1 := hid (H5.out.mod hm (fun _ _ h => h))
 clear H5
 have Hx2 := hid (H10.out.mod hm (fun _ _ h => h))
 clear H10
 have Hx3 := hid (H15.out.mod hm (fun _ _ h => h))
 clear H15
 have Hx4 := hid (HP0.out.mod hm (fun _ _ h => h))
 clear HP0
 have Hx5 := hid (HP1.out.mod hm (fun _ _ h => h))
 clear HP1
 have Hx6 := hid (HP2.out.mod hm (fun _ _ h => h))
 clear HP2
 have Hx7 := hid (HD0.out.mod hm (fun _ _ h => h))
 clear HD0
 have Hx8 := hid (HD1.out.mod hm (fun _ _ h => h))
 clear HD1
 have Hx9 := hid (HD2.out.mod hm (fun _ _ h => h))
 clear HD2
 have Hx10 := hid (HD3.out.mod hm (fun _ _ h => h))
 clear HD3
 clear hw1 hm
 go_upto_region 1 with (fail)
 generalize ha0 : Act.mk _ _ = a0
 have oe1 : a0.eval (.tmp 1) = .pointer (some ⟨w.heap.size, 0, none⟩) := by rw [← ha0]; rfl
 have hsz0 : a0.tmps.size = 50 := by rw [← ha0]; rfl
 have HA0 := hid ha0
 clear ha0
 refine wp_region_Q1 50 hsz0 [3, 4, 5, 6, 7, 8, 9, 10, 11, 12, 13, 14, 15, 16, 17, 65, 18, 67, 19, 20, 70, 21, 22, 73] (fun k => (k = w.heap.size)) (fun k j => (k = 4 ∧ ((j = w.heap.size))) ∨ (k = 5 ∧ ((j = w.heap.size))) ∨ (k = 6 ∧ ((j = w.heap.size))) ∨ (k = 7 ∧ ((j = w.heap.size)))) (by intro k j h; (try dsimp only at h ⊢); omega) [qi (.pointer (some ⟨w.heap.size, 78, none⟩)), qi (.agg (c5).toArray), qv 0, qi (.pointer (some ⟨w.heap.size, 157, none⟩)), qi (.agg (c10).toArray), qv 1, qi (.pointer (some ⟨w.heap.size, 163, none⟩)), qi (.pointer (some ⟨w.heap.size, 167, none⟩)), qi (.agg #[.int .i64 x.pr.ba.ep, .int .u64 (x.pr.ba.tm : Nat), p_ps, p_os, p_ts]), qv 2, qi (.pointer (some ⟨w.heap.size, 287, none⟩)), qi (.pointer (some ⟨w.heap.size, 289, none⟩)), qi (.agg #[.int .i64 x.dc.ba.ep, .int .u64 (x.dc.ba.tm : Nat), d_ps, d_os, d_ts]), qv 3, qi (.pointer (some ⟨w.heap.size, 78, none⟩)), qv 4, qi (.pointer (some ⟨w.heap.size, 157, none⟩)), qv 5, qi (.pointer (some ⟨w.heap.size, 163, none⟩)), qi (.pointer (some ⟨w.heap.size, 167, none⟩)), qv 6, qi (.pointer (some ⟨w.heap.size, 287, none⟩)), qi (.pointer (some ⟨w.heap.size, 289, none⟩)), qv 7] ⟨qi_stable, qi_stable, qv_stable, qi_stable, qi_stable, qv_stable, qi_stable, qi_stable, qi_stable, qv_stable, qi_stable, qi_stable, qi_stable, qv_stable, qi_stable, qv_stable, qi_stable, qv_stable, qi_stable, qi_stable, qv_stable, qi_stable, qi_stable, qv_stable, trivial⟩ [2, 5, 9, 13, 15, 17, 20, 23] ⟨?_, ?_, ?_, ?_, ?_, ?_, ?_, ?_, ?_, ?_, ?_, ?_, ?_, ?_, ?_, ?_, ?_, ?_, ?_, ?_, ?_, ?_, ?_, ?_, trivial⟩ ?_
 ·exact stq (fun E => ex_field rfl Tryz.underlying61 rfl (by kernel_rfl) (E.v oe1))
 ·refine stepq_env rfl rfl rfl fun _ _ _ _ _ _ hm0 _ _ hd hub _ => ?_
  have h0 := hd ⟨0, .data⟩ (by simp) rfl _ rfl
  refine qe_run rfl (wanted_none rfl) (ex_loadA rfl Tryz.underlying35 rfl (off := 78) (cs := (c5)) (by rw [HC5.out]; kernel_rfl) h0 (Cs.seg (HB1.out.mod hm0 (by intro h2; have hu := hub 4 15 rfl (by kernel_rfl); rcases h2 with ⟨h0, kk, hk, h2⟩ | h2 <;> omega)) HLN.out 5 rfl rfl)) QE.refl ?_
  rfl
 ·exact stepq_chain rfl
 ·exact stq (fun E => ex_field rfl Tryz.underlying61 rfl (by kernel_rfl) (E.v oe1))
 ·refine stepq_env rfl rfl rfl fun _ _ _ _ _ _ hm0 _ _ hd hub _ => ?_
  have h3 := hd ⟨3, .data⟩ (by simp) rfl _ rfl
  refine qe_run rfl (wanted_none rfl) (ex_loadA rfl Tryz.underlying40 rfl (off := 157) (cs := (c10)) (by rw [HC10.out]; kernel_rfl) h3 (Cs.seg (HB1.out.mod hm0 (by intro h2; have hu := hub 4 15 rfl (by kernel_rfl); rcases h2 with ⟨h0, kk, hk, h2⟩ | h2 <;> omega)) HLN.out 10 rfl rfl)) QE.refl ?_
  rfl
 ·exact stepq_chain rfl
 ·exact stq (fun E => ex_field rfl Tryz.underlying61 rfl (by kernel_rfl) (E.v oe1))
 ·exact stq (fun E => ex_field rfl Tryz.underlying47 rfl (by kernel_rfl) (E.d 6))
 ·refine stepq_env rfl rfl rfl fun _ _ _ _ _ _ hm0 _ _ hd hub _ => ?_
  have h7 := hd ⟨7, .data⟩ (by simp) rfl _ rfl
  refine qe_run rfl (wanted_none rfl) (ex_loadA rfl Tryz.underlying45 rfl (off := 167) (cs := [.int .i64 x.pr.ba.ep, .int .u64 (x.pr.ba.tm : Nat), p_ps, p_os, p_ts]) (by kernel_rfl) h7 (Cs.segA (HB1.out.mod hm0 (by intro h2; have hu := hub 4 15 rfl (by kernel_rfl); rcases h2 with ⟨h0, kk, hk, h2⟩ | h2 <;> omega)) HLN.out 11 rfl (o := 163) (k := 4) rfl rfl rfl)) QE.refl ?_
  rfl
 ·exact stepq_chain rfl
 ·exact stq (fun E => ex_field rfl Tryz.underlying61 rfl (by kernel_rfl) (E.v oe1))
 ·exact stq (fun E => ex_field rfl Tryz.underlying59 rfl (by kernel_rfl) (E.d 10))
 ·refine stepq_env rfl rfl rfl fun _ _ _ _ _ _ hm0 _ _ hd hub _ => ?_
  have h11 := hd ⟨11, .data⟩ (by simp) rfl _ rfl
  refine qe_run rfl (wanted_none rfl) (ex_loadA rfl Tryz.underlying45 rfl (off := 289) (cs := [.int .i64 x.dc.ba.ep, .int .u64 (x.dc.ba.tm : Nat), d_ps, d_os, d_ts]) (by kernel_rfl) h11 (Cs.segA (HB1.out.mod hm0 (by intro h2; have hu := hub 4 15 rfl (by kernel_rfl); rcases h2 with ⟨h0, kk, hk, h2⟩ | h2 <;> omega)) HLN.out 18 rfl (o := 287) (k := 2) rfl rfl rfl)) QE.refl ?_
  rfl
 ·exact stepq_chain rfl
 ·exact stq (fun E => ex_field rfl Tryz.underlying61 rfl (by kernel_rfl) (E.v oe1))
 ·exact stepq_chain rfl
 ·exact stq (fun E => ex_field rfl Tryz.underlying61 rfl (by kernel_rfl) (E.v oe1))
 ·exact stepq_chain rfl
 ·exact stq (fun E => ex_field rfl Tryz.underlying61 rfl (by kernel_rfl) (E.v oe1))
 ·exact stq (fun E => ex_field rfl Tryz.underlying47 rfl (by kernel_rfl) (E.d 18))
 ·exact stepq_chain rfl
 ·exact stq (fun E => ex_field rfl Tryz.underlying61 rfl (by kernel_rfl) (E.v oe1))
 ·exact stq (fun E => ex_field rfl Tryz.underlying59 rfl (by kernel_rfl) (E.d 21))
 ·exact stepq_chain rfl
 intro u1_0 hr
 have zu1_0 := hr.size
 have Cx11 := hid (hr.new (S := (fun k => (k = w.heap.size))))
 have Hx12 := hid (HB1.out.mod hr (by intro h2; omega))
 clear HB1
 clear hr
 refine QChain.go fun Z act E => ?_
 refine qc_callF (args := #[.agg (c5).toArray]) rfl (wanted_none rfl) rfl Tryz.func37 (args1 (E.d 1)) (LCert_c R2 x.ce _ _ (Hx1.out.mod Cx11.out (sB HBT)) (by intro k h1; have hb := HBT.out k h1; omega)) ?_
 rintro e u1_1a ⟨cn5, rfl, qce, hm⟩
 have HLn5 := hid (CeR.len qce)
 have HOn5 := hid (CeR.one qce)
 have zu1_1a := hm.size
 refine ⟨_, rfl, hm.mono (fun _ _ h => h.elim), (fun _ => rfl), ?_⟩
 intro u1_1 hr
 have zu1_1 := hr.size
 have Hx13 := hid ((qce.widen (R' := (fun k => (R2 k) ∨ (New u1_0 u1_1a k))) (fun _ h => h)).mod hr (by intro k h1 h2; rcases h1 with h1 | h1 <;> first | omega | (have hb := HBT.out k h1; omega)))
 have hmr := Mod.after hm hr
 have Hx14 := hid (Hx12.out.mod hmr (by intro h2; omega))
 clear Hx12
 clear hmr
 have Cx15 := hid (Cx11.out.go hm hr)
 clear Cx11 hm hr Z act E qce Hx1
 refine QChain.go fun Z act E => ?_
 refine qc_callF (args := #[.agg (c10).toArray]) rfl (wanted_none rfl) rfl Tryz.func38 (args1 (E.d 4)) (LPromise_c R2 x.pm _ _ (Hx2.out.mod Cx15.out (sB HBT)) (by intro k h1; have hb := HBT.out k h1; omega)) ?_
 rintro e u1_2a ⟨cn10, rfl, qpm, hm⟩
 have HLn10 := hid (PmR.len qpm)
 have HOn10 := hid (PmR.one qpm)
 have zu1_2a := hm.size
 refine ⟨_, rfl, hm.mono (fun _ _ h => h.elim), (fun _ => rfl), ?_⟩
 intro u1_2 hr
 have zu1_2 := hr.size
 have Hx16 := hid ((qpm.widen (R' := (fun k => (R2 k) ∨ (New u1_1 u1_2a k))) (fun _ h => h)).mod hr (by intro k h1 h2; rcases h1 with h1 | h1 <;> first | omega | (have hb := HBT.out k h1; omega)))
 have hmr := Mod.after hm hr
 have Hx17 := hid (Hx13.out.mod hmr (by intro k h1 h2; rcases h1 with h1 | h1 <;> first | omega | (have hb := HBT.out k h1; omega)))
 have Hx18 := hid (Hx14.out.mod hmr (by intro h2; omega))
 clear Hx13 Hx14
 clear hmr
 have Cx19 := hid (Cx15.out.go hm hr)
 clear Cx15 hm hr Z act E qpm Hx2
 refine QChain.go fun Z act E => ?_
 refine qc_callF (args := #[.agg #[.int .i64 x.pr.ba.ep, .int .u64 (x.pr.ba.tm : Nat), p_ps, p_os, p_ts]]) rfl (wanted_none rfl) rfl Tryz.func39 (args1 (E.d 8)) (LBatch_c R2 x.pr.ba _ _ ⟨_, _, _, rfl, HOP.out.2.2.2.2.1, (Hx4.out.mod Cx19.out (sB HBT)), (Hx5.out.mod Cx19.out (sB HBT)), (Hx6.out.mod Cx19.out (sB HBT))⟩ (by intro k h1; have hb := HBT.out k h1; omega)) ?_
 rintro e u1_3a ⟨cbe, rfl, qp0, hm⟩
 have HOe := hid (BaR.one qp0)
 obtain ⟨e_ps, e_os, e_ts, rfl, hokb, qp0, qp1, qp2⟩ := qp0
 clear hokb
 have zu1_3a := hm.size
 refine ⟨_, rfl, hm.mono (fun _ _ h => h.elim), (fun _ => rfl), ?_⟩
 intro u1_3 hr
 have zu1_3 := hr.size
 have Hx20 := hid ((qp0.widen (R' := (fun k => (R2 k) ∨ (New u1_2 u1_3a k))) (fun _ h => h)).mod hr (by intro k h1 h2; rcases h1 with h1 | h1 <;> first | omega | (have hb := HBT.out k h1; omega)))
 have Hx21 := hid ((qp1.widen (R' := (fun k => (R2 k) ∨ (New u1_2 u1_3a k))) (fun _ h => h)).mod hr (by intro k h1 h2; rcases h1 with h1 | h1 <;> first | omega | (have hb := HBT.out k h1; omega)))
 have Hx22 := hid ((qp2.widen (R' := (fun k => (R2 k) ∨ (New u1_2 u1_3a k))) (fun _ h => h)).mod hr (by intro k h1 h2; rcases h1 with h1 | h1 <;> first | omega | (have hb := HBT.out k h1; omega)))
 have hmr := Mod.after hm hr
 have Hx23 := hid (Hx17.out.mod hmr (by intro k h1 h2; rcases h1 with h1 | h1 <;> first | omega | (have hb := HBT.out k h1; omega)))
 have Hx24 := hid (Hx16.out.mod hmr (by intro k h1 h2; rcases h1 with h1 | h1 <;> first | omega | (have hb := HBT.out k h1; omega)))
 have Hx25 := hid (Hx18.out.mod hmr (by intro h2; omega))
 clear Hx17 Hx16 Hx18
 clear hmr
 have Cx26 := hid (Cx19.out.go hm hr)
 clear Cx19 hm hr Z act E qp0 qp1 qp2 Hx4 Hx5 Hx6
 refine QChain.go fun Z act E => ?_
 refine qc_callF (args := #[.agg #[.int .i64 x.dc.ba.ep, .int .u64 (x.dc.ba.tm : Nat), d_ps, d_os, d_ts]]) rfl (wanted_none rfl) rfl Tryz.func39 (args1 (E.d 12)) (LBatch_c R2 x.dc.ba _ _ ⟨_, _, _, rfl, HOD.out.2.2, (Hx7.out.mod Cx26.out (sB HBT)), (Hx8.out.mod Cx26.out (sB HBT)), (Hx9.out.mod Cx26.out (sB HBT))⟩ (by intro k h1; have hb := HBT.out k h1; omega)) ?_
 rintro e u1_4a ⟨cbf, rfl, qd0, hm⟩
 have HOf := hid (BaR.one qd0)
 obtain ⟨f_ps, f_os, f_ts, rfl, hokb, qd0, qd1, qd2⟩ := qd0
 clear hokb
 have zu1_4a := hm.size
 refine ⟨_, rfl, hm.mono (fun _ _ h => h.elim), (fun _ => rfl), ?_⟩
 intro u1_4 hr
 have zu1_4 := hr.size
 have Hx27 := hid ((qd0.widen (R' := (fun k => (R2 k) ∨ (New u1_3 u1_4a k))) (fun _ h => h)).mod hr (by intro k h1 h2; rcases h1 with h1 | h1 <;> first | omega | (have hb := HBT.out k h1; omega)))
 have Hx28 := hid ((qd1.widen (R' := (fun k => (R2 k) ∨ (New u1_3 u1_4a k))) (fun _ h => h)).mod hr (by intro k h1 h2; rcases h1 with h1 | h1 <;> first | omega | (have hb := HBT.out k h1; omega)))
 have Hx29 := hid ((qd2.widen (R' := (fun k => (R2 k) ∨ (New u1_3 u1_4a k))) (fun _ h => h)).mod hr (by intro k h1 h2; rcases h1 with h1 | h1 <;> first | omega | (have hb := HBT.out k h1; omega)))
 have hmr := Mod.after hm hr
 have Hx30 := hid (Hx23.out.mod hmr (by intro k h1 h2; rcases h1 with h1 | h1 <;> first | omega | (have hb := HBT.out k h1; omega)))
 have Hx31 := hid (Hx24.out.mod hmr (by intro k h1 h2; rcases h1 with h1 | h1 <;> first | omega | (have hb := HBT.out k h1; omega)))
 have Hx32 := hid (Hx20.out.mod hmr (by intro k h1 h2; rcases h1 with h1 | h1 <;> first | omega | (have hb := HBT.out k h1; omega)))
 have Hx33 := hid (Hx21.out.mod hmr (by intro k h1 h2; rcases h1 with h1 | h1 <;> first | omega | (have hb := HBT.out k h1; omega)))
 have Hx34 := hid (Hx22.out.mod hmr (by intro k h1 h2; rcases h1 with h1 | h1 <;> first | omega | (have hb := HBT.out k h1; omega)))
 have Hx35 := hid (Hx25.out.mod hmr (by intro h2; omega))
 clear Hx23 Hx24 Hx20 Hx21 Hx22 Hx25
 clear hmr
 have Cx36 := hid (Cx26.out.go hm hr)
 clear Cx26 hm hr Z act E qd0 qd1 qd2 Hx7 Hx8 Hx9
 refine QChain.go fun Z act E => ?_
 refine qc_store rfl (wanted_none rfl) rfl Hx35.out (off := 78) (vs := cn5) (by rw [HLn5.out]; kernel_rfl) HOn5.out (by rw [List.size_toArray, flat_sum, (Mg.lens HOK.out HC5.out HC10.out rfl (show (x.op.cells v_o).length = 34 from HC15.out) rfl)]; show 78 + _ ≤ 295; rw [HLn5.out]; decide) (E.d 14) (ec (chv (v := .agg cn5.toArray) (E.d 2))) ?_
 intro u1_5a qc0 hm
 have qB1 := qc0.eqv (b := ((Mg.segs x cn5 c10 (x.pr.cells p_ps p_os p_ts) (x.op.cells v_o) (x.dc.cells d_ps d_os d_ts d_l)).flatten : List Value).toArray) ((lay_seg (Mg.lens HOK.out HC5.out HC10.out rfl (show (x.op.cells v_o).length = 34 from HC15.out) rfl) 5 (by rw [HLn5.out]; rfl) rfl).trans rfl)
 clear qc0
 have zu1_5a := hm.size
 refine ⟨hm.mono (by intro k hk h; omega), (fun _ => rfl), ?_⟩
 intro u1_5 hr
 have zu1_5 := hr.size
 have Hx37 := hid (qB1.mod hr (by intro h2; omega))
 have hmr := hm.two hr
 have Hx38 := hid (Hx30.out.mod hmr (by intro k h1 h2; rcases h1 with h1 | h1 <;> first | omega | (have hb := HBT.out k h1; omega)))
 have Hx39 := hid (Hx31.out.mod hmr (by intro k h1 h2; rcases h1 with h1 | h1 <;> first | omega | (have hb := HBT.out k h1; omega)))
 have Hx40 := hid (Hx32.out.mod hmr (by intro k h1 h2; rcases h1 with h1 | h1 <;> first | omega | (have hb := HBT.out k h1; omega)))
 have Hx41 := hid (Hx33.out.mod hmr (by intro k h1 h2; rcases h1 with h1 | h1 <;> first | omega | (have hb := HBT.out k h1; omega)))
 have Hx42 := hid (Hx34.out.mod hmr (by intro k h1 h2; rcases h1 with h1 | h1 <;> first | omega | (have hb := HBT.out k h1; omega)))
 have Hx43 := hid (Hx27.out.mod hmr (by intro k h1 h2; rcases h1 with h1 | h1 <;> first | omega | (have hb := HBT.out k h1; omega)))
 have Hx44 := hid (Hx28.out.mod hmr (by intro k h1 h2; rcases h1 with h1 | h1 <;> first | omega | (have hb := HBT.out k h1; omega)))
 have Hx45 := hid (Hx29.out.mod hmr (by intro k h1 h2; rcases h1 with h1 | h1 <;> first | omega | (have hb := HBT.out k h1; omega)))
 clear Hx30 Hx31 Hx32 Hx33 Hx34 Hx27 Hx28 Hx29
 clear hmr
 have Cx46 := hid (Cx36.out.goM hm hr (fun _ _ h => h))
 clear Cx36 hm hr Z act E qB1 Hx35
 refine QChain.go fun Z act E => ?_
 refine qc_store rfl (wanted_none rfl) rfl Hx37.out (off := 157) (vs := cn10) (by rw [HLn10.out]; kernel_rfl) HOn10.out (by rw [List.size_toArray, flat_sum, (Mg.lens HOK.out HLn5.out HC10.out rfl (show (x.op.cells v_o).length = 34 from HC15.out) rfl)]; show 157 + _ ≤ 295; rw [HLn10.out]; decide) (E.d 16) (ec (chv (v := .agg cn10.toArray) (E.d 5))) ?_
 intro u1_6a qc0 hm
 have qB1 := qc0.eqv (b := ((Mg.segs x cn5 cn10 (x.pr.cells p_ps p_os p_ts) (x.op.cells v_o) (x.dc.cells d_ps d_os d_ts d_l)).flatten : List Value).toArray) ((lay_seg (Mg.lens HOK.out HLn5.out HC10.out rfl (show (x.op.cells v_o).length = 34 from HC15.out) rfl) 10 (by rw [HLn10.out]; rfl) rfl).trans rfl)
 clear qc0
 have zu1_6a := hm.size
 refine ⟨hm.mono (by intro k hk h; omega), (fun _ => rfl), ?_⟩
 intro u1_6 hr
 have zu1_6 := hr.size
 have Hx47 := hid (qB1.mod hr (by intro h2; omega))
 have hmr := hm.two hr
 have Hx48 := hid (Hx38.out.mod hmr (by intro k h1 h2; rcases h1 with h1 | h1 <;> first | omega | (have hb := HBT.out k h1; omega)))
 have Hx49 := hid (Hx39.out.mod hmr (by intro k h1 h2; rcases h1 with h1 | h1 <;> first | omega | (have hb := HBT.out k h1; omega)))
 have Hx50 := hid (Hx40.out.mod hmr (by intro k h1 h2; rcases h1 with h1 | h1 <;> first | omega | (have hb := HBT.out k h1; omega)))
 have Hx51 := hid (Hx41.out.mod hmr (by intro k h1 h2; rcases h1 with h1 | h1 <;> first | omega | (have hb := HBT.out k h1; omega)))
 have Hx52 := hid (Hx42.out.mod hmr (by intro k h1 h2; rcases h1 with h1 | h1 <;> first | omega | (have hb := HBT.out k h1; omega)))
 have Hx53 := hid (Hx43.out.mod hmr (by intro k h1 h2; rcases h1 with h1 | h1 <;> first | omega | (have hb := HBT.out k h1; omega)))
 have Hx54 := hid (Hx44.out.mod hmr (by intro k h1 h2; rcases h1 with h1 | h1 <;> first | omega | (have hb := HBT.out k h1; omega)))
 have Hx55 := hid (Hx45.out.mod hmr (by intro k h1 h2; rcases h1 with h1 | h1 <;> first | omega | (have hb := HBT.out k h1; omega)))
 clear Hx38 Hx39 Hx40 Hx41 Hx42 Hx43 Hx44 Hx45
 clear hmr
 have Cx56 := hid (Cx46.out.goM hm hr (fun _ _ h => h))
 clear Cx46 hm hr Z act E qB1 Hx37
 refine QChain.go fun Z act E => ?_
 refine qc_store rfl (wanted_none rfl) rfl Hx47.out (off := 167) (vs := [.int .i64 x.pr.ba.ep, .int .u64 (x.pr.ba.tm : Nat), e_ps, e_os, e_ts]) (by kernel_rfl) HOe.out (by rw [List.size_toArray, flat_sum, (Mg.lens HOK.out HLn5.out HLn10.out rfl (show (x.op.cells v_o).length = 34 from HC15.out) rfl)]; show 167 + 5 ≤ 295; decide) (E.d 19) (ec (chv (v := .agg #[.int .i64 x.pr.ba.ep, .int .u64 (x.pr.ba.tm : Nat), e_ps, e_os, e_ts]) (E.d 9))) ?_
 intro u1_7a qc0 hm
 have qB1 := qc0.eqv (b := ((Mg.segs x cn5 cn10 (x.pr.cells e_ps e_os e_ts) (x.op.cells v_o) (x.dc.cells d_ps d_os d_ts d_l)).flatten : List Value).toArray) ((lay_sub (Mg.lens HOK.out HLn5.out HLn10.out rfl (show (x.op.cells v_o).length = 34 from HC15.out) rfl) 11 rfl (o := 163) (k := 4) (n := 5) rfl rfl rfl (by show 4 + 5 ≤ 11; decide)).trans rfl)
 clear qc0
 have zu1_7a := hm.size
 refine ⟨hm.mono (by intro k hk h; omega), (fun _ => rfl), ?_⟩
 intro u1_7 hr
 have zu1_7 := hr.size
 have Hx57 := hid (qB1.mod hr (by intro h2; omega))
 have hmr := hm.two hr
 have Hx58 := hid (Hx48.out.mod hmr (by intro k h1 h2; rcases h1 with h1 | h1 <;> first | omega | (have hb := HBT.out k h1; omega)))
 have Hx59 := hid (Hx49.out.mod hmr (by intro k h1 h2; rcases h1 with h1 | h1 <;> first | omega | (have hb := HBT.out k h1; omega)))
 have Hx60 := hid (Hx50.out.mod hmr (by intro k h1 h2; rcases h1 with h1 | h1 <;> first | omega | (have hb := HBT.out k h1; omega)))
 have Hx61 := hid (Hx51.out.mod hmr (by intro k h1 h2; rcases h1 with h1 | h1 <;> first | omega | (have hb := HBT.out k h1; omega)))
 have Hx62 := hid (Hx52.out.mod hmr (by intro k h1 h2; rcases h1 with h1 | h1 <;> first | omega | (have hb := HBT.out k h1; omega)))
 have Hx63 := hid (Hx53.out.mod hmr (by intro k h1 h2; rcases h1 with h1 | h1 <;> first | omega | (have hb := HBT.out k h1; omega)))
 have Hx64 := hid (Hx54.out.mod hmr (by intro k h1 h2; rcases h1 with h1 | h1 <;> first | omega | (have hb := HBT.out k h1; omega)))
 have Hx65 := hid (Hx55.out.mod hmr (by intro k h1 h2; rcases h1 with h1 | h1 <;> first | omega | (have hb := HBT.out k h1; omega)))
 clear Hx48 Hx49 Hx50 Hx51 Hx52 Hx53 Hx54 Hx55
 clear hmr
 have Cx66 := hid (Cx56.out.goM hm hr (fun _ _ h => h))
 clear Cx56 hm hr Z act E qB1 Hx47
 refine QChain.go fun Z act E => ?_
 refine qc_store rfl (wanted_none rfl) rfl Hx57.out (off := 289) (vs := [.int .i64 x.dc.ba.ep, .int .u64 (x.dc.ba.tm : Nat), f_ps, f_os, f_ts]) (by kernel_rfl) HOf.out (by rw [List.size_toArray, flat_sum, (Mg.lens HOK.out HLn5.out HLn10.out rfl (show (x.op.cells v_o).length = 34 from HC15.out) rfl)]; show 289 + 5 ≤ 295; decide) (E.d 22) (ec (chv (v := .agg #[.int .i64 x.dc.ba.ep, .int .u64 (x.dc.ba.tm : Nat), f_ps, f_os, f_ts]) (E.d 13))) ?_
 intro u1_8a qc0 hm
 have qB1 := qc0.eqv (b := ((Mg.segs x cn5 cn10 (x.pr.cells e_ps e_os e_ts) (x.op.cells v_o) (x.dc.cells f_ps f_os f_ts d_l)).flatten : List Value).toArray) ((lay_sub (Mg.lens HOK.out HLn5.out HLn10.out rfl (show (x.op.cells v_o).length = 34 from HC15.out) rfl) 18 rfl (o := 287) (k := 2) (n := 5) rfl rfl rfl (by show 2 + 5 ≤ 8; decide)).trans rfl)
 clear qc0
 have zu1_8a := hm.size
 refine ⟨hm.mono (by intro k hk h; omega), (fun _ => rfl), ?_⟩
 intro u1_8 hr
 have zu1_8 := hr.size
 have Hx67 := hid (qB1.mod hr (by intro h2; omega))
 have hmr := hm.two hr
 have Hx68 := hid (Hx58.out.mod hmr (by intro k h1 h2; rcases h1 with h1 | h1 <;> first | omega | (have hb := HBT.out k h1; omega)))
 have Hx69 := hid (Hx59.out.mod hmr (by intro k h1 h2; rcases h1 with h1 | h1 <;> first | omega | (have hb := HBT.out k h1; omega)))
 have Hx70 := hid (Hx60.out.mod hmr (by intro k h1 h2; rcases h1 with h1 | h1 <;> first | omega | (have hb := HBT.out k h1; omega)))
 have Hx71 := hid (Hx61.out.mod hmr (by intro k h1 h2; rcases h1 with h1 | h1 <;> first | omega | (have hb := HBT.out k h1; omega)))
 have Hx72 := hid (Hx62.out.mod hmr (by intro k h1 h2; rcases h1 with h1 | h1 <;> first | omega | (have hb := HBT.out k h1; omega)))
 have Hx73 := hid (Hx63.out.mod hmr (by intro k h1 h2; rcases h1 with h1 | h1 <;> first | omega | (have hb := HBT.out k h1; omega)))
 have Hx74 := hid (Hx64.out.mod hmr (by intro k h1 h2; rcases h1 with h1 | h1 <;> first | omega | (have hb := HBT.out k h1; omega)))
 have Hx75 := hid (Hx65.out.mod hmr (by intro k h1 h2; rcases h1 with h1 | h1 <;> first | omega | (have hb := HBT.out k h1; omega)))
 clear Hx58 Hx59 Hx60 Hx61 Hx62 Hx63 Hx64 Hx65
 clear hmr
 have Cx76 := hid (Cx66.out.goM hm hr (fun _ _ h => h))
 clear Cx66 hm hr Z act E qB1 Hx57
 refine QChain.nil fun vs hl hzz hrows hne => ?_
 obtain ⟨Z, hYZ, hZb, hV⟩ := hzz
 have f2 := fvc hV hl 2
 have f5 := fvc hV hl 5
 have f9 := fvc hV hl 9
 have f13 := fvc hV hl 13
 rw [show vs = [gw vs 0, gw vs 1, gw vs 2, gw vs 3, gw vs 4, gw vs 5, gw vs 6, gw vs 7, gw vs 8, gw vs 9, gw vs 10, gw vs 11, gw vs 12, gw vs 13, gw vs 14, gw vs 15, gw vs 16, gw vs 17, gw vs 18, gw vs 19, gw vs 20, gw vs 21, gw vs 22, gw vs 23] from (gw_eta hl).trans rfl]
 have ha0 := HA0.out
 subst ha0
 clear HA0 hV hYZ hZb hsz0 hrows hne oe1
 simp only [putAll, Act.put, sIB, sCZ, sCS, List.set_nil, f2, f5, f9, f13]
 clear hl f2 f5 f9 f13
 go_upto_region 2 with (fail)
 refine wp_region_U 50 [23, 24, 25, 26, 27, 28, 56] [0, 1, 2, 3, 4, 5, 6] (fun a0 HA0 => ?_)
 have oe1 := ev HA0 1 rfl
 refine QSeq.pure rfl (.pointer (some ⟨w.heap.size, 248, none⟩)) (fun E => ex_field rfl Tryz.underlying61 rfl (by kernel_rfl) (E.v oe1)) ?_
 refine QSeq.pure rfl (.pointer (some ⟨w.heap.size, 249, none⟩)) (fun E => ex_field rfl Tryz.underlying54 rfl (by kernel_rfl) (E.d 0 0)) ?_
 refine QSeq.pure rfl (v_o) (fun E => ex_load1 rfl Tryz.underlying52 rfl (E.d 1 0) (Cs.seg1 Hx67.out (Mg.lens HOK.out HLn5.out HLn10.out rfl (show (x.op.cells v_o).length = 34 from HC15.out) rfl) 15 rfl (o := 248) (k := 1) rfl rfl rfl)) ?_
 refine QSeq.call rfl rfl Tryz.func10 (Cut_R 260 (Hx3.out.mod Cx76.out (sB HBT)) (by decide)) (fun E => args2 (E.d 2 0) rfl) ?_
 rintro e u2_3 ⟨v_o2, rfl, qoc, hm⟩
 obtain ⟨ao_o, cap_o, rfl⟩ := qoc.shape
 refine ⟨_, rfl, ?_⟩
 have Hx77 := hid qoc
 have zu2_3 := hm.size
 have Cx78 := hid (show Mod (fun _ => False) u1_8 u2_3 from hm)
 clear hm
 clear qoc
 refine QSeq.pure rfl (.pointer (some ⟨w.heap.size, 248, none⟩)) (fun E => ex_field rfl Tryz.underlying61 rfl (by kernel_rfl) (E.v oe1)) ?_
 refine QSeq.pure rfl (.pointer (some ⟨w.heap.size, 249, none⟩)) (fun E => ex_field rfl Tryz.underlying54 rfl (by kernel_rfl) (E.d 4 0)) ?_
 refine QSeq.go fun act E => ?_
 refine qc_store rfl (wanted_none rfl) rfl (Hx67.out.mod Cx78.out (fun h => h)) (off := 249) (vs := [Value.slice ao_o (x.op.pl.take 260).length cap_o]) (by kernel_rfl) one1 (by rw [List.size_toArray, flat_sum, (Mg.lens HOK.out HLn5.out HLn10.out rfl (show (x.op.cells v_o).length = 34 from HC15.out) rfl)]; show 249 + 1 ≤ 295; decide) (E.d 5 0) (ec (E.d 3 2)) ?_
 intro u2_6 qc0 hm
 have qB1 := qc0.eqv (b := ((Mg.segs x cn5 cn10 (x.pr.cells e_ps e_os e_ts) (x.op.cells (Value.slice ao_o (x.op.pl.take 260).length cap_o)) (x.dc.cells f_ps f_os f_ts d_l)).flatten : List Value).toArray) ((lay_sub (Mg.lens HOK.out HLn5.out HLn10.out rfl (show (x.op.cells v_o).length = 34 from HC15.out) rfl) 15 rfl (o := 248) (k := 1) (n := 1) rfl rfl rfl (by rw [show (x.op.cells _).length = 34 from HC15.out]; decide)).trans rfl)
 clear qc0
 have Hx79 := hid qB1
 have zu2_6 := hm.size
 have HMu2_6 := hid hm
 have Cx80 := hid (Mod.goS (S' := (fun k => (k = w.heap.size))) Cx78.out hm (fun _ h => h.elim) (by intro k h0 h2; exact h2))
 clear hm Cx78
 clear act E qB1 Hx67
 have Hx81 := hid (Hx77.out.mod HMu2_6.out (by intro k h1 h2; omega))
 clear Hx77 HMu2_6
 refine QSeq.nil (t' := [_, _, _, _, _, _, _]) rfl ?_
 obtain rfl := HA0.out
 clear HA0 oe1
 simp only [pz, Act.put, sIB, sCZ, sCS, List.set_nil]
 go_upto_region 3 with (fail)
 refine wp_region_U 50 [29, 30, 31, 32, 33, 34, 56] [0, 1, 2, 3, 4, 5, 6] (fun a0 HA0 => ?_)
 have oe1 := ev HA0 1 rfl
 refine QSeq.pure rfl (.pointer (some ⟨w.heap.size, 287, none⟩)) (fun E => ex_field rfl Tryz.underlying61 rfl (by kernel_rfl) (E.v oe1)) ?_
 refine QSeq.pure rfl (.pointer (some ⟨w.heap.size, 294, none⟩)) (fun E => ex_field rfl Tryz.underlying59 rfl (by kernel_rfl) (E.d 0 0)) ?_
 refine QSeq.pure rfl (d_l) (fun E => ex_load1 rfl Tryz.underlying57 rfl (E.d 1 0) (Cs.seg1 Hx79.out (Mg.lens HOK.out HLn5.out HLn10.out rfl (show (x.op.cells (Value.slice ao_o (x.op.pl.take 260).length cap_o)).length = 34 from HC15.out) rfl) 18 rfl (o := 287) (k := 7) rfl rfl rfl)) ?_
 refine QSeq.call rfl rfl Tryz.func40 (Cut_Vt _ _ x.dc.l 5 _ ((Hx10.out.mod Cx76.out (sB HBT)).mod Cx80.out (sB HBT)) (by intro k h1; have hb := HBT.out k h1; omega) (by omega)) (fun E => args2 (E.d 2 0) rfl) ?_
 rintro e u3_3 ⟨v_v2, rfl, qvc, hm⟩
 obtain ⟨ao_v, cap_v, rfl⟩ := qvc.shape
 refine ⟨_, rfl, ?_⟩
 have Hx82 := hid (qvc.widen (R' := (fun k => (New u2_6 u3_3 k))) (E' := (fun k => (R2 k))) (fun _ h => h) (fun _ h => h))
 have zu3_3 := hm.size
 have Cx83 := hid (show Mod (fun _ => False) u2_6 u3_3 from hm)
 clear hm
 clear qvc
 refine QSeq.pure rfl (.pointer (some ⟨w.heap.size, 287, none⟩)) (fun E => ex_field rfl Tryz.underlying61 rfl (by kernel_rfl) (E.v oe1)) ?_
 refine QSeq.pure rfl (.pointer (some ⟨w.heap.size, 294, none⟩)) (fun E => ex_field rfl Tryz.underlying59 rfl (by kernel_rfl) (E.d 4 0)) ?_
 refine QSeq.go fun act E => ?_
 refine qc_store rfl (wanted_none rfl) rfl (Hx79.out.mod Cx83.out (fun h => h)) (off := 294) (vs := [Value.slice ao_v (x.dc.l.take 5).length cap_v]) (by kernel_rfl) one1 (by rw [List.size_toArray, flat_sum, (Mg.lens HOK.out HLn5.out HLn10.out rfl (show (x.op.cells (Value.slice ao_o (x.op.pl.take 260).length cap_o)).length = 34 from HC15.out) rfl)]; show 294 + 1 ≤ 295; decide) (E.d 5 0) (ec (E.d 3 2)) ?_
 intro u3_6 qc0 hm
 have qB1 := qc0.eqv (b := ((Mg.segs x cn5 cn10 (x.pr.cells e_ps e_os e_ts) (x.op.cells (Value.slice ao_o (x.op.pl.take 260).length cap_o)) (x.dc.cells f_ps f_os f_ts (Value.slice ao_v (x.dc.l.take 5).length cap_v))).flatten : List Value).toArray) ((lay_sub (Mg.lens HOK.out HLn5.out HLn10.out rfl (show (x.op.cells (Value.slice ao_o (x.op.pl.take 260).length cap_o)).length = 34 from HC15.out) rfl) 18 rfl (o := 287) (k := 7) (n := 1) rfl rfl rfl (by show 7 + 1 ≤ 8; decide)).trans rfl)
 clear qc0
 have Hx84 := hid qB1
 have zu3_6 := hm.size
 have HMu3_6 := hid hm
 have Cx85 := hid (Mod.goS (S' := (fun k => (k = w.heap.size))) Cx83.out hm (fun _ h => h.elim) (by intro k h0 h2; exact h2))
 clear hm Cx83
 clear act E qB1 Hx79
 have Hx86 := hid (Hx82.out.mod HMu3_6.out (by intro k h1 h2; omega) (sB HBT))
 clear Hx82 HMu3_6
 refine QSeq.nil (t' := [_, _, _, _, _, _, _]) rfl ?_
 obtain rfl := HA0.out
 clear HA0 oe1
 simp only [pz, Act.put, sIB, sCZ, sCS, List.set_nil]
 by_cases hn : 260 < x.rp.size
 ·skip
  go_upto_region 4 with (fail)
  refine wp_region_U 50 [35, 36, 37, 38] [0, 1, 2, 3] (fun a0 HA0 => ?_)
  have oe1 := ev HA0 1 rfl
  refine QSeq.pure rfl (.pointer (some ⟨w.heap.size, 286, none⟩)) (fun E => ex_field rfl Tryz.underlying61 rfl (by kernel_rfl) (E.v oe1)) ?_
  refine QSeq.pure rfl (.string x.rp) (fun E => ex_load1 rfl Tryz.underlying9 rfl (E.d 0 0) (Cs.seg1 Hx84.out (Mg.lens HOK.out HLn5.out HLn10.out rfl (show (x.op.cells (Value.slice ao_o (x.op.pl.take 260).length cap_o)).length = 34 from HC15.out) rfl) 17 rfl (o := 286) (k := 0) rfl rfl rfl)) ?_
  refine QSeq.pure rfl (.int .i64 ((x.rp.size : Nat) : Int)) (fun E => ex_lenStr rfl (E.d 1 0) Tryz.underlying9) ?_
  refine QSeq.pure rfl (.bool true) (fun E => ex_binE rfl (E.d 2 0) rfl (guard_ints _ _ _ _ _ _) (run_gtr_i _ _ _ Tryz.underlying3) (congrArg Value.bool (decide_eq_true (by omega)))) ?_
  refine QSeq.nil (t' := [_, _, _, _]) rfl ?_
  obtain rfl := HA0.out
  clear HA0 oe1
  simp only [pz, Act.put, sIB, sCZ, sCS]
  go_upto_region 5 with (fail)
  refine wp_region_U 50 [39, 40, 41, 42, 54] [0, 1, 2, 3, 4] (fun a0 HA0 => ?_)
  have oe1 := ev HA0 1 rfl
  refine QSeq.pure rfl (.pointer (some ⟨w.heap.size, 286, none⟩)) (fun E => ex_field rfl Tryz.underlying61 rfl (by kernel_rfl) (E.v oe1)) ?_
  refine QSeq.pure rfl (.string x.rp) (fun E => ex_load1 rfl Tryz.underlying9 rfl (E.d 0 0) (Cs.seg1 Hx84.out (Mg.lens HOK.out HLn5.out HLn10.out rfl (show (x.op.cells (Value.slice ao_o (x.op.pl.take 260).length cap_o)).length = 34 from HC15.out) rfl) 17 rfl (o := 286) (k := 0) rfl rfl rfl)) ?_
  refine QSeq.pure rfl (.string (x.rp.extract 0 260)) (fun E => ex_sliceStr (i := 260) rfl Tryz.underlying9 (E.d 1 0) rfl (by omega)) ?_
  refine QSeq.pure rfl (.pointer (some ⟨w.heap.size, 286, none⟩)) (fun E => ex_field rfl Tryz.underlying61 rfl (by kernel_rfl) (E.v oe1)) ?_
  refine QSeq.go fun act E => ?_
  refine qc_store rfl (wanted_none rfl) rfl Hx84.out (off := 286) (vs := [Value.string (x.rp.extract 0 260)]) (by kernel_rfl) one1 (by rw [List.size_toArray, flat_sum, (Mg.lens HOK.out HLn5.out HLn10.out rfl (show (x.op.cells (Value.slice ao_o (x.op.pl.take 260).length cap_o)).length = 34 from HC15.out) rfl)]; show 286 + 1 ≤ 295; decide) (E.d 3 0) (ec (E.d 2 1)) ?_
  intro u5_4 qc0 hm
  have qB1 := qc0.eqv (b := ((Mg.segs ({ x with rp := x.rp.extract 0 260 } : Mg) cn5 cn10 (x.pr.cells e_ps e_os e_ts) (x.op.cells (Value.slice ao_o (x.op.pl.take 260).length cap_o)) (x.dc.cells f_ps f_os f_ts (Value.slice ao_v (x.dc.l.take 5).length cap_v))).flatten : List Value).toArray) ((lay_sub (Mg.lens HOK.out HLn5.out HLn10.out rfl (show (x.op.cells (Value.slice ao_o (x.op.pl.take 260).length cap_o)).length = 34 from HC15.out) rfl) 17 rfl (o := 286) (k := 0) (n := 1) rfl rfl rfl (by show 0 + 1 ≤ 1; decide)).trans rfl)
  clear qc0
  have Hx87 := hid qB1
  have zu5_4 := hm.size
  have Cx88 := hid (show Mod (fun k => (k = w.heap.size)) u3_6 u5_4 from hm)
  clear hm
  clear act E qB1 Hx84
  refine QSeq.nil (t' := [_, _, _, _, _]) rfl ?_
  obtain rfl := HA0.out
  clear HA0 oe1
  simp only [pz, Act.put, sIB, sCZ, sCS, List.set_nil]
  by_cases hv : x.pr.vl = 9223372036854775807
  ·have HV := Lib.hid hv
   clear hv
   go_upto_region 6 with (fail)
   refine wp_region_U 50 [43, 44, 45, 46] [0, 1, 2, 3] (fun a0 HA0 => ?_)
   have oe1 := ev HA0 1 rfl
   refine QSeq.pure rfl (.pointer (some ⟨w.heap.size, 163, none⟩)) (fun E => ex_field rfl Tryz.underlying61 rfl (by kernel_rfl) (E.v oe1)) ?_
   refine QSeq.pure rfl (.pointer (some ⟨w.heap.size, 165, none⟩)) (fun E => ex_field rfl Tryz.underlying47 rfl (by kernel_rfl) (E.d 0 0)) ?_
   refine QSeq.pure rfl (.int .i64 x.pr.vl) (fun E => ex_load1 rfl Tryz.underlying3 rfl (E.d 1 0) (Cs.seg1 Hx87.out (show (Mg.segs ({ x with rp := x.rp.extract 0 260 } : Mg) cn5 cn10 (x.pr.cells e_ps e_os e_ts) (x.op.cells (Value.slice ao_o (x.op.pl.take 260).length cap_o)) (x.dc.cells f_ps f_os f_ts (Value.slice ao_v (x.dc.l.take 5).length cap_v))).map List.length = mgN from (Mg.lens HOK.out HLn5.out HLn10.out rfl (show (x.op.cells (Value.slice ao_o (x.op.pl.take 260).length cap_o)).length = 34 from HC15.out) rfl)) 11 rfl (o := 163) (k := 2) rfl rfl rfl)) ?_
   refine QSeq.pure rfl (.bool true) (fun E => ex_binE rfl (E.d 2 0) rfl (guard_ints _ _ _ _ _ _) (run_eql_i _ _ _ Tryz.underlying3) (congrArg Value.bool (eq_tt HV.out))) ?_
   refine QSeq.nil (t' := [_, _, _, _]) rfl ?_
   obtain rfl := HA0.out
   clear HA0 oe1
   simp only [pz, Act.put, sIB, sCZ, sCS]
   go_upto_region 7 with (fail)
   refine wp_region_U 50 [47, 48, 52] [0, 1, 2] (fun a0 HA0 => ?_)
   have oe1 := ev HA0 1 rfl
   refine QSeq.pure rfl (.pointer (some ⟨w.heap.size, 163, none⟩)) (fun E => ex_field rfl Tryz.underlying61 rfl (by kernel_rfl) (E.v oe1)) ?_
   refine QSeq.pure rfl (.pointer (some ⟨w.heap.size, 165, none⟩)) (fun E => ex_field rfl Tryz.underlying47 rfl (by kernel_rfl) (E.d 0 0)) ?_
   refine QSeq.go fun act E => ?_
   refine qc_store rfl (wanted_none rfl) rfl Hx87.out (off := 165) (vs := [.int .i64 0]) (by kernel_rfl) one1 (by rw [List.size_toArray, flat_sum, (show (Mg.segs ({ x with rp := x.rp.extract 0 260 } : Mg) cn5 cn10 (x.pr.cells e_ps e_os e_ts) (x.op.cells (Value.slice ao_o (x.op.pl.take 260).length cap_o)) (x.dc.cells f_ps f_os f_ts (Value.slice ao_v (x.dc.l.take 5).length cap_v))).map List.length = mgN from (Mg.lens HOK.out HLn5.out HLn10.out rfl (show (x.op.cells (Value.slice ao_o (x.op.pl.take 260).length cap_o)).length = 34 from HC15.out) rfl))]; show 165 + 1 ≤ 295; decide) (E.d 1 0) (ec rfl) ?_
   intro u7_2 qc0 hm
   have qB1 := qc0.eqv (b := ((Mg.segs ({ x with rp := x.rp.extract 0 260 } : Mg) cn5 cn10 (Pr.cells { x.pr with vl := 0 } e_ps e_os e_ts) (x.op.cells (Value.slice ao_o (x.op.pl.take 260).length cap_o)) (x.dc.cells f_ps f_os f_ts (Value.slice ao_v (x.dc.l.take 5).length cap_v))).flatten : List Value).toArray) ((lay_sub (show (Mg.segs ({ x with rp := x.rp.extract 0 260 } : Mg) cn5 cn10 (x.pr.cells e_ps e_os e_ts) (x.op.cells (Value.slice ao_o (x.op.pl.take 260).length cap_o)) (x.dc.cells f_ps f_os f_ts (Value.slice ao_v (x.dc.l.take 5).length cap_v))).map List.length = mgN from (Mg.lens HOK.out HLn5.out HLn10.out rfl (show (x.op.cells (Value.slice ao_o (x.op.pl.take 260).length cap_o)).length = 34 from HC15.out) rfl)) 11 rfl (o := 163) (k := 2) (n := 1) rfl rfl rfl (by show 2 + 1 ≤ 11; decide)).trans rfl)
   clear qc0
   have Hx89 := hid qB1
   have zu7_2 := hm.size
   have Cx90 := hid (show Mod (fun k => (k = w.heap.size)) u5_4 u7_2 from hm)
   clear hm
   clear act E qB1 Hx87
   refine QSeq.nil (t' := [_, _, _]) rfl ?_
   obtain rfl := HA0.out
   clear HA0 oe1
   simp only [pz, Act.put, sIB, sCZ, sCS, List.set_nil]
   have HSZ := hid (show ((Mg.segs ({ x with rp := x.rp.extract 0 260 } : Mg) cn5 cn10 (Pr.cells { x.pr with vl := 0 } e_ps e_os e_ts) (x.op.cells (Value.slice ao_o (x.op.pl.take 260).length cap_o)) (x.dc.cells f_ps f_os f_ts (Value.slice ao_v (x.dc.l.take 5).length cap_v))).flatten).length = 295 by rw [flat_sum, show (Mg.segs ({ x with rp := x.rp.extract 0 260 } : Mg) cn5 cn10 (Pr.cells { x.pr with vl := 0 } e_ps e_os e_ts) (x.op.cells (Value.slice ao_o (x.op.pl.take 260).length cap_o)) (x.dc.cells f_ps f_os f_ts (Value.slice ao_v (x.dc.l.take 5).length cap_v))).map List.length = mgN from (Mg.lens HOK.out HLn5.out HLn10.out rfl (show (x.op.cells (Value.slice ao_o (x.op.pl.take 260).length cap_o)).length = 34 from HC15.out) rfl)]; rfl)
   have HES := hid (show smallM x = { ({ x with rp := x.rp.extract 0 260 } : Mg) with ce := cutCe x.ce, pm := cutPm x.pm, pr := { x.pr with ba := cutBa x.pr.ba, vl := 0 }, op := cutOp x.op, dc := { x.dc with ba := cutBa x.dc.ba, l := x.dc.l.take 5 } } by unfold smallM; rw [show cutRp x.rp = x.rp.extract 0 260 from if_pos hn, show cutVl x.pr.vl = 0 from if_pos HV.out])
   have HRM := hid (show MgR.rd (fun k => (R2 k) ∨ (New w1 u7_2 k)) u7_2 ((Mg.segs ({ x with rp := x.rp.extract 0 260 } : Mg) cn5 cn10 (Pr.cells { x.pr with vl := 0 } e_ps e_os e_ts) (x.op.cells (Value.slice ao_o (x.op.pl.take 260).length cap_o)) (x.dc.cells f_ps f_os f_ts (Value.slice ao_v (x.dc.l.take 5).length cap_v))).flatten) (smallM x) from HES.out ▸ ⟨_, _, _, _, _, rfl, { HOK.out with }, ((((Hx68.out.mod Cx80.out (by intro k h1 h2; rcases h1 with h1 | h1 <;> first | omega | (have hb := HBT.out k h1; omega))).mod Cx85.out (by intro k h1 h2; rcases h1 with h1 | h1 <;> first | omega | (have hb := HBT.out k h1; omega))).mod Cx88.out (by intro k h1 h2; rcases h1 with h1 | h1 <;> first | omega | (have hb := HBT.out k h1; omega))).mod Cx90.out (by intro k h1 h2; rcases h1 with h1 | h1 <;> first | omega | (have hb := HBT.out k h1; omega))).widen (by intro k h1; rcases h1 with h1 | h1 <;> first | exact Or.inl h1 | (right; omega)), ((((Hx69.out.mod Cx80.out (by intro k h1 h2; rcases h1 with h1 | h1 <;> first | omega | (have hb := HBT.out k h1; omega))).mod Cx85.out (by intro k h1 h2; rcases h1 with h1 | h1 <;> first | omega | (have hb := HBT.out k h1; omega))).mod Cx88.out (by intro k h1 h2; rcases h1 with h1 | h1 <;> first | omega | (have hb := HBT.out k h1; omega))).mod Cx90.out (by intro k h1 h2; rcases h1 with h1 | h1 <;> first | omega | (have hb := HBT.out k h1; omega))).widen (by intro k h1; rcases h1 with h1 | h1 <;> first | exact Or.inl h1 | (right; omega)), ⟨_, _, _, rfl, ⟨HOP.out.1, HOP.out.2.1, I64_0, HOP.out.2.2.2⟩, ((((Hx70.out.mod Cx80.out (by intro k h1 h2; rcases h1 with h1 | h1 <;> first | omega | (have hb := HBT.out k h1; omega))).mod Cx85.out (by intro k h1 h2; rcases h1 with h1 | h1 <;> first | omega | (have hb := HBT.out k h1; omega))).mod Cx88.out (by intro k h1 h2; rcases h1 with h1 | h1 <;> first | omega | (have hb := HBT.out k h1; omega))).mod Cx90.out (by intro k h1 h2; rcases h1 with h1 | h1 <;> first | omega | (have hb := HBT.out k h1; omega))).widen (by intro k h1; rcases h1 with h1 | h1 <;> first | exact Or.inl h1 | (right; omega)), ((((Hx71.out.mod Cx80.out (by intro k h1 h2; rcases h1 with h1 | h1 <;> first | omega | (have hb := HBT.out k h1; omega))).mod Cx85.out (by intro k h1 h2; rcases h1 with h1 | h1 <;> first | omega | (have hb := HBT.out k h1; omega))).mod Cx88.out (by intro k h1 h2; rcases h1 with h1 | h1 <;> first | omega | (have hb := HBT.out k h1; omega))).mod Cx90.out (by intro k h1 h2; rcases h1 with h1 | h1 <;> first | omega | (have hb := HBT.out k h1; omega))).widen (by intro k h1; rcases h1 with h1 | h1 <;> first | exact Or.inl h1 | (right; omega)), ((((Hx72.out.mod Cx80.out (by intro k h1 h2; rcases h1 with h1 | h1 <;> first | omega | (have hb := HBT.out k h1; omega))).mod Cx85.out (by intro k h1 h2; rcases h1 with h1 | h1 <;> first | omega | (have hb := HBT.out k h1; omega))).mod Cx88.out (by intro k h1 h2; rcases h1 with h1 | h1 <;> first | omega | (have hb := HBT.out k h1; omega))).mod Cx90.out (by intro k h1 h2; rcases h1 with h1 | h1 <;> first | omega | (have hb := HBT.out k h1; omega))).widen (by intro k h1; rcases h1 with h1 | h1 <;> first | exact Or.inl h1 | (right; omega))⟩, ⟨_, rfl, HOO.out, RdR_len ((((Hx81.out.mod Cx85.out (by intro k h1 h2; omega)).mod Cx88.out (by intro k h1 h2; omega)).mod Cx90.out (by intro k h1 h2; omega)).rd.widen (by intro k h1; (try dsimp only at h1 ⊢); right; omega) (Nat.le_refl _))⟩, ⟨_, _, _, _, rfl, HOD.out, ((((Hx73.out.mod Cx80.out (by intro k h1 h2; rcases h1 with h1 | h1 <;> first | omega | (have hb := HBT.out k h1; omega))).mod Cx85.out (by intro k h1 h2; rcases h1 with h1 | h1 <;> first | omega | (have hb := HBT.out k h1; omega))).mod Cx88.out (by intro k h1 h2; rcases h1 with h1 | h1 <;> first | omega | (have hb := HBT.out k h1; omega))).mod Cx90.out (by intro k h1 h2; rcases h1 with h1 | h1 <;> first | omega | (have hb := HBT.out k h1; omega))).widen (by intro k h1; rcases h1 with h1 | h1 <;> first | exact Or.inl h1 | (right; omega)), ((((Hx74.out.mod Cx80.out (by intro k h1 h2; rcases h1 with h1 | h1 <;> first | omega | (have hb := HBT.out k h1; omega))).mod Cx85.out (by intro k h1 h2; rcases h1 with h1 | h1 <;> first | omega | (have hb := HBT.out k h1; omega))).mod Cx88.out (by intro k h1 h2; rcases h1 with h1 | h1 <;> first | omega | (have hb := HBT.out k h1; omega))).mod Cx90.out (by intro k h1 h2; rcases h1 with h1 | h1 <;> first | omega | (have hb := HBT.out k h1; omega))).widen (by intro k h1; rcases h1 with h1 | h1 <;> first | exact Or.inl h1 | (right; omega)), ((((Hx75.out.mod Cx80.out (by intro k h1 h2; rcases h1 with h1 | h1 <;> first | omega | (have hb := HBT.out k h1; omega))).mod Cx85.out (by intro k h1 h2; rcases h1 with h1 | h1 <;> first | omega | (have hb := HBT.out k h1; omega))).mod Cx88.out (by intro k h1 h2; rcases h1 with h1 | h1 <;> first | omega | (have hb := HBT.out k h1; omega))).mod Cx90.out (by intro k h1 h2; rcases h1 with h1 | h1 <;> first | omega | (have hb := HBT.out k h1; omega))).widen (by intro k h1; rcases h1 with h1 | h1 <;> first | exact Or.inl h1 | (right; omega)), ((Hx86.out.mod Cx88.out (by intro k h1 h2; omega) (sB HBT)).mod Cx90.out (by intro k h1 h2; omega) (sB HBT)).rd.widen (by intro k h1; (try dsimp only at h1 ⊢); rcases h1 with h1 | h1 <;> first | exact Or.inl h1 | (right; omega))⟩⟩)
   have HON := hid (MgR.one HRM.out)
   clear Hx68
   clear Hx69
   clear Hx70
   clear Hx71
   clear Hx72
   clear Hx73
   clear Hx74
   clear Hx75
   clear Hx86
   clear Hx81
   go_upto_region 8 with (fail)
   refine wp_region_U 50 [49, 51] [0, 1] (fun a0 HA0 => ?_)
   have oe1 := ev HA0 1 rfl
   have oe2 := ev HA0 2 rfl
   refine QSeq.pure rfl _ (fun E => ex_loadA rfl Tryz.underlying61 rfl (off := 0) (cs := ((Mg.segs ({ x with rp := x.rp.extract 0 260 } : Mg) cn5 cn10 (Pr.cells { x.pr with vl := 0 } e_ps e_os e_ts) (x.op.cells (Value.slice ao_o (x.op.pl.take 260).length cap_o)) (x.dc.cells f_ps f_os f_ts (Value.slice ao_v (x.dc.l.take 5).length cap_v))).flatten)) (by rw [HSZ.out]; kernel_rfl) (E.v oe1) (Cs.whole Hx89.out)) ?_
   refine QSeq.go fun act E => ?_
   refine qc_store rfl (wanted_none rfl) rfl (((((HB2.out.mod Cx76.out (by intro h2; omega)).mod Cx80.out (by intro h2; omega)).mod Cx85.out (by intro h2; omega)).mod Cx88.out (by intro h2; omega)).mod Cx90.out (by intro h2; omega)) (off := 0) (vs := ((Mg.segs ({ x with rp := x.rp.extract 0 260 } : Mg) cn5 cn10 (Pr.cells { x.pr with vl := 0 } e_ps e_os e_ts) (x.op.cells (Value.slice ao_o (x.op.pl.take 260).length cap_o)) (x.dc.cells f_ps f_os f_ts (Value.slice ao_v (x.dc.l.take 5).length cap_v))).flatten)) (by rw [HSZ.out]; kernel_rfl) HON.out (by rw [HSZ.out]; show 0 + 295 ≤ 295; decide) (E.v oe2) (ec (E.d 0 0)) ?_
   intro u8_1 qc0 hm
   have qB2 := qc0.eqv (b := (((Mg.segs ({ x with rp := x.rp.extract 0 260 } : Mg) cn5 cn10 (Pr.cells { x.pr with vl := 0 } e_ps e_os e_ts) (x.op.cells (Value.slice ao_o (x.op.pl.take 260).length cap_o)) (x.dc.cells f_ps f_os f_ts (Value.slice ao_v (x.dc.l.take 5).length cap_v))).flatten) : List Value).toArray) (lay_whole _ _ (by rw [HSZ.out]; rfl))
   clear qc0
   have Hx91 := hid qB2
   have zu8_1 := hm.size
   have Cx92 := hid (show Mod (fun k => (k = w.heap.size + 1)) u7_2 u8_1 from hm)
   clear hm
   clear act E qB2 HB2
   refine QSeq.nil (t' := [_, _]) rfl ?_
   obtain rfl := HA0.out
   clear HA0 oe1 oe2
   simp only [pz, Act.put, sIB, sCZ, sCS, List.set_nil]
   go_wp2
   exact bodyPost_ret (results_cellA rfl _ _ (w.heap.size + 1) ((Mg.segs ({ x with rp := x.rp.extract 0 260 } : Mg) cn5 cn10 (Pr.cells { x.pr with vl := 0 } e_ps e_os e_ts) (x.op.cells (Value.slice ao_o (x.op.pl.take 260).length cap_o)) (x.dc.cells f_ps f_os f_ts (Value.slice ao_v (x.dc.l.take 5).length cap_v))).flatten) rfl (fun k u hu => by rw [Hx91.out.cell]; simpa using hu) Tryz.underlying61 rfl (by rw [HSZ.out]; kernel_rfl)) rfl ⟨_, rfl, (HRM.out.mod Cx92.out (by intro k h1 h2; rcases h1 with h1 | h1 <;> first | omega | (have hb := HBT.out k h1; omega))).widen (by intro k h1; rcases h1 with h1 | h1 <;> first | exact Or.inl h1 | (right; omega)), ((((((HM0.out.trans Cx76.out (by intro k h1 h2; omega)).trans Cx80.out (by intro k h1 h2; omega)).trans Cx85.out (by intro k h1 h2; omega)).trans Cx88.out (by intro k h1 h2; omega)).trans Cx90.out (by intro k h1 h2; omega)).trans Cx92.out (by intro k h1 h2; omega))⟩
  have HV := Lib.hid hv
  clear hv
  go_upto_region 6 with (fail)
  refine wp_region_U 50 [43, 44, 45, 46] [0, 1, 2, 3] (fun a0 HA0 => ?_)
  have oe1 := ev HA0 1 rfl
  refine QSeq.pure rfl (.pointer (some ⟨w.heap.size, 163, none⟩)) (fun E => ex_field rfl Tryz.underlying61 rfl (by kernel_rfl) (E.v oe1)) ?_
  refine QSeq.pure rfl (.pointer (some ⟨w.heap.size, 165, none⟩)) (fun E => ex_field rfl Tryz.underlying47 rfl (by kernel_rfl) (E.d 0 0)) ?_
  refine QSeq.pure rfl (.int .i64 x.pr.vl) (fun E => ex_load1 rfl Tryz.underlying3 rfl (E.d 1 0) (Cs.seg1 Hx87.out (show (Mg.segs ({ x with rp := x.rp.extract 0 260 } : Mg) cn5 cn10 (x.pr.cells e_ps e_os e_ts) (x.op.cells (Value.slice ao_o (x.op.pl.take 260).length cap_o)) (x.dc.cells f_ps f_os f_ts (Value.slice ao_v (x.dc.l.take 5).length cap_v))).map List.length = mgN from (Mg.lens HOK.out HLn5.out HLn10.out rfl (show (x.op.cells (Value.slice ao_o (x.op.pl.take 260).length cap_o)).length = 34 from HC15.out) rfl)) 11 rfl (o := 163) (k := 2) rfl rfl rfl)) ?_
  refine QSeq.pure rfl (.bool false) (fun E => ex_binE rfl (E.d 2 0) rfl (guard_ints _ _ _ _ _ _) (run_eql_i _ _ _ Tryz.underlying3) (congrArg Value.bool (eq_ff HV.out))) ?_
  refine QSeq.nil (t' := [_, _, _, _]) rfl ?_
  obtain rfl := HA0.out
  clear HA0 oe1
  simp only [pz, Act.put, sIB, sCZ, sCS]
  have HSZ := hid (show ((Mg.segs ({ x with rp := x.rp.extract 0 260 } : Mg) cn5 cn10 (x.pr.cells e_ps e_os e_ts) (x.op.cells (Value.slice ao_o (x.op.pl.take 260).length cap_o)) (x.dc.cells f_ps f_os f_ts (Value.slice ao_v (x.dc.l.take 5).length cap_v))).flatten).length = 295 by rw [flat_sum, show (Mg.segs ({ x with rp := x.rp.extract 0 260 } : Mg) cn5 cn10 (x.pr.cells e_ps e_os e_ts) (x.op.cells (Value.slice ao_o (x.op.pl.take 260).length cap_o)) (x.dc.cells f_ps f_os f_ts (Value.slice ao_v (x.dc.l.take 5).length cap_v))).map List.length = mgN from (Mg.lens HOK.out HLn5.out HLn10.out rfl (show (x.op.cells (Value.slice ao_o (x.op.pl.take 260).length cap_o)).length = 34 from HC15.out) rfl)]; rfl)
  have HES := hid (show smallM x = { ({ x with rp := x.rp.extract 0 260 } : Mg) with ce := cutCe x.ce, pm := cutPm x.pm, pr := { x.pr with ba := cutBa x.pr.ba, vl := x.pr.vl }, op := cutOp x.op, dc := { x.dc with ba := cutBa x.dc.ba, l := x.dc.l.take 5 } } by unfold smallM; rw [show cutRp x.rp = x.rp.extract 0 260 from if_pos hn, show cutVl x.pr.vl = x.pr.vl from if_neg HV.out])
  have HRM := hid (show MgR.rd (fun k => (R2 k) ∨ (New w1 u5_4 k)) u5_4 ((Mg.segs ({ x with rp := x.rp.extract 0 260 } : Mg) cn5 cn10 (x.pr.cells e_ps e_os e_ts) (x.op.cells (Value.slice ao_o (x.op.pl.take 260).length cap_o)) (x.dc.cells f_ps f_os f_ts (Value.slice ao_v (x.dc.l.take 5).length cap_v))).flatten) (smallM x) from HES.out ▸ ⟨_, _, _, _, _, rfl, { HOK.out with }, (((Hx68.out.mod Cx80.out (by intro k h1 h2; rcases h1 with h1 | h1 <;> first | omega | (have hb := HBT.out k h1; omega))).mod Cx85.out (by intro k h1 h2; rcases h1 with h1 | h1 <;> first | omega | (have hb := HBT.out k h1; omega))).mod Cx88.out (by intro k h1 h2; rcases h1 with h1 | h1 <;> first | omega | (have hb := HBT.out k h1; omega))).widen (by intro k h1; rcases h1 with h1 | h1 <;> first | exact Or.inl h1 | (right; omega)), (((Hx69.out.mod Cx80.out (by intro k h1 h2; rcases h1 with h1 | h1 <;> first | omega | (have hb := HBT.out k h1; omega))).mod Cx85.out (by intro k h1 h2; rcases h1 with h1 | h1 <;> first | omega | (have hb := HBT.out k h1; omega))).mod Cx88.out (by intro k h1 h2; rcases h1 with h1 | h1 <;> first | omega | (have hb := HBT.out k h1; omega))).widen (by intro k h1; rcases h1 with h1 | h1 <;> first | exact Or.inl h1 | (right; omega)), ⟨_, _, _, rfl, HOP.out, (((Hx70.out.mod Cx80.out (by intro k h1 h2; rcases h1 with h1 | h1 <;> first | omega | (have hb := HBT.out k h1; omega))).mod Cx85.out (by intro k h1 h2; rcases h1 with h1 | h1 <;> first | omega | (have hb := HBT.out k h1; omega))).mod Cx88.out (by intro k h1 h2; rcases h1 with h1 | h1 <;> first | omega | (have hb := HBT.out k h1; omega))).widen (by intro k h1; rcases h1 with h1 | h1 <;> first | exact Or.inl h1 | (right; omega)), (((Hx71.out.mod Cx80.out (by intro k h1 h2; rcases h1 with h1 | h1 <;> first | omega | (have hb := HBT.out k h1; omega))).mod Cx85.out (by intro k h1 h2; rcases h1 with h1 | h1 <;> first | omega | (have hb := HBT.out k h1; omega))).mod Cx88.out (by intro k h1 h2; rcases h1 with h1 | h1 <;> first | omega | (have hb := HBT.out k h1; omega))).widen (by intro k h1; rcases h1 with h1 | h1 <;> first | exact Or.inl h1 | (right; omega)), (((Hx72.out.mod Cx80.out (by intro k h1 h2; rcases h1 with h1 | h1 <;> first | omega | (have hb := HBT.out k h1; omega))).mod Cx85.out (by intro k h1 h2; rcases h1 with h1 | h1 <;> first | omega | (have hb := HBT.out k h1; omega))).mod Cx88.out (by intro k h1 h2; rcases h1 with h1 | h1 <;> first | omega | (have hb := HBT.out k h1; omega))).widen (by intro k h1; rcases h1 with h1 | h1 <;> first | exact Or.inl h1 | (right; omega))⟩, ⟨_, rfl, HOO.out, RdR_len (((Hx81.out.mod Cx85.out (by intro k h1 h2; omega)).mod Cx88.out (by intro k h1 h2; omega)).rd.widen (by intro k h1; (try dsimp only at h1 ⊢); right; omega) (Nat.le_refl _))⟩, ⟨_, _, _, _, rfl, HOD.out, (((Hx73.out.mod Cx80.out (by intro k h1 h2; rcases h1 with h1 | h1 <;> first | omega | (have hb := HBT.out k h1; omega))).mod Cx85.out (by intro k h1 h2; rcases h1 with h1 | h1 <;> first | omega | (have hb := HBT.out k h1; omega))).mod Cx88.out (by intro k h1 h2; rcases h1 with h1 | h1 <;> first | omega | (have hb := HBT.out k h1; omega))).widen (by intro k h1; rcases h1 with h1 | h1 <;> first | exact Or.inl h1 | (right; omega)), (((Hx74.out.mod Cx80.out (by intro k h1 h2; rcases h1 with h1 | h1 <;> first | omega | (have hb := HBT.out k h1; omega))).mod Cx85.out (by intro k h1 h2; rcases h1 with h1 | h1 <;> first | omega | (have hb := HBT.out k h1; omega))).mod Cx88.out (by intro k h1 h2; rcases h1 with h1 | h1 <;> first | omega | (have hb := HBT.out k h1; omega))).widen (by intro k h1; rcases h1 with h1 | h1 <;> first | exact Or.inl h1 | (right; omega)), (((Hx75.out.mod Cx80.out (by intro k h1 h2; rcases h1 with h1 | h1 <;> first | omega | (have hb := HBT.out k h1; omega))).mod Cx85.out (by intro k h1 h2; rcases h1 with h1 | h1 <;> first | omega | (have hb := HBT.out k h1; omega))).mod Cx88.out (by intro k h1 h2; rcases h1 with h1 | h1 <;> first | omega | (have hb := HBT.out k h1; omega))).widen (by intro k h1; rcases h1 with h1 | h1 <;> first | exact Or.inl h1 | (right; omega)), (Hx86.out.mod Cx88.out (by intro k h1 h2; omega) (sB HBT)).rd.widen (by intro k h1; (try dsimp only at h1 ⊢); rcases h1 with h1 | h1 <;> first | exact Or.inl h1 | (right; omega))⟩⟩)
  have HON := hid (MgR.one HRM.out)
  clear Hx68
  clear Hx69
  clear Hx70
  clear Hx71
  clear Hx72
  clear Hx73
  clear Hx74
  clear Hx75
  clear Hx86
  clear Hx81
  go_upto_region 8 with (fail)
  refine wp_region_U 50 [49, 51] [0, 1] (fun a0 HA0 => ?_)
  have oe1 := ev HA0 1 rfl
  have oe2 := ev HA0 2 rfl
  refine QSeq.pure rfl _ (fun E => ex_loadA rfl Tryz.underlying61 rfl (off := 0) (cs := ((Mg.segs ({ x with rp := x.rp.extract 0 260 } : Mg) cn5 cn10 (x.pr.cells e_ps e_os e_ts) (x.op.cells (Value.slice ao_o (x.op.pl.take 260).length cap_o)) (x.dc.cells f_ps f_os f_ts (Value.slice ao_v (x.dc.l.take 5).length cap_v))).flatten)) (by rw [HSZ.out]; kernel_rfl) (E.v oe1) (Cs.whole Hx87.out)) ?_
  refine QSeq.go fun act E => ?_
  refine qc_store rfl (wanted_none rfl) rfl ((((HB2.out.mod Cx76.out (by intro h2; omega)).mod Cx80.out (by intro h2; omega)).mod Cx85.out (by intro h2; omega)).mod Cx88.out (by intro h2; omega)) (off := 0) (vs := ((Mg.segs ({ x with rp := x.rp.extract 0 260 } : Mg) cn5 cn10 (x.pr.cells e_ps e_os e_ts) (x.op.cells (Value.slice ao_o (x.op.pl.take 260).length cap_o)) (x.dc.cells f_ps f_os f_ts (Value.slice ao_v (x.dc.l.take 5).length cap_v))).flatten)) (by rw [HSZ.out]; kernel_rfl) HON.out (by rw [HSZ.out]; show 0 + 295 ≤ 295; decide) (E.v oe2) (ec (E.d 0 0)) ?_
  intro u8_1 qc0 hm
  have qB2 := qc0.eqv (b := (((Mg.segs ({ x with rp := x.rp.extract 0 260 } : Mg) cn5 cn10 (x.pr.cells e_ps e_os e_ts) (x.op.cells (Value.slice ao_o (x.op.pl.take 260).length cap_o)) (x.dc.cells f_ps f_os f_ts (Value.slice ao_v (x.dc.l.take 5).length cap_v))).flatten) : List Value).toArray) (lay_whole _ _ (by rw [HSZ.out]; rfl))
  clear qc0
  have Hx93 := hid qB2
  have zu8_1 := hm.size
  have Cx94 := hid (show Mod (fun k => (k = w.heap.size + 1)) u5_4 u8_1 from hm)
  clear hm
  clear act E qB2 HB2
  refine QSeq.nil (t' := [_, _]) rfl ?_
  obtain rfl := HA0.out
  clear HA0 oe1 oe2
  simp only [pz, Act.put, sIB, sCZ, sCS, List.set_nil]
  go_wp2
  exact bodyPost_ret (results_cellA rfl _ _ (w.heap.size + 1) ((Mg.segs ({ x with rp := x.rp.extract 0 260 } : Mg) cn5 cn10 (x.pr.cells e_ps e_os e_ts) (x.op.cells (Value.slice ao_o (x.op.pl.take 260).length cap_o)) (x.dc.cells f_ps f_os f_ts (Value.slice ao_v (x.dc.l.take 5).length cap_v))).flatten) rfl (fun k u hu => by rw [Hx93.out.cell]; simpa using hu) Tryz.underlying61 rfl (by rw [HSZ.out]; kernel_rfl)) rfl ⟨_, rfl, (HRM.out.mod Cx94.out (by intro k h1 h2; rcases h1 with h1 | h1 <;> first | omega | (have hb := HBT.out k h1; omega))).widen (by intro k h1; rcases h1 with h1 | h1 <;> first | exact Or.inl h1 | (right; omega)), (((((HM0.out.trans Cx76.out (by intro k h1 h2; omega)).trans Cx80.out (by intro k h1 h2; omega)).trans Cx85.out (by intro k h1 h2; omega)).trans Cx88.out (by intro k h1 h2; omega)).trans Cx94.out (by intro k h1 h2; omega))⟩
 go_upto_region 4 with (fail)
 refine wp_region_U 50 [35, 36, 37, 38] [0, 1, 2, 3] (fun a0 HA0 => ?_)
 have oe1 := ev HA0 1 rfl
 refine QSeq.pure rfl (.pointer (some ⟨w.heap.size, 286, none⟩)) (fun E => ex_field rfl Tryz.underlying61 rfl (by kernel_rfl) (E.v oe1)) ?_
 refine QSeq.pure rfl (.string x.rp) (fun E => ex_load1 rfl Tryz.underlying9 rfl (E.d 0 0) (Cs.seg1 Hx84.out (Mg.lens HOK.out HLn5.out HLn10.out rfl (show (x.op.cells (Value.slice ao_o (x.op.pl.take 260).length cap_o)).length = 34 from HC15.out) rfl) 17 rfl (o := 286) (k := 0) rfl rfl rfl)) ?_
 refine QSeq.pure rfl (.int .i64 ((x.rp.size : Nat) : Int)) (fun E => ex_lenStr rfl (E.d 1 0) Tryz.underlying9) ?_
 refine QSeq.pure rfl (.bool false) (fun E => ex_binE rfl (E.d 2 0) rfl (guard_ints _ _ _ _ _ _) (run_gtr_i _ _ _ Tryz.underlying3) (congrArg Value.bool (decide_eq_false (by omega)))) ?_
 refine QSeq.nil (t' := [_, _, _, _]) rfl ?_
 obtain rfl := HA0.out
 clear HA0 oe1
 simp only [pz, Act.put, sIB, sCZ, sCS]
 by_cases hv : x.pr.vl = 9223372036854775807
 ·have HV := Lib.hid hv
  clear hv
  go_upto_region 6 with (fail)
  refine wp_region_U 50 [43, 44, 45, 46] [0, 1, 2, 3] (fun a0 HA0 => ?_)
  have oe1 := ev HA0 1 rfl
  refine QSeq.pure rfl (.pointer (some ⟨w.heap.size, 163, none⟩)) (fun E => ex_field rfl Tryz.underlying61 rfl (by kernel_rfl) (E.v oe1)) ?_
  refine QSeq.pure rfl (.pointer (some ⟨w.heap.size, 165, none⟩)) (fun E => ex_field rfl Tryz.underlying47 rfl (by kernel_rfl) (E.d 0 0)) ?_
  refine QSeq.pure rfl (.int .i64 x.pr.vl) (fun E => ex_load1 rfl Tryz.underlying3 rfl (E.d 1 0) (Cs.seg1 Hx84.out (Mg.lens HOK.out HLn5.out HLn10.out rfl (show (x.op.cells (Value.slice ao_o (x.op.pl.take 260).length cap_o)).length = 34 from HC15.out) rfl) 11 rfl (o := 163) (k := 2) rfl rfl rfl)) ?_
  refine QSeq.pure rfl (.bool true) (fun E => ex_binE rfl (E.d 2 0) rfl (guard_ints _ _ _ _ _ _) (run_eql_i _ _ _ Tryz.underlying3) (congrArg Value.bool (eq_tt HV.out))) ?_
  refine QSeq.nil (t' := [_, _, _, _]) rfl ?_
  obtain rfl := HA0.out
  clear HA0 oe1
  simp only [pz, Act.put, sIB, sCZ, sCS]
  go_upto_region 7 with (fail)
  refine wp_region_U 50 [47, 48, 52] [0, 1, 2] (fun a0 HA0 => ?_)
  have oe1 := ev HA0 1 rfl
  refine QSeq.pure rfl (.pointer (some ⟨w.heap.size, 163, none⟩)) (fun E => ex_field rfl Tryz.underlying61 rfl (by kernel_rfl) (E.v oe1)) ?_
  refine QSeq.pure rfl (.pointer (some ⟨w.heap.size, 165, none⟩)) (fun E => ex_field rfl Tryz.underlying47 rfl (by kernel_rfl) (E.d 0 0)) ?_
  refine QSeq.go fun act E => ?_
  refine qc_store rfl (wanted_none rfl) rfl Hx84.out (off := 165) (vs := [.int .i64 0]) (by kernel_rfl) one1 (by rw [List.size_toArray, flat_sum, (show (Mg.segs x cn5 cn10 (x.pr.cells e_ps e_os e_ts) (x.op.cells (Value.slice ao_o (x.op.pl.take 260).length cap_o)) (x.dc.cells f_ps f_os f_ts (Value.slice ao_v (x.dc.l.take 5).length cap_v))).map List.length = mgN from (Mg.lens HOK.out HLn5.out HLn10.out rfl (show (x.op.cells (Value.slice ao_o (x.op.pl.take 260).length cap_o)).length = 34 from HC15.out) rfl))]; show 165 + 1 ≤ 295; decide) (E.d 1 0) (ec rfl) ?_
  intro u7_2 qc0 hm
  have qB1 := qc0.eqv (b := ((Mg.segs x cn5 cn10 (Pr.cells { x.pr with vl := 0 } e_ps e_os e_ts) (x.op.cells (Value.slice ao_o (x.op.pl.take 260).length cap_o)) (x.dc.cells f_ps f_os f_ts (Value.slice ao_v (x.dc.l.take 5).length cap_v))).flatten : List Value).toArray) ((lay_sub (show (Mg.segs x cn5 cn10 (x.pr.cells e_ps e_os e_ts) (x.op.cells (Value.slice ao_o (x.op.pl.take 260).length cap_o)) (x.dc.cells f_ps f_os f_ts (Value.slice ao_v (x.dc.l.take 5).length cap_v))).map List.length = mgN from (Mg.lens HOK.out HLn5.out HLn10.out rfl (show (x.op.cells (Value.slice ao_o (x.op.pl.take 260).length cap_o)).length = 34 from HC15.out) rfl)) 11 rfl (o := 163) (k := 2) (n := 1) rfl rfl rfl (by show 2 + 1 ≤ 11; decide)).trans rfl)
  clear qc0
  have Hx95 := hid qB1
  have zu7_2 := hm.size
  have Cx96 := hid (show Mod (fun k => (k = w.heap.size)) u3_6 u7_2 from hm)
  clear hm
  clear act E qB1 Hx84
  refine QSeq.nil (t' := [_, _, _]) rfl ?_
  obtain rfl := HA0.out
  clear HA0 oe1
  simp only [pz, Act.put, sIB, sCZ, sCS, List.set_nil]
  have HSZ := hid (show ((Mg.segs x cn5 cn10 (Pr.cells { x.pr with vl := 0 } e_ps e_os e_ts) (x.op.cells (Value.slice ao_o (x.op.pl.take 260).length cap_o)) (x.dc.cells f_ps f_os f_ts (Value.slice ao_v (x.dc.l.take 5).length cap_v))).flatten).length = 295 by rw [flat_sum, show (Mg.segs x cn5 cn10 (Pr.cells { x.pr with vl := 0 } e_ps e_os e_ts) (x.op.cells (Value.slice ao_o (x.op.pl.take 260).length cap_o)) (x.dc.cells f_ps f_os f_ts (Value.slice ao_v (x.dc.l.take 5).length cap_v))).map List.length = mgN from (Mg.lens HOK.out HLn5.out HLn10.out rfl (show (x.op.cells (Value.slice ao_o (x.op.pl.take 260).length cap_o)).length = 34 from HC15.out) rfl)]; rfl)
  have HES := hid (show smallM x = { x with ce := cutCe x.ce, pm := cutPm x.pm, pr := { x.pr with ba := cutBa x.pr.ba, vl := 0 }, op := cutOp x.op, dc := { x.dc with ba := cutBa x.dc.ba, l := x.dc.l.take 5 } } by unfold smallM; rw [show cutRp x.rp = x.rp from if_neg hn, show cutVl x.pr.vl = 0 from if_pos HV.out])
  have HRM := hid (show MgR.rd (fun k => (R2 k) ∨ (New w1 u7_2 k)) u7_2 ((Mg.segs x cn5 cn10 (Pr.cells { x.pr with vl := 0 } e_ps e_os e_ts) (x.op.cells (Value.slice ao_o (x.op.pl.take 260).length cap_o)) (x.dc.cells f_ps f_os f_ts (Value.slice ao_v (x.dc.l.take 5).length cap_v))).flatten) (smallM x) from HES.out ▸ ⟨_, _, _, _, _, rfl, { HOK.out with }, (((Hx68.out.mod Cx80.out (by intro k h1 h2; rcases h1 with h1 | h1 <;> first | omega | (have hb := HBT.out k h1; omega))).mod Cx85.out (by intro k h1 h2; rcases h1 with h1 | h1 <;> first | omega | (have hb := HBT.out k h1; omega))).mod Cx96.out (by intro k h1 h2; rcases h1 with h1 | h1 <;> first | omega | (have hb := HBT.out k h1; omega))).widen (by intro k h1; rcases h1 with h1 | h1 <;> first | exact Or.inl h1 | (right; omega)), (((Hx69.out.mod Cx80.out (by intro k h1 h2; rcases h1 with h1 | h1 <;> first | omega | (have hb := HBT.out k h1; omega))).mod Cx85.out (by intro k h1 h2; rcases h1 with h1 | h1 <;> first | omega | (have hb := HBT.out k h1; omega))).mod Cx96.out (by intro k h1 h2; rcases h1 with h1 | h1 <;> first | omega | (have hb := HBT.out k h1; omega))).widen (by intro k h1; rcases h1 with h1 | h1 <;> first | exact Or.inl h1 | (right; omega)), ⟨_, _, _, rfl, ⟨HOP.out.1, HOP.out.2.1, I64_0, HOP.out.2.2.2⟩, (((Hx70.out.mod Cx80.out (by intro k h1 h2; rcases h1 with h1 | h1 <;> first | omega | (have hb := HBT.out k h1; omega))).mod Cx85.out (by intro k h1 h2; rcases h1 with h1 | h1 <;> first | omega | (have hb := HBT.out k h1; omega))).mod Cx96.out (by intro k h1 h2; rcases h1 with h1 | h1 <;> first | omega | (have hb := HBT.out k h1; omega))).widen (by intro k h1; rcases h1 with h1 | h1 <;> first | exact Or.inl h1 | (right; omega)), (((Hx71.out.mod Cx80.out (by intro k h1 h2; rcases h1 with h1 | h1 <;> first | omega | (have hb := HBT.out k h1; omega))).mod Cx85.out (by intro k h1 h2; rcases h1 with h1 | h1 <;> first | omega | (have hb := HBT.out k h1; omega))).mod Cx96.out (by intro k h1 h2; rcases h1 with h1 | h1 <;> first | omega | (have hb := HBT.out k h1; omega))).widen (by intro k h1; rcases h1 with h1 | h1 <;> first | exact Or.inl h1 | (right; omega)), (((Hx72.out.mod Cx80.out (by intro k h1 h2; rcases h1 with h1 | h1 <;> first | omega | (have hb := HBT.out k h1; omega))).mod Cx85.out (by intro k h1 h2; rcases h1 with h1 | h1 <;> first | omega | (have hb := HBT.out k h1; omega))).mod Cx96.out (by intro k h1 h2; rcases h1 with h1 | h1 <;> first | omega | (have hb := HBT.out k h1; omega))).widen (by intro k h1; rcases h1 with h1 | h1 <;> first | exact Or.inl h1 | (right; omega))⟩, ⟨_, rfl, HOO.out, RdR_len (((Hx81.out.mod Cx85.out (by intro k h1 h2; omega)).mod Cx96.out (by intro k h1 h2; omega)).rd.widen (by intro k h1; (try dsimp only at h1 ⊢); right; omega) (Nat.le_refl _))⟩, ⟨_, _, _, _, rfl, HOD.out, (((Hx73.out.mod Cx80.out (by intro k h1 h2; rcases h1 with h1 | h1 <;> first | omega | (have hb := HBT.out k h1; omega))).mod Cx85.out (by intro k h1 h2; rcases h1 with h1 | h1 <;> first | omega | (have hb := HBT.out k h1; omega))).mod Cx96.out (by intro k h1 h2; rcases h1 with h1 | h1 <;> first | omega | (have hb := HBT.out k h1; omega))).widen (by intro k h1; rcases h1 with h1 | h1 <;> first | exact Or.inl h1 | (right; omega)), (((Hx74.out.mod Cx80.out (by intro k h1 h2; rcases h1 with h1 | h1 <;> first | omega | (have hb := HBT.out k h1; omega))).mod Cx85.out (by intro k h1 h2; rcases h1 with h1 | h1 <;> first | omega | (have hb := HBT.out k h1; omega))).mod Cx96.out (by intro k h1 h2; rcases h1 with h1 | h1 <;> first | omega | (have hb := HBT.out k h1; omega))).widen (by intro k h1; rcases h1 with h1 | h1 <;> first | exact Or.inl h1 | (right; omega)), (((Hx75.out.mod Cx80.out (by intro k h1 h2; rcases h1 with h1 | h1 <;> first | omega | (have hb := HBT.out k h1; omega))).mod Cx85.out (by intro k h1 h2; rcases h1 with h1 | h1 <;> first | omega | (have hb := HBT.out k h1; omega))).mod Cx96.out (by intro k h1 h2; rcases h1 with h1 | h1 <;> first | omega | (have hb := HBT.out k h1; omega))).widen (by intro k h1; rcases h1 with h1 | h1 <;> first | exact Or.inl h1 | (right; omega)), (Hx86.out.mod Cx96.out (by intro k h1 h2; omega) (sB HBT)).rd.widen (by intro k h1; (try dsimp only at h1 ⊢); rcases h1 with h1 | h1 <;> first | exact Or.inl h1 | (right; omega))⟩⟩)
  have HON := hid (MgR.one HRM.out)
  clear Hx68
  clear Hx69
  clear Hx70
  clear Hx71
  clear Hx72
  clear Hx73
  clear Hx74
  clear Hx75
  clear Hx86
  clear Hx81
  go_upto_region 8 with (fail)
  refine wp_region_U 50 [49, 51] [0, 1] (fun a0 HA0 => ?_)
  have oe1 := ev HA0 1 rfl
  have oe2 := ev HA0 2 rfl
  refine QSeq.pure rfl _ (fun E => ex_loadA rfl Tryz.underlying61 rfl (off := 0) (cs := ((Mg.segs x cn5 cn10 (Pr.cells { x.pr with vl := 0 } e_ps e_os e_ts) (x.op.cells (Value.slice ao_o (x.op.pl.take 260).length cap_o)) (x.dc.cells f_ps f_os f_ts (Value.slice ao_v (x.dc.l.take 5).length cap_v))).flatten)) (by rw [HSZ.out]; kernel_rfl) (E.v oe1) (Cs.whole Hx95.out)) ?_
  refine QSeq.go fun act E => ?_
  refine qc_store rfl (wanted_none rfl) rfl ((((HB2.out.mod Cx76.out (by intro h2; omega)).mod Cx80.out (by intro h2; omega)).mod Cx85.out (by intro h2; omega)).mod Cx96.out (by intro h2; omega)) (off := 0) (vs := ((Mg.segs x cn5 cn10 (Pr.cells { x.pr with vl := 0 } e_ps e_os e_ts) (x.op.cells (Value.slice ao_o (x.op.pl.take 260).length cap_o)) (x.dc.cells f_ps f_os f_ts (Value.slice ao_v (x.dc.l.take 5).length cap_v))).flatten)) (by rw [HSZ.out]; kernel_rfl) HON.out (by rw [HSZ.out]; show 0 + 295 ≤ 295; decide) (E.v oe2) (ec (E.d 0 0)) ?_
  intro u8_1 qc0 hm
  have qB2 := qc0.eqv (b := (((Mg.segs x cn5 cn10 (Pr.cells { x.pr with vl := 0 } e_ps e_os e_ts) (x.op.cells (Value.slice ao_o (x.op.pl.take 260).length cap_o)) (x.dc.cells f_ps f_os f_ts (Value.slice ao_v (x.dc.l.take 5).length cap_v))).flatten) : List Value).toArray) (lay_whole _ _ (by rw [HSZ.out]; rfl))
  clear qc0
  have Hx97 := hid qB2
  have zu8_1 := hm.size
  have Cx98 := hid (show Mod (fun k => (k = w.heap.size + 1)) u7_2 u8_1 from hm)
  clear hm
  clear act E qB2 HB2
  refine QSeq.nil (t' := [_, _]) rfl ?_
  obtain rfl := HA0.out
  clear HA0 oe1 oe2
  simp only [pz, Act.put, sIB, sCZ, sCS, List.set_nil]
  go_wp2
  exact bodyPost_ret (results_cellA rfl _ _ (w.heap.size + 1) ((Mg.segs x cn5 cn10 (Pr.cells { x.pr with vl := 0 } e_ps e_os e_ts) (x.op.cells (Value.slice ao_o (x.op.pl.take 260).length cap_o)) (x.dc.cells f_ps f_os f_ts (Value.slice ao_v (x.dc.l.take 5).length cap_v))).flatten) rfl (fun k u hu => by rw [Hx97.out.cell]; simpa using hu) Tryz.underlying61 rfl (by rw [HSZ.out]; kernel_rfl)) rfl ⟨_, rfl, (HRM.out.mod Cx98.out (by intro k h1 h2; rcases h1 with h1 | h1 <;> first | omega | (have hb := HBT.out k h1; omega))).widen (by intro k h1; rcases h1 with h1 | h1 <;> first | exact Or.inl h1 | (right; omega)), (((((HM0.out.trans Cx76.out (by intro k h1 h2; omega)).trans Cx80.out (by intro k h1 h2; omega)).trans Cx85.out (by intro k h1 h2; omega)).trans Cx96.out (by intro k h1 h2; omega)).trans Cx98.out (by intro k h1 h2; omega))⟩
 have HV := Lib.hid hv
 clear hv
 go_upto_region 6 with (fail)
 refine wp_region_U 50 [43, 44, 45, 46] [0, 1, 2, 3] (fun a0 HA0 => ?_)
 have oe1 := ev HA0 1 rfl
 refine QSeq.pure rfl (.pointer (some ⟨w.heap.size, 163, none⟩)) (fun E => ex_field rfl Tryz.underlying61 rfl (by kernel_rfl) (E.v oe1)) ?_
 refine QSeq.pure rfl (.pointer (some ⟨w.heap.size, 165, none⟩)) (fun E => ex_field rfl Tryz.underlying47 rfl (by kernel_rfl) (E.d 0 0)) ?_
 refine QSeq.pure rfl (.int .i64 x.pr.vl) (fun E => ex_load1 rfl Tryz.underlying3 rfl (E.d 1 0) (Cs.seg1 Hx84.out (Mg.lens HOK.out HLn5.out HLn10.out rfl (show (x.op.cells (Value.slice ao_o (x.op.pl.take 260).length cap_o)).length = 34 from HC15.out) rfl) 11 rfl (o := 163) (k := 2) rfl rfl rfl)) ?_
 refine QSeq.pure rfl (.bool false) (fun E => ex_binE rfl (E.d 2 0) rfl (guard_ints _ _ _ _ _ _) (run_eql_i _ _ _ Tryz.underlying3) (congrArg Value.bool (eq_ff HV.out))) ?_
 refine QSeq.nil (t' := [_, _, _, _]) rfl ?_
 obtain rfl := HA0.out
 clear HA0 oe1
 simp only [pz, Act.put, sIB, sCZ, sCS]
 have HSZ := hid (show ((Mg.segs x cn5 cn10 (x.pr.cells e_ps e_os e_ts) (x.op.cells (Value.slice ao_o (x.op.pl.take 260).length cap_o)) (x.dc.cells f_ps f_os f_ts (Value.slice ao_v (x.dc.l.take 5).length cap_v))).flatten).length = 295 by rw [flat_sum, show (Mg.segs x cn5 cn10 (x.pr.cells e_ps e_os e_ts) (x.op.cells (Value.slice ao_o (x.op.pl.take 260).length cap_o)) (x.dc.cells f_ps f_os f_ts (Value.slice ao_v (x.dc.l.take 5).length cap_v))).map List.length = mgN from (Mg.lens HOK.out HLn5.out HLn10.out rfl (show (x.op.cells (Value.slice ao_o (x.op.pl.take 260).length cap_o)).length = 34 from HC15.out) rfl)]; rfl)
 have HES := hid (show smallM x = { x with ce := cutCe x.ce, pm := cutPm x.pm, pr := { x.pr with ba := cutBa x.pr.ba, vl := x.pr.vl }, op := cutOp x.op, dc := { x.dc with ba := cutBa x.dc.ba, l := x.dc.l.take 5 } } by unfold smallM; rw [show cutRp x.rp = x.rp from if_neg hn, show cutVl x.pr.vl = x.pr.vl from if_neg HV.out])
 have HRM := hid (show MgR.rd (fun k => (R2 k) ∨ (New w1 u3_6 k)) u3_6 ((Mg.segs x cn5 cn10 (x.pr.cells e_ps e_os e_ts) (x.op.cells (Value.slice ao_o (x.op.pl.take 260).length cap_o)) (x.dc.cells f_ps f_os f_ts (Value.slice ao_v (x.dc.l.take 5).length cap_v))).flatten) (smallM x) from HES.out ▸ ⟨_, _, _, _, _, rfl, { HOK.out with }, ((Hx68.out.mod Cx80.out (by intro k h1 h2; rcases h1 with h1 | h1 <;> first | omega | (have hb := HBT.out k h1; omega))).mod Cx85.out (by intro k h1 h2; rcases h1 with h1 | h1 <;> first | omega | (have hb := HBT.out k h1; omega))).widen (by intro k h1; rcases h1 with h1 | h1 <;> first | exact Or.inl h1 | (right; omega)), ((Hx69.out.mod Cx80.out (by intro k h1 h2; rcases h1 with h1 | h1 <;> first | omega | (have hb := HBT.out k h1; omega))).mod Cx85.out (by intro k h1 h2; rcases h1 with h1 | h1 <;> first | omega | (have hb := HBT.out k h1; omega))).widen (by intro k h1; rcases h1 with h1 | h1 <;> first | exact Or.inl h1 | (right; omega)), ⟨_, _, _, rfl, HOP.out, ((Hx70.out.mod Cx80.out (by intro k h1 h2; rcases h1 with h1 | h1 <;> first | omega | (have hb := HBT.out k h1; omega))).mod Cx85.out (by intro k h1 h2; rcases h1 with h1 | h1 <;> first | omega | (have hb := HBT.out k h1; omega))).widen (by intro k h1; rcases h1 with h1 | h1 <;> first | exact Or.inl h1 | (right; omega)), ((Hx71.out.mod Cx80.out (by intro k h1 h2; rcases h1 with h1 | h1 <;> first | omega | (have hb := HBT.out k h1; omega))).mod Cx85.out (by intro k h1 h2; rcases h1 with h1 | h1 <;> first | omega | (have hb := HBT.out k h1; omega))).widen (by intro k h1; rcases h1 with h1 | h1 <;> first | exact Or.inl h1 | (right; omega)), ((Hx72.out.mod Cx80.out (by intro k h1 h2; rcases h1 with h1 | h1 <;> first | omega | (have hb := HBT.out k h1; omega))).mod Cx85.out (by intro k h1 h2; rcases h1 with h1 | h1 <;> first | omega | (have hb := HBT.out k h1; omega))).widen (by intro k h1; rcases h1 with h1 | h1 <;> first | exact Or.inl h1 | (right; omega))⟩, ⟨_, rfl, HOO.out, RdR_len ((Hx81.out.mod Cx85.out (by intro k h1 h2; omega)).rd.widen (by intro k h1; (try dsimp only at h1 ⊢); right; omega) (Nat.le_refl _))⟩, ⟨_, _, _, _, rfl, HOD.out, ((Hx73.out.mod Cx80.out (by intro k h1 h2; rcases h1 with h1 | h1 <;> first | omega | (have hb := HBT.out k h1; omega))).mod Cx85.out (by intro k h1 h2; rcases h1 with h1 | h1 <;> first | omega | (have hb := HBT.out k h1; omega))).widen (by intro k h1; rcases h1 with h1 | h1 <;> first | exact Or.inl h1 | (right; omega)), ((Hx74.out.mod Cx80.out (by intro k h1 h2; rcases h1 with h1 | h1 <;> first | omega | (have hb := HBT.out k h1; omega))).mod Cx85.out (by intro k h1 h2; rcases h1 with h1 | h1 <;> first | omega | (have hb := HBT.out k h1; omega))).widen (by intro k h1; rcases h1 with h1 | h1 <;> first | exact Or.inl h1 | (right; omega)), ((Hx75.out.mod Cx80.out (by intro k h1 h2; rcases h1 with h1 | h1 <;> first | omega | (have hb := HBT.out k h1; omega))).mod Cx85.out (by intro k h1 h2; rcases h1 with h1 | h1 <;> first | omega | (have hb := HBT.out k h1; omega))).widen (by intro k h1; rcases h1 with h1 | h1 <;> first | exact Or.inl h1 | (right; omega)), Hx86.out.rd.widen (by intro k h1; (try dsimp only at h1 ⊢); rcases h1 with h1 | h1 <;> first | exact Or.inl h1 | (right; omega))⟩⟩)
 have HON := hid (MgR.one HRM.out)
 clear Hx68
 clear Hx69
 clear Hx70
 clear Hx71
 clear Hx72
 clear Hx73
 clear Hx74
 clear Hx75
 clear Hx86
 clear Hx81
 go_upto_region 8 with (fail)
 refine wp_region_U 50 [49, 51] [0, 1] (fun a0 HA0 => ?_)
 have oe1 := ev HA0 1 rfl
 have oe2 := ev HA0 2 rfl
 refine QSeq.pure rfl _ (fun E => ex_loadA rfl Tryz.underlying61 rfl (off := 0) (cs := ((Mg.segs x cn5 cn10 (x.pr.cells e_ps e_os e_ts) (x.op.cells (Value.slice ao_o (x.op.pl.take 260).length cap_o)) (x.dc.cells f_ps f_os f_ts (Value.slice ao_v (x.dc.l.take 5).length cap_v))).flatten)) (by rw [HSZ.out]; kernel_rfl) (E.v oe1) (Cs.whole Hx84.out)) ?_
 refine QSeq.go fun act E => ?_
 refine qc_store rfl (wanted_none rfl) rfl (((HB2.out.mod Cx76.out (by intro h2; omega)).mod Cx80.out (by intro h2; omega)).mod Cx85.out (by intro h2; omega)) (off := 0) (vs := ((Mg.segs x cn5 cn10 (x.pr.cells e_ps e_os e_ts) (x.op.cells (Value.slice ao_o (x.op.pl.take 260).length cap_o)) (x.dc.cells f_ps f_os f_ts (Value.slice ao_v (x.dc.l.take 5).length cap_v))).flatten)) (by rw [HSZ.out]; kernel_rfl) HON.out (by rw [HSZ.out]; show 0 + 295 ≤ 295; decide) (E.v oe2) (ec (E.d 0 0)) ?_
 intro u8_1 qc0 hm
 have qB2 := qc0.eqv (b := (((Mg.segs x cn5 cn10 (x.pr.cells e_ps e_os e_ts) (x.op.cells (Value.slice ao_o (x.op.pl.take 260).length cap_o)) (x.dc.cells f_ps f_os f_ts (Value.slice ao_v (x.dc.l.take 5).length cap_v))).flatten) : List Value).toArray) (lay_whole _ _ (by rw [HSZ.out]; rfl))
 clear qc0
 have Hx99 := hid qB2
 have zu8_1 := hm.size
 have Cx100 := hid (show Mod (fun k => (k = w.heap.size + 1)) u3_6 u8_1 from hm)
 clear hm
 clear act E qB2 HB2
 refine QSeq.nil (t' := [_, _]) rfl ?_
 obtain rfl := HA0.out
 clear HA0 oe1 oe2
 simp only [pz, Act.put, sIB, sCZ, sCS, List.set_nil]
 go_wp2
 exact bodyPost_ret (results_cellA rfl _ _ (w.heap.size + 1) ((Mg.segs x cn5 cn10 (x.pr.cells e_ps e_os e_ts) (x.op.cells (Value.slice ao_o (x.op.pl.take 260).length cap_o)) (x.dc.cells f_ps f_os f_ts (Value.slice ao_v (x.dc.l.take 5).length cap_v))).flatten) rfl (fun k u hu => by rw [Hx99.out.cell]; simpa using hu) Tryz.underlying61 rfl (by rw [HSZ.out]; kernel_rfl)) rfl ⟨_, rfl, (HRM.out.mod Cx100.out (by intro k h1 h2; rcases h1 with h1 | h1 <;> first | omega | (have hb := HBT.out k h1; omega))).widen (by intro k h1; rcases h1 with h1 | h1 <;> first | exact Or.inl h1 | (right; omega)), ((((HM0.out.trans Cx76.out (by intro k h1 h2; omega)).trans Cx80.out (by intro k h1 h2; omega)).trans Cx85.out (by intro k h1 h2; omega)).trans Cx100.out (by intro k h1 h2; omega))⟩
end Go.Proofs.YtpnikilkcifncaaGreat

/- The plain law of MsgOnly. No walk here. -/
namespace Go.Proofs.YtpnikilkcifncaaGreat
open Go Go.RowKit Go.Gv

/-- another message with what m's kind names put into it -/
def ontoM (m b : Mg) : Mg :=
 if m.kd = 1 then { b with kd := m.kd, fr := m.fr, «to» := m.to, cm := m.cm } else
 if m.kd = 2 then { b with kd := m.kd, fr := m.fr, «to» := m.to, st := m.st } else
 if m.kd = 3 then { b with kd := m.kd, fr := m.fr, «to» := m.to, ce := m.ce } else
 if m.kd = 4 then { b with kd := m.kd, fr := m.fr, «to» := m.to, ak := m.ak } else
 if m.kd = 5 then { b with kd := m.kd, fr := m.fr, «to» := m.to, ep := m.ep, rn := m.rn, tm := m.tm } else
 if m.kd = 6 then { b with kd := m.kd, fr := m.fr, «to» := m.to, pm := m.pm } else
 if m.kd = 7 then { b with kd := m.kd, fr := m.fr, «to» := m.to, pr := m.pr } else
 if m.kd = 8 then { b with kd := m.kd, fr := m.fr, «to» := m.to, vt := m.vt } else
 if m.kd = 9 then { b with kd := m.kd, fr := m.fr, «to» := m.to, ix := m.ix, en := m.en } else
 if m.kd = 10 then { b with kd := m.kd, fr := m.fr, «to» := m.to, op := m.op } else
 if m.kd = 11 then { b with kd := m.kd, fr := m.fr, «to» := m.to, ix := m.ix } else
 if m.kd = 12 then { b with kd := m.kd, fr := m.fr, «to» := m.to, dn := m.dn } else
 if m.kd = 13 then { b with kd := m.kd, fr := m.fr, «to» := m.to, ix := m.ix, rp := m.rp } else
 { b with kd := m.kd, fr := m.fr, «to» := m.to, dc := m.dc }
theorem ite_q {α : Type} {P : α → Prop} {c : Prop} [Decidable c] {a b : α} (ha : P a) (hb : P b) : P (if c then a else b) := by
 by_cases h : c
 ·rw [if_pos h]; exact ha
 ·rw [if_neg h]; exact hb
theorem kd_14 {k : Int} (h : okKd k = true) : k = 1 ∨ k = 2 ∨ k = 3 ∨ k = 4 ∨ k = 5 ∨ k = 6 ∨ k = 7 ∨ k = 8 ∨ k = 9 ∨ k = 10 ∨ k = 11 ∨ k = 12 ∨ k = 13 ∨ k = 14 := by
 unfold okKd at h
 rw [decide_eq_true_eq] at h
 omega
theorem onto_only {m : Mg} (b : Mg) (hk : okKd m.kd = true) : onlyM (ontoM m b) = onlyM m := by
 rcases kd_14 hk with h | h | h | h | h | h | h | h | h | h | h | h | h | h
 ·rw [show ontoM m b = ({ b with kd := 1, fr := m.fr, «to» := m.to, cm := m.cm } : Mg) by unfold ontoM; rw [h]; rfl, show onlyM m = { mg0 1 m.fr m.to with cm := m.cm } by unfold onlyM; rw [h]; rfl]; rfl
 ·rw [show ontoM m b = ({ b with kd := 2, fr := m.fr, «to» := m.to, st := m.st } : Mg) by unfold ontoM; rw [h]; rfl, show onlyM m = { mg0 2 m.fr m.to with st := m.st } by unfold onlyM; rw [h]; rfl]; rfl
 ·rw [show ontoM m b = ({ b with kd := 3, fr := m.fr, «to» := m.to, ce := m.ce } : Mg) by unfold ontoM; rw [h]; rfl, show onlyM m = { mg0 3 m.fr m.to with ce := m.ce } by unfold onlyM; rw [h]; rfl]; rfl
 ·rw [show ontoM m b = ({ b with kd := 4, fr := m.fr, «to» := m.to, ak := m.ak } : Mg) by unfold ontoM; rw [h]; rfl, show onlyM m = { mg0 4 m.fr m.to with ak := m.ak } by unfold onlyM; rw [h]; rfl]; rfl
 ·rw [show ontoM m b = ({ b with kd := 5, fr := m.fr, «to» := m.to, ep := m.ep, rn := m.rn, tm := m.tm } : Mg) by unfold ontoM; rw [h]; rfl, show onlyM m = { mg0 5 m.fr m.to with ep := m.ep, rn := m.rn, tm := m.tm } by unfold onlyM; rw [h]; rfl]; rfl
 ·rw [show ontoM m b = ({ b with kd := 6, fr := m.fr, «to» := m.to, pm := m.pm } : Mg) by unfold ontoM; rw [h]; rfl, show onlyM m = { mg0 6 m.fr m.to with pm := m.pm } by unfold onlyM; rw [h]; rfl]; rfl
 ·rw [show ontoM m b = ({ b with kd := 7, fr := m.fr, «to» := m.to, pr := m.pr } : Mg) by unfold ontoM; rw [h]; rfl, show onlyM m = { mg0 7 m.fr m.to with pr := m.pr } by unfold onlyM; rw [h]; rfl]; rfl
 ·rw [show ontoM m b = ({ b with kd := 8, fr := m.fr, «to» := m.to, vt := m.vt } : Mg) by unfold ontoM; rw [h]; rfl, show onlyM m = { mg0 8 m.fr m.to with vt := m.vt } by unfold onlyM; rw [h]; rfl]; rfl
 ·rw [show ontoM m b = ({ b with kd := 9, fr := m.fr, «to» := m.to, ix := m.ix, en := m.en } : Mg) by unfold ontoM; rw [h]; rfl, show onlyM m = { mg0 9 m.fr m.to with ix := m.ix, en := m.en } by unfold onlyM; rw [h]; rfl]; rfl
 ·rw [show ontoM m b = ({ b with kd := 10, fr := m.fr, «to» := m.to, op := m.op } : Mg) by unfold ontoM; rw [h]; rfl, show onlyM m = { mg0 10 m.fr m.to with op := m.op } by unfold onlyM; rw [h]; rfl]; rfl
 ·rw [show ontoM m b = ({ b with kd := 11, fr := m.fr, «to» := m.to, ix := m.ix } : Mg) by unfold ontoM; rw [h]; rfl, show onlyM m = { mg0 11 m.fr m.to with ix := m.ix } by unfold onlyM; rw [h]; rfl]; rfl
 ·rw [show ontoM m b = ({ b with kd := 12, fr := m.fr, «to» := m.to, dn := m.dn } : Mg) by unfold ontoM; rw [h]; rfl, show onlyM m = { mg0 12 m.fr m.to with dn := m.dn } by unfold onlyM; rw [h]; rfl]; rfl
 ·rw [show ontoM m b = ({ b with kd := 13, fr := m.fr, «to» := m.to, ix := m.ix, rp := m.rp } : Mg) by unfold ontoM; rw [h]; rfl, show onlyM m = { mg0 13 m.fr m.to with ix := m.ix, rp := m.rp } by unfold onlyM; rw [h]; rfl]; rfl
 ·rw [show ontoM m b = ({ b with kd := 14, fr := m.fr, «to» := m.to, dc := m.dc } : Mg) by unfold ontoM; rw [h]; rfl, show onlyM m = { mg0 14 m.fr m.to with dc := m.dc } by unfold onlyM; rw [h]; rfl]; rfl
theorem pack_only {m : Mg} (hk : okKd m.kd = true) : packB (onlyM m) = packB m := by
 rcases kd_14 hk with h | h | h | h | h | h | h | h | h | h | h | h | h | h
 ·unfold packB; rw [show onlyM m = { mg0 1 m.fr m.to with cm := m.cm } by unfold onlyM; rw [h]; rfl, show bodyB m = cmB m.cm by unfold bodyB; rw [h]; rfl, h]; rfl
 ·unfold packB; rw [show onlyM m = { mg0 2 m.fr m.to with st := m.st } by unfold onlyM; rw [h]; rfl, show bodyB m = stB m.st by unfold bodyB; rw [h]; rfl, h]; rfl
 ·unfold packB; rw [show onlyM m = { mg0 3 m.fr m.to with ce := m.ce } by unfold onlyM; rw [h]; rfl, show bodyB m = ceB m.ce by unfold bodyB; rw [h]; rfl, h]; rfl
 ·unfold packB; rw [show onlyM m = { mg0 4 m.fr m.to with ak := m.ak } by unfold onlyM; rw [h]; rfl, show bodyB m = stB m.ak by unfold bodyB; rw [h]; rfl, h]; rfl
 ·unfold packB; rw [show onlyM m = { mg0 5 m.fr m.to with ep := m.ep, rn := m.rn, tm := m.tm } by unfold onlyM; rw [h]; rfl, show bodyB m = encI m.ep ++ encI m.rn ++ encN m.tm by unfold bodyB; rw [h]; rfl, h]; rfl
 ·unfold packB; rw [show onlyM m = { mg0 6 m.fr m.to with pm := m.pm } by unfold onlyM; rw [h]; rfl, show bodyB m = pmB m.pm by unfold bodyB; rw [h]; rfl, h]; rfl
 ·unfold packB; rw [show onlyM m = { mg0 7 m.fr m.to with pr := m.pr } by unfold onlyM; rw [h]; rfl, show bodyB m = prB m.pr by unfold bodyB; rw [h]; rfl, h]; rfl
 ·unfold packB; rw [show onlyM m = { mg0 8 m.fr m.to with vt := m.vt } by unfold onlyM; rw [h]; rfl, show bodyB m = vtB m.vt by unfold bodyB; rw [h]; rfl, h]; rfl
 ·unfold packB; rw [show onlyM m = { mg0 9 m.fr m.to with ix := m.ix, en := m.en } by unfold onlyM; rw [h]; rfl, show bodyB m = encI m.ix ++ enB m.en by unfold bodyB; rw [h]; rfl, h]; rfl
 ·unfold packB; rw [show onlyM m = { mg0 10 m.fr m.to with op := m.op } by unfold onlyM; rw [h]; rfl, show bodyB m = opB m.op by unfold bodyB; rw [h]; rfl, h]; rfl
 ·unfold packB; rw [show onlyM m = { mg0 11 m.fr m.to with ix := m.ix } by unfold onlyM; rw [h]; rfl, show bodyB m = encI m.ix by unfold bodyB; rw [h]; rfl, h]; rfl
 ·unfold packB; rw [show onlyM m = { mg0 12 m.fr m.to with dn := m.dn } by unfold onlyM; rw [h]; rfl, show bodyB m = dnB m.dn by unfold bodyB; rw [h]; rfl, h]; rfl
 ·unfold packB; rw [show onlyM m = { mg0 13 m.fr m.to with ix := m.ix, rp := m.rp } by unfold onlyM; rw [h]; rfl, show bodyB m = encI m.ix ++ (encN (bytesOf m.rp).length ++ bytesOf m.rp) by unfold bodyB; rw [h]; rfl, h]; rfl
 ·unfold packB; rw [show onlyM m = { mg0 14 m.fr m.to with dc := m.dc } by unfold onlyM; rw [h]; rfl, show bodyB m = dcB m.dc by unfold bodyB; rw [h]; rfl, h]; rfl
theorem only_kd {m : Mg} (hk : okKd m.kd = true) : (onlyM m).kd = m.kd := by
 unfold onlyM
 rcases kd_14 hk with h | h | h | h | h | h | h | h | h | h | h | h | h | h <;> rw [h] <;> rfl
theorem onto_kd (m b : Mg) : (ontoM m b).kd = m.kd := by
 unfold ontoM
 repeat' (refine ite_q (P := fun z : Mg => z.kd = m.kd) ?_ ?_)
 all_goals rfl
/-- what is asked of the three: their bytes are the same, and so is what their kinds name -/
theorem onto_pack {m : Mg} (b : Mg) (hk : okKd m.kd = true) : packB (ontoM m b) = packB m := by
 rw [← pack_only (m := ontoM m b) (by rw [onto_kd]; exact hk), onto_only b hk, pack_only hk]
theorem only_only {m : Mg} (hk : okKd m.kd = true) : onlyM (onlyM m) = onlyM m := by
 rcases kd_14 hk with h | h | h | h | h | h | h | h | h | h | h | h | h | h
 ·rw [show onlyM m = { mg0 1 m.fr m.to with cm := m.cm } by unfold onlyM; rw [h]; rfl]; rfl
 ·rw [show onlyM m = { mg0 2 m.fr m.to with st := m.st } by unfold onlyM; rw [h]; rfl]; rfl
 ·rw [show onlyM m = { mg0 3 m.fr m.to with ce := m.ce } by unfold onlyM; rw [h]; rfl]; rfl
 ·rw [show onlyM m = { mg0 4 m.fr m.to with ak := m.ak } by unfold onlyM; rw [h]; rfl]; rfl
 ·rw [show onlyM m = { mg0 5 m.fr m.to with ep := m.ep, rn := m.rn, tm := m.tm } by unfold onlyM; rw [h]; rfl]; rfl
 ·rw [show onlyM m = { mg0 6 m.fr m.to with pm := m.pm } by unfold onlyM; rw [h]; rfl]; rfl
 ·rw [show onlyM m = { mg0 7 m.fr m.to with pr := m.pr } by unfold onlyM; rw [h]; rfl]; rfl
 ·rw [show onlyM m = { mg0 8 m.fr m.to with vt := m.vt } by unfold onlyM; rw [h]; rfl]; rfl
 ·rw [show onlyM m = { mg0 9 m.fr m.to with ix := m.ix, en := m.en } by unfold onlyM; rw [h]; rfl]; rfl
 ·rw [show onlyM m = { mg0 10 m.fr m.to with op := m.op } by unfold onlyM; rw [h]; rfl]; rfl
 ·rw [show onlyM m = { mg0 11 m.fr m.to with ix := m.ix } by unfold onlyM; rw [h]; rfl]; rfl
 ·rw [show onlyM m = { mg0 12 m.fr m.to with dn := m.dn } by unfold onlyM; rw [h]; rfl]; rfl
 ·rw [show onlyM m = { mg0 13 m.fr m.to with ix := m.ix, rp := m.rp } by unfold onlyM; rw [h]; rfl]; rfl
 ·rw [show onlyM m = { mg0 14 m.fr m.to with dc := m.dc } by unfold onlyM; rw [h]; rfl]; rfl
theorem cp_cutPm (x : Pm) : cpPm (cutPm x) := ⟨by simp only [cutPm, List.length_map, List.length_take]; omega, fun y hy => by
 obtain ⟨u, -, rfl⟩ := List.mem_map.1 hy
 simp only [cpCe, cutCe, List.length_take]; omega⟩
theorem cp_cutBa (x : Ba) : cpBa (cutBa x) := by
 refine ⟨⟨by simp only [cutBa, List.length_map, List.length_take]; omega, fun y hy => ?_⟩, ⟨by simp only [cutBa, List.length_map, List.length_take]; omega, fun y hy => ?_⟩, ⟨by simp only [cutBa, List.length_map, List.length_take]; omega, fun y hy => ?_⟩⟩
 ·obtain ⟨u, -, rfl⟩ := List.mem_map.1 hy; exact cp_cutPm u
 ·obtain ⟨u, -, rfl⟩ := List.mem_map.1 hy; simp only [cpOp, cutOp, List.length_take]; omega
 ·obtain ⟨u, -, rfl⟩ := List.mem_map.1 hy; simp only [cpTb, cutTb, List.length_take]; omega
theorem cp_small (x : Mg) : cpMg (smallM x) := ⟨by simp only [smallM, cpCe, cutCe, List.length_take]; omega, cp_cutPm _, by simp only [smallM, cpOp, cutOp, List.length_take]; omega, cp_cutBa _, cp_cutBa _, by simp only [smallM, List.length_take]; omega⟩
theorem cp_onto {m b : Mg} (hm : cpMg m) (hb : cpMg b) : cpMg (ontoM m b) := by
 obtain ⟨h1, h2, h3, h4, h5, h6⟩ := hm
 obtain ⟨b1, b2, b3, b4, b5, b6⟩ := hb
 unfold ontoM
 repeat' (refine ite_q ?_ ?_)
 all_goals exact ⟨by first | exact h1 | exact b1, by first | exact h2 | exact b2, by first | exact h3 | exact b3, by first | exact h4 | exact b4, by first | exact h5 | exact b5, by first | exact h6 | exact b6⟩
theorem baB_len2 {R : Nat → Prop} {w : World} {x : Ba} {vp vo vt : Value} (hok : x.OK) (hp : RdS PmR R w vp (cutBa x).ps) (ho : RdS OpR R w vo (cutBa x).os) (ht : RdS TbR R w vt (cutBa x).ts) : (baB (cutBa x)).length ≤ 10000 := by
 have h1 := encI_len0 _ hok.1; have h2 := (encN_len10 hok.2).2
 have h3 := listB_len pmB (M := 4) (l := (cutBa x).ps) (by simp [cutBa]; omega) (by decide) (fun z hz => by
  obtain ⟨cs, hc⟩ := RdS_mem hp z hz
  obtain ⟨u, -, rfl⟩ := List.mem_map.1 hz
  exact pmB_len hc ⟨u, rfl⟩)
 have h4 := listB_len opB (M := 4) (l := (cutBa x).os) (by simp [cutBa]; omega) (by decide) (fun z hz => by
  obtain ⟨cs, hc⟩ := RdS_mem ho z hz
  obtain ⟨u, -, rfl⟩ := List.mem_map.1 hz
  exact opB_len hc (by simp [cutOp]; omega))
 have h5 := listB_len tbB (M := 4) (l := (cutBa x).ts) (by simp [cutBa]; omega) (by decide) (fun z hz => by
  obtain ⟨cs, hc⟩ := RdS_mem ht z hz
  obtain ⟨u, -, rfl⟩ := List.mem_map.1 hz
  exact tbB_len hc (by simp [cutTb]; omega))
 have e1 : (encI (cutBa x).ep).length ≤ 10 := h1
 have e2 : (encN (cutBa x).tm).length ≤ 10 := h2
 simp only [baB, List.length_append]; omega
theorem vtB_len {x : Vt} (h : x.OK) : (vtB x).length ≤ 92 := by
 obtain ⟨a, b, c, d, e, f, g⟩ := h
 have h1 := encI_len0 _ a; have h2 := encI_len0 _ b; have h3 := encI_len0 _ c; have h4 := encI_len0 _ d; have h5 := e.1; have h6 := encI_len0 _ f; have h7 := encI_len0 _ g
 simp only [vtB, sigB, List.length_append]; omega
theorem enB_len {x : En} (h : x.OK) : (enB x).length ≤ 62 := by
 obtain ⟨a, b, e, c⟩ := h
 have h1 := encI_len0 _ a; have h2 := encI_len0 _ b; have h5 := e.1; have h6 := (encN_len10 c).2
 simp only [enB, nameB, List.length_append]; omega
theorem ite_len2 {c : Prop} [Decidable c] {a b : List Int} {n : Nat} (ha : a.length ≤ n) (hb : b.length ≤ n) : (if c then a else b).length ≤ n := by by_cases h : c <;> simp [h, ha, hb]
theorem cutRp_len (s : ByteArray) : (bytesOf (cutRp s)).length ≤ 260 := by
 rw [bytesOf_len]; unfold cutRp
 split
 ·rw [ByteArray.size_extract]; omega
 ·omega
theorem small_body {R : Nat → Prop} {w : World} {cs : List Value} {a : Mg} {k : Int} (h : MgR.rd R w cs { smallM a with kd := k }) : (bodyB { smallM a with kd := k }).length ≤ 20000 := by
 obtain ⟨c5, c10, c11, c15, c18, rfl, ok, h5, h10, h11, h15, h18⟩ := h
 have e3 := ceB_len h5 (by show (a.ce.l.take 5).length ≤ 5; rw [List.length_take]; omega)
 have e6 := pmB_len h10 ⟨_, rfl⟩
 have e10 := opB_len h15 (by show (a.op.pl.take 260).length ≤ 260; rw [List.length_take]; omega)
 obtain ⟨p1, p2, p3, rfl, ⟨i1, i2, i3, i4, okb, i5, i6⟩, hp, ho, ht⟩ := h11
 have e7 := baB_len2 (x := a.pr.ba) okb hp ho ht
 obtain ⟨d1, d2, d3, d4, rfl, ⟨j1, j2, okd⟩, gp, go_, gt, gl⟩ := h18
 have e14 := baB_len2 (x := a.dc.ba) okd gp go_ gt
 have e15 := listB_len vtB (M := 5) (l := a.dc.l.take 5) (by rw [List.length_take]; omega) (by decide) (fun z hz => by obtain ⟨cs, e, hk⟩ := RdS_mem gl z hz; exact vtB_len hk)
 have n1 := encI_len0 _ ok.ep; have n2 := encI_len0 _ ok.rn; have n3 := (encN_len10 ok.tm).2; have n4 := encI_len0 _ ok.ix
 have m1 := encI_len0 _ i1; have m2 := encI_len0 _ i2; have m3 := encI_len0 _ (I64_wrap (cutVl a.pr.vl + 1)); have m4 := encI_len0 _ i4; have m5 := encI_len0 _ i5; have m6 := encI_len0 _ i6
 have q1 := encI_len0 _ j1; have q2 := encI_len0 _ j2
 have r1 := cutRp_len a.rp; have r2 := (encN_len10 (n := (bytesOf (cutRp a.rp)).length) (by unfold U64; omega)).2
 unfold bodyB
 repeat' (refine ite_len2 ?_ ?_)
 ·exact Nat.le_trans (cmB_len ok.cm) (by decide)
 ·exact Nat.le_trans (stB_len ok.st) (by decide)
 ·exact Nat.le_trans e3 (by decide)
 ·exact Nat.le_trans (stB_len ok.ak) (by decide)
 ·show (encI a.ep ++ encI a.rn ++ encN a.tm).length ≤ 20000
  have n1' : (encI a.ep).length ≤ 10 := n1
  have n2' : (encI a.rn).length ≤ 10 := n2
  have n3' : (encN a.tm).length ≤ 10 := n3
  simp only [List.length_append]; omega
 ·exact Nat.le_trans e6 (by decide)
 ·show (prB { a.pr with ba := cutBa a.pr.ba, vl := cutVl a.pr.vl }).length ≤ 20000
  have m1' : (encI a.pr.ep).length ≤ 10 := m1
  have m2' : (encI a.pr.rn).length ≤ 10 := m2
  have m4' : (encI a.pr.rp).length ≤ 10 := m4
  have m5' : (encI a.pr.sb).length ≤ 10 := m5
  have m6' : (encI a.pr.mr).length ≤ 10 := m6
  simp only [prB, sigB, List.length_append]; omega
 ·exact Nat.le_trans (vtB_len ok.vt) (by decide)
 ·show (encI a.ix ++ enB a.en).length ≤ 20000
  have n4' : (encI a.ix).length ≤ 10 := n4
  have n5' : (enB a.en).length ≤ 62 := enB_len ok.en
  simp only [List.length_append]; omega
 ·exact Nat.le_trans e10 (by decide)
 ·exact Nat.le_trans n4 (by decide)
 ·exact Nat.le_trans (dnB_len ok.dn) (by decide)
 ·show (encI a.ix ++ (encN (bytesOf (cutRp a.rp)).length ++ bytesOf (cutRp a.rp))).length ≤ 20000
  have n4' : (encI a.ix).length ≤ 10 := n4
  simp only [List.length_append]; omega
 ·show (dcB { a.dc with ba := cutBa a.dc.ba, l := a.dc.l.take 5 }).length ≤ 20000
  have q1' : (encI a.dc.ep).length ≤ 10 := q1
  have q2' : (encI a.dc.rn).length ≤ 10 := q2
  simp only [dcB, List.length_append]; omega
 ·simp
theorem small_len {R : Nat → Prop} {w : World} {cs : List Value} {a : Mg} {k : Int} (h : MgR.rd R w cs { smallM a with kd := k }) : (packB { smallM a with kd := k }).length ≤ 30000 := by
 have h1 := small_body h
 obtain ⟨c5, c10, c11, c15, c18, rfl, ok, -⟩ := h
 have n1 := encI_len0 _ ok.kd; have n2 := encI_len0 _ ok.fr; have n3 := encI_len0 _ ok.to
 simp only [packB, List.length_append] at *; omega
theorem packs_of_len {m : Mg} (hk : okKd m.kd = true) (h : (packB m).length ≤ 30000) : packs m = true := by
 unfold packs
 rw [hk, Bool.true_and, decide_eq_true_eq]
 omega
end Go.Proofs.YtpnikilkcifncaaGreat

/- msgs.get of a kind that there is none, msgs.Unpack of nothing. -/
namespace Go.Proofs.YtpnikilkcifncaaGreat
open Go Go.RowKit Go.Gv


theorem gI_nil : gI (some []) = (0, none) := by
  unfold gI rInt rNum
  rfl
theorem gI_none : gI none = (0, none) := by
  unfold gI rInt rNum
  rfl
theorem gI_kd0 : okKd (gI (some [])).1 = false := by rw [gI_nil]; rfl
theorem gI_st0 : (gI (gI (gI (some [])).2).2).2 = none := by rw [gI_nil]; dsimp only; rw [gI_none]; dsimp only; rw [gI_none]
theorem results_cellA_tmp0 {P : Program} {fn : Func} {p u : Tmp} {ty : TypeId} (h : fn.results = #[.cell p ty, .tmp u]) (tmps : Array Value) (w : World) (g : Nat) (cs : List Value) {d : TypeDesc}
    (hp : tmps.getD p undef = .pointer (some ⟨g, 0, none⟩)) (hc : ∀ j u, cs[j]? = some u → w.cell? ⟨g, j, none⟩ = some u) (hu : P.underlying ty = some d) (hd : aggDesc d = true) (hi : (P.info? ty).map (·.size) = some cs.length) :
    (results fn tmps).run P w = .ok (.tuple #[.agg cs.toArray, tmps.getD u undef]) w := by
  have hp' : tmps[p]?.getD undef = .pointer (some ⟨g, 0, none⟩) := by simpa using hp
  simp [results, h, hp', asAddr, run_loadA w ty d hu hd ⟨g, 0, none⟩ cs hi (fun j u hu => by rw [add_mk, Nat.zero_add]; exact hc j u hu)]
theorem RdR_nil00 {R : Nat → Prop} {N : Nat} {w : World} : RdR R N w (.slice none 0 0) [] := ⟨⟨(fun b hb => by cases hb), Rd.nil _ _⟩, (fun h => by simp at h), Nat.zero_le _⟩
set_option maxHeartbeats 8000000 in
theorem get0_Q : ∀ (R : Nat → Prop) (r : Nat) (s : RSt) (a b c : Int) (w : World), RrR 133 R w r s → (∀ k, R k → k < w.heap.size) → I64 a ∧ okKd a = false → True → I64 b → I64 c →
    Calls Tryz.prog 42 #[.pointer (some ⟨r, 0, none⟩), .agg (mg0C a b c).toArray] w fun e w' => e = .returned (.agg (mg0C a b c).toArray) ∧ RrR 133 R w' r s ∧ Mod R w w' := by
  intro R r s a b c w hR hB hk ha hb hc
  have HRD := Lib.hid hR
  have HBR := Lib.hid hB
  have HMR := hid (MgR.one (mg0_rd hk.1 hb hc (fun _ => False) w))
  have K1 := hid (show ¬ a = 1 by rintro rfl; exact absurd hk.2 (by decide))
  have K2 := hid (show ¬ a = 2 by rintro rfl; exact absurd hk.2 (by decide))
  have K3 := hid (show ¬ a = 3 by rintro rfl; exact absurd hk.2 (by decide))
  have K4 := hid (show ¬ a = 4 by rintro rfl; exact absurd hk.2 (by decide))
  have K5 := hid (show ¬ a = 5 by rintro rfl; exact absurd hk.2 (by decide))
  have K6 := hid (show ¬ a = 6 by rintro rfl; exact absurd hk.2 (by decide))
  have K7 := hid (show ¬ a = 7 by rintro rfl; exact absurd hk.2 (by decide))
  have K8 := hid (show ¬ a = 8 by rintro rfl; exact absurd hk.2 (by decide))
  have K9 := hid (show ¬ a = 9 by rintro rfl; exact absurd hk.2 (by decide))
  have K10 := hid (show ¬ a = 10 by rintro rfl; exact absurd hk.2 (by decide))
  have K11 := hid (show ¬ a = 11 by rintro rfl; exact absurd hk.2 (by decide))
  have K12 := hid (show ¬ a = 12 by rintro rfl; exact absurd hk.2 (by decide))
  have K13 := hid (show ¬ a = 13 by rintro rfl; exact absurd hk.2 (by decide))
  have K14 := hid (show ¬ a = 14 by rintro rfl; exact absurd hk.2 (by decide))
  clear hR hB hk hb hc ha
  go_enter Tryz.func42, Tryz.ntmps42
  go_upto_region 1 with (fail)
  obtain ⟨w1, hw1⟩ : ∃ zz, zz = ((w.alloc (.cells ((mg0C a b c) : List Value).toArray 61)).alloc (.cells ((mg0C 0 0 0) : List Value).toArray 61)) := ⟨_, rfl⟩
  change Code.wp _ _ _ _ ((w.alloc (.cells ((mg0C a b c) : List Value).toArray 61)).alloc (.cells ((mg0C 0 0 0) : List Value).toArray 61))
  rw [← hw1]
  have HB3 := hid (show Cs w1 (w.heap.size) ((mg0C a b c) : List Value).toArray 61 by rw [hw1]; exact (Cs.new _ _ _).alloc _)
  have HB4 := hid (show Cs w1 (w.heap.size + 1) ((mg0C 0 0 0) : List Value).toArray 61 by rw [hw1]; exact Cs_newN _ _ _ (by simp))
  have hm : Mod (fun _ => False) w w1 := by rw [hw1]; exact ((Mod.refl _ _).alloc _).alloc _
  have HM0 := hid (show Mod (fun k => (R k)) w w1 from hm.mono (fun _ _ h => h.elim))
  have hs1 : w1.heap.size = w.heap.size + 2 := by rw [hw1]; simp
  have Hx1 := hid (HRD.out.mod hm (fun _ _ h => h))
  clear HRD
  clear hw1 hm
  go_upto_region 1 with (fail)
  refine wp_region_U 98 [5, 6] [0, 1] (fun a0 HA0 => ?_)
  have oe3 := ev HA0 3 rfl
  refine QSeq.pure rfl (.pointer (some ⟨w.heap.size, 0, none⟩)) (fun E => ex_field rfl Tryz.underlying61 rfl (by kernel_rfl) (E.v oe3)) ?_
  refine QSeq.pure rfl (.int .i64 a) (fun E => ex_load1 rfl Tryz.underlying3 rfl (E.d 0 0) (Cs.seg1 (segs := (mg0 a b c).segs (zCe.cells zS) (zPm.cells zS) (zPr.cells zS zS zS) (zOp.cells zS) (zDc.cells zS zS zS zS)) HB3.out (ns := mgN) rfl 0 rfl (o := 0) (k := 0) rfl rfl rfl)) ?_
  refine QSeq.nil (t' := [_, _]) rfl ?_
  obtain rfl := HA0.out
  clear HA0 oe3
  simp only [pz, Act.put, sIB, sCZ, sCS]
  go_upto_region 2 with (fail)
  refine wp_region_U 98 [8, 7] [0, 1] (fun a0 HA0 => ?_)
  have oe6 := ev HA0 6 rfl
  refine QSeq.pure rfl (.bool false) (fun E => ex_binE rfl (E.v oe6) rfl (guard_ints _ _ _ _ _ _) (run_eql_i _ _ _ Tryz.underlying3) (congrArg Value.bool (eq_ff K1.out))) ?_
  refine QSeq.pure rfl _ (fun E => ex_assign rfl (E.d 0 0)) ?_
  refine QSeq.nil (t' := [_, _]) rfl ?_
  obtain rfl := HA0.out
  clear HA0 oe6
  simp only [pz, Act.put, sIB, sCZ, sCS]
  go_upto_region 4 with (fail)
  refine wp_region_U 98 [13, 12] [0, 1] (fun a0 HA0 => ?_)
  have oe6 := ev HA0 6 rfl
  refine QSeq.pure rfl (.bool false) (fun E => ex_binE rfl (E.v oe6) rfl (guard_ints _ _ _ _ _ _) (run_eql_i _ _ _ Tryz.underlying3) (congrArg Value.bool (eq_ff K2.out))) ?_
  refine QSeq.pure rfl _ (fun E => ex_assign rfl (E.d 0 0)) ?_
  refine QSeq.nil (t' := [_, _]) rfl ?_
  obtain rfl := HA0.out
  clear HA0 oe6
  simp only [pz, Act.put, sIB, sCZ, sCS]
  go_upto_region 6 with (fail)
  refine wp_region_U 98 [18, 17] [0, 1] (fun a0 HA0 => ?_)
  have oe6 := ev HA0 6 rfl
  refine QSeq.pure rfl (.bool false) (fun E => ex_binE rfl (E.v oe6) rfl (guard_ints _ _ _ _ _ _) (run_eql_i _ _ _ Tryz.underlying3) (congrArg Value.bool (eq_ff K3.out))) ?_
  refine QSeq.pure rfl _ (fun E => ex_assign rfl (E.d 0 0)) ?_
  refine QSeq.nil (t' := [_, _]) rfl ?_
  obtain rfl := HA0.out
  clear HA0 oe6
  simp only [pz, Act.put, sIB, sCZ, sCS]
  go_upto_region 8 with (fail)
  refine wp_region_U 98 [23, 22] [0, 1] (fun a0 HA0 => ?_)
  have oe6 := ev HA0 6 rfl
  refine QSeq.pure rfl (.bool false) (fun E => ex_binE rfl (E.v oe6) rfl (guard_ints _ _ _ _ _ _) (run_eql_i _ _ _ Tryz.underlying3) (congrArg Value.bool (eq_ff K4.out))) ?_
  refine QSeq.pure rfl _ (fun E => ex_assign rfl (E.d 0 0)) ?_
  refine QSeq.nil (t' := [_, _]) rfl ?_
  obtain rfl := HA0.out
  clear HA0 oe6
  simp only [pz, Act.put, sIB, sCZ, sCS]
  go_upto_region 10 with (fail)
  refine wp_region_U 98 [28, 27] [0, 1] (fun a0 HA0 => ?_)
  have oe6 := ev HA0 6 rfl
  refine QSeq.pure rfl (.bool false) (fun E => ex_binE rfl (E.v oe6) rfl (guard_ints _ _ _ _ _ _) (run_eql_i _ _ _ Tryz.underlying3) (congrArg Value.bool (eq_ff K5.out))) ?_
  refine QSeq.pure rfl _ (fun E => ex_assign rfl (E.d 0 0)) ?_
  refine QSeq.nil (t' := [_, _]) rfl ?_
  obtain rfl := HA0.out
  clear HA0 oe6
  simp only [pz, Act.put, sIB, sCZ, sCS]
  go_upto_region 12 with (fail)
  refine wp_region_U 98 [39, 38] [0, 1] (fun a0 HA0 => ?_)
  have oe6 := ev HA0 6 rfl
  refine QSeq.pure rfl (.bool false) (fun E => ex_binE rfl (E.v oe6) rfl (guard_ints _ _ _ _ _ _) (run_eql_i _ _ _ Tryz.underlying3) (congrArg Value.bool (eq_ff K6.out))) ?_
  refine QSeq.pure rfl _ (fun E => ex_assign rfl (E.d 0 0)) ?_
  refine QSeq.nil (t' := [_, _]) rfl ?_
  obtain rfl := HA0.out
  clear HA0 oe6
  simp only [pz, Act.put, sIB, sCZ, sCS]
  go_upto_region 14 with (fail)
  refine wp_region_U 98 [44, 43] [0, 1] (fun a0 HA0 => ?_)
  have oe6 := ev HA0 6 rfl
  refine QSeq.pure rfl (.bool false) (fun E => ex_binE rfl (E.v oe6) rfl (guard_ints _ _ _ _ _ _) (run_eql_i _ _ _ Tryz.underlying3) (congrArg Value.bool (eq_ff K7.out))) ?_
  refine QSeq.pure rfl _ (fun E => ex_assign rfl (E.d 0 0)) ?_
  refine QSeq.nil (t' := [_, _]) rfl ?_
  obtain rfl := HA0.out
  clear HA0 oe6
  simp only [pz, Act.put, sIB, sCZ, sCS]
  go_upto_region 16 with (fail)
  refine wp_region_U 98 [49, 48] [0, 1] (fun a0 HA0 => ?_)
  have oe6 := ev HA0 6 rfl
  refine QSeq.pure rfl (.bool false) (fun E => ex_binE rfl (E.v oe6) rfl (guard_ints _ _ _ _ _ _) (run_eql_i _ _ _ Tryz.underlying3) (congrArg Value.bool (eq_ff K8.out))) ?_
  refine QSeq.pure rfl _ (fun E => ex_assign rfl (E.d 0 0)) ?_
  refine QSeq.nil (t' := [_, _]) rfl ?_
  obtain rfl := HA0.out
  clear HA0 oe6
  simp only [pz, Act.put, sIB, sCZ, sCS]
  go_upto_region 18 with (fail)
  refine wp_region_U 98 [54, 53] [0, 1] (fun a0 HA0 => ?_)
  have oe6 := ev HA0 6 rfl
  refine QSeq.pure rfl (.bool false) (fun E => ex_binE rfl (E.v oe6) rfl (guard_ints _ _ _ _ _ _) (run_eql_i _ _ _ Tryz.underlying3) (congrArg Value.bool (eq_ff K9.out))) ?_
  refine QSeq.pure rfl _ (fun E => ex_assign rfl (E.d 0 0)) ?_
  refine QSeq.nil (t' := [_, _]) rfl ?_
  obtain rfl := HA0.out
  clear HA0 oe6
  simp only [pz, Act.put, sIB, sCZ, sCS]
  go_upto_region 20 with (fail)
  refine wp_region_U 98 [62, 61] [0, 1] (fun a0 HA0 => ?_)
  have oe6 := ev HA0 6 rfl
  refine QSeq.pure rfl (.bool false) (fun E => ex_binE rfl (E.v oe6) rfl (guard_ints _ _ _ _ _ _) (run_eql_i _ _ _ Tryz.underlying3) (congrArg Value.bool (eq_ff K10.out))) ?_
  refine QSeq.pure rfl _ (fun E => ex_assign rfl (E.d 0 0)) ?_
  refine QSeq.nil (t' := [_, _]) rfl ?_
  obtain rfl := HA0.out
  clear HA0 oe6
  simp only [pz, Act.put, sIB, sCZ, sCS]
  go_upto_region 22 with (fail)
  refine wp_region_U 98 [67, 66] [0, 1] (fun a0 HA0 => ?_)
  have oe6 := ev HA0 6 rfl
  refine QSeq.pure rfl (.bool false) (fun E => ex_binE rfl (E.v oe6) rfl (guard_ints _ _ _ _ _ _) (run_eql_i _ _ _ Tryz.underlying3) (congrArg Value.bool (eq_ff K11.out))) ?_
  refine QSeq.pure rfl _ (fun E => ex_assign rfl (E.d 0 0)) ?_
  refine QSeq.nil (t' := [_, _]) rfl ?_
  obtain rfl := HA0.out
  clear HA0 oe6
  simp only [pz, Act.put, sIB, sCZ, sCS]
  go_upto_region 24 with (fail)
  refine wp_region_U 98 [72, 71] [0, 1] (fun a0 HA0 => ?_)
  have oe6 := ev HA0 6 rfl
  refine QSeq.pure rfl (.bool false) (fun E => ex_binE rfl (E.v oe6) rfl (guard_ints _ _ _ _ _ _) (run_eql_i _ _ _ Tryz.underlying3) (congrArg Value.bool (eq_ff K12.out))) ?_
  refine QSeq.pure rfl _ (fun E => ex_assign rfl (E.d 0 0)) ?_
  refine QSeq.nil (t' := [_, _]) rfl ?_
  obtain rfl := HA0.out
  clear HA0 oe6
  simp only [pz, Act.put, sIB, sCZ, sCS]
  go_upto_region 26 with (fail)
  refine wp_region_U 98 [77, 76] [0, 1] (fun a0 HA0 => ?_)
  have oe6 := ev HA0 6 rfl
  refine QSeq.pure rfl (.bool false) (fun E => ex_binE rfl (E.v oe6) rfl (guard_ints _ _ _ _ _ _) (run_eql_i _ _ _ Tryz.underlying3) (congrArg Value.bool (eq_ff K13.out))) ?_
  refine QSeq.pure rfl _ (fun E => ex_assign rfl (E.d 0 0)) ?_
  refine QSeq.nil (t' := [_, _]) rfl ?_
  obtain rfl := HA0.out
  clear HA0 oe6
  simp only [pz, Act.put, sIB, sCZ, sCS]
  go_upto_region 28 with (fail)
  refine wp_region_U 98 [86, 85] [0, 1] (fun a0 HA0 => ?_)
  have oe6 := ev HA0 6 rfl
  refine QSeq.pure rfl (.bool false) (fun E => ex_binE rfl (E.v oe6) rfl (guard_ints _ _ _ _ _ _) (run_eql_i _ _ _ Tryz.underlying3) (congrArg Value.bool (eq_ff K14.out))) ?_
  refine QSeq.pure rfl _ (fun E => ex_assign rfl (E.d 0 0)) ?_
  refine QSeq.nil (t' := [_, _]) rfl ?_
  obtain rfl := HA0.out
  clear HA0 oe6
  simp only [pz, Act.put, sIB, sCZ, sCS]
  go_upto_region 30 with (fail)
  refine wp_region_U 98 [97, 99] [0, 1] (fun a0 HA0 => ?_)
  have oe3 := ev HA0 3 rfl
  have oe4 := ev HA0 4 rfl
  refine QSeq.pure rfl _ (fun E => ex_loadA rfl Tryz.underlying61 rfl (off := 0) (cs := (mg0C a b c)) (by kernel_rfl) (E.v oe3) (Cs.whole HB3.out)) ?_
  refine QSeq.go fun act E => ?_
  refine qc_store rfl (wanted_none rfl) rfl HB4.out (off := 0) (vs := (mg0C a b c)) (by kernel_rfl) HMR.out (by show 0 + 295 ≤ 295; decide) (E.v oe4) (ec (E.d 0 0)) ?_
  intro u30_1 qc0 hm
  have qB4 := qc0.eqv (b := ((mg0C a b c) : List Value).toArray) (lay_whole _ _ rfl)
  clear qc0
  have Hx2 := hid qB4
  have zu30_1 := hm.size
  have Cx3 := hid (show Mod (fun k => (k = w.heap.size + 1)) w1 u30_1 from hm)
  clear hm
  clear act E qB4 HB4
  refine QSeq.nil (t' := [_, _]) rfl ?_
  obtain rfl := HA0.out
  clear HA0 oe3 oe4
  simp only [pz, Act.put, sIB, sCZ, sCS, List.set_nil]
  go_wp2
  exact bodyPost_ret (results_cellA rfl _ _ (w.heap.size + 1) (mg0C a b c) rfl (fun k u hu => by rw [Hx2.out.cell]; simpa using hu) Tryz.underlying61 rfl (by kernel_rfl)) rfl ⟨rfl, (Hx1.out.mod Cx3.out (sB HBR)), (HM0.out.trans Cx3.out (by intro k h1 h2; first | exact h2 | omega))⟩
set_option maxHeartbeats 4000000 in
theorem Unpack0_Q (w : World) : Calls Tryz.prog 12 #[.slice none 0 0] w fun e w' => e = .returned (.tuple #[.agg (mg0C 0 0 0).toArray, .bool false]) ∧ Mod (fun _ => False) w w' := by
  go_enter Tryz.func12, Tryz.ntmps12
  go_upto_region 1 with (fail)
  obtain ⟨w1, hw1⟩ : ∃ zz, zz = (w.alloc (.cells ((mg0C 0 0 0) : List Value).toArray 61)) := ⟨_, rfl⟩
  change Code.wp _ _ _ _ (w.alloc (.cells ((mg0C 0 0 0) : List Value).toArray 61))
  rw [← hw1]
  have HB2 := hid (show Cs w1 (w.heap.size) ((mg0C 0 0 0) : List Value).toArray 61 by rw [hw1]; exact Cs.new _ _ _)
  have hm : Mod (fun _ => False) w w1 := by rw [hw1]; exact (Mod.refl _ _).alloc _
  have HM0 := hid (show Mod (fun _ => False) w w1 from hm.mono (fun _ _ h => h.elim))
  have hs1 : w1.heap.size = w.heap.size + 1 := by rw [hw1]; simp
  clear hw1 hm
  go_upto_region 1 with (fail)
  refine wp_region_U 43 [8, 9, 4] [0, 1, 2] (fun a0 HA0 => ?_)
  have oe0 := ev HA0 0 rfl
  refine QSeq.pure rfl _ (fun E => ex_move rfl (E.v oe0)) ?_
  refine QSeq.call rfl rfl Tryz.func41 (NewReader_R (R := fun _ => False) (N := 900000) RdR_nil00 (by decide)) (fun E => args1 (E.d 0 0)) ?_
  rintro e u1_1 ⟨r1, rfl, qrd, hm⟩
  refine ⟨_, rfl, ?_⟩
  have Hx1 := hid qrd
  have zu1_1 := hm.size
  have Cx2 := hid (show Mod (fun _ => False) w1 u1_1 from hm)
  clear hm
  clear qrd
  refine QSeq.pure rfl _ (fun E => ex_assign rfl (E.d 1 0)) ?_
  refine QSeq.nil (t' := [_, _, _]) rfl ?_
  obtain rfl := HA0.out
  clear HA0 oe0
  simp only [pz, Act.put, sIB, sCZ, sCS]
  have HOG := hid (MgR.one (mg0_rd (gI_I64 (some [])) (gI_I64 (gI (some [])).2) (gI_I64 (gI (gI (some [])).2).2) (fun _ => False) w))
  go_upto_region 2 with (fail)
  refine wp_region_U 43 [10, 11, 12, 13, 14, 15, 16, 17, 18, 5, 53] [0, 1, 2, 3, 4, 5, 6, 7, 8, 9, 10] (fun a0 HA0 => ?_)
  have oe4 := ev HA0 4 rfl
  refine QSeq.pure rfl _ (fun E => ex_move rfl (E.v oe4)) ?_
  refine QSeq.pure rfl _ (fun E => ex_move rfl (E.v oe4)) ?_
  refine QSeq.call rfl rfl Tryz.func43 (cI_Q Hx1.out) (fun E => args2 (E.d 1 0) rfl) ?_
  rintro e u2_2 ⟨rfl, qrd, hm⟩
  refine ⟨_, rfl, ?_⟩
  have Hx3 := hid qrd
  have zu2_2 := hm.size
  have Cx4 := hid (show Mod (fun k => (New w1 u1_1 k)) u1_1 u2_2 from hm)
  clear hm
  clear qrd Hx1
  refine QSeq.pure rfl _ (fun E => ex_move rfl (E.v oe4)) ?_
  refine QSeq.call rfl rfl Tryz.func43 (cI_Q Hx3.out) (fun E => args2 (E.d 3 0) rfl) ?_
  rintro e u2_4 ⟨rfl, qrd, hm⟩
  refine ⟨_, rfl, ?_⟩
  have Hx5 := hid qrd
  have zu2_4 := hm.size
  have HMu2_4 := hid hm
  have Cx6 := hid (Mod.goS (S' := (fun k => (New w1 u1_1 k))) Cx4.out hm (fun _ h => h) (by intro k h0 h2; exact h2))
  clear hm Cx4
  clear qrd Hx3
  refine QSeq.pure rfl _ (fun E => ex_move rfl (E.v oe4)) ?_
  refine QSeq.call rfl rfl Tryz.func43 (cI_Q Hx5.out) (fun E => args2 (E.d 5 0) rfl) ?_
  rintro e u2_6 ⟨rfl, qrd, hm⟩
  refine ⟨_, rfl, ?_⟩
  have Hx7 := hid qrd
  have zu2_6 := hm.size
  have HMu2_6 := hid hm
  have Cx8 := hid (Mod.goS (S' := (fun k => (New w1 u1_1 k))) Cx6.out hm (fun _ h => h) (by intro k h0 h2; exact h2))
  clear hm Cx6
  clear qrd Hx5
  refine QSeq.go fun act E => ?_
  refine qc_run rfl (wanted_none rfl) (v := .agg ((mg0C (gI (some [])).1 (gI (gI (some [])).2).1 (gI (gI (gI (some [])).2).2).1) : List Value).toArray) (ex_build rfl (z := (mg0C 0 0 0)) (places := [(0, 1), (1, 1), (2, 1), (3, 37), (40, 38), (78, 38), (116, 38), (154, 1), (155, 1), (156, 1), (157, 6), (163, 11), (174, 38), (212, 1), (213, 35), (248, 34), (282, 4), (286, 1), (287, 8)]) (by kernel_rfl) (parts := [(0, .int .i64 (gI (some [])).1), (1, .int .i64 (gI (gI (some [])).2).1), (2, .int .i64 (gI (gI (gI (some [])).2).2).1)]) (by simp only [List.map_toArray, List.map_cons, List.map_nil, show act.eval (.tmp 12) = .int .i64 (gI (some [])).1 from (E.d 2 4), show act.eval (.tmp 14) = .int .i64 (gI (gI (some [])).2).1 from (E.d 4 2), show act.eval (.tmp 16) = .int .i64 (gI (gI (gI (some [])).2).2).1 from (E.d 6 0)]; try rfl) (r := (mg0C (gI (some [])).1 (gI (gI (some [])).2).1 (gI (gI (gI (some [])).2).2).1)) (by exact (laid_segs (ns := mgN) rfl [(0, .int .i64 (gI (some [])).1), (1, .int .i64 (gI (gI (some [])).2).1), (2, .int .i64 (gI (gI (gI (some [])).2).2).1)] (zMg.segs (zCe.cells zS) (zPm.cells zS) (zPr.cells zS zS zS) (zOp.cells zS) (zDc.cells zS zS zS zS)) rfl ⟨rfl, rfl, rfl, trivial⟩).trans rfl)) ?_
  clear act E
  refine QSeq.call rfl rfl Tryz.func42 (get0_Q _ _ _ _ _ _ _ Hx7.out (by intro k h1; omega) ⟨gI_I64 _, gI_kd0⟩ trivial (gI_I64 _) (gI_I64 _)) (fun E => args2 (E.d 0 7) (E.d 7 0)) ?_
  rintro e u2_8 ⟨rfl, qrd, hm⟩
  rw [gI_st0] at qrd
  refine ⟨_, rfl, ?_⟩
  have Hx9 := hid qrd
  have zu2_8 := hm.size
  have HMu2_8 := hid hm
  have Cx10 := hid (Mod.goS (S' := (fun k => (New w1 u1_1 k))) Cx8.out hm (fun _ h => h) (by intro k h0 h2; exact h2))
  clear hm Cx8
  clear qrd Hx7
  refine QSeq.go fun act E => ?_
  refine qc_alloc rfl (wanted_none rfl) rfl (z := (mg0C 0 0 0)) (by kernel_rfl) ?_
  intro u2_9 qB5 hm
  have zl2_9 := qB5.lt
  have Hx11 := hid qB5
  have zu2_9 := hm.size
  have HMu2_9 := hid hm
  have Cx12 := hid (Cx10.out.goE hm)
  clear hm Cx10
  clear act E qB5
  refine QSeq.go fun act E => ?_
  refine qc_store rfl (wanted_none rfl) rfl Hx11.out (off := 0) (vs := (mg0C (gI (some [])).1 (gI (gI (some [])).2).1 (gI (gI (gI (some [])).2).2).1)) (by kernel_rfl) HOG.out (by show 0 + 295 ≤ 295; decide) (E.d 9 0) (ec (E.d 8 1)) ?_
  intro u2_10 qc0 hm
  have qB5 := qc0.eqv (b := ((mg0C (gI (some [])).1 (gI (gI (some [])).2).1 (gI (gI (gI (some [])).2).2).1) : List Value).toArray) (lay_whole _ _ rfl)
  clear qc0
  have Hx13 := hid qB5
  have zu2_10 := hm.size
  have HMu2_10 := hid hm
  have Cx14 := hid (Mod.goS (S' := (fun k => (New w1 u1_1 k))) Cx12.out hm (fun _ h => h) (by intro k h0 h2; omega))
  clear hm Cx12
  clear act E qB5 Hx11
  have Hx15 := hid ((Hx9.out.mod HMu2_9.out (fun _ _ h => h)).mod HMu2_10.out (by intro k h1 h2; omega))
  clear Hx9 HMu2_4 HMu2_6 HMu2_8 HMu2_9 HMu2_10
  refine QSeq.nil (t' := [_, _, _, _, _, _, _, _, _, _, _]) rfl ?_
  obtain rfl := HA0.out
  clear HA0 oe4
  simp only [pz, Act.put, sIB, sCZ, sCS, List.set_nil]
  have HZO := hid (MgR.one (mg0_rd (k := 0) (f := 0) (t := 0) I64_0 I64_0 I64_0 (fun _ => False) w))
  go_upto_region 3 with (fail)
  refine wp_region_U 43 [19, 20, 21, 22, 23, 24, 25, 26] [0, 1, 2, 3, 4, 5, 6, 7] (fun a0 HA0 => ?_)
  have oe4 := ev HA0 4 rfl
  refine QSeq.pure rfl _ (fun E => ex_move rfl (E.v oe4)) ?_
  refine QSeq.go fun act E => ?_
  refine qc_callF (args := #[.pointer (some ⟨r1, 0, none⟩)]) rfl (wanted_none rfl) rfl Tryz.func44 (args1 (E.d 0 0)) (OK_R Hx15.out) ?_
  rintro e w2 ⟨rfl, hw2⟩
  obtain rfl : u2_10 = w2 := by first | exact hw2 | exact hw2.symm
  refine ⟨_, rfl, ?_⟩
  clear act E
  refine QSeq.pure rfl (.bool true) (fun E => ex_not rfl (E.d 1 0)) ?_
  refine QSeq.pure rfl _ (fun E => ex_move rfl (E.d 2 0)) ?_
  refine QSeq.skip rfl (fun E => ((wanted_of rfl rfl (E.sz 22 (by decide)) (E.d 3 0)).trans rfl)) ?_
  refine QSeq.skip rfl (fun E => ((wanted_of rfl rfl (E.sz 22 (by decide)) (E.d 3 1)).trans rfl)) ?_
  refine QSeq.skip rfl (fun E => ((wanted_of rfl rfl (E.sz 22 (by decide)) (E.d 3 2)).trans rfl)) ?_
  refine QSeq.pure rfl (.bool true) (fun E => ex_pick rfl (E.d 3 3) rfl (E.d 6 0)) ?_
  refine QSeq.nil (t' := [_, _, _, _, _, _, _, _]) rfl ?_
  obtain rfl := HA0.out
  clear HA0 oe4
  simp only [pz, Act.put, sIB, sCZ, sCS]
  go_upto_region 4 with (fail)
  refine wp_region_U 43 [27, 44, 3] [0, 1, 2] (fun a0 HA0 => ?_)
  have oe2 := ev HA0 2 rfl
  refine QSeq.pure rfl (.agg ((mg0C 0 0 0) : List Value).toArray) (fun E => ex_build0 rfl (r := ((mg0C 0 0 0) : List Value).toArray) (by kernel_rfl)) ?_
  refine QSeq.go fun act E => ?_
  refine qc_store rfl (wanted_none rfl) rfl ((HB2.out.mod Cx2.out (fun h => h)).mod Cx14.out (by intro h2; omega)) (off := 0) (vs := (mg0C 0 0 0)) (by kernel_rfl) HZO.out (by show 0 + 295 ≤ 295; decide) (E.v oe2) (ec (E.d 0 0)) ?_
  intro u4_1 qc0 hm
  have qB2 := qc0.eqv (b := ((mg0C 0 0 0) : List Value).toArray) (lay_whole _ _ rfl)
  clear qc0
  have Hx16 := hid qB2
  have zu4_1 := hm.size
  have Cx17 := hid (show Mod (fun k => (k = w.heap.size)) u2_10 u4_1 from hm)
  clear hm
  clear act E qB2 HB2
  refine QSeq.pure rfl (.bool false) (fun E => ex_assign rfl rfl) ?_
  refine QSeq.nil (t' := [_, _, _]) rfl ?_
  obtain rfl := HA0.out
  clear HA0 oe2
  simp only [pz, Act.put, sIB, sCZ, sCS, List.set_nil]
  go_wp2
  exact bodyPost_ret (results_cellA_tmp0 rfl _ _ w.heap.size (mg0C 0 0 0) rfl (fun k u hu => by rw [Hx16.out.cell]; simpa using hu) Tryz.underlying61 rfl (by kernel_rfl)) rfl ⟨rfl, (((HM0.out.trans Cx2.out (fun _ _ h => h.elim)).trans Cx14.out (by intro k h1 h2; omega)).trans Cx17.out (by intro k h1 h2; omega))⟩
end Go.Proofs.YtpnikilkcifncaaGreat

/- Equality of commitments, names and signatures. -/
namespace Go.Proofs.YtpnikilkcifncaaGreat
open Go Go.RowKit Go.Gv
theorem size_run {P : Program} {T : TypeId} {n : Nat} (h : (P.info? T).map (·.size) = some n) (w : World) : (sizeOf T).run P w = .ok n w := by
 cases hq : P.info? T with
 | none => rw [hq] at h; cases h
 | some i => rw [hq] at h; simp [sizeOf, typeInfo, hq]; exact Option.some.inj h
theorem part_agg {P : Program} {T : TypeId} {n : Nat} {d : TypeDesc} (hu : P.underlying T = some d) (hd : aggDesc d = true) (h : (P.info? T).map (·.size) = some n) (cs : Array Value) (off : Nat) (w : World) : (part T cs off).run P w = .ok (.agg (cs.extract off (off + n))) w := by
 have hagg : (isAgg T).run P w = .ok true w := by
  unfold isAgg
  rw [Sem.run_bind, run_underlying hu w]
  cases d <;> simp_all [aggDesc]
 simp [part, hagg, size_run h]
theorem part_one {P : Program} {T : TypeId} {d : TypeDesc} (hu : P.underlying T = some d) (hd : aggDesc d = false) {cs : Array Value} {off : Nat} {v : Value} (hv : cs[off]? = some v) (w : World) : (part T cs off).run P w = .ok v w := by
 have hagg : (isAgg T).run P w = .ok false w := by
  unfold isAgg
  rw [Sem.run_bind, run_underlying hu w]
  cases d <;> simp_all [aggDesc]
 simp [part, hagg, hv]
end Go.Proofs.YtpnikilkcifncaaGreat

/- Equality of flat things (all cells are ints): they are equal where their cells are. -/
namespace Go.Proofs.YtpnikilkcifncaaGreat
open Go Go.RowKit Go.Gv

/-- cells that are ints of these kinds -/
def KI : List IntKind → List Value → Prop
  | [], [] => True
  | k :: ks, v :: vs => (∃ a, v = .int k a) ∧ KI ks vs
  | _, _ => False
theorem KI.len : ∀ {ks : List IntKind} {vs : List Value}, KI ks vs → vs.length = ks.length
  | [], [], _ => rfl
  | k :: ks, v :: vs, h => by simp [KI.len h.2]
  | [], v :: vs, h => h.elim
  | k :: ks, [], h => h.elim
theorem KI.append : ∀ {ks ks' : List IntKind} {a b : List Value}, KI ks a → KI ks' b → KI (ks ++ ks') (a ++ b)
  | [], ks', [], b, _, h => h
  | k :: ks, ks', v :: vs, b, h, h' => ⟨h.1, KI.append h.2 h'⟩
  | [], _, v :: vs, _, h, _ => h.elim
  | k :: ks, _, [], _, h, _ => h.elim
theorem KI.split : ∀ {ks ks' : List IntKind} {vs : List Value}, KI (ks ++ ks') vs → ∃ a b, vs = a ++ b ∧ KI ks a ∧ KI ks' b
  | [], ks', vs, h => ⟨[], vs, rfl, trivial, h⟩
  | k :: ks, ks', v :: vs, h => by
    obtain ⟨a, b, rfl, h1, h2⟩ := KI.split h.2
    exact ⟨v :: a, b, rfl, ⟨h.1, h1⟩, h2⟩
  | k :: ks, _, [], h => h.elim
theorem KI.ints {k : IntKind} : ∀ {n : Nat} {h : List Int}, h.length = n → KI (List.replicate n k) (h.map (Value.int k))
  | 0, [], _ => trivial
  | n + 1, a :: h, e => ⟨⟨a, rfl⟩, KI.ints (by simpa using e)⟩
theorem KI.rep {k : IntKind} : ∀ {n : Nat} {vs : List Value}, KI (List.replicate n k) vs → ∃ h : List Int, h.length = n ∧ vs = h.map (Value.int k)
  | 0, [], _ => ⟨[], rfl, rfl⟩
  | 0, v :: vs, h => h.elim
  | n + 1, [], h => h.elim
  | n + 1, v :: vs, h => by
    obtain ⟨a, rfl⟩ := h.1
    obtain ⟨l, e, rfl⟩ := KI.rep h.2
    exact ⟨a :: l, by simp [e], rfl⟩
def EqW (P : Program) (d : Nat) (T : TypeId) (ks : List IntKind) : Prop := ∀ (xs ys : List Value) (c : Bool) (w : World), KI ks xs → KI ks ys → (c = true ↔ xs = ys) → (Op.equalIn d T (.agg xs.toArray) (.agg ys.toArray)).run P w = .ok c w
def EqT (P : Program) (d : Nat) (T : TypeId) (ks : List IntKind) : Prop := ∀ (A B : List Value) (off : Nat) (xs ys : List Value) (c : Bool) (w : World), KI ks xs → KI ks ys → (c = true ↔ xs = ys) → (A.drop off).take ks.length = xs → (B.drop off).take ks.length = ys →
  ∃ x y, (part T A.toArray off).run P w = .ok x w ∧ (part T B.toArray off).run P w = .ok y w ∧ (Op.equalIn d T x y).run P w = .ok c w
theorem ex_bool (p : Prop) : ∃ c : Bool, (c = true ↔ p) := by
  rcases Classical.em p with h | h
  · exact ⟨true, by simp [h]⟩
  · exact ⟨false, by simp [h]⟩
theorem bool_of {c d : Bool} (h : c = true ↔ d = true) : c = d := by cases c <;> cases d <;> simp_all
variable {P : Program}
theorem drop_one {A : List Value} {off : Nat} {v : Value} (h : (A.drop off).take 1 = [v]) : A.toArray[off]? = some v := by
  have h1 : ((A.drop off).take 1)[0]? = some v := by rw [h]; rfl
  rw [List.getElem?_take, List.getElem?_drop] at h1
  simpa using h1
theorem EqT.int {d : Nat} {T : TypeId} {k : IntKind} (hu : P.underlying T = some (.int k)) : EqT P (d + 1) T [k] := by
  intro A B off xs ys c w hx hy hc ha hb
  match xs, ys, hx, hy with
  | [x], [y], ⟨⟨a, e⟩, _⟩, ⟨⟨b, e'⟩, _⟩ =>
    subst e e'
    refine ⟨_, _, part_one hu rfl (drop_one ha) w, part_one hu rfl (drop_one hb) w, ?_⟩
    rw [run_equalIn_int w d T k k a b hu, show (a == b) = c from bool_of (by rw [hc]; simp)]
theorem EqT.agg {d : Nat} {T : TypeId} {ks : List IntKind} {de : TypeDesc} (h : EqW P d T ks) (hu : P.underlying T = some de) (hd : aggDesc de = true) (hs : (P.info? T).map (·.size) = some ks.length) : EqT P d T ks := by
  intro A B off xs ys c w hx hy hc ha hb
  have e : ∀ (A : List Value), A.toArray.extract off (off + ks.length) = ((A.drop off).take ks.length).toArray := fun A => by
    apply Array.ext'
    simp [List.extract_eq_take_drop, Nat.add_sub_cancel_left]
  have p1 := part_agg hu hd hs A.toArray off w
  have p2 := part_agg hu hd hs B.toArray off w
  rw [e, ha] at p1
  rw [e, hb] at p2
  exact ⟨_, _, p1, p2, h xs ys c w hx hy hc⟩
theorem EqW.ints {d : Nat} {T e : TypeId} {n : Nat} {k : IntKind} (ht : P.underlying T = some (.array n e)) (he : P.underlying e = some (.int k)) (hs : (P.info? e).map (·.size) = some 1) : EqW P (d + 2) T (List.replicate n k) := by
  intro xs ys c w hx hy hc
  obtain ⟨a, ha, rfl⟩ := hx.rep
  obtain ⟨b, hb, rfl⟩ := hy.rep
  rw [run_equalIn_ints w d T e n ht he hs a b ha hb]
  rw [show decide (a = b) = c from bool_of (by
    rw [hc, decide_eq_true_iff]
    exact ⟨fun h => by rw [h], fun h => (List.map_inj_right (fun x y h => by injection h)).1 h⟩)]
def FsE (P : Program) (d : Nat) : Nat → List Field → List (List IntKind) → Prop
  | _, [], [] => True
  | off, f :: fs, ks :: l => f.name ≠ "_" ∧ f.offset = off ∧ EqT P d f.type ks ∧ FsE P d (off + ks.length) fs l
  | _, _, _ => False
theorem eqFields_all {d : Nat} : ∀ (fs : List Field) (l : List (List IntKind)) (pre pre' xs ys : List Value) (c : Bool) (w : World), FsE P d pre.length fs l → pre'.length = pre.length → KI l.flatten xs → KI l.flatten ys → (c = true ↔ xs = ys) →
    (Op.eqFields d (pre ++ xs).toArray (pre' ++ ys).toArray fs).run P w = .ok c w
  | [], [], pre, pre', xs, ys, c, w, _, _, hx, hy, hc => by
    match xs, ys, hx, hy, hc with
    | [], [], _, _, hc => obtain rfl : c = true := hc.2 rfl; simp [Op.eqFields]
  | [], _ :: _, _, _, _, _, _, _, h, _, _, _, _ => h.elim
  | _ :: _, [], _, _, _, _, _, _, h, _, _, _, _ => h.elim
  | f :: fs, ks :: l, pre, pre', xs, ys, c, w, ⟨h1, h2, h3, h4⟩, hp, hx, hy, hc => by
    obtain ⟨a, b, rfl, ha, hb⟩ := KI.split (by simpa using hx)
    obtain ⟨a', b', rfl, ha', hb'⟩ := KI.split (by simpa using hy)
    have la := ha.len
    have la' := ha'.len
    obtain ⟨c1, hc1⟩ := ex_bool (a = a')
    obtain ⟨c2, hc2⟩ := ex_bool (b = b')
    obtain ⟨x, y, p1, p2, q⟩ := h3 (pre ++ (a ++ b)) (pre' ++ (a' ++ b')) pre.length a a' c1 w ha ha' hc1 (by rw [List.drop_left, ← la, List.take_left]) (by rw [← hp, List.drop_left, ← la', List.take_left])
    have ih := eqFields_all fs l (pre ++ a) (pre' ++ a') b b' c2 w (by rw [List.length_append, la]; exact h4) (by rw [List.length_append, List.length_append, hp, la, la']) hb hb' hc2
    rw [List.append_assoc, List.append_assoc] at ih
    unfold Op.eqFields
    rw [if_pos h1, h2]
    simp only [Sem.run_bind, p1, p2, q, Result.andThen_ok]
    have hcc : c = (c1 && c2) := bool_of (by
      rw [hc, Bool.and_eq_true, hc1, hc2]
      exact ⟨fun h => List.append_inj h (by rw [la, la']), fun h => by rw [h.1, h.2]⟩)
    subst hcc
    cases c1
    · simp
    · simp [ih]
theorem EqW.struct {d : Nat} {T : TypeId} {fs : Array Field} (l : List (List IntKind)) (hu : P.underlying T = some (.struct fs)) (hs : P.stoodInHeld T = false) (hl : FsE P d 0 fs.toList l) : EqW P (d + 1) T l.flatten := by
  intro xs ys c w hx hy hc
  have hf : P.fieldsOf T = fs := by unfold Program.fieldsOf; rw [hu]
  rw [run_equalIn_struct w d T xs.toArray ys.toArray (by rw [hf]; exact hu) hs, hf]
  exact eqFields_all fs.toList l [] [] xs ys c w hl rfl hx hy hc
theorem EqW.run {T : TypeId} {ks : List IntKind} (h : EqW P 10000 T ks) {xs ys : List Value} (hx : KI ks xs) (hy : KI ks ys) {c : Bool} (hc : c = true ↔ xs = ys) (w : World) : (binOp .eql T (.agg xs.toArray) (.agg ys.toArray)).run P w = .ok (.bool (c)) w := by
  rw [run_eql_struct, h xs ys c w hx hy hc]
  rfl
theorem EqW.runN {T : TypeId} {ks : List IntKind} (h : EqW P 10000 T ks) {xs ys : List Value} (hx : KI ks xs) (hy : KI ks ys) {c : Bool} (hc : c = true ↔ xs = ys) (w : World) : (binOp .neq T (.agg xs.toArray) (.agg ys.toArray)).run P w = .ok (.bool (!c)) w := by
  rw [run_neq_struct, h xs ys c w hx hy hc]
  rfl
abbrev i3 : List IntKind := [.i64, .i64, .i64]
abbrev kHash : List IntKind := List.replicate 32 .u8
theorem eqT_int {d : Nat} : EqT Tryz.prog (d + 1) 3 [.i64] := EqT.int Tryz.underlying3
theorem eqT_u64 {d : Nat} : EqT Tryz.prog (d + 1) 30 [.u64] := EqT.int Tryz.underlying30
theorem eqT_hash {d : Nat} : EqT Tryz.prog (d + 2) 25 kHash := EqT.agg (EqW.ints Tryz.underlying25 Tryz.underlying5 (by kernel_rfl)) Tryz.underlying25 rfl (by kernel_rfl)
theorem eqW_name {d : Nat} : EqW Tryz.prog (d + 2) 23 [.i64, .i64] := EqW.struct [[.i64], [.i64]] Tryz.underlying23 (by kernel_rfl) ⟨by decide, rfl, eqT_int, by decide, rfl, eqT_int, trivial⟩
theorem eqT_name {d : Nat} : EqT Tryz.prog (d + 2) 23 [.i64, .i64] := EqT.agg eqW_name Tryz.underlying23 rfl (by kernel_rfl)
theorem eqW_sig {d : Nat} : EqW Tryz.prog (d + 2) 27 [.i64, .i64] := EqW.struct [[.i64], [.i64]] Tryz.underlying27 (by kernel_rfl) ⟨by decide, rfl, eqT_int, by decide, rfl, eqT_int, trivial⟩
theorem eqT_sig {d : Nat} : EqT Tryz.prog (d + 2) 27 [.i64, .i64] := EqT.agg eqW_sig Tryz.underlying27 rfl (by kernel_rfl)
theorem eqW_stamp {d : Nat} : EqW Tryz.prog (d + 3) 32 [[.i64], [.i64, .i64], kHash, [.u64], [.i64, .i64]].flatten :=
  EqW.struct [[.i64], [.i64, .i64], kHash, [.u64], [.i64, .i64]] Tryz.underlying32 (by kernel_rfl) ⟨by decide, rfl, eqT_int, by decide, rfl, eqT_name, by decide, rfl, eqT_hash, by decide, rfl, eqT_u64, by decide, rfl, eqT_sig, trivial⟩
theorem eqW_ack {d : Nat} : EqW Tryz.prog (d + 3) 37 [[.i64], [.i64, .i64], kHash, [.u64], [.i64, .i64]].flatten :=
  EqW.struct [[.i64], [.i64, .i64], kHash, [.u64], [.i64, .i64]] Tryz.underlying37 (by kernel_rfl) ⟨by decide, rfl, eqT_int, by decide, rfl, eqT_name, by decide, rfl, eqT_hash, by decide, rfl, eqT_u64, by decide, rfl, eqT_sig, trivial⟩
theorem eqW_vote {d : Nat} : EqW Tryz.prog (d + 3) 49 [[.i64], [.i64], [.i64], [.i64], kHash, [.i64, .i64]].flatten :=
  EqW.struct [[.i64], [.i64], [.i64], [.i64], kHash, [.i64, .i64]] Tryz.underlying49 (by kernel_rfl) ⟨by decide, rfl, eqT_int, by decide, rfl, eqT_int, by decide, rfl, eqT_int, by decide, rfl, eqT_int, by decide, rfl, eqT_hash, by decide, rfl, eqT_sig, trivial⟩
theorem eqW_deny {d : Nat} : EqW Tryz.prog (d + 3) 56 [[.i64], [.i64], [.i64, .i64]].flatten :=
  EqW.struct [[.i64], [.i64], [.i64, .i64]] Tryz.underlying56 (by kernel_rfl) ⟨by decide, rfl, eqT_int, by decide, rfl, eqT_int, by decide, rfl, eqT_sig, trivial⟩
theorem eqW_commit {d : Nat} : EqW Tryz.prog (d + 3) 29 [[.i64, .i64], kHash, [.i64], [.i64, .i64]].flatten :=
  EqW.struct [[.i64, .i64], kHash, [.i64], [.i64, .i64]] Tryz.underlying29 (by kernel_rfl) ⟨by decide, rfl, eqT_name, by decide, rfl, eqT_hash, by decide, rfl, eqT_int, by decide, rfl, eqT_sig, trivial⟩
theorem eqW_entry {d : Nat} : EqW Tryz.prog (d + 3) 51 [[.i64, .i64], kHash, [.u64]].flatten :=
  EqW.struct [[.i64, .i64], kHash, [.u64]] Tryz.underlying51 (by kernel_rfl) ⟨by decide, rfl, eqT_name, by decide, rfl, eqT_hash, by decide, rfl, eqT_u64, trivial⟩
theorem ki_hash {h : List Int} (e : h.length = 32) : KI kHash (h.map bv) := KI.ints e
theorem ki_st {x : St} (h : x.OK) : KI [[.i64], [.i64, .i64], kHash, [.u64], [.i64, .i64]].flatten x.cells := by
  have := KI.append (ks := [.i64, .i64, .i64]) (a := [.int .i64 x.rp, .int .i64 x.cl, .int .i64 x.sq]) ⟨⟨_, rfl⟩, ⟨_, rfl⟩, ⟨_, rfl⟩, trivial⟩ (KI.append (ki_hash h.h.1) (ks' := [.u64, .i64, .i64]) (b := [.int .u64 (x.tm : Nat), .int .i64 x.sb, .int .i64 x.mr]) ⟨⟨_, rfl⟩, ⟨_, rfl⟩, ⟨_, rfl⟩, trivial⟩)
  exact this
theorem ki_vt {x : Vt} (h : x.OK) : KI [[.i64], [.i64], [.i64], [.i64], kHash, [.i64, .i64]].flatten x.cells := by
  have := KI.append (ks := [.i64, .i64, .i64, .i64]) (a := [.int .i64 x.kd, .int .i64 x.ep, .int .i64 x.rd, .int .i64 x.rp]) ⟨⟨_, rfl⟩, ⟨_, rfl⟩, ⟨_, rfl⟩, ⟨_, rfl⟩, trivial⟩ (KI.append (ki_hash h.h.1) (ks' := [.i64, .i64]) (b := [.int .i64 x.sb, .int .i64 x.mr]) ⟨⟨_, rfl⟩, ⟨_, rfl⟩, trivial⟩)
  exact this
theorem ki_dn (x : Dn) : KI [[.i64], [.i64], [.i64, .i64]].flatten x.cells := ⟨⟨_, rfl⟩, ⟨_, rfl⟩, ⟨_, rfl⟩, ⟨_, rfl⟩, trivial⟩
theorem ki_en {x : En} (h : x.OK) : KI [[.i64, .i64], kHash, [.u64]].flatten x.cells := by
  have := KI.append (ks := [.i64, .i64]) (a := [.int .i64 x.cl, .int .i64 x.sq]) ⟨⟨_, rfl⟩, ⟨_, rfl⟩, trivial⟩ (KI.append (ki_hash h.h.1) (ks' := [.u64]) (b := [.int .u64 (x.tm : Nat)]) ⟨⟨_, rfl⟩, trivial⟩)
  exact this
theorem ki_cm {x : Cm} (h : x.h.length = 32) : KI [[.i64, .i64], kHash, [.i64], [.i64, .i64]].flatten x.cells := by
  have := KI.append (ks := [.i64, .i64]) (a := [.int .i64 x.cl, .int .i64 x.sq]) ⟨⟨_, rfl⟩, ⟨_, rfl⟩, trivial⟩ (KI.append (ki_hash h) (ks' := [.i64, .i64, .i64]) (b := [.int .i64 x.ln, .int .i64 x.sb, .int .i64 x.mr]) ⟨⟨_, rfl⟩, ⟨_, rfl⟩, ⟨_, rfl⟩, trivial⟩)
  exact this
end Go.Proofs.YtpnikilkcifncaaGreat

/- Whether two things are one, in plain words. -/
namespace Go.Proofs.YtpnikilkcifncaaGreat
open Go Go.RowKit Go.Gv


noncomputable def eqb {α : Type} (x y : α) : Bool := @decide (x = y) (Classical.propDecidable _)
theorem eqb_iff {α : Type} {x y : α} : eqb x y = true ↔ x = y := by unfold eqb; exact @decide_eq_true_iff _ (Classical.propDecidable _)
theorem eqb_rfl {α : Type} (x : α) : eqb x x = true := eqb_iff.2 rfl
theorem eqb_ne {α : Type} {x y : α} (h : ¬ x = y) : eqb x y = false := by
  cases hq : eqb x y with
  | false => rfl
  | true => exact absurd (eqb_iff.1 hq) h
theorem ne_tt {a b : Int} (h : a ≠ b) : (!(a == b)) = true := by simp [h]
theorem ne_ff {a b : Int} (h : a = b) : (!(a == b)) = false := by simp [h]
theorem dec_eqb {α : Type} (x y : α) [h : Decidable (x = y)] : decide (x = y) = eqb x y := by
  rw [Bool.eq_iff_iff, eqb_iff, decide_eq_true_iff]
theorem agg_guardE (op : BinOp) (T : TypeId) (x y : Operand) (a b : Array Value) (h : Tryz.prog.eqGuardType Tryz.prog.depth T = false) (w : World) : (eqGuard op T x y (.agg a) (.agg b)).run Tryz.prog w = .ok () w := run_eqGuard_agg (P := Tryz.prog) w op T x y a b h
theorem hash_inj {a b : List Int} (h : a.map bv = b.map bv) : a = b := (List.map_inj_right (fun a b e => by injection e)).1 h
theorem ki_2 (a b : Int) : KI [.i64, .i64] [Value.int .i64 a, Value.int .i64 b] := ⟨⟨_, rfl⟩, ⟨_, rfl⟩, trivial⟩
theorem two_iff (a b c d : Int) : eqb (a, b) (c, d) = true ↔ ([Value.int .i64 a, Value.int .i64 b] = [Value.int .i64 c, Value.int .i64 d]) := by
  rw [eqb_iff]
  simp
theorem st_iff {x y : St} (hx : x.OK) (hy : y.OK) : eqb x y = true ↔ x.cells = y.cells := by
  rw [eqb_iff]
  refine ⟨fun h => by rw [h], fun h => ?_⟩
  have h1 := List.append_inj h rfl
  have h2 := List.append_inj h1.2 (by simp [hx.h.1, hy.h.1])
  have h3 := hash_inj h2.1
  have h4 := h1.1
  have h5 := h2.2
  simp only [List.cons.injEq, Value.int.injEq, and_true, true_and, Int.ofNat_inj] at h4 h5
  cases x; cases y
  simp_all
theorem vt_iff {x y : Vt} (hx : x.OK) (hy : y.OK) : eqb x y = true ↔ x.cells = y.cells := by
  rw [eqb_iff]
  refine ⟨fun h => by rw [h], fun h => ?_⟩
  have h1 := List.append_inj h rfl
  have h2 := List.append_inj h1.2 (by simp [hx.h.1, hy.h.1])
  have h3 := hash_inj h2.1
  have h4 := h1.1
  have h5 := h2.2
  simp only [List.cons.injEq, Value.int.injEq, and_true, true_and, Int.ofNat_inj] at h4 h5
  cases x; cases y
  simp_all
theorem cm_iff {x y : Cm} (hx : x.OK) (hy : y.OK) : eqb x y = true ↔ x.cells = y.cells := by
  rw [eqb_iff]
  refine ⟨fun h => by rw [h], fun h => ?_⟩
  have h1 := List.append_inj h rfl
  have h2 := List.append_inj h1.2 (by simp [hx.2.1, hy.2.1])
  have h3 := hash_inj h2.1
  have h4 := h1.1
  have h5 := h2.2
  simp only [List.cons.injEq, Value.int.injEq, and_true, true_and, Int.ofNat_inj] at h4 h5
  cases x; cases y
  simp_all
theorem en_iff {x y : En} (hx : x.OK) (hy : y.OK) : eqb x y = true ↔ x.cells = y.cells := by
  rw [eqb_iff]
  refine ⟨fun h => by rw [h], fun h => ?_⟩
  have h1 := List.append_inj h rfl
  have h2 := List.append_inj h1.2 (by simp [hx.h.1, hy.h.1])
  have h3 := hash_inj h2.1
  have h4 := h1.1
  have h5 := h2.2
  simp only [List.cons.injEq, Value.int.injEq, and_true, true_and, Int.ofNat_inj] at h4 h5
  cases x; cases y
  simp_all
theorem dn_iff {x y : Dn} (hx : x.OK) (hy : y.OK) : eqb x y = true ↔ x.cells = y.cells := by
  rw [eqb_iff]
  refine ⟨fun h => by rw [h], fun h => ?_⟩
  simp only [Dn.cells, List.cons.injEq, Value.int.injEq, and_true, true_and] at h
  cases x; cases y
  simp_all
theorem ce_eqb (x y : Ce) : (eqb x.c y.c && eqb x.l y.l) = eqb x y := by
  rw [Bool.eq_iff_iff, Bool.and_eq_true, eqb_iff, eqb_iff, eqb_iff]
  cases x; cases y
  simp
theorem beq_I (a b : Int) : (a == b) = true ↔ a = b := by simp
theorem pm_eqb (x y : Pm) : (((((x.rp == y.rp) && (x.ep == y.ep)) && (((x.fl : Nat) : Int) == ((y.fl : Nat) : Int))) && eqb (x.sb, x.mr) (y.sb, y.mr)) && eqb x.l y.l) = eqb x y := by
  rw [Bool.eq_iff_iff]
  simp only [Bool.and_eq_true, eqb_iff, beq_I, Int.ofNat_inj, Prod.mk.injEq]
  cases x; cases y
  simp only [Pm.mk.injEq]
  constructor
  · rintro ⟨⟨⟨⟨h1, h2⟩, h3⟩, h4, h5⟩, h6⟩; exact ⟨h1, h2, h3, h6, h4, h5⟩
  · rintro ⟨h1, h2, h3, h6, h4, h5⟩; exact ⟨⟨⟨⟨h1, h2⟩, h3⟩, h4, h5⟩, h6⟩
theorem op_eqb (x y : Op) : (((x.ix == y.ix) && eqb x.nc y.nc) && eqb x.pl y.pl) = eqb x y := by
  rw [Bool.eq_iff_iff]
  simp only [Bool.and_eq_true, eqb_iff, beq_I]
  cases x; cases y
  simp only [Op.mk.injEq]
  constructor
  · rintro ⟨⟨h1, h2⟩, h3⟩; exact ⟨h1, h3, h2⟩
  · rintro ⟨h1, h3, h2⟩; exact ⟨⟨h1, h2⟩, h3⟩
theorem tb_eqb (x y : Tb) : ((!(x.ix == y.ix)) || (!eqb x.l y.l)) = !eqb x y := by
  have h : ((x.ix == y.ix) && eqb x.l y.l) = eqb x y := by
    rw [Bool.eq_iff_iff]
    simp only [Bool.and_eq_true, eqb_iff, beq_I]
    cases x; cases y
    simp
  rw [← h]
  cases (x.ix == y.ix) <;> cases eqb x.l y.l <;> rfl
theorem ba_eqb (x y : Ba) (h : (((((!(x.ep == y.ep)) || (!(((x.tm : Nat) : Int) == ((y.tm : Nat) : Int)))) || (!(((x.ps.length : Nat) : Int) == ((y.ps.length : Nat) : Int)))) || (!eqb x.os y.os)) || (!eqb x.ts y.ts)) = false) : eqb x.ps y.ps = eqb x y := by
  simp only [Bool.or_eq_false_iff, Bool.not_eq_false', eqb_iff, beq_I, Int.ofNat_inj] at h
  obtain ⟨⟨⟨⟨h1, h2⟩, h3⟩, h4⟩, h5⟩ := h
  rw [Bool.eq_iff_iff, eqb_iff, eqb_iff]
  cases x; cases y
  simp_all
theorem ba_neb (x y : Ba) (h : (((((!(x.ep == y.ep)) || (!(((x.tm : Nat) : Int) == ((y.tm : Nat) : Int)))) || (!(((x.ps.length : Nat) : Int) == ((y.ps.length : Nat) : Int)))) || (!eqb x.os y.os)) || (!eqb x.ts y.ts)) = true) : eqb x y = false := by
  refine eqb_ne fun e => ?_
  subst e
  simp [eqb_rfl] at h
theorem take_ne {α : Type} {l m : List α} {k : Nat} (h1 : k < l.length) (h2 : k < m.length) (h : ¬ l[k] = m[k]) : eqb l m = false := eqb_ne fun e => h (by subst e; rfl)
theorem take_all {α : Type} {l m : List α} {k : Nat} (h1 : l.length ≤ k) (h2 : m.length ≤ k) (h : l.take k = m.take k) : eqb l m = true := by
  rw [List.take_of_length_le h1, List.take_of_length_le h2] at h
  exact eqb_iff.2 h
theorem take_succ2 {α : Type} {l m : List α} {k : Nat} (h1 : k < l.length) (h2 : k < m.length) (h : l.take k = m.take k) (he : l[k] = m[k]) : l.take (k + 1) = m.take (k + 1) := by
  rw [List.take_succ_eq_append_getElem h1, List.take_succ_eq_append_getElem h2, h, he]
/-- a function that says whether two things are one; two lists -/
def Eqs {α : Type} (A : Rep α) (F : FuncId) : Prop := ∀ (R R2 : Nat → Prop) (cs ds : List Value) (x y : α) (w : World), A.rd R w cs x → A.rd R2 w ds y → (∀ k, R k → k < w.heap.size) → (∀ k, R2 k → k < w.heap.size) →
  Calls Tryz.prog F #[.agg cs.toArray, .agg ds.toArray] w fun e w' => e = .returned (.bool (eqb x y)) ∧ Mod (fun _ => False) w w'
def EqsL {α : Type} (A : Rep α) (F : FuncId) : Prop := ∀ (R R2 : Nat → Prop) (v v2 : Value) (l m : List α) (w : World), RdS A R w v l → RdS A R2 w v2 m → (∀ k, R k → k < w.heap.size) → (∀ k, R2 k → k < w.heap.size) →
  Calls Tryz.prog F #[v, v2] w fun e w' => e = .returned (.bool (eqb l m)) ∧ Mod (fun _ => False) w w'
theorem Same_B {R R2 : Nat → Prop} {N N2 : Nat} {va vb : Value} {a b : List Int} {w : World} (ha : RdR R N w va a) (hb : RdR R2 N2 w vb b) :
    Calls Tryz.prog 19 #[va, vb] w fun e w' => e = .returned (.bool (eqb a b)) ∧ Mod (fun _ => False) w w' :=
  (Same_R ha hb).mono fun _ _ ⟨he, hm⟩ => ⟨he.trans (by rw [dec_eqb]), hm⟩
end Go.Proofs.YtpnikilkcifncaaGreat
