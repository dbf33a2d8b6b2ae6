/- Texts that are built one behind the other: XMz, XArg0, XArg, XArg2, XArg3. No condition. -/
import Derived.Test.YtpnikilkcifncaaGreatOnl9
import Derived.Deep.CutBlock
set_option maxRecDepth 100000
set_option linter.unusedVariables false
open List renaming setIfInBounds_toArray → sIB, set_cons_zero → sCZ, set_cons_succ → sCS
/- MsgOnly: the walk. -/
namespace Go.Proofs.YtpnikilkcifncaaGreat
open Go Go.RowKit Go.Gv


theorem flat_inj : ∀ {A B : List (List Value)}, A.map List.length = B.map List.length → A.flatten = B.flatten → A = B
  | [], [], _, _ => rfl
  | [], _ :: _, h, _ => by simp at h
  | _ :: _, [], h, _ => by simp at h
  | a :: A, b :: B, h, e => by
    simp only [List.map_cons, List.cons.injEq] at h
    rw [List.flatten_cons, List.flatten_cons] at e
    obtain ⟨e1, e2⟩ := List.append_inj e h.1
    rw [e1, flat_inj h.2 e2]
/-- the parts of a message that is read -/
theorem mg_pcs {R : Nat → Prop} {w : World} {x : Mg} {c5 c10 c11 c15 c18 : List Value} (h : MgR.rd R w (x.segs c5 c10 c11 c15 c18).flatten x) (hl : (x.segs c5 c10 c11 c15 c18).map List.length = mgN) :
    x.OK ∧ CeR.rd R w c5 x.ce ∧ PmR.rd R w c10 x.pm ∧ PrR.rd R w c11 x.pr ∧ OpR.rd R w c15 x.op ∧ DcR.rd R w c18 x.dc := by
  obtain ⟨d5, d10, d11, d15, d18, e, ok, h5, h10, h11, h15, h18⟩ := h
  have e2 := flat_inj (hl.trans (Mg.lns ok h5 h10 h11 h15 h18).symm) e
  simp only [Mg.segs, List.cons.injEq, true_and, and_true] at e2
  obtain ⟨rfl, rfl, rfl, rfl, rfl⟩ := e2
  exact ⟨ok, h5, h10, h11, h15, h18⟩
theorem mg_kd {R : Nat → Prop} {w : World} {x : Mg} {c5 c10 c11 c15 c18 : List Value} {k : Int} (h : MgR.rd R w (x.segs c5 c10 c11 c15 c18).flatten x) (hl : (x.segs c5 c10 c11 c15 c18).map List.length = mgN) (hk : I64 k) :
    MgR.rd R w (Mg.segs { x with kd := k } c5 c10 c11 c15 c18).flatten { x with kd := k } := by
  obtain ⟨ok, h5, h10, h11, h15, h18⟩ := mg_pcs h hl
  exact ⟨_, _, _, _, _, rfl, { ok with kd := hk }, h5, h10, h11, h15, h18⟩
set_option maxHeartbeats 8000000 in
theorem LOnly_any (R2 : Nat → Prop) (a b : Mg) (ca cb : List Value) (k : Int) (w : World) (ha : MgR.rd R2 w ca a) (hb : MgR.rd R2 w cb b) (hk : I64 k) (hB2 : ∀ k, R2 k → k < w.heap.size) :
    Calls Tryz.prog 4 #[.agg ca.toArray, .agg cb.toArray, .int .i64 k] w fun e w' => e = .returned (.bool true) ∧ Mod (fun _ => False) w w' := by
  have HA := Lib.hid ha
  have HB := Lib.hid hb
  have HCA := hid (show ca.length = 295 from MgR.len ha)
  have HCB := hid (show cb.length = 295 from MgR.len hb)
  have HBT := Lib.hid hB2
  have HK := Lib.hid hk
  clear ha hb hB2 hk
  go_enter Tryz.func4, Tryz.ntmps4
  go_upto_region 1 with (fail)
  obtain ⟨w1, hw1⟩ : ∃ zz, zz = ((w.alloc (.cells (ca : List Value).toArray 61)).alloc (.cells (cb : List Value).toArray 61)) := ⟨_, rfl⟩
  change Code.wp _ _ _ _ ((w.alloc (.cells (ca : List Value).toArray 61)).alloc (.cells (cb : List Value).toArray 61))
  rw [← hw1]
  have HB3 := hid (show Cs w1 (w.heap.size) (ca : List Value).toArray 61 by rw [hw1]; exact (Cs.new _ _ _).alloc _)
  have HB4 := hid (show Cs w1 (w.heap.size + 1) (cb : List Value).toArray 61 by rw [hw1]; exact Cs_newN _ _ _ (by simp))
  have hm : Mod (fun _ => False) w w1 := by rw [hw1]; exact ((Mod.refl _ _).alloc _).alloc _
  have HM0 := hid (show Mod (fun _ => False) w w1 from hm.mono (fun _ _ h => h.elim))
  have hs1 : w1.heap.size = w.heap.size + 2 := by rw [hw1]; simp
  have Hx1 := hid (HA.out.mod hm (fun _ _ h => h))
  clear HA
  have Hx2 := hid (HB.out.mod hm (fun _ _ h => h))
  clear HB
  clear hw1 hm
  obtain ⟨m0, hm0⟩ : ∃ z, z = smallM a := ⟨_, rfl⟩
  obtain ⟨n0, hn0⟩ : ∃ z, z = smallM b := ⟨_, rfl⟩
  have HS0 := Lib.hid hm0
  have HN0 := Lib.hid hn0
  clear hm0 hn0
  obtain ⟨K, hK, hK1, hK2⟩ : ∃ z : Int, 1 + within k 14 = z ∧ 1 ≤ z ∧ z ≤ 14 := ⟨_, rfl, by have := within_range k 14 (by decide); omega, by have := within_range k 14 (by decide); omega⟩
  have HEk := Lib.hid hK
  have HRk := hid (And.intro hK1 hK2)
  have HIk := hid (show I64 K by unfold I64; omega)
  have HOk := hid (show okKd K = true by unfold okKd; rw [decide_eq_true_eq]; omega)
  clear hK hK1 hK2
  go_upto_region 1 with (fail)
  generalize ha0 : Act.mk _ _ = a0
  have oe3 : a0.eval (.tmp 3) = .pointer (some ⟨w.heap.size, 0, none⟩) := by rw [← ha0]; rfl
  have oe4 : a0.eval (.tmp 4) = .pointer (some ⟨w.heap.size + 1, 0, none⟩) := by rw [← ha0]; rfl
  have hsz0 : a0.tmps.size = 164 := by rw [← ha0]; rfl
  have HA0 := hid ha0
  clear ha0
  refine wp_region_Q1 164 hsz0 [15, 16, 17, 18, 168, 169] (fun k => (k = w.heap.size) ∨ (k = w.heap.size + 1)) (fun k j => (k = 2 ∧ ((j = w.heap.size))) ∨ (k = 3 ∧ ((j = w.heap.size + 1)))) (by intro k j h; (try dsimp only at h ⊢); omega) [qi (.agg ca.toArray), qv 0, qi (.agg cb.toArray), qv 1, qv 2, qv 3] ⟨qi_stable, qv_stable, qi_stable, qv_stable, qv_stable, qv_stable, trivial⟩ [1, 3, 4, 5] ⟨?_, ?_, ?_, ?_, ?_, ?_, trivial⟩ ?_
  · refine stepq_env rfl rfl rfl fun _ _ _ _ _ _ hm0 hout _ _ hub _ => ?_
    refine qe_run rfl (wanted_none rfl) (ex_loadA rfl Tryz.underlying61 rfl (off := 0) (cs := ca) (by rw [HCA.out]; kernel_rfl) ((hout 3 (by decide)).trans oe3) (Cs.whole (HB3.out.mod hm0 (by intro h2; have hu := hub 2 4 rfl (by kernel_rfl); rcases h2 with ⟨h0, kk, hk, h2⟩ | h2 <;> omega)))) QE.refl ?_
    rfl
  · exact stepq_chain rfl
  · refine stepq_env rfl rfl rfl fun _ _ _ _ _ _ hm0 hout _ _ hub _ => ?_
    refine qe_run rfl (wanted_none rfl) (ex_loadA rfl Tryz.underlying61 rfl (off := 0) (cs := cb) (by rw [HCB.out]; kernel_rfl) ((hout 4 (by decide)).trans oe4) (Cs.whole (HB4.out.mod hm0 (by intro h2; have hu := hub 3 5 rfl (by kernel_rfl); rcases h2 with ⟨h0, kk, hk, h2⟩ | h2 <;> omega)))) QE.refl ?_
    rfl
  · exact stepq_chain rfl
  · exact stepq_chain rfl
  · exact stepq_chain rfl
  intro u1_0 hr
  have zu1_0 := hr.size
  have Cx3 := hid (hr.new (S := (fun k => (k = w.heap.size) ∨ (k = w.heap.size + 1))))
  have Hx4 := hid (HB3.out.mod hr (by intro h2; omega))
  clear HB3
  have Hx5 := hid (HB4.out.mod hr (by intro h2; omega))
  clear HB4
  clear hr
  refine QChain.go fun Z act E => ?_
  refine qc_callF (args := #[.agg ca.toArray]) rfl (wanted_none rfl) rfl Tryz.func8 (args1 (E.d 0)) (HS0.out.symm ▸ Small_c R2 a _ _ (Hx1.out.mod Cx3.out (by intro k h1 h2; have hb := HBT.out k h1; omega)) (by intro k h1; have hb := HBT.out k h1; omega)) ?_
  rintro e u1_1a ⟨cp, rfl, qa, hm⟩
  obtain ⟨c5, c10, c11, c15, c18, rfl, hok, h5, h10, h11, h15, h18⟩ := qa
  have HLm := hid (Mg.lns hok h5 h10 h11 h15 h18)
  have HOKm := Lib.hid hok
  have HCm5 := hid (CeR.len h5)
  have HCm10 := hid (PmR.len h10)
  have HCm11 := hid (PrR.len h11)
  have HCm15 := hid (OpR.len h15)
  have HCm18 := hid (DcR.len h18)
  have HOm5 := hid (CeR.one h5)
  have HOm10 := hid (PmR.one h10)
  have HOm11 := hid (PrR.one h11)
  have HOm15 := hid (OpR.one h15)
  have HOm18 := hid (DcR.one h18)
  have qa : MgR.rd _ _ _ m0 := ⟨c5, c10, c11, c15, c18, rfl, hok, h5, h10, h11, h15, h18⟩
  have HWm := hid (MgR.one qa)
  have HNm := hid (show ((Mg.segs m0 c5 c10 c11 c15 c18).flatten).length = 295 from MgR.len qa)
  clear hok h5 h10 h11 h15 h18
  have zu1_1a := hm.size
  refine ⟨_, rfl, hm.mono (fun _ _ h => h.elim), (fun _ => rfl), ?_⟩
  intro u1_1 hr
  have zu1_1 := hr.size
  have Hx6 := hid ((qa.widen (R' := (fun k => (R2 k) ∨ (New u1_0 u1_1a k))) (fun _ h => h)).mod hr (by intro k h1 h2; rcases h1 with h1 | h1 <;> first | omega | (have hb := HBT.out k h1; omega)))
  have hmr := Mod.after hm hr
  have Hx7 := hid (Hx4.out.mod hmr (by intro h2; omega))
  have Hx8 := hid (Hx5.out.mod hmr (by intro h2; omega))
  clear Hx4 Hx5
  clear hmr
  have Cx9 := hid (Cx3.out.go hm hr)
  clear Cx3 hm hr Z act E qa Hx1
  refine QChain.go fun Z act E => ?_
  refine qc_callF (args := #[.agg cb.toArray]) rfl (wanted_none rfl) rfl Tryz.func8 (args1 (E.d 2)) (HN0.out.symm ▸ Small_c R2 b _ _ (Hx2.out.mod Cx9.out (by intro k h1 h2; have hb := HBT.out k h1; omega)) (by intro k h1; have hb := HBT.out k h1; omega)) ?_
  rintro e u1_2a ⟨cp, rfl, qb, hm⟩
  obtain ⟨e5, e10, e11, e15, e18, rfl, hok, h5, h10, h11, h15, h18⟩ := qb
  have HLn := hid (Mg.lns hok h5 h10 h11 h15 h18)
  have HOKn := Lib.hid hok
  have HCn5 := hid (CeR.len h5)
  have HCn10 := hid (PmR.len h10)
  have HCn11 := hid (PrR.len h11)
  have HCn15 := hid (OpR.len h15)
  have HCn18 := hid (DcR.len h18)
  have HOn5 := hid (CeR.one h5)
  have HOn10 := hid (PmR.one h10)
  have HOn11 := hid (PrR.one h11)
  have HOn15 := hid (OpR.one h15)
  have HOn18 := hid (DcR.one h18)
  have qb : MgR.rd _ _ _ n0 := ⟨e5, e10, e11, e15, e18, rfl, hok, h5, h10, h11, h15, h18⟩
  have HWn := hid (MgR.one qb)
  have HNn := hid (show ((Mg.segs n0 e5 e10 e11 e15 e18).flatten).length = 295 from MgR.len qb)
  clear hok h5 h10 h11 h15 h18
  have zu1_2a := hm.size
  refine ⟨_, rfl, hm.mono (fun _ _ h => h.elim), (fun _ => rfl), ?_⟩
  intro u1_2 hr
  have zu1_2 := hr.size
  have Hx10 := hid ((qb.widen (R' := (fun k => (R2 k) ∨ (New u1_1 u1_2a k))) (fun _ h => h)).mod hr (by intro k h1 h2; rcases h1 with h1 | h1 <;> first | omega | (have hb := HBT.out k h1; omega)))
  have hmr := Mod.after hm hr
  have Hx11 := hid (Hx6.out.mod hmr (by intro k h1 h2; rcases h1 with h1 | h1 <;> first | omega | (have hb := HBT.out k h1; omega)))
  have Hx12 := hid (Hx7.out.mod hmr (by intro h2; omega))
  have Hx13 := hid (Hx8.out.mod hmr (by intro h2; omega))
  clear Hx6 Hx7 Hx8
  clear hmr
  have Cx14 := hid (Cx9.out.go hm hr)
  clear Cx9 hm hr Z act E qb Hx2
  refine QChain.go fun Z act E => ?_
  refine qc_store rfl (wanted_none rfl) rfl Hx12.out (off := 0) (vs := ((Mg.segs m0 c5 c10 c11 c15 c18).flatten)) (by rw [HNm.out]; kernel_rfl) HWm.out (by rw [List.size_toArray, HNm.out, HCA.out]; decide) (E.v oe3) (ec (chv (v := .agg ((Mg.segs m0 c5 c10 c11 c15 c18).flatten).toArray) (E.d 1))) ?_
  intro u1_3a qc0 hm
  have qB3 := qc0.eqv (b := (((Mg.segs m0 c5 c10 c11 c15 c18).flatten) : List Value).toArray) (lay_whole _ _ (by rw [List.size_toArray, HNm.out, HCA.out]))
  clear qc0
  have zu1_3a := hm.size
  refine ⟨hm.mono (by intro k hk h; omega), (fun _ => rfl), ?_⟩
  intro u1_3 hr
  have zu1_3 := hr.size
  have Hx15 := hid (qB3.mod hr (by intro h2; omega))
  have hmr := hm.two hr
  have Hx16 := hid (Hx11.out.mod hmr (by intro k h1 h2; rcases h1 with h1 | h1 <;> first | omega | (have hb := HBT.out k h1; omega)))
  have Hx17 := hid (Hx10.out.mod hmr (by intro k h1 h2; rcases h1 with h1 | h1 <;> first | omega | (have hb := HBT.out k h1; omega)))
  have Hx18 := hid (Hx13.out.mod hmr (by intro h2; omega))
  clear Hx11 Hx10 Hx13
  clear hmr
  have Cx19 := hid (Cx14.out.goM hm hr (by intro k h0 h2; omega))
  clear Cx14 hm hr Z act E qB3 Hx12
  refine QChain.go fun Z act E => ?_
  refine qc_store rfl (wanted_none rfl) rfl Hx18.out (off := 0) (vs := ((Mg.segs n0 e5 e10 e11 e15 e18).flatten)) (by rw [HNn.out]; kernel_rfl) HWn.out (by rw [List.size_toArray, HNn.out, HCB.out]; decide) (E.v oe4) (ec (chv (v := .agg ((Mg.segs n0 e5 e10 e11 e15 e18).flatten).toArray) (E.d 3))) ?_
  intro u1_4a qc0 hm
  have qB4 := qc0.eqv (b := (((Mg.segs n0 e5 e10 e11 e15 e18).flatten) : List Value).toArray) (lay_whole _ _ (by rw [List.size_toArray, HNn.out, HCB.out]))
  clear qc0
  have zu1_4a := hm.size
  refine ⟨hm.mono (by intro k hk h; omega), (fun _ => rfl), ?_⟩
  intro u1_4 hr
  have zu1_4 := hr.size
  have Hx20 := hid (qB4.mod hr (by intro h2; omega))
  have hmr := hm.two hr
  have Hx21 := hid (Hx16.out.mod hmr (by intro k h1 h2; rcases h1 with h1 | h1 <;> first | omega | (have hb := HBT.out k h1; omega)))
  have Hx22 := hid (Hx17.out.mod hmr (by intro k h1 h2; rcases h1 with h1 | h1 <;> first | omega | (have hb := HBT.out k h1; omega)))
  have Hx23 := hid (Hx15.out.mod hmr (by intro h2; omega))
  clear Hx16 Hx17 Hx15
  clear hmr
  have Cx24 := hid (Cx19.out.goM hm hr (by intro k h0 h2; omega))
  clear Cx19 hm hr Z act E qB4 Hx18
  refine QChain.nil fun vs hl hzz hrows hne => ?_
  obtain ⟨Z, hYZ, hZb, hV⟩ := hzz
  have f1 := fvc hV hl 1
  have f3 := fvc hV hl 3
  rw [show vs = [gw vs 0, gw vs 1, gw vs 2, gw vs 3, gw vs 4, gw vs 5] from (gw_eta hl).trans rfl]
  have ha0 := HA0.out
  subst ha0
  clear HA0 hV hYZ hZb hsz0 hrows hne oe3 oe4
  simp only [putAll, Act.put, sIB, sCZ, sCS, List.set_nil, f1, f3]
  clear hl f1 f3
  go_upto_region 2 with (fail)
  refine wp_region_U 164 [19, 20, 21, 2] [0, 1, 2, 3] (fun a0 HA0 => ?_)
  have oe2 := ev HA0 2 rfl
  refine QSeq.pure rfl _ (fun E => ex_move rfl (E.y 3 oe2)) ?_
  refine QSeq.go fun act E => ?_
  refine qc_callF (args := #[.int .i64 k, .int .i64 14]) rfl (wanted_none rfl) rfl Tryz.func9 (args2 (E.d 0 0) rfl) (Within_any k 14 (by decide) (by decide) HK.out _) ?_
  rintro e w2 ⟨rfl, hw2⟩
  obtain rfl : u1_4 = w2 := by first | exact hw2 | exact hw2.symm
  refine ⟨_, rfl, ?_⟩
  clear act E
  refine QSeq.pure rfl (.int .i64 K) (fun E => ex_binE rfl rfl (E.d 1 0) (guard_ints _ _ _ _ _ _) (run_add_i _ _ Tryz.underlying3) (congrArg (Value.int .i64) ((congrArg IntKind.i64.wrap HEk.out).trans (IntWalk.i64_in _ (by have h9 := HRk.out; omega))))) ?_
  refine QSeq.pure rfl _ (fun E => ex_assign rfl (E.d 2 0)) ?_
  refine QSeq.nil (t' := [_, _, _, _]) rfl ?_
  obtain rfl := HA0.out
  clear HA0 oe2
  simp only [pz, Act.put, sIB, sCZ, sCS]
  go_upto_region 3 with (fail)
  refine wp_region_U 164 [22, 23, 166] [0, 1, 2] (fun a0 HA0 => ?_)
  have oe2 := ev HA0 2 rfl
  have oe3 := ev HA0 3 rfl
  refine QSeq.pure rfl _ (fun E => ex_move rfl (E.v oe2)) ?_
  refine QSeq.pure rfl (.pointer (some ⟨w.heap.size, 0, none⟩)) (fun E => ex_field rfl Tryz.underlying61 rfl (by kernel_rfl) (E.v oe3)) ?_
  refine QSeq.go fun act E => ?_
  refine qc_store rfl (wanted_none rfl) rfl Hx23.out (off := 0) (vs := [.int .i64 K]) (by kernel_rfl) one1 (by rw [List.size_toArray, HNm.out]; show 0 + 1 ≤ 295; decide) (E.d 1 0) (ec (E.d 0 1)) ?_
  intro u3_2 qc0 hm
  have qB3 := qc0.eqv (b := (((Mg.segs ({ m0 with kd := K } : Mg) c5 c10 c11 c15 c18).flatten) : List Value).toArray) ((lay_seg HLm.out 0 rfl rfl).trans rfl)
  clear qc0
  have Hx25 := hid qB3
  have zu3_2 := hm.size
  have Cx26 := hid (show Mod (fun k => (k = w.heap.size)) u1_4 u3_2 from hm)
  clear hm
  clear act E qB3 Hx23
  refine QSeq.nil (t' := [_, _, _]) rfl ?_
  obtain rfl := HA0.out
  clear HA0 oe2 oe3
  simp only [pz, Act.put, sIB, sCZ, sCS, List.set_nil]
  obtain ⟨m, hm⟩ : ∃ z : Mg, z = { m0 with kd := K } := ⟨_, rfl⟩
  have HM := Lib.hid hm
  have hq1 := Hx25.out
  have hq2 := mg_kd (Hx21.out.mod Cx26.out (by intro k h1 h2; rcases h1 with h1 | h1 <;> first | omega | (have hb := HBT.out k h1; omega))) HLm.out HIk.out
  rw [← hm] at hq1 hq2
  have HB3 := Lib.hid hq1
  have HMM := Lib.hid hq2
  clear hm hq1 hq2
  clear Hx25 Hx21
  have HMK := hid (show m.kd = K by rw [HM.out])
  have HOm := hid (show m.OK by rw [HM.out]; exact { HOKm.out with kd := HIk.out })
  have HLM := hid (show (Mg.segs m c5 c10 c11 c15 c18).map List.length = mgN by rw [HM.out]; exact HLm.out)
  have HNM := hid (show ((Mg.segs m c5 c10 c11 c15 c18).flatten).length = 295 from MgR.len HMM.out)
  have HKM := hid (show okKd m.kd = true by rw [HMK.out]; exact HOk.out)
  have HLE := hid (show (packB m).length ≤ 30000 by have h := HMM.out; rw [HM.out, HS0.out] at h; rw [HM.out, HS0.out]; exact small_len h)
  have HPM := hid (packs_of_len HKM.out HLE.out)
  have HCM := hid (show cpMg m by rw [HM.out, HS0.out]; exact cp_small a)
  have HCN := hid (show cpMg n0 by rw [HN0.out]; exact cp_small b)
  obtain ⟨yo, hyo⟩ : ∃ z, z = onlyM m := ⟨_, rfl⟩
  have HYO := Lib.hid hyo
  clear hyo
  go_upto_region 4 with (fail)
  refine wp_region_U 164 [24, 25, 7, 167] [0, 1, 2, 3] (fun a0 HA0 => ?_)
  have oe3 := ev HA0 3 rfl
  refine QSeq.pure rfl _ (fun E => ex_loadA rfl Tryz.underlying61 rfl (off := 0) (cs := ((Mg.segs m c5 c10 c11 c15 c18).flatten)) (by rw [HNM.out]; kernel_rfl) (E.v oe3) (Cs.whole HB3.out)) ?_
  refine QSeq.call rfl rfl Tryz.func17 (HYO.out.symm ▸ Only_Q _ m _ _ HMM.out (by intro k h1; rcases h1 with h1 | h1 <;> first | omega | (have hb := HBT.out k h1; omega)) HCM.out) (fun E => args1 (E.d 0 0)) ?_
  rintro e u4_1 ⟨co, rfl, qy, hm⟩
  have HNo := hid (MgR.len qy)
  have HWo := hid (MgR.one qy)
  refine ⟨_, rfl, ?_⟩
  have Hx27 := hid qy
  have zu4_1 := hm.size
  have Cx28 := hid (show Mod (fun _ => False) u3_2 u4_1 from hm)
  clear hm
  clear qy
  refine QSeq.go fun act E => ?_
  refine qc_alloc rfl (wanted_none rfl) rfl (z := (mg0C 0 0 0)) (by kernel_rfl) ?_
  intro u4_2 qB7 hm
  have zl4_2 := qB7.lt
  have Hx29 := hid qB7
  have zu4_2 := hm.size
  have HMu4_2 := hid hm
  have Cx30 := hid (Cx28.out.goE hm)
  clear hm Cx28
  clear act E qB7
  refine QSeq.go fun act E => ?_
  refine qc_store rfl (wanted_none rfl) rfl Hx29.out (off := 0) (vs := co) (by rw [HNo.out]; kernel_rfl) HWo.out (by rw [HNo.out]; decide) (E.d 2 0) (ec (E.d 1 1)) ?_
  intro u4_3 qc0 hm
  have qB7 := qc0.eqv (b := (co : List Value).toArray) (lay_whole _ _ (by rw [HNo.out]; rfl))
  clear qc0
  have Hx31 := hid qB7
  have zu4_3 := hm.size
  have HMu4_3 := hid hm
  have Cx32 := hid (Mod.goS (S' := (fun _ => False)) Cx30.out hm (fun _ h => h) (by intro k h0 h2; omega))
  clear hm Cx30
  clear act E qB7 Hx29
  have Hx33 := hid ((Hx27.out.mod HMu4_2.out (fun _ _ h => h)).mod HMu4_3.out (by intro k h1 h2; omega))
  clear Hx27 HMu4_2 HMu4_3
  refine QSeq.nil (t' := [_, _, _, _]) rfl ?_
  obtain rfl := HA0.out
  clear HA0 oe3
  simp only [pz, Act.put, sIB, sCZ, sCS, List.set_nil]
  go_upto_region 5 with (fail)
  refine wp_region_U 164 [26, 8, 166] [0, 1, 2] (fun a0 HA0 => ?_)
  have oe4 := ev HA0 4 rfl
  refine QSeq.pure rfl _ (fun E => ex_loadA rfl Tryz.underlying61 rfl (off := 0) (cs := ((Mg.segs n0 e5 e10 e11 e15 e18).flatten)) (by rw [HNn.out]; kernel_rfl) (E.v oe4) (Cs.whole ((Hx20.out.mod Cx26.out (by intro h2; omega)).mod Cx32.out (fun h => h)))) ?_
  refine QSeq.go fun act E => ?_
  refine qc_alloc rfl (wanted_none rfl) rfl (z := (mg0C 0 0 0)) (by kernel_rfl) ?_
  intro u5_1 qb8 hm
  have zl5_1 := qb8.lt
  have Hx34 := hid qb8
  have zu5_1 := hm.size
  have Cx35 := hid (show Mod (fun _ => False) u4_3 u5_1 from hm)
  clear hm
  clear act E qb8
  refine QSeq.go fun act E => ?_
  have hlz : (((Mg.segs n0 e5 e10 e11 e15 e18).flatten)).length = List.length ((mg0C 0 0 0) : List Value) := HNn.out
  refine qc_store rfl (wanted_none rfl) rfl Hx34.out (off := 0) (vs := ((Mg.segs n0 e5 e10 e11 e15 e18).flatten)) (by rw [hlz]; kernel_rfl) HWn.out (by rw [hlz]; exact Nat.le_of_eq (Nat.zero_add _)) (E.d 1 0) (ec (E.d 0 1)) ?_
  intro u5_2 qc0 hm
  have qb8 := qc0.eqv (b := (((Mg.segs n0 e5 e10 e11 e15 e18).flatten) : List Value).toArray) (lay_whole (((mg0C 0 0 0) : List Value).toArray) _ (by rw [hlz]; rfl))
  clear qc0 hlz
  have Hx36 := hid qb8
  have zu5_2 := hm.size
  have HMu5_2 := hid hm
  have Cx37 := hid (Mod.goS (S' := (fun _ => False)) Cx35.out hm (fun _ h => h) (by intro k h0 h2; omega))
  clear hm Cx35
  clear act E qb8 Hx34
  clear HMu5_2
  refine QSeq.nil (t' := [_, _, _]) rfl ?_
  obtain rfl := HA0.out
  clear HA0 oe4
  simp only [pz, Act.put, sIB, sCZ, sCS, List.set_nil]
  clear Hx20
  go_upto_region 6 with (fail)
  generalize ha0 : Act.mk _ _ = a0
  have oe3 : a0.eval (.tmp 3) = .pointer (some ⟨w.heap.size, 0, none⟩) := by rw [← ha0]; rfl
  have oe8 : a0.eval (.tmp 8) = .pointer (some ⟨u4_3.heap.size, 0, none⟩) := by rw [← ha0]; rfl
  have hsz0 : a0.tmps.size = 164 := by rw [← ha0]; rfl
  have HA0 := hid ha0
  clear ha0
  refine wp_region_Q1 164 hsz0 [27, 28, 29, 30, 31, 32, 33, 171, 34, 173, 35, 175] (fun k => (k = u4_3.heap.size)) (fun k j => (k = 0 ∧ ((j = u4_3.heap.size))) ∨ (k = 1 ∧ ((j = u4_3.heap.size))) ∨ (k = 2 ∧ ((j = u4_3.heap.size)))) (by intro k j h; (try dsimp only at h ⊢); omega) [qi (.pointer (some ⟨w.heap.size, 0, none⟩)), qi (.int .i64 m.kd), qi (.pointer (some ⟨w.heap.size, 1, none⟩)), qi (.int .i64 m.fr), qi (.pointer (some ⟨w.heap.size, 2, none⟩)), qi (.int .i64 m.to), qi (.pointer (some ⟨u4_3.heap.size, 0, none⟩)), qv 0, qi (.pointer (some ⟨u4_3.heap.size, 1, none⟩)), qv 1, qi (.pointer (some ⟨u4_3.heap.size, 2, none⟩)), qv 2] ⟨qi_stable, qi_stable, qi_stable, qi_stable, qi_stable, qi_stable, qi_stable, qv_stable, qi_stable, qv_stable, qi_stable, qv_stable, trivial⟩ [7, 9, 11] ⟨?_, ?_, ?_, ?_, ?_, ?_, ?_, ?_, ?_, ?_, ?_, ?_, trivial⟩ ?_
  · exact stq (fun E => ex_field rfl Tryz.underlying61 rfl (by kernel_rfl) (E.v oe3))
  · exact stq (fun E => ex_load1 rfl Tryz.underlying3 rfl (E.d 0) (Cs.seg1 (((HB3.out.mod Cx32.out (fun h => h)).mod Cx37.out (fun h => h)).mod E.m (by intro h2; omega)) HLM.out 0 rfl (o := 0) (k := 0) rfl rfl rfl))
  · exact stq (fun E => ex_field rfl Tryz.underlying61 rfl (by kernel_rfl) (E.v oe3))
  · exact stq (fun E => ex_load1 rfl Tryz.underlying3 rfl (E.d 2) (Cs.seg1 (((HB3.out.mod Cx32.out (fun h => h)).mod Cx37.out (fun h => h)).mod E.m (by intro h2; omega)) HLM.out 1 rfl (o := 1) (k := 0) rfl rfl rfl))
  · exact stq (fun E => ex_field rfl Tryz.underlying61 rfl (by kernel_rfl) (E.v oe3))
  · exact stq (fun E => ex_load1 rfl Tryz.underlying3 rfl (E.d 4) (Cs.seg1 (((HB3.out.mod Cx32.out (fun h => h)).mod Cx37.out (fun h => h)).mod E.m (by intro h2; omega)) HLM.out 2 rfl (o := 2) (k := 0) rfl rfl rfl))
  · exact stq (fun E => ex_field rfl Tryz.underlying61 rfl (by kernel_rfl) (E.v oe8))
  · exact stepq_chain rfl
  · exact stq (fun E => ex_field rfl Tryz.underlying61 rfl (by kernel_rfl) (E.v oe8))
  · exact stepq_chain rfl
  · exact stq (fun E => ex_field rfl Tryz.underlying61 rfl (by kernel_rfl) (E.v oe8))
  · exact stepq_chain rfl
  intro u6_0 hr
  have zu6_0 := hr.size
  have Cx38 := hid (hr.new (S := (fun k => (k = u4_3.heap.size))))
  have Hx39 := hid (Hx36.out.mod hr (by intro h2; omega))
  clear Hx36
  clear hr
  refine QChain.go fun Z act E => ?_
  refine qc_store rfl (wanted_none rfl) rfl Hx39.out (off := 0) (vs := [.int .i64 m.kd]) (by kernel_rfl) one1 (by rw [List.size_toArray, flat_sum, HLn.out]; show 0 + 1 ≤ 295; decide) (E.d 6) (ec (E.d 1)) ?_
  intro u6_1a qc0 hm
  have qb8 := qc0.eqv (b := ((Mg.segs ({ n0 with kd := m.kd } : Mg) e5 e10 e11 e15 e18).flatten : List Value).toArray) ((lay_seg HLn.out 0 (rfl) rfl).trans rfl)
  clear qc0
  have zu6_1a := hm.size
  refine ⟨hm.mono (by intro k hk h; omega), (fun _ => rfl), ?_⟩
  intro u6_1 hr
  have zu6_1 := hr.size
  have Hx40 := hid (qb8.mod hr (by intro h2; omega))
  have Cx41 := hid (Cx38.out.goM hm hr (fun _ _ h => h))
  clear Cx38 hm hr Z act E qb8 Hx39
  refine QChain.go fun Z act E => ?_
  refine qc_store rfl (wanted_none rfl) rfl Hx40.out (off := 1) (vs := [.int .i64 m.fr]) (by kernel_rfl) one1 (by rw [List.size_toArray, flat_sum, (show (Mg.segs ({ n0 with kd := m.kd } : Mg) e5 e10 e11 e15 e18).map List.length = mgN from HLn.out)]; show 1 + 1 ≤ 295; decide) (E.d 8) (ec (E.d 3)) ?_
  intro u6_2a qc0 hm
  have qb8 := qc0.eqv (b := ((Mg.segs ({ n0 with kd := m.kd, fr := m.fr } : Mg) e5 e10 e11 e15 e18).flatten : List Value).toArray) ((lay_seg (show (Mg.segs ({ n0 with kd := m.kd } : Mg) e5 e10 e11 e15 e18).map List.length = mgN from HLn.out) 1 (rfl) rfl).trans rfl)
  clear qc0
  have zu6_2a := hm.size
  refine ⟨hm.mono (by intro k hk h; omega), (fun _ => rfl), ?_⟩
  intro u6_2 hr
  have zu6_2 := hr.size
  have Hx42 := hid (qb8.mod hr (by intro h2; omega))
  have Cx43 := hid (Cx41.out.goM hm hr (fun _ _ h => h))
  clear Cx41 hm hr Z act E qb8 Hx40
  refine QChain.go fun Z act E => ?_
  refine qc_store rfl (wanted_none rfl) rfl Hx42.out (off := 2) (vs := [.int .i64 m.to]) (by kernel_rfl) one1 (by rw [List.size_toArray, flat_sum, (show (Mg.segs ({ n0 with kd := m.kd, fr := m.fr } : Mg) e5 e10 e11 e15 e18).map List.length = mgN from HLn.out)]; show 2 + 1 ≤ 295; decide) (E.d 10) (ec (E.d 5)) ?_
  intro u6_3a qc0 hm
  have qb8 := qc0.eqv (b := ((Mg.segs ({ n0 with kd := m.kd, fr := m.fr, «to» := m.to } : Mg) e5 e10 e11 e15 e18).flatten : List Value).toArray) ((lay_seg (show (Mg.segs ({ n0 with kd := m.kd, fr := m.fr } : Mg) e5 e10 e11 e15 e18).map List.length = mgN from HLn.out) 2 (rfl) rfl).trans rfl)
  clear qc0
  have zu6_3a := hm.size
  refine ⟨hm.mono (by intro k hk h; omega), (fun _ => rfl), ?_⟩
  intro u6_3 hr
  have zu6_3 := hr.size
  have Hx44 := hid (qb8.mod hr (by intro h2; omega))
  have Cx45 := hid (Cx43.out.goM hm hr (fun _ _ h => h))
  clear Cx43 hm hr Z act E qb8 Hx42
  refine QChain.nil fun vs hl hzz hrows hne => ?_
  obtain ⟨Z, hYZ, hZb, hV⟩ := hzz
  rw [show vs = [gw vs 0, gw vs 1, gw vs 2, gw vs 3, gw vs 4, gw vs 5, gw vs 6, gw vs 7, gw vs 8, gw vs 9, gw vs 10, gw vs 11] from (gw_eta hl).trans rfl]
  have ha0 := HA0.out
  subst ha0
  clear HA0 hV hYZ hZb hsz0 hrows hne oe3 oe8
  simp only [putAll, Act.put, sIB, sCZ, sCS, List.set_nil]
  clear hl
  go_upto_region 7 with (fail)
  refine wp_region_U 164 [36] [0] (fun a0 HA0 => ?_)
  have oe2 := ev HA0 2 rfl
  refine QSeq.pure rfl _ (fun E => ex_move rfl (E.v oe2)) ?_
  refine QSeq.nil (t' := [_]) rfl ?_
  obtain rfl := HA0.out
  clear HA0 oe2
  simp only [pz, Act.put, sIB, sCZ, sCS]
  go_upto_block 0 with (fail)
  go_cut [] from 37 (fun w' => ∃ (z : Mg) (cz : List Value), z = ontoM m n0 ∧ Cs w' (u4_3.heap.size) cz.toArray 61 ∧ MgR.rd (fun k => (R2 k) ∨ (New u1_0 u1_1a k) ∨ (New u1_1 u1_2a k)) w' cz z ∧ Mod (fun k => k = u4_3.heap.size) u6_3 w')
  case first =>
    have hmz := hid (Mod.refl (fun k => k = u4_3.heap.size) u6_3)
    by_cases h1 : K = 1
    · have KK := Lib.hid h1
      clear h1
      go_upto_region 9 with (fail)
      refine wp_region_U 164 [41, 40] [0, 1] (fun a0 HA0 => ?_)
      have oe36 := ev HA0 36 rfl
      refine QSeq.pure rfl (.bool true) (fun E => ex_binE rfl (E.v oe36) rfl (guard_ints _ _ _ _ _ _) (run_eql_i _ _ _ Tryz.underlying3) (congrArg Value.bool (eq_tt KK.out))) ?_
      refine QSeq.pure rfl _ (fun E => ex_assign rfl (E.d 0 0)) ?_
      refine QSeq.nil (t' := [_, _]) rfl ?_
      obtain rfl := HA0.out
      clear HA0 oe36
      simp only [pz, Act.put, sIB, sCZ, sCS]
      have HE := hid (show ontoM m n0 = ({ n0 with kd := m.kd, fr := m.fr, «to» := m.to, cm := m.cm } : Mg) by unfold ontoM; rw [if_pos (HMK.out.trans KK.out)])
      go_upto_region 10 with (fail)
      refine wp_region_U 164 [42, 43, 44, 167] [0, 1, 2, 3] (fun a0 HA0 => ?_)
      have oe3 := ev HA0 3 rfl
      have oe8 := ev HA0 8 rfl
      refine QSeq.pure rfl (.pointer (some ⟨w.heap.size, 3, none⟩)) (fun E => ex_field rfl Tryz.underlying61 rfl (by kernel_rfl) (E.v oe3)) ?_
      refine QSeq.pure rfl _ (fun E => ex_loadA rfl Tryz.underlying29 rfl (off := 3) (cs := (m.cm.cells)) (by rw [Cm.len HOm.out.cm.2.1]; exact size_commit) (E.d 0 0) (Cs.seg (((HB3.out.mod Cx32.out (fun h => h)).mod Cx37.out (fun h => h)).mod Cx45.out (by intro h2; omega)) HLM.out 3 rfl rfl)) ?_
      refine QSeq.pure rfl (.pointer (some ⟨u4_3.heap.size, 3, none⟩)) (fun E => ex_field rfl Tryz.underlying61 rfl (by kernel_rfl) (E.v oe8)) ?_
      refine QSeq.go fun act E => ?_
      refine qc_store rfl (wanted_none rfl) rfl Hx44.out (off := 3) (vs := (m.cm.cells)) (by rw [Cm.len HOm.out.cm.2.1]; kernel_rfl) (Cm_one _) (by rw [List.size_toArray, flat_sum, (show (Mg.segs ({ n0 with kd := m.kd, fr := m.fr, «to» := m.to } : Mg) e5 e10 e11 e15 e18).map List.length = mgN from HLn.out)]; show 3 + _ ≤ 295; rw [Cm.len HOm.out.cm.2.1]; decide) (E.d 2 0) (ec (E.d 1 1)) ?_
      intro u10_3 qc0 hm
      have qb8 := qc0.eqv (b := ((Mg.segs ({ n0 with kd := m.kd, fr := m.fr, «to» := m.to, cm := m.cm } : Mg) e5 e10 e11 e15 e18).flatten : List Value).toArray) ((lay_seg (show (Mg.segs ({ n0 with kd := m.kd, fr := m.fr, «to» := m.to } : Mg) e5 e10 e11 e15 e18).map List.length = mgN from HLn.out) 3 (by rw [Cm.len HOm.out.cm.2.1]; rfl) rfl).trans rfl)
      clear qc0
      have Hx46 := hid qb8
      have zu10_3 := hm.size
      have Cx47 := hid (show Mod (fun k => (k = u4_3.heap.size)) u6_3 u10_3 from hm)
      clear hm
      clear act E qb8 Hx44
      refine QSeq.nil (t' := [_, _, _, _]) rfl ?_
      obtain rfl := HA0.out
      clear HA0 oe3 oe8
      simp only [pz, Act.put, sIB, sCZ, sCS, List.set_nil]
      have hpa := mg_pcs ((((HMM.out.mod Cx32.out (fun _ _ h => h)).mod Cx37.out (fun _ _ h => h)).mod Cx45.out (by intro k h1 h2; rcases h1 with h1 | h1 <;> first | omega | (have hb := HBT.out k h1; omega))).mod Cx47.out (by intro k h1 h2; rcases h1 with h1 | h1 <;> first | omega | (have hb := HBT.out k h1; omega))) HLM.out
      have hpb := mg_pcs (((((Hx22.out.mod Cx26.out (by intro k h1 h2; rcases h1 with h1 | h1 <;> first | omega | (have hb := HBT.out k h1; omega))).mod Cx32.out (fun _ _ h => h)).mod Cx37.out (fun _ _ h => h)).mod Cx45.out (by intro k h1 h2; rcases h1 with h1 | h1 <;> first | omega | (have hb := HBT.out k h1; omega))).mod Cx47.out (by intro k h1 h2; rcases h1 with h1 | h1 <;> first | omega | (have hb := HBT.out k h1; omega))) HLn.out
      have hrz : MgR.rd (fun k => (R2 k) ∨ (New u1_0 u1_1a k) ∨ (New u1_1 u1_2a k)) u10_3 ((Mg.segs ({ n0 with kd := m.kd, fr := m.fr, «to» := m.to, cm := m.cm } : Mg) e5 e10 e11 e15 e18).flatten) ({ n0 with kd := m.kd, fr := m.fr, «to» := m.to, cm := m.cm } : Mg) := ⟨_, _, _, _, _, rfl, { hpb.1 with kd := hpa.1.kd, fr := hpa.1.fr, «to» := hpa.1.to, cm := hpa.1.cm }, hpb.2.1.widen (by intro k h1; rcases h1 with h1 | h1 <;> first | omega | exact h1.elim | exact Or.inl h1 | exact Or.inr (Or.inl h1) | exact Or.inr (Or.inr (h1))), hpb.2.2.1.widen (by intro k h1; rcases h1 with h1 | h1 <;> first | omega | exact h1.elim | exact Or.inl h1 | exact Or.inr (Or.inl h1) | exact Or.inr (Or.inr (h1))), hpb.2.2.2.1.widen (by intro k h1; rcases h1 with h1 | h1 <;> first | omega | exact h1.elim | exact Or.inl h1 | exact Or.inr (Or.inl h1) | exact Or.inr (Or.inr (h1))), hpb.2.2.2.2.1.widen (by intro k h1; rcases h1 with h1 | h1 <;> first | omega | exact h1.elim | exact Or.inl h1 | exact Or.inr (Or.inl h1) | exact Or.inr (Or.inr (h1))), hpb.2.2.2.2.2.widen (by intro k h1; rcases h1 with h1 | h1 <;> first | omega | exact h1.elim | exact Or.inl h1 | exact Or.inr (Or.inl h1) | exact Or.inr (Or.inr (h1)))⟩
      have HRZ := Lib.hid hrz
      clear hpa hpb hrz
      go_wp2_with fail
      go_meet
      case rel => exact ⟨_, _, HE.out.symm, Hx46.out, HRZ.out, (hmz.out.trans Cx47.out (fun _ _ h => h))⟩
    have K1 := Lib.hid h1
    clear h1
    go_upto_region 9 with (fail)
    refine wp_region_U 164 [41, 40] [0, 1] (fun a0 HA0 => ?_)
    have oe36 := ev HA0 36 rfl
    refine QSeq.pure rfl (.bool false) (fun E => ex_binE rfl (E.v oe36) rfl (guard_ints _ _ _ _ _ _) (run_eql_i _ _ _ Tryz.underlying3) (congrArg Value.bool (eq_ff K1.out))) ?_
    refine QSeq.pure rfl _ (fun E => ex_assign rfl (E.d 0 0)) ?_
    refine QSeq.nil (t' := [_, _]) rfl ?_
    obtain rfl := HA0.out
    clear HA0 oe36
    simp only [pz, Act.put, sIB, sCZ, sCS]
    by_cases h2 : K = 2
    · have KK := Lib.hid h2
      clear h2
      go_upto_region 11 with (fail)
      refine wp_region_U 164 [46, 45] [0, 1] (fun a0 HA0 => ?_)
      have oe36 := ev HA0 36 rfl
      refine QSeq.pure rfl (.bool true) (fun E => ex_binE rfl (E.v oe36) rfl (guard_ints _ _ _ _ _ _) (run_eql_i _ _ _ Tryz.underlying3) (congrArg Value.bool (eq_tt KK.out))) ?_
      refine QSeq.pure rfl _ (fun E => ex_assign rfl (E.d 0 0)) ?_
      refine QSeq.nil (t' := [_, _]) rfl ?_
      obtain rfl := HA0.out
      clear HA0 oe36
      simp only [pz, Act.put, sIB, sCZ, sCS]
      have HE := hid (show ontoM m n0 = ({ n0 with kd := m.kd, fr := m.fr, «to» := m.to, st := m.st } : Mg) by unfold ontoM; rw [if_neg (fun e => K1.out (HMK.out.symm.trans e)), if_pos (HMK.out.trans KK.out)])
      go_upto_region 12 with (fail)
      refine wp_region_U 164 [47, 48, 49, 167] [0, 1, 2, 3] (fun a0 HA0 => ?_)
      have oe3 := ev HA0 3 rfl
      have oe8 := ev HA0 8 rfl
      refine QSeq.pure rfl (.pointer (some ⟨w.heap.size, 40, none⟩)) (fun E => ex_field rfl Tryz.underlying61 rfl (by kernel_rfl) (E.v oe3)) ?_
      refine QSeq.pure rfl _ (fun E => ex_loadA rfl Tryz.underlying32 rfl (off := 40) (cs := (m.st.cells)) (by rw [St.len HOm.out.st]; kernel_rfl) (E.d 0 0) (Cs.seg (((HB3.out.mod Cx32.out (fun h => h)).mod Cx37.out (fun h => h)).mod Cx45.out (by intro h2; omega)) HLM.out 4 rfl rfl)) ?_
      refine QSeq.pure rfl (.pointer (some ⟨u4_3.heap.size, 40, none⟩)) (fun E => ex_field rfl Tryz.underlying61 rfl (by kernel_rfl) (E.v oe8)) ?_
      refine QSeq.go fun act E => ?_
      refine qc_store rfl (wanted_none rfl) rfl Hx44.out (off := 40) (vs := (m.st.cells)) (by rw [St.len HOm.out.st]; kernel_rfl) (St.one _) (by rw [List.size_toArray, flat_sum, (show (Mg.segs ({ n0 with kd := m.kd, fr := m.fr, «to» := m.to } : Mg) e5 e10 e11 e15 e18).map List.length = mgN from HLn.out)]; show 40 + _ ≤ 295; rw [St.len HOm.out.st]; decide) (E.d 2 0) (ec (E.d 1 1)) ?_
      intro u12_3 qc0 hm
      have qb8 := qc0.eqv (b := ((Mg.segs ({ n0 with kd := m.kd, fr := m.fr, «to» := m.to, st := m.st } : Mg) e5 e10 e11 e15 e18).flatten : List Value).toArray) ((lay_seg (show (Mg.segs ({ n0 with kd := m.kd, fr := m.fr, «to» := m.to } : Mg) e5 e10 e11 e15 e18).map List.length = mgN from HLn.out) 4 (by rw [St.len HOm.out.st]; rfl) rfl).trans rfl)
      clear qc0
      have Hx48 := hid qb8
      have zu12_3 := hm.size
      have Cx49 := hid (show Mod (fun k => (k = u4_3.heap.size)) u6_3 u12_3 from hm)
      clear hm
      clear act E qb8 Hx44
      refine QSeq.nil (t' := [_, _, _, _]) rfl ?_
      obtain rfl := HA0.out
      clear HA0 oe3 oe8
      simp only [pz, Act.put, sIB, sCZ, sCS, List.set_nil]
      have hpa := mg_pcs ((((HMM.out.mod Cx32.out (fun _ _ h => h)).mod Cx37.out (fun _ _ h => h)).mod Cx45.out (by intro k h1 h2; rcases h1 with h1 | h1 <;> first | omega | (have hb := HBT.out k h1; omega))).mod Cx49.out (by intro k h1 h2; rcases h1 with h1 | h1 <;> first | omega | (have hb := HBT.out k h1; omega))) HLM.out
      have hpb := mg_pcs (((((Hx22.out.mod Cx26.out (by intro k h1 h2; rcases h1 with h1 | h1 <;> first | omega | (have hb := HBT.out k h1; omega))).mod Cx32.out (fun _ _ h => h)).mod Cx37.out (fun _ _ h => h)).mod Cx45.out (by intro k h1 h2; rcases h1 with h1 | h1 <;> first | omega | (have hb := HBT.out k h1; omega))).mod Cx49.out (by intro k h1 h2; rcases h1 with h1 | h1 <;> first | omega | (have hb := HBT.out k h1; omega))) HLn.out
      have hrz : MgR.rd (fun k => (R2 k) ∨ (New u1_0 u1_1a k) ∨ (New u1_1 u1_2a k)) u12_3 ((Mg.segs ({ n0 with kd := m.kd, fr := m.fr, «to» := m.to, st := m.st } : Mg) e5 e10 e11 e15 e18).flatten) ({ n0 with kd := m.kd, fr := m.fr, «to» := m.to, st := m.st } : Mg) := ⟨_, _, _, _, _, rfl, { hpb.1 with kd := hpa.1.kd, fr := hpa.1.fr, «to» := hpa.1.to, st := hpa.1.st }, hpb.2.1.widen (by intro k h1; rcases h1 with h1 | h1 <;> first | omega | exact h1.elim | exact Or.inl h1 | exact Or.inr (Or.inl h1) | exact Or.inr (Or.inr (h1))), hpb.2.2.1.widen (by intro k h1; rcases h1 with h1 | h1 <;> first | omega | exact h1.elim | exact Or.inl h1 | exact Or.inr (Or.inl h1) | exact Or.inr (Or.inr (h1))), hpb.2.2.2.1.widen (by intro k h1; rcases h1 with h1 | h1 <;> first | omega | exact h1.elim | exact Or.inl h1 | exact Or.inr (Or.inl h1) | exact Or.inr (Or.inr (h1))), hpb.2.2.2.2.1.widen (by intro k h1; rcases h1 with h1 | h1 <;> first | omega | exact h1.elim | exact Or.inl h1 | exact Or.inr (Or.inl h1) | exact Or.inr (Or.inr (h1))), hpb.2.2.2.2.2.widen (by intro k h1; rcases h1 with h1 | h1 <;> first | omega | exact h1.elim | exact Or.inl h1 | exact Or.inr (Or.inl h1) | exact Or.inr (Or.inr (h1)))⟩
      have HRZ := Lib.hid hrz
      clear hpa hpb hrz
      go_wp2_with fail
      go_meet
      case rel => exact ⟨_, _, HE.out.symm, Hx48.out, HRZ.out, (hmz.out.trans Cx49.out (fun _ _ h => h))⟩
    have K2 := Lib.hid h2
    clear h2
    go_upto_region 11 with (fail)
    refine wp_region_U 164 [46, 45] [0, 1] (fun a0 HA0 => ?_)
    have oe36 := ev HA0 36 rfl
    refine QSeq.pure rfl (.bool false) (fun E => ex_binE rfl (E.v oe36) rfl (guard_ints _ _ _ _ _ _) (run_eql_i _ _ _ Tryz.underlying3) (congrArg Value.bool (eq_ff K2.out))) ?_
    refine QSeq.pure rfl _ (fun E => ex_assign rfl (E.d 0 0)) ?_
    refine QSeq.nil (t' := [_, _]) rfl ?_
    obtain rfl := HA0.out
    clear HA0 oe36
    simp only [pz, Act.put, sIB, sCZ, sCS]
    by_cases h3 : K = 3
    · have KK := Lib.hid h3
      clear h3
      go_upto_region 13 with (fail)
      refine wp_region_U 164 [51, 50] [0, 1] (fun a0 HA0 => ?_)
      have oe36 := ev HA0 36 rfl
      refine QSeq.pure rfl (.bool true) (fun E => ex_binE rfl (E.v oe36) rfl (guard_ints _ _ _ _ _ _) (run_eql_i _ _ _ Tryz.underlying3) (congrArg Value.bool (eq_tt KK.out))) ?_
      refine QSeq.pure rfl _ (fun E => ex_assign rfl (E.d 0 0)) ?_
      refine QSeq.nil (t' := [_, _]) rfl ?_
      obtain rfl := HA0.out
      clear HA0 oe36
      simp only [pz, Act.put, sIB, sCZ, sCS]
      have HE := hid (show ontoM m n0 = ({ n0 with kd := m.kd, fr := m.fr, «to» := m.to, ce := m.ce } : Mg) by unfold ontoM; rw [if_neg (fun e => K1.out (HMK.out.symm.trans e)), if_neg (fun e => K2.out (HMK.out.symm.trans e)), if_pos (HMK.out.trans KK.out)])
      go_upto_region 14 with (fail)
      refine wp_region_U 164 [52, 53, 54, 167] [0, 1, 2, 3] (fun a0 HA0 => ?_)
      have oe3 := ev HA0 3 rfl
      have oe8 := ev HA0 8 rfl
      refine QSeq.pure rfl (.pointer (some ⟨w.heap.size, 78, none⟩)) (fun E => ex_field rfl Tryz.underlying61 rfl (by kernel_rfl) (E.v oe3)) ?_
      refine QSeq.pure rfl _ (fun E => ex_loadA rfl Tryz.underlying35 rfl (off := 78) (cs := (c5)) (by rw [HCm5.out]; kernel_rfl) (E.d 0 0) (Cs.seg (((HB3.out.mod Cx32.out (fun h => h)).mod Cx37.out (fun h => h)).mod Cx45.out (by intro h2; omega)) HLM.out 5 rfl rfl)) ?_
      refine QSeq.pure rfl (.pointer (some ⟨u4_3.heap.size, 78, none⟩)) (fun E => ex_field rfl Tryz.underlying61 rfl (by kernel_rfl) (E.v oe8)) ?_
      refine QSeq.go fun act E => ?_
      refine qc_store rfl (wanted_none rfl) rfl Hx44.out (off := 78) (vs := c5) (by rw [HCm5.out]; kernel_rfl) HOm5.out (by rw [List.size_toArray, flat_sum, (show (Mg.segs ({ n0 with kd := m.kd, fr := m.fr, «to» := m.to } : Mg) e5 e10 e11 e15 e18).map List.length = mgN from HLn.out)]; show 78 + _ ≤ 295; rw [HCm5.out]; decide) (E.d 2 0) (ec (E.d 1 1)) ?_
      intro u14_3 qc0 hm
      have qb8 := qc0.eqv (b := ((Mg.segs ({ n0 with kd := m.kd, fr := m.fr, «to» := m.to, ce := m.ce } : Mg) c5 e10 e11 e15 e18).flatten : List Value).toArray) ((lay_seg (show (Mg.segs ({ n0 with kd := m.kd, fr := m.fr, «to» := m.to } : Mg) e5 e10 e11 e15 e18).map List.length = mgN from HLn.out) 5 (by rw [HCm5.out]; rfl) rfl).trans rfl)
      clear qc0
      have Hx50 := hid qb8
      have zu14_3 := hm.size
      have Cx51 := hid (show Mod (fun k => (k = u4_3.heap.size)) u6_3 u14_3 from hm)
      clear hm
      clear act E qb8 Hx44
      refine QSeq.nil (t' := [_, _, _, _]) rfl ?_
      obtain rfl := HA0.out
      clear HA0 oe3 oe8
      simp only [pz, Act.put, sIB, sCZ, sCS, List.set_nil]
      have hpa := mg_pcs ((((HMM.out.mod Cx32.out (fun _ _ h => h)).mod Cx37.out (fun _ _ h => h)).mod Cx45.out (by intro k h1 h2; rcases h1 with h1 | h1 <;> first | omega | (have hb := HBT.out k h1; omega))).mod Cx51.out (by intro k h1 h2; rcases h1 with h1 | h1 <;> first | omega | (have hb := HBT.out k h1; omega))) HLM.out
      have hpb := mg_pcs (((((Hx22.out.mod Cx26.out (by intro k h1 h2; rcases h1 with h1 | h1 <;> first | omega | (have hb := HBT.out k h1; omega))).mod Cx32.out (fun _ _ h => h)).mod Cx37.out (fun _ _ h => h)).mod Cx45.out (by intro k h1 h2; rcases h1 with h1 | h1 <;> first | omega | (have hb := HBT.out k h1; omega))).mod Cx51.out (by intro k h1 h2; rcases h1 with h1 | h1 <;> first | omega | (have hb := HBT.out k h1; omega))) HLn.out
      have hrz : MgR.rd (fun k => (R2 k) ∨ (New u1_0 u1_1a k) ∨ (New u1_1 u1_2a k)) u14_3 ((Mg.segs ({ n0 with kd := m.kd, fr := m.fr, «to» := m.to, ce := m.ce } : Mg) c5 e10 e11 e15 e18).flatten) ({ n0 with kd := m.kd, fr := m.fr, «to» := m.to, ce := m.ce } : Mg) := ⟨_, _, _, _, _, rfl, { hpb.1 with kd := hpa.1.kd, fr := hpa.1.fr, «to» := hpa.1.to }, hpa.2.1.widen (by intro k h1; rcases h1 with h1 | h1 <;> first | omega | exact h1.elim | exact Or.inl h1 | exact Or.inr (Or.inl h1) | exact Or.inr (Or.inr (h1))), hpb.2.2.1.widen (by intro k h1; rcases h1 with h1 | h1 <;> first | omega | exact h1.elim | exact Or.inl h1 | exact Or.inr (Or.inl h1) | exact Or.inr (Or.inr (h1))), hpb.2.2.2.1.widen (by intro k h1; rcases h1 with h1 | h1 <;> first | omega | exact h1.elim | exact Or.inl h1 | exact Or.inr (Or.inl h1) | exact Or.inr (Or.inr (h1))), hpb.2.2.2.2.1.widen (by intro k h1; rcases h1 with h1 | h1 <;> first | omega | exact h1.elim | exact Or.inl h1 | exact Or.inr (Or.inl h1) | exact Or.inr (Or.inr (h1))), hpb.2.2.2.2.2.widen (by intro k h1; rcases h1 with h1 | h1 <;> first | omega | exact h1.elim | exact Or.inl h1 | exact Or.inr (Or.inl h1) | exact Or.inr (Or.inr (h1)))⟩
      have HRZ := Lib.hid hrz
      clear hpa hpb hrz
      go_wp2_with fail
      go_meet
      case rel => exact ⟨_, _, HE.out.symm, Hx50.out, HRZ.out, (hmz.out.trans Cx51.out (fun _ _ h => h))⟩
    have K3 := Lib.hid h3
    clear h3
    go_upto_region 13 with (fail)
    refine wp_region_U 164 [51, 50] [0, 1] (fun a0 HA0 => ?_)
    have oe36 := ev HA0 36 rfl
    refine QSeq.pure rfl (.bool false) (fun E => ex_binE rfl (E.v oe36) rfl (guard_ints _ _ _ _ _ _) (run_eql_i _ _ _ Tryz.underlying3) (congrArg Value.bool (eq_ff K3.out))) ?_
    refine QSeq.pure rfl _ (fun E => ex_assign rfl (E.d 0 0)) ?_
    refine QSeq.nil (t' := [_, _]) rfl ?_
    obtain rfl := HA0.out
    clear HA0 oe36
    simp only [pz, Act.put, sIB, sCZ, sCS]
    by_cases h4 : K = 4
    · have KK := Lib.hid h4
      clear h4
      go_upto_region 15 with (fail)
      refine wp_region_U 164 [56, 55] [0, 1] (fun a0 HA0 => ?_)
      have oe36 := ev HA0 36 rfl
      refine QSeq.pure rfl (.bool true) (fun E => ex_binE rfl (E.v oe36) rfl (guard_ints _ _ _ _ _ _) (run_eql_i _ _ _ Tryz.underlying3) (congrArg Value.bool (eq_tt KK.out))) ?_
      refine QSeq.pure rfl _ (fun E => ex_assign rfl (E.d 0 0)) ?_
      refine QSeq.nil (t' := [_, _]) rfl ?_
      obtain rfl := HA0.out
      clear HA0 oe36
      simp only [pz, Act.put, sIB, sCZ, sCS]
      have HE := hid (show ontoM m n0 = ({ n0 with kd := m.kd, fr := m.fr, «to» := m.to, ak := m.ak } : Mg) by unfold ontoM; rw [if_neg (fun e => K1.out (HMK.out.symm.trans e)), if_neg (fun e => K2.out (HMK.out.symm.trans e)), if_neg (fun e => K3.out (HMK.out.symm.trans e)), if_pos (HMK.out.trans KK.out)])
      go_upto_region 16 with (fail)
      refine wp_region_U 164 [57, 58, 59, 167] [0, 1, 2, 3] (fun a0 HA0 => ?_)
      have oe3 := ev HA0 3 rfl
      have oe8 := ev HA0 8 rfl
      refine QSeq.pure rfl (.pointer (some ⟨w.heap.size, 116, none⟩)) (fun E => ex_field rfl Tryz.underlying61 rfl (by kernel_rfl) (E.v oe3)) ?_
      refine QSeq.pure rfl _ (fun E => ex_loadA rfl Tryz.underlying37 rfl (off := 116) (cs := (m.ak.cells)) (by rw [St.len HOm.out.ak]; kernel_rfl) (E.d 0 0) (Cs.seg (((HB3.out.mod Cx32.out (fun h => h)).mod Cx37.out (fun h => h)).mod Cx45.out (by intro h2; omega)) HLM.out 6 rfl rfl)) ?_
      refine QSeq.pure rfl (.pointer (some ⟨u4_3.heap.size, 116, none⟩)) (fun E => ex_field rfl Tryz.underlying61 rfl (by kernel_rfl) (E.v oe8)) ?_
      refine QSeq.go fun act E => ?_
      refine qc_store rfl (wanted_none rfl) rfl Hx44.out (off := 116) (vs := (m.ak.cells)) (by rw [St.len HOm.out.ak]; kernel_rfl) (St.one _) (by rw [List.size_toArray, flat_sum, (show (Mg.segs ({ n0 with kd := m.kd, fr := m.fr, «to» := m.to } : Mg) e5 e10 e11 e15 e18).map List.length = mgN from HLn.out)]; show 116 + _ ≤ 295; rw [St.len HOm.out.ak]; decide) (E.d 2 0) (ec (E.d 1 1)) ?_
      intro u16_3 qc0 hm
      have qb8 := qc0.eqv (b := ((Mg.segs ({ n0 with kd := m.kd, fr := m.fr, «to» := m.to, ak := m.ak } : Mg) e5 e10 e11 e15 e18).flatten : List Value).toArray) ((lay_seg (show (Mg.segs ({ n0 with kd := m.kd, fr := m.fr, «to» := m.to } : Mg) e5 e10 e11 e15 e18).map List.length = mgN from HLn.out) 6 (by rw [St.len HOm.out.ak]; rfl) rfl).trans rfl)
      clear qc0
      have Hx52 := hid qb8
      have zu16_3 := hm.size
      have Cx53 := hid (show Mod (fun k => (k = u4_3.heap.size)) u6_3 u16_3 from hm)
      clear hm
      clear act E qb8 Hx44
      refine QSeq.nil (t' := [_, _, _, _]) rfl ?_
      obtain rfl := HA0.out
      clear HA0 oe3 oe8
      simp only [pz, Act.put, sIB, sCZ, sCS, List.set_nil]
      have hpa := mg_pcs ((((HMM.out.mod Cx32.out (fun _ _ h => h)).mod Cx37.out (fun _ _ h => h)).mod Cx45.out (by intro k h1 h2; rcases h1 with h1 | h1 <;> first | omega | (have hb := HBT.out k h1; omega))).mod Cx53.out (by intro k h1 h2; rcases h1 with h1 | h1 <;> first | omega | (have hb := HBT.out k h1; omega))) HLM.out
      have hpb := mg_pcs (((((Hx22.out.mod Cx26.out (by intro k h1 h2; rcases h1 with h1 | h1 <;> first | omega | (have hb := HBT.out k h1; omega))).mod Cx32.out (fun _ _ h => h)).mod Cx37.out (fun _ _ h => h)).mod Cx45.out (by intro k h1 h2; rcases h1 with h1 | h1 <;> first | omega | (have hb := HBT.out k h1; omega))).mod Cx53.out (by intro k h1 h2; rcases h1 with h1 | h1 <;> first | omega | (have hb := HBT.out k h1; omega))) HLn.out
      have hrz : MgR.rd (fun k => (R2 k) ∨ (New u1_0 u1_1a k) ∨ (New u1_1 u1_2a k)) u16_3 ((Mg.segs ({ n0 with kd := m.kd, fr := m.fr, «to» := m.to, ak := m.ak } : Mg) e5 e10 e11 e15 e18).flatten) ({ n0 with kd := m.kd, fr := m.fr, «to» := m.to, ak := m.ak } : Mg) := ⟨_, _, _, _, _, rfl, { hpb.1 with kd := hpa.1.kd, fr := hpa.1.fr, «to» := hpa.1.to, ak := hpa.1.ak }, hpb.2.1.widen (by intro k h1; rcases h1 with h1 | h1 <;> first | omega | exact h1.elim | exact Or.inl h1 | exact Or.inr (Or.inl h1) | exact Or.inr (Or.inr (h1))), hpb.2.2.1.widen (by intro k h1; rcases h1 with h1 | h1 <;> first | omega | exact h1.elim | exact Or.inl h1 | exact Or.inr (Or.inl h1) | exact Or.inr (Or.inr (h1))), hpb.2.2.2.1.widen (by intro k h1; rcases h1 with h1 | h1 <;> first | omega | exact h1.elim | exact Or.inl h1 | exact Or.inr (Or.inl h1) | exact Or.inr (Or.inr (h1))), hpb.2.2.2.2.1.widen (by intro k h1; rcases h1 with h1 | h1 <;> first | omega | exact h1.elim | exact Or.inl h1 | exact Or.inr (Or.inl h1) | exact Or.inr (Or.inr (h1))), hpb.2.2.2.2.2.widen (by intro k h1; rcases h1 with h1 | h1 <;> first | omega | exact h1.elim | exact Or.inl h1 | exact Or.inr (Or.inl h1) | exact Or.inr (Or.inr (h1)))⟩
      have HRZ := Lib.hid hrz
      clear hpa hpb hrz
      go_wp2_with fail
      go_meet
      case rel => exact ⟨_, _, HE.out.symm, Hx52.out, HRZ.out, (hmz.out.trans Cx53.out (fun _ _ h => h))⟩
    have K4 := Lib.hid h4
    clear h4
    go_upto_region 15 with (fail)
    refine wp_region_U 164 [56, 55] [0, 1] (fun a0 HA0 => ?_)
    have oe36 := ev HA0 36 rfl
    refine QSeq.pure rfl (.bool false) (fun E => ex_binE rfl (E.v oe36) rfl (guard_ints _ _ _ _ _ _) (run_eql_i _ _ _ Tryz.underlying3) (congrArg Value.bool (eq_ff K4.out))) ?_
    refine QSeq.pure rfl _ (fun E => ex_assign rfl (E.d 0 0)) ?_
    refine QSeq.nil (t' := [_, _]) rfl ?_
    obtain rfl := HA0.out
    clear HA0 oe36
    simp only [pz, Act.put, sIB, sCZ, sCS]
    by_cases h5 : K = 5
    · have KK := Lib.hid h5
      clear h5
      go_upto_region 17 with (fail)
      refine wp_region_U 164 [61, 60] [0, 1] (fun a0 HA0 => ?_)
      have oe36 := ev HA0 36 rfl
      refine QSeq.pure rfl (.bool true) (fun E => ex_binE rfl (E.v oe36) rfl (guard_ints _ _ _ _ _ _) (run_eql_i _ _ _ Tryz.underlying3) (congrArg Value.bool (eq_tt KK.out))) ?_
      refine QSeq.pure rfl _ (fun E => ex_assign rfl (E.d 0 0)) ?_
      refine QSeq.nil (t' := [_, _]) rfl ?_
      obtain rfl := HA0.out
      clear HA0 oe36
      simp only [pz, Act.put, sIB, sCZ, sCS]
      have HE := hid (show ontoM m n0 = ({ n0 with kd := m.kd, fr := m.fr, «to» := m.to, ep := m.ep, rn := m.rn, tm := m.tm } : Mg) by unfold ontoM; rw [if_neg (fun e => K1.out (HMK.out.symm.trans e)), if_neg (fun e => K2.out (HMK.out.symm.trans e)), if_neg (fun e => K3.out (HMK.out.symm.trans e)), if_neg (fun e => K4.out (HMK.out.symm.trans e)), if_pos (HMK.out.trans KK.out)])
      go_upto_region 18 with (fail)
      generalize ha0 : Act.mk _ _ = a0
      have oe3 : a0.eval (.tmp 3) = .pointer (some ⟨w.heap.size, 0, none⟩) := by rw [← ha0]; rfl
      have oe8 : a0.eval (.tmp 8) = .pointer (some ⟨u4_3.heap.size, 0, none⟩) := by rw [← ha0]; rfl
      have hsz0 : a0.tmps.size = 164 := by rw [← ha0]; rfl
      have HA0 := hid ha0
      clear ha0
      refine wp_region_Q1 164 hsz0 [62, 63, 64, 65, 66, 67, 68, 171, 69, 173, 70, 175] (fun k => (k = u4_3.heap.size)) (fun k j => (k = 0 ∧ ((j = u4_3.heap.size))) ∨ (k = 1 ∧ ((j = u4_3.heap.size))) ∨ (k = 2 ∧ ((j = u4_3.heap.size)))) (by intro k j h; (try dsimp only at h ⊢); omega) [qi (.pointer (some ⟨w.heap.size, 154, none⟩)), qi (.int .i64 m.ep), qi (.pointer (some ⟨w.heap.size, 155, none⟩)), qi (.int .i64 m.rn), qi (.pointer (some ⟨w.heap.size, 156, none⟩)), qi (.int .u64 (m.tm : Nat)), qi (.pointer (some ⟨u4_3.heap.size, 154, none⟩)), qv 0, qi (.pointer (some ⟨u4_3.heap.size, 155, none⟩)), qv 1, qi (.pointer (some ⟨u4_3.heap.size, 156, none⟩)), qv 2] ⟨qi_stable, qi_stable, qi_stable, qi_stable, qi_stable, qi_stable, qi_stable, qv_stable, qi_stable, qv_stable, qi_stable, qv_stable, trivial⟩ [7, 9, 11] ⟨?_, ?_, ?_, ?_, ?_, ?_, ?_, ?_, ?_, ?_, ?_, ?_, trivial⟩ ?_
      · exact stq (fun E => ex_field rfl Tryz.underlying61 rfl (by kernel_rfl) (E.v oe3))
      · exact stq (fun E => ex_load1 rfl Tryz.underlying3 rfl (E.d 0) (Cs.seg1 ((((HB3.out.mod Cx32.out (fun h => h)).mod Cx37.out (fun h => h)).mod Cx45.out (by intro h2; omega)).mod E.m (by intro h2; omega)) HLM.out 7 rfl (o := 154) (k := 0) rfl rfl rfl))
      · exact stq (fun E => ex_field rfl Tryz.underlying61 rfl (by kernel_rfl) (E.v oe3))
      · exact stq (fun E => ex_load1 rfl Tryz.underlying3 rfl (E.d 2) (Cs.seg1 ((((HB3.out.mod Cx32.out (fun h => h)).mod Cx37.out (fun h => h)).mod Cx45.out (by intro h2; omega)).mod E.m (by intro h2; omega)) HLM.out 8 rfl (o := 155) (k := 0) rfl rfl rfl))
      · exact stq (fun E => ex_field rfl Tryz.underlying61 rfl (by kernel_rfl) (E.v oe3))
      · exact stq (fun E => ex_load1 rfl Tryz.underlying30 rfl (E.d 4) (Cs.seg1 ((((HB3.out.mod Cx32.out (fun h => h)).mod Cx37.out (fun h => h)).mod Cx45.out (by intro h2; omega)).mod E.m (by intro h2; omega)) HLM.out 9 rfl (o := 156) (k := 0) rfl rfl rfl))
      · exact stq (fun E => ex_field rfl Tryz.underlying61 rfl (by kernel_rfl) (E.v oe8))
      · exact stepq_chain rfl
      · exact stq (fun E => ex_field rfl Tryz.underlying61 rfl (by kernel_rfl) (E.v oe8))
      · exact stepq_chain rfl
      · exact stq (fun E => ex_field rfl Tryz.underlying61 rfl (by kernel_rfl) (E.v oe8))
      · exact stepq_chain rfl
      intro u18_0 hr
      have zu18_0 := hr.size
      have Cx54 := hid (hr.new (S := (fun k => (k = u4_3.heap.size))))
      have Hx55 := hid (Hx44.out.mod hr (by intro h2; omega))
      clear Hx44
      clear hr
      refine QChain.go fun Z act E => ?_
      refine qc_store rfl (wanted_none rfl) rfl Hx55.out (off := 154) (vs := [.int .i64 m.ep]) (by kernel_rfl) one1 (by rw [List.size_toArray, flat_sum, (show (Mg.segs ({ n0 with kd := m.kd, fr := m.fr, «to» := m.to } : Mg) e5 e10 e11 e15 e18).map List.length = mgN from HLn.out)]; show 154 + 1 ≤ 295; decide) (E.d 6) (ec (E.d 1)) ?_
      intro u18_1a qc0 hm
      have qb8 := qc0.eqv (b := ((Mg.segs ({ n0 with kd := m.kd, fr := m.fr, «to» := m.to, ep := m.ep } : Mg) e5 e10 e11 e15 e18).flatten : List Value).toArray) ((lay_seg (show (Mg.segs ({ n0 with kd := m.kd, fr := m.fr, «to» := m.to } : Mg) e5 e10 e11 e15 e18).map List.length = mgN from HLn.out) 7 (rfl) rfl).trans rfl)
      clear qc0
      have zu18_1a := hm.size
      refine ⟨hm.mono (by intro k hk h; omega), (fun _ => rfl), ?_⟩
      intro u18_1 hr
      have zu18_1 := hr.size
      have Hx56 := hid (qb8.mod hr (by intro h2; omega))
      have Cx57 := hid (Cx54.out.goM hm hr (fun _ _ h => h))
      clear Cx54 hm hr Z act E qb8 Hx55
      refine QChain.go fun Z act E => ?_
      refine qc_store rfl (wanted_none rfl) rfl Hx56.out (off := 155) (vs := [.int .i64 m.rn]) (by kernel_rfl) one1 (by rw [List.size_toArray, flat_sum, (show (Mg.segs ({ n0 with kd := m.kd, fr := m.fr, «to» := m.to, ep := m.ep } : Mg) e5 e10 e11 e15 e18).map List.length = mgN from HLn.out)]; show 155 + 1 ≤ 295; decide) (E.d 8) (ec (E.d 3)) ?_
      intro u18_2a qc0 hm
      have qb8 := qc0.eqv (b := ((Mg.segs ({ n0 with kd := m.kd, fr := m.fr, «to» := m.to, ep := m.ep, rn := m.rn } : Mg) e5 e10 e11 e15 e18).flatten : List Value).toArray) ((lay_seg (show (Mg.segs ({ n0 with kd := m.kd, fr := m.fr, «to» := m.to, ep := m.ep } : Mg) e5 e10 e11 e15 e18).map List.length = mgN from HLn.out) 8 (rfl) rfl).trans rfl)
      clear qc0
      have zu18_2a := hm.size
      refine ⟨hm.mono (by intro k hk h; omega), (fun _ => rfl), ?_⟩
      intro u18_2 hr
      have zu18_2 := hr.size
      have Hx58 := hid (qb8.mod hr (by intro h2; omega))
      have Cx59 := hid (Cx57.out.goM hm hr (fun _ _ h => h))
      clear Cx57 hm hr Z act E qb8 Hx56
      refine QChain.go fun Z act E => ?_
      refine qc_store rfl (wanted_none rfl) rfl Hx58.out (off := 156) (vs := [.int .u64 (m.tm : Nat)]) (by kernel_rfl) one1 (by rw [List.size_toArray, flat_sum, (show (Mg.segs ({ n0 with kd := m.kd, fr := m.fr, «to» := m.to, ep := m.ep, rn := m.rn } : Mg) e5 e10 e11 e15 e18).map List.length = mgN from HLn.out)]; show 156 + 1 ≤ 295; decide) (E.d 10) (ec (E.d 5)) ?_
      intro u18_3a qc0 hm
      have qb8 := qc0.eqv (b := ((Mg.segs ({ n0 with kd := m.kd, fr := m.fr, «to» := m.to, ep := m.ep, rn := m.rn, tm := m.tm } : Mg) e5 e10 e11 e15 e18).flatten : List Value).toArray) ((lay_seg (show (Mg.segs ({ n0 with kd := m.kd, fr := m.fr, «to» := m.to, ep := m.ep, rn := m.rn } : Mg) e5 e10 e11 e15 e18).map List.length = mgN from HLn.out) 9 (rfl) rfl).trans rfl)
      clear qc0
      have zu18_3a := hm.size
      refine ⟨hm.mono (by intro k hk h; omega), (fun _ => rfl), ?_⟩
      intro u18_3 hr
      have zu18_3 := hr.size
      have Hx60 := hid (qb8.mod hr (by intro h2; omega))
      have Cx61 := hid (Cx59.out.goM hm hr (fun _ _ h => h))
      clear Cx59 hm hr Z act E qb8 Hx58
      refine QChain.nil fun vs hl hzz hrows hne => ?_
      obtain ⟨Z, hYZ, hZb, hV⟩ := hzz
      rw [show vs = [gw vs 0, gw vs 1, gw vs 2, gw vs 3, gw vs 4, gw vs 5, gw vs 6, gw vs 7, gw vs 8, gw vs 9, gw vs 10, gw vs 11] from (gw_eta hl).trans rfl]
      have ha0 := HA0.out
      subst ha0
      clear HA0 hV hYZ hZb hsz0 hrows hne oe3 oe8
      simp only [putAll, Act.put, sIB, sCZ, sCS, List.set_nil]
      clear hl
      have hpa := mg_pcs ((((HMM.out.mod Cx32.out (fun _ _ h => h)).mod Cx37.out (fun _ _ h => h)).mod Cx45.out (by intro k h1 h2; rcases h1 with h1 | h1 <;> first | omega | (have hb := HBT.out k h1; omega))).mod Cx61.out (by intro k h1 h2; rcases h1 with h1 | h1 <;> first | omega | (have hb := HBT.out k h1; omega))) HLM.out
      have hpb := mg_pcs (((((Hx22.out.mod Cx26.out (by intro k h1 h2; rcases h1 with h1 | h1 <;> first | omega | (have hb := HBT.out k h1; omega))).mod Cx32.out (fun _ _ h => h)).mod Cx37.out (fun _ _ h => h)).mod Cx45.out (by intro k h1 h2; rcases h1 with h1 | h1 <;> first | omega | (have hb := HBT.out k h1; omega))).mod Cx61.out (by intro k h1 h2; rcases h1 with h1 | h1 <;> first | omega | (have hb := HBT.out k h1; omega))) HLn.out
      have hrz : MgR.rd (fun k => (R2 k) ∨ (New u1_0 u1_1a k) ∨ (New u1_1 u1_2a k)) u18_3 ((Mg.segs ({ n0 with kd := m.kd, fr := m.fr, «to» := m.to, ep := m.ep, rn := m.rn, tm := m.tm } : Mg) e5 e10 e11 e15 e18).flatten) ({ n0 with kd := m.kd, fr := m.fr, «to» := m.to, ep := m.ep, rn := m.rn, tm := m.tm } : Mg) := ⟨_, _, _, _, _, rfl, { hpb.1 with kd := hpa.1.kd, fr := hpa.1.fr, «to» := hpa.1.to, ep := hpa.1.ep, rn := hpa.1.rn, tm := hpa.1.tm }, hpb.2.1.widen (by intro k h1; rcases h1 with h1 | h1 <;> first | omega | exact h1.elim | exact Or.inl h1 | exact Or.inr (Or.inl h1) | exact Or.inr (Or.inr (h1))), hpb.2.2.1.widen (by intro k h1; rcases h1 with h1 | h1 <;> first | omega | exact h1.elim | exact Or.inl h1 | exact Or.inr (Or.inl h1) | exact Or.inr (Or.inr (h1))), hpb.2.2.2.1.widen (by intro k h1; rcases h1 with h1 | h1 <;> first | omega | exact h1.elim | exact Or.inl h1 | exact Or.inr (Or.inl h1) | exact Or.inr (Or.inr (h1))), hpb.2.2.2.2.1.widen (by intro k h1; rcases h1 with h1 | h1 <;> first | omega | exact h1.elim | exact Or.inl h1 | exact Or.inr (Or.inl h1) | exact Or.inr (Or.inr (h1))), hpb.2.2.2.2.2.widen (by intro k h1; rcases h1 with h1 | h1 <;> first | omega | exact h1.elim | exact Or.inl h1 | exact Or.inr (Or.inl h1) | exact Or.inr (Or.inr (h1)))⟩
      have HRZ := Lib.hid hrz
      clear hpa hpb hrz
      go_wp2_with fail
      go_meet
      case rel => exact ⟨_, _, HE.out.symm, Hx60.out, HRZ.out, (hmz.out.trans Cx61.out (fun _ _ h => h))⟩
    have K5 := Lib.hid h5
    clear h5
    go_upto_region 17 with (fail)
    refine wp_region_U 164 [61, 60] [0, 1] (fun a0 HA0 => ?_)
    have oe36 := ev HA0 36 rfl
    refine QSeq.pure rfl (.bool false) (fun E => ex_binE rfl (E.v oe36) rfl (guard_ints _ _ _ _ _ _) (run_eql_i _ _ _ Tryz.underlying3) (congrArg Value.bool (eq_ff K5.out))) ?_
    refine QSeq.pure rfl _ (fun E => ex_assign rfl (E.d 0 0)) ?_
    refine QSeq.nil (t' := [_, _]) rfl ?_
    obtain rfl := HA0.out
    clear HA0 oe36
    simp only [pz, Act.put, sIB, sCZ, sCS]
    by_cases h6 : K = 6
    · have KK := Lib.hid h6
      clear h6
      go_upto_region 19 with (fail)
      refine wp_region_U 164 [72, 71] [0, 1] (fun a0 HA0 => ?_)
      have oe36 := ev HA0 36 rfl
      refine QSeq.pure rfl (.bool true) (fun E => ex_binE rfl (E.v oe36) rfl (guard_ints _ _ _ _ _ _) (run_eql_i _ _ _ Tryz.underlying3) (congrArg Value.bool (eq_tt KK.out))) ?_
      refine QSeq.pure rfl _ (fun E => ex_assign rfl (E.d 0 0)) ?_
      refine QSeq.nil (t' := [_, _]) rfl ?_
      obtain rfl := HA0.out
      clear HA0 oe36
      simp only [pz, Act.put, sIB, sCZ, sCS]
      have HE := hid (show ontoM m n0 = ({ n0 with kd := m.kd, fr := m.fr, «to» := m.to, pm := m.pm } : Mg) by unfold ontoM; rw [if_neg (fun e => K1.out (HMK.out.symm.trans e)), if_neg (fun e => K2.out (HMK.out.symm.trans e)), if_neg (fun e => K3.out (HMK.out.symm.trans e)), if_neg (fun e => K4.out (HMK.out.symm.trans e)), if_neg (fun e => K5.out (HMK.out.symm.trans e)), if_pos (HMK.out.trans KK.out)])
      go_upto_region 20 with (fail)
      refine wp_region_U 164 [73, 74, 75, 167] [0, 1, 2, 3] (fun a0 HA0 => ?_)
      have oe3 := ev HA0 3 rfl
      have oe8 := ev HA0 8 rfl
      refine QSeq.pure rfl (.pointer (some ⟨w.heap.size, 157, none⟩)) (fun E => ex_field rfl Tryz.underlying61 rfl (by kernel_rfl) (E.v oe3)) ?_
      refine QSeq.pure rfl _ (fun E => ex_loadA rfl Tryz.underlying40 rfl (off := 157) (cs := (c10)) (by rw [HCm10.out]; kernel_rfl) (E.d 0 0) (Cs.seg (((HB3.out.mod Cx32.out (fun h => h)).mod Cx37.out (fun h => h)).mod Cx45.out (by intro h2; omega)) HLM.out 10 rfl rfl)) ?_
      refine QSeq.pure rfl (.pointer (some ⟨u4_3.heap.size, 157, none⟩)) (fun E => ex_field rfl Tryz.underlying61 rfl (by kernel_rfl) (E.v oe8)) ?_
      refine QSeq.go fun act E => ?_
      refine qc_store rfl (wanted_none rfl) rfl Hx44.out (off := 157) (vs := c10) (by rw [HCm10.out]; kernel_rfl) HOm10.out (by rw [List.size_toArray, flat_sum, (show (Mg.segs ({ n0 with kd := m.kd, fr := m.fr, «to» := m.to } : Mg) e5 e10 e11 e15 e18).map List.length = mgN from HLn.out)]; show 157 + _ ≤ 295; rw [HCm10.out]; decide) (E.d 2 0) (ec (E.d 1 1)) ?_
      intro u20_3 qc0 hm
      have qb8 := qc0.eqv (b := ((Mg.segs ({ n0 with kd := m.kd, fr := m.fr, «to» := m.to, pm := m.pm } : Mg) e5 c10 e11 e15 e18).flatten : List Value).toArray) ((lay_seg (show (Mg.segs ({ n0 with kd := m.kd, fr := m.fr, «to» := m.to } : Mg) e5 e10 e11 e15 e18).map List.length = mgN from HLn.out) 10 (by rw [HCm10.out]; rfl) rfl).trans rfl)
      clear qc0
      have Hx62 := hid qb8
      have zu20_3 := hm.size
      have Cx63 := hid (show Mod (fun k => (k = u4_3.heap.size)) u6_3 u20_3 from hm)
      clear hm
      clear act E qb8 Hx44
      refine QSeq.nil (t' := [_, _, _, _]) rfl ?_
      obtain rfl := HA0.out
      clear HA0 oe3 oe8
      simp only [pz, Act.put, sIB, sCZ, sCS, List.set_nil]
      have hpa := mg_pcs ((((HMM.out.mod Cx32.out (fun _ _ h => h)).mod Cx37.out (fun _ _ h => h)).mod Cx45.out (by intro k h1 h2; rcases h1 with h1 | h1 <;> first | omega | (have hb := HBT.out k h1; omega))).mod Cx63.out (by intro k h1 h2; rcases h1 with h1 | h1 <;> first | omega | (have hb := HBT.out k h1; omega))) HLM.out
      have hpb := mg_pcs (((((Hx22.out.mod Cx26.out (by intro k h1 h2; rcases h1 with h1 | h1 <;> first | omega | (have hb := HBT.out k h1; omega))).mod Cx32.out (fun _ _ h => h)).mod Cx37.out (fun _ _ h => h)).mod Cx45.out (by intro k h1 h2; rcases h1 with h1 | h1 <;> first | omega | (have hb := HBT.out k h1; omega))).mod Cx63.out (by intro k h1 h2; rcases h1 with h1 | h1 <;> first | omega | (have hb := HBT.out k h1; omega))) HLn.out
      have hrz : MgR.rd (fun k => (R2 k) ∨ (New u1_0 u1_1a k) ∨ (New u1_1 u1_2a k)) u20_3 ((Mg.segs ({ n0 with kd := m.kd, fr := m.fr, «to» := m.to, pm := m.pm } : Mg) e5 c10 e11 e15 e18).flatten) ({ n0 with kd := m.kd, fr := m.fr, «to» := m.to, pm := m.pm } : Mg) := ⟨_, _, _, _, _, rfl, { hpb.1 with kd := hpa.1.kd, fr := hpa.1.fr, «to» := hpa.1.to }, hpb.2.1.widen (by intro k h1; rcases h1 with h1 | h1 <;> first | omega | exact h1.elim | exact Or.inl h1 | exact Or.inr (Or.inl h1) | exact Or.inr (Or.inr (h1))), hpa.2.2.1.widen (by intro k h1; rcases h1 with h1 | h1 <;> first | omega | exact h1.elim | exact Or.inl h1 | exact Or.inr (Or.inl h1) | exact Or.inr (Or.inr (h1))), hpb.2.2.2.1.widen (by intro k h1; rcases h1 with h1 | h1 <;> first | omega | exact h1.elim | exact Or.inl h1 | exact Or.inr (Or.inl h1) | exact Or.inr (Or.inr (h1))), hpb.2.2.2.2.1.widen (by intro k h1; rcases h1 with h1 | h1 <;> first | omega | exact h1.elim | exact Or.inl h1 | exact Or.inr (Or.inl h1) | exact Or.inr (Or.inr (h1))), hpb.2.2.2.2.2.widen (by intro k h1; rcases h1 with h1 | h1 <;> first | omega | exact h1.elim | exact Or.inl h1 | exact Or.inr (Or.inl h1) | exact Or.inr (Or.inr (h1)))⟩
      have HRZ := Lib.hid hrz
      clear hpa hpb hrz
      go_wp2_with fail
      go_meet
      case rel => exact ⟨_, _, HE.out.symm, Hx62.out, HRZ.out, (hmz.out.trans Cx63.out (fun _ _ h => h))⟩
    have K6 := Lib.hid h6
    clear h6
    go_upto_region 19 with (fail)
    refine wp_region_U 164 [72, 71] [0, 1] (fun a0 HA0 => ?_)
    have oe36 := ev HA0 36 rfl
    refine QSeq.pure rfl (.bool false) (fun E => ex_binE rfl (E.v oe36) rfl (guard_ints _ _ _ _ _ _) (run_eql_i _ _ _ Tryz.underlying3) (congrArg Value.bool (eq_ff K6.out))) ?_
    refine QSeq.pure rfl _ (fun E => ex_assign rfl (E.d 0 0)) ?_
    refine QSeq.nil (t' := [_, _]) rfl ?_
    obtain rfl := HA0.out
    clear HA0 oe36
    simp only [pz, Act.put, sIB, sCZ, sCS]
    by_cases h7 : K = 7
    · have KK := Lib.hid h7
      clear h7
      go_upto_region 21 with (fail)
      refine wp_region_U 164 [77, 76] [0, 1] (fun a0 HA0 => ?_)
      have oe36 := ev HA0 36 rfl
      refine QSeq.pure rfl (.bool true) (fun E => ex_binE rfl (E.v oe36) rfl (guard_ints _ _ _ _ _ _) (run_eql_i _ _ _ Tryz.underlying3) (congrArg Value.bool (eq_tt KK.out))) ?_
      refine QSeq.pure rfl _ (fun E => ex_assign rfl (E.d 0 0)) ?_
      refine QSeq.nil (t' := [_, _]) rfl ?_
      obtain rfl := HA0.out
      clear HA0 oe36
      simp only [pz, Act.put, sIB, sCZ, sCS]
      have HE := hid (show ontoM m n0 = ({ n0 with kd := m.kd, fr := m.fr, «to» := m.to, pr := m.pr } : Mg) by unfold ontoM; rw [if_neg (fun e => K1.out (HMK.out.symm.trans e)), if_neg (fun e => K2.out (HMK.out.symm.trans e)), if_neg (fun e => K3.out (HMK.out.symm.trans e)), if_neg (fun e => K4.out (HMK.out.symm.trans e)), if_neg (fun e => K5.out (HMK.out.symm.trans e)), if_neg (fun e => K6.out (HMK.out.symm.trans e)), if_pos (HMK.out.trans KK.out)])
      go_upto_region 22 with (fail)
      refine wp_region_U 164 [78, 79, 80, 167] [0, 1, 2, 3] (fun a0 HA0 => ?_)
      have oe3 := ev HA0 3 rfl
      have oe8 := ev HA0 8 rfl
      refine QSeq.pure rfl (.pointer (some ⟨w.heap.size, 163, none⟩)) (fun E => ex_field rfl Tryz.underlying61 rfl (by kernel_rfl) (E.v oe3)) ?_
      refine QSeq.pure rfl _ (fun E => ex_loadA rfl Tryz.underlying47 rfl (off := 163) (cs := (c11)) (by rw [HCm11.out]; kernel_rfl) (E.d 0 0) (Cs.seg (((HB3.out.mod Cx32.out (fun h => h)).mod Cx37.out (fun h => h)).mod Cx45.out (by intro h2; omega)) HLM.out 11 rfl rfl)) ?_
      refine QSeq.pure rfl (.pointer (some ⟨u4_3.heap.size, 163, none⟩)) (fun E => ex_field rfl Tryz.underlying61 rfl (by kernel_rfl) (E.v oe8)) ?_
      refine QSeq.go fun act E => ?_
      refine qc_store rfl (wanted_none rfl) rfl Hx44.out (off := 163) (vs := c11) (by rw [HCm11.out]; kernel_rfl) HOm11.out (by rw [List.size_toArray, flat_sum, (show (Mg.segs ({ n0 with kd := m.kd, fr := m.fr, «to» := m.to } : Mg) e5 e10 e11 e15 e18).map List.length = mgN from HLn.out)]; show 163 + _ ≤ 295; rw [HCm11.out]; decide) (E.d 2 0) (ec (E.d 1 1)) ?_
      intro u22_3 qc0 hm
      have qb8 := qc0.eqv (b := ((Mg.segs ({ n0 with kd := m.kd, fr := m.fr, «to» := m.to, pr := m.pr } : Mg) e5 e10 c11 e15 e18).flatten : List Value).toArray) ((lay_seg (show (Mg.segs ({ n0 with kd := m.kd, fr := m.fr, «to» := m.to } : Mg) e5 e10 e11 e15 e18).map List.length = mgN from HLn.out) 11 (by rw [HCm11.out]; rfl) rfl).trans rfl)
      clear qc0
      have Hx64 := hid qb8
      have zu22_3 := hm.size
      have Cx65 := hid (show Mod (fun k => (k = u4_3.heap.size)) u6_3 u22_3 from hm)
      clear hm
      clear act E qb8 Hx44
      refine QSeq.nil (t' := [_, _, _, _]) rfl ?_
      obtain rfl := HA0.out
      clear HA0 oe3 oe8
      simp only [pz, Act.put, sIB, sCZ, sCS, List.set_nil]
      have hpa := mg_pcs ((((HMM.out.mod Cx32.out (fun _ _ h => h)).mod Cx37.out (fun _ _ h => h)).mod Cx45.out (by intro k h1 h2; rcases h1 with h1 | h1 <;> first | omega | (have hb := HBT.out k h1; omega))).mod Cx65.out (by intro k h1 h2; rcases h1 with h1 | h1 <;> first | omega | (have hb := HBT.out k h1; omega))) HLM.out
      have hpb := mg_pcs (((((Hx22.out.mod Cx26.out (by intro k h1 h2; rcases h1 with h1 | h1 <;> first | omega | (have hb := HBT.out k h1; omega))).mod Cx32.out (fun _ _ h => h)).mod Cx37.out (fun _ _ h => h)).mod Cx45.out (by intro k h1 h2; rcases h1 with h1 | h1 <;> first | omega | (have hb := HBT.out k h1; omega))).mod Cx65.out (by intro k h1 h2; rcases h1 with h1 | h1 <;> first | omega | (have hb := HBT.out k h1; omega))) HLn.out
      have hrz : MgR.rd (fun k => (R2 k) ∨ (New u1_0 u1_1a k) ∨ (New u1_1 u1_2a k)) u22_3 ((Mg.segs ({ n0 with kd := m.kd, fr := m.fr, «to» := m.to, pr := m.pr } : Mg) e5 e10 c11 e15 e18).flatten) ({ n0 with kd := m.kd, fr := m.fr, «to» := m.to, pr := m.pr } : Mg) := ⟨_, _, _, _, _, rfl, { hpb.1 with kd := hpa.1.kd, fr := hpa.1.fr, «to» := hpa.1.to }, hpb.2.1.widen (by intro k h1; rcases h1 with h1 | h1 <;> first | omega | exact h1.elim | exact Or.inl h1 | exact Or.inr (Or.inl h1) | exact Or.inr (Or.inr (h1))), hpb.2.2.1.widen (by intro k h1; rcases h1 with h1 | h1 <;> first | omega | exact h1.elim | exact Or.inl h1 | exact Or.inr (Or.inl h1) | exact Or.inr (Or.inr (h1))), hpa.2.2.2.1.widen (by intro k h1; rcases h1 with h1 | h1 <;> first | omega | exact h1.elim | exact Or.inl h1 | exact Or.inr (Or.inl h1) | exact Or.inr (Or.inr (h1))), hpb.2.2.2.2.1.widen (by intro k h1; rcases h1 with h1 | h1 <;> first | omega | exact h1.elim | exact Or.inl h1 | exact Or.inr (Or.inl h1) | exact Or.inr (Or.inr (h1))), hpb.2.2.2.2.2.widen (by intro k h1; rcases h1 with h1 | h1 <;> first | omega | exact h1.elim | exact Or.inl h1 | exact Or.inr (Or.inl h1) | exact Or.inr (Or.inr (h1)))⟩
      have HRZ := Lib.hid hrz
      clear hpa hpb hrz
      go_wp2_with fail
      go_meet
      case rel => exact ⟨_, _, HE.out.symm, Hx64.out, HRZ.out, (hmz.out.trans Cx65.out (fun _ _ h => h))⟩
    have K7 := Lib.hid h7
    clear h7
    go_upto_region 21 with (fail)
    refine wp_region_U 164 [77, 76] [0, 1] (fun a0 HA0 => ?_)
    have oe36 := ev HA0 36 rfl
    refine QSeq.pure rfl (.bool false) (fun E => ex_binE rfl (E.v oe36) rfl (guard_ints _ _ _ _ _ _) (run_eql_i _ _ _ Tryz.underlying3) (congrArg Value.bool (eq_ff K7.out))) ?_
    refine QSeq.pure rfl _ (fun E => ex_assign rfl (E.d 0 0)) ?_
    refine QSeq.nil (t' := [_, _]) rfl ?_
    obtain rfl := HA0.out
    clear HA0 oe36
    simp only [pz, Act.put, sIB, sCZ, sCS]
    by_cases h8 : K = 8
    · have KK := Lib.hid h8
      clear h8
      go_upto_region 23 with (fail)
      refine wp_region_U 164 [82, 81] [0, 1] (fun a0 HA0 => ?_)
      have oe36 := ev HA0 36 rfl
      refine QSeq.pure rfl (.bool true) (fun E => ex_binE rfl (E.v oe36) rfl (guard_ints _ _ _ _ _ _) (run_eql_i _ _ _ Tryz.underlying3) (congrArg Value.bool (eq_tt KK.out))) ?_
      refine QSeq.pure rfl _ (fun E => ex_assign rfl (E.d 0 0)) ?_
      refine QSeq.nil (t' := [_, _]) rfl ?_
      obtain rfl := HA0.out
      clear HA0 oe36
      simp only [pz, Act.put, sIB, sCZ, sCS]
      have HE := hid (show ontoM m n0 = ({ n0 with kd := m.kd, fr := m.fr, «to» := m.to, vt := m.vt } : Mg) by unfold ontoM; rw [if_neg (fun e => K1.out (HMK.out.symm.trans e)), if_neg (fun e => K2.out (HMK.out.symm.trans e)), if_neg (fun e => K3.out (HMK.out.symm.trans e)), if_neg (fun e => K4.out (HMK.out.symm.trans e)), if_neg (fun e => K5.out (HMK.out.symm.trans e)), if_neg (fun e => K6.out (HMK.out.symm.trans e)), if_neg (fun e => K7.out (HMK.out.symm.trans e)), if_pos (HMK.out.trans KK.out)])
      go_upto_region 24 with (fail)
      refine wp_region_U 164 [83, 84, 85, 167] [0, 1, 2, 3] (fun a0 HA0 => ?_)
      have oe3 := ev HA0 3 rfl
      have oe8 := ev HA0 8 rfl
      refine QSeq.pure rfl (.pointer (some ⟨w.heap.size, 174, none⟩)) (fun E => ex_field rfl Tryz.underlying61 rfl (by kernel_rfl) (E.v oe3)) ?_
      refine QSeq.pure rfl _ (fun E => ex_loadA rfl Tryz.underlying49 rfl (off := 174) (cs := (m.vt.cells)) (by rw [Vt.len HOm.out.vt]; kernel_rfl) (E.d 0 0) (Cs.seg (((HB3.out.mod Cx32.out (fun h => h)).mod Cx37.out (fun h => h)).mod Cx45.out (by intro h2; omega)) HLM.out 12 rfl rfl)) ?_
      refine QSeq.pure rfl (.pointer (some ⟨u4_3.heap.size, 174, none⟩)) (fun E => ex_field rfl Tryz.underlying61 rfl (by kernel_rfl) (E.v oe8)) ?_
      refine QSeq.go fun act E => ?_
      refine qc_store rfl (wanted_none rfl) rfl Hx44.out (off := 174) (vs := (m.vt.cells)) (by rw [Vt.len HOm.out.vt]; kernel_rfl) (Vt.one _) (by rw [List.size_toArray, flat_sum, (show (Mg.segs ({ n0 with kd := m.kd, fr := m.fr, «to» := m.to } : Mg) e5 e10 e11 e15 e18).map List.length = mgN from HLn.out)]; show 174 + _ ≤ 295; rw [Vt.len HOm.out.vt]; decide) (E.d 2 0) (ec (E.d 1 1)) ?_
      intro u24_3 qc0 hm
      have qb8 := qc0.eqv (b := ((Mg.segs ({ n0 with kd := m.kd, fr := m.fr, «to» := m.to, vt := m.vt } : Mg) e5 e10 e11 e15 e18).flatten : List Value).toArray) ((lay_seg (show (Mg.segs ({ n0 with kd := m.kd, fr := m.fr, «to» := m.to } : Mg) e5 e10 e11 e15 e18).map List.length = mgN from HLn.out) 12 (by rw [Vt.len HOm.out.vt]; rfl) rfl).trans rfl)
      clear qc0
      have Hx66 := hid qb8
      have zu24_3 := hm.size
      have Cx67 := hid (show Mod (fun k => (k = u4_3.heap.size)) u6_3 u24_3 from hm)
      clear hm
      clear act E qb8 Hx44
      refine QSeq.nil (t' := [_, _, _, _]) rfl ?_
      obtain rfl := HA0.out
      clear HA0 oe3 oe8
      simp only [pz, Act.put, sIB, sCZ, sCS, List.set_nil]
      have hpa := mg_pcs ((((HMM.out.mod Cx32.out (fun _ _ h => h)).mod Cx37.out (fun _ _ h => h)).mod Cx45.out (by intro k h1 h2; rcases h1 with h1 | h1 <;> first | omega | (have hb := HBT.out k h1; omega))).mod Cx67.out (by intro k h1 h2; rcases h1 with h1 | h1 <;> first | omega | (have hb := HBT.out k h1; omega))) HLM.out
      have hpb := mg_pcs (((((Hx22.out.mod Cx26.out (by intro k h1 h2; rcases h1 with h1 | h1 <;> first | omega | (have hb := HBT.out k h1; omega))).mod Cx32.out (fun _ _ h => h)).mod Cx37.out (fun _ _ h => h)).mod Cx45.out (by intro k h1 h2; rcases h1 with h1 | h1 <;> first | omega | (have hb := HBT.out k h1; omega))).mod Cx67.out (by intro k h1 h2; rcases h1 with h1 | h1 <;> first | omega | (have hb := HBT.out k h1; omega))) HLn.out
      have hrz : MgR.rd (fun k => (R2 k) ∨ (New u1_0 u1_1a k) ∨ (New u1_1 u1_2a k)) u24_3 ((Mg.segs ({ n0 with kd := m.kd, fr := m.fr, «to» := m.to, vt := m.vt } : Mg) e5 e10 e11 e15 e18).flatten) ({ n0 with kd := m.kd, fr := m.fr, «to» := m.to, vt := m.vt } : Mg) := ⟨_, _, _, _, _, rfl, { hpb.1 with kd := hpa.1.kd, fr := hpa.1.fr, «to» := hpa.1.to, vt := hpa.1.vt }, hpb.2.1.widen (by intro k h1; rcases h1 with h1 | h1 <;> first | omega | exact h1.elim | exact Or.inl h1 | exact Or.inr (Or.inl h1) | exact Or.inr (Or.inr (h1))), hpb.2.2.1.widen (by intro k h1; rcases h1 with h1 | h1 <;> first | omega | exact h1.elim | exact Or.inl h1 | exact Or.inr (Or.inl h1) | exact Or.inr (Or.inr (h1))), hpb.2.2.2.1.widen (by intro k h1; rcases h1 with h1 | h1 <;> first | omega | exact h1.elim | exact Or.inl h1 | exact Or.inr (Or.inl h1) | exact Or.inr (Or.inr (h1))), hpb.2.2.2.2.1.widen (by intro k h1; rcases h1 with h1 | h1 <;> first | omega | exact h1.elim | exact Or.inl h1 | exact Or.inr (Or.inl h1) | exact Or.inr (Or.inr (h1))), hpb.2.2.2.2.2.widen (by intro k h1; rcases h1 with h1 | h1 <;> first | omega | exact h1.elim | exact Or.inl h1 | exact Or.inr (Or.inl h1) | exact Or.inr (Or.inr (h1)))⟩
      have HRZ := Lib.hid hrz
      clear hpa hpb hrz
      go_wp2_with fail
      go_meet
      case rel => exact ⟨_, _, HE.out.symm, Hx66.out, HRZ.out, (hmz.out.trans Cx67.out (fun _ _ h => h))⟩
    have K8 := Lib.hid h8
    clear h8
    go_upto_region 23 with (fail)
    refine wp_region_U 164 [82, 81] [0, 1] (fun a0 HA0 => ?_)
    have oe36 := ev HA0 36 rfl
    refine QSeq.pure rfl (.bool false) (fun E => ex_binE rfl (E.v oe36) rfl (guard_ints _ _ _ _ _ _) (run_eql_i _ _ _ Tryz.underlying3) (congrArg Value.bool (eq_ff K8.out))) ?_
    refine QSeq.pure rfl _ (fun E => ex_assign rfl (E.d 0 0)) ?_
    refine QSeq.nil (t' := [_, _]) rfl ?_
    obtain rfl := HA0.out
    clear HA0 oe36
    simp only [pz, Act.put, sIB, sCZ, sCS]
    by_cases h9 : K = 9
    · have KK := Lib.hid h9
      clear h9
      go_upto_region 25 with (fail)
      refine wp_region_U 164 [87, 86] [0, 1] (fun a0 HA0 => ?_)
      have oe36 := ev HA0 36 rfl
      refine QSeq.pure rfl (.bool true) (fun E => ex_binE rfl (E.v oe36) rfl (guard_ints _ _ _ _ _ _) (run_eql_i _ _ _ Tryz.underlying3) (congrArg Value.bool (eq_tt KK.out))) ?_
      refine QSeq.pure rfl _ (fun E => ex_assign rfl (E.d 0 0)) ?_
      refine QSeq.nil (t' := [_, _]) rfl ?_
      obtain rfl := HA0.out
      clear HA0 oe36
      simp only [pz, Act.put, sIB, sCZ, sCS]
      have HE := hid (show ontoM m n0 = ({ n0 with kd := m.kd, fr := m.fr, «to» := m.to, ix := m.ix, en := m.en } : Mg) by unfold ontoM; rw [if_neg (fun e => K1.out (HMK.out.symm.trans e)), if_neg (fun e => K2.out (HMK.out.symm.trans e)), if_neg (fun e => K3.out (HMK.out.symm.trans e)), if_neg (fun e => K4.out (HMK.out.symm.trans e)), if_neg (fun e => K5.out (HMK.out.symm.trans e)), if_neg (fun e => K6.out (HMK.out.symm.trans e)), if_neg (fun e => K7.out (HMK.out.symm.trans e)), if_neg (fun e => K8.out (HMK.out.symm.trans e)), if_pos (HMK.out.trans KK.out)])
      go_upto_region 26 with (fail)
      generalize ha0 : Act.mk _ _ = a0
      have oe3 : a0.eval (.tmp 3) = .pointer (some ⟨w.heap.size, 0, none⟩) := by rw [← ha0]; rfl
      have oe8 : a0.eval (.tmp 8) = .pointer (some ⟨u4_3.heap.size, 0, none⟩) := by rw [← ha0]; rfl
      have hsz0 : a0.tmps.size = 164 := by rw [← ha0]; rfl
      have HA0 := hid ha0
      clear ha0
      refine wp_region_Q1 164 hsz0 [88, 89, 90, 91, 92, 169, 93, 171] (fun k => (k = u4_3.heap.size)) (fun k j => (k = 0 ∧ ((j = u4_3.heap.size))) ∨ (k = 1 ∧ ((j = u4_3.heap.size)))) (by intro k j h; (try dsimp only at h ⊢); omega) [qi (.pointer (some ⟨w.heap.size, 212, none⟩)), qi (.int .i64 m.ix), qi (.pointer (some ⟨w.heap.size, 213, none⟩)), qi (.agg (m.en.cells).toArray), qi (.pointer (some ⟨u4_3.heap.size, 212, none⟩)), qv 0, qi (.pointer (some ⟨u4_3.heap.size, 213, none⟩)), qv 1] ⟨qi_stable, qi_stable, qi_stable, qi_stable, qi_stable, qv_stable, qi_stable, qv_stable, trivial⟩ [5, 7] ⟨?_, ?_, ?_, ?_, ?_, ?_, ?_, ?_, trivial⟩ ?_
      · exact stq (fun E => ex_field rfl Tryz.underlying61 rfl (by kernel_rfl) (E.v oe3))
      · exact stq (fun E => ex_load1 rfl Tryz.underlying3 rfl (E.d 0) (Cs.seg1 ((((HB3.out.mod Cx32.out (fun h => h)).mod Cx37.out (fun h => h)).mod Cx45.out (by intro h2; omega)).mod E.m (by intro h2; omega)) HLM.out 13 rfl (o := 212) (k := 0) rfl rfl rfl))
      · exact stq (fun E => ex_field rfl Tryz.underlying61 rfl (by kernel_rfl) (E.v oe3))
      · exact stq (fun E => ex_loadA rfl Tryz.underlying51 rfl (off := 213) (cs := (m.en.cells)) (by rw [En.len HOm.out.en]; kernel_rfl) (E.d 2) (Cs.seg ((((HB3.out.mod Cx32.out (fun h => h)).mod Cx37.out (fun h => h)).mod Cx45.out (by intro h2; omega)).mod E.m (by intro h2; omega)) HLM.out 14 rfl rfl))
      · exact stq (fun E => ex_field rfl Tryz.underlying61 rfl (by kernel_rfl) (E.v oe8))
      · exact stepq_chain rfl
      · exact stq (fun E => ex_field rfl Tryz.underlying61 rfl (by kernel_rfl) (E.v oe8))
      · exact stepq_chain rfl
      intro u26_0 hr
      have zu26_0 := hr.size
      have Cx68 := hid (hr.new (S := (fun k => (k = u4_3.heap.size))))
      have Hx69 := hid (Hx44.out.mod hr (by intro h2; omega))
      clear Hx44
      clear hr
      refine QChain.go fun Z act E => ?_
      refine qc_store rfl (wanted_none rfl) rfl Hx69.out (off := 212) (vs := [.int .i64 m.ix]) (by kernel_rfl) one1 (by rw [List.size_toArray, flat_sum, (show (Mg.segs ({ n0 with kd := m.kd, fr := m.fr, «to» := m.to } : Mg) e5 e10 e11 e15 e18).map List.length = mgN from HLn.out)]; show 212 + 1 ≤ 295; decide) (E.d 4) (ec (E.d 1)) ?_
      intro u26_1a qc0 hm
      have qb8 := qc0.eqv (b := ((Mg.segs ({ n0 with kd := m.kd, fr := m.fr, «to» := m.to, ix := m.ix } : Mg) e5 e10 e11 e15 e18).flatten : List Value).toArray) ((lay_seg (show (Mg.segs ({ n0 with kd := m.kd, fr := m.fr, «to» := m.to } : Mg) e5 e10 e11 e15 e18).map List.length = mgN from HLn.out) 13 (rfl) rfl).trans rfl)
      clear qc0
      have zu26_1a := hm.size
      refine ⟨hm.mono (by intro k hk h; omega), (fun _ => rfl), ?_⟩
      intro u26_1 hr
      have zu26_1 := hr.size
      have Hx70 := hid (qb8.mod hr (by intro h2; omega))
      have Cx71 := hid (Cx68.out.goM hm hr (fun _ _ h => h))
      clear Cx68 hm hr Z act E qb8 Hx69
      refine QChain.go fun Z act E => ?_
      refine qc_store rfl (wanted_none rfl) rfl Hx70.out (off := 213) (vs := (m.en.cells)) (by rw [En.len HOm.out.en]; kernel_rfl) (En.one _) (by rw [List.size_toArray, flat_sum, (show (Mg.segs ({ n0 with kd := m.kd, fr := m.fr, «to» := m.to, ix := m.ix } : Mg) e5 e10 e11 e15 e18).map List.length = mgN from HLn.out)]; show 213 + _ ≤ 295; rw [En.len HOm.out.en]; decide) (E.d 6) (ec (E.d 3)) ?_
      intro u26_2a qc0 hm
      have qb8 := qc0.eqv (b := ((Mg.segs ({ n0 with kd := m.kd, fr := m.fr, «to» := m.to, ix := m.ix, en := m.en } : Mg) e5 e10 e11 e15 e18).flatten : List Value).toArray) ((lay_seg (show (Mg.segs ({ n0 with kd := m.kd, fr := m.fr, «to» := m.to, ix := m.ix } : Mg) e5 e10 e11 e15 e18).map List.length = mgN from HLn.out) 14 (by rw [En.len HOm.out.en]; rfl) rfl).trans rfl)
      clear qc0
      have zu26_2a := hm.size
      refine ⟨hm.mono (by intro k hk h; omega), (fun _ => rfl), ?_⟩
      intro u26_2 hr
      have zu26_2 := hr.size
      have Hx72 := hid (qb8.mod hr (by intro h2; omega))
      have Cx73 := hid (Cx71.out.goM hm hr (fun _ _ h => h))
      clear Cx71 hm hr Z act E qb8 Hx70
      refine QChain.nil fun vs hl hzz hrows hne => ?_
      obtain ⟨Z, hYZ, hZb, hV⟩ := hzz
      rw [show vs = [gw vs 0, gw vs 1, gw vs 2, gw vs 3, gw vs 4, gw vs 5, gw vs 6, gw vs 7] from (gw_eta hl).trans rfl]
      have ha0 := HA0.out
      subst ha0
      clear HA0 hV hYZ hZb hsz0 hrows hne oe3 oe8
      simp only [putAll, Act.put, sIB, sCZ, sCS, List.set_nil]
      clear hl
      have hpa := mg_pcs ((((HMM.out.mod Cx32.out (fun _ _ h => h)).mod Cx37.out (fun _ _ h => h)).mod Cx45.out (by intro k h1 h2; rcases h1 with h1 | h1 <;> first | omega | (have hb := HBT.out k h1; omega))).mod Cx73.out (by intro k h1 h2; rcases h1 with h1 | h1 <;> first | omega | (have hb := HBT.out k h1; omega))) HLM.out
      have hpb := mg_pcs (((((Hx22.out.mod Cx26.out (by intro k h1 h2; rcases h1 with h1 | h1 <;> first | omega | (have hb := HBT.out k h1; omega))).mod Cx32.out (fun _ _ h => h)).mod Cx37.out (fun _ _ h => h)).mod Cx45.out (by intro k h1 h2; rcases h1 with h1 | h1 <;> first | omega | (have hb := HBT.out k h1; omega))).mod Cx73.out (by intro k h1 h2; rcases h1 with h1 | h1 <;> first | omega | (have hb := HBT.out k h1; omega))) HLn.out
      have hrz : MgR.rd (fun k => (R2 k) ∨ (New u1_0 u1_1a k) ∨ (New u1_1 u1_2a k)) u26_2 ((Mg.segs ({ n0 with kd := m.kd, fr := m.fr, «to» := m.to, ix := m.ix, en := m.en } : Mg) e5 e10 e11 e15 e18).flatten) ({ n0 with kd := m.kd, fr := m.fr, «to» := m.to, ix := m.ix, en := m.en } : Mg) := ⟨_, _, _, _, _, rfl, { hpb.1 with kd := hpa.1.kd, fr := hpa.1.fr, «to» := hpa.1.to, ix := hpa.1.ix, en := hpa.1.en }, hpb.2.1.widen (by intro k h1; rcases h1 with h1 | h1 <;> first | omega | exact h1.elim | exact Or.inl h1 | exact Or.inr (Or.inl h1) | exact Or.inr (Or.inr (h1))), hpb.2.2.1.widen (by intro k h1; rcases h1 with h1 | h1 <;> first | omega | exact h1.elim | exact Or.inl h1 | exact Or.inr (Or.inl h1) | exact Or.inr (Or.inr (h1))), hpb.2.2.2.1.widen (by intro k h1; rcases h1 with h1 | h1 <;> first | omega | exact h1.elim | exact Or.inl h1 | exact Or.inr (Or.inl h1) | exact Or.inr (Or.inr (h1))), hpb.2.2.2.2.1.widen (by intro k h1; rcases h1 with h1 | h1 <;> first | omega | exact h1.elim | exact Or.inl h1 | exact Or.inr (Or.inl h1) | exact Or.inr (Or.inr (h1))), hpb.2.2.2.2.2.widen (by intro k h1; rcases h1 with h1 | h1 <;> first | omega | exact h1.elim | exact Or.inl h1 | exact Or.inr (Or.inl h1) | exact Or.inr (Or.inr (h1)))⟩
      have HRZ := Lib.hid hrz
      clear hpa hpb hrz
      go_wp2_with fail
      go_meet
      case rel => exact ⟨_, _, HE.out.symm, Hx72.out, HRZ.out, (hmz.out.trans Cx73.out (fun _ _ h => h))⟩
    have K9 := Lib.hid h9
    clear h9
    go_upto_region 25 with (fail)
    refine wp_region_U 164 [87, 86] [0, 1] (fun a0 HA0 => ?_)
    have oe36 := ev HA0 36 rfl
    refine QSeq.pure rfl (.bool false) (fun E => ex_binE rfl (E.v oe36) rfl (guard_ints _ _ _ _ _ _) (run_eql_i _ _ _ Tryz.underlying3) (congrArg Value.bool (eq_ff K9.out))) ?_
    refine QSeq.pure rfl _ (fun E => ex_assign rfl (E.d 0 0)) ?_
    refine QSeq.nil (t' := [_, _]) rfl ?_
    obtain rfl := HA0.out
    clear HA0 oe36
    simp only [pz, Act.put, sIB, sCZ, sCS]
    by_cases h10 : K = 10
    · have KK := Lib.hid h10
      clear h10
      go_upto_region 27 with (fail)
      refine wp_region_U 164 [95, 94] [0, 1] (fun a0 HA0 => ?_)
      have oe36 := ev HA0 36 rfl
      refine QSeq.pure rfl (.bool true) (fun E => ex_binE rfl (E.v oe36) rfl (guard_ints _ _ _ _ _ _) (run_eql_i _ _ _ Tryz.underlying3) (congrArg Value.bool (eq_tt KK.out))) ?_
      refine QSeq.pure rfl _ (fun E => ex_assign rfl (E.d 0 0)) ?_
      refine QSeq.nil (t' := [_, _]) rfl ?_
      obtain rfl := HA0.out
      clear HA0 oe36
      simp only [pz, Act.put, sIB, sCZ, sCS]
      have HE := hid (show ontoM m n0 = ({ n0 with kd := m.kd, fr := m.fr, «to» := m.to, op := m.op } : Mg) by unfold ontoM; rw [if_neg (fun e => K1.out (HMK.out.symm.trans e)), if_neg (fun e => K2.out (HMK.out.symm.trans e)), if_neg (fun e => K3.out (HMK.out.symm.trans e)), if_neg (fun e => K4.out (HMK.out.symm.trans e)), if_neg (fun e => K5.out (HMK.out.symm.trans e)), if_neg (fun e => K6.out (HMK.out.symm.trans e)), if_neg (fun e => K7.out (HMK.out.symm.trans e)), if_neg (fun e => K8.out (HMK.out.symm.trans e)), if_neg (fun e => K9.out (HMK.out.symm.trans e)), if_pos (HMK.out.trans KK.out)])
      go_upto_region 28 with (fail)
      refine wp_region_U 164 [96, 97, 98, 167] [0, 1, 2, 3] (fun a0 HA0 => ?_)
      have oe3 := ev HA0 3 rfl
      have oe8 := ev HA0 8 rfl
      refine QSeq.pure rfl (.pointer (some ⟨w.heap.size, 248, none⟩)) (fun E => ex_field rfl Tryz.underlying61 rfl (by kernel_rfl) (E.v oe3)) ?_
      refine QSeq.pure rfl _ (fun E => ex_loadA rfl Tryz.underlying54 rfl (off := 248) (cs := (c15)) (by rw [HCm15.out]; kernel_rfl) (E.d 0 0) (Cs.seg (((HB3.out.mod Cx32.out (fun h => h)).mod Cx37.out (fun h => h)).mod Cx45.out (by intro h2; omega)) HLM.out 15 rfl rfl)) ?_
      refine QSeq.pure rfl (.pointer (some ⟨u4_3.heap.size, 248, none⟩)) (fun E => ex_field rfl Tryz.underlying61 rfl (by kernel_rfl) (E.v oe8)) ?_
      refine QSeq.go fun act E => ?_
      refine qc_store rfl (wanted_none rfl) rfl Hx44.out (off := 248) (vs := c15) (by rw [HCm15.out]; kernel_rfl) HOm15.out (by rw [List.size_toArray, flat_sum, (show (Mg.segs ({ n0 with kd := m.kd, fr := m.fr, «to» := m.to } : Mg) e5 e10 e11 e15 e18).map List.length = mgN from HLn.out)]; show 248 + _ ≤ 295; rw [HCm15.out]; decide) (E.d 2 0) (ec (E.d 1 1)) ?_
      intro u28_3 qc0 hm
      have qb8 := qc0.eqv (b := ((Mg.segs ({ n0 with kd := m.kd, fr := m.fr, «to» := m.to, op := m.op } : Mg) e5 e10 e11 c15 e18).flatten : List Value).toArray) ((lay_seg (show (Mg.segs ({ n0 with kd := m.kd, fr := m.fr, «to» := m.to } : Mg) e5 e10 e11 e15 e18).map List.length = mgN from HLn.out) 15 (by rw [HCm15.out]; rfl) rfl).trans rfl)
      clear qc0
      have Hx74 := hid qb8
      have zu28_3 := hm.size
      have Cx75 := hid (show Mod (fun k => (k = u4_3.heap.size)) u6_3 u28_3 from hm)
      clear hm
      clear act E qb8 Hx44
      refine QSeq.nil (t' := [_, _, _, _]) rfl ?_
      obtain rfl := HA0.out
      clear HA0 oe3 oe8
      simp only [pz, Act.put, sIB, sCZ, sCS, List.set_nil]
      have hpa := mg_pcs ((((HMM.out.mod Cx32.out (fun _ _ h => h)).mod Cx37.out (fun _ _ h => h)).mod Cx45.out (by intro k h1 h2; rcases h1 with h1 | h1 <;> first | omega | (have hb := HBT.out k h1; omega))).mod Cx75.out (by intro k h1 h2; rcases h1 with h1 | h1 <;> first | omega | (have hb := HBT.out k h1; omega))) HLM.out
      have hpb := mg_pcs (((((Hx22.out.mod Cx26.out (by intro k h1 h2; rcases h1 with h1 | h1 <;> first | omega | (have hb := HBT.out k h1; omega))).mod Cx32.out (fun _ _ h => h)).mod Cx37.out (fun _ _ h => h)).mod Cx45.out (by intro k h1 h2; rcases h1 with h1 | h1 <;> first | omega | (have hb := HBT.out k h1; omega))).mod Cx75.out (by intro k h1 h2; rcases h1 with h1 | h1 <;> first | omega | (have hb := HBT.out k h1; omega))) HLn.out
      have hrz : MgR.rd (fun k => (R2 k) ∨ (New u1_0 u1_1a k) ∨ (New u1_1 u1_2a k)) u28_3 ((Mg.segs ({ n0 with kd := m.kd, fr := m.fr, «to» := m.to, op := m.op } : Mg) e5 e10 e11 c15 e18).flatten) ({ n0 with kd := m.kd, fr := m.fr, «to» := m.to, op := m.op } : Mg) := ⟨_, _, _, _, _, rfl, { hpb.1 with kd := hpa.1.kd, fr := hpa.1.fr, «to» := hpa.1.to }, hpb.2.1.widen (by intro k h1; rcases h1 with h1 | h1 <;> first | omega | exact h1.elim | exact Or.inl h1 | exact Or.inr (Or.inl h1) | exact Or.inr (Or.inr (h1))), hpb.2.2.1.widen (by intro k h1; rcases h1 with h1 | h1 <;> first | omega | exact h1.elim | exact Or.inl h1 | exact Or.inr (Or.inl h1) | exact Or.inr (Or.inr (h1))), hpb.2.2.2.1.widen (by intro k h1; rcases h1 with h1 | h1 <;> first | omega | exact h1.elim | exact Or.inl h1 | exact Or.inr (Or.inl h1) | exact Or.inr (Or.inr (h1))), hpa.2.2.2.2.1.widen (by intro k h1; rcases h1 with h1 | h1 <;> first | omega | exact h1.elim | exact Or.inl h1 | exact Or.inr (Or.inl h1) | exact Or.inr (Or.inr (h1))), hpb.2.2.2.2.2.widen (by intro k h1; rcases h1 with h1 | h1 <;> first | omega | exact h1.elim | exact Or.inl h1 | exact Or.inr (Or.inl h1) | exact Or.inr (Or.inr (h1)))⟩
      have HRZ := Lib.hid hrz
      clear hpa hpb hrz
      go_wp2_with fail
      go_meet
      case rel => exact ⟨_, _, HE.out.symm, Hx74.out, HRZ.out, (hmz.out.trans Cx75.out (fun _ _ h => h))⟩
    have K10 := Lib.hid h10
    clear h10
    go_upto_region 27 with (fail)
    refine wp_region_U 164 [95, 94] [0, 1] (fun a0 HA0 => ?_)
    have oe36 := ev HA0 36 rfl
    refine QSeq.pure rfl (.bool false) (fun E => ex_binE rfl (E.v oe36) rfl (guard_ints _ _ _ _ _ _) (run_eql_i _ _ _ Tryz.underlying3) (congrArg Value.bool (eq_ff K10.out))) ?_
    refine QSeq.pure rfl _ (fun E => ex_assign rfl (E.d 0 0)) ?_
    refine QSeq.nil (t' := [_, _]) rfl ?_
    obtain rfl := HA0.out
    clear HA0 oe36
    simp only [pz, Act.put, sIB, sCZ, sCS]
    by_cases h11 : K = 11
    · have KK := Lib.hid h11
      clear h11
      go_upto_region 29 with (fail)
      refine wp_region_U 164 [100, 99] [0, 1] (fun a0 HA0 => ?_)
      have oe36 := ev HA0 36 rfl
      refine QSeq.pure rfl (.bool true) (fun E => ex_binE rfl (E.v oe36) rfl (guard_ints _ _ _ _ _ _) (run_eql_i _ _ _ Tryz.underlying3) (congrArg Value.bool (eq_tt KK.out))) ?_
      refine QSeq.pure rfl _ (fun E => ex_assign rfl (E.d 0 0)) ?_
      refine QSeq.nil (t' := [_, _]) rfl ?_
      obtain rfl := HA0.out
      clear HA0 oe36
      simp only [pz, Act.put, sIB, sCZ, sCS]
      have HE := hid (show ontoM m n0 = ({ n0 with kd := m.kd, fr := m.fr, «to» := m.to, ix := m.ix } : Mg) by unfold ontoM; rw [if_neg (fun e => K1.out (HMK.out.symm.trans e)), if_neg (fun e => K2.out (HMK.out.symm.trans e)), if_neg (fun e => K3.out (HMK.out.symm.trans e)), if_neg (fun e => K4.out (HMK.out.symm.trans e)), if_neg (fun e => K5.out (HMK.out.symm.trans e)), if_neg (fun e => K6.out (HMK.out.symm.trans e)), if_neg (fun e => K7.out (HMK.out.symm.trans e)), if_neg (fun e => K8.out (HMK.out.symm.trans e)), if_neg (fun e => K9.out (HMK.out.symm.trans e)), if_neg (fun e => K10.out (HMK.out.symm.trans e)), if_pos (HMK.out.trans KK.out)])
      go_upto_region 30 with (fail)
      refine wp_region_U 164 [101, 102, 103, 167] [0, 1, 2, 3] (fun a0 HA0 => ?_)
      have oe3 := ev HA0 3 rfl
      have oe8 := ev HA0 8 rfl
      refine QSeq.pure rfl (.pointer (some ⟨w.heap.size, 212, none⟩)) (fun E => ex_field rfl Tryz.underlying61 rfl (by kernel_rfl) (E.v oe3)) ?_
      refine QSeq.pure rfl (.int .i64 m.ix) (fun E => ex_load1 rfl Tryz.underlying3 rfl (E.d 0 0) (Cs.seg1 (((HB3.out.mod Cx32.out (fun h => h)).mod Cx37.out (fun h => h)).mod Cx45.out (by intro h2; omega)) HLM.out 13 rfl (o := 212) (k := 0) rfl rfl rfl)) ?_
      refine QSeq.pure rfl (.pointer (some ⟨u4_3.heap.size, 212, none⟩)) (fun E => ex_field rfl Tryz.underlying61 rfl (by kernel_rfl) (E.v oe8)) ?_
      refine QSeq.go fun act E => ?_
      refine qc_store rfl (wanted_none rfl) rfl Hx44.out (off := 212) (vs := [.int .i64 m.ix]) (by kernel_rfl) one1 (by rw [List.size_toArray, flat_sum, (show (Mg.segs ({ n0 with kd := m.kd, fr := m.fr, «to» := m.to } : Mg) e5 e10 e11 e15 e18).map List.length = mgN from HLn.out)]; show 212 + 1 ≤ 295; decide) (E.d 2 0) (ec (E.d 1 1)) ?_
      intro u30_3 qc0 hm
      have qb8 := qc0.eqv (b := ((Mg.segs ({ n0 with kd := m.kd, fr := m.fr, «to» := m.to, ix := m.ix } : Mg) e5 e10 e11 e15 e18).flatten : List Value).toArray) ((lay_seg (show (Mg.segs ({ n0 with kd := m.kd, fr := m.fr, «to» := m.to } : Mg) e5 e10 e11 e15 e18).map List.length = mgN from HLn.out) 13 (rfl) rfl).trans rfl)
      clear qc0
      have Hx76 := hid qb8
      have zu30_3 := hm.size
      have Cx77 := hid (show Mod (fun k => (k = u4_3.heap.size)) u6_3 u30_3 from hm)
      clear hm
      clear act E qb8 Hx44
      refine QSeq.nil (t' := [_, _, _, _]) rfl ?_
      obtain rfl := HA0.out
      clear HA0 oe3 oe8
      simp only [pz, Act.put, sIB, sCZ, sCS, List.set_nil]
      have hpa := mg_pcs ((((HMM.out.mod Cx32.out (fun _ _ h => h)).mod Cx37.out (fun _ _ h => h)).mod Cx45.out (by intro k h1 h2; rcases h1 with h1 | h1 <;> first | omega | (have hb := HBT.out k h1; omega))).mod Cx77.out (by intro k h1 h2; rcases h1 with h1 | h1 <;> first | omega | (have hb := HBT.out k h1; omega))) HLM.out
      have hpb := mg_pcs (((((Hx22.out.mod Cx26.out (by intro k h1 h2; rcases h1 with h1 | h1 <;> first | omega | (have hb := HBT.out k h1; omega))).mod Cx32.out (fun _ _ h => h)).mod Cx37.out (fun _ _ h => h)).mod Cx45.out (by intro k h1 h2; rcases h1 with h1 | h1 <;> first | omega | (have hb := HBT.out k h1; omega))).mod Cx77.out (by intro k h1 h2; rcases h1 with h1 | h1 <;> first | omega | (have hb := HBT.out k h1; omega))) HLn.out
      have hrz : MgR.rd (fun k => (R2 k) ∨ (New u1_0 u1_1a k) ∨ (New u1_1 u1_2a k)) u30_3 ((Mg.segs ({ n0 with kd := m.kd, fr := m.fr, «to» := m.to, ix := m.ix } : Mg) e5 e10 e11 e15 e18).flatten) ({ n0 with kd := m.kd, fr := m.fr, «to» := m.to, ix := m.ix } : Mg) := ⟨_, _, _, _, _, rfl, { hpb.1 with kd := hpa.1.kd, fr := hpa.1.fr, «to» := hpa.1.to, ix := hpa.1.ix }, hpb.2.1.widen (by intro k h1; rcases h1 with h1 | h1 <;> first | omega | exact h1.elim | exact Or.inl h1 | exact Or.inr (Or.inl h1) | exact Or.inr (Or.inr (h1))), hpb.2.2.1.widen (by intro k h1; rcases h1 with h1 | h1 <;> first | omega | exact h1.elim | exact Or.inl h1 | exact Or.inr (Or.inl h1) | exact Or.inr (Or.inr (h1))), hpb.2.2.2.1.widen (by intro k h1; rcases h1 with h1 | h1 <;> first | omega | exact h1.elim | exact Or.inl h1 | exact Or.inr (Or.inl h1) | exact Or.inr (Or.inr (h1))), hpb.2.2.2.2.1.widen (by intro k h1; rcases h1 with h1 | h1 <;> first | omega | exact h1.elim | exact Or.inl h1 | exact Or.inr (Or.inl h1) | exact Or.inr (Or.inr (h1))), hpb.2.2.2.2.2.widen (by intro k h1; rcases h1 with h1 | h1 <;> first | omega | exact h1.elim | exact Or.inl h1 | exact Or.inr (Or.inl h1) | exact Or.inr (Or.inr (h1)))⟩
      have HRZ := Lib.hid hrz
      clear hpa hpb hrz
      go_wp2_with fail
      go_meet
      case rel => exact ⟨_, _, HE.out.symm, Hx76.out, HRZ.out, (hmz.out.trans Cx77.out (fun _ _ h => h))⟩
    have K11 := Lib.hid h11
    clear h11
    go_upto_region 29 with (fail)
    refine wp_region_U 164 [100, 99] [0, 1] (fun a0 HA0 => ?_)
    have oe36 := ev HA0 36 rfl
    refine QSeq.pure rfl (.bool false) (fun E => ex_binE rfl (E.v oe36) rfl (guard_ints _ _ _ _ _ _) (run_eql_i _ _ _ Tryz.underlying3) (congrArg Value.bool (eq_ff K11.out))) ?_
    refine QSeq.pure rfl _ (fun E => ex_assign rfl (E.d 0 0)) ?_
    refine QSeq.nil (t' := [_, _]) rfl ?_
    obtain rfl := HA0.out
    clear HA0 oe36
    simp only [pz, Act.put, sIB, sCZ, sCS]
    by_cases h12 : K = 12
    · have KK := Lib.hid h12
      clear h12
      go_upto_region 31 with (fail)
      refine wp_region_U 164 [105, 104] [0, 1] (fun a0 HA0 => ?_)
      have oe36 := ev HA0 36 rfl
      refine QSeq.pure rfl (.bool true) (fun E => ex_binE rfl (E.v oe36) rfl (guard_ints _ _ _ _ _ _) (run_eql_i _ _ _ Tryz.underlying3) (congrArg Value.bool (eq_tt KK.out))) ?_
      refine QSeq.pure rfl _ (fun E => ex_assign rfl (E.d 0 0)) ?_
      refine QSeq.nil (t' := [_, _]) rfl ?_
      obtain rfl := HA0.out
      clear HA0 oe36
      simp only [pz, Act.put, sIB, sCZ, sCS]
      have HE := hid (show ontoM m n0 = ({ n0 with kd := m.kd, fr := m.fr, «to» := m.to, dn := m.dn } : Mg) by unfold ontoM; rw [if_neg (fun e => K1.out (HMK.out.symm.trans e)), if_neg (fun e => K2.out (HMK.out.symm.trans e)), if_neg (fun e => K3.out (HMK.out.symm.trans e)), if_neg (fun e => K4.out (HMK.out.symm.trans e)), if_neg (fun e => K5.out (HMK.out.symm.trans e)), if_neg (fun e => K6.out (HMK.out.symm.trans e)), if_neg (fun e => K7.out (HMK.out.symm.trans e)), if_neg (fun e => K8.out (HMK.out.symm.trans e)), if_neg (fun e => K9.out (HMK.out.symm.trans e)), if_neg (fun e => K10.out (HMK.out.symm.trans e)), if_neg (fun e => K11.out (HMK.out.symm.trans e)), if_pos (HMK.out.trans KK.out)])
      go_upto_region 32 with (fail)
      refine wp_region_U 164 [106, 107, 108, 167] [0, 1, 2, 3] (fun a0 HA0 => ?_)
      have oe3 := ev HA0 3 rfl
      have oe8 := ev HA0 8 rfl
      refine QSeq.pure rfl (.pointer (some ⟨w.heap.size, 282, none⟩)) (fun E => ex_field rfl Tryz.underlying61 rfl (by kernel_rfl) (E.v oe3)) ?_
      refine QSeq.pure rfl _ (fun E => ex_loadA rfl Tryz.underlying56 rfl (off := 282) (cs := (m.dn.cells)) (by kernel_rfl) (E.d 0 0) (Cs.seg (((HB3.out.mod Cx32.out (fun h => h)).mod Cx37.out (fun h => h)).mod Cx45.out (by intro h2; omega)) HLM.out 16 rfl rfl)) ?_
      refine QSeq.pure rfl (.pointer (some ⟨u4_3.heap.size, 282, none⟩)) (fun E => ex_field rfl Tryz.underlying61 rfl (by kernel_rfl) (E.v oe8)) ?_
      refine QSeq.go fun act E => ?_
      refine qc_store rfl (wanted_none rfl) rfl Hx44.out (off := 282) (vs := (m.dn.cells)) (by kernel_rfl) (Dn.one _) (by rw [List.size_toArray, flat_sum, (show (Mg.segs ({ n0 with kd := m.kd, fr := m.fr, «to» := m.to } : Mg) e5 e10 e11 e15 e18).map List.length = mgN from HLn.out)]; show 282 + 4 ≤ 295; decide) (E.d 2 0) (ec (E.d 1 1)) ?_
      intro u32_3 qc0 hm
      have qb8 := qc0.eqv (b := ((Mg.segs ({ n0 with kd := m.kd, fr := m.fr, «to» := m.to, dn := m.dn } : Mg) e5 e10 e11 e15 e18).flatten : List Value).toArray) ((lay_seg (show (Mg.segs ({ n0 with kd := m.kd, fr := m.fr, «to» := m.to } : Mg) e5 e10 e11 e15 e18).map List.length = mgN from HLn.out) 16 (rfl) rfl).trans rfl)
      clear qc0
      have Hx78 := hid qb8
      have zu32_3 := hm.size
      have Cx79 := hid (show Mod (fun k => (k = u4_3.heap.size)) u6_3 u32_3 from hm)
      clear hm
      clear act E qb8 Hx44
      refine QSeq.nil (t' := [_, _, _, _]) rfl ?_
      obtain rfl := HA0.out
      clear HA0 oe3 oe8
      simp only [pz, Act.put, sIB, sCZ, sCS, List.set_nil]
      have hpa := mg_pcs ((((HMM.out.mod Cx32.out (fun _ _ h => h)).mod Cx37.out (fun _ _ h => h)).mod Cx45.out (by intro k h1 h2; rcases h1 with h1 | h1 <;> first | omega | (have hb := HBT.out k h1; omega))).mod Cx79.out (by intro k h1 h2; rcases h1 with h1 | h1 <;> first | omega | (have hb := HBT.out k h1; omega))) HLM.out
      have hpb := mg_pcs (((((Hx22.out.mod Cx26.out (by intro k h1 h2; rcases h1 with h1 | h1 <;> first | omega | (have hb := HBT.out k h1; omega))).mod Cx32.out (fun _ _ h => h)).mod Cx37.out (fun _ _ h => h)).mod Cx45.out (by intro k h1 h2; rcases h1 with h1 | h1 <;> first | omega | (have hb := HBT.out k h1; omega))).mod Cx79.out (by intro k h1 h2; rcases h1 with h1 | h1 <;> first | omega | (have hb := HBT.out k h1; omega))) HLn.out
      have hrz : MgR.rd (fun k => (R2 k) ∨ (New u1_0 u1_1a k) ∨ (New u1_1 u1_2a k)) u32_3 ((Mg.segs ({ n0 with kd := m.kd, fr := m.fr, «to» := m.to, dn := m.dn } : Mg) e5 e10 e11 e15 e18).flatten) ({ n0 with kd := m.kd, fr := m.fr, «to» := m.to, dn := m.dn } : Mg) := ⟨_, _, _, _, _, rfl, { hpb.1 with kd := hpa.1.kd, fr := hpa.1.fr, «to» := hpa.1.to, dn := hpa.1.dn }, hpb.2.1.widen (by intro k h1; rcases h1 with h1 | h1 <;> first | omega | exact h1.elim | exact Or.inl h1 | exact Or.inr (Or.inl h1) | exact Or.inr (Or.inr (h1))), hpb.2.2.1.widen (by intro k h1; rcases h1 with h1 | h1 <;> first | omega | exact h1.elim | exact Or.inl h1 | exact Or.inr (Or.inl h1) | exact Or.inr (Or.inr (h1))), hpb.2.2.2.1.widen (by intro k h1; rcases h1 with h1 | h1 <;> first | omega | exact h1.elim | exact Or.inl h1 | exact Or.inr (Or.inl h1) | exact Or.inr (Or.inr (h1))), hpb.2.2.2.2.1.widen (by intro k h1; rcases h1 with h1 | h1 <;> first | omega | exact h1.elim | exact Or.inl h1 | exact Or.inr (Or.inl h1) | exact Or.inr (Or.inr (h1))), hpb.2.2.2.2.2.widen (by intro k h1; rcases h1 with h1 | h1 <;> first | omega | exact h1.elim | exact Or.inl h1 | exact Or.inr (Or.inl h1) | exact Or.inr (Or.inr (h1)))⟩
      have HRZ := Lib.hid hrz
      clear hpa hpb hrz
      go_wp2_with fail
      go_meet
      case rel => exact ⟨_, _, HE.out.symm, Hx78.out, HRZ.out, (hmz.out.trans Cx79.out (fun _ _ h => h))⟩
    have K12 := Lib.hid h12
    clear h12
    go_upto_region 31 with (fail)
    refine wp_region_U 164 [105, 104] [0, 1] (fun a0 HA0 => ?_)
    have oe36 := ev HA0 36 rfl
    refine QSeq.pure rfl (.bool false) (fun E => ex_binE rfl (E.v oe36) rfl (guard_ints _ _ _ _ _ _) (run_eql_i _ _ _ Tryz.underlying3) (congrArg Value.bool (eq_ff K12.out))) ?_
    refine QSeq.pure rfl _ (fun E => ex_assign rfl (E.d 0 0)) ?_
    refine QSeq.nil (t' := [_, _]) rfl ?_
    obtain rfl := HA0.out
    clear HA0 oe36
    simp only [pz, Act.put, sIB, sCZ, sCS]
    by_cases h13 : K = 13
    · have KK := Lib.hid h13
      clear h13
      go_upto_region 33 with (fail)
      refine wp_region_U 164 [110, 109] [0, 1] (fun a0 HA0 => ?_)
      have oe36 := ev HA0 36 rfl
      refine QSeq.pure rfl (.bool true) (fun E => ex_binE rfl (E.v oe36) rfl (guard_ints _ _ _ _ _ _) (run_eql_i _ _ _ Tryz.underlying3) (congrArg Value.bool (eq_tt KK.out))) ?_
      refine QSeq.pure rfl _ (fun E => ex_assign rfl (E.d 0 0)) ?_
      refine QSeq.nil (t' := [_, _]) rfl ?_
      obtain rfl := HA0.out
      clear HA0 oe36
      simp only [pz, Act.put, sIB, sCZ, sCS]
      have HE := hid (show ontoM m n0 = ({ n0 with kd := m.kd, fr := m.fr, «to» := m.to, ix := m.ix, rp := m.rp } : Mg) by unfold ontoM; rw [if_neg (fun e => K1.out (HMK.out.symm.trans e)), if_neg (fun e => K2.out (HMK.out.symm.trans e)), if_neg (fun e => K3.out (HMK.out.symm.trans e)), if_neg (fun e => K4.out (HMK.out.symm.trans e)), if_neg (fun e => K5.out (HMK.out.symm.trans e)), if_neg (fun e => K6.out (HMK.out.symm.trans e)), if_neg (fun e => K7.out (HMK.out.symm.trans e)), if_neg (fun e => K8.out (HMK.out.symm.trans e)), if_neg (fun e => K9.out (HMK.out.symm.trans e)), if_neg (fun e => K10.out (HMK.out.symm.trans e)), if_neg (fun e => K11.out (HMK.out.symm.trans e)), if_neg (fun e => K12.out (HMK.out.symm.trans e)), if_pos (HMK.out.trans KK.out)])
      go_upto_region 34 with (fail)
      generalize ha0 : Act.mk _ _ = a0
      have oe3 : a0.eval (.tmp 3) = .pointer (some ⟨w.heap.size, 0, none⟩) := by rw [← ha0]; rfl
      have oe8 : a0.eval (.tmp 8) = .pointer (some ⟨u4_3.heap.size, 0, none⟩) := by rw [← ha0]; rfl
      have hsz0 : a0.tmps.size = 164 := by rw [← ha0]; rfl
      have HA0 := hid ha0
      clear ha0
      refine wp_region_Q1 164 hsz0 [111, 112, 113, 114, 115, 169, 116, 171] (fun k => (k = u4_3.heap.size)) (fun k j => (k = 0 ∧ ((j = u4_3.heap.size))) ∨ (k = 1 ∧ ((j = u4_3.heap.size)))) (by intro k j h; (try dsimp only at h ⊢); omega) [qi (.pointer (some ⟨w.heap.size, 212, none⟩)), qi (.int .i64 m.ix), qi (.pointer (some ⟨w.heap.size, 286, none⟩)), qi (.string m.rp), qi (.pointer (some ⟨u4_3.heap.size, 212, none⟩)), qv 0, qi (.pointer (some ⟨u4_3.heap.size, 286, none⟩)), qv 1] ⟨qi_stable, qi_stable, qi_stable, qi_stable, qi_stable, qv_stable, qi_stable, qv_stable, trivial⟩ [5, 7] ⟨?_, ?_, ?_, ?_, ?_, ?_, ?_, ?_, trivial⟩ ?_
      · exact stq (fun E => ex_field rfl Tryz.underlying61 rfl (by kernel_rfl) (E.v oe3))
      · exact stq (fun E => ex_load1 rfl Tryz.underlying3 rfl (E.d 0) (Cs.seg1 ((((HB3.out.mod Cx32.out (fun h => h)).mod Cx37.out (fun h => h)).mod Cx45.out (by intro h2; omega)).mod E.m (by intro h2; omega)) HLM.out 13 rfl (o := 212) (k := 0) rfl rfl rfl))
      · exact stq (fun E => ex_field rfl Tryz.underlying61 rfl (by kernel_rfl) (E.v oe3))
      · exact stq (fun E => ex_load1 rfl Tryz.underlying9 rfl (E.d 2) (Cs.seg1 ((((HB3.out.mod Cx32.out (fun h => h)).mod Cx37.out (fun h => h)).mod Cx45.out (by intro h2; omega)).mod E.m (by intro h2; omega)) HLM.out 17 rfl (o := 286) (k := 0) rfl rfl rfl))
      · exact stq (fun E => ex_field rfl Tryz.underlying61 rfl (by kernel_rfl) (E.v oe8))
      · exact stepq_chain rfl
      · exact stq (fun E => ex_field rfl Tryz.underlying61 rfl (by kernel_rfl) (E.v oe8))
      · exact stepq_chain rfl
      intro u34_0 hr
      have zu34_0 := hr.size
      have Cx80 := hid (hr.new (S := (fun k => (k = u4_3.heap.size))))
      have Hx81 := hid (Hx44.out.mod hr (by intro h2; omega))
      clear Hx44
      clear hr
      refine QChain.go fun Z act E => ?_
      refine qc_store rfl (wanted_none rfl) rfl Hx81.out (off := 212) (vs := [.int .i64 m.ix]) (by kernel_rfl) one1 (by rw [List.size_toArray, flat_sum, (show (Mg.segs ({ n0 with kd := m.kd, fr := m.fr, «to» := m.to } : Mg) e5 e10 e11 e15 e18).map List.length = mgN from HLn.out)]; show 212 + 1 ≤ 295; decide) (E.d 4) (ec (E.d 1)) ?_
      intro u34_1a qc0 hm
      have qb8 := qc0.eqv (b := ((Mg.segs ({ n0 with kd := m.kd, fr := m.fr, «to» := m.to, ix := m.ix } : Mg) e5 e10 e11 e15 e18).flatten : List Value).toArray) ((lay_seg (show (Mg.segs ({ n0 with kd := m.kd, fr := m.fr, «to» := m.to } : Mg) e5 e10 e11 e15 e18).map List.length = mgN from HLn.out) 13 (rfl) rfl).trans rfl)
      clear qc0
      have zu34_1a := hm.size
      refine ⟨hm.mono (by intro k hk h; omega), (fun _ => rfl), ?_⟩
      intro u34_1 hr
      have zu34_1 := hr.size
      have Hx82 := hid (qb8.mod hr (by intro h2; omega))
      have Cx83 := hid (Cx80.out.goM hm hr (fun _ _ h => h))
      clear Cx80 hm hr Z act E qb8 Hx81
      refine QChain.go fun Z act E => ?_
      refine qc_store rfl (wanted_none rfl) rfl Hx82.out (off := 286) (vs := [.string m.rp]) (by kernel_rfl) one1 (by rw [List.size_toArray, flat_sum, (show (Mg.segs ({ n0 with kd := m.kd, fr := m.fr, «to» := m.to, ix := m.ix } : Mg) e5 e10 e11 e15 e18).map List.length = mgN from HLn.out)]; show 286 + 1 ≤ 295; decide) (E.d 6) (ec (E.d 3)) ?_
      intro u34_2a qc0 hm
      have qb8 := qc0.eqv (b := ((Mg.segs ({ n0 with kd := m.kd, fr := m.fr, «to» := m.to, ix := m.ix, rp := m.rp } : Mg) e5 e10 e11 e15 e18).flatten : List Value).toArray) ((lay_seg (show (Mg.segs ({ n0 with kd := m.kd, fr := m.fr, «to» := m.to, ix := m.ix } : Mg) e5 e10 e11 e15 e18).map List.length = mgN from HLn.out) 17 (rfl) rfl).trans rfl)
      clear qc0
      have zu34_2a := hm.size
      refine ⟨hm.mono (by intro k hk h; omega), (fun _ => rfl), ?_⟩
      intro u34_2 hr
      have zu34_2 := hr.size
      have Hx84 := hid (qb8.mod hr (by intro h2; omega))
      have Cx85 := hid (Cx83.out.goM hm hr (fun _ _ h => h))
      clear Cx83 hm hr Z act E qb8 Hx82
      refine QChain.nil fun vs hl hzz hrows hne => ?_
      obtain ⟨Z, hYZ, hZb, hV⟩ := hzz
      rw [show vs = [gw vs 0, gw vs 1, gw vs 2, gw vs 3, gw vs 4, gw vs 5, gw vs 6, gw vs 7] from (gw_eta hl).trans rfl]
      have ha0 := HA0.out
      subst ha0
      clear HA0 hV hYZ hZb hsz0 hrows hne oe3 oe8
      simp only [putAll, Act.put, sIB, sCZ, sCS, List.set_nil]
      clear hl
      have hpa := mg_pcs ((((HMM.out.mod Cx32.out (fun _ _ h => h)).mod Cx37.out (fun _ _ h => h)).mod Cx45.out (by intro k h1 h2; rcases h1 with h1 | h1 <;> first | omega | (have hb := HBT.out k h1; omega))).mod Cx85.out (by intro k h1 h2; rcases h1 with h1 | h1 <;> first | omega | (have hb := HBT.out k h1; omega))) HLM.out
      have hpb := mg_pcs (((((Hx22.out.mod Cx26.out (by intro k h1 h2; rcases h1 with h1 | h1 <;> first | omega | (have hb := HBT.out k h1; omega))).mod Cx32.out (fun _ _ h => h)).mod Cx37.out (fun _ _ h => h)).mod Cx45.out (by intro k h1 h2; rcases h1 with h1 | h1 <;> first | omega | (have hb := HBT.out k h1; omega))).mod Cx85.out (by intro k h1 h2; rcases h1 with h1 | h1 <;> first | omega | (have hb := HBT.out k h1; omega))) HLn.out
      have hrz : MgR.rd (fun k => (R2 k) ∨ (New u1_0 u1_1a k) ∨ (New u1_1 u1_2a k)) u34_2 ((Mg.segs ({ n0 with kd := m.kd, fr := m.fr, «to» := m.to, ix := m.ix, rp := m.rp } : Mg) e5 e10 e11 e15 e18).flatten) ({ n0 with kd := m.kd, fr := m.fr, «to» := m.to, ix := m.ix, rp := m.rp } : Mg) := ⟨_, _, _, _, _, rfl, { hpb.1 with kd := hpa.1.kd, fr := hpa.1.fr, «to» := hpa.1.to, ix := hpa.1.ix }, hpb.2.1.widen (by intro k h1; rcases h1 with h1 | h1 <;> first | omega | exact h1.elim | exact Or.inl h1 | exact Or.inr (Or.inl h1) | exact Or.inr (Or.inr (h1))), hpb.2.2.1.widen (by intro k h1; rcases h1 with h1 | h1 <;> first | omega | exact h1.elim | exact Or.inl h1 | exact Or.inr (Or.inl h1) | exact Or.inr (Or.inr (h1))), hpb.2.2.2.1.widen (by intro k h1; rcases h1 with h1 | h1 <;> first | omega | exact h1.elim | exact Or.inl h1 | exact Or.inr (Or.inl h1) | exact Or.inr (Or.inr (h1))), hpb.2.2.2.2.1.widen (by intro k h1; rcases h1 with h1 | h1 <;> first | omega | exact h1.elim | exact Or.inl h1 | exact Or.inr (Or.inl h1) | exact Or.inr (Or.inr (h1))), hpb.2.2.2.2.2.widen (by intro k h1; rcases h1 with h1 | h1 <;> first | omega | exact h1.elim | exact Or.inl h1 | exact Or.inr (Or.inl h1) | exact Or.inr (Or.inr (h1)))⟩
      have HRZ := Lib.hid hrz
      clear hpa hpb hrz
      go_wp2_with fail
      go_meet
      case rel => exact ⟨_, _, HE.out.symm, Hx84.out, HRZ.out, (hmz.out.trans Cx85.out (fun _ _ h => h))⟩
    have K13 := Lib.hid h13
    clear h13
    go_upto_region 33 with (fail)
    refine wp_region_U 164 [110, 109] [0, 1] (fun a0 HA0 => ?_)
    have oe36 := ev HA0 36 rfl
    refine QSeq.pure rfl (.bool false) (fun E => ex_binE rfl (E.v oe36) rfl (guard_ints _ _ _ _ _ _) (run_eql_i _ _ _ Tryz.underlying3) (congrArg Value.bool (eq_ff K13.out))) ?_
    refine QSeq.pure rfl _ (fun E => ex_assign rfl (E.d 0 0)) ?_
    refine QSeq.nil (t' := [_, _]) rfl ?_
    obtain rfl := HA0.out
    clear HA0 oe36
    simp only [pz, Act.put, sIB, sCZ, sCS]
    have HE := hid (show ontoM m n0 = ({ n0 with kd := m.kd, fr := m.fr, «to» := m.to, dc := m.dc } : Mg) by unfold ontoM; rw [if_neg (fun e => K1.out (HMK.out.symm.trans e)), if_neg (fun e => K2.out (HMK.out.symm.trans e)), if_neg (fun e => K3.out (HMK.out.symm.trans e)), if_neg (fun e => K4.out (HMK.out.symm.trans e)), if_neg (fun e => K5.out (HMK.out.symm.trans e)), if_neg (fun e => K6.out (HMK.out.symm.trans e)), if_neg (fun e => K7.out (HMK.out.symm.trans e)), if_neg (fun e => K8.out (HMK.out.symm.trans e)), if_neg (fun e => K9.out (HMK.out.symm.trans e)), if_neg (fun e => K10.out (HMK.out.symm.trans e)), if_neg (fun e => K11.out (HMK.out.symm.trans e)), if_neg (fun e => K12.out (HMK.out.symm.trans e)), if_neg (fun e => K13.out (HMK.out.symm.trans e))])
    go_upto_region 8 with (fail)
    refine wp_region_U 164 [37, 38, 39, 167] [0, 1, 2, 3] (fun a0 HA0 => ?_)
    have oe3 := ev HA0 3 rfl
    have oe8 := ev HA0 8 rfl
    refine QSeq.pure rfl (.pointer (some ⟨w.heap.size, 287, none⟩)) (fun E => ex_field rfl Tryz.underlying61 rfl (by kernel_rfl) (E.v oe3)) ?_
    refine QSeq.pure rfl _ (fun E => ex_loadA rfl Tryz.underlying59 rfl (off := 287) (cs := (c18)) (by rw [HCm18.out]; kernel_rfl) (E.d 0 0) (Cs.seg (((HB3.out.mod Cx32.out (fun h => h)).mod Cx37.out (fun h => h)).mod Cx45.out (by intro h2; omega)) HLM.out 18 rfl rfl)) ?_
    refine QSeq.pure rfl (.pointer (some ⟨u4_3.heap.size, 287, none⟩)) (fun E => ex_field rfl Tryz.underlying61 rfl (by kernel_rfl) (E.v oe8)) ?_
    refine QSeq.go fun act E => ?_
    refine qc_store rfl (wanted_none rfl) rfl Hx44.out (off := 287) (vs := c18) (by rw [HCm18.out]; kernel_rfl) HOm18.out (by rw [List.size_toArray, flat_sum, (show (Mg.segs ({ n0 with kd := m.kd, fr := m.fr, «to» := m.to } : Mg) e5 e10 e11 e15 e18).map List.length = mgN from HLn.out)]; show 287 + _ ≤ 295; rw [HCm18.out]; decide) (E.d 2 0) (ec (E.d 1 1)) ?_
    intro u8_3 qc0 hm
    have qb8 := qc0.eqv (b := ((Mg.segs ({ n0 with kd := m.kd, fr := m.fr, «to» := m.to, dc := m.dc } : Mg) e5 e10 e11 e15 c18).flatten : List Value).toArray) ((lay_seg (show (Mg.segs ({ n0 with kd := m.kd, fr := m.fr, «to» := m.to } : Mg) e5 e10 e11 e15 e18).map List.length = mgN from HLn.out) 18 (by rw [HCm18.out]; rfl) rfl).trans rfl)
    clear qc0
    have Hx86 := hid qb8
    have zu8_3 := hm.size
    have Cx87 := hid (show Mod (fun k => (k = u4_3.heap.size)) u6_3 u8_3 from hm)
    clear hm
    clear act E qb8 Hx44
    refine QSeq.nil (t' := [_, _, _, _]) rfl ?_
    obtain rfl := HA0.out
    clear HA0 oe3 oe8
    simp only [pz, Act.put, sIB, sCZ, sCS, List.set_nil]
    have hpa := mg_pcs ((((HMM.out.mod Cx32.out (fun _ _ h => h)).mod Cx37.out (fun _ _ h => h)).mod Cx45.out (by intro k h1 h2; rcases h1 with h1 | h1 <;> first | omega | (have hb := HBT.out k h1; omega))).mod Cx87.out (by intro k h1 h2; rcases h1 with h1 | h1 <;> first | omega | (have hb := HBT.out k h1; omega))) HLM.out
    have hpb := mg_pcs (((((Hx22.out.mod Cx26.out (by intro k h1 h2; rcases h1 with h1 | h1 <;> first | omega | (have hb := HBT.out k h1; omega))).mod Cx32.out (fun _ _ h => h)).mod Cx37.out (fun _ _ h => h)).mod Cx45.out (by intro k h1 h2; rcases h1 with h1 | h1 <;> first | omega | (have hb := HBT.out k h1; omega))).mod Cx87.out (by intro k h1 h2; rcases h1 with h1 | h1 <;> first | omega | (have hb := HBT.out k h1; omega))) HLn.out
    have hrz : MgR.rd (fun k => (R2 k) ∨ (New u1_0 u1_1a k) ∨ (New u1_1 u1_2a k)) u8_3 ((Mg.segs ({ n0 with kd := m.kd, fr := m.fr, «to» := m.to, dc := m.dc } : Mg) e5 e10 e11 e15 c18).flatten) ({ n0 with kd := m.kd, fr := m.fr, «to» := m.to, dc := m.dc } : Mg) := ⟨_, _, _, _, _, rfl, { hpb.1 with kd := hpa.1.kd, fr := hpa.1.fr, «to» := hpa.1.to }, hpb.2.1.widen (by intro k h1; rcases h1 with h1 | h1 <;> first | omega | exact h1.elim | exact Or.inl h1 | exact Or.inr (Or.inl h1) | exact Or.inr (Or.inr (h1))), hpb.2.2.1.widen (by intro k h1; rcases h1 with h1 | h1 <;> first | omega | exact h1.elim | exact Or.inl h1 | exact Or.inr (Or.inl h1) | exact Or.inr (Or.inr (h1))), hpb.2.2.2.1.widen (by intro k h1; rcases h1 with h1 | h1 <;> first | omega | exact h1.elim | exact Or.inl h1 | exact Or.inr (Or.inl h1) | exact Or.inr (Or.inr (h1))), hpb.2.2.2.2.1.widen (by intro k h1; rcases h1 with h1 | h1 <;> first | omega | exact h1.elim | exact Or.inl h1 | exact Or.inr (Or.inl h1) | exact Or.inr (Or.inr (h1))), hpa.2.2.2.2.2.widen (by intro k h1; rcases h1 with h1 | h1 <;> first | omega | exact h1.elim | exact Or.inl h1 | exact Or.inr (Or.inl h1) | exact Or.inr (Or.inr (h1)))⟩
    have HRZ := Lib.hid hrz
    clear hpa hpb hrz
    go_wp2_with fail
    go_meet
    case rel => exact ⟨_, _, HE.out.symm, Hx86.out, HRZ.out, (hmz.out.trans Cx87.out (fun _ _ h => h))⟩
  case rest =>
    obtain ⟨wq, rfl⟩ : ∃ x, x = wc := ⟨_, rfl⟩
    obtain ⟨z, cz, hz, hb8, hrz, hm⟩ := hcut
    have zwq := hm.size
    have HB8 := Lib.hid hb8
    have HRZ := Lib.hid hrz
    have HNz := hid (MgR.len hrz)
    have HZ := Lib.hid hz
    clear hb8 hrz hz
    clear Hx44
    clear Hx22
    have Hx88 := hid ((((HMM.out.mod Cx32.out (fun _ _ h => h)).mod Cx37.out (fun _ _ h => h)).mod Cx45.out (by intro k h1 h2; rcases h1 with h1 | h1 <;> first | omega | (have hb := HBT.out k h1; omega))).mod hm (by intro k h1 h2; rcases h1 with h1 | h1 <;> first | omega | (have hb := HBT.out k h1; omega)))
    have Hx89 := hid ((((HB3.out.mod Cx32.out (fun h => h)).mod Cx37.out (fun h => h)).mod Cx45.out (by intro h2; omega)).mod hm (by intro h2; omega))
    have Hx90 := hid ((((((HM0.out.trans Cx24.out (by intro k h1 h2; omega)).trans Cx26.out (by intro k h1 h2; omega)).trans Cx32.out (fun _ _ h => h.elim)).trans Cx37.out (fun _ _ h => h.elim)).trans Cx45.out (by intro k h1 h2; omega)).trans hm (by intro k h1 h2; omega))
    have Hx91 := hid (((Hx33.out.mod Cx37.out (fun _ _ h => h)).mod Cx45.out (by intro k h1 h2; omega)).mod hm (by intro k h1 h2; omega))
    have Hx92 := hid (((Hx31.out.mod Cx37.out (fun h => h)).mod Cx45.out (by intro h2; omega)).mod hm (by intro h2; omega))
    clear HMM HB3 HM0 Hx33 Hx31
    clear hm
    have HQZ := hid (show packB z = packB m by rw [HZ.out]; exact onto_pack n0 HKM.out)
    have HQY := hid (show packB yo = packB m by rw [HYO.out]; exact pack_only HKM.out)
    have HKZ := hid (show okKd z.kd = true by rw [HZ.out, onto_kd]; exact HKM.out)
    have HKY := hid (show okKd yo.kd = true by rw [HYO.out, only_kd HKM.out]; exact HKM.out)
    have HPZ := hid (packs_of_len HKZ.out (by rw [HQZ.out]; exact HLE.out))
    have HPY := hid (packs_of_len HKY.out (by rw [HQY.out]; exact HLE.out))
    have HOZ := hid (show onlyM z = yo by rw [HZ.out, HYO.out]; exact onto_only n0 HKM.out)
    have HOY := hid (show onlyM yo = yo by rw [HYO.out]; exact only_only HKM.out)
    have HCZ := hid (show cpMg z by rw [HZ.out]; exact cp_onto HCM.out HCN.out)
    have HCY := hid (show cpMg yo by rw [HYO.out]; exact cp_only HCM.out)
    have HSZ := hid (show eqb (packB m) (packB z) = true by rw [HQZ.out]; exact eqb_rfl _)
    have HSY := hid (show eqb (packB m) (packB yo) = true by rw [HQY.out]; exact eqb_rfl _)
    go_upto_region 35 with (fail)
    refine wp_region_U 164 [118, 119, 117, 120, 121, 9, 10] [0, 1, 2, 3, 4, 5, 6] (fun a0 HA0 => ?_)
    have oe3 := ev HA0 3 rfl
    refine QSeq.pure rfl _ (fun E => ex_loadA rfl Tryz.underlying61 rfl (off := 0) (cs := ((Mg.segs m c5 c10 c11 c15 c18).flatten)) (by rw [HNM.out]; kernel_rfl) (E.v oe3) (Cs.whole Hx89.out)) ?_
    refine QSeq.call rfl rfl Tryz.func18 (callsP HPM.out (Pack_Q _ _ m _ Hx88.out (by intro k h1; rcases h1 with h1 | h1 <;> first | omega | (have hb := HBT.out k h1; omega)) (Nat.le_trans HLE.out (by decide)))) (fun E => args1 (E.d 0 0)) ?_
    rintro e u35_1 ⟨vpx, rfl, qpx, hm⟩
    rw [HPM.out] at qpx
    replace qpx := (show OwR _ _ _ _ (packB m) from qpx)
    obtain ⟨aopx, cappx, rfl⟩ := qpx.shape
    refine ⟨_, rfl, ?_⟩
    have Hx93 := hid qpx
    have zu35_1 := hm.size
    have Cx94 := hid (show Mod (fun _ => False) wq u35_1 from hm)
    clear hm
    clear qpx
    refine QSeq.pure rfl _ (fun E => ex_move rfl (E.d 1 0)) ?_
    refine QSeq.pure rfl (.slice aopx ((packB m).length) cappx) (fun E => ex_extract rfl (E.d 2 0) rfl) ?_
    refine QSeq.pure rfl (.bool true) (fun E => ex_extract rfl (E.d 2 1) rfl) ?_
    refine QSeq.pure rfl _ (fun E => ex_assign rfl (E.d 3 1)) ?_
    refine QSeq.pure rfl _ (fun E => ex_assign rfl (E.d 4 1)) ?_
    refine QSeq.nil (t' := [_, _, _, _, _, _, _]) rfl ?_
    obtain rfl := HA0.out
    clear HA0 oe3
    simp only [pz, Act.put, sIB, sCZ, sCS]
    go_upto_region 36 with (fail)
    refine wp_region_U 164 [123, 124, 122, 125, 126, 11, 12] [0, 1, 2, 3, 4, 5, 6] (fun a0 HA0 => ?_)
    have oe8 := ev HA0 8 rfl
    refine QSeq.pure rfl _ (fun E => ex_loadA rfl Tryz.underlying61 rfl (off := 0) (cs := cz) (by rw [HNz.out]; kernel_rfl) (E.v oe8) (Cs.whole (HB8.out.mod Cx94.out (fun h => h)))) ?_
    refine QSeq.call rfl rfl Tryz.func18 (callsP HPZ.out (Pack_Q _ _ z _ (HRZ.out.mod Cx94.out (fun _ _ h => h)) (by intro k h1; rcases h1 with h1 | h1 | h1 <;> first | omega | (have hb := HBT.out k h1; omega)) (by rw [HQZ.out]; exact Nat.le_trans HLE.out (by decide)))) (fun E => args1 (E.d 0 0)) ?_
    rintro e u36_1 ⟨vpy, rfl, qpy, hm⟩
    rw [HPZ.out] at qpy
    replace qpy := (show OwR _ _ _ _ (packB z) from qpy)
    obtain ⟨aopy, cappy, rfl⟩ := qpy.shape
    refine ⟨_, rfl, ?_⟩
    have Hx95 := hid qpy
    have zu36_1 := hm.size
    have Cx96 := hid (show Mod (fun _ => False) u35_1 u36_1 from hm)
    clear hm
    clear qpy
    refine QSeq.pure rfl _ (fun E => ex_move rfl (E.d 1 0)) ?_
    refine QSeq.pure rfl (.slice aopy ((packB z).length) cappy) (fun E => ex_extract rfl (E.d 2 0) rfl) ?_
    refine QSeq.pure rfl (.bool true) (fun E => ex_extract rfl (E.d 2 1) rfl) ?_
    refine QSeq.pure rfl _ (fun E => ex_assign rfl (E.d 3 1)) ?_
    refine QSeq.pure rfl _ (fun E => ex_assign rfl (E.d 4 1)) ?_
    refine QSeq.nil (t' := [_, _, _, _, _, _, _]) rfl ?_
    obtain rfl := HA0.out
    clear HA0 oe8
    simp only [pz, Act.put, sIB, sCZ, sCS]
    go_upto_region 37 with (fail)
    refine wp_region_U 164 [128, 129, 127, 130, 131, 13, 14] [0, 1, 2, 3, 4, 5, 6] (fun a0 HA0 => ?_)
    have oe7 := ev HA0 7 rfl
    refine QSeq.pure rfl _ (fun E => ex_loadA rfl Tryz.underlying61 rfl (off := 0) (cs := co) (by rw [HNo.out]; kernel_rfl) (E.v oe7) (Cs.whole ((Hx92.out.mod Cx94.out (fun h => h)).mod Cx96.out (fun h => h)))) ?_
    refine QSeq.call rfl rfl Tryz.func18 (callsP HPY.out (Pack_Q _ _ yo _ ((Hx91.out.mod Cx94.out (fun _ _ h => h)).mod Cx96.out (fun _ _ h => h)) (by intro k h1; omega) (by rw [HQY.out]; exact Nat.le_trans HLE.out (by decide)))) (fun E => args1 (E.d 0 0)) ?_
    rintro e u37_1 ⟨vpz, rfl, qpz, hm⟩
    rw [HPY.out] at qpz
    replace qpz := (show OwR _ _ _ _ (packB yo) from qpz)
    obtain ⟨aopz, cappz, rfl⟩ := qpz.shape
    refine ⟨_, rfl, ?_⟩
    have Hx97 := hid qpz
    have zu37_1 := hm.size
    have Cx98 := hid (show Mod (fun _ => False) u36_1 u37_1 from hm)
    clear hm
    clear qpz
    refine QSeq.pure rfl _ (fun E => ex_move rfl (E.d 1 0)) ?_
    refine QSeq.pure rfl (.slice aopz ((packB yo).length) cappz) (fun E => ex_extract rfl (E.d 2 0) rfl) ?_
    refine QSeq.pure rfl (.bool true) (fun E => ex_extract rfl (E.d 2 1) rfl) ?_
    refine QSeq.pure rfl _ (fun E => ex_assign rfl (E.d 3 1)) ?_
    refine QSeq.pure rfl _ (fun E => ex_assign rfl (E.d 4 1)) ?_
    refine QSeq.nil (t' := [_, _, _, _, _, _, _]) rfl ?_
    obtain rfl := HA0.out
    clear HA0 oe7
    simp only [pz, Act.put, sIB, sCZ, sCS]
    go_upto_region 38 with (fail)
    generalize ha0 : Act.mk _ _ = a0
    have oe7 : a0.eval (.tmp 7) = .pointer (some ⟨u4_1.heap.size, 0, none⟩) := by rw [← ha0]; rfl
    have oe8 : a0.eval (.tmp 8) = .pointer (some ⟨u4_3.heap.size, 0, none⟩) := by rw [← ha0]; rfl
    have oe9 : a0.eval (.tmp 9) = .slice aopx ((packB m).length) cappx := by rw [← ha0]; rfl
    have oe10 : a0.eval (.tmp 10) = .bool true := by rw [← ha0]; rfl
    have oe11 : a0.eval (.tmp 11) = .slice aopy ((packB z).length) cappy := by rw [← ha0]; rfl
    have oe12 : a0.eval (.tmp 12) = .bool true := by rw [← ha0]; rfl
    have oe13 : a0.eval (.tmp 13) = .slice aopz ((packB yo).length) cappz := by rw [← ha0]; rfl
    have oe14 : a0.eval (.tmp 14) = .bool true := by rw [← ha0]; rfl
    have hsz0 : a0.tmps.size = 164 := by rw [← ha0]; rfl
    have HA0 := hid ha0
    clear ha0
    refine wp_region_Q0 164 hsz0 [132, 133, 134, 135, 136, 137, 138, 139, 140, 141, 142, 143, 144, 145, 146, 147, 148, 149, 150, 151, 152, 153, 154, 155, 156, 157, 158, 159, 160, 161, 162, 163, 6] [qi (.bool true), qi (.bool true), qi (.bool true), qi (.bool true), qi (.bool true), qi (.bool true), qi (.bool true), qi (.bool true), qi (.slice aopx ((packB m).length) cappx), qi (.slice aopy ((packB z).length) cappy), qi (.bool true), qi (.bool true), qi (.bool true), qi (.slice aopx ((packB m).length) cappx), qi (.slice aopz ((packB yo).length) cappz), qi (.bool true), qi (.bool true), qi (.bool true), qi (.agg cz.toArray), qv 2, qi (.agg co.toArray), qi (.bool true), qi (.bool true), qi (.bool true), qi (.agg co.toArray), qv 4, qi (.agg co.toArray), qi (.bool true), qi (.bool true), qi (.bool true), qi (.bool true), qi (.bool true), qi (.bool true)] ⟨qi_stable, qi_stable, qi_stable, qi_stable, qi_stable, qi_stable, qi_stable, qi_stable, qi_stable, qi_stable, qi_stable, qi_stable, qi_stable, qi_stable, qi_stable, qi_stable, qi_stable, qi_stable, qi_stable, qv_stable, qi_stable, qi_stable, qi_stable, qi_stable, qi_stable, qv_stable, qi_stable, qi_stable, qi_stable, qi_stable, qi_stable, qi_stable, qi_stable, trivial⟩ [10, 15, 19, 21, 25, 27, 30] ⟨?_, ?_, ?_, ?_, ?_, ?_, ?_, ?_, ?_, ?_, ?_, ?_, ?_, ?_, ?_, ?_, ?_, ?_, ?_, ?_, ?_, ?_, ?_, ?_, ?_, ?_, ?_, ?_, ?_, ?_, ?_, ?_, ?_, trivial⟩ ?_
    · exact stq (fun E => ex_move rfl (E.v oe10))
    · exact stq (fun E => ex_move rfl (E.d 0))
    · refine stepq_env rfl rfl rfl fun _ _ _ _ _ _ _ hout hsz hd _ _ => ?_
      have h1 := hd ⟨1, .guard⟩ (by simp) rfl _ rfl
      refine qe_run rfl ((wanted_of rfl rfl (hsz 133 (by decide)) h1).trans rfl) (ex_move rfl ((hout 12 (by decide)).trans oe12)) QE.refl ?_
      rfl
    · exact stq (fun E => ex_pick rfl (E.d 1) (E.d 2) rfl)
    · exact stq (fun E => ex_move rfl (E.d 3))
    · refine stepq_env rfl rfl rfl fun _ _ _ _ _ _ _ hout hsz hd _ _ => ?_
      have h4 := hd ⟨4, .guard⟩ (by simp) rfl _ rfl
      refine qe_run rfl ((wanted_of rfl rfl (hsz 136 (by decide)) h4).trans rfl) (ex_move rfl ((hout 14 (by decide)).trans oe14)) QE.refl ?_
      rfl
    · exact stq (fun E => ex_pick rfl (E.d 4) (E.d 5) rfl)
    · exact stq (fun E => ex_move rfl (E.d 6))
    · refine stepq_env rfl rfl rfl fun _ _ _ _ _ _ _ hout hsz hd _ _ => ?_
      have h7 := hd ⟨7, .guard⟩ (by simp) rfl _ rfl
      refine qe_run rfl ((wanted_of rfl rfl (hsz 139 (by decide)) h7).trans rfl) (ex_move rfl ((hout 9 (by decide)).trans oe9)) QE.refl ?_
      rfl
    · refine stepq_env rfl rfl rfl fun _ _ _ _ _ _ _ hout hsz hd _ _ => ?_
      have h7 := hd ⟨7, .guard⟩ (by simp) rfl _ rfl
      refine qe_run rfl ((wanted_of rfl rfl (hsz 139 (by decide)) h7).trans rfl) (ex_move rfl ((hout 11 (by decide)).trans oe11)) QE.refl ?_
      rfl
    · exact stepq_chain rfl
    · exact stq (fun E => ex_pick rfl (E.d 7) (E.d 10) rfl)
    · exact stq (fun E => ex_move rfl (E.d 11))
    · refine stepq_env rfl rfl rfl fun _ _ _ _ _ _ _ hout hsz hd _ _ => ?_
      have h12 := hd ⟨12, .guard⟩ (by simp) rfl _ rfl
      refine qe_run rfl ((wanted_of rfl rfl (hsz 144 (by decide)) h12).trans rfl) (ex_move rfl ((hout 9 (by decide)).trans oe9)) QE.refl ?_
      rfl
    · refine stepq_env rfl rfl rfl fun _ _ _ _ _ _ _ hout hsz hd _ _ => ?_
      have h12 := hd ⟨12, .guard⟩ (by simp) rfl _ rfl
      refine qe_run rfl ((wanted_of rfl rfl (hsz 144 (by decide)) h12).trans rfl) (ex_move rfl ((hout 13 (by decide)).trans oe13)) QE.refl ?_
      rfl
    · exact stepq_chain rfl
    · exact stq (fun E => ex_pick rfl (E.d 12) (E.d 15) rfl)
    · exact stq (fun E => ex_move rfl (E.d 16))
    · refine stepq_env rfl rfl rfl fun _ _ _ _ _ hm _ hout hsz hd _ _ => ?_
      have h17 := hd ⟨17, .guard⟩ (by simp) rfl _ rfl
      refine qe_run rfl ((wanted_of rfl rfl (hsz 149 (by decide)) h17).trans rfl) (ex_loadA rfl Tryz.underlying61 rfl (off := 0) (cs := cz) (by rw [HNz.out]; kernel_rfl) ((hout 8 (by decide)).trans oe8) (Cs.whole ((((HB8.out.mod Cx94.out (fun h => h)).mod Cx96.out (fun h => h)).mod Cx98.out (fun h => h)).mod hm.old (by intro h2; omega)))) QE.refl ?_
      rfl
    · exact stepq_chain rfl
    · refine stepq_env rfl rfl rfl fun _ _ _ _ _ hm _ hout hsz hd _ _ => ?_
      have h17 := hd ⟨17, .guard⟩ (by simp) rfl _ rfl
      refine qe_run rfl ((wanted_of rfl rfl (hsz 149 (by decide)) h17).trans rfl) (ex_loadA rfl Tryz.underlying61 rfl (off := 0) (cs := co) (by rw [HNo.out]; kernel_rfl) ((hout 7 (by decide)).trans oe7) (Cs.whole ((((Hx92.out.mod Cx94.out (fun h => h)).mod Cx96.out (fun h => h)).mod Cx98.out (fun h => h)).mod hm.old (by intro h2; omega)))) QE.refl ?_
      rfl
    · exact stepq_chain rfl
    · exact stq (fun E => ex_pick rfl (E.d 17) (E.d 21) rfl)
    · exact stq (fun E => ex_move rfl (E.d 22))
    · refine stepq_env rfl rfl rfl fun _ _ _ _ _ hm _ hout hsz hd _ _ => ?_
      have h23 := hd ⟨23, .guard⟩ (by simp) rfl _ rfl
      refine qe_run rfl ((wanted_of rfl rfl (hsz 155 (by decide)) h23).trans rfl) (ex_loadA rfl Tryz.underlying61 rfl (off := 0) (cs := co) (by rw [HNo.out]; kernel_rfl) ((hout 7 (by decide)).trans oe7) (Cs.whole ((((Hx92.out.mod Cx94.out (fun h => h)).mod Cx96.out (fun h => h)).mod Cx98.out (fun h => h)).mod hm.old (by intro h2; omega)))) QE.refl ?_
      rfl
    · exact stepq_chain rfl
    · refine stepq_env rfl rfl rfl fun _ _ _ _ _ hm _ hout hsz hd _ _ => ?_
      have h23 := hd ⟨23, .guard⟩ (by simp) rfl _ rfl
      refine qe_run rfl ((wanted_of rfl rfl (hsz 155 (by decide)) h23).trans rfl) (ex_loadA rfl Tryz.underlying61 rfl (off := 0) (cs := co) (by rw [HNo.out]; kernel_rfl) ((hout 7 (by decide)).trans oe7) (Cs.whole ((((Hx92.out.mod Cx94.out (fun h => h)).mod Cx96.out (fun h => h)).mod Cx98.out (fun h => h)).mod hm.old (by intro h2; omega)))) QE.refl ?_
      rfl
    · exact stepq_chain rfl
    · exact stq (fun E => ex_pick rfl (E.d 23) (E.d 27) rfl)
    · exact stq (fun E => ex_move rfl (E.d 28))
    · exact stepq_chain rfl
    · exact stq (fun E => ex_pick rfl (E.d 29) (E.d 30) rfl)
    · exact stq (fun E => ex_assign rfl (E.d 31))
    intro u38_0 hr
    have zu38_0 := hr.size
    have Cx99 := hid (hr.new (S := (fun _ => False)))
    clear hr
    refine QChain.go fun Z act E => ?_
    refine qc_callF (args := #[.slice aopx ((packB m).length) cappx, .slice aopy ((packB z).length) cappy]) rfl ((wanted_of rfl rfl (E.sz 139 (by decide)) (E.e 7 .chain)).trans rfl) rfl Tryz.func19 (args2 (E.d 8) (E.d 9)) (callsB HSZ.out (Same_B (((Hx93.out.mod Cx96.out (fun _ _ h => h)).mod Cx98.out (fun _ _ h => h)).mod Cx99.out (fun _ _ h => h)).rd ((Hx95.out.mod Cx98.out (fun _ _ h => h)).mod Cx99.out (fun _ _ h => h)).rd)) ?_
    rintro e u38_1a ⟨rfl, hm⟩
    have zu38_1a := hm.size
    refine ⟨_, rfl, hm.mono (fun _ _ h => h.elim), (fun _ => rfl), ?_⟩
    intro u38_1 hr
    have zu38_1 := hr.size
    have Cx100 := hid (Cx99.out.go hm hr)
    clear Cx99 hm hr Z act E
    refine QChain.go fun Z act E => ?_
    refine qc_callF (args := #[.slice aopx ((packB m).length) cappx, .slice aopz ((packB yo).length) cappz]) rfl ((wanted_of rfl rfl (E.sz 144 (by decide)) (E.e 12 .chain)).trans rfl) rfl Tryz.func19 (args2 (E.d 13) (E.d 14)) (callsB HSY.out (Same_B (((Hx93.out.mod Cx96.out (fun _ _ h => h)).mod Cx98.out (fun _ _ h => h)).mod Cx100.out (fun _ _ h => h)).rd (Hx97.out.mod Cx100.out (fun _ _ h => h)).rd)) ?_
    rintro e u38_2a ⟨rfl, hm⟩
    have zu38_2a := hm.size
    refine ⟨_, rfl, hm.mono (fun _ _ h => h.elim), (fun _ => rfl), ?_⟩
    intro u38_2 hr
    have zu38_2 := hr.size
    have Cx101 := hid (Cx100.out.go hm hr)
    clear Cx100 hm hr Z act E
    refine QChain.go fun Z act E => ?_
    refine qc_callF (args := #[.agg cz.toArray]) rfl ((wanted_of rfl rfl (E.sz 149 (by decide)) (E.e 17 .chain)).trans rfl) rfl Tryz.func17 (args1 (E.d 18)) (HOZ.out ▸ Only_Q _ z _ _ ((((HRZ.out.mod Cx94.out (fun _ _ h => h)).mod Cx96.out (fun _ _ h => h)).mod Cx98.out (fun _ _ h => h)).mod Cx101.out (fun _ _ h => h)) (by intro k h1; rcases h1 with h1 | h1 | h1 <;> first | omega | (have hb := HBT.out k h1; omega)) HCZ.out) ?_
    rintro e u38_3a ⟨c1, rfl, qo1, hm⟩
    have zu38_3a := hm.size
    refine ⟨_, rfl, hm.mono (fun _ _ h => h.elim), (fun _ => rfl), ?_⟩
    intro u38_3 hr
    have zu38_3 := hr.size
    have Hx102 := hid ((qo1.widen (R' := (fun k => (New u38_2 u38_3a k))) (fun _ h => h)).mod hr (by intro k h1 h2; omega))
    have Cx103 := hid (Cx101.out.go hm hr)
    clear Cx101 hm hr Z act E qo1
    refine QChain.go fun Z act E => ?_
    refine qc_callF (args := #[.agg c1.toArray, .agg co.toArray]) rfl ((wanted_of rfl rfl (E.sz 149 (by decide)) (E.e 17 .guard)).trans rfl) rfl Tryz.func14 (args2 (chv (v := .agg c1.toArray) (E.d 19)) (E.d 20)) (callsB (eqb_rfl yo) (Eq_Mg _ _ _ _ yo yo _ Hx102.out ((((Hx91.out.mod Cx94.out (fun _ _ h => h)).mod Cx96.out (fun _ _ h => h)).mod Cx98.out (fun _ _ h => h)).mod Cx103.out (fun _ _ h => h)) (by intro k h1; omega) (by intro k h1; omega))) ?_
    rintro e u38_4a ⟨rfl, hm⟩
    have zu38_4a := hm.size
    refine ⟨_, rfl, hm.mono (fun _ _ h => h.elim), (fun _ => rfl), ?_⟩
    intro u38_4 hr
    have zu38_4 := hr.size
    have hmr := Mod.after hm hr
    have Hx104 := hid (Hx102.out.mod hmr (by intro k h1 h2; omega))
    clear Hx102
    clear hmr
    have Cx105 := hid (Cx103.out.go hm hr)
    clear Cx103 hm hr Z act E
    refine QChain.go fun Z act E => ?_
    refine qc_callF (args := #[.agg co.toArray]) rfl ((wanted_of rfl rfl (E.sz 155 (by decide)) (E.e 23 .chain)).trans rfl) rfl Tryz.func17 (args1 (E.d 24)) (HOY.out ▸ Only_Q _ yo _ _ ((((Hx91.out.mod Cx94.out (fun _ _ h => h)).mod Cx96.out (fun _ _ h => h)).mod Cx98.out (fun _ _ h => h)).mod Cx105.out (fun _ _ h => h)) (by intro k h1; omega) HCY.out) ?_
    rintro e u38_5a ⟨c2, rfl, qo2, hm⟩
    have zu38_5a := hm.size
    refine ⟨_, rfl, hm.mono (fun _ _ h => h.elim), (fun _ => rfl), ?_⟩
    intro u38_5 hr
    have zu38_5 := hr.size
    have Hx106 := hid ((qo2.widen (R' := (fun k => (New u38_4 u38_5a k))) (fun _ h => h)).mod hr (by intro k h1 h2; omega))
    have hmr := Mod.after hm hr
    have Hx107 := hid (Hx104.out.mod hmr (by intro k h1 h2; omega))
    clear Hx104
    clear hmr
    have Cx108 := hid (Cx105.out.go hm hr)
    clear Cx105 hm hr Z act E qo2
    refine QChain.go fun Z act E => ?_
    refine qc_callF (args := #[.agg c2.toArray, .agg co.toArray]) rfl ((wanted_of rfl rfl (E.sz 155 (by decide)) (E.e 23 .guard)).trans rfl) rfl Tryz.func14 (args2 (chv (v := .agg c2.toArray) (E.d 25)) (E.d 26)) (callsB (eqb_rfl yo) (Eq_Mg _ _ _ _ yo yo _ Hx106.out ((((Hx91.out.mod Cx94.out (fun _ _ h => h)).mod Cx96.out (fun _ _ h => h)).mod Cx98.out (fun _ _ h => h)).mod Cx108.out (fun _ _ h => h)) (by intro k h1; omega) (by intro k h1; omega))) ?_
    rintro e u38_6a ⟨rfl, hm⟩
    have zu38_6a := hm.size
    refine ⟨_, rfl, hm.mono (fun _ _ h => h.elim), (fun _ => rfl), ?_⟩
    intro u38_6 hr
    have zu38_6 := hr.size
    have hmr := Mod.after hm hr
    have Hx109 := hid (Hx107.out.mod hmr (by intro k h1 h2; omega))
    have Hx110 := hid (Hx106.out.mod hmr (by intro k h1 h2; omega))
    clear Hx107 Hx106
    clear hmr
    have Cx111 := hid (Cx108.out.go hm hr)
    clear Cx108 hm hr Z act E
    refine QChain.go fun Z act E => ?_
    refine qc_callF (args := #[]) rfl ((wanted_of rfl rfl (E.sz 161 (by decide)) (E.e 29 .chain)).trans rfl) rfl Tryz.func16 args0 (wakes06 _) ?_
    rintro e u38_7a ⟨rfl, hm⟩
    have zu38_7a := hm.size
    refine ⟨_, rfl, hm.mono (fun _ _ h => h.elim), (fun _ => rfl), ?_⟩
    intro u38_7 hr
    have zu38_7 := hr.size
    have hmr := Mod.after hm hr
    have Hx112 := hid (Hx109.out.mod hmr (by intro k h1 h2; omega))
    have Hx113 := hid (Hx110.out.mod hmr (by intro k h1 h2; omega))
    clear Hx109 Hx110
    clear hmr
    have Cx114 := hid (Cx111.out.go hm hr)
    clear Cx111 hm hr Z act E
    refine QChain.nil fun vs hl hzz hrows hne => ?_
    obtain ⟨Z, hYZ, hZb, hV⟩ := hzz
    have f0 := fvi hV hl 0
    have f1 := fvi hV hl 1
    have f2 := fvi hV hl 2
    have f4 := fvi hV hl 4
    have f5 := fvi hV hl 5
    have f7 := fvi hV hl 7
    have f8 := fvi hV hl 8
    have f9 := fvi hV hl 9
    have f10 := fvi hV hl 10
    have f12 := fvi hV hl 12
    have f13 := fvi hV hl 13
    have f14 := fvi hV hl 14
    have f15 := fvi hV hl 15
    have f17 := fvi hV hl 17
    have f19 := fvc hV hl 19
    have f21 := fvi hV hl 21
    have f23 := fvi hV hl 23
    have f25 := fvc hV hl 25
    have f27 := fvi hV hl 27
    have f29 := fvi hV hl 29
    have f30 := fvi hV hl 30
    have f32 := fvi hV hl 32
    rw [show vs = [gw vs 0, gw vs 1, gw vs 2, gw vs 3, gw vs 4, gw vs 5, gw vs 6, gw vs 7, gw vs 8, gw vs 9, gw vs 10, gw vs 11, gw vs 12, gw vs 13, gw vs 14, gw vs 15, gw vs 16, gw vs 17, gw vs 18, gw vs 19, gw vs 20, gw vs 21, gw vs 22, gw vs 23, gw vs 24, gw vs 25, gw vs 26, gw vs 27, gw vs 28, gw vs 29, gw vs 30, gw vs 31, gw vs 32] from (gw_eta hl).trans rfl]
    have ha0 := HA0.out
    subst ha0
    clear HA0 hV hYZ hZb hsz0 hrows hne oe7 oe8 oe9 oe10 oe11 oe12 oe13 oe14
    simp only [putAll, Act.put, sIB, sCZ, sCS, f0, f1, f2, f4, f5, f7, f8, f9, f10, f12, f13, f14, f15, f17, f19, f21, f23, f25, f27, f29, f30, f32]
    clear hl f0 f1 f2 f4 f5 f7 f8 f9 f10 f12 f13 f14 f15 f17 f19 f21 f23 f25 f27 f29 f30 f32
    go_wp2
    go_ret
    exact ⟨rfl, ((((Hx90.out.trans Cx94.out (fun _ _ h => h.elim)).trans Cx96.out (fun _ _ h => h.elim)).trans Cx98.out (fun _ _ h => h.elim)).trans Cx114.out (fun _ _ h => h.elim))⟩
end Go.Proofs.YtpnikilkcifncaaGreat

/- Pairs, commitments as arguments. -/
namespace Go.Proofs.YtpnikilkcifncaaGreat
open Go Go.RowKit Go.Gv Go.ChangeShapes Go.WideShapes Go.ChangeAt Go.Deep

section
variable {H : Type} {enc : TypeId × Value → H} {W : World}
theorem trod_pair {t : TypeId} {fs : Array Field} {fuel : Nat} {cs : List Value} {x : DataW H × List MemPlace} (ht : Tryz.prog.underlying t = some (.struct fs)) (hs : fs.size = 2) (h0 : (fs[0]?).map (fun f => (f.offset, f.type)) = some (0, 3)) (h1 : (fs[1]?).map (fun f => (f.offset, f.type)) = some (1, 3)) (hc : Tryz.prog.cellsOf t = 2)
    (h : DataW.trod enc Tryz.prog W 0 (fun _ => true) true fuel t cs = some x) : ∃ a b : Int, cs = [.int .i64 a, .int .i64 b] ∧ I64 a ∧ I64 b := by
  obtain ⟨xs, n, _, -, hl, hn, hf⟩ := DataW.trod_struct ht h
  rw [hc] at hl
  have hxs : xs.length = 2 := hn.trans hs
  obtain ⟨q0, e0, hq0⟩ : ∃ f, fs[0]? = some f ∧ (f.offset, f.type) = (0, 3) := by
    cases hh : fs[0]? with
    | none => rw [hh] at h0; cases h0
    | some f => rw [hh] at h0; exact ⟨f, rfl, Option.some.inj h0⟩
  obtain ⟨q1, e1, hq1⟩ : ∃ f, fs[1]? = some f ∧ (f.offset, f.type) = (1, 3) := by
    cases hh : fs[1]? with
    | none => rw [hh] at h1; cases h1
    | some f => rw [hh] at h1; exact ⟨f, rfl, Option.some.inj h1⟩
  have f0 := hf 0 _ e0
  have f1 := hf 1 _ e1
  rw [show q0.offset = 0 from congrArg Prod.fst hq0, show q0.type = 3 from congrArg Prod.snd hq0] at f0
  rw [show q1.offset = 1 from congrArg Prod.fst hq1, show q1.type = 3 from congrArg Prod.snd hq1] at f1
  rw [List.getElem?_eq_getElem (by omega), show Tryz.prog.cellsOf 3 = 1 from by kernel_rfl] at f0 f1
  match cs, hl with
  | [c0, c1], _ =>
    simp only [List.drop_zero, List.drop_succ_cons, List.take_succ_cons, List.take_zero] at f0 f1
    obtain ⟨p0, e0, _, w0⟩ := DataW.trod_int Tryz.underlying3 f0
    obtain ⟨p1, e1, _, w1⟩ := DataW.trod_int Tryz.underlying3 f1
    simp at e0 e1
    subst e0 e1
    exact ⟨p0, p1, rfl, bounds_i64 w0, bounds_i64 w1⟩
theorem cm_cells {fuel : Nat} {cs : List Value} {x : DataW H × List MemPlace} (h : DataW.trod enc Tryz.prog W 0 (fun _ => true) true fuel 29 cs = some x) : ∃ c : Cm, cs = c.cells ∧ c.OK := by
  obtain ⟨xs, n, _, -, hl, hn, hf⟩ := DataW.trod_struct Tryz.underlying29 h
  rw [show Tryz.prog.cellsOf 29 = 37 from by kernel_rfl] at hl
  have hxs : xs.length = 4 := hn
  have f0 : DataW.trod enc Tryz.prog W 0 (fun _ => true) true n 23 ((cs.drop 0).take (Tryz.prog.cellsOf 23)) = xs[0]? := hf 0 _ rfl
  have f1 : DataW.trod enc Tryz.prog W 0 (fun _ => true) true n 25 ((cs.drop 2).take (Tryz.prog.cellsOf 25)) = xs[1]? := hf 1 _ rfl
  have f2 : DataW.trod enc Tryz.prog W 0 (fun _ => true) true n 3 ((cs.drop 34).take (Tryz.prog.cellsOf 3)) = xs[2]? := hf 2 _ rfl
  have f3 : DataW.trod enc Tryz.prog W 0 (fun _ => true) true n 27 ((cs.drop 35).take (Tryz.prog.cellsOf 27)) = xs[3]? := hf 3 _ rfl
  rw [List.getElem?_eq_getElem (by omega)] at f0 f1 f2 f3
  obtain ⟨a, b, e0, h1, h2⟩ := trod_pair Tryz.underlying23 rfl rfl rfl (by kernel_rfl) f0
  obtain ⟨hs, e1, hb, hl32⟩ := trod_arr Tryz.underlying25 Tryz.underlying5 (by kernel_rfl) (by kernel_rfl) f1
  obtain ⟨sa, sb, e3, h3, h4⟩ := trod_pair Tryz.underlying27 rfl rfl rfl (by kernel_rfl) f3
  rw [show Tryz.prog.cellsOf 23 = 2 from by kernel_rfl] at e0
  rw [show Tryz.prog.cellsOf 25 = 32 from by kernel_rfl] at e1
  rw [show Tryz.prog.cellsOf 3 = 1 from by kernel_rfl] at f2
  rw [show Tryz.prog.cellsOf 27 = 2 from by kernel_rfl] at e3
  obtain ⟨q, e2, _, w2⟩ := DataW.trod_int Tryz.underlying3 f2
  refine ⟨⟨a, b, hs, q, sa, sb⟩, ?_, ⟨h1, h2, bounds_i64 w2, h3, h4⟩, hl32, hb⟩
  have d1 : cs = cs.take 2 ++ cs.drop 2 := (List.take_append_drop 2 cs).symm
  have d2 : cs.drop 2 = (cs.drop 2).take 32 ++ cs.drop 34 := by conv => lhs; rw [← List.take_append_drop 32 (cs.drop 2)]; rw [List.drop_drop]
  have d3 : cs.drop 34 = (cs.drop 34).take 1 ++ cs.drop 35 := by conv => lhs; rw [← List.take_append_drop 1 (cs.drop 34)]; rw [List.drop_drop]
  have d4 : cs.drop 35 = (cs.drop 35).take 2 := (List.take_of_length_le (by rw [List.length_drop]; omega)).symm
  rw [List.drop_zero] at e0
  rw [d1, d2, d3, d4, e0, e1, e2, e3]
  rfl
end
end Go.Proofs.YtpnikilkcifncaaGreat

/- Things as arguments: whatever a reading gives of them. -/
namespace Go.Proofs.YtpnikilkcifncaaGreat
open Go Go.RowKit Go.Gv Go.ChangeShapes Go.WideShapes Go.ChangeAt Go.Deep

def segs (cs : List Value) : Nat → List Nat → List (List Value)
  | _, [] => []
  | off, n :: ns => (cs.drop off).take n :: segs cs (off + n) ns
theorem segs_all (cs : List Value) : ∀ (ns : List Nat) (off : Nat), cs.length = off + ns.sum → cs.drop off = (segs cs off ns).flatten
  | [], off, h => by simp at h; simp [segs, List.drop_of_length_le (show cs.length ≤ off by omega)]
  | n :: ns, off, h => by
    have ih := segs_all cs ns (off + n) (by simp at h; omega)
    simp only [segs, List.flatten_cons]
    rw [← ih, ← List.drop_drop, List.take_append_drop]
theorem seg_one {cs : List Value} {off : Nat} (h : off < cs.length) : ∃ v, (cs.drop off).take 1 = [v] := ⟨cs[off], by rw [List.drop_eq_getElem_cons h]; rfl⟩
/-- whatever reads as a T reads as one of A -/
def Reads {α : Type} (A : Rep α) (T : TypeId) : Prop := ∀ (H : Type) (enc : TypeId × Value → H) (W : World) (fuel : Nat) (cs : List Value) (x : DataW H × List MemPlace), DataW.trod enc Tryz.prog W 0 (fun _ => true) true fuel T cs = some x → ∃ a, A.rd (fun k => k < W.heap.size) W cs a
theorem all_list {α : Type} {P : List Value → α → Prop} : ∀ (css : List (List Value)), (∀ cs ∈ css, ∃ a, P cs a) → ∃ l : List α, l.length = css.length ∧ ∀ (i : Nat) cs a, css[i]? = some cs → l[i]? = some a → P cs a
  | [], _ => ⟨[], rfl, fun i cs a h => by simp at h⟩
  | c :: r, h => by
    obtain ⟨a, ha⟩ := h c (by simp)
    obtain ⟨l, h1, h2⟩ := all_list r fun cs hcs => h cs (by simp [hcs])
    refine ⟨a :: l, by simp [h1], fun i cs b hi hb => ?_⟩
    cases i with
    | zero => simp at hi hb; subst hi hb; exact ha
    | succ i => simp at hi hb; exact h2 i cs b hi hb
theorem trod_slice {α : Type} {A : Rep α} {t e : TypeId} {H : Type} {enc : TypeId × Value → H} {W : World} {fuel : Nat} {v : Value} {x : DataW H × List MemPlace} (hr : Reads A e) (ht : Tryz.prog.underlying t = some (.slice e)) (hce : Tryz.prog.cellsOf e = A.sz)
    (h : DataW.trod enc Tryz.prog W 0 (fun _ => true) true fuel t [v] = some x) : ∃ l : List α, RdS A (fun k => k < W.heap.size) W v l := by
  haveI : Inhabited {cs : List Value // cs.length = A.sz} := ⟨⟨List.replicate A.sz undef, by simp⟩⟩
  have hsh : ∃ ao n cap, v = .slice ao n cap ∧ n ≤ cap ∧ cap ≤ maxLen ∧ (ao = none → cap = 0) := by
    rcases open_slice ht h with ⟨hcs, _⟩ | ⟨a, len, cap, m, n, D, Pl, hcs, _, hl, hm, hmm, _, hel⟩
    · simp at hcs; subst hcs; exact ⟨none, 0, 0, rfl, Nat.le_refl _, Nat.zero_le _, fun _ => rfl⟩
    · simp at hcs; subst hcs; simp only [if_true] at hmm; subst hmm; exact ⟨some a, len, _, rfl, hl, hm, fun h => by cases h⟩
  obtain ⟨raws, h1, h2⟩ := trod_list (fun a : {cs : List Value // cs.length = A.sz} => a.1) (fun a => ∃ y, A.rd (fun k => k < W.heap.size) W a.1 y) ht hce A.pos (fun a => a.2)
    (fun fuel cs x hx => by obtain ⟨a, ha⟩ := hr H enc W fuel cs x hx; exact ⟨⟨cs, A.len ha⟩, rfl, a, ha⟩) h
  obtain ⟨l, hl, hP⟩ := all_list (P := fun cs a => A.rd (fun k => k < W.heap.size) W cs a) (raws.map (·.1)) (fun cs hcs => by obtain ⟨a, ha, rfl⟩ := List.mem_map.1 hcs; exact h2 a ha)
  have hl' : l.length = raws.length := by simpa using hl
  refine ⟨l, raws.map (·.1), by simp [hl'], hP, ?_, ?_⟩
  · have hcl : ∀ cs ∈ raws.map (·.1), cs.length = A.sz := fun cs hcs => by obtain ⟨a, _, rfl⟩ := List.mem_map.1 hcs; exact a.2
    have hfl := flat_len hcl
    rcases h1 with ⟨rfl, ao, cap, rfl⟩ | ⟨g, o, cap, hg, rfl, h0, hc, hm, hcell⟩
    · obtain ⟨ao', n', cap', e', g1, g2, g3⟩ := hsh
      cases e'
      obtain rfl : l = [] := List.eq_nil_of_length_eq_zero (by simpa using hl')
      exact Rd.zero _ _ _ _ g2 g3
    · rw [hl']
      refine Rd.mk hc hm (by rw [hfl]; simp) fun j u hu => ?_
      have hj := (List.getElem?_eq_some_iff.1 hu).1
      rw [hfl] at hj
      simp only [List.length_map] at hj
      have hq : j / A.sz < raws.length := Nat.div_lt_of_lt_mul (by rw [Nat.mul_comm]; exact hj)
      have hmod := Nat.mod_lt j A.pos
      have hdm := Nat.div_add_mod j A.sz
      have hgt := flat_get hcl (j / A.sz) raws[j / A.sz].1 (by simp [List.getElem?_eq_getElem hq]) (j % A.sz) (raws[j / A.sz].1[j % A.sz]'(by rw [raws[j / A.sz].2]; exact hmod)) (List.getElem?_eq_getElem _)
      rw [show j / A.sz * A.sz + j % A.sz = j by rw [Nat.mul_comm]; exact hdm] at hgt
      rw [hgt] at hu
      have := hcell (j / A.sz) hq (j % A.sz) u (by rw [List.getElem?_eq_getElem (by rw [raws[j / A.sz].2]; exact hmod)]; exact hu)
      rw [show o + j / A.sz * A.sz + j % A.sz = o + j by rw [Nat.add_assoc, Nat.mul_comm, hdm]] at this
      exact this
  · intro h0 g hg
    rcases h1 with ⟨rfl, ao, cap, rfl⟩ | ⟨g', o, cap, hg', rfl, _⟩
    · simp at hl'; rw [hl'] at h0; simp at h0
    · simp [Value.ownBlock] at hg; subst hg; exact hg'
theorem reads_arg {α : Type} {A : Rep α} {T : TypeId} (hr : Reads A T) {fs : Array Field} (hu : Tryz.prog.underlying T = some (.struct fs)) {H : Type} {enc : TypeId × Value → H} {W : World} {base : Nat} {v : Value} {d : DataW H} {p : List MemPlace} (hv' : Value.okWide Tryz.prog W .any base T v)
    (h : DataW.Trod enc Tryz.prog W 0 (fun _ => true) true T v d p) : ∃ cs a, v = .agg cs.toArray ∧ A.rd (fun k => k < W.heap.size) W cs a := by
  obtain ⟨fuel, hf⟩ := h
  simp only [Value.okWide, hu] at hv'
  obtain ⟨cs, rfl, -, -⟩ := hv'
  obtain ⟨a, ha⟩ := hr _ _ _ _ _ _ hf
  exact ⟨_, a, (by congr 1), ha⟩
theorem reads_cm : Reads CmR 29 := fun H enc W fuel cs x h => by obtain ⟨c, e, hok⟩ := cm_cells h; exact ⟨c, e, hok⟩
theorem reads_st : Reads StR 32 := by
  intro H enc W fuel cs x h
  obtain ⟨xs, n, _, -, hl, hn, hf⟩ := DataW.trod_struct Tryz.underlying32 h
  rw [show Tryz.prog.cellsOf 32 = 38 from by kernel_rfl] at hl
  have hxs : xs.length = 5 := hn
  have f0 : DataW.trod enc Tryz.prog W 0 (fun _ => true) true n 3 ((cs.drop 0).take (Tryz.prog.cellsOf 3)) = xs[0]? := hf 0 _ rfl
  rw [List.getElem?_eq_getElem (by omega), show Tryz.prog.cellsOf 3 = 1 from by kernel_rfl] at f0
  have f1 : DataW.trod enc Tryz.prog W 0 (fun _ => true) true n 23 ((cs.drop 1).take (Tryz.prog.cellsOf 23)) = xs[1]? := hf 1 _ rfl
  rw [List.getElem?_eq_getElem (by omega), show Tryz.prog.cellsOf 23 = 2 from by kernel_rfl] at f1
  have f2 : DataW.trod enc Tryz.prog W 0 (fun _ => true) true n 25 ((cs.drop 3).take (Tryz.prog.cellsOf 25)) = xs[2]? := hf 2 _ rfl
  rw [List.getElem?_eq_getElem (by omega), show Tryz.prog.cellsOf 25 = 32 from by kernel_rfl] at f2
  have f3 : DataW.trod enc Tryz.prog W 0 (fun _ => true) true n 30 ((cs.drop 35).take (Tryz.prog.cellsOf 30)) = xs[3]? := hf 3 _ rfl
  rw [List.getElem?_eq_getElem (by omega), show Tryz.prog.cellsOf 30 = 1 from by kernel_rfl] at f3
  have f4 : DataW.trod enc Tryz.prog W 0 (fun _ => true) true n 27 ((cs.drop 36).take (Tryz.prog.cellsOf 27)) = xs[4]? := hf 4 _ rfl
  rw [List.getElem?_eq_getElem (by omega), show Tryz.prog.cellsOf 27 = 2 from by kernel_rfl] at f4
  obtain ⟨rp, e0, _, w0⟩ := DataW.trod_int Tryz.underlying3 f0
  obtain ⟨cl, sq, e1, w1, w1'⟩ := trod_pair Tryz.underlying23 rfl rfl rfl (by kernel_rfl) f1
  obtain ⟨hh, e2, w2, w2'⟩ := trod_arr Tryz.underlying25 Tryz.underlying5 (by kernel_rfl) (by kernel_rfl) f2
  obtain ⟨tm', e3, _, w3⟩ := DataW.trod_int Tryz.underlying30 f3
  obtain ⟨tm, rfl, w3'⟩ := u64_nat w3
  obtain ⟨sb, mr, e4, w4, w4'⟩ := trod_pair Tryz.underlying27 rfl rfl rfl (by kernel_rfl) f4
  have hcs := segs_all cs [1, 2, 32, 1, 2] 0 (by simpa using hl)
  simp only [List.drop_zero, segs, List.flatten_cons, List.flatten_nil, List.append_nil, Nat.zero_add, Nat.reduceAdd, e0, e1, e2, e3, e4] at hcs
  (try rw [List.drop_zero] at e0)
  (try simp only [e0] at hcs)
  exact ⟨⟨rp, cl, sq, hh, tm, sb, mr⟩, by rw [hcs]; rfl, ⟨bounds_i64 w0, w1, w1', ⟨w2', w2⟩, w3', w4, w4'⟩⟩
theorem reads_ak : Reads StR 37 := by
  intro H enc W fuel cs x h
  obtain ⟨xs, n, _, -, hl, hn, hf⟩ := DataW.trod_struct Tryz.underlying37 h
  rw [show Tryz.prog.cellsOf 37 = 38 from by kernel_rfl] at hl
  have hxs : xs.length = 5 := hn
  have f0 : DataW.trod enc Tryz.prog W 0 (fun _ => true) true n 3 ((cs.drop 0).take (Tryz.prog.cellsOf 3)) = xs[0]? := hf 0 _ rfl
  rw [List.getElem?_eq_getElem (by omega), show Tryz.prog.cellsOf 3 = 1 from by kernel_rfl] at f0
  have f1 : DataW.trod enc Tryz.prog W 0 (fun _ => true) true n 23 ((cs.drop 1).take (Tryz.prog.cellsOf 23)) = xs[1]? := hf 1 _ rfl
  rw [List.getElem?_eq_getElem (by omega), show Tryz.prog.cellsOf 23 = 2 from by kernel_rfl] at f1
  have f2 : DataW.trod enc Tryz.prog W 0 (fun _ => true) true n 25 ((cs.drop 3).take (Tryz.prog.cellsOf 25)) = xs[2]? := hf 2 _ rfl
  rw [List.getElem?_eq_getElem (by omega), show Tryz.prog.cellsOf 25 = 32 from by kernel_rfl] at f2
  have f3 : DataW.trod enc Tryz.prog W 0 (fun _ => true) true n 30 ((cs.drop 35).take (Tryz.prog.cellsOf 30)) = xs[3]? := hf 3 _ rfl
  rw [List.getElem?_eq_getElem (by omega), show Tryz.prog.cellsOf 30 = 1 from by kernel_rfl] at f3
  have f4 : DataW.trod enc Tryz.prog W 0 (fun _ => true) true n 27 ((cs.drop 36).take (Tryz.prog.cellsOf 27)) = xs[4]? := hf 4 _ rfl
  rw [List.getElem?_eq_getElem (by omega), show Tryz.prog.cellsOf 27 = 2 from by kernel_rfl] at f4
  obtain ⟨rp, e0, _, w0⟩ := DataW.trod_int Tryz.underlying3 f0
  obtain ⟨cl, sq, e1, w1, w1'⟩ := trod_pair Tryz.underlying23 rfl rfl rfl (by kernel_rfl) f1
  obtain ⟨hh, e2, w2, w2'⟩ := trod_arr Tryz.underlying25 Tryz.underlying5 (by kernel_rfl) (by kernel_rfl) f2
  obtain ⟨tm', e3, _, w3⟩ := DataW.trod_int Tryz.underlying30 f3
  obtain ⟨tm, rfl, w3'⟩ := u64_nat w3
  obtain ⟨sb, mr, e4, w4, w4'⟩ := trod_pair Tryz.underlying27 rfl rfl rfl (by kernel_rfl) f4
  have hcs := segs_all cs [1, 2, 32, 1, 2] 0 (by simpa using hl)
  simp only [List.drop_zero, segs, List.flatten_cons, List.flatten_nil, List.append_nil, Nat.zero_add, Nat.reduceAdd, e0, e1, e2, e3, e4] at hcs
  (try rw [List.drop_zero] at e0)
  (try simp only [e0] at hcs)
  exact ⟨⟨rp, cl, sq, hh, tm, sb, mr⟩, by rw [hcs]; rfl, ⟨bounds_i64 w0, w1, w1', ⟨w2', w2⟩, w3', w4, w4'⟩⟩
theorem reads_vt : Reads VtR 49 := by
  intro H enc W fuel cs x h
  obtain ⟨xs, n, _, -, hl, hn, hf⟩ := DataW.trod_struct Tryz.underlying49 h
  rw [show Tryz.prog.cellsOf 49 = 38 from by kernel_rfl] at hl
  have hxs : xs.length = 6 := hn
  have f0 : DataW.trod enc Tryz.prog W 0 (fun _ => true) true n 3 ((cs.drop 0).take (Tryz.prog.cellsOf 3)) = xs[0]? := hf 0 _ rfl
  rw [List.getElem?_eq_getElem (by omega), show Tryz.prog.cellsOf 3 = 1 from by kernel_rfl] at f0
  have f1 : DataW.trod enc Tryz.prog W 0 (fun _ => true) true n 3 ((cs.drop 1).take (Tryz.prog.cellsOf 3)) = xs[1]? := hf 1 _ rfl
  rw [List.getElem?_eq_getElem (by omega), show Tryz.prog.cellsOf 3 = 1 from by kernel_rfl] at f1
  have f2 : DataW.trod enc Tryz.prog W 0 (fun _ => true) true n 3 ((cs.drop 2).take (Tryz.prog.cellsOf 3)) = xs[2]? := hf 2 _ rfl
  rw [List.getElem?_eq_getElem (by omega), show Tryz.prog.cellsOf 3 = 1 from by kernel_rfl] at f2
  have f3 : DataW.trod enc Tryz.prog W 0 (fun _ => true) true n 3 ((cs.drop 3).take (Tryz.prog.cellsOf 3)) = xs[3]? := hf 3 _ rfl
  rw [List.getElem?_eq_getElem (by omega), show Tryz.prog.cellsOf 3 = 1 from by kernel_rfl] at f3
  have f4 : DataW.trod enc Tryz.prog W 0 (fun _ => true) true n 25 ((cs.drop 4).take (Tryz.prog.cellsOf 25)) = xs[4]? := hf 4 _ rfl
  rw [List.getElem?_eq_getElem (by omega), show Tryz.prog.cellsOf 25 = 32 from by kernel_rfl] at f4
  have f5 : DataW.trod enc Tryz.prog W 0 (fun _ => true) true n 27 ((cs.drop 36).take (Tryz.prog.cellsOf 27)) = xs[5]? := hf 5 _ rfl
  rw [List.getElem?_eq_getElem (by omega), show Tryz.prog.cellsOf 27 = 2 from by kernel_rfl] at f5
  obtain ⟨kd, e0, _, w0⟩ := DataW.trod_int Tryz.underlying3 f0
  obtain ⟨ep, e1, _, w1⟩ := DataW.trod_int Tryz.underlying3 f1
  obtain ⟨rn, e2, _, w2⟩ := DataW.trod_int Tryz.underlying3 f2
  obtain ⟨rp, e3, _, w3⟩ := DataW.trod_int Tryz.underlying3 f3
  obtain ⟨hh, e4, w4, w4'⟩ := trod_arr Tryz.underlying25 Tryz.underlying5 (by kernel_rfl) (by kernel_rfl) f4
  obtain ⟨sb, mr, e5, w5, w5'⟩ := trod_pair Tryz.underlying27 rfl rfl rfl (by kernel_rfl) f5
  have hcs := segs_all cs [1, 1, 1, 1, 32, 2] 0 (by simpa using hl)
  simp only [List.drop_zero, segs, List.flatten_cons, List.flatten_nil, List.append_nil, Nat.zero_add, Nat.reduceAdd, e0, e1, e2, e3, e4, e5] at hcs
  (try rw [List.drop_zero] at e0)
  (try simp only [e0] at hcs)
  exact ⟨⟨kd, ep, rn, rp, hh, sb, mr⟩, by rw [hcs]; rfl, ⟨bounds_i64 w0, bounds_i64 w1, bounds_i64 w2, bounds_i64 w3, ⟨w4', w4⟩, w5, w5'⟩⟩
theorem reads_dn : Reads DnR 56 := by
  intro H enc W fuel cs x h
  obtain ⟨xs, n, _, -, hl, hn, hf⟩ := DataW.trod_struct Tryz.underlying56 h
  rw [show Tryz.prog.cellsOf 56 = 4 from by kernel_rfl] at hl
  have hxs : xs.length = 3 := hn
  have f0 : DataW.trod enc Tryz.prog W 0 (fun _ => true) true n 3 ((cs.drop 0).take (Tryz.prog.cellsOf 3)) = xs[0]? := hf 0 _ rfl
  rw [List.getElem?_eq_getElem (by omega), show Tryz.prog.cellsOf 3 = 1 from by kernel_rfl] at f0
  have f1 : DataW.trod enc Tryz.prog W 0 (fun _ => true) true n 3 ((cs.drop 1).take (Tryz.prog.cellsOf 3)) = xs[1]? := hf 1 _ rfl
  rw [List.getElem?_eq_getElem (by omega), show Tryz.prog.cellsOf 3 = 1 from by kernel_rfl] at f1
  have f2 : DataW.trod enc Tryz.prog W 0 (fun _ => true) true n 27 ((cs.drop 2).take (Tryz.prog.cellsOf 27)) = xs[2]? := hf 2 _ rfl
  rw [List.getElem?_eq_getElem (by omega), show Tryz.prog.cellsOf 27 = 2 from by kernel_rfl] at f2
  obtain ⟨rp, e0, _, w0⟩ := DataW.trod_int Tryz.underlying3 f0
  obtain ⟨ix, e1, _, w1⟩ := DataW.trod_int Tryz.underlying3 f1
  obtain ⟨sb, mr, e2, w2, w2'⟩ := trod_pair Tryz.underlying27 rfl rfl rfl (by kernel_rfl) f2
  have hcs := segs_all cs [1, 1, 2] 0 (by simpa using hl)
  simp only [List.drop_zero, segs, List.flatten_cons, List.flatten_nil, List.append_nil, Nat.zero_add, Nat.reduceAdd, e0, e1, e2] at hcs
  (try rw [List.drop_zero] at e0)
  (try simp only [e0] at hcs)
  exact ⟨⟨rp, ix, sb, mr⟩, by rw [hcs]; rfl, ⟨bounds_i64 w0, bounds_i64 w1, w2, w2'⟩⟩
theorem reads_ce : Reads CeR 35 := by
  intro H enc W fuel cs x h
  obtain ⟨xs, n, _, -, hl, hn, hf⟩ := DataW.trod_struct Tryz.underlying35 h
  rw [show Tryz.prog.cellsOf 35 = 38 from by kernel_rfl] at hl
  have hxs : xs.length = 2 := hn
  have f0 : DataW.trod enc Tryz.prog W 0 (fun _ => true) true n 29 ((cs.drop 0).take (Tryz.prog.cellsOf 29)) = xs[0]? := hf 0 _ rfl
  rw [List.getElem?_eq_getElem (by omega), show Tryz.prog.cellsOf 29 = 37 from by kernel_rfl] at f0
  have f1 : DataW.trod enc Tryz.prog W 0 (fun _ => true) true n 33 ((cs.drop 37).take (Tryz.prog.cellsOf 33)) = xs[1]? := hf 1 _ rfl
  rw [List.getElem?_eq_getElem (by omega), show Tryz.prog.cellsOf 33 = 1 from by kernel_rfl] at f1
  obtain ⟨c, e0, w0⟩ := reads_cm _ _ _ _ _ _ f0
  obtain ⟨v, e1⟩ := seg_one (cs := cs) (off := 37) (by omega)
  rw [e1] at f1
  obtain ⟨l, w1⟩ := trod_slice reads_st Tryz.underlying33 (by kernel_rfl) f1
  have hcs := segs_all cs [37, 1] 0 (by simpa using hl)
  simp only [List.drop_zero, segs, List.flatten_cons, List.flatten_nil, List.append_nil, Nat.zero_add, Nat.reduceAdd, e0, e1] at hcs
  (try rw [List.drop_zero] at e0)
  (try simp only [e0] at hcs)
  exact ⟨⟨c, l⟩, v, hcs, w0, w1⟩
theorem reads_pm : Reads PmR 40 := by
  intro H enc W fuel cs x h
  obtain ⟨xs, n, _, -, hl, hn, hf⟩ := DataW.trod_struct Tryz.underlying40 h
  rw [show Tryz.prog.cellsOf 40 = 6 from by kernel_rfl] at hl
  have hxs : xs.length = 5 := hn
  have f0 : DataW.trod enc Tryz.prog W 0 (fun _ => true) true n 3 ((cs.drop 0).take (Tryz.prog.cellsOf 3)) = xs[0]? := hf 0 _ rfl
  rw [List.getElem?_eq_getElem (by omega), show Tryz.prog.cellsOf 3 = 1 from by kernel_rfl] at f0
  have f1 : DataW.trod enc Tryz.prog W 0 (fun _ => true) true n 3 ((cs.drop 1).take (Tryz.prog.cellsOf 3)) = xs[1]? := hf 1 _ rfl
  rw [List.getElem?_eq_getElem (by omega), show Tryz.prog.cellsOf 3 = 1 from by kernel_rfl] at f1
  have f2 : DataW.trod enc Tryz.prog W 0 (fun _ => true) true n 30 ((cs.drop 2).take (Tryz.prog.cellsOf 30)) = xs[2]? := hf 2 _ rfl
  rw [List.getElem?_eq_getElem (by omega), show Tryz.prog.cellsOf 30 = 1 from by kernel_rfl] at f2
  have f3 : DataW.trod enc Tryz.prog W 0 (fun _ => true) true n 38 ((cs.drop 3).take (Tryz.prog.cellsOf 38)) = xs[3]? := hf 3 _ rfl
  rw [List.getElem?_eq_getElem (by omega), show Tryz.prog.cellsOf 38 = 1 from by kernel_rfl] at f3
  have f4 : DataW.trod enc Tryz.prog W 0 (fun _ => true) true n 27 ((cs.drop 4).take (Tryz.prog.cellsOf 27)) = xs[4]? := hf 4 _ rfl
  rw [List.getElem?_eq_getElem (by omega), show Tryz.prog.cellsOf 27 = 2 from by kernel_rfl] at f4
  obtain ⟨rp, e0, _, w0⟩ := DataW.trod_int Tryz.underlying3 f0
  obtain ⟨ep, e1, _, w1⟩ := DataW.trod_int Tryz.underlying3 f1
  obtain ⟨fl', e2, _, w2⟩ := DataW.trod_int Tryz.underlying30 f2
  obtain ⟨fl, rfl, w2'⟩ := u64_nat w2
  obtain ⟨v, e3⟩ := seg_one (cs := cs) (off := 3) (by omega)
  rw [e3] at f3
  obtain ⟨l, w3⟩ := trod_slice reads_ce Tryz.underlying38 (by kernel_rfl) f3
  obtain ⟨sb, mr, e4, w4, w4'⟩ := trod_pair Tryz.underlying27 rfl rfl rfl (by kernel_rfl) f4
  have hcs := segs_all cs [1, 1, 1, 1, 2] 0 (by simpa using hl)
  simp only [List.drop_zero, segs, List.flatten_cons, List.flatten_nil, List.append_nil, Nat.zero_add, Nat.reduceAdd, e0, e1, e2, e3, e4] at hcs
  (try rw [List.drop_zero] at e0)
  (try simp only [e0] at hcs)
  exact ⟨⟨rp, ep, fl, l, sb, mr⟩, v, hcs, ⟨bounds_i64 w0, bounds_i64 w1, w2', w4, w4'⟩, w3⟩
theorem reads_op : Reads OpR 54 := by
  intro H enc W fuel cs x h
  obtain ⟨xs, n, _, -, hl, hn, hf⟩ := DataW.trod_struct Tryz.underlying54 h
  rw [show Tryz.prog.cellsOf 54 = 34 from by kernel_rfl] at hl
  have hxs : xs.length = 3 := hn
  have f0 : DataW.trod enc Tryz.prog W 0 (fun _ => true) true n 3 ((cs.drop 0).take (Tryz.prog.cellsOf 3)) = xs[0]? := hf 0 _ rfl
  rw [List.getElem?_eq_getElem (by omega), show Tryz.prog.cellsOf 3 = 1 from by kernel_rfl] at f0
  have f1 : DataW.trod enc Tryz.prog W 0 (fun _ => true) true n 52 ((cs.drop 1).take (Tryz.prog.cellsOf 52)) = xs[1]? := hf 1 _ rfl
  rw [List.getElem?_eq_getElem (by omega), show Tryz.prog.cellsOf 52 = 1 from by kernel_rfl] at f1
  have f2 : DataW.trod enc Tryz.prog W 0 (fun _ => true) true n 25 ((cs.drop 2).take (Tryz.prog.cellsOf 25)) = xs[2]? := hf 2 _ rfl
  rw [List.getElem?_eq_getElem (by omega), show Tryz.prog.cellsOf 25 = 32 from by kernel_rfl] at f2
  obtain ⟨ix, e0, _, w0⟩ := DataW.trod_int Tryz.underlying3 f0
  obtain ⟨v, e1⟩ := seg_one (cs := cs) (off := 1) (by omega)
  rw [e1] at f1
  obtain ⟨pl, w1⟩ := trod_bytes f1
  obtain ⟨hh, e2, w2, w2'⟩ := trod_arr Tryz.underlying25 Tryz.underlying5 (by kernel_rfl) (by kernel_rfl) f2
  have hcs := segs_all cs [1, 1, 32] 0 (by simpa using hl)
  simp only [List.drop_zero, segs, List.flatten_cons, List.flatten_nil, List.append_nil, Nat.zero_add, Nat.reduceAdd, e0, e1, e2] at hcs
  (try rw [List.drop_zero] at e0)
  (try simp only [e0] at hcs)
  exact ⟨⟨ix, pl, hh⟩, v, hcs, ⟨bounds_i64 w0, w2', w2⟩, w1⟩
theorem reads_tb : Reads TbR 128 := by
  intro H enc W fuel cs x h
  obtain ⟨xs, n, _, -, hl, hn, hf⟩ := DataW.trod_struct Tryz.underlying128 h
  rw [show Tryz.prog.cellsOf 128 = 2 from by kernel_rfl] at hl
  have hxs : xs.length = 2 := hn
  have f0 : DataW.trod enc Tryz.prog W 0 (fun _ => true) true n 3 ((cs.drop 0).take (Tryz.prog.cellsOf 3)) = xs[0]? := hf 0 _ rfl
  rw [List.getElem?_eq_getElem (by omega), show Tryz.prog.cellsOf 3 = 1 from by kernel_rfl] at f0
  have f1 : DataW.trod enc Tryz.prog W 0 (fun _ => true) true n 126 ((cs.drop 1).take (Tryz.prog.cellsOf 126)) = xs[1]? := hf 1 _ rfl
  rw [List.getElem?_eq_getElem (by omega), show Tryz.prog.cellsOf 126 = 1 from by kernel_rfl] at f1
  obtain ⟨ix, e0, _, w0⟩ := DataW.trod_int Tryz.underlying3 f0
  obtain ⟨v, e1⟩ := seg_one (cs := cs) (off := 1) (by omega)
  rw [e1] at f1
  obtain ⟨l, w1⟩ := trod_slice reads_dn Tryz.underlying126 (by kernel_rfl) f1
  have hcs := segs_all cs [1, 1] 0 (by simpa using hl)
  simp only [List.drop_zero, segs, List.flatten_cons, List.flatten_nil, List.append_nil, Nat.zero_add, Nat.reduceAdd, e0, e1] at hcs
  (try rw [List.drop_zero] at e0)
  (try simp only [e0] at hcs)
  exact ⟨⟨ix, l⟩, v, hcs, bounds_i64 w0, w1⟩
theorem reads_ba : Reads BaR 45 := by
  intro H enc W fuel cs x h
  obtain ⟨xs, n, _, -, hl, hn, hf⟩ := DataW.trod_struct Tryz.underlying45 h
  rw [show Tryz.prog.cellsOf 45 = 5 from by kernel_rfl] at hl
  have hxs : xs.length = 5 := hn
  have f0 : DataW.trod enc Tryz.prog W 0 (fun _ => true) true n 3 ((cs.drop 0).take (Tryz.prog.cellsOf 3)) = xs[0]? := hf 0 _ rfl
  rw [List.getElem?_eq_getElem (by omega), show Tryz.prog.cellsOf 3 = 1 from by kernel_rfl] at f0
  have f1 : DataW.trod enc Tryz.prog W 0 (fun _ => true) true n 30 ((cs.drop 1).take (Tryz.prog.cellsOf 30)) = xs[1]? := hf 1 _ rfl
  rw [List.getElem?_eq_getElem (by omega), show Tryz.prog.cellsOf 30 = 1 from by kernel_rfl] at f1
  have f2 : DataW.trod enc Tryz.prog W 0 (fun _ => true) true n 41 ((cs.drop 2).take (Tryz.prog.cellsOf 41)) = xs[2]? := hf 2 _ rfl
  rw [List.getElem?_eq_getElem (by omega), show Tryz.prog.cellsOf 41 = 1 from by kernel_rfl] at f2
  have f3 : DataW.trod enc Tryz.prog W 0 (fun _ => true) true n 42 ((cs.drop 3).take (Tryz.prog.cellsOf 42)) = xs[3]? := hf 3 _ rfl
  rw [List.getElem?_eq_getElem (by omega), show Tryz.prog.cellsOf 42 = 1 from by kernel_rfl] at f3
  have f4 : DataW.trod enc Tryz.prog W 0 (fun _ => true) true n 43 ((cs.drop 4).take (Tryz.prog.cellsOf 43)) = xs[4]? := hf 4 _ rfl
  rw [List.getElem?_eq_getElem (by omega), show Tryz.prog.cellsOf 43 = 1 from by kernel_rfl] at f4
  obtain ⟨ep, e0, _, w0⟩ := DataW.trod_int Tryz.underlying3 f0
  obtain ⟨tm', e1, _, w1⟩ := DataW.trod_int Tryz.underlying30 f1
  obtain ⟨tm, rfl, w1'⟩ := u64_nat w1
  obtain ⟨vp, e2⟩ := seg_one (cs := cs) (off := 2) (by omega)
  rw [e2] at f2
  obtain ⟨ps, w2⟩ := trod_slice reads_pm Tryz.underlying41 (by kernel_rfl) f2
  obtain ⟨vo, e3⟩ := seg_one (cs := cs) (off := 3) (by omega)
  rw [e3] at f3
  obtain ⟨os, w3⟩ := trod_slice reads_op Tryz.underlying42 (by kernel_rfl) f3
  obtain ⟨vt, e4⟩ := seg_one (cs := cs) (off := 4) (by omega)
  rw [e4] at f4
  obtain ⟨ts, w4⟩ := trod_slice reads_tb Tryz.underlying43 (by kernel_rfl) f4
  have hcs := segs_all cs [1, 1, 1, 1, 1] 0 (by simpa using hl)
  simp only [List.drop_zero, segs, List.flatten_cons, List.flatten_nil, List.append_nil, Nat.zero_add, Nat.reduceAdd, e0, e1, e2, e3, e4] at hcs
  (try rw [List.drop_zero] at e0)
  (try simp only [e0] at hcs)
  exact ⟨⟨ep, tm, ps, os, ts⟩, vp, vo, vt, hcs, ⟨bounds_i64 w0, w1'⟩, w2, w3, w4⟩
end Go.Proofs.YtpnikilkcifncaaGreat

/- Proposals as arguments. -/
namespace Go.Proofs.YtpnikilkcifncaaGreat
open Go Go.RowKit Go.Gv Go.ChangeShapes Go.WideShapes Go.ChangeAt Go.Deep

theorem reads_pr : Reads PrR 47 := by
 intro H enc W fuel cs x h
 obtain ⟨xs, n, _, -, hl, hn, hf⟩ := DataW.trod_struct Tryz.underlying47 h
 rw [show Tryz.prog.cellsOf 47 = 11 from by kernel_rfl] at hl
 have hxs : xs.length = 6 := hn
 have f0 : DataW.trod enc Tryz.prog W 0 (fun _ => true) true n 3 ((cs.drop 0).take (Tryz.prog.cellsOf 3)) = xs[0]? := hf 0 _ rfl
 rw [List.getElem?_eq_getElem (by omega), show Tryz.prog.cellsOf 3 = 1 from by kernel_rfl] at f0
 have f1 : DataW.trod enc Tryz.prog W 0 (fun _ => true) true n 3 ((cs.drop 1).take (Tryz.prog.cellsOf 3)) = xs[1]? := hf 1 _ rfl
 rw [List.getElem?_eq_getElem (by omega), show Tryz.prog.cellsOf 3 = 1 from by kernel_rfl] at f1
 have f2 : DataW.trod enc Tryz.prog W 0 (fun _ => true) true n 3 ((cs.drop 2).take (Tryz.prog.cellsOf 3)) = xs[2]? := hf 2 _ rfl
 rw [List.getElem?_eq_getElem (by omega), show Tryz.prog.cellsOf 3 = 1 from by kernel_rfl] at f2
 have f3 : DataW.trod enc Tryz.prog W 0 (fun _ => true) true n 3 ((cs.drop 3).take (Tryz.prog.cellsOf 3)) = xs[3]? := hf 3 _ rfl
 rw [List.getElem?_eq_getElem (by omega), show Tryz.prog.cellsOf 3 = 1 from by kernel_rfl] at f3
 have f4 : DataW.trod enc Tryz.prog W 0 (fun _ => true) true n 45 ((cs.drop 4).take (Tryz.prog.cellsOf 45)) = xs[4]? := hf 4 _ rfl
 rw [List.getElem?_eq_getElem (by omega), show Tryz.prog.cellsOf 45 = 5 from by kernel_rfl] at f4
 have f5 : DataW.trod enc Tryz.prog W 0 (fun _ => true) true n 27 ((cs.drop 9).take (Tryz.prog.cellsOf 27)) = xs[5]? := hf 5 _ rfl
 rw [List.getElem?_eq_getElem (by omega), show Tryz.prog.cellsOf 27 = 2 from by kernel_rfl] at f5
 obtain ⟨ep, e0, _, w0⟩ := DataW.trod_int Tryz.underlying3 f0
 obtain ⟨rn, e1, _, w1⟩ := DataW.trod_int Tryz.underlying3 f1
 obtain ⟨vl, e2, _, w2⟩ := DataW.trod_int Tryz.underlying3 f2
 obtain ⟨rp, e3, _, w3⟩ := DataW.trod_int Tryz.underlying3 f3
 obtain ⟨ba, w4⟩ := reads_ba _ _ _ _ _ _ f4
 obtain ⟨vp, vo, vt, e4, w4, w4'⟩ := w4
 obtain ⟨sb, mr, e5, w5, w5'⟩ := trod_pair Tryz.underlying27 rfl rfl rfl (by kernel_rfl) f5
 have hcs := segs_all cs [1, 1, 1, 1, 5, 2] 0 (by simpa using hl)
 simp only [List.drop_zero, segs, List.flatten_cons, List.flatten_nil, List.append_nil, Nat.zero_add, Nat.reduceAdd, e0, e1, e2, e3, e4, e5] at hcs
 (try rw [List.drop_zero] at e0)
 (try simp only [e0] at hcs)
 exact ⟨⟨ep, rn, vl, rp, ba, sb, mr⟩, vp, vo, vt, hcs, ⟨bounds_i64 w0, bounds_i64 w1, bounds_i64 w2, bounds_i64 w3, w4, w5, w5'⟩, w4'⟩
end Go.Proofs.YtpnikilkcifncaaGreat

/- Messages as arguments. -/
namespace Go.Proofs.YtpnikilkcifncaaGreat
open Go Go.RowKit Go.Gv Go.ChangeShapes Go.WideShapes Go.ChangeAt Go.Deep

theorem reads_dc : Reads DcR 59 := by
 intro H enc W fuel cs x h
 obtain ⟨xs, n, _, -, hl, hn, hf⟩ := DataW.trod_struct Tryz.underlying59 h
 rw [show Tryz.prog.cellsOf 59 = 8 from by kernel_rfl] at hl
 have hxs : xs.length = 4 := hn
 have f0 : DataW.trod enc Tryz.prog W 0 (fun _ => true) true n 3 ((cs.drop 0).take (Tryz.prog.cellsOf 3)) = xs[0]? := hf 0 _ rfl
 rw [List.getElem?_eq_getElem (by omega), show Tryz.prog.cellsOf 3 = 1 from by kernel_rfl] at f0
 have f1 : DataW.trod enc Tryz.prog W 0 (fun _ => true) true n 3 ((cs.drop 1).take (Tryz.prog.cellsOf 3)) = xs[1]? := hf 1 _ rfl
 rw [List.getElem?_eq_getElem (by omega), show Tryz.prog.cellsOf 3 = 1 from by kernel_rfl] at f1
 have f2 : DataW.trod enc Tryz.prog W 0 (fun _ => true) true n 45 ((cs.drop 2).take (Tryz.prog.cellsOf 45)) = xs[2]? := hf 2 _ rfl
 rw [List.getElem?_eq_getElem (by omega), show Tryz.prog.cellsOf 45 = 5 from by kernel_rfl] at f2
 have f3 : DataW.trod enc Tryz.prog W 0 (fun _ => true) true n 57 ((cs.drop 7).take (Tryz.prog.cellsOf 57)) = xs[3]? := hf 3 _ rfl
 rw [List.getElem?_eq_getElem (by omega), show Tryz.prog.cellsOf 57 = 1 from by kernel_rfl] at f3
 obtain ⟨ep, e0, _, w0⟩ := DataW.trod_int Tryz.underlying3 f0
 obtain ⟨rn, e1, _, w1⟩ := DataW.trod_int Tryz.underlying3 f1
 obtain ⟨ba, w2⟩ := reads_ba _ _ _ _ _ _ f2
 obtain ⟨vp, vo, vt, e2, w2, w2'⟩ := w2
 obtain ⟨vl, e3⟩ := seg_one (cs := cs) (off := 7) (by omega)
 rw [e3] at f3
 obtain ⟨l, w3⟩ := trod_slice reads_vt Tryz.underlying57 (by kernel_rfl) f3
 have hcs := segs_all cs [1, 1, 5, 1] 0 (by simpa using hl)
 simp only [List.drop_zero, segs, List.flatten_cons, List.flatten_nil, List.append_nil, Nat.zero_add, Nat.reduceAdd, e0, e1, e2, e3] at hcs
 (try rw [List.drop_zero] at e0)
 (try simp only [e0] at hcs)
 exact ⟨⟨ep, rn, ba, l⟩, vp, vo, vt, vl, hcs, ⟨bounds_i64 w0, bounds_i64 w1, w2⟩, w2'.1, w2'.2.1, w2'.2.2, w3⟩
theorem reads_en : Reads EnR 51 := by
 intro H enc W fuel cs x h
 obtain ⟨xs, n, _, -, hl, hn, hf⟩ := DataW.trod_struct Tryz.underlying51 h
 rw [show Tryz.prog.cellsOf 51 = 35 from by kernel_rfl] at hl
 have hxs : xs.length = 3 := hn
 have f0 : DataW.trod enc Tryz.prog W 0 (fun _ => true) true n 23 ((cs.drop 0).take (Tryz.prog.cellsOf 23)) = xs[0]? := hf 0 _ rfl
 rw [List.getElem?_eq_getElem (by omega), show Tryz.prog.cellsOf 23 = 2 from by kernel_rfl] at f0
 have f1 : DataW.trod enc Tryz.prog W 0 (fun _ => true) true n 25 ((cs.drop 2).take (Tryz.prog.cellsOf 25)) = xs[1]? := hf 1 _ rfl
 rw [List.getElem?_eq_getElem (by omega), show Tryz.prog.cellsOf 25 = 32 from by kernel_rfl] at f1
 have f2 : DataW.trod enc Tryz.prog W 0 (fun _ => true) true n 30 ((cs.drop 34).take (Tryz.prog.cellsOf 30)) = xs[2]? := hf 2 _ rfl
 rw [List.getElem?_eq_getElem (by omega), show Tryz.prog.cellsOf 30 = 1 from by kernel_rfl] at f2
 obtain ⟨cl, sq, e0, w0, w0'⟩ := trod_pair Tryz.underlying23 rfl rfl rfl (by kernel_rfl) f0
 obtain ⟨hh, e1, w1, w1'⟩ := trod_arr Tryz.underlying25 Tryz.underlying5 (by kernel_rfl) (by kernel_rfl) f1
 obtain ⟨tm', e2, _, w2⟩ := DataW.trod_int Tryz.underlying30 f2
 obtain ⟨tm, rfl, w2'⟩ := u64_nat w2
 have hcs := segs_all cs [2, 32, 1] 0 (by simpa using hl)
 simp only [List.drop_zero, segs, List.flatten_cons, List.flatten_nil, List.append_nil, Nat.zero_add, Nat.reduceAdd, e0, e1, e2] at hcs
 (try rw [List.drop_zero] at e0)
 (try simp only [e0] at hcs)
 exact ⟨⟨cl, sq, hh, tm⟩, (by first | exact hcs | (rw [hcs]; rfl)), ⟨w0, w0', ⟨w1', w1⟩, w2'⟩⟩
theorem trod_str1 {H : Type} {enc : TypeId × Value → H} {W : World} {n : Nat} {cs : List Value} {x : DataW H × List MemPlace} (h : DataW.trod enc Tryz.prog W 0 (fun _ => true) true n 9 cs = some x) : ∃ s : ByteArray, cs = [.string s] := by
 obtain ⟨s, hc, _, _⟩ := DataW.trod_string Tryz.underlying9 h
 exact ⟨s, hc⟩
theorem reads_mg : Reads MgR 61 := by
 intro H enc W fuel cs x h
 obtain ⟨xs, n, _, -, hl, hn, hf⟩ := DataW.trod_struct Tryz.underlying61 h
 rw [show Tryz.prog.cellsOf 61 = 295 from by kernel_rfl] at hl
 have hxs : xs.length = 19 := hn
 have f0 : DataW.trod enc Tryz.prog W 0 (fun _ => true) true n 3 ((cs.drop 0).take (Tryz.prog.cellsOf 3)) = xs[0]? := hf 0 _ rfl
 rw [List.getElem?_eq_getElem (by omega), show Tryz.prog.cellsOf 3 = 1 from by kernel_rfl] at f0
 have f1 : DataW.trod enc Tryz.prog W 0 (fun _ => true) true n 3 ((cs.drop 1).take (Tryz.prog.cellsOf 3)) = xs[1]? := hf 1 _ rfl
 rw [List.getElem?_eq_getElem (by omega), show Tryz.prog.cellsOf 3 = 1 from by kernel_rfl] at f1
 have f2 : DataW.trod enc Tryz.prog W 0 (fun _ => true) true n 3 ((cs.drop 2).take (Tryz.prog.cellsOf 3)) = xs[2]? := hf 2 _ rfl
 rw [List.getElem?_eq_getElem (by omega), show Tryz.prog.cellsOf 3 = 1 from by kernel_rfl] at f2
 have f3 : DataW.trod enc Tryz.prog W 0 (fun _ => true) true n 29 ((cs.drop 3).take (Tryz.prog.cellsOf 29)) = xs[3]? := hf 3 _ rfl
 rw [List.getElem?_eq_getElem (by omega), show Tryz.prog.cellsOf 29 = 37 from by kernel_rfl] at f3
 have f4 : DataW.trod enc Tryz.prog W 0 (fun _ => true) true n 32 ((cs.drop 40).take (Tryz.prog.cellsOf 32)) = xs[4]? := hf 4 _ rfl
 rw [List.getElem?_eq_getElem (by omega), show Tryz.prog.cellsOf 32 = 38 from by kernel_rfl] at f4
 have f5 : DataW.trod enc Tryz.prog W 0 (fun _ => true) true n 35 ((cs.drop 78).take (Tryz.prog.cellsOf 35)) = xs[5]? := hf 5 _ rfl
 rw [List.getElem?_eq_getElem (by omega), show Tryz.prog.cellsOf 35 = 38 from by kernel_rfl] at f5
 have f6 : DataW.trod enc Tryz.prog W 0 (fun _ => true) true n 37 ((cs.drop 116).take (Tryz.prog.cellsOf 37)) = xs[6]? := hf 6 _ rfl
 rw [List.getElem?_eq_getElem (by omega), show Tryz.prog.cellsOf 37 = 38 from by kernel_rfl] at f6
 have f7 : DataW.trod enc Tryz.prog W 0 (fun _ => true) true n 3 ((cs.drop 154).take (Tryz.prog.cellsOf 3)) = xs[7]? := hf 7 _ rfl
 rw [List.getElem?_eq_getElem (by omega), show Tryz.prog.cellsOf 3 = 1 from by kernel_rfl] at f7
 have f8 : DataW.trod enc Tryz.prog W 0 (fun _ => true) true n 3 ((cs.drop 155).take (Tryz.prog.cellsOf 3)) = xs[8]? := hf 8 _ rfl
 rw [List.getElem?_eq_getElem (by omega), show Tryz.prog.cellsOf 3 = 1 from by kernel_rfl] at f8
 have f9 : DataW.trod enc Tryz.prog W 0 (fun _ => true) true n 30 ((cs.drop 156).take (Tryz.prog.cellsOf 30)) = xs[9]? := hf 9 _ rfl
 rw [List.getElem?_eq_getElem (by omega), show Tryz.prog.cellsOf 30 = 1 from by kernel_rfl] at f9
 have f10 : DataW.trod enc Tryz.prog W 0 (fun _ => true) true n 40 ((cs.drop 157).take (Tryz.prog.cellsOf 40)) = xs[10]? := hf 10 _ rfl
 rw [List.getElem?_eq_getElem (by omega), show Tryz.prog.cellsOf 40 = 6 from by kernel_rfl] at f10
 have f11 : DataW.trod enc Tryz.prog W 0 (fun _ => true) true n 47 ((cs.drop 163).take (Tryz.prog.cellsOf 47)) = xs[11]? := hf 11 _ rfl
 rw [List.getElem?_eq_getElem (by omega), show Tryz.prog.cellsOf 47 = 11 from by kernel_rfl] at f11
 have f12 : DataW.trod enc Tryz.prog W 0 (fun _ => true) true n 49 ((cs.drop 174).take (Tryz.prog.cellsOf 49)) = xs[12]? := hf 12 _ rfl
 rw [List.getElem?_eq_getElem (by omega), show Tryz.prog.cellsOf 49 = 38 from by kernel_rfl] at f12
 have f13 : DataW.trod enc Tryz.prog W 0 (fun _ => true) true n 3 ((cs.drop 212).take (Tryz.prog.cellsOf 3)) = xs[13]? := hf 13 _ rfl
 rw [List.getElem?_eq_getElem (by omega), show Tryz.prog.cellsOf 3 = 1 from by kernel_rfl] at f13
 have f14 : DataW.trod enc Tryz.prog W 0 (fun _ => true) true n 51 ((cs.drop 213).take (Tryz.prog.cellsOf 51)) = xs[14]? := hf 14 _ rfl
 rw [List.getElem?_eq_getElem (by omega), show Tryz.prog.cellsOf 51 = 35 from by kernel_rfl] at f14
 have f15 : DataW.trod enc Tryz.prog W 0 (fun _ => true) true n 54 ((cs.drop 248).take (Tryz.prog.cellsOf 54)) = xs[15]? := hf 15 _ rfl
 rw [List.getElem?_eq_getElem (by omega), show Tryz.prog.cellsOf 54 = 34 from by kernel_rfl] at f15
 have f16 : DataW.trod enc Tryz.prog W 0 (fun _ => true) true n 56 ((cs.drop 282).take (Tryz.prog.cellsOf 56)) = xs[16]? := hf 16 _ rfl
 rw [List.getElem?_eq_getElem (by omega), show Tryz.prog.cellsOf 56 = 4 from by kernel_rfl] at f16
 have f17 : DataW.trod enc Tryz.prog W 0 (fun _ => true) true n 9 ((cs.drop 286).take (Tryz.prog.cellsOf 9)) = xs[17]? := hf 17 _ rfl
 rw [List.getElem?_eq_getElem (by omega), show Tryz.prog.cellsOf 9 = 1 from by kernel_rfl] at f17
 have f18 : DataW.trod enc Tryz.prog W 0 (fun _ => true) true n 59 ((cs.drop 287).take (Tryz.prog.cellsOf 59)) = xs[18]? := hf 18 _ rfl
 rw [List.getElem?_eq_getElem (by omega), show Tryz.prog.cellsOf 59 = 8 from by kernel_rfl] at f18
 obtain ⟨kd, e0, _, w0⟩ := DataW.trod_int Tryz.underlying3 f0
 obtain ⟨fr, e1, _, w1⟩ := DataW.trod_int Tryz.underlying3 f1
 obtain ⟨to_, e2, _, w2⟩ := DataW.trod_int Tryz.underlying3 f2
 obtain ⟨cm, e3, w3⟩ := reads_cm _ _ _ _ _ _ f3
 obtain ⟨st, e4, w4⟩ := reads_st _ _ _ _ _ _ f4
 obtain ⟨ce, w5⟩ := reads_ce _ _ _ _ _ _ f5
 obtain ⟨ak, e6, w6⟩ := reads_ak _ _ _ _ _ _ f6
 obtain ⟨ep, e7, _, w7⟩ := DataW.trod_int Tryz.underlying3 f7
 obtain ⟨rn, e8, _, w8⟩ := DataW.trod_int Tryz.underlying3 f8
 obtain ⟨tm', e9, _, w9⟩ := DataW.trod_int Tryz.underlying30 f9
 obtain ⟨tm, rfl, w9'⟩ := u64_nat w9
 obtain ⟨pm, w10⟩ := reads_pm _ _ _ _ _ _ f10
 obtain ⟨pr, w11⟩ := reads_pr _ _ _ _ _ _ f11
 obtain ⟨vt, e12, w12⟩ := reads_vt _ _ _ _ _ _ f12
 obtain ⟨ix, e13, _, w13⟩ := DataW.trod_int Tryz.underlying3 f13
 obtain ⟨en, e14, w14⟩ := reads_en _ _ _ _ _ _ f14
 obtain ⟨op, w15⟩ := reads_op _ _ _ _ _ _ f15
 obtain ⟨dn, e16, w16⟩ := reads_dn _ _ _ _ _ _ f16
 obtain ⟨rp, e17⟩ := trod_str1 f17
 obtain ⟨dc, w18⟩ := reads_dc _ _ _ _ _ _ f18
 have hcs := segs_all cs [1, 1, 1, 37, 38, 38, 38, 1, 1, 1, 6, 11, 38, 1, 35, 34, 4, 1, 8] 0 (by simpa using hl)
 simp only [List.drop_zero, segs, Nat.zero_add, Nat.reduceAdd, e1, e2, e3, e4, e6, e7, e8, e9, e12, e13, e14, e16, e17] at hcs
 (try rw [List.drop_zero] at e0)
 (try simp only [e0] at hcs)
 exact ⟨⟨kd, fr, to_, cm, st, ce, ak, ep, rn, tm, pm, pr, vt, ix, en, op, dn, rp, dc⟩, (cs.drop 78).take 38, (cs.drop 157).take 6, (cs.drop 163).take 11, (cs.drop 248).take 34, (cs.drop 287).take 8, hcs, ⟨bounds_i64 w0, bounds_i64 w1, bounds_i64 w2, w3, w4, w6, bounds_i64 w7, bounds_i64 w8, w9', w12, bounds_i64 w13, w14, w16⟩, w5, w10, w11, w15, w18⟩
end Go.Proofs.YtpnikilkcifncaaGreat
