/- Texts that are built one behind the other: XPt2, XPt3, XMg, XGt3, XZm, XMq, XMl, XMh, XMt. No condition. -/
import Derived.Test.YtpnikilkcifncaaMun2
import Derived.OpenShut
set_option maxRecDepth 100000
set_option linter.unusedVariables false
/- Parts of messages, put as bytes. -/
namespace Go.Proofs.Ytpnikilkcifncaa
open Go Go.RowKit Go.Gv

set_option maxHeartbeats 4000000 in
theorem PutDn_Q : Puts DnR 91 dnB := by
  intro R R2 g bs cs x w hW hB hx hB2 hD hl
  obtain ⟨rfl, hok⟩ := hx
  have HW := Lib.hid hW
  have HBR := Lib.hid hB
  have HBT := Lib.hid hB2
  have HDJ := Lib.hid hD
  have HOK := Lib.hid hok
  have HL := Lib.hid hl
  clear hW hB hB2 hD hl hok
  unfold dnB at HL
  go_enter Try.func91, Try.ntmps91
  go_upto_region 1 with (fail)
  obtain ⟨w1, hw1⟩ : ∃ zz, zz = (w.alloc (.cells (x.cells : List Value).toArray 104)) := ⟨_, rfl⟩
  change Code.wp _ _ _ _ (w.alloc (.cells (x.cells : List Value).toArray 104))
  rw [← hw1]
  have HB3 := hid (show Cs w1 (w.heap.size) (x.cells : List Value).toArray 104 by rw [hw1]; exact Cs.new _ _ _)
  have hm : Mod (fun _ => False) w w1 := by rw [hw1]; exact (Mod.refl _ _).alloc _
  have HM0 := hid (show Mod (fun k => (R k)) w w1 from hm.mono (fun _ _ h => h.elim))
  have hs1 : w1.heap.size = w.heap.size + 1 := by rw [hw1]; simp
  have Hx1 := hid (HW.out.mod hm (fun _ _ h => h))
  clear HW
  clear hw1 hm
  go_upto_region 1 with (fail)
  generalize ha0 : Act.mk _ _ = a0
  have oe0 : a0.eval (.tmp 0) = .pointer (some ⟨g, 0, none⟩) := by rw [← ha0]; rfl
  have oe3 : a0.eval (.tmp 3) = .pointer (some ⟨w.heap.size, 0, none⟩) := by rw [← ha0]; rfl
  have hsz0 : a0.tmps.size = 15 := by rw [← ha0]; rfl
  have HA0 := hid ha0
  clear ha0
  refine wp_region_Q1 15 hsz0 [4, 5, 6, 7, 8, 9, 10] (fun k => (R k)) (fun k j => (k = 0 ∧ ((R j))) ∨ (k = 1 ∧ ((R j)))) (by intro k j h; (try dsimp only at h ⊢); rcases h with ⟨-, h⟩ | ⟨-, h⟩; (exact h); (exact h)) [qi (.pointer (some ⟨g, 0, none⟩)), qi (.pointer (some ⟨w.heap.size, 0, none⟩)), qi (.int .i64 x.rp), qi (.pointer (some ⟨g, 0, none⟩)), qi (.pointer (some ⟨w.heap.size, 1, none⟩)), qi (.int .i64 x.ix), qi (.pointer (some ⟨g, 0, none⟩))] ⟨qi_stable, qi_stable, qi_stable, qi_stable, qi_stable, qi_stable, qi_stable, trivial⟩ [3, 6] ⟨?_, ?_, ?_, ?_, ?_, ?_, ?_, trivial⟩ ?_
  · exact stq (fun E => ex_move rfl (E.v oe0))
  · exact stq (fun E => ex_field rfl Try.underlying104 rfl (by kernel_rfl) (E.v oe3))
  · exact stq (fun E => ex_load1 rfl Try.underlying3 rfl (E.d 1) (Cs.lit1 (HB3.out.mod E.m (by intro h2; rcases h2 with ⟨h0, h2⟩ | h2 <;> first | omega | (have hb := HBR.out _ h2; omega))) rfl))
  · exact stepq_chain rfl
  · exact stq (fun E => ex_field rfl Try.underlying104 rfl (by kernel_rfl) (E.v oe3))
  · exact stq (fun E => ex_load1 rfl Try.underlying3 rfl (E.d 4) (Cs.lit1 (HB3.out.mod E.m (by intro h2; rcases h2 with ⟨h0, h2⟩ | h2 <;> first | omega | (have hb := HBR.out _ h2; omega))) rfl))
  · exact stepq_chain rfl
  intro u1_0 hr
  have zu1_0 := hr.size
  have Cx2 := hid (hr.new (S := (fun k => (R k))))
  have Hx3 := hid (Hx1.out.mod hr (by intro k h1 h2; have hb := HBR.out k h1; omega))
  clear Hx1
  clear hr
  refine QChain.go fun Z act E => ?_
  refine qc_callF (args := #[.pointer (some ⟨g, 0, none⟩), .int .i64 x.rp]) rfl (wanted_none rfl) rfl Try.func52 (args2 (E.d 0) (E.d 2)) (WInt_Q Hx3.out HOK.out.rp (by have := HL.out; simp only [List.length_append] at this ⊢; omega)) ?_
  rintro e u1_1a ⟨rfl, qwr, hm⟩
  have zu1_1a := hm.size
  refine ⟨_, rfl, hm.mono (by intro k hk h; first | omega | exact Or.inl ⟨(by have hb := HBR.out k h; omega), Or.inl ⟨rfl, h⟩⟩), (fun _ => rfl), ?_⟩
  intro u1_1 hr
  have zu1_1 := hr.size
  have Hx4 := hid ((qwr.widen (R' := (fun k => (R k) ∨ (New u1_0 u1_1a k))) (fun _ h => h) (Nat.le_refl _)).mod hr (by intro k h1 h2; rcases h1 with h1 | h1 <;> first | omega | (have hb := HBR.out k h1; omega)))
  have Cx5 := hid (Cx2.out.goM hm hr (fun _ _ h => h))
  clear Cx2 hm hr Z act E qwr Hx3
  refine QChain.go fun Z act E => ?_
  refine qc_callF (args := #[.pointer (some ⟨g, 0, none⟩), .int .i64 x.ix]) rfl (wanted_none rfl) rfl Try.func52 (args2 (E.d 3) (E.d 5)) (WInt_Q Hx4.out HOK.out.ix (by have := HL.out; simp only [List.length_append] at this ⊢; omega)) ?_
  rintro e u1_2a ⟨rfl, qwr, hm⟩
  have zu1_2a := hm.size
  refine ⟨_, rfl, hm.mono (by intro k hk h; rcases h with h | h <;> first | omega | exact Or.inl ⟨(by have hb := HBR.out k h; omega), Or.inr (⟨rfl, h⟩)⟩), (fun _ => rfl), ?_⟩
  intro u1_2 hr
  have zu1_2 := hr.size
  have Hx6 := hid ((qwr.widen (R' := (fun k => (R k) ∨ (New u1_0 u1_1a k) ∨ (New u1_1 u1_2a k))) (by intro k h1; simp only [or_assoc] at h1 ⊢; exact h1) (Nat.le_refl _)).mod hr (by intro k h1 h2; rcases h1 with h1 | h1 | h1 <;> first | omega | (have hb := HBR.out k h1; omega)))
  have Cx7 := hid (Cx5.out.goM hm hr (by intro k h0 h2; rcases h2 with h2 | h2 <;> first | omega | exact h2))
  clear Cx5 hm hr Z act E qwr Hx4
  refine QChain.nil fun vs hl hzz hrows hne => ?_
  obtain ⟨Z, hYZ, hZb, hV⟩ := hzz
  have f0 := fvi hV hl 0
  have f3 := fvi hV hl 3
  have f6 := fvi hV hl 6
  rw [show vs = [gw vs 0, gw vs 1, gw vs 2, gw vs 3, gw vs 4, gw vs 5, gw vs 6] from (gw_eta hl).trans rfl]
  have ha0 := HA0.out
  subst ha0
  clear HA0 hV hYZ hZb hsz0 hrows hne oe0 oe3
  simp only [putAll, Act.put, List.setIfInBounds_toArray, List.set_cons_zero, List.set_cons_succ, f0, f3, f6]
  clear hl f0 f3 f6
  go_upto_region 2 with (fail)
  refine wp_region_U 15 [11, 12, 13, 14] [0, 1, 2, 3] (fun a0 HA0 => ?_)
  have oe0 := ev HA0 0 rfl
  have oe3 := ev HA0 3 rfl
  refine QSeq.pure rfl _ (fun E => ex_move rfl (E.v oe0)) ?_
  refine QSeq.pure rfl (.pointer (some ⟨w.heap.size, 2, none⟩)) (fun E => ex_field rfl Try.underlying104 rfl (by kernel_rfl) (E.v oe3)) ?_
  refine QSeq.pure rfl _ (fun E => ex_loadA rfl Try.underlying34 rfl (off := 2) (cs := [.int .i64 x.sb, .int .i64 x.mr]) (by kernel_rfl) (E.d 1 0) (Cs.litA (HB3.out.mod Cx7.out (by intro h2; first | omega | (have hb := HBR.out _ h2; omega))) rfl)) ?_
  refine QSeq.call rfl rfl Try.func122 (PutSig_Q Hx6.out (by intro k h1; rcases h1 with h1 | h1 | h1 <;> first | omega | (have hb := HBR.out k h1; omega)) HOK.out.sb HOK.out.mr (by have := HL.out; simp only [List.length_append] at this ⊢; omega)) (fun E => args2 (E.d 0 2) (E.d 2 0)) ?_
  rintro e u2_3 ⟨rfl, qwr, hm⟩
  refine ⟨_, rfl, ?_⟩
  have Hx8 := hid (qwr.widen (R' := (fun k => (R k) ∨ (New u1_0 u1_1a k) ∨ (New u1_1 u1_2a k) ∨ (New u1_2 u2_3 k))) (by intro k h1; simp only [or_assoc] at h1 ⊢; exact h1) (Nat.le_refl _))
  have zu2_3 := hm.size
  have Cx9 := hid (show Mod (fun k => (R k) ∨ (New u1_0 u1_1a k) ∨ (New u1_1 u1_2a k)) u1_2 u2_3 from hm)
  clear hm
  clear qwr Hx6
  refine QSeq.nil (t' := [_, _, _, _]) rfl ?_
  obtain rfl := HA0.out
  clear HA0 oe0 oe3
  simp only [pz, Act.put, List.setIfInBounds_toArray, List.set_cons_zero, List.set_cons_succ]
  go_wp2
  go_end0
  have hq := (Hx8.out.widen (R' := (fun k => R k ∨ New w u2_3 k)) (by intro k h1; rcases h1 with h1 | h1 | h1 | h1 <;> first | exact Or.inl h1 | (right; omega)) (Nat.le_refl _))
  simp only [List.append_assoc] at hq
  exact ⟨rfl, by simpa only [dnB, List.append_assoc] using hq, ((HM0.out.trans Cx7.out (fun _ _ h => h)).trans Cx9.out (by intro k h1 h2; rcases h2 with h2 | h2 | h2 <;> first | exact h2 | omega | (have hb := HBR.out k h2; omega)))⟩
set_option maxHeartbeats 4000000 in
theorem PutList_Dn : PutsL DnR 146 91 dnB := by
  intro R R2 g bs v l w hW hB hs hB2 hD hl
  obtain ⟨ao, cap, rfl⟩ := hs.shape
  have hb64 : l.length ≤ maxLen := hs.bd
  rw [maxLen_val] at hb64
  have HI64 := hid (show I64 (l.length : Int) by unfold I64; omega)
  have HW := Lib.hid hW
  have HS := Lib.hid hs
  have HBR := Lib.hid hB
  have HBT := Lib.hid hB2
  have HDJ := Lib.hid hD
  have HL := Lib.hid hl
  clear hW hB hs hB2 hD hl
  unfold listB at HL
  go_enter Try.func146, Try.ntmps146
  go_upto_region 0 with (fail)
  have HM0 := hid (Mod.refl (fun k => (R k)) w)
  go_upto_region 0 with (fail)
  refine wp_region_U 23 [8, 9, 10, 11] [0, 1, 2, 3] (fun a0 HA0 => ?_)
  have oe0 := ev HA0 0 rfl
  have oe1 := ev HA0 1 rfl
  refine QSeq.pure rfl _ (fun E => ex_move rfl (E.v oe0)) ?_
  refine QSeq.pure rfl _ (fun E => ex_move rfl (E.v oe1)) ?_
  refine QSeq.pure rfl (.int .i64 l.length) (fun E => ex_lenS rfl (E.d 1 0) Try.underlying212) ?_
  refine QSeq.call rfl rfl Try.func52 (WInt_Q HW.out HI64.out (by have := HL.out; simp only [List.length_append] at this ⊢; omega)) (fun E => args2 (E.d 0 2) (E.d 2 0)) ?_
  rintro e u0_3 ⟨rfl, qwr, hm⟩
  refine ⟨_, rfl, ?_⟩
  have Hx1 := hid (qwr.widen (R' := (fun k => (R k) ∨ (New w u0_3 k))) (fun _ h => h) (Nat.le_refl _))
  have zu0_3 := hm.size
  have Cx2 := hid (show Mod (fun k => (R k)) w u0_3 from hm)
  clear hm
  clear qwr HW
  refine QSeq.nil (t' := [_, _, _, _]) rfl ?_
  obtain rfl := HA0.out
  clear HA0 oe0 oe1
  simp only [pz, Act.put, List.setIfInBounds_toArray, List.set_cons_zero, List.set_cons_succ]
  go_wp2
  go_loopw [14] (fun t wr => ∃ k : Nat, t = .int .i64 (k : Int) ∧ k ≤ l.length ∧ u0_3.heap.size ≤ wr.heap.size ∧ WrR (fun b => R b ∨ (w.heap.size ≤ b ∧ b < wr.heap.size)) 900000 wr g (bs ++ (encI l.length ++ ((l.take k).map dnB).flatten)) ∧ RdS DnR R2 wr (.slice ao l.length cap) l ∧ Mod R w wr) (fun t _ => l.length - (intOf t).toNat)
  case atStart => exact ⟨0, rfl, Nat.zero_le _, Nat.le_refl _, by have hq := (Hx1.out.widen (R' := (fun k => R k ∨ (w.heap.size ≤ k ∧ k < u0_3.heap.size))) (by intro k h1; rcases h1 with h1 | h1 <;> first | exact Or.inl h1 | (right; omega)) (Nat.le_refl _)); simpa only [List.take_zero, List.map_nil, List.flatten_nil, List.append_nil] using hq, (HS.out.mod Cx2.out (by intro k h1 h2; first | omega | (have hb := HBT.out k h1; omega) | (have hb := HBR.out k h2; omega) | exact HDJ.out k h1 h2 | exact HDJ.out k h2 h1 | (have hb := HBT.out k h1; have hb2 := HBR.out k h2; omega))), (HM0.out.trans Cx2.out (fun _ _ h => h))⟩
  case round =>
    obtain ⟨k, rfl, hk, hz, hw, hs, hm⟩ := hrel
    have HW2 := Lib.hid hw
    have HS2 := Lib.hid hs
    have HM2 := Lib.hid hm
    clear hw hs hm Hx1 HS HM0
    obtain ⟨wo, rfl⟩ : ∃ x, x = wr := ⟨_, rfl⟩
    by_cases hlt : k < l.length
    · skip
      obtain ⟨g0, o0, cs, rfl, hrg, hrd, hcs⟩ := HS2.out.at hlt
      have hcl : cs.length = 4 := DnR.len hrd
      have HCL := Lib.hid hcl
      have HAT := hid (show CellsAt R2 wo g0 (o0 + k * 4) cs from ⟨hrg, hcs⟩)
      have HRD := Lib.hid hrd
      have HOC := hid (DnR.one hrd)
      clear hcl hcs hrd hrg
      have HE : Hid (bs ++ (encI l.length ++ ((l.take k).map dnB).flatten) ++ dnB l[k] = bs ++ (encI l.length ++ ((l.take (k + 1)).map dnB).flatten)) := hid (by rw [List.take_succ_eq_append_getElem hlt, List.map_append, List.flatten_append]; simp [List.append_assoc])
      have HLk := hid (show (bs ++ (encI l.length ++ ((l.take k).map dnB).flatten) ++ dnB l[k]).length ≤ 900000 by rw [HE.out]; exact Nat.le_trans (put_len _ _ _ _ _) HL.out)
      go_upto_region 3 with (fail)
      refine wp_region_U 23 [16, 17, 7, 26] [0, 1, 2, 3] (fun a0 HA0 => ?_)
      have oe12 := ev HA0 12 rfl
      have oe14 := ev HA0 14 rfl
      refine QSeq.pure rfl (.pointer (some ⟨g0, o0 + k * 4, none⟩)) (fun E => ex_idxS (i := k) (s := 4) rfl Try.underlying212 (by kernel_rfl) (E.v oe12) (E.v oe14) (by omega)) ?_
      refine QSeq.pure rfl _ (fun E => ex_loadA rfl Try.underlying104 rfl (off := o0 + k * 4) (cs := cs) (by rw [HCL.out]; kernel_rfl) (E.d 0 0) (fun j u hu => (HAT.out).2 j u hu)) ?_
      refine QSeq.go fun act E => ?_
      refine qc_alloc rfl (wanted_none rfl) rfl (z := [.int .i64 0, .int .i64 0, .int .i64 0, .int .i64 0]) (by kernel_rfl) ?_
      intro u3_2 qq hm
      have zl3_2 := qq.lt
      have Hx3 := hid qq
      have zu3_2 := hm.size
      have Cx4 := hid (show Mod (fun _ => False) wo u3_2 from hm)
      clear hm
      clear act E qq
      refine QSeq.go fun act E => ?_
      have hlz : (cs).length = List.length ([.int .i64 0, .int .i64 0, .int .i64 0, .int .i64 0] : List Value) := (by rw [HCL.out]; rfl)
      refine qc_store rfl (wanted_none rfl) rfl Hx3.out (off := 0) (vs := cs) (by rw [hlz]; kernel_rfl) HOC.out (by rw [hlz]; exact Nat.le_of_eq (Nat.zero_add _)) (E.d 2 0) (ec (E.d 1 1)) ?_
      intro u3_3 qc0 hm
      have qq := qc0.eqv (b := (cs : List Value).toArray) (lay_whole #[.int .i64 0, .int .i64 0, .int .i64 0, .int .i64 0] _ (by rw [hlz]; rfl))
      clear qc0 hlz
      have Hx5 := hid qq
      have zu3_3 := hm.size
      have HMu3_3 := hid hm
      have Cx6 := hid (Mod.goS (S' := (fun _ => False)) Cx4.out hm (fun _ h => h) (by intro k h0 h2; omega))
      clear hm Cx4
      clear act E qq Hx3
      clear HMu3_3
      refine QSeq.nil (t' := [_, _, _, _]) rfl ?_
      obtain rfl := HA0.out
      clear HA0 oe12 oe14
      simp only [pz, Act.put, List.setIfInBounds_toArray, List.set_cons_zero, List.set_cons_succ, List.set_nil]
      go_upto_region 4 with (fail)
      refine wp_region_U 23 [18, 19, 20, 21] [0, 1, 2, 3] (fun a0 HA0 => ?_)
      have oe0 := ev HA0 0 rfl
      have oe2 := ev HA0 2 rfl
      have oe7 := ev HA0 7 rfl
      refine QSeq.pure rfl _ (fun E => ex_move rfl (E.v oe2)) ?_
      refine QSeq.pure rfl _ (fun E => ex_move rfl (E.v oe0)) ?_
      refine QSeq.pure rfl _ (fun E => ex_loadA rfl Try.underlying104 rfl (off := 0) (cs := cs) (by rw [HCL.out]; kernel_rfl) (E.v oe7) (Cs.whole Hx5.out)) ?_
      refine QSeq.go fun act E => ?_
      have ea19 : act.eval (.tmp 19) = .pointer (some ⟨g, 0, none⟩) := (E.d 1 1)
      have ea20 : act.eval (.tmp 20) = .agg cs.toArray := (E.d 2 0)
      refine qc_call (args := #[.pointer (some ⟨g, 0, none⟩), .agg cs.toArray]) rfl (wanted_none rfl) (by rw [ex_callV rfl (E.d 0 2) Try.func91 (by kernel_rfl) (by kernel_rfl)]; exact congrArg (fun z => Result.ok (Next.enter _ z) _) (by simp only [List.map_toArray, List.map_cons, List.map_nil, ea19, ea20]; try rfl)) (PutDn_Q _ _ _ _ _ _ _ (HW2.out.mod Cx6.out (fun _ _ h => h)) (by intro k h1; rcases h1 with h1 | h1 <;> first | omega | (have hb := HBR.out k h1; omega)) (HRD.out.mod Cx6.out (fun _ _ h => h)) (by intro k h1; have hb := HBT.out k h1; omega) (by intro k h1 h2; rcases h1 with h1 | h1 <;> first | omega | (have hb := HBR.out k h1; omega) | (have hb := HBT.out k h2; omega) | exact HDJ.out k h1 h2 | exact HDJ.out k h2 h1 | (have hb := HBR.out k h1; have hb2 := HBT.out k h2; omega)) HLk.out) ?_
      rintro e u4_3 ⟨rfl, qwr, hm⟩
      refine ⟨_, rfl, ?_⟩
      have Hx7 := hid (qwr.widen (R' := (fun k => (R k) ∨ (New w wo k) ∨ (New u3_3 u4_3 k))) (by intro k h1; simp only [or_assoc] at h1 ⊢; exact h1) (Nat.le_refl _))
      have zu4_3 := hm.size
      have Cx8 := hid (show Mod (fun k => (R k) ∨ (New w wo k)) u3_3 u4_3 from hm)
      clear hm
      clear act E qwr HW2 ea19 ea20
      refine QSeq.nil (t' := [_, _, _, _]) rfl ?_
      obtain rfl := HA0.out
      clear HA0 oe0 oe2 oe7
      simp only [pz, Act.put, List.setIfInBounds_toArray, List.set_cons_zero, List.set_cons_succ]
      have hq := Hx7.out
      rw [HE.out] at hq
      have HQ := Lib.hid hq
      clear hq
      go_wp2
      go_roundw
      case rel => exact ⟨k + 1, by go_num, by omega, by omega, (HQ.out.widen (by intro b h1; rcases h1 with h1 | h1 | h1 <;> first | exact Or.inl h1 | (right; omega)) (Nat.le_refl _)), ((HS2.out.mod Cx6.out (fun _ _ h => h)).mod Cx8.out (by intro k h1 h2; rcases h2 with h2 | h2 <;> first | omega | (have hb := HBT.out k h1; omega) | (have hb := HBR.out k h2; omega) | exact HDJ.out k h1 h2 | exact HDJ.out k h2 h1 | (have hb := HBT.out k h1; have hb2 := HBR.out k h2; omega))), ((HM2.out.trans Cx6.out (fun _ _ h => h.elim)).trans Cx8.out (by intro k h1 h2; rcases h2 with h2 | h2 <;> first | exact h2 | omega | (have hb := HBR.out k h2; omega)))⟩
      case measure => simp [intOf]; omega
    · have hkk : k = l.length := by omega
      subst hkk
      go_wp2
      go_end0
      have hq := HW2.out
      rw [List.take_length] at hq
      exact ⟨rfl, hq, HM2.out⟩
set_option maxHeartbeats 4000000 in
theorem PutTb_Q : Puts TbR 128 tbB := by
  intro R R2 g bs cs x w hW hB hx hB2 hD hl
  obtain ⟨v_l, rfl, hok, hs0⟩ := hx
  have HS0 := Lib.hid hs0
  clear hs0
  have HW := Lib.hid hW
  have HBR := Lib.hid hB
  have HBT := Lib.hid hB2
  have HDJ := Lib.hid hD
  have HOK := Lib.hid hok
  have HL := Lib.hid hl
  clear hW hB hB2 hD hl hok
  unfold tbB at HL
  go_enter Try.func128, Try.ntmps128
  go_upto_region 1 with (fail)
  obtain ⟨w1, hw1⟩ : ∃ zz, zz = (w.alloc (.cells (x.cells v_l : List Value).toArray 214)) := ⟨_, rfl⟩
  change Code.wp _ _ _ _ (w.alloc (.cells (x.cells v_l : List Value).toArray 214))
  rw [← hw1]
  have HB3 := hid (show Cs w1 (w.heap.size) (x.cells v_l : List Value).toArray 214 by rw [hw1]; exact Cs.new _ _ _)
  have hm : Mod (fun _ => False) w w1 := by rw [hw1]; exact (Mod.refl _ _).alloc _
  have HM0 := hid (show Mod (fun k => (R k)) w w1 from hm.mono (fun _ _ h => h.elim))
  have hs1 : w1.heap.size = w.heap.size + 1 := by rw [hw1]; simp
  have Hx1 := hid (HW.out.mod hm (fun _ _ h => h))
  clear HW
  have Hx2 := hid (HS0.out.mod hm (fun _ _ h => h))
  clear HS0
  clear hw1 hm
  go_upto_region 1 with (fail)
  refine wp_region_U 12 [4, 5, 6, 7] [0, 1, 2, 3] (fun a0 HA0 => ?_)
  have oe0 := ev HA0 0 rfl
  have oe3 := ev HA0 3 rfl
  refine QSeq.pure rfl _ (fun E => ex_move rfl (E.v oe0)) ?_
  refine QSeq.pure rfl (.pointer (some ⟨w.heap.size, 0, none⟩)) (fun E => ex_field rfl Try.underlying214 rfl (by kernel_rfl) (E.v oe3)) ?_
  refine QSeq.pure rfl _ (fun E => ex_load1 rfl Try.underlying3 rfl (E.d 1 0) (Cs.lit1 HB3.out rfl)) ?_
  refine QSeq.call rfl rfl Try.func52 (WInt_Q Hx1.out HOK.out (by have := HL.out; simp only [List.length_append] at this ⊢; omega)) (fun E => args2 (E.d 0 2) (E.d 2 0)) ?_
  rintro e u1_3 ⟨rfl, qwr, hm⟩
  refine ⟨_, rfl, ?_⟩
  have Hx3 := hid (qwr.widen (R' := (fun k => (R k) ∨ (New w1 u1_3 k))) (fun _ h => h) (Nat.le_refl _))
  have zu1_3 := hm.size
  have Cx4 := hid (show Mod (fun k => (R k)) w1 u1_3 from hm)
  clear hm
  clear qwr Hx1
  refine QSeq.nil (t' := [_, _, _, _]) rfl ?_
  obtain rfl := HA0.out
  clear HA0 oe0 oe3
  simp only [pz, Act.put, List.setIfInBounds_toArray, List.set_cons_zero, List.set_cons_succ]
  go_upto_region 2 with (fail)
  refine wp_region_U 12 [8, 9, 10, 11] [0, 1, 2, 3] (fun a0 HA0 => ?_)
  have oe0 := ev HA0 0 rfl
  have oe3 := ev HA0 3 rfl
  refine QSeq.pure rfl _ (fun E => ex_move rfl (E.v oe0)) ?_
  refine QSeq.pure rfl (.pointer (some ⟨w.heap.size, 1, none⟩)) (fun E => ex_field rfl Try.underlying214 rfl (by kernel_rfl) (E.v oe3)) ?_
  refine QSeq.pure rfl _ (fun E => ex_load1 rfl Try.underlying212 rfl (E.d 1 0) (Cs.lit1 (HB3.out.mod Cx4.out (by intro h2; first | omega | (have hb := HBR.out _ h2; omega))) rfl)) ?_
  refine QSeq.call rfl rfl Try.func146 (PutList_Dn _ _ _ _ _ _ _ Hx3.out (by intro k h1; rcases h1 with h1 | h1 <;> first | omega | (have hb := HBR.out k h1; omega)) (Hx2.out.mod Cx4.out (by intro k h1 h2; first | omega | (have hb := HBT.out k h1; omega) | (have hb := HBR.out k h2; omega) | exact HDJ.out k h1 h2 | exact HDJ.out k h2 h1 | (have hb := HBT.out k h1; have hb2 := HBR.out k h2; omega))) (by intro k h1; have hb := HBT.out k h1; omega) (by intro k h1 h2; rcases h1 with h1 | h1 <;> first | omega | (have hb := HBR.out k h1; omega) | (have hb := HBT.out k h2; omega) | exact HDJ.out k h1 h2 | exact HDJ.out k h2 h1 | (have hb := HBR.out k h1; have hb2 := HBT.out k h2; omega)) (by have := HL.out; simp only [List.length_append] at this ⊢; omega)) (fun E => args3 (E.d 0 2) (E.d 2 0) rfl) ?_
  rintro e u2_3 ⟨rfl, qwr, hm⟩
  refine ⟨_, rfl, ?_⟩
  have Hx5 := hid (qwr.widen (R' := (fun k => (R k) ∨ (New w1 u1_3 k) ∨ (New u1_3 u2_3 k))) (by intro k h1; simp only [or_assoc] at h1 ⊢; exact h1) (Nat.le_refl _))
  have zu2_3 := hm.size
  have Cx6 := hid (show Mod (fun k => (R k) ∨ (New w1 u1_3 k)) u1_3 u2_3 from hm)
  clear hm
  clear qwr Hx3
  refine QSeq.nil (t' := [_, _, _, _]) rfl ?_
  obtain rfl := HA0.out
  clear HA0 oe0 oe3
  simp only [pz, Act.put, List.setIfInBounds_toArray, List.set_cons_zero, List.set_cons_succ]
  go_wp2
  go_end0
  have hq := (Hx5.out.widen (R' := (fun k => R k ∨ New w u2_3 k)) (by intro k h1; rcases h1 with h1 | h1 | h1 <;> first | exact Or.inl h1 | (right; omega)) (Nat.le_refl _))
  simp only [List.append_assoc] at hq
  exact ⟨rfl, by simpa only [tbB, List.append_assoc] using hq, ((HM0.out.trans Cx4.out (fun _ _ h => h)).trans Cx6.out (by intro k h1 h2; rcases h2 with h2 | h2 <;> first | exact h2 | omega | (have hb := HBR.out k h2; omega)))⟩
set_option maxHeartbeats 4000000 in
theorem PutList_Tb : PutsL TbR 127 128 tbB := by
  intro R R2 g bs v l w hW hB hs hB2 hD hl
  obtain ⟨ao, cap, rfl⟩ := hs.shape
  have hb64 : l.length ≤ maxLen := hs.bd
  rw [maxLen_val] at hb64
  have HI64 := hid (show I64 (l.length : Int) by unfold I64; omega)
  have HW := Lib.hid hW
  have HS := Lib.hid hs
  have HBR := Lib.hid hB
  have HBT := Lib.hid hB2
  have HDJ := Lib.hid hD
  have HL := Lib.hid hl
  clear hW hB hs hB2 hD hl
  unfold listB at HL
  go_enter Try.func127, Try.ntmps127
  go_upto_region 0 with (fail)
  have HM0 := hid (Mod.refl (fun k => (R k)) w)
  go_upto_region 0 with (fail)
  refine wp_region_U 23 [8, 9, 10, 11] [0, 1, 2, 3] (fun a0 HA0 => ?_)
  have oe0 := ev HA0 0 rfl
  have oe1 := ev HA0 1 rfl
  refine QSeq.pure rfl _ (fun E => ex_move rfl (E.v oe0)) ?_
  refine QSeq.pure rfl _ (fun E => ex_move rfl (E.v oe1)) ?_
  refine QSeq.pure rfl (.int .i64 l.length) (fun E => ex_lenS rfl (E.d 1 0) Try.underlying92) ?_
  refine QSeq.call rfl rfl Try.func52 (WInt_Q HW.out HI64.out (by have := HL.out; simp only [List.length_append] at this ⊢; omega)) (fun E => args2 (E.d 0 2) (E.d 2 0)) ?_
  rintro e u0_3 ⟨rfl, qwr, hm⟩
  refine ⟨_, rfl, ?_⟩
  have Hx1 := hid (qwr.widen (R' := (fun k => (R k) ∨ (New w u0_3 k))) (fun _ h => h) (Nat.le_refl _))
  have zu0_3 := hm.size
  have Cx2 := hid (show Mod (fun k => (R k)) w u0_3 from hm)
  clear hm
  clear qwr HW
  refine QSeq.nil (t' := [_, _, _, _]) rfl ?_
  obtain rfl := HA0.out
  clear HA0 oe0 oe1
  simp only [pz, Act.put, List.setIfInBounds_toArray, List.set_cons_zero, List.set_cons_succ]
  go_wp2
  go_loopw [14] (fun t wr => ∃ k : Nat, t = .int .i64 (k : Int) ∧ k ≤ l.length ∧ u0_3.heap.size ≤ wr.heap.size ∧ WrR (fun b => R b ∨ (w.heap.size ≤ b ∧ b < wr.heap.size)) 900000 wr g (bs ++ (encI l.length ++ ((l.take k).map tbB).flatten)) ∧ RdS TbR R2 wr (.slice ao l.length cap) l ∧ Mod R w wr) (fun t _ => l.length - (intOf t).toNat)
  case atStart => exact ⟨0, rfl, Nat.zero_le _, Nat.le_refl _, by have hq := (Hx1.out.widen (R' := (fun k => R k ∨ (w.heap.size ≤ k ∧ k < u0_3.heap.size))) (by intro k h1; rcases h1 with h1 | h1 <;> first | exact Or.inl h1 | (right; omega)) (Nat.le_refl _)); simpa only [List.take_zero, List.map_nil, List.flatten_nil, List.append_nil] using hq, (HS.out.mod Cx2.out (by intro k h1 h2; first | omega | (have hb := HBT.out k h1; omega) | (have hb := HBR.out k h2; omega) | exact HDJ.out k h1 h2 | exact HDJ.out k h2 h1 | (have hb := HBT.out k h1; have hb2 := HBR.out k h2; omega))), (HM0.out.trans Cx2.out (fun _ _ h => h))⟩
  case round =>
    obtain ⟨k, rfl, hk, hz, hw, hs, hm⟩ := hrel
    have HW2 := Lib.hid hw
    have HS2 := Lib.hid hs
    have HM2 := Lib.hid hm
    clear hw hs hm Hx1 HS HM0
    obtain ⟨wo, rfl⟩ : ∃ x, x = wr := ⟨_, rfl⟩
    by_cases hlt : k < l.length
    · skip
      obtain ⟨g0, o0, cs, rfl, hrg, hrd, hcs⟩ := HS2.out.at hlt
      have hcl : cs.length = 2 := TbR.len hrd
      have HCL := Lib.hid hcl
      have HAT := hid (show CellsAt R2 wo g0 (o0 + k * 2) cs from ⟨hrg, hcs⟩)
      have HRD := Lib.hid hrd
      have HOC := hid (TbR.one hrd)
      clear hcl hcs hrd hrg
      have HE : Hid (bs ++ (encI l.length ++ ((l.take k).map tbB).flatten) ++ tbB l[k] = bs ++ (encI l.length ++ ((l.take (k + 1)).map tbB).flatten)) := hid (by rw [List.take_succ_eq_append_getElem hlt, List.map_append, List.flatten_append]; simp [List.append_assoc])
      have HLk := hid (show (bs ++ (encI l.length ++ ((l.take k).map tbB).flatten) ++ tbB l[k]).length ≤ 900000 by rw [HE.out]; exact Nat.le_trans (put_len _ _ _ _ _) HL.out)
      go_upto_region 3 with (fail)
      refine wp_region_U 23 [16, 17, 7, 26] [0, 1, 2, 3] (fun a0 HA0 => ?_)
      have oe12 := ev HA0 12 rfl
      have oe14 := ev HA0 14 rfl
      refine QSeq.pure rfl (.pointer (some ⟨g0, o0 + k * 2, none⟩)) (fun E => ex_idxS (i := k) (s := 2) rfl Try.underlying92 (by kernel_rfl) (E.v oe12) (E.v oe14) (by omega)) ?_
      refine QSeq.pure rfl _ (fun E => ex_loadA rfl Try.underlying214 rfl (off := o0 + k * 2) (cs := cs) (by rw [HCL.out]; kernel_rfl) (E.d 0 0) (fun j u hu => (HAT.out).2 j u hu)) ?_
      refine QSeq.go fun act E => ?_
      refine qc_alloc rfl (wanted_none rfl) rfl (z := [.int .i64 0, .slice none 0 0]) (by kernel_rfl) ?_
      intro u3_2 qq hm
      have zl3_2 := qq.lt
      have Hx3 := hid qq
      have zu3_2 := hm.size
      have Cx4 := hid (show Mod (fun _ => False) wo u3_2 from hm)
      clear hm
      clear act E qq
      refine QSeq.go fun act E => ?_
      have hlz : (cs).length = List.length ([.int .i64 0, .slice none 0 0] : List Value) := (by rw [HCL.out]; rfl)
      refine qc_store rfl (wanted_none rfl) rfl Hx3.out (off := 0) (vs := cs) (by rw [hlz]; kernel_rfl) HOC.out (by rw [hlz]; exact Nat.le_of_eq (Nat.zero_add _)) (E.d 2 0) (ec (E.d 1 1)) ?_
      intro u3_3 qc0 hm
      have qq := qc0.eqv (b := (cs : List Value).toArray) (lay_whole #[.int .i64 0, .slice none 0 0] _ (by rw [hlz]; rfl))
      clear qc0 hlz
      have Hx5 := hid qq
      have zu3_3 := hm.size
      have HMu3_3 := hid hm
      have Cx6 := hid (Mod.goS (S' := (fun _ => False)) Cx4.out hm (fun _ h => h) (by intro k h0 h2; omega))
      clear hm Cx4
      clear act E qq Hx3
      clear HMu3_3
      refine QSeq.nil (t' := [_, _, _, _]) rfl ?_
      obtain rfl := HA0.out
      clear HA0 oe12 oe14
      simp only [pz, Act.put, List.setIfInBounds_toArray, List.set_cons_zero, List.set_cons_succ, List.set_nil]
      go_upto_region 4 with (fail)
      refine wp_region_U 23 [18, 19, 20, 21] [0, 1, 2, 3] (fun a0 HA0 => ?_)
      have oe0 := ev HA0 0 rfl
      have oe2 := ev HA0 2 rfl
      have oe7 := ev HA0 7 rfl
      refine QSeq.pure rfl _ (fun E => ex_move rfl (E.v oe2)) ?_
      refine QSeq.pure rfl _ (fun E => ex_move rfl (E.v oe0)) ?_
      refine QSeq.pure rfl _ (fun E => ex_loadA rfl Try.underlying214 rfl (off := 0) (cs := cs) (by rw [HCL.out]; kernel_rfl) (E.v oe7) (Cs.whole Hx5.out)) ?_
      refine QSeq.go fun act E => ?_
      have ea19 : act.eval (.tmp 19) = .pointer (some ⟨g, 0, none⟩) := (E.d 1 1)
      have ea20 : act.eval (.tmp 20) = .agg cs.toArray := (E.d 2 0)
      refine qc_call (args := #[.pointer (some ⟨g, 0, none⟩), .agg cs.toArray]) rfl (wanted_none rfl) (by rw [ex_callV rfl (E.d 0 2) Try.func128 (by kernel_rfl) (by kernel_rfl)]; exact congrArg (fun z => Result.ok (Next.enter _ z) _) (by simp only [List.map_toArray, List.map_cons, List.map_nil, ea19, ea20]; try rfl)) (PutTb_Q _ _ _ _ _ _ _ (HW2.out.mod Cx6.out (fun _ _ h => h)) (by intro k h1; rcases h1 with h1 | h1 <;> first | omega | (have hb := HBR.out k h1; omega)) (HRD.out.mod Cx6.out (fun _ _ h => h)) (by intro k h1; have hb := HBT.out k h1; omega) (by intro k h1 h2; rcases h1 with h1 | h1 <;> first | omega | (have hb := HBR.out k h1; omega) | (have hb := HBT.out k h2; omega) | exact HDJ.out k h1 h2 | exact HDJ.out k h2 h1 | (have hb := HBR.out k h1; have hb2 := HBT.out k h2; omega)) HLk.out) ?_
      rintro e u4_3 ⟨rfl, qwr, hm⟩
      refine ⟨_, rfl, ?_⟩
      have Hx7 := hid (qwr.widen (R' := (fun k => (R k) ∨ (New w wo k) ∨ (New u3_3 u4_3 k))) (by intro k h1; simp only [or_assoc] at h1 ⊢; exact h1) (Nat.le_refl _))
      have zu4_3 := hm.size
      have Cx8 := hid (show Mod (fun k => (R k) ∨ (New w wo k)) u3_3 u4_3 from hm)
      clear hm
      clear act E qwr HW2 ea19 ea20
      refine QSeq.nil (t' := [_, _, _, _]) rfl ?_
      obtain rfl := HA0.out
      clear HA0 oe0 oe2 oe7
      simp only [pz, Act.put, List.setIfInBounds_toArray, List.set_cons_zero, List.set_cons_succ]
      have hq := Hx7.out
      rw [HE.out] at hq
      have HQ := Lib.hid hq
      clear hq
      go_wp2
      go_roundw
      case rel => exact ⟨k + 1, by go_num, by omega, by omega, (HQ.out.widen (by intro b h1; rcases h1 with h1 | h1 | h1 <;> first | exact Or.inl h1 | (right; omega)) (Nat.le_refl _)), ((HS2.out.mod Cx6.out (fun _ _ h => h)).mod Cx8.out (by intro k h1 h2; rcases h2 with h2 | h2 <;> first | omega | (have hb := HBT.out k h1; omega) | (have hb := HBR.out k h2; omega) | exact HDJ.out k h1 h2 | exact HDJ.out k h2 h1 | (have hb := HBT.out k h1; have hb2 := HBR.out k h2; omega))), ((HM2.out.trans Cx6.out (fun _ _ h => h.elim)).trans Cx8.out (by intro k h1 h2; rcases h2 with h2 | h2 <;> first | exact h2 | omega | (have hb := HBR.out k h2; omega)))⟩
      case measure => simp [intOf]; omega
    · have hkk : k = l.length := by omega
      subst hkk
      go_wp2
      go_end0
      have hq := HW2.out
      rw [List.take_length] at hq
      exact ⟨rfl, hq, HM2.out⟩
set_option maxHeartbeats 4000000 in
theorem PutOp_Q : Puts OpR 90 opB := by
  intro R R2 g bs cs x w hW hB hx hB2 hD hl
  obtain ⟨v_pl, rfl, hok, hs0⟩ := hx
  have HS0 := Lib.hid hs0
  clear hs0
  have HW := Lib.hid hW
  have HBR := Lib.hid hB
  have HBT := Lib.hid hB2
  have HDJ := Lib.hid hD
  have HOK := Lib.hid hok
  have HL := Lib.hid hl
  clear hW hB hB2 hD hl hok
  unfold opB at HL
  go_enter Try.func90, Try.ntmps90
  go_upto_region 1 with (fail)
  obtain ⟨w1, hw1⟩ : ∃ zz, zz = (w.alloc (.cells (x.cells v_pl : List Value).toArray 102)) := ⟨_, rfl⟩
  change Code.wp _ _ _ _ (w.alloc (.cells (x.cells v_pl : List Value).toArray 102))
  rw [← hw1]
  have HB3 := hid (show Cs w1 (w.heap.size) (x.cells v_pl : List Value).toArray 102 by rw [hw1]; exact Cs.new _ _ _)
  have hm : Mod (fun _ => False) w w1 := by rw [hw1]; exact (Mod.refl _ _).alloc _
  have HM0 := hid (show Mod (fun k => (R k)) w w1 from hm.mono (fun _ _ h => h.elim))
  have hs1 : w1.heap.size = w.heap.size + 1 := by rw [hw1]; simp
  have Hx1 := hid (HW.out.mod hm (fun _ _ h => h))
  clear HW
  have Hx2 := hid (HS0.out.mod hm (fun _ _ h => h))
  clear HS0
  clear hw1 hm
  go_upto_region 1 with (fail)
  generalize ha0 : Act.mk _ _ = a0
  have oe0 : a0.eval (.tmp 0) = .pointer (some ⟨g, 0, none⟩) := by rw [← ha0]; rfl
  have oe3 : a0.eval (.tmp 3) = .pointer (some ⟨w.heap.size, 0, none⟩) := by rw [← ha0]; rfl
  have hsz0 : a0.tmps.size = 14 := by rw [← ha0]; rfl
  have HA0 := hid ha0
  clear ha0
  refine wp_region_Q1 14 hsz0 [4, 5, 6, 7, 8, 9, 10, 11, 12, 13] (fun k => (R k)) (fun k j => (k = 0 ∧ ((R j))) ∨ (k = 1 ∧ ((R j))) ∨ (k = 2 ∧ ((R j)))) (by intro k j h; (try dsimp only at h ⊢); rcases h with ⟨-, h⟩ | ⟨-, h⟩ | ⟨-, h⟩; (exact h); (exact h); (exact h)) [qi (.pointer (some ⟨g, 0, none⟩)), qi (.pointer (some ⟨w.heap.size, 0, none⟩)), qi (.int .i64 x.ix), qi (.pointer (some ⟨g, 0, none⟩)), qi (.pointer (some ⟨w.heap.size, 1, none⟩)), qi (v_pl), qi (.pointer (some ⟨g, 0, none⟩)), qi (.pointer (some ⟨w.heap.size, 2, none⟩)), qi (hv x.nc), qi (.pointer (some ⟨g, 0, none⟩))] ⟨qi_stable, qi_stable, qi_stable, qi_stable, qi_stable, qi_stable, qi_stable, qi_stable, qi_stable, qi_stable, trivial⟩ [3, 6, 9] ⟨?_, ?_, ?_, ?_, ?_, ?_, ?_, ?_, ?_, ?_, trivial⟩ ?_
  · exact stq (fun E => ex_move rfl (E.v oe0))
  · exact stq (fun E => ex_field rfl Try.underlying102 rfl (by kernel_rfl) (E.v oe3))
  · exact stq (fun E => ex_load1 rfl Try.underlying3 rfl (E.d 1) (Cs.hd1 (HB3.out.mod E.m (by intro h2; rcases h2 with ⟨h0, h2⟩ | h2 <;> first | omega | (have hb := HBR.out _ h2; omega))) rfl))
  · exact stepq_chain rfl
  · exact stq (fun E => ex_field rfl Try.underlying102 rfl (by kernel_rfl) (E.v oe3))
  · exact stq (fun E => ex_load1 rfl Try.underlying38 rfl (E.d 4) (Cs.hd1 (HB3.out.mod E.m (by intro h2; rcases h2 with ⟨h0, h2⟩ | h2 <;> first | omega | (have hb := HBR.out _ h2; omega))) rfl))
  · exact stepq_chain rfl
  · exact stq (fun E => ex_field rfl Try.underlying102 rfl (by kernel_rfl) (E.v oe3))
  · exact stq (fun E => ex_loadA rfl Try.underlying32 rfl (off := 2) (cs := x.nc.map bv) (by rw [List.length_map, HOK.out.2.1]; exact size_hash) (E.d 7) (Cs.tlA (HB3.out.mod E.m (by intro h2; rcases h2 with ⟨h0, h2⟩ | h2 <;> first | omega | (have hb := HBR.out _ h2; omega))) rfl))
  · exact stepq_chain rfl
  intro u1_0 hr
  have zu1_0 := hr.size
  have Cx3 := hid (hr.new (S := (fun k => (R k))))
  have Hx4 := hid (Hx1.out.mod hr (by intro k h1 h2; have hb := HBR.out k h1; omega))
  clear Hx1
  clear hr
  refine QChain.go fun Z act E => ?_
  refine qc_callF (args := #[.pointer (some ⟨g, 0, none⟩), .int .i64 x.ix]) rfl (wanted_none rfl) rfl Try.func52 (args2 (E.d 0) (E.d 2)) (WInt_Q Hx4.out HOK.out.1 (by have := HL.out; simp only [List.length_append] at this ⊢; omega)) ?_
  rintro e u1_1a ⟨rfl, qwr, hm⟩
  have zu1_1a := hm.size
  refine ⟨_, rfl, hm.mono (by intro k hk h; first | omega | exact Or.inl ⟨(by have hb := HBR.out k h; omega), Or.inl ⟨rfl, h⟩⟩), (fun _ => rfl), ?_⟩
  intro u1_1 hr
  have zu1_1 := hr.size
  have Hx5 := hid ((qwr.widen (R' := (fun k => (R k) ∨ (New u1_0 u1_1a k))) (fun _ h => h) (Nat.le_refl _)).mod hr (by intro k h1 h2; rcases h1 with h1 | h1 <;> first | omega | (have hb := HBR.out k h1; omega)))
  have Cx6 := hid (Cx3.out.goM hm hr (fun _ _ h => h))
  clear Cx3 hm hr Z act E qwr Hx4
  refine QChain.go fun Z act E => ?_
  refine qc_callF (args := #[.pointer (some ⟨g, 0, none⟩), v_pl]) rfl (wanted_none rfl) rfl Try.func67 (args2 (E.d 3) (E.d 5)) (WRow_Q Hx5.out (Hx2.out.mod Cx6.out (by intro k h1 h2; first | omega | (have hb := HBT.out k h1; omega) | (have hb := HBR.out k h2; omega) | exact HDJ.out k h1 h2 | exact HDJ.out k h2 h1 | (have hb := HBT.out k h1; have hb2 := HBR.out k h2; omega))) (by intro k h1 h2; rcases h2 with h2 | h2 <;> first | omega | (have hb := HBT.out k h1; omega) | (have hb := HBR.out k h2; omega) | exact HDJ.out k h1 h2 | exact HDJ.out k h2 h1 | (have hb := HBT.out k h1; have hb2 := HBR.out k h2; omega)) (by have := HL.out; simp only [List.length_append] at this ⊢; omega)) ?_
  rintro e u1_2a ⟨rfl, qwr, hm⟩
  have zu1_2a := hm.size
  refine ⟨_, rfl, hm.mono (by intro k hk h; rcases h with h | h <;> first | omega | exact Or.inl ⟨(by have hb := HBR.out k h; omega), Or.inr (Or.inl ⟨rfl, h⟩)⟩), (fun _ => rfl), ?_⟩
  intro u1_2 hr
  have zu1_2 := hr.size
  have Hx7 := hid ((qwr.widen (R' := (fun k => (R k) ∨ (New u1_0 u1_1a k) ∨ (New u1_1 u1_2a k))) (by intro k h1; simp only [or_assoc] at h1 ⊢; exact h1) (Nat.le_refl _)).mod hr (by intro k h1 h2; rcases h1 with h1 | h1 | h1 <;> first | omega | (have hb := HBR.out k h1; omega)))
  have Cx8 := hid (Cx6.out.goM hm hr (by intro k h0 h2; rcases h2 with h2 | h2 <;> first | omega | exact h2))
  clear Cx6 hm hr Z act E qwr Hx5
  refine QChain.go fun Z act E => ?_
  refine qc_callF (args := #[.pointer (some ⟨g, 0, none⟩), hv x.nc]) rfl (wanted_none rfl) rfl Try.func69 (args2 (E.d 6) (E.d 8)) (WHash_Q Hx7.out HOK.out.2 (by have := HL.out; simp only [List.length_append] at this ⊢; omega)) ?_
  rintro e u1_3a ⟨rfl, qwr, hm⟩
  have zu1_3a := hm.size
  refine ⟨_, rfl, hm.mono (by intro k hk h; rcases h with h | h | h <;> first | omega | exact Or.inl ⟨(by have hb := HBR.out k h; omega), Or.inr (Or.inr (⟨rfl, h⟩))⟩), (fun _ => rfl), ?_⟩
  intro u1_3 hr
  have zu1_3 := hr.size
  have Hx9 := hid ((qwr.widen (R' := (fun k => (R k) ∨ (New u1_0 u1_1a k) ∨ (New u1_1 u1_2a k) ∨ (New u1_2 u1_3a k))) (by intro k h1; simp only [or_assoc] at h1 ⊢; exact h1) (Nat.le_refl _)).mod hr (by intro k h1 h2; rcases h1 with h1 | h1 | h1 | h1 <;> first | omega | (have hb := HBR.out k h1; omega)))
  have Cx10 := hid (Cx8.out.goM hm hr (by intro k h0 h2; rcases h2 with h2 | h2 | h2 <;> first | omega | exact h2))
  clear Cx8 hm hr Z act E qwr Hx7
  refine QChain.nil fun vs hl hzz hrows hne => ?_
  obtain ⟨Z, hYZ, hZb, hV⟩ := hzz
  have f0 := fvi hV hl 0
  have f3 := fvi hV hl 3
  have f6 := fvi hV hl 6
  have f9 := fvi hV hl 9
  rw [show vs = [gw vs 0, gw vs 1, gw vs 2, gw vs 3, gw vs 4, gw vs 5, gw vs 6, gw vs 7, gw vs 8, gw vs 9] from (gw_eta hl).trans rfl]
  have ha0 := HA0.out
  subst ha0
  clear HA0 hV hYZ hZb hsz0 hrows hne oe0 oe3
  simp only [putAll, Act.put, List.setIfInBounds_toArray, List.set_cons_zero, List.set_cons_succ, f0, f3, f6, f9]
  clear hl f0 f3 f6 f9
  go_wp2
  go_end0
  have hq := (Hx9.out.widen (R' := (fun k => R k ∨ New w u1_3 k)) (by intro k h1; rcases h1 with h1 | h1 | h1 | h1 <;> first | exact Or.inl h1 | (right; omega)) (Nat.le_refl _))
  simp only [List.append_assoc] at hq
  exact ⟨rfl, by simpa only [opB, List.append_assoc] using hq, (HM0.out.trans Cx10.out (fun _ _ h => h))⟩
set_option maxHeartbeats 4000000 in
theorem PutList_Op : PutsL OpR 126 90 opB := by
  intro R R2 g bs v l w hW hB hs hB2 hD hl
  obtain ⟨ao, cap, rfl⟩ := hs.shape
  have hb64 : l.length ≤ maxLen := hs.bd
  rw [maxLen_val] at hb64
  have HI64 := hid (show I64 (l.length : Int) by unfold I64; omega)
  have HW := Lib.hid hW
  have HS := Lib.hid hs
  have HBR := Lib.hid hB
  have HBT := Lib.hid hB2
  have HDJ := Lib.hid hD
  have HL := Lib.hid hl
  clear hW hB hs hB2 hD hl
  unfold listB at HL
  go_enter Try.func126, Try.ntmps126
  go_upto_region 0 with (fail)
  have HM0 := hid (Mod.refl (fun k => (R k)) w)
  go_upto_region 0 with (fail)
  refine wp_region_U 23 [8, 9, 10, 11] [0, 1, 2, 3] (fun a0 HA0 => ?_)
  have oe0 := ev HA0 0 rfl
  have oe1 := ev HA0 1 rfl
  refine QSeq.pure rfl _ (fun E => ex_move rfl (E.v oe0)) ?_
  refine QSeq.pure rfl _ (fun E => ex_move rfl (E.v oe1)) ?_
  refine QSeq.pure rfl (.int .i64 l.length) (fun E => ex_lenS rfl (E.d 1 0) Try.underlying91) ?_
  refine QSeq.call rfl rfl Try.func52 (WInt_Q HW.out HI64.out (by have := HL.out; simp only [List.length_append] at this ⊢; omega)) (fun E => args2 (E.d 0 2) (E.d 2 0)) ?_
  rintro e u0_3 ⟨rfl, qwr, hm⟩
  refine ⟨_, rfl, ?_⟩
  have Hx1 := hid (qwr.widen (R' := (fun k => (R k) ∨ (New w u0_3 k))) (fun _ h => h) (Nat.le_refl _))
  have zu0_3 := hm.size
  have Cx2 := hid (show Mod (fun k => (R k)) w u0_3 from hm)
  clear hm
  clear qwr HW
  refine QSeq.nil (t' := [_, _, _, _]) rfl ?_
  obtain rfl := HA0.out
  clear HA0 oe0 oe1
  simp only [pz, Act.put, List.setIfInBounds_toArray, List.set_cons_zero, List.set_cons_succ]
  go_wp2
  go_loopw [14] (fun t wr => ∃ k : Nat, t = .int .i64 (k : Int) ∧ k ≤ l.length ∧ u0_3.heap.size ≤ wr.heap.size ∧ WrR (fun b => R b ∨ (w.heap.size ≤ b ∧ b < wr.heap.size)) 900000 wr g (bs ++ (encI l.length ++ ((l.take k).map opB).flatten)) ∧ RdS OpR R2 wr (.slice ao l.length cap) l ∧ Mod R w wr) (fun t _ => l.length - (intOf t).toNat)
  case atStart => exact ⟨0, rfl, Nat.zero_le _, Nat.le_refl _, by have hq := (Hx1.out.widen (R' := (fun k => R k ∨ (w.heap.size ≤ k ∧ k < u0_3.heap.size))) (by intro k h1; rcases h1 with h1 | h1 <;> first | exact Or.inl h1 | (right; omega)) (Nat.le_refl _)); simpa only [List.take_zero, List.map_nil, List.flatten_nil, List.append_nil] using hq, (HS.out.mod Cx2.out (by intro k h1 h2; first | omega | (have hb := HBT.out k h1; omega) | (have hb := HBR.out k h2; omega) | exact HDJ.out k h1 h2 | exact HDJ.out k h2 h1 | (have hb := HBT.out k h1; have hb2 := HBR.out k h2; omega))), (HM0.out.trans Cx2.out (fun _ _ h => h))⟩
  case round =>
    obtain ⟨k, rfl, hk, hz, hw, hs, hm⟩ := hrel
    have HW2 := Lib.hid hw
    have HS2 := Lib.hid hs
    have HM2 := Lib.hid hm
    clear hw hs hm Hx1 HS HM0
    obtain ⟨wo, rfl⟩ : ∃ x, x = wr := ⟨_, rfl⟩
    by_cases hlt : k < l.length
    · skip
      obtain ⟨g0, o0, cs, rfl, hrg, hrd, hcs⟩ := HS2.out.at hlt
      have hcl : cs.length = 34 := OpR.len hrd
      have HCL := Lib.hid hcl
      have HAT := hid (show CellsAt R2 wo g0 (o0 + k * 34) cs from ⟨hrg, hcs⟩)
      have HRD := Lib.hid hrd
      have HOC := hid (OpR.one hrd)
      clear hcl hcs hrd hrg
      have HE : Hid (bs ++ (encI l.length ++ ((l.take k).map opB).flatten) ++ opB l[k] = bs ++ (encI l.length ++ ((l.take (k + 1)).map opB).flatten)) := hid (by rw [List.take_succ_eq_append_getElem hlt, List.map_append, List.flatten_append]; simp [List.append_assoc])
      have HLk := hid (show (bs ++ (encI l.length ++ ((l.take k).map opB).flatten) ++ opB l[k]).length ≤ 900000 by rw [HE.out]; exact Nat.le_trans (put_len _ _ _ _ _) HL.out)
      go_upto_region 3 with (fail)
      refine wp_region_U 23 [16, 17, 7, 26] [0, 1, 2, 3] (fun a0 HA0 => ?_)
      have oe12 := ev HA0 12 rfl
      have oe14 := ev HA0 14 rfl
      refine QSeq.pure rfl (.pointer (some ⟨g0, o0 + k * 34, none⟩)) (fun E => ex_idxS (i := k) (s := 34) rfl Try.underlying91 (by kernel_rfl) (E.v oe12) (E.v oe14) (by omega)) ?_
      refine QSeq.pure rfl _ (fun E => ex_loadA rfl Try.underlying102 rfl (off := o0 + k * 34) (cs := cs) (by rw [HCL.out]; kernel_rfl) (E.d 0 0) (fun j u hu => (HAT.out).2 j u hu)) ?_
      refine QSeq.go fun act E => ?_
      refine qc_alloc rfl (wanted_none rfl) rfl (z := [.int .i64 0, .slice none 0 0, .int .u8 0, .int .u8 0, .int .u8 0, .int .u8 0, .int .u8 0, .int .u8 0, .int .u8 0, .int .u8 0, .int .u8 0, .int .u8 0, .int .u8 0, .int .u8 0, .int .u8 0, .int .u8 0, .int .u8 0, .int .u8 0, .int .u8 0, .int .u8 0, .int .u8 0, .int .u8 0, .int .u8 0, .int .u8 0, .int .u8 0, .int .u8 0, .int .u8 0, .int .u8 0, .int .u8 0, .int .u8 0, .int .u8 0, .int .u8 0, .int .u8 0, .int .u8 0]) (by kernel_rfl) ?_
      intro u3_2 qq hm
      have zl3_2 := qq.lt
      have Hx3 := hid qq
      have zu3_2 := hm.size
      have Cx4 := hid (show Mod (fun _ => False) wo u3_2 from hm)
      clear hm
      clear act E qq
      refine QSeq.go fun act E => ?_
      have hlz : (cs).length = List.length ([.int .i64 0, .slice none 0 0, .int .u8 0, .int .u8 0, .int .u8 0, .int .u8 0, .int .u8 0, .int .u8 0, .int .u8 0, .int .u8 0, .int .u8 0, .int .u8 0, .int .u8 0, .int .u8 0, .int .u8 0, .int .u8 0, .int .u8 0, .int .u8 0, .int .u8 0, .int .u8 0, .int .u8 0, .int .u8 0, .int .u8 0, .int .u8 0, .int .u8 0, .int .u8 0, .int .u8 0, .int .u8 0, .int .u8 0, .int .u8 0, .int .u8 0, .int .u8 0, .int .u8 0, .int .u8 0] : List Value) := (by rw [HCL.out]; rfl)
      refine qc_store rfl (wanted_none rfl) rfl Hx3.out (off := 0) (vs := cs) (by rw [hlz]; kernel_rfl) HOC.out (by rw [hlz]; exact Nat.le_of_eq (Nat.zero_add _)) (E.d 2 0) (ec (E.d 1 1)) ?_
      intro u3_3 qc0 hm
      have qq := qc0.eqv (b := (cs : List Value).toArray) (lay_whole #[.int .i64 0, .slice none 0 0, .int .u8 0, .int .u8 0, .int .u8 0, .int .u8 0, .int .u8 0, .int .u8 0, .int .u8 0, .int .u8 0, .int .u8 0, .int .u8 0, .int .u8 0, .int .u8 0, .int .u8 0, .int .u8 0, .int .u8 0, .int .u8 0, .int .u8 0, .int .u8 0, .int .u8 0, .int .u8 0, .int .u8 0, .int .u8 0, .int .u8 0, .int .u8 0, .int .u8 0, .int .u8 0, .int .u8 0, .int .u8 0, .int .u8 0, .int .u8 0, .int .u8 0, .int .u8 0] _ (by rw [hlz]; rfl))
      clear qc0 hlz
      have Hx5 := hid qq
      have zu3_3 := hm.size
      have HMu3_3 := hid hm
      have Cx6 := hid (Mod.goS (S' := (fun _ => False)) Cx4.out hm (fun _ h => h) (by intro k h0 h2; omega))
      clear hm Cx4
      clear act E qq Hx3
      clear HMu3_3
      refine QSeq.nil (t' := [_, _, _, _]) rfl ?_
      obtain rfl := HA0.out
      clear HA0 oe12 oe14
      simp only [pz, Act.put, List.setIfInBounds_toArray, List.set_cons_zero, List.set_cons_succ, List.set_nil]
      go_upto_region 4 with (fail)
      refine wp_region_U 23 [18, 19, 20, 21] [0, 1, 2, 3] (fun a0 HA0 => ?_)
      have oe0 := ev HA0 0 rfl
      have oe2 := ev HA0 2 rfl
      have oe7 := ev HA0 7 rfl
      refine QSeq.pure rfl _ (fun E => ex_move rfl (E.v oe2)) ?_
      refine QSeq.pure rfl _ (fun E => ex_move rfl (E.v oe0)) ?_
      refine QSeq.pure rfl _ (fun E => ex_loadA rfl Try.underlying102 rfl (off := 0) (cs := cs) (by rw [HCL.out]; kernel_rfl) (E.v oe7) (Cs.whole Hx5.out)) ?_
      refine QSeq.go fun act E => ?_
      have ea19 : act.eval (.tmp 19) = .pointer (some ⟨g, 0, none⟩) := (E.d 1 1)
      have ea20 : act.eval (.tmp 20) = .agg cs.toArray := (E.d 2 0)
      refine qc_call (args := #[.pointer (some ⟨g, 0, none⟩), .agg cs.toArray]) rfl (wanted_none rfl) (by rw [ex_callV rfl (E.d 0 2) Try.func90 (by kernel_rfl) (by kernel_rfl)]; exact congrArg (fun z => Result.ok (Next.enter _ z) _) (by simp only [List.map_toArray, List.map_cons, List.map_nil, ea19, ea20]; try rfl)) (PutOp_Q _ _ _ _ _ _ _ (HW2.out.mod Cx6.out (fun _ _ h => h)) (by intro k h1; rcases h1 with h1 | h1 <;> first | omega | (have hb := HBR.out k h1; omega)) (HRD.out.mod Cx6.out (fun _ _ h => h)) (by intro k h1; have hb := HBT.out k h1; omega) (by intro k h1 h2; rcases h1 with h1 | h1 <;> first | omega | (have hb := HBR.out k h1; omega) | (have hb := HBT.out k h2; omega) | exact HDJ.out k h1 h2 | exact HDJ.out k h2 h1 | (have hb := HBR.out k h1; have hb2 := HBT.out k h2; omega)) HLk.out) ?_
      rintro e u4_3 ⟨rfl, qwr, hm⟩
      refine ⟨_, rfl, ?_⟩
      have Hx7 := hid (qwr.widen (R' := (fun k => (R k) ∨ (New w wo k) ∨ (New u3_3 u4_3 k))) (by intro k h1; simp only [or_assoc] at h1 ⊢; exact h1) (Nat.le_refl _))
      have zu4_3 := hm.size
      have Cx8 := hid (show Mod (fun k => (R k) ∨ (New w wo k)) u3_3 u4_3 from hm)
      clear hm
      clear act E qwr HW2 ea19 ea20
      refine QSeq.nil (t' := [_, _, _, _]) rfl ?_
      obtain rfl := HA0.out
      clear HA0 oe0 oe2 oe7
      simp only [pz, Act.put, List.setIfInBounds_toArray, List.set_cons_zero, List.set_cons_succ]
      have hq := Hx7.out
      rw [HE.out] at hq
      have HQ := Lib.hid hq
      clear hq
      go_wp2
      go_roundw
      case rel => exact ⟨k + 1, by go_num, by omega, by omega, (HQ.out.widen (by intro b h1; rcases h1 with h1 | h1 | h1 <;> first | exact Or.inl h1 | (right; omega)) (Nat.le_refl _)), ((HS2.out.mod Cx6.out (fun _ _ h => h)).mod Cx8.out (by intro k h1 h2; rcases h2 with h2 | h2 <;> first | omega | (have hb := HBT.out k h1; omega) | (have hb := HBR.out k h2; omega) | exact HDJ.out k h1 h2 | exact HDJ.out k h2 h1 | (have hb := HBT.out k h1; have hb2 := HBR.out k h2; omega))), ((HM2.out.trans Cx6.out (fun _ _ h => h.elim)).trans Cx8.out (by intro k h1 h2; rcases h2 with h2 | h2 <;> first | exact h2 | omega | (have hb := HBR.out k h2; omega)))⟩
      case measure => simp [intOf]; omega
    · have hkk : k = l.length := by omega
      subst hkk
      go_wp2
      go_end0
      have hq := HW2.out
      rw [List.take_length] at hq
      exact ⟨rfl, hq, HM2.out⟩
set_option maxHeartbeats 4000000 in
theorem PutList_Ce : PutsL CeR 124 84 ceB := by
  intro R R2 g bs v l w hW hB hs hB2 hD hl
  obtain ⟨ao, cap, rfl⟩ := hs.shape
  have hb64 : l.length ≤ maxLen := hs.bd
  rw [maxLen_val] at hb64
  have HI64 := hid (show I64 (l.length : Int) by unfold I64; omega)
  have HW := Lib.hid hW
  have HS := Lib.hid hs
  have HBR := Lib.hid hB
  have HBT := Lib.hid hB2
  have HDJ := Lib.hid hD
  have HL := Lib.hid hl
  clear hW hB hs hB2 hD hl
  unfold listB at HL
  go_enter Try.func124, Try.ntmps124
  go_upto_region 0 with (fail)
  have HM0 := hid (Mod.refl (fun k => (R k)) w)
  go_upto_region 0 with (fail)
  refine wp_region_U 23 [8, 9, 10, 11] [0, 1, 2, 3] (fun a0 HA0 => ?_)
  have oe0 := ev HA0 0 rfl
  have oe1 := ev HA0 1 rfl
  refine QSeq.pure rfl _ (fun E => ex_move rfl (E.v oe0)) ?_
  refine QSeq.pure rfl _ (fun E => ex_move rfl (E.v oe1)) ?_
  refine QSeq.pure rfl (.int .i64 l.length) (fun E => ex_lenS rfl (E.d 1 0) Try.underlying87) ?_
  refine QSeq.call rfl rfl Try.func52 (WInt_Q HW.out HI64.out (by have := HL.out; simp only [List.length_append] at this ⊢; omega)) (fun E => args2 (E.d 0 2) (E.d 2 0)) ?_
  rintro e u0_3 ⟨rfl, qwr, hm⟩
  refine ⟨_, rfl, ?_⟩
  have Hx1 := hid (qwr.widen (R' := (fun k => (R k) ∨ (New w u0_3 k))) (fun _ h => h) (Nat.le_refl _))
  have zu0_3 := hm.size
  have Cx2 := hid (show Mod (fun k => (R k)) w u0_3 from hm)
  clear hm
  clear qwr HW
  refine QSeq.nil (t' := [_, _, _, _]) rfl ?_
  obtain rfl := HA0.out
  clear HA0 oe0 oe1
  simp only [pz, Act.put, List.setIfInBounds_toArray, List.set_cons_zero, List.set_cons_succ]
  go_wp2
  go_loopw [14] (fun t wr => ∃ k : Nat, t = .int .i64 (k : Int) ∧ k ≤ l.length ∧ u0_3.heap.size ≤ wr.heap.size ∧ WrR (fun b => R b ∨ (w.heap.size ≤ b ∧ b < wr.heap.size)) 900000 wr g (bs ++ (encI l.length ++ ((l.take k).map ceB).flatten)) ∧ RdS CeR R2 wr (.slice ao l.length cap) l ∧ Mod R w wr) (fun t _ => l.length - (intOf t).toNat)
  case atStart => exact ⟨0, rfl, Nat.zero_le _, Nat.le_refl _, by have hq := (Hx1.out.widen (R' := (fun k => R k ∨ (w.heap.size ≤ k ∧ k < u0_3.heap.size))) (by intro k h1; rcases h1 with h1 | h1 <;> first | exact Or.inl h1 | (right; omega)) (Nat.le_refl _)); simpa only [List.take_zero, List.map_nil, List.flatten_nil, List.append_nil] using hq, (HS.out.mod Cx2.out (by intro k h1 h2; first | omega | (have hb := HBT.out k h1; omega) | (have hb := HBR.out k h2; omega) | exact HDJ.out k h1 h2 | exact HDJ.out k h2 h1 | (have hb := HBT.out k h1; have hb2 := HBR.out k h2; omega))), (HM0.out.trans Cx2.out (fun _ _ h => h))⟩
  case round =>
    obtain ⟨k, rfl, hk, hz, hw, hs, hm⟩ := hrel
    have HW2 := Lib.hid hw
    have HS2 := Lib.hid hs
    have HM2 := Lib.hid hm
    clear hw hs hm Hx1 HS HM0
    obtain ⟨wo, rfl⟩ : ∃ x, x = wr := ⟨_, rfl⟩
    by_cases hlt : k < l.length
    · skip
      obtain ⟨g0, o0, cs, rfl, hrg, hrd, hcs⟩ := HS2.out.at hlt
      have hcl : cs.length = 38 := CeR.len hrd
      have HCL := Lib.hid hcl
      have HAT := hid (show CellsAt R2 wo g0 (o0 + k * 38) cs from ⟨hrg, hcs⟩)
      have HRD := Lib.hid hrd
      have HOC := hid (CeR.one hrd)
      clear hcl hcs hrd hrg
      have HE : Hid (bs ++ (encI l.length ++ ((l.take k).map ceB).flatten) ++ ceB l[k] = bs ++ (encI l.length ++ ((l.take (k + 1)).map ceB).flatten)) := hid (by rw [List.take_succ_eq_append_getElem hlt, List.map_append, List.flatten_append]; simp [List.append_assoc])
      have HLk := hid (show (bs ++ (encI l.length ++ ((l.take k).map ceB).flatten) ++ ceB l[k]).length ≤ 900000 by rw [HE.out]; exact Nat.le_trans (put_len _ _ _ _ _) HL.out)
      go_upto_region 3 with (fail)
      refine wp_region_U 23 [16, 17, 7, 26] [0, 1, 2, 3] (fun a0 HA0 => ?_)
      have oe12 := ev HA0 12 rfl
      have oe14 := ev HA0 14 rfl
      refine QSeq.pure rfl (.pointer (some ⟨g0, o0 + k * 38, none⟩)) (fun E => ex_idxS (i := k) (s := 38) rfl Try.underlying87 (by kernel_rfl) (E.v oe12) (E.v oe14) (by omega)) ?_
      refine QSeq.pure rfl _ (fun E => ex_loadA rfl Try.underlying84 rfl (off := o0 + k * 38) (cs := cs) (by rw [HCL.out]; kernel_rfl) (E.d 0 0) (fun j u hu => (HAT.out).2 j u hu)) ?_
      refine QSeq.go fun act E => ?_
      refine qc_alloc rfl (wanted_none rfl) rfl (z := [.int .i64 0, .int .i64 0, .int .u8 0, .int .u8 0, .int .u8 0, .int .u8 0, .int .u8 0, .int .u8 0, .int .u8 0, .int .u8 0, .int .u8 0, .int .u8 0, .int .u8 0, .int .u8 0, .int .u8 0, .int .u8 0, .int .u8 0, .int .u8 0, .int .u8 0, .int .u8 0, .int .u8 0, .int .u8 0, .int .u8 0, .int .u8 0, .int .u8 0, .int .u8 0, .int .u8 0, .int .u8 0, .int .u8 0, .int .u8 0, .int .u8 0, .int .u8 0, .int .u8 0, .int .u8 0, .int .i64 0, .int .i64 0, .int .i64 0, .slice none 0 0]) (by kernel_rfl) ?_
      intro u3_2 qq hm
      have zl3_2 := qq.lt
      have Hx3 := hid qq
      have zu3_2 := hm.size
      have Cx4 := hid (show Mod (fun _ => False) wo u3_2 from hm)
      clear hm
      clear act E qq
      refine QSeq.go fun act E => ?_
      have hlz : (cs).length = List.length ([.int .i64 0, .int .i64 0, .int .u8 0, .int .u8 0, .int .u8 0, .int .u8 0, .int .u8 0, .int .u8 0, .int .u8 0, .int .u8 0, .int .u8 0, .int .u8 0, .int .u8 0, .int .u8 0, .int .u8 0, .int .u8 0, .int .u8 0, .int .u8 0, .int .u8 0, .int .u8 0, .int .u8 0, .int .u8 0, .int .u8 0, .int .u8 0, .int .u8 0, .int .u8 0, .int .u8 0, .int .u8 0, .int .u8 0, .int .u8 0, .int .u8 0, .int .u8 0, .int .u8 0, .int .u8 0, .int .i64 0, .int .i64 0, .int .i64 0, .slice none 0 0] : List Value) := (by rw [HCL.out]; rfl)
      refine qc_store rfl (wanted_none rfl) rfl Hx3.out (off := 0) (vs := cs) (by rw [hlz]; kernel_rfl) HOC.out (by rw [hlz]; exact Nat.le_of_eq (Nat.zero_add _)) (E.d 2 0) (ec (E.d 1 1)) ?_
      intro u3_3 qc0 hm
      have qq := qc0.eqv (b := (cs : List Value).toArray) (lay_whole #[.int .i64 0, .int .i64 0, .int .u8 0, .int .u8 0, .int .u8 0, .int .u8 0, .int .u8 0, .int .u8 0, .int .u8 0, .int .u8 0, .int .u8 0, .int .u8 0, .int .u8 0, .int .u8 0, .int .u8 0, .int .u8 0, .int .u8 0, .int .u8 0, .int .u8 0, .int .u8 0, .int .u8 0, .int .u8 0, .int .u8 0, .int .u8 0, .int .u8 0, .int .u8 0, .int .u8 0, .int .u8 0, .int .u8 0, .int .u8 0, .int .u8 0, .int .u8 0, .int .u8 0, .int .u8 0, .int .i64 0, .int .i64 0, .int .i64 0, .slice none 0 0] _ (by rw [hlz]; rfl))
      clear qc0 hlz
      have Hx5 := hid qq
      have zu3_3 := hm.size
      have HMu3_3 := hid hm
      have Cx6 := hid (Mod.goS (S' := (fun _ => False)) Cx4.out hm (fun _ h => h) (by intro k h0 h2; omega))
      clear hm Cx4
      clear act E qq Hx3
      clear HMu3_3
      refine QSeq.nil (t' := [_, _, _, _]) rfl ?_
      obtain rfl := HA0.out
      clear HA0 oe12 oe14
      simp only [pz, Act.put, List.setIfInBounds_toArray, List.set_cons_zero, List.set_cons_succ, List.set_nil]
      go_upto_region 4 with (fail)
      refine wp_region_U 23 [18, 19, 20, 21] [0, 1, 2, 3] (fun a0 HA0 => ?_)
      have oe0 := ev HA0 0 rfl
      have oe2 := ev HA0 2 rfl
      have oe7 := ev HA0 7 rfl
      refine QSeq.pure rfl _ (fun E => ex_move rfl (E.v oe2)) ?_
      refine QSeq.pure rfl _ (fun E => ex_move rfl (E.v oe0)) ?_
      refine QSeq.pure rfl _ (fun E => ex_loadA rfl Try.underlying84 rfl (off := 0) (cs := cs) (by rw [HCL.out]; kernel_rfl) (E.v oe7) (Cs.whole Hx5.out)) ?_
      refine QSeq.go fun act E => ?_
      have ea19 : act.eval (.tmp 19) = .pointer (some ⟨g, 0, none⟩) := (E.d 1 1)
      have ea20 : act.eval (.tmp 20) = .agg cs.toArray := (E.d 2 0)
      refine qc_call (args := #[.pointer (some ⟨g, 0, none⟩), .agg cs.toArray]) rfl (wanted_none rfl) (by rw [ex_callV rfl (E.d 0 2) Try.func84 (by kernel_rfl) (by kernel_rfl)]; exact congrArg (fun z => Result.ok (Next.enter _ z) _) (by simp only [List.map_toArray, List.map_cons, List.map_nil, ea19, ea20]; try rfl)) (PutCe_Q _ _ _ _ _ _ _ (HW2.out.mod Cx6.out (fun _ _ h => h)) (by intro k h1; rcases h1 with h1 | h1 <;> first | omega | (have hb := HBR.out k h1; omega)) (HRD.out.mod Cx6.out (fun _ _ h => h)) (by intro k h1; have hb := HBT.out k h1; omega) (by intro k h1 h2; rcases h1 with h1 | h1 <;> first | omega | (have hb := HBR.out k h1; omega) | (have hb := HBT.out k h2; omega) | exact HDJ.out k h1 h2 | exact HDJ.out k h2 h1 | (have hb := HBR.out k h1; have hb2 := HBT.out k h2; omega)) HLk.out) ?_
      rintro e u4_3 ⟨rfl, qwr, hm⟩
      refine ⟨_, rfl, ?_⟩
      have Hx7 := hid (qwr.widen (R' := (fun k => (R k) ∨ (New w wo k) ∨ (New u3_3 u4_3 k))) (by intro k h1; simp only [or_assoc] at h1 ⊢; exact h1) (Nat.le_refl _))
      have zu4_3 := hm.size
      have Cx8 := hid (show Mod (fun k => (R k) ∨ (New w wo k)) u3_3 u4_3 from hm)
      clear hm
      clear act E qwr HW2 ea19 ea20
      refine QSeq.nil (t' := [_, _, _, _]) rfl ?_
      obtain rfl := HA0.out
      clear HA0 oe0 oe2 oe7
      simp only [pz, Act.put, List.setIfInBounds_toArray, List.set_cons_zero, List.set_cons_succ]
      have hq := Hx7.out
      rw [HE.out] at hq
      have HQ := Lib.hid hq
      clear hq
      go_wp2
      go_roundw
      case rel => exact ⟨k + 1, by go_num, by omega, by omega, (HQ.out.widen (by intro b h1; rcases h1 with h1 | h1 | h1 <;> first | exact Or.inl h1 | (right; omega)) (Nat.le_refl _)), ((HS2.out.mod Cx6.out (fun _ _ h => h)).mod Cx8.out (by intro k h1 h2; rcases h2 with h2 | h2 <;> first | omega | (have hb := HBT.out k h1; omega) | (have hb := HBR.out k h2; omega) | exact HDJ.out k h1 h2 | exact HDJ.out k h2 h1 | (have hb := HBT.out k h1; have hb2 := HBR.out k h2; omega))), ((HM2.out.trans Cx6.out (fun _ _ h => h.elim)).trans Cx8.out (by intro k h1 h2; rcases h2 with h2 | h2 <;> first | exact h2 | omega | (have hb := HBR.out k h2; omega)))⟩
      case measure => simp [intOf]; omega
    · have hkk : k = l.length := by omega
      subst hkk
      go_wp2
      go_end0
      have hq := HW2.out
      rw [List.take_length] at hq
      exact ⟨rfl, hq, HM2.out⟩
set_option maxHeartbeats 4000000 in
theorem PutPm_Q : Puts PmR 86 pmB := by
  intro R R2 g bs cs x w hW hB hx hB2 hD hl
  obtain ⟨v_l, rfl, hok, hs0⟩ := hx
  have HS0 := Lib.hid hs0
  clear hs0
  have HW := Lib.hid hW
  have HBR := Lib.hid hB
  have HBT := Lib.hid hB2
  have HDJ := Lib.hid hD
  have HOK := Lib.hid hok
  have HL := Lib.hid hl
  clear hW hB hB2 hD hl hok
  unfold pmB at HL
  go_enter Try.func86, Try.ntmps86
  go_upto_region 1 with (fail)
  obtain ⟨w1, hw1⟩ : ∃ zz, zz = (w.alloc (.cells (x.cells v_l : List Value).toArray 89)) := ⟨_, rfl⟩
  change Code.wp _ _ _ _ (w.alloc (.cells (x.cells v_l : List Value).toArray 89))
  rw [← hw1]
  have HB3 := hid (show Cs w1 (w.heap.size) (x.cells v_l : List Value).toArray 89 by rw [hw1]; exact Cs.new _ _ _)
  have hm : Mod (fun _ => False) w w1 := by rw [hw1]; exact (Mod.refl _ _).alloc _
  have HM0 := hid (show Mod (fun k => (R k)) w w1 from hm.mono (fun _ _ h => h.elim))
  have hs1 : w1.heap.size = w.heap.size + 1 := by rw [hw1]; simp
  have Hx1 := hid (HW.out.mod hm (fun _ _ h => h))
  clear HW
  have Hx2 := hid (HS0.out.mod hm (fun _ _ h => h))
  clear HS0
  clear hw1 hm
  go_upto_region 1 with (fail)
  generalize ha0 : Act.mk _ _ = a0
  have oe0 : a0.eval (.tmp 0) = .pointer (some ⟨g, 0, none⟩) := by rw [← ha0]; rfl
  have oe3 : a0.eval (.tmp 3) = .pointer (some ⟨w.heap.size, 0, none⟩) := by rw [← ha0]; rfl
  have hsz0 : a0.tmps.size = 22 := by rw [← ha0]; rfl
  have HA0 := hid ha0
  clear ha0
  refine wp_region_Q1 22 hsz0 [4, 5, 6, 7, 8, 9, 10, 11, 12, 13] (fun k => (R k)) (fun k j => (k = 0 ∧ ((R j))) ∨ (k = 1 ∧ ((R j))) ∨ (k = 2 ∧ ((R j)))) (by intro k j h; (try dsimp only at h ⊢); rcases h with ⟨-, h⟩ | ⟨-, h⟩ | ⟨-, h⟩; (exact h); (exact h); (exact h)) [qi (.pointer (some ⟨g, 0, none⟩)), qi (.pointer (some ⟨w.heap.size, 0, none⟩)), qi (.int .i64 x.rp), qi (.pointer (some ⟨g, 0, none⟩)), qi (.pointer (some ⟨w.heap.size, 1, none⟩)), qi (.int .i64 x.ep), qi (.pointer (some ⟨g, 0, none⟩)), qi (.pointer (some ⟨w.heap.size, 2, none⟩)), qi (.int .u64 (x.fl : Nat)), qi (.pointer (some ⟨g, 0, none⟩))] ⟨qi_stable, qi_stable, qi_stable, qi_stable, qi_stable, qi_stable, qi_stable, qi_stable, qi_stable, qi_stable, trivial⟩ [3, 6, 9] ⟨?_, ?_, ?_, ?_, ?_, ?_, ?_, ?_, ?_, ?_, trivial⟩ ?_
  · exact stq (fun E => ex_move rfl (E.v oe0))
  · exact stq (fun E => ex_field rfl Try.underlying89 rfl (by kernel_rfl) (E.v oe3))
  · exact stq (fun E => ex_load1 rfl Try.underlying3 rfl (E.d 1) (Cs.lit1 (HB3.out.mod E.m (by intro h2; rcases h2 with ⟨h0, h2⟩ | h2 <;> first | omega | (have hb := HBR.out _ h2; omega))) rfl))
  · exact stepq_chain rfl
  · exact stq (fun E => ex_field rfl Try.underlying89 rfl (by kernel_rfl) (E.v oe3))
  · exact stq (fun E => ex_load1 rfl Try.underlying3 rfl (E.d 4) (Cs.lit1 (HB3.out.mod E.m (by intro h2; rcases h2 with ⟨h0, h2⟩ | h2 <;> first | omega | (have hb := HBR.out _ h2; omega))) rfl))
  · exact stepq_chain rfl
  · exact stq (fun E => ex_field rfl Try.underlying89 rfl (by kernel_rfl) (E.v oe3))
  · exact stq (fun E => ex_load1 rfl Try.underlying45 rfl (E.d 7) (Cs.lit1 (HB3.out.mod E.m (by intro h2; rcases h2 with ⟨h0, h2⟩ | h2 <;> first | omega | (have hb := HBR.out _ h2; omega))) rfl))
  · exact stepq_chain rfl
  intro u1_0 hr
  have zu1_0 := hr.size
  have Cx3 := hid (hr.new (S := (fun k => (R k))))
  have Hx4 := hid (Hx1.out.mod hr (by intro k h1 h2; have hb := HBR.out k h1; omega))
  clear Hx1
  clear hr
  refine QChain.go fun Z act E => ?_
  refine qc_callF (args := #[.pointer (some ⟨g, 0, none⟩), .int .i64 x.rp]) rfl (wanted_none rfl) rfl Try.func52 (args2 (E.d 0) (E.d 2)) (WInt_Q Hx4.out HOK.out.1 (by have := HL.out; simp only [List.length_append] at this ⊢; omega)) ?_
  rintro e u1_1a ⟨rfl, qwr, hm⟩
  have zu1_1a := hm.size
  refine ⟨_, rfl, hm.mono (by intro k hk h; first | omega | exact Or.inl ⟨(by have hb := HBR.out k h; omega), Or.inl ⟨rfl, h⟩⟩), (fun _ => rfl), ?_⟩
  intro u1_1 hr
  have zu1_1 := hr.size
  have Hx5 := hid ((qwr.widen (R' := (fun k => (R k) ∨ (New u1_0 u1_1a k))) (fun _ h => h) (Nat.le_refl _)).mod hr (by intro k h1 h2; rcases h1 with h1 | h1 <;> first | omega | (have hb := HBR.out k h1; omega)))
  have Cx6 := hid (Cx3.out.goM hm hr (fun _ _ h => h))
  clear Cx3 hm hr Z act E qwr Hx4
  refine QChain.go fun Z act E => ?_
  refine qc_callF (args := #[.pointer (some ⟨g, 0, none⟩), .int .i64 x.ep]) rfl (wanted_none rfl) rfl Try.func52 (args2 (E.d 3) (E.d 5)) (WInt_Q Hx5.out HOK.out.2.1 (by have := HL.out; simp only [List.length_append] at this ⊢; omega)) ?_
  rintro e u1_2a ⟨rfl, qwr, hm⟩
  have zu1_2a := hm.size
  refine ⟨_, rfl, hm.mono (by intro k hk h; rcases h with h | h <;> first | omega | exact Or.inl ⟨(by have hb := HBR.out k h; omega), Or.inr (Or.inl ⟨rfl, h⟩)⟩), (fun _ => rfl), ?_⟩
  intro u1_2 hr
  have zu1_2 := hr.size
  have Hx7 := hid ((qwr.widen (R' := (fun k => (R k) ∨ (New u1_0 u1_1a k) ∨ (New u1_1 u1_2a k))) (by intro k h1; simp only [or_assoc] at h1 ⊢; exact h1) (Nat.le_refl _)).mod hr (by intro k h1 h2; rcases h1 with h1 | h1 | h1 <;> first | omega | (have hb := HBR.out k h1; omega)))
  have Cx8 := hid (Cx6.out.goM hm hr (by intro k h0 h2; rcases h2 with h2 | h2 <;> first | omega | exact h2))
  clear Cx6 hm hr Z act E qwr Hx5
  refine QChain.go fun Z act E => ?_
  refine qc_callF (args := #[.pointer (some ⟨g, 0, none⟩), .int .u64 (x.fl : Nat)]) rfl (wanted_none rfl) rfl Try.func75 (args2 (E.d 6) (E.d 8)) (WNum_Q Hx7.out HOK.out.2.2.1 (by have := HL.out; simp only [List.length_append] at this ⊢; omega)) ?_
  rintro e u1_3a ⟨rfl, qwr, hm⟩
  have zu1_3a := hm.size
  refine ⟨_, rfl, hm.mono (by intro k hk h; rcases h with h | h | h <;> first | omega | exact Or.inl ⟨(by have hb := HBR.out k h; omega), Or.inr (Or.inr (⟨rfl, h⟩))⟩), (fun _ => rfl), ?_⟩
  intro u1_3 hr
  have zu1_3 := hr.size
  have Hx9 := hid ((qwr.widen (R' := (fun k => (R k) ∨ (New u1_0 u1_1a k) ∨ (New u1_1 u1_2a k) ∨ (New u1_2 u1_3a k))) (by intro k h1; simp only [or_assoc] at h1 ⊢; exact h1) (Nat.le_refl _)).mod hr (by intro k h1 h2; rcases h1 with h1 | h1 | h1 | h1 <;> first | omega | (have hb := HBR.out k h1; omega)))
  have Cx10 := hid (Cx8.out.goM hm hr (by intro k h0 h2; rcases h2 with h2 | h2 | h2 <;> first | omega | exact h2))
  clear Cx8 hm hr Z act E qwr Hx7
  refine QChain.nil fun vs hl hzz hrows hne => ?_
  obtain ⟨Z, hYZ, hZb, hV⟩ := hzz
  have f0 := fvi hV hl 0
  have f3 := fvi hV hl 3
  have f6 := fvi hV hl 6
  have f9 := fvi hV hl 9
  rw [show vs = [gw vs 0, gw vs 1, gw vs 2, gw vs 3, gw vs 4, gw vs 5, gw vs 6, gw vs 7, gw vs 8, gw vs 9] from (gw_eta hl).trans rfl]
  have ha0 := HA0.out
  subst ha0
  clear HA0 hV hYZ hZb hsz0 hrows hne oe0 oe3
  simp only [putAll, Act.put, List.setIfInBounds_toArray, List.set_cons_zero, List.set_cons_succ, f0, f3, f6, f9]
  clear hl f0 f3 f6 f9
  go_upto_region 2 with (fail)
  refine wp_region_U 22 [14, 15, 16, 17] [0, 1, 2, 3] (fun a0 HA0 => ?_)
  have oe0 := ev HA0 0 rfl
  have oe3 := ev HA0 3 rfl
  refine QSeq.pure rfl _ (fun E => ex_move rfl (E.v oe0)) ?_
  refine QSeq.pure rfl (.pointer (some ⟨w.heap.size, 3, none⟩)) (fun E => ex_field rfl Try.underlying89 rfl (by kernel_rfl) (E.v oe3)) ?_
  refine QSeq.pure rfl _ (fun E => ex_load1 rfl Try.underlying87 rfl (E.d 1 0) (Cs.lit1 (HB3.out.mod Cx10.out (by intro h2; first | omega | (have hb := HBR.out _ h2; omega))) rfl)) ?_
  refine QSeq.call rfl rfl Try.func124 (PutList_Ce _ _ _ _ _ _ _ Hx9.out (by intro k h1; rcases h1 with h1 | h1 | h1 | h1 <;> first | omega | (have hb := HBR.out k h1; omega)) (Hx2.out.mod Cx10.out (by intro k h1 h2; first | omega | (have hb := HBT.out k h1; omega) | (have hb := HBR.out k h2; omega) | exact HDJ.out k h1 h2 | exact HDJ.out k h2 h1 | (have hb := HBT.out k h1; have hb2 := HBR.out k h2; omega))) (by intro k h1; have hb := HBT.out k h1; omega) (by intro k h1 h2; rcases h1 with h1 | h1 | h1 | h1 <;> first | omega | (have hb := HBR.out k h1; omega) | (have hb := HBT.out k h2; omega) | exact HDJ.out k h1 h2 | exact HDJ.out k h2 h1 | (have hb := HBR.out k h1; have hb2 := HBT.out k h2; omega)) (by have := HL.out; simp only [List.length_append] at this ⊢; omega)) (fun E => args3 (E.d 0 2) (E.d 2 0) rfl) ?_
  rintro e u2_3 ⟨rfl, qwr, hm⟩
  refine ⟨_, rfl, ?_⟩
  have Hx11 := hid (qwr.widen (R' := (fun k => (R k) ∨ (New u1_0 u1_1a k) ∨ (New u1_1 u1_2a k) ∨ (New u1_2 u1_3a k) ∨ (New u1_3 u2_3 k))) (by intro k h1; simp only [or_assoc] at h1 ⊢; exact h1) (Nat.le_refl _))
  have zu2_3 := hm.size
  have Cx12 := hid (show Mod (fun k => (R k) ∨ (New u1_0 u1_1a k) ∨ (New u1_1 u1_2a k) ∨ (New u1_2 u1_3a k)) u1_3 u2_3 from hm)
  clear hm
  clear qwr Hx9
  refine QSeq.nil (t' := [_, _, _, _]) rfl ?_
  obtain rfl := HA0.out
  clear HA0 oe0 oe3
  simp only [pz, Act.put, List.setIfInBounds_toArray, List.set_cons_zero, List.set_cons_succ]
  go_upto_region 3 with (fail)
  refine wp_region_U 22 [18, 19, 20, 21] [0, 1, 2, 3] (fun a0 HA0 => ?_)
  have oe0 := ev HA0 0 rfl
  have oe3 := ev HA0 3 rfl
  refine QSeq.pure rfl _ (fun E => ex_move rfl (E.v oe0)) ?_
  refine QSeq.pure rfl (.pointer (some ⟨w.heap.size, 4, none⟩)) (fun E => ex_field rfl Try.underlying89 rfl (by kernel_rfl) (E.v oe3)) ?_
  refine QSeq.pure rfl _ (fun E => ex_loadA rfl Try.underlying34 rfl (off := 4) (cs := [.int .i64 x.sb, .int .i64 x.mr]) (by kernel_rfl) (E.d 1 0) (Cs.litA ((HB3.out.mod Cx10.out (by intro h2; first | omega | (have hb := HBR.out _ h2; omega))).mod Cx12.out (by intro h2; rcases h2 with h2 | h2 | h2 | h2 <;> first | omega | (have hb := HBR.out _ h2; omega))) rfl)) ?_
  refine QSeq.call rfl rfl Try.func122 (PutSig_Q Hx11.out (by intro k h1; rcases h1 with h1 | h1 | h1 | h1 | h1 <;> first | omega | (have hb := HBR.out k h1; omega)) HOK.out.2.2.2.1 HOK.out.2.2.2.2 (by have := HL.out; simp only [List.length_append] at this ⊢; omega)) (fun E => args2 (E.d 0 2) (E.d 2 0)) ?_
  rintro e u3_3 ⟨rfl, qwr, hm⟩
  refine ⟨_, rfl, ?_⟩
  have Hx13 := hid (qwr.widen (R' := (fun k => (R k) ∨ (New u1_0 u1_1a k) ∨ (New u1_1 u1_2a k) ∨ (New u1_2 u1_3a k) ∨ (New u1_3 u2_3 k) ∨ (New u2_3 u3_3 k))) (by intro k h1; simp only [or_assoc] at h1 ⊢; exact h1) (Nat.le_refl _))
  have zu3_3 := hm.size
  have Cx14 := hid (show Mod (fun k => (R k) ∨ (New u1_0 u1_1a k) ∨ (New u1_1 u1_2a k) ∨ (New u1_2 u1_3a k) ∨ (New u1_3 u2_3 k)) u2_3 u3_3 from hm)
  clear hm
  clear qwr Hx11
  refine QSeq.nil (t' := [_, _, _, _]) rfl ?_
  obtain rfl := HA0.out
  clear HA0 oe0 oe3
  simp only [pz, Act.put, List.setIfInBounds_toArray, List.set_cons_zero, List.set_cons_succ]
  go_wp2
  go_end0
  have hq := (Hx13.out.widen (R' := (fun k => R k ∨ New w u3_3 k)) (by intro k h1; rcases h1 with h1 | h1 | h1 | h1 | h1 | h1 <;> first | exact Or.inl h1 | (right; omega)) (Nat.le_refl _))
  simp only [List.append_assoc] at hq
  exact ⟨rfl, by simpa only [pmB, List.append_assoc] using hq, (((HM0.out.trans Cx10.out (fun _ _ h => h)).trans Cx12.out (by intro k h1 h2; rcases h2 with h2 | h2 | h2 | h2 <;> first | exact h2 | omega | (have hb := HBR.out k h2; omega))).trans Cx14.out (by intro k h1 h2; rcases h2 with h2 | h2 | h2 | h2 | h2 <;> first | exact h2 | omega | (have hb := HBR.out k h2; omega)))⟩
set_option maxHeartbeats 4000000 in
theorem PutList_Pm : PutsL PmR 125 86 pmB := by
  intro R R2 g bs v l w hW hB hs hB2 hD hl
  obtain ⟨ao, cap, rfl⟩ := hs.shape
  have hb64 : l.length ≤ maxLen := hs.bd
  rw [maxLen_val] at hb64
  have HI64 := hid (show I64 (l.length : Int) by unfold I64; omega)
  have HW := Lib.hid hW
  have HS := Lib.hid hs
  have HBR := Lib.hid hB
  have HBT := Lib.hid hB2
  have HDJ := Lib.hid hD
  have HL := Lib.hid hl
  clear hW hB hs hB2 hD hl
  unfold listB at HL
  go_enter Try.func125, Try.ntmps125
  go_upto_region 0 with (fail)
  have HM0 := hid (Mod.refl (fun k => (R k)) w)
  go_upto_region 0 with (fail)
  refine wp_region_U 23 [8, 9, 10, 11] [0, 1, 2, 3] (fun a0 HA0 => ?_)
  have oe0 := ev HA0 0 rfl
  have oe1 := ev HA0 1 rfl
  refine QSeq.pure rfl _ (fun E => ex_move rfl (E.v oe0)) ?_
  refine QSeq.pure rfl _ (fun E => ex_move rfl (E.v oe1)) ?_
  refine QSeq.pure rfl (.int .i64 l.length) (fun E => ex_lenS rfl (E.d 1 0) Try.underlying90) ?_
  refine QSeq.call rfl rfl Try.func52 (WInt_Q HW.out HI64.out (by have := HL.out; simp only [List.length_append] at this ⊢; omega)) (fun E => args2 (E.d 0 2) (E.d 2 0)) ?_
  rintro e u0_3 ⟨rfl, qwr, hm⟩
  refine ⟨_, rfl, ?_⟩
  have Hx1 := hid (qwr.widen (R' := (fun k => (R k) ∨ (New w u0_3 k))) (fun _ h => h) (Nat.le_refl _))
  have zu0_3 := hm.size
  have Cx2 := hid (show Mod (fun k => (R k)) w u0_3 from hm)
  clear hm
  clear qwr HW
  refine QSeq.nil (t' := [_, _, _, _]) rfl ?_
  obtain rfl := HA0.out
  clear HA0 oe0 oe1
  simp only [pz, Act.put, List.setIfInBounds_toArray, List.set_cons_zero, List.set_cons_succ]
  go_wp2
  go_loopw [14] (fun t wr => ∃ k : Nat, t = .int .i64 (k : Int) ∧ k ≤ l.length ∧ u0_3.heap.size ≤ wr.heap.size ∧ WrR (fun b => R b ∨ (w.heap.size ≤ b ∧ b < wr.heap.size)) 900000 wr g (bs ++ (encI l.length ++ ((l.take k).map pmB).flatten)) ∧ RdS PmR R2 wr (.slice ao l.length cap) l ∧ Mod R w wr) (fun t _ => l.length - (intOf t).toNat)
  case atStart => exact ⟨0, rfl, Nat.zero_le _, Nat.le_refl _, by have hq := (Hx1.out.widen (R' := (fun k => R k ∨ (w.heap.size ≤ k ∧ k < u0_3.heap.size))) (by intro k h1; rcases h1 with h1 | h1 <;> first | exact Or.inl h1 | (right; omega)) (Nat.le_refl _)); simpa only [List.take_zero, List.map_nil, List.flatten_nil, List.append_nil] using hq, (HS.out.mod Cx2.out (by intro k h1 h2; first | omega | (have hb := HBT.out k h1; omega) | (have hb := HBR.out k h2; omega) | exact HDJ.out k h1 h2 | exact HDJ.out k h2 h1 | (have hb := HBT.out k h1; have hb2 := HBR.out k h2; omega))), (HM0.out.trans Cx2.out (fun _ _ h => h))⟩
  case round =>
    obtain ⟨k, rfl, hk, hz, hw, hs, hm⟩ := hrel
    have HW2 := Lib.hid hw
    have HS2 := Lib.hid hs
    have HM2 := Lib.hid hm
    clear hw hs hm Hx1 HS HM0
    obtain ⟨wo, rfl⟩ : ∃ x, x = wr := ⟨_, rfl⟩
    by_cases hlt : k < l.length
    · skip
      obtain ⟨g0, o0, cs, rfl, hrg, hrd, hcs⟩ := HS2.out.at hlt
      have hcl : cs.length = 6 := PmR.len hrd
      have HCL := Lib.hid hcl
      have HAT := hid (show CellsAt R2 wo g0 (o0 + k * 6) cs from ⟨hrg, hcs⟩)
      have HRD := Lib.hid hrd
      have HOC := hid (PmR.one hrd)
      clear hcl hcs hrd hrg
      have HE : Hid (bs ++ (encI l.length ++ ((l.take k).map pmB).flatten) ++ pmB l[k] = bs ++ (encI l.length ++ ((l.take (k + 1)).map pmB).flatten)) := hid (by rw [List.take_succ_eq_append_getElem hlt, List.map_append, List.flatten_append]; simp [List.append_assoc])
      have HLk := hid (show (bs ++ (encI l.length ++ ((l.take k).map pmB).flatten) ++ pmB l[k]).length ≤ 900000 by rw [HE.out]; exact Nat.le_trans (put_len _ _ _ _ _) HL.out)
      go_upto_region 3 with (fail)
      refine wp_region_U 23 [16, 17, 7, 26] [0, 1, 2, 3] (fun a0 HA0 => ?_)
      have oe12 := ev HA0 12 rfl
      have oe14 := ev HA0 14 rfl
      refine QSeq.pure rfl (.pointer (some ⟨g0, o0 + k * 6, none⟩)) (fun E => ex_idxS (i := k) (s := 6) rfl Try.underlying90 (by kernel_rfl) (E.v oe12) (E.v oe14) (by omega)) ?_
      refine QSeq.pure rfl _ (fun E => ex_loadA rfl Try.underlying89 rfl (off := o0 + k * 6) (cs := cs) (by rw [HCL.out]; kernel_rfl) (E.d 0 0) (fun j u hu => (HAT.out).2 j u hu)) ?_
      refine QSeq.go fun act E => ?_
      refine qc_alloc rfl (wanted_none rfl) rfl (z := [.int .i64 0, .int .i64 0, .int .u64 0, .slice none 0 0, .int .i64 0, .int .i64 0]) (by kernel_rfl) ?_
      intro u3_2 qq hm
      have zl3_2 := qq.lt
      have Hx3 := hid qq
      have zu3_2 := hm.size
      have Cx4 := hid (show Mod (fun _ => False) wo u3_2 from hm)
      clear hm
      clear act E qq
      refine QSeq.go fun act E => ?_
      have hlz : (cs).length = List.length ([.int .i64 0, .int .i64 0, .int .u64 0, .slice none 0 0, .int .i64 0, .int .i64 0] : List Value) := (by rw [HCL.out]; rfl)
      refine qc_store rfl (wanted_none rfl) rfl Hx3.out (off := 0) (vs := cs) (by rw [hlz]; kernel_rfl) HOC.out (by rw [hlz]; exact Nat.le_of_eq (Nat.zero_add _)) (E.d 2 0) (ec (E.d 1 1)) ?_
      intro u3_3 qc0 hm
      have qq := qc0.eqv (b := (cs : List Value).toArray) (lay_whole #[.int .i64 0, .int .i64 0, .int .u64 0, .slice none 0 0, .int .i64 0, .int .i64 0] _ (by rw [hlz]; rfl))
      clear qc0 hlz
      have Hx5 := hid qq
      have zu3_3 := hm.size
      have HMu3_3 := hid hm
      have Cx6 := hid (Mod.goS (S' := (fun _ => False)) Cx4.out hm (fun _ h => h) (by intro k h0 h2; omega))
      clear hm Cx4
      clear act E qq Hx3
      clear HMu3_3
      refine QSeq.nil (t' := [_, _, _, _]) rfl ?_
      obtain rfl := HA0.out
      clear HA0 oe12 oe14
      simp only [pz, Act.put, List.setIfInBounds_toArray, List.set_cons_zero, List.set_cons_succ, List.set_nil]
      go_upto_region 4 with (fail)
      refine wp_region_U 23 [18, 19, 20, 21] [0, 1, 2, 3] (fun a0 HA0 => ?_)
      have oe0 := ev HA0 0 rfl
      have oe2 := ev HA0 2 rfl
      have oe7 := ev HA0 7 rfl
      refine QSeq.pure rfl _ (fun E => ex_move rfl (E.v oe2)) ?_
      refine QSeq.pure rfl _ (fun E => ex_move rfl (E.v oe0)) ?_
      refine QSeq.pure rfl _ (fun E => ex_loadA rfl Try.underlying89 rfl (off := 0) (cs := cs) (by rw [HCL.out]; kernel_rfl) (E.v oe7) (Cs.whole Hx5.out)) ?_
      refine QSeq.go fun act E => ?_
      have ea19 : act.eval (.tmp 19) = .pointer (some ⟨g, 0, none⟩) := (E.d 1 1)
      have ea20 : act.eval (.tmp 20) = .agg cs.toArray := (E.d 2 0)
      refine qc_call (args := #[.pointer (some ⟨g, 0, none⟩), .agg cs.toArray]) rfl (wanted_none rfl) (by rw [ex_callV rfl (E.d 0 2) Try.func86 (by kernel_rfl) (by kernel_rfl)]; exact congrArg (fun z => Result.ok (Next.enter _ z) _) (by simp only [List.map_toArray, List.map_cons, List.map_nil, ea19, ea20]; try rfl)) (PutPm_Q _ _ _ _ _ _ _ (HW2.out.mod Cx6.out (fun _ _ h => h)) (by intro k h1; rcases h1 with h1 | h1 <;> first | omega | (have hb := HBR.out k h1; omega)) (HRD.out.mod Cx6.out (fun _ _ h => h)) (by intro k h1; have hb := HBT.out k h1; omega) (by intro k h1 h2; rcases h1 with h1 | h1 <;> first | omega | (have hb := HBR.out k h1; omega) | (have hb := HBT.out k h2; omega) | exact HDJ.out k h1 h2 | exact HDJ.out k h2 h1 | (have hb := HBR.out k h1; have hb2 := HBT.out k h2; omega)) HLk.out) ?_
      rintro e u4_3 ⟨rfl, qwr, hm⟩
      refine ⟨_, rfl, ?_⟩
      have Hx7 := hid (qwr.widen (R' := (fun k => (R k) ∨ (New w wo k) ∨ (New u3_3 u4_3 k))) (by intro k h1; simp only [or_assoc] at h1 ⊢; exact h1) (Nat.le_refl _))
      have zu4_3 := hm.size
      have Cx8 := hid (show Mod (fun k => (R k) ∨ (New w wo k)) u3_3 u4_3 from hm)
      clear hm
      clear act E qwr HW2 ea19 ea20
      refine QSeq.nil (t' := [_, _, _, _]) rfl ?_
      obtain rfl := HA0.out
      clear HA0 oe0 oe2 oe7
      simp only [pz, Act.put, List.setIfInBounds_toArray, List.set_cons_zero, List.set_cons_succ]
      have hq := Hx7.out
      rw [HE.out] at hq
      have HQ := Lib.hid hq
      clear hq
      go_wp2
      go_roundw
      case rel => exact ⟨k + 1, by go_num, by omega, by omega, (HQ.out.widen (by intro b h1; rcases h1 with h1 | h1 | h1 <;> first | exact Or.inl h1 | (right; omega)) (Nat.le_refl _)), ((HS2.out.mod Cx6.out (fun _ _ h => h)).mod Cx8.out (by intro k h1 h2; rcases h2 with h2 | h2 <;> first | omega | (have hb := HBT.out k h1; omega) | (have hb := HBR.out k h2; omega) | exact HDJ.out k h1 h2 | exact HDJ.out k h2 h1 | (have hb := HBT.out k h1; have hb2 := HBR.out k h2; omega))), ((HM2.out.trans Cx6.out (fun _ _ h => h.elim)).trans Cx8.out (by intro k h1 h2; rcases h2 with h2 | h2 <;> first | exact h2 | omega | (have hb := HBR.out k h2; omega)))⟩
      case measure => simp [intOf]; omega
    · have hkk : k = l.length := by omega
      subst hkk
      go_wp2
      go_end0
      have hq := HW2.out
      rw [List.take_length] at hq
      exact ⟨rfl, hq, HM2.out⟩
set_option maxHeartbeats 4000000 in
theorem PutBa_Q : Puts BaR 92 baB := by
  intro R R2 g bs cs x w hW hB hx hB2 hD hl
  obtain ⟨v_ps, v_os, v_ts, rfl, hok, hs0, hs1, hs2⟩ := hx
  have HS0 := Lib.hid hs0
  clear hs0
  have HS1 := Lib.hid hs1
  clear hs1
  have HS2 := Lib.hid hs2
  clear hs2
  have HW := Lib.hid hW
  have HBR := Lib.hid hB
  have HBT := Lib.hid hB2
  have HDJ := Lib.hid hD
  have HOK := Lib.hid hok
  have HL := Lib.hid hl
  clear hW hB hB2 hD hl hok
  unfold baB at HL
  go_enter Try.func92, Try.ntmps92
  go_upto_region 1 with (fail)
  obtain ⟨w1, hw1⟩ : ∃ zz, zz = (w.alloc (.cells (x.cells v_ps v_os v_ts : List Value).toArray 94)) := ⟨_, rfl⟩
  change Code.wp _ _ _ _ (w.alloc (.cells (x.cells v_ps v_os v_ts : List Value).toArray 94))
  rw [← hw1]
  have HB3 := hid (show Cs w1 (w.heap.size) (x.cells v_ps v_os v_ts : List Value).toArray 94 by rw [hw1]; exact Cs.new _ _ _)
  have hm : Mod (fun _ => False) w w1 := by rw [hw1]; exact (Mod.refl _ _).alloc _
  have HM0 := hid (show Mod (fun k => (R k)) w w1 from hm.mono (fun _ _ h => h.elim))
  have hs1 : w1.heap.size = w.heap.size + 1 := by rw [hw1]; simp
  have Hx1 := hid (HW.out.mod hm (fun _ _ h => h))
  clear HW
  have Hx2 := hid (HS0.out.mod hm (fun _ _ h => h))
  clear HS0
  have Hx3 := hid (HS1.out.mod hm (fun _ _ h => h))
  clear HS1
  have Hx4 := hid (HS2.out.mod hm (fun _ _ h => h))
  clear HS2
  clear hw1 hm
  go_upto_region 1 with (fail)
  generalize ha0 : Act.mk _ _ = a0
  have oe0 : a0.eval (.tmp 0) = .pointer (some ⟨g, 0, none⟩) := by rw [← ha0]; rfl
  have oe3 : a0.eval (.tmp 3) = .pointer (some ⟨w.heap.size, 0, none⟩) := by rw [← ha0]; rfl
  have hsz0 : a0.tmps.size = 23 := by rw [← ha0]; rfl
  have HA0 := hid ha0
  clear ha0
  refine wp_region_Q1 23 hsz0 [4, 5, 6, 7, 8, 9, 10] (fun k => (R k)) (fun k j => (k = 0 ∧ ((R j))) ∨ (k = 1 ∧ ((R j)))) (by intro k j h; (try dsimp only at h ⊢); rcases h with ⟨-, h⟩ | ⟨-, h⟩; (exact h); (exact h)) [qi (.pointer (some ⟨g, 0, none⟩)), qi (.pointer (some ⟨w.heap.size, 0, none⟩)), qi (.int .i64 x.ep), qi (.pointer (some ⟨g, 0, none⟩)), qi (.pointer (some ⟨w.heap.size, 1, none⟩)), qi (.int .u64 (x.tm : Nat)), qi (.pointer (some ⟨g, 0, none⟩))] ⟨qi_stable, qi_stable, qi_stable, qi_stable, qi_stable, qi_stable, qi_stable, trivial⟩ [3, 6] ⟨?_, ?_, ?_, ?_, ?_, ?_, ?_, trivial⟩ ?_
  · exact stq (fun E => ex_move rfl (E.v oe0))
  · exact stq (fun E => ex_field rfl Try.underlying94 rfl (by kernel_rfl) (E.v oe3))
  · exact stq (fun E => ex_load1 rfl Try.underlying3 rfl (E.d 1) (Cs.lit1 (HB3.out.mod E.m (by intro h2; rcases h2 with ⟨h0, h2⟩ | h2 <;> first | omega | (have hb := HBR.out _ h2; omega))) rfl))
  · exact stepq_chain rfl
  · exact stq (fun E => ex_field rfl Try.underlying94 rfl (by kernel_rfl) (E.v oe3))
  · exact stq (fun E => ex_load1 rfl Try.underlying45 rfl (E.d 4) (Cs.lit1 (HB3.out.mod E.m (by intro h2; rcases h2 with ⟨h0, h2⟩ | h2 <;> first | omega | (have hb := HBR.out _ h2; omega))) rfl))
  · exact stepq_chain rfl
  intro u1_0 hr
  have zu1_0 := hr.size
  have Cx5 := hid (hr.new (S := (fun k => (R k))))
  have Hx6 := hid (Hx1.out.mod hr (by intro k h1 h2; have hb := HBR.out k h1; omega))
  clear Hx1
  clear hr
  refine QChain.go fun Z act E => ?_
  refine qc_callF (args := #[.pointer (some ⟨g, 0, none⟩), .int .i64 x.ep]) rfl (wanted_none rfl) rfl Try.func52 (args2 (E.d 0) (E.d 2)) (WInt_Q Hx6.out HOK.out.1 (by have := HL.out; simp only [List.length_append] at this ⊢; omega)) ?_
  rintro e u1_1a ⟨rfl, qwr, hm⟩
  have zu1_1a := hm.size
  refine ⟨_, rfl, hm.mono (by intro k hk h; first | omega | exact Or.inl ⟨(by have hb := HBR.out k h; omega), Or.inl ⟨rfl, h⟩⟩), (fun _ => rfl), ?_⟩
  intro u1_1 hr
  have zu1_1 := hr.size
  have Hx7 := hid ((qwr.widen (R' := (fun k => (R k) ∨ (New u1_0 u1_1a k))) (fun _ h => h) (Nat.le_refl _)).mod hr (by intro k h1 h2; rcases h1 with h1 | h1 <;> first | omega | (have hb := HBR.out k h1; omega)))
  have Cx8 := hid (Cx5.out.goM hm hr (fun _ _ h => h))
  clear Cx5 hm hr Z act E qwr Hx6
  refine QChain.go fun Z act E => ?_
  refine qc_callF (args := #[.pointer (some ⟨g, 0, none⟩), .int .u64 (x.tm : Nat)]) rfl (wanted_none rfl) rfl Try.func75 (args2 (E.d 3) (E.d 5)) (WNum_Q Hx7.out HOK.out.2 (by have := HL.out; simp only [List.length_append] at this ⊢; omega)) ?_
  rintro e u1_2a ⟨rfl, qwr, hm⟩
  have zu1_2a := hm.size
  refine ⟨_, rfl, hm.mono (by intro k hk h; rcases h with h | h <;> first | omega | exact Or.inl ⟨(by have hb := HBR.out k h; omega), Or.inr (⟨rfl, h⟩)⟩), (fun _ => rfl), ?_⟩
  intro u1_2 hr
  have zu1_2 := hr.size
  have Hx9 := hid ((qwr.widen (R' := (fun k => (R k) ∨ (New u1_0 u1_1a k) ∨ (New u1_1 u1_2a k))) (by intro k h1; simp only [or_assoc] at h1 ⊢; exact h1) (Nat.le_refl _)).mod hr (by intro k h1 h2; rcases h1 with h1 | h1 | h1 <;> first | omega | (have hb := HBR.out k h1; omega)))
  have Cx10 := hid (Cx8.out.goM hm hr (by intro k h0 h2; rcases h2 with h2 | h2 <;> first | omega | exact h2))
  clear Cx8 hm hr Z act E qwr Hx7
  refine QChain.nil fun vs hl hzz hrows hne => ?_
  obtain ⟨Z, hYZ, hZb, hV⟩ := hzz
  have f0 := fvi hV hl 0
  have f3 := fvi hV hl 3
  have f6 := fvi hV hl 6
  rw [show vs = [gw vs 0, gw vs 1, gw vs 2, gw vs 3, gw vs 4, gw vs 5, gw vs 6] from (gw_eta hl).trans rfl]
  have ha0 := HA0.out
  subst ha0
  clear HA0 hV hYZ hZb hsz0 hrows hne oe0 oe3
  simp only [putAll, Act.put, List.setIfInBounds_toArray, List.set_cons_zero, List.set_cons_succ, f0, f3, f6]
  clear hl f0 f3 f6
  go_upto_region 2 with (fail)
  refine wp_region_U 23 [11, 12, 13, 14] [0, 1, 2, 3] (fun a0 HA0 => ?_)
  have oe0 := ev HA0 0 rfl
  have oe3 := ev HA0 3 rfl
  refine QSeq.pure rfl _ (fun E => ex_move rfl (E.v oe0)) ?_
  refine QSeq.pure rfl (.pointer (some ⟨w.heap.size, 2, none⟩)) (fun E => ex_field rfl Try.underlying94 rfl (by kernel_rfl) (E.v oe3)) ?_
  refine QSeq.pure rfl _ (fun E => ex_load1 rfl Try.underlying90 rfl (E.d 1 0) (Cs.lit1 (HB3.out.mod Cx10.out (by intro h2; first | omega | (have hb := HBR.out _ h2; omega))) rfl)) ?_
  refine QSeq.call rfl rfl Try.func125 (PutList_Pm _ _ _ _ _ _ _ Hx9.out (by intro k h1; rcases h1 with h1 | h1 | h1 <;> first | omega | (have hb := HBR.out k h1; omega)) (Hx2.out.mod Cx10.out (by intro k h1 h2; first | omega | (have hb := HBT.out k h1; omega) | (have hb := HBR.out k h2; omega) | exact HDJ.out k h1 h2 | exact HDJ.out k h2 h1 | (have hb := HBT.out k h1; have hb2 := HBR.out k h2; omega))) (by intro k h1; have hb := HBT.out k h1; omega) (by intro k h1 h2; rcases h1 with h1 | h1 | h1 <;> first | omega | (have hb := HBR.out k h1; omega) | (have hb := HBT.out k h2; omega) | exact HDJ.out k h1 h2 | exact HDJ.out k h2 h1 | (have hb := HBR.out k h1; have hb2 := HBT.out k h2; omega)) (by have := HL.out; simp only [List.length_append] at this ⊢; omega)) (fun E => args3 (E.d 0 2) (E.d 2 0) rfl) ?_
  rintro e u2_3 ⟨rfl, qwr, hm⟩
  refine ⟨_, rfl, ?_⟩
  have Hx11 := hid (qwr.widen (R' := (fun k => (R k) ∨ (New u1_0 u1_1a k) ∨ (New u1_1 u1_2a k) ∨ (New u1_2 u2_3 k))) (by intro k h1; simp only [or_assoc] at h1 ⊢; exact h1) (Nat.le_refl _))
  have zu2_3 := hm.size
  have Cx12 := hid (show Mod (fun k => (R k) ∨ (New u1_0 u1_1a k) ∨ (New u1_1 u1_2a k)) u1_2 u2_3 from hm)
  clear hm
  clear qwr Hx9
  refine QSeq.nil (t' := [_, _, _, _]) rfl ?_
  obtain rfl := HA0.out
  clear HA0 oe0 oe3
  simp only [pz, Act.put, List.setIfInBounds_toArray, List.set_cons_zero, List.set_cons_succ]
  go_upto_region 3 with (fail)
  refine wp_region_U 23 [15, 16, 17, 18] [0, 1, 2, 3] (fun a0 HA0 => ?_)
  have oe0 := ev HA0 0 rfl
  have oe3 := ev HA0 3 rfl
  refine QSeq.pure rfl _ (fun E => ex_move rfl (E.v oe0)) ?_
  refine QSeq.pure rfl (.pointer (some ⟨w.heap.size, 3, none⟩)) (fun E => ex_field rfl Try.underlying94 rfl (by kernel_rfl) (E.v oe3)) ?_
  refine QSeq.pure rfl _ (fun E => ex_load1 rfl Try.underlying91 rfl (E.d 1 0) (Cs.lit1 ((HB3.out.mod Cx10.out (by intro h2; first | omega | (have hb := HBR.out _ h2; omega))).mod Cx12.out (by intro h2; rcases h2 with h2 | h2 | h2 <;> first | omega | (have hb := HBR.out _ h2; omega))) rfl)) ?_
  refine QSeq.call rfl rfl Try.func126 (PutList_Op _ _ _ _ _ _ _ Hx11.out (by intro k h1; rcases h1 with h1 | h1 | h1 | h1 <;> first | omega | (have hb := HBR.out k h1; omega)) ((Hx3.out.mod Cx10.out (by intro k h1 h2; first | omega | (have hb := HBT.out k h1; omega) | (have hb := HBR.out k h2; omega) | exact HDJ.out k h1 h2 | exact HDJ.out k h2 h1 | (have hb := HBT.out k h1; have hb2 := HBR.out k h2; omega))).mod Cx12.out (by intro k h1 h2; rcases h2 with h2 | h2 | h2 <;> first | omega | (have hb := HBT.out k h1; omega) | (have hb := HBR.out k h2; omega) | exact HDJ.out k h1 h2 | exact HDJ.out k h2 h1 | (have hb := HBT.out k h1; have hb2 := HBR.out k h2; omega))) (by intro k h1; have hb := HBT.out k h1; omega) (by intro k h1 h2; rcases h1 with h1 | h1 | h1 | h1 <;> first | omega | (have hb := HBR.out k h1; omega) | (have hb := HBT.out k h2; omega) | exact HDJ.out k h1 h2 | exact HDJ.out k h2 h1 | (have hb := HBR.out k h1; have hb2 := HBT.out k h2; omega)) (by have := HL.out; simp only [List.length_append] at this ⊢; omega)) (fun E => args3 (E.d 0 2) (E.d 2 0) rfl) ?_
  rintro e u3_3 ⟨rfl, qwr, hm⟩
  refine ⟨_, rfl, ?_⟩
  have Hx13 := hid (qwr.widen (R' := (fun k => (R k) ∨ (New u1_0 u1_1a k) ∨ (New u1_1 u1_2a k) ∨ (New u1_2 u2_3 k) ∨ (New u2_3 u3_3 k))) (by intro k h1; simp only [or_assoc] at h1 ⊢; exact h1) (Nat.le_refl _))
  have zu3_3 := hm.size
  have Cx14 := hid (show Mod (fun k => (R k) ∨ (New u1_0 u1_1a k) ∨ (New u1_1 u1_2a k) ∨ (New u1_2 u2_3 k)) u2_3 u3_3 from hm)
  clear hm
  clear qwr Hx11
  refine QSeq.nil (t' := [_, _, _, _]) rfl ?_
  obtain rfl := HA0.out
  clear HA0 oe0 oe3
  simp only [pz, Act.put, List.setIfInBounds_toArray, List.set_cons_zero, List.set_cons_succ]
  go_upto_region 4 with (fail)
  refine wp_region_U 23 [19, 20, 21, 22] [0, 1, 2, 3] (fun a0 HA0 => ?_)
  have oe0 := ev HA0 0 rfl
  have oe3 := ev HA0 3 rfl
  refine QSeq.pure rfl _ (fun E => ex_move rfl (E.v oe0)) ?_
  refine QSeq.pure rfl (.pointer (some ⟨w.heap.size, 4, none⟩)) (fun E => ex_field rfl Try.underlying94 rfl (by kernel_rfl) (E.v oe3)) ?_
  refine QSeq.pure rfl _ (fun E => ex_load1 rfl Try.underlying92 rfl (E.d 1 0) (Cs.lit1 (((HB3.out.mod Cx10.out (by intro h2; first | omega | (have hb := HBR.out _ h2; omega))).mod Cx12.out (by intro h2; rcases h2 with h2 | h2 | h2 <;> first | omega | (have hb := HBR.out _ h2; omega))).mod Cx14.out (by intro h2; rcases h2 with h2 | h2 | h2 | h2 <;> first | omega | (have hb := HBR.out _ h2; omega))) rfl)) ?_
  refine QSeq.call rfl rfl Try.func127 (PutList_Tb _ _ _ _ _ _ _ Hx13.out (by intro k h1; rcases h1 with h1 | h1 | h1 | h1 | h1 <;> first | omega | (have hb := HBR.out k h1; omega)) (((Hx4.out.mod Cx10.out (by intro k h1 h2; first | omega | (have hb := HBT.out k h1; omega) | (have hb := HBR.out k h2; omega) | exact HDJ.out k h1 h2 | exact HDJ.out k h2 h1 | (have hb := HBT.out k h1; have hb2 := HBR.out k h2; omega))).mod Cx12.out (by intro k h1 h2; rcases h2 with h2 | h2 | h2 <;> first | omega | (have hb := HBT.out k h1; omega) | (have hb := HBR.out k h2; omega) | exact HDJ.out k h1 h2 | exact HDJ.out k h2 h1 | (have hb := HBT.out k h1; have hb2 := HBR.out k h2; omega))).mod Cx14.out (by intro k h1 h2; rcases h2 with h2 | h2 | h2 | h2 <;> first | omega | (have hb := HBT.out k h1; omega) | (have hb := HBR.out k h2; omega) | exact HDJ.out k h1 h2 | exact HDJ.out k h2 h1 | (have hb := HBT.out k h1; have hb2 := HBR.out k h2; omega))) (by intro k h1; have hb := HBT.out k h1; omega) (by intro k h1 h2; rcases h1 with h1 | h1 | h1 | h1 | h1 <;> first | omega | (have hb := HBR.out k h1; omega) | (have hb := HBT.out k h2; omega) | exact HDJ.out k h1 h2 | exact HDJ.out k h2 h1 | (have hb := HBR.out k h1; have hb2 := HBT.out k h2; omega)) (by have := HL.out; simp only [List.length_append] at this ⊢; omega)) (fun E => args3 (E.d 0 2) (E.d 2 0) rfl) ?_
  rintro e u4_3 ⟨rfl, qwr, hm⟩
  refine ⟨_, rfl, ?_⟩
  have Hx15 := hid (qwr.widen (R' := (fun k => (R k) ∨ (New u1_0 u1_1a k) ∨ (New u1_1 u1_2a k) ∨ (New u1_2 u2_3 k) ∨ (New u2_3 u3_3 k) ∨ (New u3_3 u4_3 k))) (by intro k h1; simp only [or_assoc] at h1 ⊢; exact h1) (Nat.le_refl _))
  have zu4_3 := hm.size
  have Cx16 := hid (show Mod (fun k => (R k) ∨ (New u1_0 u1_1a k) ∨ (New u1_1 u1_2a k) ∨ (New u1_2 u2_3 k) ∨ (New u2_3 u3_3 k)) u3_3 u4_3 from hm)
  clear hm
  clear qwr Hx13
  refine QSeq.nil (t' := [_, _, _, _]) rfl ?_
  obtain rfl := HA0.out
  clear HA0 oe0 oe3
  simp only [pz, Act.put, List.setIfInBounds_toArray, List.set_cons_zero, List.set_cons_succ]
  go_wp2
  go_end0
  have hq := (Hx15.out.widen (R' := (fun k => R k ∨ New w u4_3 k)) (by intro k h1; rcases h1 with h1 | h1 | h1 | h1 | h1 | h1 <;> first | exact Or.inl h1 | (right; omega)) (Nat.le_refl _))
  simp only [List.append_assoc] at hq
  exact ⟨rfl, by simpa only [baB, List.append_assoc] using hq, ((((HM0.out.trans Cx10.out (fun _ _ h => h)).trans Cx12.out (by intro k h1 h2; rcases h2 with h2 | h2 | h2 <;> first | exact h2 | omega | (have hb := HBR.out k h2; omega))).trans Cx14.out (by intro k h1 h2; rcases h2 with h2 | h2 | h2 | h2 <;> first | exact h2 | omega | (have hb := HBR.out k h2; omega))).trans Cx16.out (by intro k h1 h2; rcases h2 with h2 | h2 | h2 | h2 | h2 <;> first | exact h2 | omega | (have hb := HBR.out k h2; omega)))⟩
end Go.Proofs.Ytpnikilkcifncaa

/- More parts of messages, put as bytes. -/
namespace Go.Proofs.Ytpnikilkcifncaa
open Go Go.RowKit Go.Gv


def prB (x : Pr) : List Int := encI x.ep ++ (encI x.rn ++ (encI (IntKind.i64.wrap (x.vl + 1)) ++ (encI x.rp ++ (baB x.ba ++ sigB x.sb x.mr))))
theorem I64_wrap (n : Int) : I64 (IntKind.i64.wrap n) := by
  have := bounds_i64 (wf_wrap .i64 n)
  unfold I64
  omega
set_option maxHeartbeats 4000000 in
theorem PutAk_Q : Puts StR 85 stB := by
  intro R R2 g bs cs x w hW hB hx hB2 hD hl
  obtain ⟨rfl, hok⟩ := hx
  have HW := Lib.hid hW
  have HBR := Lib.hid hB
  have HBT := Lib.hid hB2
  have HDJ := Lib.hid hD
  have HOK := Lib.hid hok
  have HL := Lib.hid hl
  clear hW hB hB2 hD hl hok
  unfold stB at HL
  go_enter Try.func85, Try.ntmps85
  go_upto_region 1 with (fail)
  obtain ⟨w1, hw1⟩ : ∃ zz, zz = (w.alloc (.cells (x.cells : List Value).toArray 86)) := ⟨_, rfl⟩
  change Code.wp _ _ _ _ (w.alloc (.cells (x.cells : List Value).toArray 86))
  rw [← hw1]
  have HB3 := hid (show Cs w1 (w.heap.size) (x.cells : List Value).toArray 86 by rw [hw1]; exact Cs.new _ _ _)
  have hm : Mod (fun _ => False) w w1 := by rw [hw1]; exact (Mod.refl _ _).alloc _
  have HM0 := hid (show Mod (fun k => (R k)) w w1 from hm.mono (fun _ _ h => h.elim))
  have hs1 : w1.heap.size = w.heap.size + 1 := by rw [hw1]; simp
  have Hx1 := hid (HW.out.mod hm (fun _ _ h => h))
  clear HW
  clear hw1 hm
  go_upto_region 1 with (fail)
  refine wp_region_U 23 [4, 5, 6, 7] [0, 1, 2, 3] (fun a0 HA0 => ?_)
  have oe0 := ev HA0 0 rfl
  have oe3 := ev HA0 3 rfl
  refine QSeq.pure rfl _ (fun E => ex_move rfl (E.v oe0)) ?_
  refine QSeq.pure rfl (.pointer (some ⟨w.heap.size, 0, none⟩)) (fun E => ex_field rfl Try.underlying86 rfl (by kernel_rfl) (E.v oe3)) ?_
  refine QSeq.pure rfl _ (fun E => ex_load1 rfl Try.underlying3 rfl (E.d 1 0) (Cs.pre1 HB3.out rfl)) ?_
  refine QSeq.call rfl rfl Try.func52 (WInt_Q Hx1.out HOK.out.rp (by have := HL.out; simp only [List.length_append] at this ⊢; omega)) (fun E => args2 (E.d 0 2) (E.d 2 0)) ?_
  rintro e u1_3 ⟨rfl, qwr, hm⟩
  refine ⟨_, rfl, ?_⟩
  have Hx2 := hid (qwr.widen (R' := (fun k => (R k) ∨ (New w1 u1_3 k))) (fun _ h => h) (Nat.le_refl _))
  have zu1_3 := hm.size
  have Cx3 := hid (show Mod (fun k => (R k)) w1 u1_3 from hm)
  clear hm
  clear qwr Hx1
  refine QSeq.nil (t' := [_, _, _, _]) rfl ?_
  obtain rfl := HA0.out
  clear HA0 oe0 oe3
  simp only [pz, Act.put, List.setIfInBounds_toArray, List.set_cons_zero, List.set_cons_succ]
  go_upto_region 2 with (fail)
  refine wp_region_U 23 [8, 9, 10, 11] [0, 1, 2, 3] (fun a0 HA0 => ?_)
  have oe0 := ev HA0 0 rfl
  have oe3 := ev HA0 3 rfl
  refine QSeq.pure rfl _ (fun E => ex_move rfl (E.v oe0)) ?_
  refine QSeq.pure rfl (.pointer (some ⟨w.heap.size, 1, none⟩)) (fun E => ex_field rfl Try.underlying86 rfl (by kernel_rfl) (E.v oe3)) ?_
  refine QSeq.pure rfl _ (fun E => ex_loadA rfl Try.underlying30 rfl (off := 1) (cs := [.int .i64 x.cl, .int .i64 x.sq]) (by kernel_rfl) (E.d 1 0) (Cs.preA (HB3.out.mod Cx3.out (by intro h2; first | omega | (have hb := HBR.out _ h2; omega))) rfl)) ?_
  refine QSeq.call rfl rfl Try.func74 (PutName_Q Hx2.out (by intro k h1; rcases h1 with h1 | h1 <;> first | omega | (have hb := HBR.out k h1; omega)) HOK.out.cl HOK.out.sq (by have := HL.out; simp only [List.length_append] at this ⊢; omega)) (fun E => args2 (E.d 0 2) (E.d 2 0)) ?_
  rintro e u2_3 ⟨rfl, qwr, hm⟩
  refine ⟨_, rfl, ?_⟩
  have Hx4 := hid (qwr.widen (R' := (fun k => (R k) ∨ (New w1 u1_3 k) ∨ (New u1_3 u2_3 k))) (by intro k h1; simp only [or_assoc] at h1 ⊢; exact h1) (Nat.le_refl _))
  have zu2_3 := hm.size
  have Cx5 := hid (show Mod (fun k => (R k) ∨ (New w1 u1_3 k)) u1_3 u2_3 from hm)
  clear hm
  clear qwr Hx2
  refine QSeq.nil (t' := [_, _, _, _]) rfl ?_
  obtain rfl := HA0.out
  clear HA0 oe0 oe3
  simp only [pz, Act.put, List.setIfInBounds_toArray, List.set_cons_zero, List.set_cons_succ]
  go_upto_region 3 with (fail)
  generalize ha0 : Act.mk _ _ = a0
  have oe0 : a0.eval (.tmp 0) = .pointer (some ⟨g, 0, none⟩) := by rw [← ha0]; rfl
  have oe3 : a0.eval (.tmp 3) = .pointer (some ⟨w.heap.size, 0, none⟩) := by rw [← ha0]; rfl
  have hsz0 : a0.tmps.size = 23 := by rw [← ha0]; rfl
  have HA0 := hid ha0
  clear ha0
  refine wp_region_Q1 23 hsz0 [12, 13, 14, 15, 16, 17, 18] (fun k => (R k) ∨ (New w1 u1_3 k) ∨ (New u1_3 u2_3 k)) (fun k j => (k = 0 ∧ ((R j) ∨ (New w1 u1_3 j) ∨ (New u1_3 u2_3 j))) ∨ (k = 1 ∧ ((R j) ∨ (New w1 u1_3 j) ∨ (New u1_3 u2_3 j)))) (by intro k j h; (try dsimp only at h ⊢); rcases h with ⟨-, h | h | h⟩ | ⟨-, h | h | h⟩; (exact Or.inl (h)); (exact Or.inr (Or.inl (h))); (exact Or.inr (Or.inr (h))); (exact Or.inl (h)); (exact Or.inr (Or.inl (h))); (exact Or.inr (Or.inr (h)))) [qi (.pointer (some ⟨g, 0, none⟩)), qi (.pointer (some ⟨w.heap.size, 3, none⟩)), qi (hv x.h), qi (.pointer (some ⟨g, 0, none⟩)), qi (.pointer (some ⟨w.heap.size, 35, none⟩)), qi (.int .u64 (x.tm : Nat)), qi (.pointer (some ⟨g, 0, none⟩))] ⟨qi_stable, qi_stable, qi_stable, qi_stable, qi_stable, qi_stable, qi_stable, trivial⟩ [3, 6] ⟨?_, ?_, ?_, ?_, ?_, ?_, ?_, trivial⟩ ?_
  · exact stq (fun E => ex_move rfl (E.v oe0))
  · exact stq (fun E => ex_field rfl Try.underlying86 rfl (by kernel_rfl) (E.v oe3))
  · exact stq (fun E => ex_loadA rfl Try.underlying32 rfl (off := 3) (cs := x.h.map bv) (by rw [List.length_map, HOK.out.h.1]; exact size_hash) (E.d 1) (Cs.midA (((HB3.out.mod Cx3.out (by intro h2; first | omega | (have hb := HBR.out _ h2; omega))).mod Cx5.out (by intro h2; rcases h2 with h2 | h2 <;> first | omega | (have hb := HBR.out _ h2; omega))).mod E.m (by intro h2; rcases h2 with ⟨h0, h2 | h2 | h2⟩ | h2 <;> first | omega | (have hb := HBR.out _ h2; omega))) rfl))
  · exact stepq_chain rfl
  · exact stq (fun E => ex_field rfl Try.underlying86 rfl (by kernel_rfl) (E.v oe3))
  · exact stq (fun E => ex_load1 rfl Try.underlying45 rfl (E.d 4) (Cs.post1 (m := 32) (k := 0) (((HB3.out.mod Cx3.out (by intro h2; first | omega | (have hb := HBR.out _ h2; omega))).mod Cx5.out (by intro h2; rcases h2 with h2 | h2 <;> first | omega | (have hb := HBR.out _ h2; omega))).mod E.m (by intro h2; rcases h2 with ⟨h0, h2 | h2 | h2⟩ | h2 <;> first | omega | (have hb := HBR.out _ h2; omega))) (by rw [List.length_map]; exact HOK.out.h.1) rfl rfl))
  · exact stepq_chain rfl
  intro u3_0 hr
  have zu3_0 := hr.size
  have Cx6 := hid (hr.new (S := (fun k => (R k) ∨ (New w1 u1_3 k) ∨ (New u1_3 u2_3 k))))
  have Hx7 := hid (Hx4.out.mod hr (by intro k h1 h2; rcases h1 with h1 | h1 | h1 <;> first | omega | (have hb := HBR.out k h1; omega)))
  clear Hx4
  clear hr
  refine QChain.go fun Z act E => ?_
  refine qc_callF (args := #[.pointer (some ⟨g, 0, none⟩), hv x.h]) rfl (wanted_none rfl) rfl Try.func69 (args2 (E.d 0) (E.d 2)) (WHash_Q Hx7.out HOK.out.h (by have := HL.out; simp only [List.length_append] at this ⊢; omega)) ?_
  rintro e u3_1a ⟨rfl, qwr, hm⟩
  have zu3_1a := hm.size
  refine ⟨_, rfl, hm.mono (by intro k hk h; rcases h with h | h | h <;> first | omega | exact Or.inl ⟨(by have hb := HBR.out k h; omega), Or.inl ⟨rfl, Or.inl h⟩⟩), (fun _ => rfl), ?_⟩
  intro u3_1 hr
  have zu3_1 := hr.size
  have Hx8 := hid ((qwr.widen (R' := (fun k => (R k) ∨ (New w1 u1_3 k) ∨ (New u1_3 u2_3 k) ∨ (New u3_0 u3_1a k))) (by intro k h1; simp only [or_assoc] at h1 ⊢; exact h1) (Nat.le_refl _)).mod hr (by intro k h1 h2; rcases h1 with h1 | h1 | h1 | h1 <;> first | omega | (have hb := HBR.out k h1; omega)))
  have Cx9 := hid (Cx6.out.goM hm hr (fun _ _ h => h))
  clear Cx6 hm hr Z act E qwr Hx7
  refine QChain.go fun Z act E => ?_
  refine qc_callF (args := #[.pointer (some ⟨g, 0, none⟩), .int .u64 (x.tm : Nat)]) rfl (wanted_none rfl) rfl Try.func75 (args2 (E.d 3) (E.d 5)) (WNum_Q Hx8.out HOK.out.tm (by have := HL.out; simp only [List.length_append] at this ⊢; omega)) ?_
  rintro e u3_2a ⟨rfl, qwr, hm⟩
  have zu3_2a := hm.size
  refine ⟨_, rfl, hm.mono (by intro k hk h; rcases h with h | h | h | h <;> first | omega | exact Or.inl ⟨(by have hb := HBR.out k h; omega), Or.inr (⟨rfl, Or.inl h⟩)⟩), (fun _ => rfl), ?_⟩
  intro u3_2 hr
  have zu3_2 := hr.size
  have Hx10 := hid ((qwr.widen (R' := (fun k => (R k) ∨ (New w1 u1_3 k) ∨ (New u1_3 u2_3 k) ∨ (New u3_0 u3_1a k) ∨ (New u3_1 u3_2a k))) (by intro k h1; simp only [or_assoc] at h1 ⊢; exact h1) (Nat.le_refl _)).mod hr (by intro k h1 h2; rcases h1 with h1 | h1 | h1 | h1 | h1 <;> first | omega | (have hb := HBR.out k h1; omega)))
  have Cx11 := hid (Cx9.out.goM hm hr (by intro k h0 h2; rcases h2 with h2 | h2 | h2 | h2 <;> first | omega | exact Or.inl h2 | exact Or.inr (Or.inl h2) | exact Or.inr (Or.inr (h2))))
  clear Cx9 hm hr Z act E qwr Hx8
  refine QChain.nil fun vs hl hzz hrows hne => ?_
  obtain ⟨Z, hYZ, hZb, hV⟩ := hzz
  have f0 := fvi hV hl 0
  have f3 := fvi hV hl 3
  have f6 := fvi hV hl 6
  rw [show vs = [gw vs 0, gw vs 1, gw vs 2, gw vs 3, gw vs 4, gw vs 5, gw vs 6] from (gw_eta hl).trans rfl]
  have ha0 := HA0.out
  subst ha0
  clear HA0 hV hYZ hZb hsz0 hrows hne oe0 oe3
  simp only [putAll, Act.put, List.setIfInBounds_toArray, List.set_cons_zero, List.set_cons_succ, f0, f3, f6]
  clear hl f0 f3 f6
  go_upto_region 4 with (fail)
  refine wp_region_U 23 [19, 20, 21, 22] [0, 1, 2, 3] (fun a0 HA0 => ?_)
  have oe0 := ev HA0 0 rfl
  have oe3 := ev HA0 3 rfl
  refine QSeq.pure rfl _ (fun E => ex_move rfl (E.v oe0)) ?_
  refine QSeq.pure rfl (.pointer (some ⟨w.heap.size, 36, none⟩)) (fun E => ex_field rfl Try.underlying86 rfl (by kernel_rfl) (E.v oe3)) ?_
  refine QSeq.pure rfl _ (fun E => ex_loadA rfl Try.underlying34 rfl (off := 36) (cs := [.int .i64 x.sb, .int .i64 x.mr]) (by kernel_rfl) (E.d 1 0) (Cs.postA (m := 32) (k := 1) (((HB3.out.mod Cx3.out (by intro h2; first | omega | (have hb := HBR.out _ h2; omega))).mod Cx5.out (by intro h2; rcases h2 with h2 | h2 <;> first | omega | (have hb := HBR.out _ h2; omega))).mod Cx11.out (by intro h2; rcases h2 with h2 | h2 | h2 <;> first | omega | (have hb := HBR.out _ h2; omega))) (by rw [List.length_map]; exact HOK.out.h.1) rfl rfl)) ?_
  refine QSeq.call rfl rfl Try.func122 (PutSig_Q Hx10.out (by intro k h1; rcases h1 with h1 | h1 | h1 | h1 | h1 <;> first | omega | (have hb := HBR.out k h1; omega)) HOK.out.sb HOK.out.mr (by have := HL.out; simp only [List.length_append] at this ⊢; omega)) (fun E => args2 (E.d 0 2) (E.d 2 0)) ?_
  rintro e u4_3 ⟨rfl, qwr, hm⟩
  refine ⟨_, rfl, ?_⟩
  have Hx12 := hid (qwr.widen (R' := (fun k => (R k) ∨ (New w1 u1_3 k) ∨ (New u1_3 u2_3 k) ∨ (New u3_0 u3_1a k) ∨ (New u3_1 u3_2a k) ∨ (New u3_2 u4_3 k))) (by intro k h1; simp only [or_assoc] at h1 ⊢; exact h1) (Nat.le_refl _))
  have zu4_3 := hm.size
  have Cx13 := hid (show Mod (fun k => (R k) ∨ (New w1 u1_3 k) ∨ (New u1_3 u2_3 k) ∨ (New u3_0 u3_1a k) ∨ (New u3_1 u3_2a k)) u3_2 u4_3 from hm)
  clear hm
  clear qwr Hx10
  refine QSeq.nil (t' := [_, _, _, _]) rfl ?_
  obtain rfl := HA0.out
  clear HA0 oe0 oe3
  simp only [pz, Act.put, List.setIfInBounds_toArray, List.set_cons_zero, List.set_cons_succ]
  go_wp2
  go_end0
  have hq := (Hx12.out.widen (R' := (fun k => R k ∨ New w u4_3 k)) (by intro k h1; rcases h1 with h1 | h1 | h1 | h1 | h1 | h1 <;> first | exact Or.inl h1 | (right; omega)) (Nat.le_refl _))
  simp only [List.append_assoc] at hq
  exact ⟨rfl, by simpa only [stB, List.append_assoc] using hq, ((((HM0.out.trans Cx3.out (fun _ _ h => h)).trans Cx5.out (by intro k h1 h2; rcases h2 with h2 | h2 <;> first | exact h2 | omega | (have hb := HBR.out k h2; omega))).trans Cx11.out (by intro k h1 h2; rcases h2 with h2 | h2 | h2 <;> first | exact h2 | omega | (have hb := HBR.out k h2; omega))).trans Cx13.out (by intro k h1 h2; rcases h2 with h2 | h2 | h2 | h2 | h2 <;> first | exact h2 | omega | (have hb := HBR.out k h2; omega)))⟩
set_option maxHeartbeats 4000000 in
theorem PutVt_Q : Puts VtR 88 vtB := by
  intro R R2 g bs cs x w hW hB hx hB2 hD hl
  obtain ⟨rfl, hok⟩ := hx
  have HW := Lib.hid hW
  have HBR := Lib.hid hB
  have HBT := Lib.hid hB2
  have HDJ := Lib.hid hD
  have HOK := Lib.hid hok
  have HL := Lib.hid hl
  clear hW hB hB2 hD hl hok
  unfold vtB at HL
  go_enter Try.func88, Try.ntmps88
  go_upto_region 1 with (fail)
  obtain ⟨w1, hw1⟩ : ∃ zz, zz = (w.alloc (.cells (x.cells : List Value).toArray 98)) := ⟨_, rfl⟩
  change Code.wp _ _ _ _ (w.alloc (.cells (x.cells : List Value).toArray 98))
  rw [← hw1]
  have HB3 := hid (show Cs w1 (w.heap.size) (x.cells : List Value).toArray 98 by rw [hw1]; exact Cs.new _ _ _)
  have hm : Mod (fun _ => False) w w1 := by rw [hw1]; exact (Mod.refl _ _).alloc _
  have HM0 := hid (show Mod (fun k => (R k)) w w1 from hm.mono (fun _ _ h => h.elim))
  have hs1 : w1.heap.size = w.heap.size + 1 := by rw [hw1]; simp
  have Hx1 := hid (HW.out.mod hm (fun _ _ h => h))
  clear HW
  clear hw1 hm
  go_upto_region 1 with (fail)
  generalize ha0 : Act.mk _ _ = a0
  have oe0 : a0.eval (.tmp 0) = .pointer (some ⟨g, 0, none⟩) := by rw [← ha0]; rfl
  have oe3 : a0.eval (.tmp 3) = .pointer (some ⟨w.heap.size, 0, none⟩) := by rw [← ha0]; rfl
  have hsz0 : a0.tmps.size = 24 := by rw [← ha0]; rfl
  have HA0 := hid ha0
  clear ha0
  refine wp_region_Q1 24 hsz0 [4, 5, 6, 7, 8, 9, 10, 11, 12, 13, 14, 15, 16, 17, 18, 19] (fun k => (R k)) (fun k j => (k = 0 ∧ ((R j))) ∨ (k = 1 ∧ ((R j))) ∨ (k = 2 ∧ ((R j))) ∨ (k = 3 ∧ ((R j))) ∨ (k = 4 ∧ ((R j)))) (by intro k j h; (try dsimp only at h ⊢); rcases h with ⟨-, h⟩ | ⟨-, h⟩ | ⟨-, h⟩ | ⟨-, h⟩ | ⟨-, h⟩; (exact h); (exact h); (exact h); (exact h); (exact h)) [qi (.pointer (some ⟨g, 0, none⟩)), qi (.pointer (some ⟨w.heap.size, 0, none⟩)), qi (.int .i64 x.kd), qi (.pointer (some ⟨g, 0, none⟩)), qi (.pointer (some ⟨w.heap.size, 1, none⟩)), qi (.int .i64 x.ep), qi (.pointer (some ⟨g, 0, none⟩)), qi (.pointer (some ⟨w.heap.size, 2, none⟩)), qi (.int .i64 x.rd), qi (.pointer (some ⟨g, 0, none⟩)), qi (.pointer (some ⟨w.heap.size, 3, none⟩)), qi (.int .i64 x.rp), qi (.pointer (some ⟨g, 0, none⟩)), qi (.pointer (some ⟨w.heap.size, 4, none⟩)), qi (hv x.h), qi (.pointer (some ⟨g, 0, none⟩))] ⟨qi_stable, qi_stable, qi_stable, qi_stable, qi_stable, qi_stable, qi_stable, qi_stable, qi_stable, qi_stable, qi_stable, qi_stable, qi_stable, qi_stable, qi_stable, qi_stable, trivial⟩ [3, 6, 9, 12, 15] ⟨?_, ?_, ?_, ?_, ?_, ?_, ?_, ?_, ?_, ?_, ?_, ?_, ?_, ?_, ?_, ?_, trivial⟩ ?_
  · exact stq (fun E => ex_move rfl (E.v oe0))
  · exact stq (fun E => ex_field rfl Try.underlying98 rfl (by kernel_rfl) (E.v oe3))
  · exact stq (fun E => ex_load1 rfl Try.underlying3 rfl (E.d 1) (Cs.pre1 (HB3.out.mod E.m (by intro h2; rcases h2 with ⟨h0, h2⟩ | h2 <;> first | omega | (have hb := HBR.out _ h2; omega))) rfl))
  · exact stepq_chain rfl
  · exact stq (fun E => ex_field rfl Try.underlying98 rfl (by kernel_rfl) (E.v oe3))
  · exact stq (fun E => ex_load1 rfl Try.underlying3 rfl (E.d 4) (Cs.pre1 (HB3.out.mod E.m (by intro h2; rcases h2 with ⟨h0, h2⟩ | h2 <;> first | omega | (have hb := HBR.out _ h2; omega))) rfl))
  · exact stepq_chain rfl
  · exact stq (fun E => ex_field rfl Try.underlying98 rfl (by kernel_rfl) (E.v oe3))
  · exact stq (fun E => ex_load1 rfl Try.underlying3 rfl (E.d 7) (Cs.pre1 (HB3.out.mod E.m (by intro h2; rcases h2 with ⟨h0, h2⟩ | h2 <;> first | omega | (have hb := HBR.out _ h2; omega))) rfl))
  · exact stepq_chain rfl
  · exact stq (fun E => ex_field rfl Try.underlying98 rfl (by kernel_rfl) (E.v oe3))
  · exact stq (fun E => ex_load1 rfl Try.underlying3 rfl (E.d 10) (Cs.pre1 (HB3.out.mod E.m (by intro h2; rcases h2 with ⟨h0, h2⟩ | h2 <;> first | omega | (have hb := HBR.out _ h2; omega))) rfl))
  · exact stepq_chain rfl
  · exact stq (fun E => ex_field rfl Try.underlying98 rfl (by kernel_rfl) (E.v oe3))
  · exact stq (fun E => ex_loadA rfl Try.underlying32 rfl (off := 4) (cs := x.h.map bv) (by rw [List.length_map, HOK.out.h.1]; exact size_hash) (E.d 13) (Cs.midA (HB3.out.mod E.m (by intro h2; rcases h2 with ⟨h0, h2⟩ | h2 <;> first | omega | (have hb := HBR.out _ h2; omega))) rfl))
  · exact stepq_chain rfl
  intro u1_0 hr
  have zu1_0 := hr.size
  have Cx2 := hid (hr.new (S := (fun k => (R k))))
  have Hx3 := hid (Hx1.out.mod hr (by intro k h1 h2; have hb := HBR.out k h1; omega))
  clear Hx1
  clear hr
  refine QChain.go fun Z act E => ?_
  refine qc_callF (args := #[.pointer (some ⟨g, 0, none⟩), .int .i64 x.kd]) rfl (wanted_none rfl) rfl Try.func52 (args2 (E.d 0) (E.d 2)) (WInt_Q Hx3.out HOK.out.kd (by have := HL.out; simp only [List.length_append] at this ⊢; omega)) ?_
  rintro e u1_1a ⟨rfl, qwr, hm⟩
  have zu1_1a := hm.size
  refine ⟨_, rfl, hm.mono (by intro k hk h; first | omega | exact Or.inl ⟨(by have hb := HBR.out k h; omega), Or.inl ⟨rfl, h⟩⟩), (fun _ => rfl), ?_⟩
  intro u1_1 hr
  have zu1_1 := hr.size
  have Hx4 := hid ((qwr.widen (R' := (fun k => (R k) ∨ (New u1_0 u1_1a k))) (fun _ h => h) (Nat.le_refl _)).mod hr (by intro k h1 h2; rcases h1 with h1 | h1 <;> first | omega | (have hb := HBR.out k h1; omega)))
  have Cx5 := hid (Cx2.out.goM hm hr (fun _ _ h => h))
  clear Cx2 hm hr Z act E qwr Hx3
  refine QChain.go fun Z act E => ?_
  refine qc_callF (args := #[.pointer (some ⟨g, 0, none⟩), .int .i64 x.ep]) rfl (wanted_none rfl) rfl Try.func52 (args2 (E.d 3) (E.d 5)) (WInt_Q Hx4.out HOK.out.ep (by have := HL.out; simp only [List.length_append] at this ⊢; omega)) ?_
  rintro e u1_2a ⟨rfl, qwr, hm⟩
  have zu1_2a := hm.size
  refine ⟨_, rfl, hm.mono (by intro k hk h; rcases h with h | h <;> first | omega | exact Or.inl ⟨(by have hb := HBR.out k h; omega), Or.inr (Or.inl ⟨rfl, h⟩)⟩), (fun _ => rfl), ?_⟩
  intro u1_2 hr
  have zu1_2 := hr.size
  have Hx6 := hid ((qwr.widen (R' := (fun k => (R k) ∨ (New u1_0 u1_1a k) ∨ (New u1_1 u1_2a k))) (by intro k h1; simp only [or_assoc] at h1 ⊢; exact h1) (Nat.le_refl _)).mod hr (by intro k h1 h2; rcases h1 with h1 | h1 | h1 <;> first | omega | (have hb := HBR.out k h1; omega)))
  have Cx7 := hid (Cx5.out.goM hm hr (by intro k h0 h2; rcases h2 with h2 | h2 <;> first | omega | exact h2))
  clear Cx5 hm hr Z act E qwr Hx4
  refine QChain.go fun Z act E => ?_
  refine qc_callF (args := #[.pointer (some ⟨g, 0, none⟩), .int .i64 x.rd]) rfl (wanted_none rfl) rfl Try.func52 (args2 (E.d 6) (E.d 8)) (WInt_Q Hx6.out HOK.out.rd (by have := HL.out; simp only [List.length_append] at this ⊢; omega)) ?_
  rintro e u1_3a ⟨rfl, qwr, hm⟩
  have zu1_3a := hm.size
  refine ⟨_, rfl, hm.mono (by intro k hk h; rcases h with h | h | h <;> first | omega | exact Or.inl ⟨(by have hb := HBR.out k h; omega), Or.inr (Or.inr (Or.inl ⟨rfl, h⟩))⟩), (fun _ => rfl), ?_⟩
  intro u1_3 hr
  have zu1_3 := hr.size
  have Hx8 := hid ((qwr.widen (R' := (fun k => (R k) ∨ (New u1_0 u1_1a k) ∨ (New u1_1 u1_2a k) ∨ (New u1_2 u1_3a k))) (by intro k h1; simp only [or_assoc] at h1 ⊢; exact h1) (Nat.le_refl _)).mod hr (by intro k h1 h2; rcases h1 with h1 | h1 | h1 | h1 <;> first | omega | (have hb := HBR.out k h1; omega)))
  have Cx9 := hid (Cx7.out.goM hm hr (by intro k h0 h2; rcases h2 with h2 | h2 | h2 <;> first | omega | exact h2))
  clear Cx7 hm hr Z act E qwr Hx6
  refine QChain.go fun Z act E => ?_
  refine qc_callF (args := #[.pointer (some ⟨g, 0, none⟩), .int .i64 x.rp]) rfl (wanted_none rfl) rfl Try.func52 (args2 (E.d 9) (E.d 11)) (WInt_Q Hx8.out HOK.out.rp (by have := HL.out; simp only [List.length_append] at this ⊢; omega)) ?_
  rintro e u1_4a ⟨rfl, qwr, hm⟩
  have zu1_4a := hm.size
  refine ⟨_, rfl, hm.mono (by intro k hk h; rcases h with h | h | h | h <;> first | omega | exact Or.inl ⟨(by have hb := HBR.out k h; omega), Or.inr (Or.inr (Or.inr (Or.inl ⟨rfl, h⟩)))⟩), (fun _ => rfl), ?_⟩
  intro u1_4 hr
  have zu1_4 := hr.size
  have Hx10 := hid ((qwr.widen (R' := (fun k => (R k) ∨ (New u1_0 u1_1a k) ∨ (New u1_1 u1_2a k) ∨ (New u1_2 u1_3a k) ∨ (New u1_3 u1_4a k))) (by intro k h1; simp only [or_assoc] at h1 ⊢; exact h1) (Nat.le_refl _)).mod hr (by intro k h1 h2; rcases h1 with h1 | h1 | h1 | h1 | h1 <;> first | omega | (have hb := HBR.out k h1; omega)))
  have Cx11 := hid (Cx9.out.goM hm hr (by intro k h0 h2; rcases h2 with h2 | h2 | h2 | h2 <;> first | omega | exact h2))
  clear Cx9 hm hr Z act E qwr Hx8
  refine QChain.go fun Z act E => ?_
  refine qc_callF (args := #[.pointer (some ⟨g, 0, none⟩), hv x.h]) rfl (wanted_none rfl) rfl Try.func69 (args2 (E.d 12) (E.d 14)) (WHash_Q Hx10.out HOK.out.h (by have := HL.out; simp only [List.length_append] at this ⊢; omega)) ?_
  rintro e u1_5a ⟨rfl, qwr, hm⟩
  have zu1_5a := hm.size
  refine ⟨_, rfl, hm.mono (by intro k hk h; rcases h with h | h | h | h | h <;> first | omega | exact Or.inl ⟨(by have hb := HBR.out k h; omega), Or.inr (Or.inr (Or.inr (Or.inr (⟨rfl, h⟩))))⟩), (fun _ => rfl), ?_⟩
  intro u1_5 hr
  have zu1_5 := hr.size
  have Hx12 := hid ((qwr.widen (R' := (fun k => (R k) ∨ (New u1_0 u1_1a k) ∨ (New u1_1 u1_2a k) ∨ (New u1_2 u1_3a k) ∨ (New u1_3 u1_4a k) ∨ (New u1_4 u1_5a k))) (by intro k h1; simp only [or_assoc] at h1 ⊢; exact h1) (Nat.le_refl _)).mod hr (by intro k h1 h2; rcases h1 with h1 | h1 | h1 | h1 | h1 | h1 <;> first | omega | (have hb := HBR.out k h1; omega)))
  have Cx13 := hid (Cx11.out.goM hm hr (by intro k h0 h2; rcases h2 with h2 | h2 | h2 | h2 | h2 <;> first | omega | exact h2))
  clear Cx11 hm hr Z act E qwr Hx10
  refine QChain.nil fun vs hl hzz hrows hne => ?_
  obtain ⟨Z, hYZ, hZb, hV⟩ := hzz
  have f0 := fvi hV hl 0
  have f3 := fvi hV hl 3
  have f6 := fvi hV hl 6
  have f9 := fvi hV hl 9
  have f12 := fvi hV hl 12
  have f15 := fvi hV hl 15
  rw [show vs = [gw vs 0, gw vs 1, gw vs 2, gw vs 3, gw vs 4, gw vs 5, gw vs 6, gw vs 7, gw vs 8, gw vs 9, gw vs 10, gw vs 11, gw vs 12, gw vs 13, gw vs 14, gw vs 15] from (gw_eta hl).trans rfl]
  have ha0 := HA0.out
  subst ha0
  clear HA0 hV hYZ hZb hsz0 hrows hne oe0 oe3
  simp only [putAll, Act.put, List.setIfInBounds_toArray, List.set_cons_zero, List.set_cons_succ, f0, f3, f6, f9, f12, f15]
  clear hl f0 f3 f6 f9 f12 f15
  go_upto_region 2 with (fail)
  refine wp_region_U 24 [20, 21, 22, 23] [0, 1, 2, 3] (fun a0 HA0 => ?_)
  have oe0 := ev HA0 0 rfl
  have oe3 := ev HA0 3 rfl
  refine QSeq.pure rfl _ (fun E => ex_move rfl (E.v oe0)) ?_
  refine QSeq.pure rfl (.pointer (some ⟨w.heap.size, 36, none⟩)) (fun E => ex_field rfl Try.underlying98 rfl (by kernel_rfl) (E.v oe3)) ?_
  refine QSeq.pure rfl _ (fun E => ex_loadA rfl Try.underlying34 rfl (off := 36) (cs := [.int .i64 x.sb, .int .i64 x.mr]) (by kernel_rfl) (E.d 1 0) (Cs.postA (m := 32) (k := 0) (HB3.out.mod Cx13.out (by intro h2; first | omega | (have hb := HBR.out _ h2; omega))) (by rw [List.length_map]; exact HOK.out.h.1) rfl rfl)) ?_
  refine QSeq.call rfl rfl Try.func122 (PutSig_Q Hx12.out (by intro k h1; rcases h1 with h1 | h1 | h1 | h1 | h1 | h1 <;> first | omega | (have hb := HBR.out k h1; omega)) HOK.out.sb HOK.out.mr (by have := HL.out; simp only [List.length_append] at this ⊢; omega)) (fun E => args2 (E.d 0 2) (E.d 2 0)) ?_
  rintro e u2_3 ⟨rfl, qwr, hm⟩
  refine ⟨_, rfl, ?_⟩
  have Hx14 := hid (qwr.widen (R' := (fun k => (R k) ∨ (New u1_0 u1_1a k) ∨ (New u1_1 u1_2a k) ∨ (New u1_2 u1_3a k) ∨ (New u1_3 u1_4a k) ∨ (New u1_4 u1_5a k) ∨ (New u1_5 u2_3 k))) (by intro k h1; simp only [or_assoc] at h1 ⊢; exact h1) (Nat.le_refl _))
  have zu2_3 := hm.size
  have Cx15 := hid (show Mod (fun k => (R k) ∨ (New u1_0 u1_1a k) ∨ (New u1_1 u1_2a k) ∨ (New u1_2 u1_3a k) ∨ (New u1_3 u1_4a k) ∨ (New u1_4 u1_5a k)) u1_5 u2_3 from hm)
  clear hm
  clear qwr Hx12
  refine QSeq.nil (t' := [_, _, _, _]) rfl ?_
  obtain rfl := HA0.out
  clear HA0 oe0 oe3
  simp only [pz, Act.put, List.setIfInBounds_toArray, List.set_cons_zero, List.set_cons_succ]
  go_wp2
  go_end0
  have hq := (Hx14.out.widen (R' := (fun k => R k ∨ New w u2_3 k)) (by intro k h1; rcases h1 with h1 | h1 | h1 | h1 | h1 | h1 | h1 <;> first | exact Or.inl h1 | (right; omega)) (Nat.le_refl _))
  simp only [List.append_assoc] at hq
  exact ⟨rfl, by simpa only [vtB, List.append_assoc] using hq, ((HM0.out.trans Cx13.out (fun _ _ h => h)).trans Cx15.out (by intro k h1 h2; rcases h2 with h2 | h2 | h2 | h2 | h2 | h2 <;> first | exact h2 | omega | (have hb := HBR.out k h2; omega)))⟩
set_option maxHeartbeats 4000000 in
theorem PutEn_Q : Puts EnR 89 enB := by
  intro R R2 g bs cs x w hW hB hx hB2 hD hl
  obtain ⟨rfl, hok⟩ := hx
  have HW := Lib.hid hW
  have HBR := Lib.hid hB
  have HBT := Lib.hid hB2
  have HDJ := Lib.hid hD
  have HOK := Lib.hid hok
  have HL := Lib.hid hl
  clear hW hB hB2 hD hl hok
  unfold enB at HL
  go_enter Try.func89, Try.ntmps89
  go_upto_region 1 with (fail)
  obtain ⟨w1, hw1⟩ : ∃ zz, zz = (w.alloc (.cells (x.cells : List Value).toArray 100)) := ⟨_, rfl⟩
  change Code.wp _ _ _ _ (w.alloc (.cells (x.cells : List Value).toArray 100))
  rw [← hw1]
  have HB3 := hid (show Cs w1 (w.heap.size) (x.cells : List Value).toArray 100 by rw [hw1]; exact Cs.new _ _ _)
  have hm : Mod (fun _ => False) w w1 := by rw [hw1]; exact (Mod.refl _ _).alloc _
  have HM0 := hid (show Mod (fun k => (R k)) w w1 from hm.mono (fun _ _ h => h.elim))
  have hs1 : w1.heap.size = w.heap.size + 1 := by rw [hw1]; simp
  have Hx1 := hid (HW.out.mod hm (fun _ _ h => h))
  clear HW
  clear hw1 hm
  go_upto_region 1 with (fail)
  refine wp_region_U 15 [4, 5, 6, 7] [0, 1, 2, 3] (fun a0 HA0 => ?_)
  have oe0 := ev HA0 0 rfl
  have oe3 := ev HA0 3 rfl
  refine QSeq.pure rfl _ (fun E => ex_move rfl (E.v oe0)) ?_
  refine QSeq.pure rfl (.pointer (some ⟨w.heap.size, 0, none⟩)) (fun E => ex_field rfl Try.underlying100 rfl (by kernel_rfl) (E.v oe3)) ?_
  refine QSeq.pure rfl _ (fun E => ex_loadA rfl Try.underlying30 rfl (off := 0) (cs := [.int .i64 x.cl, .int .i64 x.sq]) (by kernel_rfl) (E.d 1 0) (Cs.preA HB3.out rfl)) ?_
  refine QSeq.call rfl rfl Try.func74 (PutName_Q Hx1.out (by intro k h1; have hb := HBR.out k h1; omega) HOK.out.cl HOK.out.sq (by have := HL.out; simp only [List.length_append] at this ⊢; omega)) (fun E => args2 (E.d 0 2) (E.d 2 0)) ?_
  rintro e u1_3 ⟨rfl, qwr, hm⟩
  refine ⟨_, rfl, ?_⟩
  have Hx2 := hid (qwr.widen (R' := (fun k => (R k) ∨ (New w1 u1_3 k))) (fun _ h => h) (Nat.le_refl _))
  have zu1_3 := hm.size
  have Cx3 := hid (show Mod (fun k => (R k)) w1 u1_3 from hm)
  clear hm
  clear qwr Hx1
  refine QSeq.nil (t' := [_, _, _, _]) rfl ?_
  obtain rfl := HA0.out
  clear HA0 oe0 oe3
  simp only [pz, Act.put, List.setIfInBounds_toArray, List.set_cons_zero, List.set_cons_succ]
  go_upto_region 2 with (fail)
  generalize ha0 : Act.mk _ _ = a0
  have oe0 : a0.eval (.tmp 0) = .pointer (some ⟨g, 0, none⟩) := by rw [← ha0]; rfl
  have oe3 : a0.eval (.tmp 3) = .pointer (some ⟨w.heap.size, 0, none⟩) := by rw [← ha0]; rfl
  have hsz0 : a0.tmps.size = 15 := by rw [← ha0]; rfl
  have HA0 := hid ha0
  clear ha0
  refine wp_region_Q1 15 hsz0 [8, 9, 10, 11, 12, 13, 14] (fun k => (R k) ∨ (New w1 u1_3 k)) (fun k j => (k = 0 ∧ ((R j) ∨ (New w1 u1_3 j))) ∨ (k = 1 ∧ ((R j) ∨ (New w1 u1_3 j)))) (by intro k j h; (try dsimp only at h ⊢); rcases h with ⟨-, h | h⟩ | ⟨-, h | h⟩; (exact Or.inl (h)); (exact Or.inr (h)); (exact Or.inl (h)); (exact Or.inr (h))) [qi (.pointer (some ⟨g, 0, none⟩)), qi (.pointer (some ⟨w.heap.size, 2, none⟩)), qi (hv x.h), qi (.pointer (some ⟨g, 0, none⟩)), qi (.pointer (some ⟨w.heap.size, 34, none⟩)), qi (.int .u64 (x.tm : Nat)), qi (.pointer (some ⟨g, 0, none⟩))] ⟨qi_stable, qi_stable, qi_stable, qi_stable, qi_stable, qi_stable, qi_stable, trivial⟩ [3, 6] ⟨?_, ?_, ?_, ?_, ?_, ?_, ?_, trivial⟩ ?_
  · exact stq (fun E => ex_move rfl (E.v oe0))
  · exact stq (fun E => ex_field rfl Try.underlying100 rfl (by kernel_rfl) (E.v oe3))
  · exact stq (fun E => ex_loadA rfl Try.underlying32 rfl (off := 2) (cs := x.h.map bv) (by rw [List.length_map, HOK.out.h.1]; exact size_hash) (E.d 1) (Cs.midA ((HB3.out.mod Cx3.out (by intro h2; first | omega | (have hb := HBR.out _ h2; omega))).mod E.m (by intro h2; rcases h2 with ⟨h0, h2 | h2⟩ | h2 <;> first | omega | (have hb := HBR.out _ h2; omega))) rfl))
  · exact stepq_chain rfl
  · exact stq (fun E => ex_field rfl Try.underlying100 rfl (by kernel_rfl) (E.v oe3))
  · exact stq (fun E => ex_load1 rfl Try.underlying45 rfl (E.d 4) (Cs.post1 (m := 32) (k := 0) ((HB3.out.mod Cx3.out (by intro h2; first | omega | (have hb := HBR.out _ h2; omega))).mod E.m (by intro h2; rcases h2 with ⟨h0, h2 | h2⟩ | h2 <;> first | omega | (have hb := HBR.out _ h2; omega))) (by rw [List.length_map]; exact HOK.out.h.1) rfl rfl))
  · exact stepq_chain rfl
  intro u2_0 hr
  have zu2_0 := hr.size
  have Cx4 := hid (hr.new (S := (fun k => (R k) ∨ (New w1 u1_3 k))))
  have Hx5 := hid (Hx2.out.mod hr (by intro k h1 h2; rcases h1 with h1 | h1 <;> first | omega | (have hb := HBR.out k h1; omega)))
  clear Hx2
  clear hr
  refine QChain.go fun Z act E => ?_
  refine qc_callF (args := #[.pointer (some ⟨g, 0, none⟩), hv x.h]) rfl (wanted_none rfl) rfl Try.func69 (args2 (E.d 0) (E.d 2)) (WHash_Q Hx5.out HOK.out.h (by have := HL.out; simp only [List.length_append] at this ⊢; omega)) ?_
  rintro e u2_1a ⟨rfl, qwr, hm⟩
  have zu2_1a := hm.size
  refine ⟨_, rfl, hm.mono (by intro k hk h; rcases h with h | h <;> first | omega | exact Or.inl ⟨(by have hb := HBR.out k h; omega), Or.inl ⟨rfl, Or.inl h⟩⟩), (fun _ => rfl), ?_⟩
  intro u2_1 hr
  have zu2_1 := hr.size
  have Hx6 := hid ((qwr.widen (R' := (fun k => (R k) ∨ (New w1 u1_3 k) ∨ (New u2_0 u2_1a k))) (by intro k h1; simp only [or_assoc] at h1 ⊢; exact h1) (Nat.le_refl _)).mod hr (by intro k h1 h2; rcases h1 with h1 | h1 | h1 <;> first | omega | (have hb := HBR.out k h1; omega)))
  have Cx7 := hid (Cx4.out.goM hm hr (fun _ _ h => h))
  clear Cx4 hm hr Z act E qwr Hx5
  refine QChain.go fun Z act E => ?_
  refine qc_callF (args := #[.pointer (some ⟨g, 0, none⟩), .int .u64 (x.tm : Nat)]) rfl (wanted_none rfl) rfl Try.func75 (args2 (E.d 3) (E.d 5)) (WNum_Q Hx6.out HOK.out.tm (by have := HL.out; simp only [List.length_append] at this ⊢; omega)) ?_
  rintro e u2_2a ⟨rfl, qwr, hm⟩
  have zu2_2a := hm.size
  refine ⟨_, rfl, hm.mono (by intro k hk h; rcases h with h | h | h <;> first | omega | exact Or.inl ⟨(by have hb := HBR.out k h; omega), Or.inr (⟨rfl, Or.inl h⟩)⟩), (fun _ => rfl), ?_⟩
  intro u2_2 hr
  have zu2_2 := hr.size
  have Hx8 := hid ((qwr.widen (R' := (fun k => (R k) ∨ (New w1 u1_3 k) ∨ (New u2_0 u2_1a k) ∨ (New u2_1 u2_2a k))) (by intro k h1; simp only [or_assoc] at h1 ⊢; exact h1) (Nat.le_refl _)).mod hr (by intro k h1 h2; rcases h1 with h1 | h1 | h1 | h1 <;> first | omega | (have hb := HBR.out k h1; omega)))
  have Cx9 := hid (Cx7.out.goM hm hr (by intro k h0 h2; rcases h2 with h2 | h2 | h2 <;> first | omega | exact Or.inl h2 | exact Or.inr (h2)))
  clear Cx7 hm hr Z act E qwr Hx6
  refine QChain.nil fun vs hl hzz hrows hne => ?_
  obtain ⟨Z, hYZ, hZb, hV⟩ := hzz
  have f0 := fvi hV hl 0
  have f3 := fvi hV hl 3
  have f6 := fvi hV hl 6
  rw [show vs = [gw vs 0, gw vs 1, gw vs 2, gw vs 3, gw vs 4, gw vs 5, gw vs 6] from (gw_eta hl).trans rfl]
  have ha0 := HA0.out
  subst ha0
  clear HA0 hV hYZ hZb hsz0 hrows hne oe0 oe3
  simp only [putAll, Act.put, List.setIfInBounds_toArray, List.set_cons_zero, List.set_cons_succ, f0, f3, f6]
  clear hl f0 f3 f6
  go_wp2
  go_end0
  have hq := (Hx8.out.widen (R' := (fun k => R k ∨ New w u2_2 k)) (by intro k h1; rcases h1 with h1 | h1 | h1 | h1 <;> first | exact Or.inl h1 | (right; omega)) (Nat.le_refl _))
  simp only [List.append_assoc] at hq
  exact ⟨rfl, by simpa only [enB, List.append_assoc] using hq, ((HM0.out.trans Cx3.out (fun _ _ h => h)).trans Cx9.out (by intro k h1 h2; rcases h2 with h2 | h2 <;> first | exact h2 | omega | (have hb := HBR.out k h2; omega)))⟩
set_option maxHeartbeats 4000000 in
theorem PutPr_Q : Puts PrR 87 prB := by
  intro R R2 g bs cs x w hW hB hx hB2 hD hl
  obtain ⟨v_ps, v_os, v_ts, rfl, hok, hs0, hs1, hs2⟩ := hx
  have HS0 := Lib.hid hs0
  clear hs0
  have HS1 := Lib.hid hs1
  clear hs1
  have HS2 := Lib.hid hs2
  clear hs2
  have HW := Lib.hid hW
  have HBR := Lib.hid hB
  have HBT := Lib.hid hB2
  have HDJ := Lib.hid hD
  have HOK := Lib.hid hok
  have HL := Lib.hid hl
  clear hW hB hB2 hD hl hok
  unfold prB at HL
  go_enter Try.func87, Try.ntmps87
  go_upto_region 1 with (fail)
  obtain ⟨w1, hw1⟩ : ∃ zz, zz = (w.alloc (.cells (x.cells v_ps v_os v_ts : List Value).toArray 96)) := ⟨_, rfl⟩
  change Code.wp _ _ _ _ (w.alloc (.cells (x.cells v_ps v_os v_ts : List Value).toArray 96))
  rw [← hw1]
  have HB3 := hid (show Cs w1 (w.heap.size) (x.cells v_ps v_os v_ts : List Value).toArray 96 by rw [hw1]; exact Cs.new _ _ _)
  have hm : Mod (fun _ => False) w w1 := by rw [hw1]; exact (Mod.refl _ _).alloc _
  have HM0 := hid (show Mod (fun k => (R k)) w w1 from hm.mono (fun _ _ h => h.elim))
  have hs1 : w1.heap.size = w.heap.size + 1 := by rw [hw1]; simp
  have Hx1 := hid (HW.out.mod hm (fun _ _ h => h))
  clear HW
  have Hx2 := hid (HS0.out.mod hm (fun _ _ h => h))
  clear HS0
  have Hx3 := hid (HS1.out.mod hm (fun _ _ h => h))
  clear HS1
  have Hx4 := hid (HS2.out.mod hm (fun _ _ h => h))
  clear HS2
  clear hw1 hm
  go_upto_region 1 with (fail)
  generalize ha0 : Act.mk _ _ = a0
  have oe0 : a0.eval (.tmp 0) = .pointer (some ⟨g, 0, none⟩) := by rw [← ha0]; rfl
  have oe3 : a0.eval (.tmp 3) = .pointer (some ⟨w.heap.size, 0, none⟩) := by rw [← ha0]; rfl
  have hsz0 : a0.tmps.size = 26 := by rw [← ha0]; rfl
  have HA0 := hid ha0
  clear ha0
  refine wp_region_Q1 26 hsz0 [4, 5, 6, 7, 8, 9, 10, 11, 12, 13, 14, 15, 16, 17] (fun k => (R k)) (fun k j => (k = 0 ∧ ((R j))) ∨ (k = 1 ∧ ((R j))) ∨ (k = 2 ∧ ((R j))) ∨ (k = 3 ∧ ((R j)))) (by intro k j h; (try dsimp only at h ⊢); rcases h with ⟨-, h⟩ | ⟨-, h⟩ | ⟨-, h⟩ | ⟨-, h⟩; (exact h); (exact h); (exact h); (exact h)) [qi (.pointer (some ⟨g, 0, none⟩)), qi (.pointer (some ⟨w.heap.size, 0, none⟩)), qi (.int .i64 x.ep), qi (.pointer (some ⟨g, 0, none⟩)), qi (.pointer (some ⟨w.heap.size, 1, none⟩)), qi (.int .i64 x.rn), qi (.pointer (some ⟨g, 0, none⟩)), qi (.pointer (some ⟨w.heap.size, 2, none⟩)), qi (.int .i64 x.vl), qi (.int .i64 (IntKind.i64.wrap (x.vl + 1))), qi (.pointer (some ⟨g, 0, none⟩)), qi (.pointer (some ⟨w.heap.size, 3, none⟩)), qi (.int .i64 x.rp), qi (.pointer (some ⟨g, 0, none⟩))] ⟨qi_stable, qi_stable, qi_stable, qi_stable, qi_stable, qi_stable, qi_stable, qi_stable, qi_stable, qi_stable, qi_stable, qi_stable, qi_stable, qi_stable, trivial⟩ [3, 6, 10, 13] ⟨?_, ?_, ?_, ?_, ?_, ?_, ?_, ?_, ?_, ?_, ?_, ?_, ?_, ?_, trivial⟩ ?_
  · exact stq (fun E => ex_move rfl (E.v oe0))
  · exact stq (fun E => ex_field rfl Try.underlying96 rfl (by kernel_rfl) (E.v oe3))
  · exact stq (fun E => ex_load1 rfl Try.underlying3 rfl (E.d 1) (Cs.lit1 (HB3.out.mod E.m (by intro h2; rcases h2 with ⟨h0, h2⟩ | h2 <;> first | omega | (have hb := HBR.out _ h2; omega))) rfl))
  · exact stepq_chain rfl
  · exact stq (fun E => ex_field rfl Try.underlying96 rfl (by kernel_rfl) (E.v oe3))
  · exact stq (fun E => ex_load1 rfl Try.underlying3 rfl (E.d 4) (Cs.lit1 (HB3.out.mod E.m (by intro h2; rcases h2 with ⟨h0, h2⟩ | h2 <;> first | omega | (have hb := HBR.out _ h2; omega))) rfl))
  · exact stepq_chain rfl
  · exact stq (fun E => ex_field rfl Try.underlying96 rfl (by kernel_rfl) (E.v oe3))
  · exact stq (fun E => ex_load1 rfl Try.underlying3 rfl (E.d 7) (Cs.lit1 (HB3.out.mod E.m (by intro h2; rcases h2 with ⟨h0, h2⟩ | h2 <;> first | omega | (have hb := HBR.out _ h2; omega))) rfl))
  · exact stq (fun E => ex_bin rfl (E.d 8) rfl (guard_ints _ _ _ _ _ _) (run_add_i _ _ Try.underlying3))
  · exact stepq_chain rfl
  · exact stq (fun E => ex_field rfl Try.underlying96 rfl (by kernel_rfl) (E.v oe3))
  · exact stq (fun E => ex_load1 rfl Try.underlying3 rfl (E.d 11) (Cs.lit1 (HB3.out.mod E.m (by intro h2; rcases h2 with ⟨h0, h2⟩ | h2 <;> first | omega | (have hb := HBR.out _ h2; omega))) rfl))
  · exact stepq_chain rfl
  intro u1_0 hr
  have zu1_0 := hr.size
  have Cx5 := hid (hr.new (S := (fun k => (R k))))
  have Hx6 := hid (Hx1.out.mod hr (by intro k h1 h2; have hb := HBR.out k h1; omega))
  clear Hx1
  clear hr
  refine QChain.go fun Z act E => ?_
  refine qc_callF (args := #[.pointer (some ⟨g, 0, none⟩), .int .i64 x.ep]) rfl (wanted_none rfl) rfl Try.func52 (args2 (E.d 0) (E.d 2)) (WInt_Q Hx6.out HOK.out.1 (by have := HL.out; simp only [List.length_append] at this ⊢; omega)) ?_
  rintro e u1_1a ⟨rfl, qwr, hm⟩
  have zu1_1a := hm.size
  refine ⟨_, rfl, hm.mono (by intro k hk h; first | omega | exact Or.inl ⟨(by have hb := HBR.out k h; omega), Or.inl ⟨rfl, h⟩⟩), (fun _ => rfl), ?_⟩
  intro u1_1 hr
  have zu1_1 := hr.size
  have Hx7 := hid ((qwr.widen (R' := (fun k => (R k) ∨ (New u1_0 u1_1a k))) (fun _ h => h) (Nat.le_refl _)).mod hr (by intro k h1 h2; rcases h1 with h1 | h1 <;> first | omega | (have hb := HBR.out k h1; omega)))
  have Cx8 := hid (Cx5.out.goM hm hr (fun _ _ h => h))
  clear Cx5 hm hr Z act E qwr Hx6
  refine QChain.go fun Z act E => ?_
  refine qc_callF (args := #[.pointer (some ⟨g, 0, none⟩), .int .i64 x.rn]) rfl (wanted_none rfl) rfl Try.func52 (args2 (E.d 3) (E.d 5)) (WInt_Q Hx7.out HOK.out.2.1 (by have := HL.out; simp only [List.length_append] at this ⊢; omega)) ?_
  rintro e u1_2a ⟨rfl, qwr, hm⟩
  have zu1_2a := hm.size
  refine ⟨_, rfl, hm.mono (by intro k hk h; rcases h with h | h <;> first | omega | exact Or.inl ⟨(by have hb := HBR.out k h; omega), Or.inr (Or.inl ⟨rfl, h⟩)⟩), (fun _ => rfl), ?_⟩
  intro u1_2 hr
  have zu1_2 := hr.size
  have Hx9 := hid ((qwr.widen (R' := (fun k => (R k) ∨ (New u1_0 u1_1a k) ∨ (New u1_1 u1_2a k))) (by intro k h1; simp only [or_assoc] at h1 ⊢; exact h1) (Nat.le_refl _)).mod hr (by intro k h1 h2; rcases h1 with h1 | h1 | h1 <;> first | omega | (have hb := HBR.out k h1; omega)))
  have Cx10 := hid (Cx8.out.goM hm hr (by intro k h0 h2; rcases h2 with h2 | h2 <;> first | omega | exact h2))
  clear Cx8 hm hr Z act E qwr Hx7
  refine QChain.go fun Z act E => ?_
  refine qc_callF (args := #[.pointer (some ⟨g, 0, none⟩), .int .i64 (IntKind.i64.wrap (x.vl + 1))]) rfl (wanted_none rfl) rfl Try.func52 (args2 (E.d 6) (E.d 9)) (WInt_Q Hx9.out (I64_wrap _) (by have := HL.out; simp only [List.length_append] at this ⊢; omega)) ?_
  rintro e u1_3a ⟨rfl, qwr, hm⟩
  have zu1_3a := hm.size
  refine ⟨_, rfl, hm.mono (by intro k hk h; rcases h with h | h | h <;> first | omega | exact Or.inl ⟨(by have hb := HBR.out k h; omega), Or.inr (Or.inr (Or.inl ⟨rfl, h⟩))⟩), (fun _ => rfl), ?_⟩
  intro u1_3 hr
  have zu1_3 := hr.size
  have Hx11 := hid ((qwr.widen (R' := (fun k => (R k) ∨ (New u1_0 u1_1a k) ∨ (New u1_1 u1_2a k) ∨ (New u1_2 u1_3a k))) (by intro k h1; simp only [or_assoc] at h1 ⊢; exact h1) (Nat.le_refl _)).mod hr (by intro k h1 h2; rcases h1 with h1 | h1 | h1 | h1 <;> first | omega | (have hb := HBR.out k h1; omega)))
  have Cx12 := hid (Cx10.out.goM hm hr (by intro k h0 h2; rcases h2 with h2 | h2 | h2 <;> first | omega | exact h2))
  clear Cx10 hm hr Z act E qwr Hx9
  refine QChain.go fun Z act E => ?_
  refine qc_callF (args := #[.pointer (some ⟨g, 0, none⟩), .int .i64 x.rp]) rfl (wanted_none rfl) rfl Try.func52 (args2 (E.d 10) (E.d 12)) (WInt_Q Hx11.out HOK.out.2.2.2.1 (by have := HL.out; simp only [List.length_append] at this ⊢; omega)) ?_
  rintro e u1_4a ⟨rfl, qwr, hm⟩
  have zu1_4a := hm.size
  refine ⟨_, rfl, hm.mono (by intro k hk h; rcases h with h | h | h | h <;> first | omega | exact Or.inl ⟨(by have hb := HBR.out k h; omega), Or.inr (Or.inr (Or.inr (⟨rfl, h⟩)))⟩), (fun _ => rfl), ?_⟩
  intro u1_4 hr
  have zu1_4 := hr.size
  have Hx13 := hid ((qwr.widen (R' := (fun k => (R k) ∨ (New u1_0 u1_1a k) ∨ (New u1_1 u1_2a k) ∨ (New u1_2 u1_3a k) ∨ (New u1_3 u1_4a k))) (by intro k h1; simp only [or_assoc] at h1 ⊢; exact h1) (Nat.le_refl _)).mod hr (by intro k h1 h2; rcases h1 with h1 | h1 | h1 | h1 | h1 <;> first | omega | (have hb := HBR.out k h1; omega)))
  have Cx14 := hid (Cx12.out.goM hm hr (by intro k h0 h2; rcases h2 with h2 | h2 | h2 | h2 <;> first | omega | exact h2))
  clear Cx12 hm hr Z act E qwr Hx11
  refine QChain.nil fun vs hl hzz hrows hne => ?_
  obtain ⟨Z, hYZ, hZb, hV⟩ := hzz
  have f0 := fvi hV hl 0
  have f3 := fvi hV hl 3
  have f6 := fvi hV hl 6
  have f10 := fvi hV hl 10
  have f13 := fvi hV hl 13
  rw [show vs = [gw vs 0, gw vs 1, gw vs 2, gw vs 3, gw vs 4, gw vs 5, gw vs 6, gw vs 7, gw vs 8, gw vs 9, gw vs 10, gw vs 11, gw vs 12, gw vs 13] from (gw_eta hl).trans rfl]
  have ha0 := HA0.out
  subst ha0
  clear HA0 hV hYZ hZb hsz0 hrows hne oe0 oe3
  simp only [putAll, Act.put, List.setIfInBounds_toArray, List.set_cons_zero, List.set_cons_succ, f0, f3, f6, f10, f13]
  clear hl f0 f3 f6 f10 f13
  go_upto_region 2 with (fail)
  refine wp_region_U 26 [18, 19, 20, 21] [0, 1, 2, 3] (fun a0 HA0 => ?_)
  have oe0 := ev HA0 0 rfl
  have oe3 := ev HA0 3 rfl
  refine QSeq.pure rfl _ (fun E => ex_move rfl (E.v oe0)) ?_
  refine QSeq.pure rfl (.pointer (some ⟨w.heap.size, 4, none⟩)) (fun E => ex_field rfl Try.underlying96 rfl (by kernel_rfl) (E.v oe3)) ?_
  refine QSeq.pure rfl _ (fun E => ex_loadA rfl Try.underlying94 rfl (off := 4) (cs := [.int .i64 x.ba.ep, .int .u64 (x.ba.tm : Nat), v_ps, v_os, v_ts]) (by kernel_rfl) (E.d 1 0) (Cs.litA (HB3.out.mod Cx14.out (by intro h2; first | omega | (have hb := HBR.out _ h2; omega))) rfl)) ?_
  refine QSeq.call rfl rfl Try.func92 (PutBa_Q _ R2 _ _ _ x.ba _ Hx13.out (by intro k h1; rcases h1 with h1 | h1 | h1 | h1 | h1 <;> first | omega | (have hb := HBR.out k h1; omega)) ⟨_, _, _, rfl, HOK.out.2.2.2.2.1, (Hx2.out.mod Cx14.out (by intro k h1 h2; first | omega | (have hb := HBT.out k h1; omega) | (have hb := HBR.out k h2; omega) | exact HDJ.out k h1 h2 | exact HDJ.out k h2 h1 | (have hb := HBT.out k h1; have hb2 := HBR.out k h2; omega))), (Hx3.out.mod Cx14.out (by intro k h1 h2; first | omega | (have hb := HBT.out k h1; omega) | (have hb := HBR.out k h2; omega) | exact HDJ.out k h1 h2 | exact HDJ.out k h2 h1 | (have hb := HBT.out k h1; have hb2 := HBR.out k h2; omega))), (Hx4.out.mod Cx14.out (by intro k h1 h2; first | omega | (have hb := HBT.out k h1; omega) | (have hb := HBR.out k h2; omega) | exact HDJ.out k h1 h2 | exact HDJ.out k h2 h1 | (have hb := HBT.out k h1; have hb2 := HBR.out k h2; omega)))⟩ (by intro k h1; have hb := HBT.out k h1; omega) (by intro k h1 h2; rcases h1 with h1 | h1 | h1 | h1 | h1 <;> first | omega | (have hb := HBR.out k h1; omega) | (have hb := HBT.out k h2; omega) | exact HDJ.out k h1 h2 | exact HDJ.out k h2 h1 | (have hb := HBR.out k h1; have hb2 := HBT.out k h2; omega)) (by have := HL.out; simp only [List.length_append] at this ⊢; omega)) (fun E => args2 (E.d 0 2) (E.d 2 0)) ?_
  rintro e u2_3 ⟨rfl, qwr, hm⟩
  refine ⟨_, rfl, ?_⟩
  have Hx15 := hid (qwr.widen (R' := (fun k => (R k) ∨ (New u1_0 u1_1a k) ∨ (New u1_1 u1_2a k) ∨ (New u1_2 u1_3a k) ∨ (New u1_3 u1_4a k) ∨ (New u1_4 u2_3 k))) (by intro k h1; simp only [or_assoc] at h1 ⊢; exact h1) (Nat.le_refl _))
  have zu2_3 := hm.size
  have Cx16 := hid (show Mod (fun k => (R k) ∨ (New u1_0 u1_1a k) ∨ (New u1_1 u1_2a k) ∨ (New u1_2 u1_3a k) ∨ (New u1_3 u1_4a k)) u1_4 u2_3 from hm)
  clear hm
  clear qwr Hx13
  refine QSeq.nil (t' := [_, _, _, _]) rfl ?_
  obtain rfl := HA0.out
  clear HA0 oe0 oe3
  simp only [pz, Act.put, List.setIfInBounds_toArray, List.set_cons_zero, List.set_cons_succ]
  go_upto_region 3 with (fail)
  refine wp_region_U 26 [22, 23, 24, 25] [0, 1, 2, 3] (fun a0 HA0 => ?_)
  have oe0 := ev HA0 0 rfl
  have oe3 := ev HA0 3 rfl
  refine QSeq.pure rfl _ (fun E => ex_move rfl (E.v oe0)) ?_
  refine QSeq.pure rfl (.pointer (some ⟨w.heap.size, 9, none⟩)) (fun E => ex_field rfl Try.underlying96 rfl (by kernel_rfl) (E.v oe3)) ?_
  refine QSeq.pure rfl _ (fun E => ex_loadA rfl Try.underlying34 rfl (off := 9) (cs := [.int .i64 x.sb, .int .i64 x.mr]) (by kernel_rfl) (E.d 1 0) (Cs.litA ((HB3.out.mod Cx14.out (by intro h2; first | omega | (have hb := HBR.out _ h2; omega))).mod Cx16.out (by intro h2; rcases h2 with h2 | h2 | h2 | h2 | h2 <;> first | omega | (have hb := HBR.out _ h2; omega))) rfl)) ?_
  refine QSeq.call rfl rfl Try.func122 (PutSig_Q Hx15.out (by intro k h1; rcases h1 with h1 | h1 | h1 | h1 | h1 | h1 <;> first | omega | (have hb := HBR.out k h1; omega)) HOK.out.2.2.2.2.2.1 HOK.out.2.2.2.2.2.2 (by have := HL.out; simp only [List.length_append] at this ⊢; omega)) (fun E => args2 (E.d 0 2) (E.d 2 0)) ?_
  rintro e u3_3 ⟨rfl, qwr, hm⟩
  refine ⟨_, rfl, ?_⟩
  have Hx17 := hid (qwr.widen (R' := (fun k => (R k) ∨ (New u1_0 u1_1a k) ∨ (New u1_1 u1_2a k) ∨ (New u1_2 u1_3a k) ∨ (New u1_3 u1_4a k) ∨ (New u1_4 u2_3 k) ∨ (New u2_3 u3_3 k))) (by intro k h1; simp only [or_assoc] at h1 ⊢; exact h1) (Nat.le_refl _))
  have zu3_3 := hm.size
  have Cx18 := hid (show Mod (fun k => (R k) ∨ (New u1_0 u1_1a k) ∨ (New u1_1 u1_2a k) ∨ (New u1_2 u1_3a k) ∨ (New u1_3 u1_4a k) ∨ (New u1_4 u2_3 k)) u2_3 u3_3 from hm)
  clear hm
  clear qwr Hx15
  refine QSeq.nil (t' := [_, _, _, _]) rfl ?_
  obtain rfl := HA0.out
  clear HA0 oe0 oe3
  simp only [pz, Act.put, List.setIfInBounds_toArray, List.set_cons_zero, List.set_cons_succ]
  go_wp2
  go_end0
  have hq := (Hx17.out.widen (R' := (fun k => R k ∨ New w u3_3 k)) (by intro k h1; rcases h1 with h1 | h1 | h1 | h1 | h1 | h1 | h1 <;> first | exact Or.inl h1 | (right; omega)) (Nat.le_refl _))
  simp only [List.append_assoc] at hq
  exact ⟨rfl, by simpa only [prB, List.append_assoc] using hq, (((HM0.out.trans Cx14.out (fun _ _ h => h)).trans Cx16.out (by intro k h1 h2; rcases h2 with h2 | h2 | h2 | h2 | h2 <;> first | exact h2 | omega | (have hb := HBR.out k h2; omega))).trans Cx18.out (by intro k h1 h2; rcases h2 with h2 | h2 | h2 | h2 | h2 | h2 <;> first | exact h2 | omega | (have hb := HBR.out k h2; omega)))⟩
set_option maxHeartbeats 4000000 in
theorem PutList_Vt : PutsL VtR 93 88 vtB := by
  intro R R2 g bs v l w hW hB hs hB2 hD hl
  obtain ⟨ao, cap, rfl⟩ := hs.shape
  have hb64 : l.length ≤ maxLen := hs.bd
  rw [maxLen_val] at hb64
  have HI64 := hid (show I64 (l.length : Int) by unfold I64; omega)
  have HW := Lib.hid hW
  have HS := Lib.hid hs
  have HBR := Lib.hid hB
  have HBT := Lib.hid hB2
  have HDJ := Lib.hid hD
  have HL := Lib.hid hl
  clear hW hB hs hB2 hD hl
  unfold listB at HL
  go_enter Try.func93, Try.ntmps93
  go_upto_region 0 with (fail)
  have HM0 := hid (Mod.refl (fun k => (R k)) w)
  go_upto_region 0 with (fail)
  refine wp_region_U 23 [8, 9, 10, 11] [0, 1, 2, 3] (fun a0 HA0 => ?_)
  have oe0 := ev HA0 0 rfl
  have oe1 := ev HA0 1 rfl
  refine QSeq.pure rfl _ (fun E => ex_move rfl (E.v oe0)) ?_
  refine QSeq.pure rfl _ (fun E => ex_move rfl (E.v oe1)) ?_
  refine QSeq.pure rfl (.int .i64 l.length) (fun E => ex_lenS rfl (E.d 1 0) Try.underlying105) ?_
  refine QSeq.call rfl rfl Try.func52 (WInt_Q HW.out HI64.out (by have := HL.out; simp only [List.length_append] at this ⊢; omega)) (fun E => args2 (E.d 0 2) (E.d 2 0)) ?_
  rintro e u0_3 ⟨rfl, qwr, hm⟩
  refine ⟨_, rfl, ?_⟩
  have Hx1 := hid (qwr.widen (R' := (fun k => (R k) ∨ (New w u0_3 k))) (fun _ h => h) (Nat.le_refl _))
  have zu0_3 := hm.size
  have Cx2 := hid (show Mod (fun k => (R k)) w u0_3 from hm)
  clear hm
  clear qwr HW
  refine QSeq.nil (t' := [_, _, _, _]) rfl ?_
  obtain rfl := HA0.out
  clear HA0 oe0 oe1
  simp only [pz, Act.put, List.setIfInBounds_toArray, List.set_cons_zero, List.set_cons_succ]
  go_wp2
  go_loopw [14] (fun t wr => ∃ k : Nat, t = .int .i64 (k : Int) ∧ k ≤ l.length ∧ u0_3.heap.size ≤ wr.heap.size ∧ WrR (fun b => R b ∨ (w.heap.size ≤ b ∧ b < wr.heap.size)) 900000 wr g (bs ++ (encI l.length ++ ((l.take k).map vtB).flatten)) ∧ RdS VtR R2 wr (.slice ao l.length cap) l ∧ Mod R w wr) (fun t _ => l.length - (intOf t).toNat)
  case atStart => exact ⟨0, rfl, Nat.zero_le _, Nat.le_refl _, by have hq := (Hx1.out.widen (R' := (fun k => R k ∨ (w.heap.size ≤ k ∧ k < u0_3.heap.size))) (by intro k h1; rcases h1 with h1 | h1 <;> first | exact Or.inl h1 | (right; omega)) (Nat.le_refl _)); simpa only [List.take_zero, List.map_nil, List.flatten_nil, List.append_nil] using hq, (HS.out.mod Cx2.out (by intro k h1 h2; first | omega | (have hb := HBT.out k h1; omega) | (have hb := HBR.out k h2; omega) | exact HDJ.out k h1 h2 | exact HDJ.out k h2 h1 | (have hb := HBT.out k h1; have hb2 := HBR.out k h2; omega))), (HM0.out.trans Cx2.out (fun _ _ h => h))⟩
  case round =>
    obtain ⟨k, rfl, hk, hz, hw, hs, hm⟩ := hrel
    have HW2 := Lib.hid hw
    have HS2 := Lib.hid hs
    have HM2 := Lib.hid hm
    clear hw hs hm Hx1 HS HM0
    obtain ⟨wo, rfl⟩ : ∃ x, x = wr := ⟨_, rfl⟩
    by_cases hlt : k < l.length
    · skip
      obtain ⟨g0, o0, cs, rfl, hrg, hrd, hcs⟩ := HS2.out.at hlt
      have hcl : cs.length = 38 := VtR.len hrd
      have HCL := Lib.hid hcl
      have HAT := hid (show CellsAt R2 wo g0 (o0 + k * 38) cs from ⟨hrg, hcs⟩)
      have HRD := Lib.hid hrd
      have HOC := hid (VtR.one hrd)
      clear hcl hcs hrd hrg
      have HE : Hid (bs ++ (encI l.length ++ ((l.take k).map vtB).flatten) ++ vtB l[k] = bs ++ (encI l.length ++ ((l.take (k + 1)).map vtB).flatten)) := hid (by rw [List.take_succ_eq_append_getElem hlt, List.map_append, List.flatten_append]; simp [List.append_assoc])
      have HLk := hid (show (bs ++ (encI l.length ++ ((l.take k).map vtB).flatten) ++ vtB l[k]).length ≤ 900000 by rw [HE.out]; exact Nat.le_trans (put_len _ _ _ _ _) HL.out)
      go_upto_region 3 with (fail)
      refine wp_region_U 23 [16, 17, 7, 26] [0, 1, 2, 3] (fun a0 HA0 => ?_)
      have oe12 := ev HA0 12 rfl
      have oe14 := ev HA0 14 rfl
      refine QSeq.pure rfl (.pointer (some ⟨g0, o0 + k * 38, none⟩)) (fun E => ex_idxS (i := k) (s := 38) rfl Try.underlying105 (by kernel_rfl) (E.v oe12) (E.v oe14) (by omega)) ?_
      refine QSeq.pure rfl _ (fun E => ex_loadA rfl Try.underlying98 rfl (off := o0 + k * 38) (cs := cs) (by rw [HCL.out]; kernel_rfl) (E.d 0 0) (fun j u hu => (HAT.out).2 j u hu)) ?_
      refine QSeq.go fun act E => ?_
      refine qc_alloc rfl (wanted_none rfl) rfl (z := [.int .i64 0, .int .i64 0, .int .i64 0, .int .i64 0, .int .u8 0, .int .u8 0, .int .u8 0, .int .u8 0, .int .u8 0, .int .u8 0, .int .u8 0, .int .u8 0, .int .u8 0, .int .u8 0, .int .u8 0, .int .u8 0, .int .u8 0, .int .u8 0, .int .u8 0, .int .u8 0, .int .u8 0, .int .u8 0, .int .u8 0, .int .u8 0, .int .u8 0, .int .u8 0, .int .u8 0, .int .u8 0, .int .u8 0, .int .u8 0, .int .u8 0, .int .u8 0, .int .u8 0, .int .u8 0, .int .u8 0, .int .u8 0, .int .i64 0, .int .i64 0]) (by kernel_rfl) ?_
      intro u3_2 qq hm
      have zl3_2 := qq.lt
      have Hx3 := hid qq
      have zu3_2 := hm.size
      have Cx4 := hid (show Mod (fun _ => False) wo u3_2 from hm)
      clear hm
      clear act E qq
      refine QSeq.go fun act E => ?_
      have hlz : (cs).length = List.length ([.int .i64 0, .int .i64 0, .int .i64 0, .int .i64 0, .int .u8 0, .int .u8 0, .int .u8 0, .int .u8 0, .int .u8 0, .int .u8 0, .int .u8 0, .int .u8 0, .int .u8 0, .int .u8 0, .int .u8 0, .int .u8 0, .int .u8 0, .int .u8 0, .int .u8 0, .int .u8 0, .int .u8 0, .int .u8 0, .int .u8 0, .int .u8 0, .int .u8 0, .int .u8 0, .int .u8 0, .int .u8 0, .int .u8 0, .int .u8 0, .int .u8 0, .int .u8 0, .int .u8 0, .int .u8 0, .int .u8 0, .int .u8 0, .int .i64 0, .int .i64 0] : List Value) := (by rw [HCL.out]; rfl)
      refine qc_store rfl (wanted_none rfl) rfl Hx3.out (off := 0) (vs := cs) (by rw [hlz]; kernel_rfl) HOC.out (by rw [hlz]; exact Nat.le_of_eq (Nat.zero_add _)) (E.d 2 0) (ec (E.d 1 1)) ?_
      intro u3_3 qc0 hm
      have qq := qc0.eqv (b := (cs : List Value).toArray) (lay_whole #[.int .i64 0, .int .i64 0, .int .i64 0, .int .i64 0, .int .u8 0, .int .u8 0, .int .u8 0, .int .u8 0, .int .u8 0, .int .u8 0, .int .u8 0, .int .u8 0, .int .u8 0, .int .u8 0, .int .u8 0, .int .u8 0, .int .u8 0, .int .u8 0, .int .u8 0, .int .u8 0, .int .u8 0, .int .u8 0, .int .u8 0, .int .u8 0, .int .u8 0, .int .u8 0, .int .u8 0, .int .u8 0, .int .u8 0, .int .u8 0, .int .u8 0, .int .u8 0, .int .u8 0, .int .u8 0, .int .u8 0, .int .u8 0, .int .i64 0, .int .i64 0] _ (by rw [hlz]; rfl))
      clear qc0 hlz
      have Hx5 := hid qq
      have zu3_3 := hm.size
      have HMu3_3 := hid hm
      have Cx6 := hid (Mod.goS (S' := (fun _ => False)) Cx4.out hm (fun _ h => h) (by intro k h0 h2; omega))
      clear hm Cx4
      clear act E qq Hx3
      clear HMu3_3
      refine QSeq.nil (t' := [_, _, _, _]) rfl ?_
      obtain rfl := HA0.out
      clear HA0 oe12 oe14
      simp only [pz, Act.put, List.setIfInBounds_toArray, List.set_cons_zero, List.set_cons_succ, List.set_nil]
      go_upto_region 4 with (fail)
      refine wp_region_U 23 [18, 19, 20, 21] [0, 1, 2, 3] (fun a0 HA0 => ?_)
      have oe0 := ev HA0 0 rfl
      have oe2 := ev HA0 2 rfl
      have oe7 := ev HA0 7 rfl
      refine QSeq.pure rfl _ (fun E => ex_move rfl (E.v oe2)) ?_
      refine QSeq.pure rfl _ (fun E => ex_move rfl (E.v oe0)) ?_
      refine QSeq.pure rfl _ (fun E => ex_loadA rfl Try.underlying98 rfl (off := 0) (cs := cs) (by rw [HCL.out]; kernel_rfl) (E.v oe7) (Cs.whole Hx5.out)) ?_
      refine QSeq.go fun act E => ?_
      have ea19 : act.eval (.tmp 19) = .pointer (some ⟨g, 0, none⟩) := (E.d 1 1)
      have ea20 : act.eval (.tmp 20) = .agg cs.toArray := (E.d 2 0)
      refine qc_call (args := #[.pointer (some ⟨g, 0, none⟩), .agg cs.toArray]) rfl (wanted_none rfl) (by rw [ex_callV rfl (E.d 0 2) Try.func88 (by kernel_rfl) (by kernel_rfl)]; exact congrArg (fun z => Result.ok (Next.enter _ z) _) (by simp only [List.map_toArray, List.map_cons, List.map_nil, ea19, ea20]; try rfl)) (PutVt_Q _ _ _ _ _ _ _ (HW2.out.mod Cx6.out (fun _ _ h => h)) (by intro k h1; rcases h1 with h1 | h1 <;> first | omega | (have hb := HBR.out k h1; omega)) (HRD.out.mod Cx6.out (fun _ _ h => h)) (by intro k h1; have hb := HBT.out k h1; omega) (by intro k h1 h2; rcases h1 with h1 | h1 <;> first | omega | (have hb := HBR.out k h1; omega) | (have hb := HBT.out k h2; omega) | exact HDJ.out k h1 h2 | exact HDJ.out k h2 h1 | (have hb := HBR.out k h1; have hb2 := HBT.out k h2; omega)) HLk.out) ?_
      rintro e u4_3 ⟨rfl, qwr, hm⟩
      refine ⟨_, rfl, ?_⟩
      have Hx7 := hid (qwr.widen (R' := (fun k => (R k) ∨ (New w wo k) ∨ (New u3_3 u4_3 k))) (by intro k h1; simp only [or_assoc] at h1 ⊢; exact h1) (Nat.le_refl _))
      have zu4_3 := hm.size
      have Cx8 := hid (show Mod (fun k => (R k) ∨ (New w wo k)) u3_3 u4_3 from hm)
      clear hm
      clear act E qwr HW2 ea19 ea20
      refine QSeq.nil (t' := [_, _, _, _]) rfl ?_
      obtain rfl := HA0.out
      clear HA0 oe0 oe2 oe7
      simp only [pz, Act.put, List.setIfInBounds_toArray, List.set_cons_zero, List.set_cons_succ]
      have hq := Hx7.out
      rw [HE.out] at hq
      have HQ := Lib.hid hq
      clear hq
      go_wp2
      go_roundw
      case rel => exact ⟨k + 1, by go_num, by omega, by omega, (HQ.out.widen (by intro b h1; rcases h1 with h1 | h1 | h1 <;> first | exact Or.inl h1 | (right; omega)) (Nat.le_refl _)), ((HS2.out.mod Cx6.out (fun _ _ h => h)).mod Cx8.out (by intro k h1 h2; rcases h2 with h2 | h2 <;> first | omega | (have hb := HBT.out k h1; omega) | (have hb := HBR.out k h2; omega) | exact HDJ.out k h1 h2 | exact HDJ.out k h2 h1 | (have hb := HBT.out k h1; have hb2 := HBR.out k h2; omega))), ((HM2.out.trans Cx6.out (fun _ _ h => h.elim)).trans Cx8.out (by intro k h1 h2; rcases h2 with h2 | h2 <;> first | exact h2 | omega | (have hb := HBR.out k h2; omega)))⟩
      case measure => simp [intOf]; omega
    · have hkk : k = l.length := by omega
      subst hkk
      go_wp2
      go_end0
      have hq := HW2.out
      rw [List.take_length] at hq
      exact ⟨rfl, hq, HM2.out⟩
end Go.Proofs.Ytpnikilkcifncaa

/- Messages: their cells, what reads as one, their bytes. No walk here. -/
namespace Go.Proofs.Ytpnikilkcifncaa
open Go Go.RowKit Go.Gv

/-- a decided round -/
structure Dc where
  ep : Int
  rn : Int
  ba : Ba
  l : List Vt
abbrev Dc.cells (x : Dc) (v_ps v_os v_ts v_l : Value) : List Value := [.int .i64 x.ep, .int .i64 x.rn, .int .i64 x.ba.ep, .int .u64 (x.ba.tm : Nat), v_ps, v_os, v_ts, v_l]
def Dc.OK (x : Dc) : Prop := I64 x.ep ∧ I64 x.rn ∧ x.ba.OK
def Dc.rd (R : Nat → Prop) (w : World) (cs : List Value) (x : Dc) : Prop := ∃ v_ps v_os v_ts v_l, cs = x.cells v_ps v_os v_ts v_l ∧ x.OK ∧ RdS PmR R w v_ps x.ba.ps ∧ RdS OpR R w v_os x.ba.os ∧ RdS TbR R w v_ts x.ba.ts ∧ RdS VtR R w v_l x.l
def DcR : Rep Dc where
  sz := 8
  pos := by decide
  rd := Dc.rd
  len h := by
    obtain ⟨v_ps, v_os, v_ts, v_l, rfl, hok, h0, h1, h2, h3⟩ := h
    rfl
  one h := by
    obtain ⟨v_ps, v_os, v_ts, v_l, rfl, hok, h0, h1, h2, h3⟩ := h
    obtain ⟨_, _, e_ps⟩ := h0.shape
    obtain ⟨_, _, e_os⟩ := h1.shape
    obtain ⟨_, _, e_ts⟩ := h2.shape
    obtain ⟨_, _, e_l⟩ := h3.shape
    subst e_ps e_os e_ts e_l
    intro u hu
    simp only [Dc.cells, List.mem_append, List.mem_cons, List.not_mem_nil, or_false, List.mem_map] at hu
    rcases hu with rfl | rfl | rfl | rfl | rfl | rfl | rfl | rfl <;> rfl
  keep h hk := by
    obtain ⟨v_ps, v_os, v_ts, v_l, rfl, hok, h0, h1, h2, h3⟩ := h
    exact ⟨_, _, _, _, rfl, hok, h0.keep hk, h1.keep hk, h2.keep hk, h3.keep hk⟩
  wid h hs := by
    obtain ⟨v_ps, v_os, v_ts, v_l, rfl, hok, h0, h1, h2, h3⟩ := h
    exact ⟨_, _, _, _, rfl, hok, h0.widen hs, h1.widen hs, h2.widen hs, h3.widen hs⟩
  tight h := by
    obtain ⟨v_ps, v_os, v_ts, v_l, rfl, hok, h0, h1, h2, h3⟩ := h
    exact ⟨_, _, _, _, rfl, hok, h0.tight, h1.tight, h2.tight, h3.tight⟩

/-- a message -/
structure Mg where
  kd : Int
  fr : Int
  to : Int
  cm : Cm
  st : St
  ce : Ce
  ak : St
  ep : Int
  rn : Int
  tm : Nat
  pm : Pm
  pr : Pr
  vt : Vt
  ix : Int
  en : En
  op : Op
  dn : Dn
  rp : ByteArray
  dc : Dc
/-- its cells, part by part -/
def Mg.segs (x : Mg) (c5 c10 c11 c15 c18 : List Value) : List (List Value) := [[.int .i64 x.kd], [.int .i64 x.fr], [.int .i64 x.to], x.cm.cells, x.st.cells, c5, x.ak.cells, [.int .i64 x.ep], [.int .i64 x.rn], [.int .u64 (x.tm : Nat)], c10, c11, x.vt.cells, [.int .i64 x.ix], x.en.cells, c15, x.dn.cells, [.string x.rp], c18]
structure Mg.OK (x : Mg) : Prop where
  kd : I64 x.kd
  fr : I64 x.fr
  to : I64 x.to
  cm : x.cm.OK
  st : x.st.OK
  ak : x.ak.OK
  ep : I64 x.ep
  rn : I64 x.rn
  tm : x.tm < U64
  vt : x.vt.OK
  ix : I64 x.ix
  en : x.en.OK
  dn : x.dn.OK
abbrev mgN : List Nat := [1, 1, 1, 37, 38, 38, 38, 1, 1, 1, 6, 11, 38, 1, 35, 34, 4, 1, 8]
theorem Mg.lens {x : Mg} (h : x.OK) {c5 c10 c11 c15 c18 : List Value} (h5 : c5.length = 38) (h10 : c10.length = 6) (h11 : c11.length = 11) (h15 : c15.length = 34) (h18 : c18.length = 8) : (x.segs c5 c10 c11 c15 c18).map List.length = mgN := by
  simp only [Mg.segs, List.map_cons, List.map_nil, h5, h10, h11, h15, h18, Cm.len h.cm.2.1, St.len h.st, St.len h.ak, Vt.len h.vt, En.len h.en, List.length_cons, List.length_nil]
def Mg.rd (R : Nat → Prop) (w : World) (cs : List Value) (x : Mg) : Prop := ∃ c5 c10 c11 c15 c18, cs = (x.segs c5 c10 c11 c15 c18).flatten ∧ x.OK ∧ CeR.rd R w c5 x.ce ∧ PmR.rd R w c10 x.pm ∧ PrR.rd R w c11 x.pr ∧ OpR.rd R w c15 x.op ∧ DcR.rd R w c18 x.dc
theorem Mg.lns {x : Mg} (h : x.OK) {R R2 R3 R4 R5 : Nat → Prop} {w w2 w3 w4 w5 : World} {c5 c10 c11 c15 c18 : List Value} (h5 : CeR.rd R w c5 x.ce) (h10 : PmR.rd R2 w2 c10 x.pm) (h11 : PrR.rd R3 w3 c11 x.pr) (h15 : OpR.rd R4 w4 c15 x.op) (h18 : DcR.rd R5 w5 c18 x.dc) : (x.segs c5 c10 c11 c15 c18).map List.length = mgN :=
  Mg.lens h (CeR.len h5) (PmR.len h10) (PrR.len h11) (OpR.len h15) (DcR.len h18)
theorem flat_sum (l : List (List Value)) : l.flatten.length = (l.map List.length).sum := by rw [List.length_flatten]
def MgR : Rep Mg where
  sz := 295
  pos := by decide
  rd := Mg.rd
  len h := by
    obtain ⟨c5, c10, c11, c15, c18, rfl, hok, h5, h10, h11, h15, h18⟩ := h
    rw [flat_sum, Mg.lns hok h5 h10 h11 h15 h18]
    rfl
  one h := by
    obtain ⟨c5, c10, c11, c15, c18, rfl, hok, h5, h10, h11, h15, h18⟩ := h
    intro u hu
    obtain ⟨s, hs, hv⟩ := List.mem_flatten.1 hu
    simp only [Mg.segs, List.mem_cons, List.not_mem_nil, or_false] at hs
    rcases hs with rfl | rfl | rfl | rfl | rfl | rfl | rfl | rfl | rfl | rfl | rfl | rfl | rfl | rfl | rfl | rfl | rfl | rfl | rfl
    · rw [List.mem_singleton] at hv; rw [hv]; rfl
    · rw [List.mem_singleton] at hv; rw [hv]; rfl
    · rw [List.mem_singleton] at hv; rw [hv]; rfl
    · exact Cm_one _ _ hv
    · exact St.one _ _ hv
    · exact CeR.one h5 _ hv
    · exact St.one _ _ hv
    · rw [List.mem_singleton] at hv; rw [hv]; rfl
    · rw [List.mem_singleton] at hv; rw [hv]; rfl
    · rw [List.mem_singleton] at hv; rw [hv]; rfl
    · exact PmR.one h10 _ hv
    · exact PrR.one h11 _ hv
    · exact Vt.one _ _ hv
    · rw [List.mem_singleton] at hv; rw [hv]; rfl
    · exact En.one _ _ hv
    · exact OpR.one h15 _ hv
    · exact Dn.one _ _ hv
    · rw [List.mem_singleton] at hv; rw [hv]; rfl
    · exact DcR.one h18 _ hv
  keep h hk := by
    obtain ⟨c5, c10, c11, c15, c18, rfl, hok, h5, h10, h11, h15, h18⟩ := h
    exact ⟨_, _, _, _, _, rfl, hok, CeR.keep h5 hk, PmR.keep h10 hk, PrR.keep h11 hk, OpR.keep h15 hk, DcR.keep h18 hk⟩
  wid h hs := by
    obtain ⟨c5, c10, c11, c15, c18, rfl, hok, h5, h10, h11, h15, h18⟩ := h
    exact ⟨_, _, _, _, _, rfl, hok, CeR.wid h5 hs, PmR.wid h10 hs, PrR.wid h11 hs, OpR.wid h15 hs, DcR.wid h18 hs⟩
  tight h := by
    obtain ⟨c5, c10, c11, c15, c18, rfl, hok, h5, h10, h11, h15, h18⟩ := h
    exact ⟨_, _, _, _, _, rfl, hok, CeR.tight h5, PmR.tight h10, PrR.tight h11, OpR.tight h15, DcR.tight h18⟩
theorem Cs.segA {w : World} {g : Nat} {T : TypeId} {segs : List (List Value)} (h : Cs w g segs.flatten.toArray T) {ns : List Nat} (hn : segs.map List.length = ns) (i : Nat) {seg : List Value} (hs : segs[i]? = some seg) {off o k : Nat} {M : List Value} (ho : (ns.take i).sum = o) (hk : off = o + k) (hM : (seg.drop k).take M.length = M) : ∀ j u, M[j]? = some u → w.cell? ⟨g, off + j, none⟩ = some u := by
  intro j u hu
  subst hk
  rw [Nat.add_assoc]
  refine Cs.seg h hn i hs ho (k + j) u ?_
  rw [← hM, List.getElem?_take] at hu
  split at hu
  · rw [List.getElem?_drop] at hu; exact hu
  · cases hu
/-- what a message's kind names -/
def dcB (d : Dc) : List Int := encI d.ep ++ encI d.rn ++ baB d.ba ++ listB vtB d.l
def bodyB (x : Mg) : List Int :=
  if x.kd = 1 then cmB x.cm else
  if x.kd = 2 then stB x.st else
  if x.kd = 3 then ceB x.ce else
  if x.kd = 4 then stB x.ak else
  if x.kd = 5 then encI x.ep ++ encI x.rn ++ encN x.tm else
  if x.kd = 6 then pmB x.pm else
  if x.kd = 7 then prB x.pr else
  if x.kd = 8 then vtB x.vt else
  if x.kd = 9 then encI x.ix ++ enB x.en else
  if x.kd = 10 then opB x.op else
  if x.kd = 11 then encI x.ix else
  if x.kd = 12 then dnB x.dn else
  if x.kd = 13 then encI x.ix ++ (encN (bytesOf x.rp).length ++ bytesOf x.rp) else
  if x.kd = 14 then dcB x.dc else []
theorem eq_tt {a b : Int} (h : a = b) : (a == b) = true := by simp [h]
theorem eq_ff {a b : Int} (h : ¬ a = b) : (a == b) = false := by simp [h]
def okKd (k : Int) : Bool := decide (1 ≤ k ∧ k ≤ 14)
def packB (x : Mg) : List Int := encI x.kd ++ encI x.fr ++ encI x.to ++ bodyB x
def packs (x : Mg) : Bool := okKd x.kd && decide ((packB x).length ≤ 65536)
end Go.Proofs.Ytpnikilkcifncaa

/- More parts of messages, read. -/
namespace Go.Proofs.Ytpnikilkcifncaa
open Go Go.RowKit Go.Gv

def gPr : RSt → Pr × RSt := gb gI fun e => gb gI fun n => gb gI fun v => gb gI fun p => gb gBa fun b => gb gSig fun g s => (⟨e, n, v - 1, p, b, g.1, g.2⟩, s)
end Go.Proofs.Ytpnikilkcifncaa

/- The message that is nothing. No walk here. -/
namespace Go.Proofs.Ytpnikilkcifncaa
open Go Go.RowKit Go.Gv

def zH32 : List Int := List.replicate 32 0
def zCm : Cm := ⟨0, 0, zH32, 0, 0, 0⟩
def zSt : St := ⟨0, 0, 0, zH32, 0, 0, 0⟩
def zPr : Pr := ⟨0, 0, 0, 0, zBa, 0, 0⟩
def zVt : Vt := ⟨0, 0, 0, 0, zH32, 0, 0⟩
def zEn : En := ⟨0, 0, zH32, 0⟩
def zOp : Op := ⟨0, [], zH32⟩
def zDn : Dn := ⟨0, 0, 0, 0⟩
def zDc : Dc := ⟨0, 0, zBa, []⟩
def zMg : Mg := ⟨0, 0, 0, zCm, zSt, zCe, zSt, 0, 0, 0, zPm, zPr, zVt, 0, zEn, zOp, zDn, ByteArray.empty, zDc⟩
theorem zCm_OK : zCm.OK := ⟨⟨I64_0, I64_0, I64_0, I64_0, I64_0⟩, HK_zero⟩
theorem zSt_OK : zSt.OK := ⟨I64_0, I64_0, I64_0, HK_zero, U64_0, I64_0, I64_0⟩
theorem zVt_OK : zVt.OK := ⟨I64_0, I64_0, I64_0, I64_0, HK_zero, I64_0, I64_0⟩
theorem zEn_OK : zEn.OK := ⟨I64_0, I64_0, HK_zero, U64_0⟩
theorem zDn_OK : zDn.OK := ⟨I64_0, I64_0, I64_0, I64_0⟩
theorem zMg_OK : zMg.OK := ⟨I64_0, I64_0, I64_0, zCm_OK, zSt_OK, zSt_OK, I64_0, I64_0, U64_0, zVt_OK, I64_0, zEn_OK, zDn_OK⟩
abbrev zS : Value := .slice none 0 0
def mg0 (k f t : Int) : Mg := { zMg with kd := k, fr := f, to := t }
/-- a message's cells with nothing in it but its kind, whom it is from and to -/
def mg0C (k f t : Int) : List Value := ((mg0 k f t).segs (zCe.cells zS) (zPm.cells zS) (zPr.cells zS zS zS) (zOp.cells zS) (zDc.cells zS zS zS zS)).flatten
theorem mg0_rd {k f t : Int} (hk : I64 k) (hf : I64 f) (ht : I64 t) (R : Nat → Prop) (w : World) : MgR.rd R w (mg0C k f t) (mg0 k f t) :=
  ⟨_, _, _, _, _, rfl, { zMg_OK with kd := hk, fr := hf, to := ht }, zCe_rd _ _, zPm_rd _ _, ⟨_, _, _, rfl, ⟨I64_0, I64_0, I64_0, I64_0, zBa_OK, I64_0, I64_0⟩, RdS.nil _ _ _, RdS.nil _ _ _, RdS.nil _ _ _⟩,
    ⟨_, rfl, ⟨I64_0, HK_zero⟩, ⟨⟨(fun b hb => by cases hb), Rd.nil _ _⟩, (fun h => absurd h (show ¬ 0 < ([] : List Int).length by decide)), Nat.le_refl _⟩⟩, ⟨_, _, _, _, rfl, ⟨I64_0, I64_0, zBa_OK⟩, RdS.nil _ _ _, RdS.nil _ _ _, RdS.nil _ _ _, RdS.nil _ _ _⟩⟩
end Go.Proofs.Ytpnikilkcifncaa

/- msgs.get. -/
namespace Go.Proofs.Ytpnikilkcifncaa
open Go Go.RowKit Go.Gv


/-- what is read of a message, behind its kind, whom it is from and to -/
def gBody (m : Mg) (s : RSt) : Mg × RSt :=
  if m.kd = 1 then gb gCm (fun c s => ({ m with cm := c }, s)) s else
  if m.kd = 2 then gb gSt (fun c s => ({ m with st := c }, s)) s else
  if m.kd = 3 then gb gCe (fun c s => ({ m with ce := c }, s)) s else
  if m.kd = 4 then gb gSt (fun c s => ({ m with ak := c }, s)) s else
  if m.kd = 5 then gb gI (fun a => gb gI fun b => gb rNum fun c s => ({ m with ep := a, rn := b, tm := c }, s)) s else
  if m.kd = 6 then gb gPm (fun c s => ({ m with pm := c }, s)) s else
  if m.kd = 7 then gb gPr (fun c s => ({ m with pr := c }, s)) s else
  if m.kd = 8 then gb gVt (fun c s => ({ m with vt := c }, s)) s else
  if m.kd = 9 then gb gI (fun a => gb gEn fun c s => ({ m with ix := a, en := c }, s)) s else
  if m.kd = 10 then gb gOp (fun c s => ({ m with op := c }, s)) s else
  if m.kd = 11 then gb gI (fun c s => ({ m with ix := c }, s)) s else
  if m.kd = 12 then gb gDn (fun c s => ({ m with dn := c }, s)) s else
  if m.kd = 13 then gb gI (fun a => gb (rRow 256) fun b s => ({ m with ix := a, rp := strOfNums b }, s)) s else
  if m.kd = 14 then gb gI (fun a => gb gI fun b => gb gBa fun c => gb (gList gVt) fun l s => ({ m with dc := ⟨a, b, c, l⟩ }, s)) s else (m, s)
def gMg : RSt → Mg × RSt := gb gI fun k => gb gI fun f => gb gI fun t => gBody { zMg with kd := k, fr := f, to := t }
end Go.Proofs.Ytpnikilkcifncaa

/- What is read of a message was packed so; what was packed is read as it was, but for what its kind does not name. No walk here. -/
namespace Go.Proofs.Ytpnikilkcifncaa
open Go Go.RowKit Go.Gv

theorem str_bytesOf (s : ByteArray) : strOfNums (bytesOf s) = s := by
  unfold bytesOf strOfNums
  congr 1
  simp only [List.map_map]
  apply Array.toList_inj.1
  show List.map _ s.data.toList = s.data.toList
  conv => rhs; rw [← List.map_id s.data.toList]
  refine List.map_congr_left fun x hx => ?_
  simp [Function.comp]
def PrOk (x : Pr) : Prop := UpI x.ep ∧ UpI x.rn ∧ UpI (x.vl + 1) ∧ UpI x.rp ∧ BaOk x.ba ∧ UpI x.sb ∧ UpI x.mr
theorem vl_wrap {v : Int} (h : UpI (v + 1)) : IntKind.i64.wrap (v + 1) = v + 1 := IntWalk.i64_in _ (by unfold UpI at h; omega)
theorem gPr_ed : Ed gPr prB PrOk := by
  intro x r h
  obtain ⟨he, hn, hv, hp, hb, h1, h2⟩ := h
  obtain ⟨ep, rn, vl, rp, ba, sb, mr⟩ := x
  simp only [gPr, gb, prB, ← sgB_sig, List.append_assoc, vl_wrap hv, gI_ed _ _ he, gI_ed _ _ hn, gI_ed _ _ hv, gI_ed _ _ hp, gBa_ed _ _ hb, gSig_ed (sb, mr) _ ⟨h1, h2⟩]
  congr 2
  omega
/-- what a message's kind names is within bounds -/
def BodyOk (x : Mg) : Prop :=
  if x.kd = 1 then CmOk x.cm else
  if x.kd = 2 then StOk x.st else
  if x.kd = 3 then CeOk x.ce else
  if x.kd = 4 then StOk x.ak else
  if x.kd = 5 then UpI x.ep ∧ UpI x.rn ∧ x.tm < U64 else
  if x.kd = 6 then PmOk x.pm else
  if x.kd = 7 then PrOk x.pr else
  if x.kd = 8 then VtOk x.vt else
  if x.kd = 9 then UpI x.ix ∧ EnOk x.en else
  if x.kd = 10 then OpOk x.op else
  if x.kd = 11 then UpI x.ix else
  if x.kd = 12 then DnOk x.dn else
  if x.kd = 13 then UpI x.ix ∧ ((bytesOf x.rp).length : Int) ≤ 256 else
  if x.kd = 14 then UpI x.dc.ep ∧ UpI x.dc.rn ∧ BaOk x.dc.ba ∧ listOk VtOk x.dc.l else
  True
/-- a message with what its kind names alone -/
def onlyM (x : Mg) : Mg :=
  if x.kd = 1 then { mg0 x.kd x.fr x.to with cm := x.cm } else
  if x.kd = 2 then { mg0 x.kd x.fr x.to with st := x.st } else
  if x.kd = 3 then { mg0 x.kd x.fr x.to with ce := x.ce } else
  if x.kd = 4 then { mg0 x.kd x.fr x.to with ak := x.ak } else
  if x.kd = 5 then { mg0 x.kd x.fr x.to with ep := x.ep, rn := x.rn, tm := x.tm } else
  if x.kd = 6 then { mg0 x.kd x.fr x.to with pm := x.pm } else
  if x.kd = 7 then { mg0 x.kd x.fr x.to with pr := x.pr } else
  if x.kd = 8 then { mg0 x.kd x.fr x.to with vt := x.vt } else
  if x.kd = 9 then { mg0 x.kd x.fr x.to with ix := x.ix, en := x.en } else
  if x.kd = 10 then { mg0 x.kd x.fr x.to with op := x.op } else
  if x.kd = 11 then { mg0 x.kd x.fr x.to with ix := x.ix } else
  if x.kd = 12 then { mg0 x.kd x.fr x.to with dn := x.dn } else
  if x.kd = 13 then { mg0 x.kd x.fr x.to with ix := x.ix, rp := x.rp } else
  if x.kd = 14 then { mg0 x.kd x.fr x.to with dc := x.dc } else
  zMg
def MgOk (x : Mg) : Prop := UpI x.kd ∧ UpI x.fr ∧ UpI x.to ∧ BodyOk x
theorem gBody_ed (x : Mg) (r : List Int) (h : BodyOk x) (hk : okKd x.kd = true) : gBody (mg0 x.kd x.fr x.to) (some (bodyB x ++ r)) = (onlyM x, some r) := by
  have hq : 1 ≤ x.kd ∧ x.kd ≤ 14 := by unfold okKd at hk; simpa using hk
  unfold BodyOk at h
  unfold gBody bodyB onlyM
  by_cases h1 : x.kd = 1
  · rw [if_pos h1] at h
    have k0 := h
    rw [if_pos h1, if_pos (show (mg0 x.kd x.fr x.to).kd = 1 from h1), if_pos h1]
    simp only [gb, List.append_assoc, gCm_ed _ _ k0]
  by_cases h2 : x.kd = 2
  · rw [if_neg h1, if_pos h2] at h
    have k0 := h
    rw [if_neg h1, if_pos h2, if_neg (show ¬ (mg0 x.kd x.fr x.to).kd = 1 from h1), if_pos (show (mg0 x.kd x.fr x.to).kd = 2 from h2), if_neg h1, if_pos h2]
    simp only [gb, List.append_assoc, gSt_ed _ _ k0]
  by_cases h3 : x.kd = 3
  · rw [if_neg h1, if_neg h2, if_pos h3] at h
    have k0 := h
    rw [if_neg h1, if_neg h2, if_pos h3, if_neg (show ¬ (mg0 x.kd x.fr x.to).kd = 1 from h1), if_neg (show ¬ (mg0 x.kd x.fr x.to).kd = 2 from h2), if_pos (show (mg0 x.kd x.fr x.to).kd = 3 from h3), if_neg h1, if_neg h2, if_pos h3]
    simp only [gb, List.append_assoc, gCe_ed _ _ k0]
  by_cases h4 : x.kd = 4
  · rw [if_neg h1, if_neg h2, if_neg h3, if_pos h4] at h
    have k0 := h
    rw [if_neg h1, if_neg h2, if_neg h3, if_pos h4, if_neg (show ¬ (mg0 x.kd x.fr x.to).kd = 1 from h1), if_neg (show ¬ (mg0 x.kd x.fr x.to).kd = 2 from h2), if_neg (show ¬ (mg0 x.kd x.fr x.to).kd = 3 from h3), if_pos (show (mg0 x.kd x.fr x.to).kd = 4 from h4), if_neg h1, if_neg h2, if_neg h3, if_pos h4]
    simp only [gb, List.append_assoc, gSt_ed _ _ k0]
  by_cases h5 : x.kd = 5
  · rw [if_neg h1, if_neg h2, if_neg h3, if_neg h4, if_pos h5] at h
    obtain ⟨k0, k1, k2⟩ := h
    rw [if_neg h1, if_neg h2, if_neg h3, if_neg h4, if_pos h5, if_neg (show ¬ (mg0 x.kd x.fr x.to).kd = 1 from h1), if_neg (show ¬ (mg0 x.kd x.fr x.to).kd = 2 from h2), if_neg (show ¬ (mg0 x.kd x.fr x.to).kd = 3 from h3), if_neg (show ¬ (mg0 x.kd x.fr x.to).kd = 4 from h4), if_pos (show (mg0 x.kd x.fr x.to).kd = 5 from h5), if_neg h1, if_neg h2, if_neg h3, if_neg h4, if_pos h5]
    simp only [gb, List.append_assoc, gI_ed _ _ k0, gI_ed _ _ k1, rNum_ed _ _ k2]
  by_cases h6 : x.kd = 6
  · rw [if_neg h1, if_neg h2, if_neg h3, if_neg h4, if_neg h5, if_pos h6] at h
    have k0 := h
    rw [if_neg h1, if_neg h2, if_neg h3, if_neg h4, if_neg h5, if_pos h6, if_neg (show ¬ (mg0 x.kd x.fr x.to).kd = 1 from h1), if_neg (show ¬ (mg0 x.kd x.fr x.to).kd = 2 from h2), if_neg (show ¬ (mg0 x.kd x.fr x.to).kd = 3 from h3), if_neg (show ¬ (mg0 x.kd x.fr x.to).kd = 4 from h4), if_neg (show ¬ (mg0 x.kd x.fr x.to).kd = 5 from h5), if_pos (show (mg0 x.kd x.fr x.to).kd = 6 from h6), if_neg h1, if_neg h2, if_neg h3, if_neg h4, if_neg h5, if_pos h6]
    simp only [gb, List.append_assoc, gPm_ed _ _ k0]
  by_cases h7 : x.kd = 7
  · rw [if_neg h1, if_neg h2, if_neg h3, if_neg h4, if_neg h5, if_neg h6, if_pos h7] at h
    have k0 := h
    rw [if_neg h1, if_neg h2, if_neg h3, if_neg h4, if_neg h5, if_neg h6, if_pos h7, if_neg (show ¬ (mg0 x.kd x.fr x.to).kd = 1 from h1), if_neg (show ¬ (mg0 x.kd x.fr x.to).kd = 2 from h2), if_neg (show ¬ (mg0 x.kd x.fr x.to).kd = 3 from h3), if_neg (show ¬ (mg0 x.kd x.fr x.to).kd = 4 from h4), if_neg (show ¬ (mg0 x.kd x.fr x.to).kd = 5 from h5), if_neg (show ¬ (mg0 x.kd x.fr x.to).kd = 6 from h6), if_pos (show (mg0 x.kd x.fr x.to).kd = 7 from h7), if_neg h1, if_neg h2, if_neg h3, if_neg h4, if_neg h5, if_neg h6, if_pos h7]
    simp only [gb, List.append_assoc, gPr_ed _ _ k0]
  by_cases h8 : x.kd = 8
  · rw [if_neg h1, if_neg h2, if_neg h3, if_neg h4, if_neg h5, if_neg h6, if_neg h7, if_pos h8] at h
    have k0 := h
    rw [if_neg h1, if_neg h2, if_neg h3, if_neg h4, if_neg h5, if_neg h6, if_neg h7, if_pos h8, if_neg (show ¬ (mg0 x.kd x.fr x.to).kd = 1 from h1), if_neg (show ¬ (mg0 x.kd x.fr x.to).kd = 2 from h2), if_neg (show ¬ (mg0 x.kd x.fr x.to).kd = 3 from h3), if_neg (show ¬ (mg0 x.kd x.fr x.to).kd = 4 from h4), if_neg (show ¬ (mg0 x.kd x.fr x.to).kd = 5 from h5), if_neg (show ¬ (mg0 x.kd x.fr x.to).kd = 6 from h6), if_neg (show ¬ (mg0 x.kd x.fr x.to).kd = 7 from h7), if_pos (show (mg0 x.kd x.fr x.to).kd = 8 from h8), if_neg h1, if_neg h2, if_neg h3, if_neg h4, if_neg h5, if_neg h6, if_neg h7, if_pos h8]
    simp only [gb, List.append_assoc, gVt_ed _ _ k0]
  by_cases h9 : x.kd = 9
  · rw [if_neg h1, if_neg h2, if_neg h3, if_neg h4, if_neg h5, if_neg h6, if_neg h7, if_neg h8, if_pos h9] at h
    obtain ⟨k0, k1⟩ := h
    rw [if_neg h1, if_neg h2, if_neg h3, if_neg h4, if_neg h5, if_neg h6, if_neg h7, if_neg h8, if_pos h9, if_neg (show ¬ (mg0 x.kd x.fr x.to).kd = 1 from h1), if_neg (show ¬ (mg0 x.kd x.fr x.to).kd = 2 from h2), if_neg (show ¬ (mg0 x.kd x.fr x.to).kd = 3 from h3), if_neg (show ¬ (mg0 x.kd x.fr x.to).kd = 4 from h4), if_neg (show ¬ (mg0 x.kd x.fr x.to).kd = 5 from h5), if_neg (show ¬ (mg0 x.kd x.fr x.to).kd = 6 from h6), if_neg (show ¬ (mg0 x.kd x.fr x.to).kd = 7 from h7), if_neg (show ¬ (mg0 x.kd x.fr x.to).kd = 8 from h8), if_pos (show (mg0 x.kd x.fr x.to).kd = 9 from h9), if_neg h1, if_neg h2, if_neg h3, if_neg h4, if_neg h5, if_neg h6, if_neg h7, if_neg h8, if_pos h9]
    simp only [gb, List.append_assoc, gI_ed _ _ k0, gEn_ed _ _ k1]
  by_cases h10 : x.kd = 10
  · rw [if_neg h1, if_neg h2, if_neg h3, if_neg h4, if_neg h5, if_neg h6, if_neg h7, if_neg h8, if_neg h9, if_pos h10] at h
    have k0 := h
    rw [if_neg h1, if_neg h2, if_neg h3, if_neg h4, if_neg h5, if_neg h6, if_neg h7, if_neg h8, if_neg h9, if_pos h10, if_neg (show ¬ (mg0 x.kd x.fr x.to).kd = 1 from h1), if_neg (show ¬ (mg0 x.kd x.fr x.to).kd = 2 from h2), if_neg (show ¬ (mg0 x.kd x.fr x.to).kd = 3 from h3), if_neg (show ¬ (mg0 x.kd x.fr x.to).kd = 4 from h4), if_neg (show ¬ (mg0 x.kd x.fr x.to).kd = 5 from h5), if_neg (show ¬ (mg0 x.kd x.fr x.to).kd = 6 from h6), if_neg (show ¬ (mg0 x.kd x.fr x.to).kd = 7 from h7), if_neg (show ¬ (mg0 x.kd x.fr x.to).kd = 8 from h8), if_neg (show ¬ (mg0 x.kd x.fr x.to).kd = 9 from h9), if_pos (show (mg0 x.kd x.fr x.to).kd = 10 from h10), if_neg h1, if_neg h2, if_neg h3, if_neg h4, if_neg h5, if_neg h6, if_neg h7, if_neg h8, if_neg h9, if_pos h10]
    simp only [gb, List.append_assoc, gOp_ed _ _ k0]
  by_cases h11 : x.kd = 11
  · rw [if_neg h1, if_neg h2, if_neg h3, if_neg h4, if_neg h5, if_neg h6, if_neg h7, if_neg h8, if_neg h9, if_neg h10, if_pos h11] at h
    have k0 := h
    rw [if_neg h1, if_neg h2, if_neg h3, if_neg h4, if_neg h5, if_neg h6, if_neg h7, if_neg h8, if_neg h9, if_neg h10, if_pos h11, if_neg (show ¬ (mg0 x.kd x.fr x.to).kd = 1 from h1), if_neg (show ¬ (mg0 x.kd x.fr x.to).kd = 2 from h2), if_neg (show ¬ (mg0 x.kd x.fr x.to).kd = 3 from h3), if_neg (show ¬ (mg0 x.kd x.fr x.to).kd = 4 from h4), if_neg (show ¬ (mg0 x.kd x.fr x.to).kd = 5 from h5), if_neg (show ¬ (mg0 x.kd x.fr x.to).kd = 6 from h6), if_neg (show ¬ (mg0 x.kd x.fr x.to).kd = 7 from h7), if_neg (show ¬ (mg0 x.kd x.fr x.to).kd = 8 from h8), if_neg (show ¬ (mg0 x.kd x.fr x.to).kd = 9 from h9), if_neg (show ¬ (mg0 x.kd x.fr x.to).kd = 10 from h10), if_pos (show (mg0 x.kd x.fr x.to).kd = 11 from h11), if_neg h1, if_neg h2, if_neg h3, if_neg h4, if_neg h5, if_neg h6, if_neg h7, if_neg h8, if_neg h9, if_neg h10, if_pos h11]
    simp only [gb, List.append_assoc, gI_ed _ _ k0]
  by_cases h12 : x.kd = 12
  · rw [if_neg h1, if_neg h2, if_neg h3, if_neg h4, if_neg h5, if_neg h6, if_neg h7, if_neg h8, if_neg h9, if_neg h10, if_neg h11, if_pos h12] at h
    have k0 := h
    rw [if_neg h1, if_neg h2, if_neg h3, if_neg h4, if_neg h5, if_neg h6, if_neg h7, if_neg h8, if_neg h9, if_neg h10, if_neg h11, if_pos h12, if_neg (show ¬ (mg0 x.kd x.fr x.to).kd = 1 from h1), if_neg (show ¬ (mg0 x.kd x.fr x.to).kd = 2 from h2), if_neg (show ¬ (mg0 x.kd x.fr x.to).kd = 3 from h3), if_neg (show ¬ (mg0 x.kd x.fr x.to).kd = 4 from h4), if_neg (show ¬ (mg0 x.kd x.fr x.to).kd = 5 from h5), if_neg (show ¬ (mg0 x.kd x.fr x.to).kd = 6 from h6), if_neg (show ¬ (mg0 x.kd x.fr x.to).kd = 7 from h7), if_neg (show ¬ (mg0 x.kd x.fr x.to).kd = 8 from h8), if_neg (show ¬ (mg0 x.kd x.fr x.to).kd = 9 from h9), if_neg (show ¬ (mg0 x.kd x.fr x.to).kd = 10 from h10), if_neg (show ¬ (mg0 x.kd x.fr x.to).kd = 11 from h11), if_pos (show (mg0 x.kd x.fr x.to).kd = 12 from h12), if_neg h1, if_neg h2, if_neg h3, if_neg h4, if_neg h5, if_neg h6, if_neg h7, if_neg h8, if_neg h9, if_neg h10, if_neg h11, if_pos h12]
    simp only [gb, List.append_assoc, gDn_ed _ _ k0]
  by_cases h13 : x.kd = 13
  · rw [if_neg h1, if_neg h2, if_neg h3, if_neg h4, if_neg h5, if_neg h6, if_neg h7, if_neg h8, if_neg h9, if_neg h10, if_neg h11, if_neg h12, if_pos h13] at h
    obtain ⟨k0, k1⟩ := h
    rw [if_neg h1, if_neg h2, if_neg h3, if_neg h4, if_neg h5, if_neg h6, if_neg h7, if_neg h8, if_neg h9, if_neg h10, if_neg h11, if_neg h12, if_pos h13, if_neg (show ¬ (mg0 x.kd x.fr x.to).kd = 1 from h1), if_neg (show ¬ (mg0 x.kd x.fr x.to).kd = 2 from h2), if_neg (show ¬ (mg0 x.kd x.fr x.to).kd = 3 from h3), if_neg (show ¬ (mg0 x.kd x.fr x.to).kd = 4 from h4), if_neg (show ¬ (mg0 x.kd x.fr x.to).kd = 5 from h5), if_neg (show ¬ (mg0 x.kd x.fr x.to).kd = 6 from h6), if_neg (show ¬ (mg0 x.kd x.fr x.to).kd = 7 from h7), if_neg (show ¬ (mg0 x.kd x.fr x.to).kd = 8 from h8), if_neg (show ¬ (mg0 x.kd x.fr x.to).kd = 9 from h9), if_neg (show ¬ (mg0 x.kd x.fr x.to).kd = 10 from h10), if_neg (show ¬ (mg0 x.kd x.fr x.to).kd = 11 from h11), if_neg (show ¬ (mg0 x.kd x.fr x.to).kd = 12 from h12), if_pos (show (mg0 x.kd x.fr x.to).kd = 13 from h13), if_neg h1, if_neg h2, if_neg h3, if_neg h4, if_neg h5, if_neg h6, if_neg h7, if_neg h8, if_neg h9, if_neg h10, if_neg h11, if_neg h12, if_pos h13]
    simp only [gb, List.append_assoc, gI_ed _ _ k0, rowx k1, str_bytesOf]
  by_cases h14 : x.kd = 14
  · rw [if_neg h1, if_neg h2, if_neg h3, if_neg h4, if_neg h5, if_neg h6, if_neg h7, if_neg h8, if_neg h9, if_neg h10, if_neg h11, if_neg h12, if_neg h13, if_pos h14] at h
    obtain ⟨k0, k1, k2, k3⟩ := h
    rw [if_neg h1, if_neg h2, if_neg h3, if_neg h4, if_neg h5, if_neg h6, if_neg h7, if_neg h8, if_neg h9, if_neg h10, if_neg h11, if_neg h12, if_neg h13, if_pos h14, if_neg (show ¬ (mg0 x.kd x.fr x.to).kd = 1 from h1), if_neg (show ¬ (mg0 x.kd x.fr x.to).kd = 2 from h2), if_neg (show ¬ (mg0 x.kd x.fr x.to).kd = 3 from h3), if_neg (show ¬ (mg0 x.kd x.fr x.to).kd = 4 from h4), if_neg (show ¬ (mg0 x.kd x.fr x.to).kd = 5 from h5), if_neg (show ¬ (mg0 x.kd x.fr x.to).kd = 6 from h6), if_neg (show ¬ (mg0 x.kd x.fr x.to).kd = 7 from h7), if_neg (show ¬ (mg0 x.kd x.fr x.to).kd = 8 from h8), if_neg (show ¬ (mg0 x.kd x.fr x.to).kd = 9 from h9), if_neg (show ¬ (mg0 x.kd x.fr x.to).kd = 10 from h10), if_neg (show ¬ (mg0 x.kd x.fr x.to).kd = 11 from h11), if_neg (show ¬ (mg0 x.kd x.fr x.to).kd = 12 from h12), if_neg (show ¬ (mg0 x.kd x.fr x.to).kd = 13 from h13), if_pos (show (mg0 x.kd x.fr x.to).kd = 14 from h14), if_neg h1, if_neg h2, if_neg h3, if_neg h4, if_neg h5, if_neg h6, if_neg h7, if_neg h8, if_neg h9, if_neg h10, if_neg h11, if_neg h12, if_neg h13, if_pos h14]
    simp only [gb, List.append_assoc, dcB, gI_ed _ _ k0, gI_ed _ _ k1, gBa_ed _ _ k2, gList_ed gVt_ed _ _ k3]
  omega
/-- what was packed is read as it was, but for what its kind does not name -/
theorem gMg_ed {x : Mg} {r : List Int} (h : MgOk x) (hk : okKd x.kd = true) : gMg (some (packB x ++ r)) = (onlyM x, some r) := by
  obtain ⟨h1, h2, h3, h4⟩ := h
  simp only [gMg, gb, packB, List.append_assoc, gI_ed _ _ h1, gI_ed _ _ h2, gI_ed _ _ h3]
  exact gBody_ed x r h4 hk
end Go.Proofs.Ytpnikilkcifncaa

/- Messages with nothing in them but their kind, whom they are from and to: packed, read back. No walk here. -/
namespace Go.Proofs.Ytpnikilkcifncaa
open Go Go.RowKit Go.Gv

theorem ite_len {c : Prop} [Decidable c] {a b : List Int} {n : Nat} (ha : a.length ≤ n) (hb : b.length ≤ n) : (if c then a else b).length ≤ n := by by_cases h : c <;> simp [h, ha, hb]
theorem encI_len5 (n : Int) (h : I64 n) : (encI n).length ≤ 10 := by
  unfold encI
  refine (encN_len10 ?_).2
  unfold I64 at h
  unfold U64
  omega
theorem up00 : UpI 0 := by unfold UpI; decide
theorem zBody_len (k f t : Int) : (bodyB (mg0 k f t)).length ≤ 500 := by
  have e0 := encI_len5 0 (by unfold I64; decide)
  have e1 := encI_len5 (IntKind.i64.wrap (0 + 1)) (I64_wrap _)
  have n0 := (encN_len10 (n := 0) (by unfold U64; decide)).2
  have el : ∀ {α : Type} (f : α → List Int), (listB f []).length ≤ 10 := fun f => by simp only [listB, List.length_append, List.map_nil, List.flatten_nil, List.length_nil]; exact e0
  have l1 := el stB
  have l2 := el ceB
  have l3 := el pmB
  have l4 := el opB
  have l5 := el tbB
  have l6 := el vtB
  have hz : zH32.length = 32 := by simp [zH32]
  have hb : (baB zBa).length ≤ 60 := by simp only [baB, zBa, List.length_append]; omega
  have hs : (stB zSt).length ≤ 150 := by simp only [stB, zSt, nameB, sigB, List.length_append]; omega
  have hc : (cmB zCm).length ≤ 150 := by simp only [cmB, zCm, nameB, sigB, List.length_append]; omega
  have hbe : (bytesOf ByteArray.empty).length = 0 := by rw [bytesOf_len]; rfl
  unfold bodyB
  refine ite_len ?_ ?_
  · exact Nat.le_trans hc (by decide)
  refine ite_len ?_ ?_
  · exact Nat.le_trans hs (by decide)
  refine ite_len ?_ ?_
  · have : (ceB zCe).length ≤ 200 := by
      have h : (cmB zCe.c).length ≤ 150 := hc
      have h2 : (listB stB zCe.l).length ≤ 10 := l1
      simp only [ceB, List.length_append]; omega
    exact Nat.le_trans this (by decide)
  refine ite_len ?_ ?_
  · exact Nat.le_trans hs (by decide)
  refine ite_len ?_ ?_
  · show (encI 0 ++ encI 0 ++ encN 0).length ≤ 500
    simp only [List.length_append]; omega
  refine ite_len ?_ ?_
  · have : (pmB zPm).length ≤ 100 := by simp only [pmB, zPm, sigB, List.length_append]; omega
    exact Nat.le_trans this (by decide)
  refine ite_len ?_ ?_
  · have : (prB zPr).length ≤ 200 := by simp only [prB, zPr, sigB, List.length_append]; omega
    exact Nat.le_trans this (by decide)
  refine ite_len ?_ ?_
  · have : (vtB zVt).length ≤ 200 := by simp only [vtB, zVt, sigB, List.length_append]; omega
    exact Nat.le_trans this (by decide)
  refine ite_len ?_ ?_
  · have : (enB zEn).length ≤ 200 := by simp only [enB, zEn, nameB, List.length_append]; omega
    show (encI 0 ++ enB zEn).length ≤ 500
    simp only [List.length_append]; omega
  refine ite_len ?_ ?_
  · have : (opB zOp).length ≤ 200 := by simp only [opB, zOp, List.length_append, List.length_nil]; omega
    exact Nat.le_trans this (by decide)
  refine ite_len ?_ ?_
  · exact Nat.le_trans e0 (by decide)
  refine ite_len ?_ ?_
  · have : (dnB zDn).length ≤ 200 := by simp only [dnB, zDn, sigB, List.length_append]; omega
    exact Nat.le_trans this (by decide)
  refine ite_len ?_ ?_
  · show (encI 0 ++ (encN (bytesOf ByteArray.empty).length ++ bytesOf ByteArray.empty)).length ≤ 500
    rw [hbe]
    simp only [List.length_append]; omega
  refine ite_len ?_ ?_
  · have : (dcB zDc).length ≤ 200 := by simp only [dcB, zDc, List.length_append]; omega
    exact Nat.le_trans this (by decide)
  exact Nat.zero_le _
theorem packB_mg0_len {k f t : Int} (hk : I64 k) (hf : I64 f) (ht : I64 t) : (packB (mg0 k f t)).length ≤ 600 := by
  have h1 := encI_len5 k hk
  have h2 := encI_len5 f hf
  have h3 := encI_len5 t ht
  have h4 := zBody_len k f t
  show (encI k ++ encI f ++ encI t ++ bodyB (mg0 k f t)).length ≤ 600
  simp only [List.length_append]; omega
theorem packs_mg0 {k f t : Int} (h : okKd k = true) (hk : I64 k) (hf : I64 f) (ht : I64 t) : packs (mg0 k f t) = true := by
  have := packB_mg0_len hk hf ht
  unfold packs
  rw [show okKd (mg0 k f t).kd = true from h, Bool.true_and, decide_eq_true_eq]
  omega
theorem packB_head {x : Mg} (h : okKd x.kd = true) : ∃ l, packB x = x.kd :: l := by
  have hq : 1 ≤ x.kd ∧ x.kd ≤ 14 := by unfold okKd at h; simpa using h
  refine ⟨encI x.fr ++ encI x.to ++ bodyB x, ?_⟩
  unfold packB
  rw [show encI x.kd = [x.kd] by unfold encI; rw [encN_lt (by omega)]; simp; omega]
  simp
end Go.Proofs.Ytpnikilkcifncaa

/- Small messages: unlike ones have unlike bytes. No walk here. -/
namespace Go.Proofs.Ytpnikilkcifncaa
open Go Go.RowKit Go.Gv

/-- the cells of a message whose lists are empty -/
def fC (m : Mg) : List Value := (m.segs (zCe.cells zS) (zPm.cells zS) (zPr.cells zS zS zS) (zOp.cells zS) (zDc.cells zS zS zS zS)).flatten
structure Flat (m : Mg) : Prop where
  ce : m.ce = zCe
  pm : m.pm = zPm
  pr : m.pr = zPr
  op : m.op = zOp
  dc : m.dc = zDc
theorem fC_rd {m : Mg} (ok : m.OK) (h : Flat m) (R : Nat → Prop) (w : World) : MgR.rd R w (fC m) m := by
  obtain ⟨c5, c10, c11, c15, c18, e, -, h5, h10, h11, h15, h18⟩ := mg0_rd (k := 0) (f := 0) (t := 0) I64_0 I64_0 I64_0 R w
  refine ⟨_, _, _, _, _, rfl, ok, ?_, ?_, ?_, ?_, ?_⟩
  · rw [h.ce]; exact zCe_rd _ _
  · rw [h.pm]; exact zPm_rd _ _
  · rw [h.pr]; exact ⟨_, _, _, rfl, ⟨I64_0, I64_0, I64_0, I64_0, zBa_OK, I64_0, I64_0⟩, RdS.nil _ _ _, RdS.nil _ _ _, RdS.nil _ _ _⟩
  · rw [h.op]; exact ⟨_, rfl, ⟨I64_0, HK_zero⟩, ⟨⟨(fun b hb => by cases hb), Rd.nil _ _⟩, (fun h => absurd h (show ¬ 0 < ([] : List Int).length by decide)), Nat.le_refl _⟩⟩
  · rw [h.dc]; exact ⟨_, _, _, _, rfl, ⟨I64_0, I64_0, zBa_OK⟩, RdS.nil _ _ _, RdS.nil _ _ _, RdS.nil _ _ _, RdS.nil _ _ _⟩
theorem fC_set (m m' : Mg) (i : Nat) (vs : List Value) (hv : mgN[i]? = some vs.length) {off : Nat} (ho : (mgN.take i).sum = off) (hl : (m.segs (zCe.cells zS) (zPm.cells zS) (zPr.cells zS zS zS) (zOp.cells zS) (zDc.cells zS zS zS zS)).map List.length = mgN)
    (he : (m.segs (zCe.cells zS) (zPm.cells zS) (zPr.cells zS zS zS) (zOp.cells zS) (zDc.cells zS zS zS zS)).set i vs = m'.segs (zCe.cells zS) (zPm.cells zS) (zPr.cells zS zS zS) (zOp.cells zS) (zDc.cells zS zS zS zS)) : lay (fC m).toArray off vs = (fC m').toArray := by
  unfold fC
  rw [lay_seg hl i hv ho, he]
theorem en_tm {x : En} (h : x.OK) : x.cells[34]? = some (.int .u64 (x.tm : Nat)) := by
  have := h.h.1
  simp [En.cells, List.getElem?_append, this]
theorem run_rem_m {P : Program} {t : TypeId} {k : IntKind} {w : World} (x y : Int) (h : y ≠ 0) : (binOp .rem t (.int k x) (.int k y)).run P w = .ok (.int k (x.tmod y)) w := by
  simp [binOp, Op.intDiv, h]
def tinyM (x : Mg) (k : Int) : Mg :=
  if k = 0 then { mg0 5 (within x.fr 3) (within x.to 3) with ep := within x.ep 3, rn := within x.rn 3, tm := x.tm % 3 } else
  if k = 1 then { mg0 11 (within x.fr 3) (within x.to 3) with ix := within x.ix 3 } else
  if k = 2 then { mg0 9 (within x.fr 3) (within x.to 3) with ix := within x.ix 3, en := ⟨0, within x.en.sq 3, zH32, x.en.tm % 3⟩ } else
  { mg0 8 (within x.fr 3) (within x.to 3) with vt := ⟨1, 0, within x.vt.rd 3, within x.vt.rp 3, zH32, 0, 0⟩ }
theorem w3 (n : Int) : 0 ≤ within n 3 ∧ within n 3 < 3 := within_range n 3 (by decide)
theorem w3_up (n : Int) : UpI (within n 3) := by have := w3 n; unfold UpI; omega
theorem w3_I (n : Int) : I64 (within n 3) := by have := w3 n; unfold I64; omega
theorem m3 (n : Nat) : n % 3 < U64 := by unfold U64; omega
theorem up1' : UpI 1 := by unfold UpI; decide
theorem I64_s {n : Int} (h1 : 0 ≤ n) (h2 : n ≤ 20) : I64 n := by unfold I64; omega
theorem UpI_s {n : Int} (h1 : 0 ≤ n) (h2 : n ≤ 20) : UpI n := by unfold UpI; omega
theorem tiny_OK (x : Mg) (k : Int) : (tinyM x k).OK := by
  unfold tinyM
  by_cases h0 : k = 0
  · rw [if_pos h0]; exact { zMg_OK with kd := I64_s (n := 5) (by decide) (by decide), fr := w3_I _, to := w3_I _, ep := w3_I _, rn := w3_I _, tm := m3 _ }
  rw [if_neg h0]
  by_cases h1 : k = 1
  · rw [if_pos h1]; exact { zMg_OK with kd := I64_s (n := 11) (by decide) (by decide), fr := w3_I _, to := w3_I _, ix := w3_I _ }
  rw [if_neg h1]
  by_cases h2 : k = 2
  · rw [if_pos h2]; exact { zMg_OK with kd := I64_s (n := 9) (by decide) (by decide), fr := w3_I _, to := w3_I _, ix := w3_I _, en := ⟨I64_0, w3_I _, HK_zero, m3 _⟩ }
  rw [if_neg h2]; exact { zMg_OK with kd := I64_s (n := 8) (by decide) (by decide), fr := w3_I _, to := w3_I _, vt := ⟨I64_s (n := 1) (by decide) (by decide), I64_0, w3_I _, w3_I _, HK_zero, I64_0, I64_0⟩ }
theorem tiny_flat (x : Mg) (k : Int) : Flat (tinyM x k) := by
  unfold tinyM
  by_cases h0 : k = 0
  · rw [if_pos h0]; exact ⟨rfl, rfl, rfl, rfl, rfl⟩
  rw [if_neg h0]
  by_cases h1 : k = 1
  · rw [if_pos h1]; exact ⟨rfl, rfl, rfl, rfl, rfl⟩
  rw [if_neg h1]
  by_cases h2 : k = 2
  · rw [if_pos h2]; exact ⟨rfl, rfl, rfl, rfl, rfl⟩
  rw [if_neg h2]; exact ⟨rfl, rfl, rfl, rfl, rfl⟩
theorem tiny_kd (x : Mg) (k : Int) : (tinyM x k).kd = (if k = 0 then 5 else if k = 1 then 11 else if k = 2 then 9 else 8) := by
  unfold tinyM
  by_cases h0 : k = 0
  · rw [if_pos h0, if_pos h0]; rfl
  rw [if_neg h0, if_neg h0]
  by_cases h1 : k = 1
  · rw [if_pos h1, if_pos h1]; rfl
  rw [if_neg h1, if_neg h1]
  by_cases h2 : k = 2
  · rw [if_pos h2, if_pos h2]; rfl
  rw [if_neg h2, if_neg h2]; rfl
theorem tiny_okKd (x : Mg) (k : Int) : okKd (tinyM x k).kd = true := by
  rw [tiny_kd]
  by_cases h0 : k = 0
  · rw [if_pos h0]; rfl
  rw [if_neg h0]
  by_cases h1 : k = 1
  · rw [if_pos h1]; rfl
  rw [if_neg h1]
  by_cases h2 : k = 2
  · rw [if_pos h2]; rfl
  rw [if_neg h2]; rfl
theorem tiny_Ok (x : Mg) (k : Int) : MgOk (tinyM x k) := by
  unfold tinyM
  by_cases h0 : k = 0
  · rw [if_pos h0]; exact ⟨UpI_s (n := 5) (by decide) (by decide), w3_up _, w3_up _, (show UpI _ ∧ UpI _ ∧ _ < U64 from ⟨w3_up _, w3_up _, m3 _⟩)⟩
  rw [if_neg h0]
  by_cases h1 : k = 1
  · rw [if_pos h1]; exact ⟨UpI_s (n := 11) (by decide) (by decide), w3_up _, w3_up _, (show UpI _ from w3_up _)⟩
  rw [if_neg h1]
  by_cases h2 : k = 2
  · rw [if_pos h2]; exact ⟨UpI_s (n := 9) (by decide) (by decide), w3_up _, w3_up _, (show UpI _ ∧ EnOk _ from ⟨w3_up _, up00, w3_up _, HK_zero, m3 _⟩)⟩
  rw [if_neg h2]; exact ⟨UpI_s (n := 8) (by decide) (by decide), w3_up _, w3_up _, (show VtOk _ from ⟨up1', up00, w3_up _, w3_up _, HK_zero, up00, up00⟩)⟩
theorem tiny_only (x : Mg) (k : Int) : onlyM (tinyM x k) = tinyM x k := by
  unfold tinyM
  by_cases h0 : k = 0
  · rw [if_pos h0]; rfl
  rw [if_neg h0]
  by_cases h1 : k = 1
  · rw [if_pos h1]; rfl
  rw [if_neg h1]
  by_cases h2 : k = 2
  · rw [if_pos h2]; rfl
  rw [if_neg h2]; rfl
theorem tiny_len (x : Mg) (k : Int) : (packB (tinyM x k)).length ≤ 600 := by
  have ei : ∀ n : Int, I64 n → (encI n).length ≤ 10 := encI_len5
  have en : ∀ n : Nat, n < U64 → (encN n).length ≤ 10 := fun n h => (encN_len10 h).2
  have a1 := ei _ (w3_I x.fr)
  have a2 := ei _ (w3_I x.to)
  have hz : zH32.length = 32 := by simp [zH32]
  have z0 := ei 0 I64_0
  have z1 := ei 1 (I64_s (by decide) (by decide))
  unfold tinyM
  by_cases h0 : k = 0
  · rw [if_pos h0]
    have b1 := ei _ (w3_I x.ep)
    have b2 := ei _ (w3_I x.rn)
    have b3 := en _ (m3 x.tm)
    have b4 := ei 5 (I64_s (by decide) (by decide))
    show (encI 5 ++ encI (within x.fr 3) ++ encI (within x.to 3) ++ (encI (within x.ep 3) ++ encI (within x.rn 3) ++ encN (x.tm % 3))).length ≤ 600
    simp only [List.length_append]; omega
  rw [if_neg h0]
  by_cases h1 : k = 1
  · rw [if_pos h1]
    have b1 := ei _ (w3_I x.ix)
    have b4 := ei 11 (I64_s (by decide) (by decide))
    show (encI 11 ++ encI (within x.fr 3) ++ encI (within x.to 3) ++ encI (within x.ix 3)).length ≤ 600
    simp only [List.length_append]; omega
  rw [if_neg h1]
  by_cases h2 : k = 2
  · rw [if_pos h2]
    have b1 := ei _ (w3_I x.ix)
    have b2 := ei _ (w3_I x.en.sq)
    have b3 := en _ (m3 x.en.tm)
    have b4 := ei 9 (I64_s (by decide) (by decide))
    show (encI 9 ++ encI (within x.fr 3) ++ encI (within x.to 3) ++ (encI (within x.ix 3) ++ (encI 0 ++ encI (within x.en.sq 3) ++ (zH32 ++ encN (x.en.tm % 3))))).length ≤ 600
    simp only [List.length_append]; omega
  rw [if_neg h2]
  have b1 := ei _ (w3_I x.vt.rd)
  have b2 := ei _ (w3_I x.vt.rp)
  have b4 := ei 8 (I64_s (by decide) (by decide))
  show (encI 8 ++ encI (within x.fr 3) ++ encI (within x.to 3) ++ (encI 1 ++ (encI 0 ++ (encI (within x.vt.rd 3) ++ (encI (within x.vt.rp 3) ++ (zH32 ++ (encI 0 ++ encI 0))))))).length ≤ 600
  simp only [List.length_append]; omega
theorem tiny_packs (x : Mg) (k : Int) : packs (tinyM x k) = true := by
  have := tiny_len x k
  unfold packs
  rw [tiny_okKd, Bool.true_and, decide_eq_true_eq]
  omega
theorem tiny_inj {x y : Mg} {k j : Int} (h : packB (tinyM x k) = packB (tinyM y j)) : tinyM x k = tinyM y j := by
  have h1 := gMg_ed (r := []) (tiny_Ok x k) (tiny_okKd x k)
  have h2 := gMg_ed (r := []) (tiny_Ok y j) (tiny_okKd y j)
  rw [h, h2, tiny_only, tiny_only] at h1
  exact (congrArg Prod.fst h1).symm
theorem tiny_unlike {x y : Mg} {k j : Int} (hk : 0 ≤ k ∧ k < 4) (hj : 0 ≤ j ∧ j < 4) (h : k ≠ j) : packB (tinyM x k) ≠ packB (tinyM y j) := by
  intro e
  have e2 := congrArg Mg.kd (tiny_inj e)
  rw [tiny_kd, tiny_kd] at e2
  have c1 : k = 0 ∨ k = 1 ∨ k = 2 ∨ k = 3 := by omega
  have c2 : j = 0 ∨ j = 1 ∨ j = 2 ∨ j = 3 := by omega
  rcases c1 with rfl | rfl | rfl | rfl <;> rcases c2 with rfl | rfl | rfl | rfl <;> first | exact h rfl | exact absurd e2 (by decide)
end Go.Proofs.Ytpnikilkcifncaa
