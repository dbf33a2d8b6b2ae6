/- Texts that are built one behind the other: XPt2, XWt1, XRf1, XRf2, XRf3, XSha6, XSha7, XVal5, XSha8, XRf4, XLens, XGp, XRead2, XRead3, XRead4, XRead5, XSeg, XGl. No condition. -/
import Derived.Test.YtpnikilkcifncaaGreatOnl3
import Derived.Lib.BytesEntry
import Derived.Laws.Externs
import Derived.Deep.Cut
set_option maxRecDepth 100000
set_option linter.unusedVariables false
open List renaming setIfInBounds_toArray → sIB, set_cons_zero → sCZ, set_cons_succ → sCS
/- Parts of messages, put as bytes. -/
namespace Go.Proofs.YtpnikilkcifncaaGreat
open Go Go.RowKit Go.Gv

set_option maxHeartbeats 4000000 in
theorem PutDn_Q : Puts DnR 113 dnB := by
 intro R R2 g bs cs x w hW hB hx hB2 hD hl
 obtain ⟨rfl, hok⟩ := hx
 have HW := Lib.hid hW
 have HBR := Lib.hid hB
 have HBT := Lib.hid hB2
 have HDJ := Lib.hid hD
 have HOK := Lib.hid hok
 have HL := Lib.hid hl
 clear hW hB hB2 hD hl hok
 unfold dnB at HL
 go_enter Tryz.func113, Tryz.ntmps113
 go_upto_region 1 with (fail)
 obtain ⟨w1, hw1⟩ : ∃ zz, zz = (w.alloc (.cells (x.cells : List Value).toArray 56)) := ⟨_, rfl⟩
 change Code.wp _ _ _ _ (w.alloc (.cells (x.cells : List Value).toArray 56))
 rw [← hw1]
 have HB3 := hid (show Cs w1 (w.heap.size) (x.cells : List Value).toArray 56 by rw [hw1]; exact Cs.new _ _ _)
 have hm : Mod (fun _ => False) w w1 := by rw [hw1]; exact (Mod.refl _ _).alloc _
 have HM0 := hid (show Mod (fun k => (R k)) w w1 from hm.mono (fun _ _ h => h.elim))
 have hs1 : w1.heap.size = w.heap.size + 1 := by rw [hw1]; simp
 have Hx1 := hid (HW.out.mod hm (fun _ _ h => h))
 clear HW
 clear hw1 hm
 go_upto_region 1 with (fail)
 generalize ha0 : Act.mk _ _ = a0
 have oe0 : a0.eval (.tmp 0) = .pointer (some ⟨g, 0, none⟩) := by rw [← ha0]; rfl
 have oe3 : a0.eval (.tmp 3) = .pointer (some ⟨w.heap.size, 0, none⟩) := by rw [← ha0]; rfl
 have hsz0 : a0.tmps.size = 15 := by rw [← ha0]; rfl
 have HA0 := hid ha0
 clear ha0
 refine wp_region_Q1 15 hsz0 [4, 5, 6, 7, 8, 9, 10] (fun k => (R k)) (fun k j => (k = 0 ∧ ((R j))) ∨ (k = 1 ∧ ((R j)))) (by intro k j h; (try dsimp only at h ⊢); rcases h with ⟨-, h⟩ | ⟨-, h⟩; (exact h); (exact h)) [qi (.pointer (some ⟨g, 0, none⟩)), qi (.pointer (some ⟨w.heap.size, 0, none⟩)), qi (.int .i64 x.rp), qi (.pointer (some ⟨g, 0, none⟩)), qi (.pointer (some ⟨w.heap.size, 1, none⟩)), qi (.int .i64 x.ix), qi (.pointer (some ⟨g, 0, none⟩))] ⟨qi_stable, qi_stable, qi_stable, qi_stable, qi_stable, qi_stable, qi_stable, trivial⟩ [3, 6] ⟨?_, ?_, ?_, ?_, ?_, ?_, ?_, trivial⟩ ?_
 ·exact stq (fun E => ex_move rfl (E.v oe0))
 ·exact stq (fun E => ex_field rfl Tryz.underlying56 rfl (by kernel_rfl) (E.v oe3))
 ·exact stq (fun E => ex_load1 rfl Tryz.underlying3 rfl (E.d 1) (Cs.lit1 (HB3.out.mod E.m (by intro h2; rcases h2 with ⟨h0, h2⟩ | h2 <;> first | omega | (have hb := HBR.out _ h2; omega))) rfl))
 ·exact stepq_chain rfl
 ·exact stq (fun E => ex_field rfl Tryz.underlying56 rfl (by kernel_rfl) (E.v oe3))
 ·exact stq (fun E => ex_load1 rfl Tryz.underlying3 rfl (E.d 4) (Cs.lit1 (HB3.out.mod E.m (by intro h2; rcases h2 with ⟨h0, h2⟩ | h2 <;> first | omega | (have hb := HBR.out _ h2; omega))) rfl))
 ·exact stepq_chain rfl
 intro u1_0 hr
 have zu1_0 := hr.size
 have Cx2 := hid (hr.new (S := (fun k => (R k))))
 have Hx3 := hid (Hx1.out.mod hr (by intro k h1 h2; have hb := HBR.out k h1; omega))
 clear Hx1
 clear hr
 refine QChain.go fun Z act E => ?_
 refine qc_callF (args := #[.pointer (some ⟨g, 0, none⟩), .int .i64 x.rp]) rfl (wanted_none rfl) rfl Tryz.func69 (args2 (E.d 0) (E.d 2)) (WInt_Q Hx3.out HOK.out.rp (by have := HL.out; simp only [List.length_append] at this ⊢; omega)) ?_
 rintro e u1_1a ⟨rfl, qwr, hm⟩
 have zu1_1a := hm.size
 refine ⟨_, rfl, hm.mono (by intro k hk h; first | omega | exact Or.inl ⟨(by have hb := HBR.out k h; omega), Or.inl ⟨rfl, h⟩⟩), (fun _ => rfl), ?_⟩
 intro u1_1 hr
 have zu1_1 := hr.size
 have Hx4 := hid ((qwr.widen (R' := (fun k => (R k) ∨ (New u1_0 u1_1a k))) (fun _ h => h) (Nat.le_refl _)).mod hr (by intro k h1 h2; rcases h1 with h1 | h1 <;> first | omega | (have hb := HBR.out k h1; omega)))
 have Cx5 := hid (Cx2.out.goM hm hr (fun _ _ h => h))
 clear Cx2 hm hr Z act E qwr Hx3
 refine QChain.go fun Z act E => ?_
 refine qc_callF (args := #[.pointer (some ⟨g, 0, none⟩), .int .i64 x.ix]) rfl (wanted_none rfl) rfl Tryz.func69 (args2 (E.d 3) (E.d 5)) (WInt_Q Hx4.out HOK.out.ix (by have := HL.out; simp only [List.length_append] at this ⊢; omega)) ?_
 rintro e u1_2a ⟨rfl, qwr, hm⟩
 have zu1_2a := hm.size
 refine ⟨_, rfl, hm.mono (by intro k hk h; rcases h with h | h <;> first | omega | exact Or.inl ⟨(by have hb := HBR.out k h; omega), Or.inr (⟨rfl, h⟩)⟩), (fun _ => rfl), ?_⟩
 intro u1_2 hr
 have zu1_2 := hr.size
 have Hx6 := hid ((qwr.widen (R' := (fun k => (R k) ∨ (New u1_0 u1_1a k) ∨ (New u1_1 u1_2a k))) (by intro k h1; simp only [or_assoc] at h1 ⊢; exact h1) (Nat.le_refl _)).mod hr (by intro k h1 h2; rcases h1 with h1 | h1 | h1 <;> first | omega | (have hb := HBR.out k h1; omega)))
 have Cx7 := hid (Cx5.out.goM hm hr (by intro k h0 h2; rcases h2 with h2 | h2 <;> first | omega | exact h2))
 clear Cx5 hm hr Z act E qwr Hx4
 refine QChain.nil fun vs hl hzz hrows hne => ?_
 obtain ⟨Z, hYZ, hZb, hV⟩ := hzz
 have f0 := fvi hV hl 0
 have f3 := fvi hV hl 3
 have f6 := fvi hV hl 6
 rw [show vs = [gw vs 0, gw vs 1, gw vs 2, gw vs 3, gw vs 4, gw vs 5, gw vs 6] from (gw_eta hl).trans rfl]
 have ha0 := HA0.out
 subst ha0
 clear HA0 hV hYZ hZb hsz0 hrows hne oe0 oe3
 simp only [putAll, Act.put, sIB, sCZ, sCS, f0, f3, f6]
 clear hl f0 f3 f6
 go_upto_region 2 with (fail)
 refine wp_region_U 15 [11, 12, 13, 14] [0, 1, 2, 3] (fun a0 HA0 => ?_)
 have oe0 := ev HA0 0 rfl
 have oe3 := ev HA0 3 rfl
 refine QSeq.pure rfl _ (fun E => ex_move rfl (E.v oe0)) ?_
 refine QSeq.pure rfl (.pointer (some ⟨w.heap.size, 2, none⟩)) (fun E => ex_field rfl Tryz.underlying56 rfl (by kernel_rfl) (E.v oe3)) ?_
 refine QSeq.pure rfl _ (fun E => ex_loadA rfl Tryz.underlying27 rfl (off := 2) (cs := [.int .i64 x.sb, .int .i64 x.mr]) (by kernel_rfl) (E.d 1 0) (Cs.litA (HB3.out.mod Cx7.out (by intro h2; first | omega | (have hb := HBR.out _ h2; omega))) rfl)) ?_
 refine QSeq.call rfl rfl Tryz.func139 (PutSig_Q Hx6.out (by intro k h1; rcases h1 with h1 | h1 | h1 <;> first | omega | (have hb := HBR.out k h1; omega)) HOK.out.sb HOK.out.mr (by have := HL.out; simp only [List.length_append] at this ⊢; omega)) (fun E => args2 (E.d 0 2) (E.d 2 0)) ?_
 rintro e u2_3 ⟨rfl, qwr, hm⟩
 refine ⟨_, rfl, ?_⟩
 have Hx8 := hid (qwr.widen (R' := (fun k => (R k) ∨ (New u1_0 u1_1a k) ∨ (New u1_1 u1_2a k) ∨ (New u1_2 u2_3 k))) (by intro k h1; simp only [or_assoc] at h1 ⊢; exact h1) (Nat.le_refl _))
 have zu2_3 := hm.size
 have Cx9 := hid (show Mod (fun k => (R k) ∨ (New u1_0 u1_1a k) ∨ (New u1_1 u1_2a k)) u1_2 u2_3 from hm)
 clear hm
 clear qwr Hx6
 refine QSeq.nil (t' := [_, _, _, _]) rfl ?_
 obtain rfl := HA0.out
 clear HA0 oe0 oe3
 simp only [pz, Act.put, sIB, sCZ, sCS]
 go_wp2
 go_end0
 have hq := (Hx8.out.widen (R' := (fun k => R k ∨ New w u2_3 k)) (by intro k h1; rcases h1 with h1 | h1 | h1 | h1 <;> first | exact Or.inl h1 | (right; omega)) (Nat.le_refl _))
 simp only [List.append_assoc] at hq
 exact ⟨rfl, by simpa only [dnB, List.append_assoc] using hq, ((HM0.out.trans Cx7.out (fun _ _ h => h)).trans Cx9.out (by intro k h1 h2; rcases h2 with h2 | h2 | h2 <;> first | exact h2 | omega | (have hb := HBR.out k h2; omega)))⟩
set_option maxHeartbeats 4000000 in
theorem PutList_Dn : PutsL DnR 149 113 dnB := by
 intro R R2 g bs v l w hW hB hs hB2 hD hl
 obtain ⟨ao, cap, rfl⟩ := hs.shape
 have hb64 : l.length ≤ maxLen := hs.bd
 rw [maxLen_val] at hb64
 have HI64 := hid (show I64 (l.length : Int) by unfold I64; omega)
 have HW := Lib.hid hW
 have HS := Lib.hid hs
 have HBR := Lib.hid hB
 have HBT := Lib.hid hB2
 have HDJ := Lib.hid hD
 have HL := Lib.hid hl
 clear hW hB hs hB2 hD hl
 unfold listB at HL
 go_enter Tryz.func149, Tryz.ntmps149
 go_upto_region 0 with (fail)
 have HM0 := hid (Mod.refl (fun k => (R k)) w)
 go_upto_region 0 with (fail)
 refine wp_region_U 23 [8, 9, 10, 11] [0, 1, 2, 3] (fun a0 HA0 => ?_)
 have oe0 := ev HA0 0 rfl
 have oe1 := ev HA0 1 rfl
 refine QSeq.pure rfl _ (fun E => ex_move rfl (E.v oe0)) ?_
 refine QSeq.pure rfl _ (fun E => ex_move rfl (E.v oe1)) ?_
 refine QSeq.pure rfl (.int .i64 l.length) (fun E => ex_lenS rfl (E.d 1 0) Tryz.underlying126) ?_
 refine QSeq.call rfl rfl Tryz.func69 (WInt_Q HW.out HI64.out (by have := HL.out; simp only [List.length_append] at this ⊢; omega)) (fun E => args2 (E.d 0 2) (E.d 2 0)) ?_
 rintro e u0_3 ⟨rfl, qwr, hm⟩
 refine ⟨_, rfl, ?_⟩
 have Hx1 := hid (qwr.widen (R' := (fun k => (R k) ∨ (New w u0_3 k))) (fun _ h => h) (Nat.le_refl _))
 have zu0_3 := hm.size
 have Cx2 := hid (show Mod (fun k => (R k)) w u0_3 from hm)
 clear hm
 clear qwr HW
 refine QSeq.nil (t' := [_, _, _, _]) rfl ?_
 obtain rfl := HA0.out
 clear HA0 oe0 oe1
 simp only [pz, Act.put, sIB, sCZ, sCS]
 go_wp2
 go_loopw [14] (fun t wr => ∃ k : Nat, t = .int .i64 (k : Int) ∧ k ≤ l.length ∧ u0_3.heap.size ≤ wr.heap.size ∧ WrR (fun b => R b ∨ (w.heap.size ≤ b ∧ b < wr.heap.size)) 900000 wr g (bs ++ (encI l.length ++ ((l.take k).map dnB).flatten)) ∧ RdS DnR R2 wr (.slice ao l.length cap) l ∧ Mod R w wr) (fun t _ => l.length - (intOf t).toNat)
 case atStart => exact ⟨0, rfl, Nat.zero_le _, Nat.le_refl _, by have hq := (Hx1.out.widen (R' := (fun k => R k ∨ (w.heap.size ≤ k ∧ k < u0_3.heap.size))) (by intro k h1; rcases h1 with h1 | h1 <;> first | exact Or.inl h1 | (right; omega)) (Nat.le_refl _)); simpa only [List.take_zero, List.map_nil, List.flatten_nil, List.append_nil] using hq, (HS.out.mod Cx2.out (by intro k h1 h2; first | omega | (have hb := HBT.out k h1; omega) | (have hb := HBR.out k h2; omega) | exact HDJ.out k h1 h2 | exact HDJ.out k h2 h1 | (have hb := HBT.out k h1; have hb2 := HBR.out k h2; omega))), (HM0.out.trans Cx2.out (fun _ _ h => h))⟩
 case round =>
  obtain ⟨k, rfl, hk, hz, hw, hs, hm⟩ := hrel
  have HW2 := Lib.hid hw
  have HS2 := Lib.hid hs
  have HM2 := Lib.hid hm
  clear hw hs hm Hx1 HS HM0
  obtain ⟨wo, rfl⟩ : ∃ x, x = wr := ⟨_, rfl⟩
  by_cases hlt : k < l.length
  ·skip
   obtain ⟨g0, o0, cs, rfl, hrg, hrd, hcs⟩ := HS2.out.at hlt
   have hcl : cs.length = 4 := DnR.len hrd
   have HCL := Lib.hid hcl
   have HAT := hid (show CellsAt R2 wo g0 (o0 + k * 4) cs from ⟨hrg, hcs⟩)
   have HRD := Lib.hid hrd
   have HOC := hid (DnR.one hrd)
   clear hcl hcs hrd hrg
   have HE : Hid (bs ++ (encI l.length ++ ((l.take k).map dnB).flatten) ++ dnB l[k] = bs ++ (encI l.length ++ ((l.take (k + 1)).map dnB).flatten)) := hid (by rw [List.take_succ_eq_append_getElem hlt, List.map_append, List.flatten_append]; simp [List.append_assoc])
   have HLk := hid (show (bs ++ (encI l.length ++ ((l.take k).map dnB).flatten) ++ dnB l[k]).length ≤ 900000 by rw [HE.out]; exact Nat.le_trans (put_len _ _ _ _ _) HL.out)
   go_upto_region 3 with (fail)
   refine wp_region_U 23 [16, 17, 7, 26] [0, 1, 2, 3] (fun a0 HA0 => ?_)
   have oe12 := ev HA0 12 rfl
   have oe14 := ev HA0 14 rfl
   refine QSeq.pure rfl (.pointer (some ⟨g0, o0 + k * 4, none⟩)) (fun E => ex_idxS (i := k) (s := 4) rfl Tryz.underlying126 (by kernel_rfl) (E.v oe12) (E.v oe14) (by omega)) ?_
   refine QSeq.pure rfl _ (fun E => ex_loadA rfl Tryz.underlying56 rfl (off := o0 + k * 4) (cs := cs) (by rw [HCL.out]; kernel_rfl) (E.d 0 0) (fun j u hu => (HAT.out).2 j u hu)) ?_
   refine QSeq.go fun act E => ?_
   refine qc_alloc rfl (wanted_none rfl) rfl (z := [.int .i64 0, .int .i64 0, .int .i64 0, .int .i64 0]) (by kernel_rfl) ?_
   intro u3_2 qq hm
   have zl3_2 := qq.lt
   have Hx3 := hid qq
   have zu3_2 := hm.size
   have Cx4 := hid (show Mod (fun _ => False) wo u3_2 from hm)
   clear hm
   clear act E qq
   refine QSeq.go fun act E => ?_
   have hlz : (cs).length = List.length ([.int .i64 0, .int .i64 0, .int .i64 0, .int .i64 0] : List Value) := (by rw [HCL.out]; rfl)
   refine qc_store rfl (wanted_none rfl) rfl Hx3.out (off := 0) (vs := cs) (by rw [hlz]; kernel_rfl) HOC.out (by rw [hlz]; exact Nat.le_of_eq (Nat.zero_add _)) (E.d 2 0) (ec (E.d 1 1)) ?_
   intro u3_3 qc0 hm
   have qq := qc0.eqv (b := (cs : List Value).toArray) (lay_whole #[.int .i64 0, .int .i64 0, .int .i64 0, .int .i64 0] _ (by rw [hlz]; rfl))
   clear qc0 hlz
   have Hx5 := hid qq
   have zu3_3 := hm.size
   have HMu3_3 := hid hm
   have Cx6 := hid (Mod.goS (S' := (fun _ => False)) Cx4.out hm (fun _ h => h) (by intro k h0 h2; omega))
   clear hm Cx4
   clear act E qq Hx3
   clear HMu3_3
   refine QSeq.nil (t' := [_, _, _, _]) rfl ?_
   obtain rfl := HA0.out
   clear HA0 oe12 oe14
   simp only [pz, Act.put, sIB, sCZ, sCS, List.set_nil]
   go_upto_region 4 with (fail)
   refine wp_region_U 23 [18, 19, 20, 21] [0, 1, 2, 3] (fun a0 HA0 => ?_)
   have oe0 := ev HA0 0 rfl
   have oe2 := ev HA0 2 rfl
   have oe7 := ev HA0 7 rfl
   refine QSeq.pure rfl _ (fun E => ex_move rfl (E.v oe2)) ?_
   refine QSeq.pure rfl _ (fun E => ex_move rfl (E.v oe0)) ?_
   refine QSeq.pure rfl _ (fun E => ex_loadA rfl Tryz.underlying56 rfl (off := 0) (cs := cs) (by rw [HCL.out]; kernel_rfl) (E.v oe7) (Cs.whole Hx5.out)) ?_
   refine QSeq.go fun act E => ?_
   have ea19 : act.eval (.tmp 19) = .pointer (some ⟨g, 0, none⟩) := (E.d 1 1)
   have ea20 : act.eval (.tmp 20) = .agg cs.toArray := (E.d 2 0)
   refine qc_call (args := #[.pointer (some ⟨g, 0, none⟩), .agg cs.toArray]) rfl (wanted_none rfl) (by rw [ex_callV rfl (E.d 0 2) Tryz.func113 (by kernel_rfl) (by kernel_rfl)]; exact congrArg (fun z => Result.ok (Next.enter _ z) _) (by simp only [List.map_toArray, List.map_cons, List.map_nil, ea19, ea20]; try rfl)) (PutDn_Q _ _ _ _ _ _ _ (HW2.out.mod Cx6.out (fun _ _ h => h)) (by intro k h1; rcases h1 with h1 | h1 <;> first | omega | (have hb := HBR.out k h1; omega)) (HRD.out.mod Cx6.out (fun _ _ h => h)) (by intro k h1; have hb := HBT.out k h1; omega) (by intro k h1 h2; rcases h1 with h1 | h1 <;> first | omega | (have hb := HBR.out k h1; omega) | (have hb := HBT.out k h2; omega) | exact HDJ.out k h1 h2 | exact HDJ.out k h2 h1 | (have hb := HBR.out k h1; have hb2 := HBT.out k h2; omega)) HLk.out) ?_
   rintro e u4_3 ⟨rfl, qwr, hm⟩
   refine ⟨_, rfl, ?_⟩
   have Hx7 := hid (qwr.widen (R' := (fun k => (R k) ∨ (New w wo k) ∨ (New u3_3 u4_3 k))) (by intro k h1; simp only [or_assoc] at h1 ⊢; exact h1) (Nat.le_refl _))
   have zu4_3 := hm.size
   have Cx8 := hid (show Mod (fun k => (R k) ∨ (New w wo k)) u3_3 u4_3 from hm)
   clear hm
   clear act E qwr HW2 ea19 ea20
   refine QSeq.nil (t' := [_, _, _, _]) rfl ?_
   obtain rfl := HA0.out
   clear HA0 oe0 oe2 oe7
   simp only [pz, Act.put, sIB, sCZ, sCS]
   have hq := Hx7.out
   rw [HE.out] at hq
   have HQ := Lib.hid hq
   clear hq
   go_wp2
   go_roundw
   case rel => exact ⟨k + 1, by go_num, by omega, by omega, (HQ.out.widen (by intro b h1; rcases h1 with h1 | h1 | h1 <;> first | exact Or.inl h1 | (right; omega)) (Nat.le_refl _)), ((HS2.out.mod Cx6.out (fun _ _ h => h)).mod Cx8.out (by intro k h1 h2; rcases h2 with h2 | h2 <;> first | omega | (have hb := HBT.out k h1; omega) | (have hb := HBR.out k h2; omega) | exact HDJ.out k h1 h2 | exact HDJ.out k h2 h1 | (have hb := HBT.out k h1; have hb2 := HBR.out k h2; omega))), ((HM2.out.trans Cx6.out (fun _ _ h => h.elim)).trans Cx8.out (by intro k h1 h2; rcases h2 with h2 | h2 <;> first | exact h2 | omega | (have hb := HBR.out k h2; omega)))⟩
   case measure => simp [intOf]; omega
  ·have hkk : k = l.length := by omega
   subst hkk
   go_wp2
   go_end0
   have hq := HW2.out
   rw [List.take_length] at hq
   exact ⟨rfl, hq, HM2.out⟩
set_option maxHeartbeats 4000000 in
theorem PutTb_Q : Puts TbR 145 tbB := by
 intro R R2 g bs cs x w hW hB hx hB2 hD hl
 obtain ⟨v_l, rfl, hok, hs0⟩ := hx
 have HS0 := Lib.hid hs0
 clear hs0
 have HW := Lib.hid hW
 have HBR := Lib.hid hB
 have HBT := Lib.hid hB2
 have HDJ := Lib.hid hD
 have HOK := Lib.hid hok
 have HL := Lib.hid hl
 clear hW hB hB2 hD hl hok
 unfold tbB at HL
 go_enter Tryz.func145, Tryz.ntmps145
 go_upto_region 1 with (fail)
 obtain ⟨w1, hw1⟩ : ∃ zz, zz = (w.alloc (.cells (x.cells v_l : List Value).toArray 128)) := ⟨_, rfl⟩
 change Code.wp _ _ _ _ (w.alloc (.cells (x.cells v_l : List Value).toArray 128))
 rw [← hw1]
 have HB3 := hid (show Cs w1 (w.heap.size) (x.cells v_l : List Value).toArray 128 by rw [hw1]; exact Cs.new _ _ _)
 have hm : Mod (fun _ => False) w w1 := by rw [hw1]; exact (Mod.refl _ _).alloc _
 have HM0 := hid (show Mod (fun k => (R k)) w w1 from hm.mono (fun _ _ h => h.elim))
 have hs1 : w1.heap.size = w.heap.size + 1 := by rw [hw1]; simp
 have Hx1 := hid (HW.out.mod hm (fun _ _ h => h))
 clear HW
 have Hx2 := hid (HS0.out.mod hm (fun _ _ h => h))
 clear HS0
 clear hw1 hm
 go_upto_region 1 with (fail)
 refine wp_region_U 12 [4, 5, 6, 7] [0, 1, 2, 3] (fun a0 HA0 => ?_)
 have oe0 := ev HA0 0 rfl
 have oe3 := ev HA0 3 rfl
 refine QSeq.pure rfl _ (fun E => ex_move rfl (E.v oe0)) ?_
 refine QSeq.pure rfl (.pointer (some ⟨w.heap.size, 0, none⟩)) (fun E => ex_field rfl Tryz.underlying128 rfl (by kernel_rfl) (E.v oe3)) ?_
 refine QSeq.pure rfl _ (fun E => ex_load1 rfl Tryz.underlying3 rfl (E.d 1 0) (Cs.lit1 HB3.out rfl)) ?_
 refine QSeq.call rfl rfl Tryz.func69 (WInt_Q Hx1.out HOK.out (by have := HL.out; simp only [List.length_append] at this ⊢; omega)) (fun E => args2 (E.d 0 2) (E.d 2 0)) ?_
 rintro e u1_3 ⟨rfl, qwr, hm⟩
 refine ⟨_, rfl, ?_⟩
 have Hx3 := hid (qwr.widen (R' := (fun k => (R k) ∨ (New w1 u1_3 k))) (fun _ h => h) (Nat.le_refl _))
 have zu1_3 := hm.size
 have Cx4 := hid (show Mod (fun k => (R k)) w1 u1_3 from hm)
 clear hm
 clear qwr Hx1
 refine QSeq.nil (t' := [_, _, _, _]) rfl ?_
 obtain rfl := HA0.out
 clear HA0 oe0 oe3
 simp only [pz, Act.put, sIB, sCZ, sCS]
 go_upto_region 2 with (fail)
 refine wp_region_U 12 [8, 9, 10, 11] [0, 1, 2, 3] (fun a0 HA0 => ?_)
 have oe0 := ev HA0 0 rfl
 have oe3 := ev HA0 3 rfl
 refine QSeq.pure rfl _ (fun E => ex_move rfl (E.v oe0)) ?_
 refine QSeq.pure rfl (.pointer (some ⟨w.heap.size, 1, none⟩)) (fun E => ex_field rfl Tryz.underlying128 rfl (by kernel_rfl) (E.v oe3)) ?_
 refine QSeq.pure rfl _ (fun E => ex_load1 rfl Tryz.underlying126 rfl (E.d 1 0) (Cs.lit1 (HB3.out.mod Cx4.out (by intro h2; first | omega | (have hb := HBR.out _ h2; omega))) rfl)) ?_
 refine QSeq.call rfl rfl Tryz.func149 (PutList_Dn _ _ _ _ _ _ _ Hx3.out (by intro k h1; rcases h1 with h1 | h1 <;> first | omega | (have hb := HBR.out k h1; omega)) (Hx2.out.mod Cx4.out (by intro k h1 h2; first | omega | (have hb := HBT.out k h1; omega) | (have hb := HBR.out k h2; omega) | exact HDJ.out k h1 h2 | exact HDJ.out k h2 h1 | (have hb := HBT.out k h1; have hb2 := HBR.out k h2; omega))) (by intro k h1; have hb := HBT.out k h1; omega) (by intro k h1 h2; rcases h1 with h1 | h1 <;> first | omega | (have hb := HBR.out k h1; omega) | (have hb := HBT.out k h2; omega) | exact HDJ.out k h1 h2 | exact HDJ.out k h2 h1 | (have hb := HBR.out k h1; have hb2 := HBT.out k h2; omega)) (by have := HL.out; simp only [List.length_append] at this ⊢; omega)) (fun E => args3 (E.d 0 2) (E.d 2 0) rfl) ?_
 rintro e u2_3 ⟨rfl, qwr, hm⟩
 refine ⟨_, rfl, ?_⟩
 have Hx5 := hid (qwr.widen (R' := (fun k => (R k) ∨ (New w1 u1_3 k) ∨ (New u1_3 u2_3 k))) (by intro k h1; simp only [or_assoc] at h1 ⊢; exact h1) (Nat.le_refl _))
 have zu2_3 := hm.size
 have Cx6 := hid (show Mod (fun k => (R k) ∨ (New w1 u1_3 k)) u1_3 u2_3 from hm)
 clear hm
 clear qwr Hx3
 refine QSeq.nil (t' := [_, _, _, _]) rfl ?_
 obtain rfl := HA0.out
 clear HA0 oe0 oe3
 simp only [pz, Act.put, sIB, sCZ, sCS]
 go_wp2
 go_end0
 have hq := (Hx5.out.widen (R' := (fun k => R k ∨ New w u2_3 k)) (by intro k h1; rcases h1 with h1 | h1 | h1 <;> first | exact Or.inl h1 | (right; omega)) (Nat.le_refl _))
 simp only [List.append_assoc] at hq
 exact ⟨rfl, by simpa only [tbB, List.append_assoc] using hq, ((HM0.out.trans Cx4.out (fun _ _ h => h)).trans Cx6.out (by intro k h1 h2; rcases h2 with h2 | h2 <;> first | exact h2 | omega | (have hb := HBR.out k h2; omega)))⟩
set_option maxHeartbeats 4000000 in
theorem PutList_Tb : PutsL TbR 144 145 tbB := by
 intro R R2 g bs v l w hW hB hs hB2 hD hl
 obtain ⟨ao, cap, rfl⟩ := hs.shape
 have hb64 : l.length ≤ maxLen := hs.bd
 rw [maxLen_val] at hb64
 have HI64 := hid (show I64 (l.length : Int) by unfold I64; omega)
 have HW := Lib.hid hW
 have HS := Lib.hid hs
 have HBR := Lib.hid hB
 have HBT := Lib.hid hB2
 have HDJ := Lib.hid hD
 have HL := Lib.hid hl
 clear hW hB hs hB2 hD hl
 unfold listB at HL
 go_enter Tryz.func144, Tryz.ntmps144
 go_upto_region 0 with (fail)
 have HM0 := hid (Mod.refl (fun k => (R k)) w)
 go_upto_region 0 with (fail)
 refine wp_region_U 23 [8, 9, 10, 11] [0, 1, 2, 3] (fun a0 HA0 => ?_)
 have oe0 := ev HA0 0 rfl
 have oe1 := ev HA0 1 rfl
 refine QSeq.pure rfl _ (fun E => ex_move rfl (E.v oe0)) ?_
 refine QSeq.pure rfl _ (fun E => ex_move rfl (E.v oe1)) ?_
 refine QSeq.pure rfl (.int .i64 l.length) (fun E => ex_lenS rfl (E.d 1 0) Tryz.underlying43) ?_
 refine QSeq.call rfl rfl Tryz.func69 (WInt_Q HW.out HI64.out (by have := HL.out; simp only [List.length_append] at this ⊢; omega)) (fun E => args2 (E.d 0 2) (E.d 2 0)) ?_
 rintro e u0_3 ⟨rfl, qwr, hm⟩
 refine ⟨_, rfl, ?_⟩
 have Hx1 := hid (qwr.widen (R' := (fun k => (R k) ∨ (New w u0_3 k))) (fun _ h => h) (Nat.le_refl _))
 have zu0_3 := hm.size
 have Cx2 := hid (show Mod (fun k => (R k)) w u0_3 from hm)
 clear hm
 clear qwr HW
 refine QSeq.nil (t' := [_, _, _, _]) rfl ?_
 obtain rfl := HA0.out
 clear HA0 oe0 oe1
 simp only [pz, Act.put, sIB, sCZ, sCS]
 go_wp2
 go_loopw [14] (fun t wr => ∃ k : Nat, t = .int .i64 (k : Int) ∧ k ≤ l.length ∧ u0_3.heap.size ≤ wr.heap.size ∧ WrR (fun b => R b ∨ (w.heap.size ≤ b ∧ b < wr.heap.size)) 900000 wr g (bs ++ (encI l.length ++ ((l.take k).map tbB).flatten)) ∧ RdS TbR R2 wr (.slice ao l.length cap) l ∧ Mod R w wr) (fun t _ => l.length - (intOf t).toNat)
 case atStart => exact ⟨0, rfl, Nat.zero_le _, Nat.le_refl _, by have hq := (Hx1.out.widen (R' := (fun k => R k ∨ (w.heap.size ≤ k ∧ k < u0_3.heap.size))) (by intro k h1; rcases h1 with h1 | h1 <;> first | exact Or.inl h1 | (right; omega)) (Nat.le_refl _)); simpa only [List.take_zero, List.map_nil, List.flatten_nil, List.append_nil] using hq, (HS.out.mod Cx2.out (by intro k h1 h2; first | omega | (have hb := HBT.out k h1; omega) | (have hb := HBR.out k h2; omega) | exact HDJ.out k h1 h2 | exact HDJ.out k h2 h1 | (have hb := HBT.out k h1; have hb2 := HBR.out k h2; omega))), (HM0.out.trans Cx2.out (fun _ _ h => h))⟩
 case round =>
  obtain ⟨k, rfl, hk, hz, hw, hs, hm⟩ := hrel
  have HW2 := Lib.hid hw
  have HS2 := Lib.hid hs
  have HM2 := Lib.hid hm
  clear hw hs hm Hx1 HS HM0
  obtain ⟨wo, rfl⟩ : ∃ x, x = wr := ⟨_, rfl⟩
  by_cases hlt : k < l.length
  ·skip
   obtain ⟨g0, o0, cs, rfl, hrg, hrd, hcs⟩ := HS2.out.at hlt
   have hcl : cs.length = 2 := TbR.len hrd
   have HCL := Lib.hid hcl
   have HAT := hid (show CellsAt R2 wo g0 (o0 + k * 2) cs from ⟨hrg, hcs⟩)
   have HRD := Lib.hid hrd
   have HOC := hid (TbR.one hrd)
   clear hcl hcs hrd hrg
   have HE : Hid (bs ++ (encI l.length ++ ((l.take k).map tbB).flatten) ++ tbB l[k] = bs ++ (encI l.length ++ ((l.take (k + 1)).map tbB).flatten)) := hid (by rw [List.take_succ_eq_append_getElem hlt, List.map_append, List.flatten_append]; simp [List.append_assoc])
   have HLk := hid (show (bs ++ (encI l.length ++ ((l.take k).map tbB).flatten) ++ tbB l[k]).length ≤ 900000 by rw [HE.out]; exact Nat.le_trans (put_len _ _ _ _ _) HL.out)
   go_upto_region 3 with (fail)
   refine wp_region_U 23 [16, 17, 7, 26] [0, 1, 2, 3] (fun a0 HA0 => ?_)
   have oe12 := ev HA0 12 rfl
   have oe14 := ev HA0 14 rfl
   refine QSeq.pure rfl (.pointer (some ⟨g0, o0 + k * 2, none⟩)) (fun E => ex_idxS (i := k) (s := 2) rfl Tryz.underlying43 (by kernel_rfl) (E.v oe12) (E.v oe14) (by omega)) ?_
   refine QSeq.pure rfl _ (fun E => ex_loadA rfl Tryz.underlying128 rfl (off := o0 + k * 2) (cs := cs) (by rw [HCL.out]; kernel_rfl) (E.d 0 0) (fun j u hu => (HAT.out).2 j u hu)) ?_
   refine QSeq.go fun act E => ?_
   refine qc_alloc rfl (wanted_none rfl) rfl (z := [.int .i64 0, .slice none 0 0]) (by kernel_rfl) ?_
   intro u3_2 qq hm
   have zl3_2 := qq.lt
   have Hx3 := hid qq
   have zu3_2 := hm.size
   have Cx4 := hid (show Mod (fun _ => False) wo u3_2 from hm)
   clear hm
   clear act E qq
   refine QSeq.go fun act E => ?_
   have hlz : (cs).length = List.length ([.int .i64 0, .slice none 0 0] : List Value) := (by rw [HCL.out]; rfl)
   refine qc_store rfl (wanted_none rfl) rfl Hx3.out (off := 0) (vs := cs) (by rw [hlz]; kernel_rfl) HOC.out (by rw [hlz]; exact Nat.le_of_eq (Nat.zero_add _)) (E.d 2 0) (ec (E.d 1 1)) ?_
   intro u3_3 qc0 hm
   have qq := qc0.eqv (b := (cs : List Value).toArray) (lay_whole #[.int .i64 0, .slice none 0 0] _ (by rw [hlz]; rfl))
   clear qc0 hlz
   have Hx5 := hid qq
   have zu3_3 := hm.size
   have HMu3_3 := hid hm
   have Cx6 := hid (Mod.goS (S' := (fun _ => False)) Cx4.out hm (fun _ h => h) (by intro k h0 h2; omega))
   clear hm Cx4
   clear act E qq Hx3
   clear HMu3_3
   refine QSeq.nil (t' := [_, _, _, _]) rfl ?_
   obtain rfl := HA0.out
   clear HA0 oe12 oe14
   simp only [pz, Act.put, sIB, sCZ, sCS, List.set_nil]
   go_upto_region 4 with (fail)
   refine wp_region_U 23 [18, 19, 20, 21] [0, 1, 2, 3] (fun a0 HA0 => ?_)
   have oe0 := ev HA0 0 rfl
   have oe2 := ev HA0 2 rfl
   have oe7 := ev HA0 7 rfl
   refine QSeq.pure rfl _ (fun E => ex_move rfl (E.v oe2)) ?_
   refine QSeq.pure rfl _ (fun E => ex_move rfl (E.v oe0)) ?_
   refine QSeq.pure rfl _ (fun E => ex_loadA rfl Tryz.underlying128 rfl (off := 0) (cs := cs) (by rw [HCL.out]; kernel_rfl) (E.v oe7) (Cs.whole Hx5.out)) ?_
   refine QSeq.go fun act E => ?_
   have ea19 : act.eval (.tmp 19) = .pointer (some ⟨g, 0, none⟩) := (E.d 1 1)
   have ea20 : act.eval (.tmp 20) = .agg cs.toArray := (E.d 2 0)
   refine qc_call (args := #[.pointer (some ⟨g, 0, none⟩), .agg cs.toArray]) rfl (wanted_none rfl) (by rw [ex_callV rfl (E.d 0 2) Tryz.func145 (by kernel_rfl) (by kernel_rfl)]; exact congrArg (fun z => Result.ok (Next.enter _ z) _) (by simp only [List.map_toArray, List.map_cons, List.map_nil, ea19, ea20]; try rfl)) (PutTb_Q _ _ _ _ _ _ _ (HW2.out.mod Cx6.out (fun _ _ h => h)) (by intro k h1; rcases h1 with h1 | h1 <;> first | omega | (have hb := HBR.out k h1; omega)) (HRD.out.mod Cx6.out (fun _ _ h => h)) (by intro k h1; have hb := HBT.out k h1; omega) (by intro k h1 h2; rcases h1 with h1 | h1 <;> first | omega | (have hb := HBR.out k h1; omega) | (have hb := HBT.out k h2; omega) | exact HDJ.out k h1 h2 | exact HDJ.out k h2 h1 | (have hb := HBR.out k h1; have hb2 := HBT.out k h2; omega)) HLk.out) ?_
   rintro e u4_3 ⟨rfl, qwr, hm⟩
   refine ⟨_, rfl, ?_⟩
   have Hx7 := hid (qwr.widen (R' := (fun k => (R k) ∨ (New w wo k) ∨ (New u3_3 u4_3 k))) (by intro k h1; simp only [or_assoc] at h1 ⊢; exact h1) (Nat.le_refl _))
   have zu4_3 := hm.size
   have Cx8 := hid (show Mod (fun k => (R k) ∨ (New w wo k)) u3_3 u4_3 from hm)
   clear hm
   clear act E qwr HW2 ea19 ea20
   refine QSeq.nil (t' := [_, _, _, _]) rfl ?_
   obtain rfl := HA0.out
   clear HA0 oe0 oe2 oe7
   simp only [pz, Act.put, sIB, sCZ, sCS]
   have hq := Hx7.out
   rw [HE.out] at hq
   have HQ := Lib.hid hq
   clear hq
   go_wp2
   go_roundw
   case rel => exact ⟨k + 1, by go_num, by omega, by omega, (HQ.out.widen (by intro b h1; rcases h1 with h1 | h1 | h1 <;> first | exact Or.inl h1 | (right; omega)) (Nat.le_refl _)), ((HS2.out.mod Cx6.out (fun _ _ h => h)).mod Cx8.out (by intro k h1 h2; rcases h2 with h2 | h2 <;> first | omega | (have hb := HBT.out k h1; omega) | (have hb := HBR.out k h2; omega) | exact HDJ.out k h1 h2 | exact HDJ.out k h2 h1 | (have hb := HBT.out k h1; have hb2 := HBR.out k h2; omega))), ((HM2.out.trans Cx6.out (fun _ _ h => h.elim)).trans Cx8.out (by intro k h1 h2; rcases h2 with h2 | h2 <;> first | exact h2 | omega | (have hb := HBR.out k h2; omega)))⟩
   case measure => simp [intOf]; omega
  ·have hkk : k = l.length := by omega
   subst hkk
   go_wp2
   go_end0
   have hq := HW2.out
   rw [List.take_length] at hq
   exact ⟨rfl, hq, HM2.out⟩
set_option maxHeartbeats 4000000 in
theorem PutOp_Q : Puts OpR 112 opB := by
 intro R R2 g bs cs x w hW hB hx hB2 hD hl
 obtain ⟨v_pl, rfl, hok, hs0⟩ := hx
 have HS0 := Lib.hid hs0
 clear hs0
 have HW := Lib.hid hW
 have HBR := Lib.hid hB
 have HBT := Lib.hid hB2
 have HDJ := Lib.hid hD
 have HOK := Lib.hid hok
 have HL := Lib.hid hl
 clear hW hB hB2 hD hl hok
 unfold opB at HL
 go_enter Tryz.func112, Tryz.ntmps112
 go_upto_region 1 with (fail)
 obtain ⟨w1, hw1⟩ : ∃ zz, zz = (w.alloc (.cells (x.cells v_pl : List Value).toArray 54)) := ⟨_, rfl⟩
 change Code.wp _ _ _ _ (w.alloc (.cells (x.cells v_pl : List Value).toArray 54))
 rw [← hw1]
 have HB3 := hid (show Cs w1 (w.heap.size) (x.cells v_pl : List Value).toArray 54 by rw [hw1]; exact Cs.new _ _ _)
 have hm : Mod (fun _ => False) w w1 := by rw [hw1]; exact (Mod.refl _ _).alloc _
 have HM0 := hid (show Mod (fun k => (R k)) w w1 from hm.mono (fun _ _ h => h.elim))
 have hs1 : w1.heap.size = w.heap.size + 1 := by rw [hw1]; simp
 have Hx1 := hid (HW.out.mod hm (fun _ _ h => h))
 clear HW
 have Hx2 := hid (HS0.out.mod hm (fun _ _ h => h))
 clear HS0
 clear hw1 hm
 go_upto_region 1 with (fail)
 generalize ha0 : Act.mk _ _ = a0
 have oe0 : a0.eval (.tmp 0) = .pointer (some ⟨g, 0, none⟩) := by rw [← ha0]; rfl
 have oe3 : a0.eval (.tmp 3) = .pointer (some ⟨w.heap.size, 0, none⟩) := by rw [← ha0]; rfl
 have hsz0 : a0.tmps.size = 14 := by rw [← ha0]; rfl
 have HA0 := hid ha0
 clear ha0
 refine wp_region_Q1 14 hsz0 [4, 5, 6, 7, 8, 9, 10, 11, 12, 13] (fun k => (R k)) (fun k j => (k = 0 ∧ ((R j))) ∨ (k = 1 ∧ ((R j))) ∨ (k = 2 ∧ ((R j)))) (by intro k j h; (try dsimp only at h ⊢); rcases h with ⟨-, h⟩ | ⟨-, h⟩ | ⟨-, h⟩; (exact h); (exact h); (exact h)) [qi (.pointer (some ⟨g, 0, none⟩)), qi (.pointer (some ⟨w.heap.size, 0, none⟩)), qi (.int .i64 x.ix), qi (.pointer (some ⟨g, 0, none⟩)), qi (.pointer (some ⟨w.heap.size, 1, none⟩)), qi (v_pl), qi (.pointer (some ⟨g, 0, none⟩)), qi (.pointer (some ⟨w.heap.size, 2, none⟩)), qi (hv x.nc), qi (.pointer (some ⟨g, 0, none⟩))] ⟨qi_stable, qi_stable, qi_stable, qi_stable, qi_stable, qi_stable, qi_stable, qi_stable, qi_stable, qi_stable, trivial⟩ [3, 6, 9] ⟨?_, ?_, ?_, ?_, ?_, ?_, ?_, ?_, ?_, ?_, trivial⟩ ?_
 ·exact stq (fun E => ex_move rfl (E.v oe0))
 ·exact stq (fun E => ex_field rfl Tryz.underlying54 rfl (by kernel_rfl) (E.v oe3))
 ·exact stq (fun E => ex_load1 rfl Tryz.underlying3 rfl (E.d 1) (Cs.hd1 (HB3.out.mod E.m (by intro h2; rcases h2 with ⟨h0, h2⟩ | h2 <;> first | omega | (have hb := HBR.out _ h2; omega))) rfl))
 ·exact stepq_chain rfl
 ·exact stq (fun E => ex_field rfl Tryz.underlying54 rfl (by kernel_rfl) (E.v oe3))
 ·exact stq (fun E => ex_load1 rfl Tryz.underlying52 rfl (E.d 4) (Cs.hd1 (HB3.out.mod E.m (by intro h2; rcases h2 with ⟨h0, h2⟩ | h2 <;> first | omega | (have hb := HBR.out _ h2; omega))) rfl))
 ·exact stepq_chain rfl
 ·exact stq (fun E => ex_field rfl Tryz.underlying54 rfl (by kernel_rfl) (E.v oe3))
 ·exact stq (fun E => ex_loadA rfl Tryz.underlying25 rfl (off := 2) (cs := x.nc.map bv) (by rw [List.length_map, HOK.out.2.1]; exact size_hash) (E.d 7) (Cs.tlA (HB3.out.mod E.m (by intro h2; rcases h2 with ⟨h0, h2⟩ | h2 <;> first | omega | (have hb := HBR.out _ h2; omega))) rfl))
 ·exact stepq_chain rfl
 intro u1_0 hr
 have zu1_0 := hr.size
 have Cx3 := hid (hr.new (S := (fun k => (R k))))
 have Hx4 := hid (Hx1.out.mod hr (by intro k h1 h2; have hb := HBR.out k h1; omega))
 clear Hx1
 clear hr
 refine QChain.go fun Z act E => ?_
 refine qc_callF (args := #[.pointer (some ⟨g, 0, none⟩), .int .i64 x.ix]) rfl (wanted_none rfl) rfl Tryz.func69 (args2 (E.d 0) (E.d 2)) (WInt_Q Hx4.out HOK.out.1 (by have := HL.out; simp only [List.length_append] at this ⊢; omega)) ?_
 rintro e u1_1a ⟨rfl, qwr, hm⟩
 have zu1_1a := hm.size
 refine ⟨_, rfl, hm.mono (by intro k hk h; first | omega | exact Or.inl ⟨(by have hb := HBR.out k h; omega), Or.inl ⟨rfl, h⟩⟩), (fun _ => rfl), ?_⟩
 intro u1_1 hr
 have zu1_1 := hr.size
 have Hx5 := hid ((qwr.widen (R' := (fun k => (R k) ∨ (New u1_0 u1_1a k))) (fun _ h => h) (Nat.le_refl _)).mod hr (by intro k h1 h2; rcases h1 with h1 | h1 <;> first | omega | (have hb := HBR.out k h1; omega)))
 have Cx6 := hid (Cx3.out.goM hm hr (fun _ _ h => h))
 clear Cx3 hm hr Z act E qwr Hx4
 refine QChain.go fun Z act E => ?_
 refine qc_callF (args := #[.pointer (some ⟨g, 0, none⟩), v_pl]) rfl (wanted_none rfl) rfl Tryz.func114 (args2 (E.d 3) (E.d 5)) (WRow_Q Hx5.out (Hx2.out.mod Cx6.out (by intro k h1 h2; first | omega | (have hb := HBT.out k h1; omega) | (have hb := HBR.out k h2; omega) | exact HDJ.out k h1 h2 | exact HDJ.out k h2 h1 | (have hb := HBT.out k h1; have hb2 := HBR.out k h2; omega))) (by intro k h1 h2; rcases h2 with h2 | h2 <;> first | omega | (have hb := HBT.out k h1; omega) | (have hb := HBR.out k h2; omega) | exact HDJ.out k h1 h2 | exact HDJ.out k h2 h1 | (have hb := HBT.out k h1; have hb2 := HBR.out k h2; omega)) (by have := HL.out; simp only [List.length_append] at this ⊢; omega)) ?_
 rintro e u1_2a ⟨rfl, qwr, hm⟩
 have zu1_2a := hm.size
 refine ⟨_, rfl, hm.mono (by intro k hk h; rcases h with h | h <;> first | omega | exact Or.inl ⟨(by have hb := HBR.out k h; omega), Or.inr (Or.inl ⟨rfl, h⟩)⟩), (fun _ => rfl), ?_⟩
 intro u1_2 hr
 have zu1_2 := hr.size
 have Hx7 := hid ((qwr.widen (R' := (fun k => (R k) ∨ (New u1_0 u1_1a k) ∨ (New u1_1 u1_2a k))) (by intro k h1; simp only [or_assoc] at h1 ⊢; exact h1) (Nat.le_refl _)).mod hr (by intro k h1 h2; rcases h1 with h1 | h1 | h1 <;> first | omega | (have hb := HBR.out k h1; omega)))
 have Cx8 := hid (Cx6.out.goM hm hr (by intro k h0 h2; rcases h2 with h2 | h2 <;> first | omega | exact h2))
 clear Cx6 hm hr Z act E qwr Hx5
 refine QChain.go fun Z act E => ?_
 refine qc_callF (args := #[.pointer (some ⟨g, 0, none⟩), hv x.nc]) rfl (wanted_none rfl) rfl Tryz.func138 (args2 (E.d 6) (E.d 8)) (WHash_Q Hx7.out HOK.out.2 (by have := HL.out; simp only [List.length_append] at this ⊢; omega)) ?_
 rintro e u1_3a ⟨rfl, qwr, hm⟩
 have zu1_3a := hm.size
 refine ⟨_, rfl, hm.mono (by intro k hk h; rcases h with h | h | h <;> first | omega | exact Or.inl ⟨(by have hb := HBR.out k h; omega), Or.inr (Or.inr (⟨rfl, h⟩))⟩), (fun _ => rfl), ?_⟩
 intro u1_3 hr
 have zu1_3 := hr.size
 have Hx9 := hid ((qwr.widen (R' := (fun k => (R k) ∨ (New u1_0 u1_1a k) ∨ (New u1_1 u1_2a k) ∨ (New u1_2 u1_3a k))) (by intro k h1; simp only [or_assoc] at h1 ⊢; exact h1) (Nat.le_refl _)).mod hr (by intro k h1 h2; rcases h1 with h1 | h1 | h1 | h1 <;> first | omega | (have hb := HBR.out k h1; omega)))
 have Cx10 := hid (Cx8.out.goM hm hr (by intro k h0 h2; rcases h2 with h2 | h2 | h2 <;> first | omega | exact h2))
 clear Cx8 hm hr Z act E qwr Hx7
 refine QChain.nil fun vs hl hzz hrows hne => ?_
 obtain ⟨Z, hYZ, hZb, hV⟩ := hzz
 have f0 := fvi hV hl 0
 have f3 := fvi hV hl 3
 have f6 := fvi hV hl 6
 have f9 := fvi hV hl 9
 rw [show vs = [gw vs 0, gw vs 1, gw vs 2, gw vs 3, gw vs 4, gw vs 5, gw vs 6, gw vs 7, gw vs 8, gw vs 9] from (gw_eta hl).trans rfl]
 have ha0 := HA0.out
 subst ha0
 clear HA0 hV hYZ hZb hsz0 hrows hne oe0 oe3
 simp only [putAll, Act.put, sIB, sCZ, sCS, f0, f3, f6, f9]
 clear hl f0 f3 f6 f9
 go_wp2
 go_end0
 have hq := (Hx9.out.widen (R' := (fun k => R k ∨ New w u1_3 k)) (by intro k h1; rcases h1 with h1 | h1 | h1 | h1 <;> first | exact Or.inl h1 | (right; omega)) (Nat.le_refl _))
 simp only [List.append_assoc] at hq
 exact ⟨rfl, by simpa only [opB, List.append_assoc] using hq, (HM0.out.trans Cx10.out (fun _ _ h => h))⟩
set_option maxHeartbeats 4000000 in
theorem PutList_Op : PutsL OpR 143 112 opB := by
 intro R R2 g bs v l w hW hB hs hB2 hD hl
 obtain ⟨ao, cap, rfl⟩ := hs.shape
 have hb64 : l.length ≤ maxLen := hs.bd
 rw [maxLen_val] at hb64
 have HI64 := hid (show I64 (l.length : Int) by unfold I64; omega)
 have HW := Lib.hid hW
 have HS := Lib.hid hs
 have HBR := Lib.hid hB
 have HBT := Lib.hid hB2
 have HDJ := Lib.hid hD
 have HL := Lib.hid hl
 clear hW hB hs hB2 hD hl
 unfold listB at HL
 go_enter Tryz.func143, Tryz.ntmps143
 go_upto_region 0 with (fail)
 have HM0 := hid (Mod.refl (fun k => (R k)) w)
 go_upto_region 0 with (fail)
 refine wp_region_U 23 [8, 9, 10, 11] [0, 1, 2, 3] (fun a0 HA0 => ?_)
 have oe0 := ev HA0 0 rfl
 have oe1 := ev HA0 1 rfl
 refine QSeq.pure rfl _ (fun E => ex_move rfl (E.v oe0)) ?_
 refine QSeq.pure rfl _ (fun E => ex_move rfl (E.v oe1)) ?_
 refine QSeq.pure rfl (.int .i64 l.length) (fun E => ex_lenS rfl (E.d 1 0) Tryz.underlying42) ?_
 refine QSeq.call rfl rfl Tryz.func69 (WInt_Q HW.out HI64.out (by have := HL.out; simp only [List.length_append] at this ⊢; omega)) (fun E => args2 (E.d 0 2) (E.d 2 0)) ?_
 rintro e u0_3 ⟨rfl, qwr, hm⟩
 refine ⟨_, rfl, ?_⟩
 have Hx1 := hid (qwr.widen (R' := (fun k => (R k) ∨ (New w u0_3 k))) (fun _ h => h) (Nat.le_refl _))
 have zu0_3 := hm.size
 have Cx2 := hid (show Mod (fun k => (R k)) w u0_3 from hm)
 clear hm
 clear qwr HW
 refine QSeq.nil (t' := [_, _, _, _]) rfl ?_
 obtain rfl := HA0.out
 clear HA0 oe0 oe1
 simp only [pz, Act.put, sIB, sCZ, sCS]
 go_wp2
 go_loopw [14] (fun t wr => ∃ k : Nat, t = .int .i64 (k : Int) ∧ k ≤ l.length ∧ u0_3.heap.size ≤ wr.heap.size ∧ WrR (fun b => R b ∨ (w.heap.size ≤ b ∧ b < wr.heap.size)) 900000 wr g (bs ++ (encI l.length ++ ((l.take k).map opB).flatten)) ∧ RdS OpR R2 wr (.slice ao l.length cap) l ∧ Mod R w wr) (fun t _ => l.length - (intOf t).toNat)
 case atStart => exact ⟨0, rfl, Nat.zero_le _, Nat.le_refl _, by have hq := (Hx1.out.widen (R' := (fun k => R k ∨ (w.heap.size ≤ k ∧ k < u0_3.heap.size))) (by intro k h1; rcases h1 with h1 | h1 <;> first | exact Or.inl h1 | (right; omega)) (Nat.le_refl _)); simpa only [List.take_zero, List.map_nil, List.flatten_nil, List.append_nil] using hq, (HS.out.mod Cx2.out (by intro k h1 h2; first | omega | (have hb := HBT.out k h1; omega) | (have hb := HBR.out k h2; omega) | exact HDJ.out k h1 h2 | exact HDJ.out k h2 h1 | (have hb := HBT.out k h1; have hb2 := HBR.out k h2; omega))), (HM0.out.trans Cx2.out (fun _ _ h => h))⟩
 case round =>
  obtain ⟨k, rfl, hk, hz, hw, hs, hm⟩ := hrel
  have HW2 := Lib.hid hw
  have HS2 := Lib.hid hs
  have HM2 := Lib.hid hm
  clear hw hs hm Hx1 HS HM0
  obtain ⟨wo, rfl⟩ : ∃ x, x = wr := ⟨_, rfl⟩
  by_cases hlt : k < l.length
  ·skip
   obtain ⟨g0, o0, cs, rfl, hrg, hrd, hcs⟩ := HS2.out.at hlt
   have hcl : cs.length = 34 := OpR.len hrd
   have HCL := Lib.hid hcl
   have HAT := hid (show CellsAt R2 wo g0 (o0 + k * 34) cs from ⟨hrg, hcs⟩)
   have HRD := Lib.hid hrd
   have HOC := hid (OpR.one hrd)
   clear hcl hcs hrd hrg
   have HE : Hid (bs ++ (encI l.length ++ ((l.take k).map opB).flatten) ++ opB l[k] = bs ++ (encI l.length ++ ((l.take (k + 1)).map opB).flatten)) := hid (by rw [List.take_succ_eq_append_getElem hlt, List.map_append, List.flatten_append]; simp [List.append_assoc])
   have HLk := hid (show (bs ++ (encI l.length ++ ((l.take k).map opB).flatten) ++ opB l[k]).length ≤ 900000 by rw [HE.out]; exact Nat.le_trans (put_len _ _ _ _ _) HL.out)
   go_upto_region 3 with (fail)
   refine wp_region_U 23 [16, 17, 7, 26] [0, 1, 2, 3] (fun a0 HA0 => ?_)
   have oe12 := ev HA0 12 rfl
   have oe14 := ev HA0 14 rfl
   refine QSeq.pure rfl (.pointer (some ⟨g0, o0 + k * 34, none⟩)) (fun E => ex_idxS (i := k) (s := 34) rfl Tryz.underlying42 (by kernel_rfl) (E.v oe12) (E.v oe14) (by omega)) ?_
   refine QSeq.pure rfl _ (fun E => ex_loadA rfl Tryz.underlying54 rfl (off := o0 + k * 34) (cs := cs) (by rw [HCL.out]; kernel_rfl) (E.d 0 0) (fun j u hu => (HAT.out).2 j u hu)) ?_
   refine QSeq.go fun act E => ?_
   refine qc_alloc rfl (wanted_none rfl) rfl (z := [.int .i64 0, .slice none 0 0, .int .u8 0, .int .u8 0, .int .u8 0, .int .u8 0, .int .u8 0, .int .u8 0, .int .u8 0, .int .u8 0, .int .u8 0, .int .u8 0, .int .u8 0, .int .u8 0, .int .u8 0, .int .u8 0, .int .u8 0, .int .u8 0, .int .u8 0, .int .u8 0, .int .u8 0, .int .u8 0, .int .u8 0, .int .u8 0, .int .u8 0, .int .u8 0, .int .u8 0, .int .u8 0, .int .u8 0, .int .u8 0, .int .u8 0, .int .u8 0, .int .u8 0, .int .u8 0]) (by kernel_rfl) ?_
   intro u3_2 qq hm
   have zl3_2 := qq.lt
   have Hx3 := hid qq
   have zu3_2 := hm.size
   have Cx4 := hid (show Mod (fun _ => False) wo u3_2 from hm)
   clear hm
   clear act E qq
   refine QSeq.go fun act E => ?_
   have hlz : (cs).length = List.length ([.int .i64 0, .slice none 0 0, .int .u8 0, .int .u8 0, .int .u8 0, .int .u8 0, .int .u8 0, .int .u8 0, .int .u8 0, .int .u8 0, .int .u8 0, .int .u8 0, .int .u8 0, .int .u8 0, .int .u8 0, .int .u8 0, .int .u8 0, .int .u8 0, .int .u8 0, .int .u8 0, .int .u8 0, .int .u8 0, .int .u8 0, .int .u8 0, .int .u8 0, .int .u8 0, .int .u8 0, .int .u8 0, .int .u8 0, .int .u8 0, .int .u8 0, .int .u8 0, .int .u8 0, .int .u8 0] : List Value) := (by rw [HCL.out]; rfl)
   refine qc_store rfl (wanted_none rfl) rfl Hx3.out (off := 0) (vs := cs) (by rw [hlz]; kernel_rfl) HOC.out (by rw [hlz]; exact Nat.le_of_eq (Nat.zero_add _)) (E.d 2 0) (ec (E.d 1 1)) ?_
   intro u3_3 qc0 hm
   have qq := qc0.eqv (b := (cs : List Value).toArray) (lay_whole #[.int .i64 0, .slice none 0 0, .int .u8 0, .int .u8 0, .int .u8 0, .int .u8 0, .int .u8 0, .int .u8 0, .int .u8 0, .int .u8 0, .int .u8 0, .int .u8 0, .int .u8 0, .int .u8 0, .int .u8 0, .int .u8 0, .int .u8 0, .int .u8 0, .int .u8 0, .int .u8 0, .int .u8 0, .int .u8 0, .int .u8 0, .int .u8 0, .int .u8 0, .int .u8 0, .int .u8 0, .int .u8 0, .int .u8 0, .int .u8 0, .int .u8 0, .int .u8 0, .int .u8 0, .int .u8 0] _ (by rw [hlz]; rfl))
   clear qc0 hlz
   have Hx5 := hid qq
   have zu3_3 := hm.size
   have HMu3_3 := hid hm
   have Cx6 := hid (Mod.goS (S' := (fun _ => False)) Cx4.out hm (fun _ h => h) (by intro k h0 h2; omega))
   clear hm Cx4
   clear act E qq Hx3
   clear HMu3_3
   refine QSeq.nil (t' := [_, _, _, _]) rfl ?_
   obtain rfl := HA0.out
   clear HA0 oe12 oe14
   simp only [pz, Act.put, sIB, sCZ, sCS, List.set_nil]
   go_upto_region 4 with (fail)
   refine wp_region_U 23 [18, 19, 20, 21] [0, 1, 2, 3] (fun a0 HA0 => ?_)
   have oe0 := ev HA0 0 rfl
   have oe2 := ev HA0 2 rfl
   have oe7 := ev HA0 7 rfl
   refine QSeq.pure rfl _ (fun E => ex_move rfl (E.v oe2)) ?_
   refine QSeq.pure rfl _ (fun E => ex_move rfl (E.v oe0)) ?_
   refine QSeq.pure rfl _ (fun E => ex_loadA rfl Tryz.underlying54 rfl (off := 0) (cs := cs) (by rw [HCL.out]; kernel_rfl) (E.v oe7) (Cs.whole Hx5.out)) ?_
   refine QSeq.go fun act E => ?_
   have ea19 : act.eval (.tmp 19) = .pointer (some ⟨g, 0, none⟩) := (E.d 1 1)
   have ea20 : act.eval (.tmp 20) = .agg cs.toArray := (E.d 2 0)
   refine qc_call (args := #[.pointer (some ⟨g, 0, none⟩), .agg cs.toArray]) rfl (wanted_none rfl) (by rw [ex_callV rfl (E.d 0 2) Tryz.func112 (by kernel_rfl) (by kernel_rfl)]; exact congrArg (fun z => Result.ok (Next.enter _ z) _) (by simp only [List.map_toArray, List.map_cons, List.map_nil, ea19, ea20]; try rfl)) (PutOp_Q _ _ _ _ _ _ _ (HW2.out.mod Cx6.out (fun _ _ h => h)) (by intro k h1; rcases h1 with h1 | h1 <;> first | omega | (have hb := HBR.out k h1; omega)) (HRD.out.mod Cx6.out (fun _ _ h => h)) (by intro k h1; have hb := HBT.out k h1; omega) (by intro k h1 h2; rcases h1 with h1 | h1 <;> first | omega | (have hb := HBR.out k h1; omega) | (have hb := HBT.out k h2; omega) | exact HDJ.out k h1 h2 | exact HDJ.out k h2 h1 | (have hb := HBR.out k h1; have hb2 := HBT.out k h2; omega)) HLk.out) ?_
   rintro e u4_3 ⟨rfl, qwr, hm⟩
   refine ⟨_, rfl, ?_⟩
   have Hx7 := hid (qwr.widen (R' := (fun k => (R k) ∨ (New w wo k) ∨ (New u3_3 u4_3 k))) (by intro k h1; simp only [or_assoc] at h1 ⊢; exact h1) (Nat.le_refl _))
   have zu4_3 := hm.size
   have Cx8 := hid (show Mod (fun k => (R k) ∨ (New w wo k)) u3_3 u4_3 from hm)
   clear hm
   clear act E qwr HW2 ea19 ea20
   refine QSeq.nil (t' := [_, _, _, _]) rfl ?_
   obtain rfl := HA0.out
   clear HA0 oe0 oe2 oe7
   simp only [pz, Act.put, sIB, sCZ, sCS]
   have hq := Hx7.out
   rw [HE.out] at hq
   have HQ := Lib.hid hq
   clear hq
   go_wp2
   go_roundw
   case rel => exact ⟨k + 1, by go_num, by omega, by omega, (HQ.out.widen (by intro b h1; rcases h1 with h1 | h1 | h1 <;> first | exact Or.inl h1 | (right; omega)) (Nat.le_refl _)), ((HS2.out.mod Cx6.out (fun _ _ h => h)).mod Cx8.out (by intro k h1 h2; rcases h2 with h2 | h2 <;> first | omega | (have hb := HBT.out k h1; omega) | (have hb := HBR.out k h2; omega) | exact HDJ.out k h1 h2 | exact HDJ.out k h2 h1 | (have hb := HBT.out k h1; have hb2 := HBR.out k h2; omega))), ((HM2.out.trans Cx6.out (fun _ _ h => h.elim)).trans Cx8.out (by intro k h1 h2; rcases h2 with h2 | h2 <;> first | exact h2 | omega | (have hb := HBR.out k h2; omega)))⟩
   case measure => simp [intOf]; omega
  ·have hkk : k = l.length := by omega
   subst hkk
   go_wp2
   go_end0
   have hq := HW2.out
   rw [List.take_length] at hq
   exact ⟨rfl, hq, HM2.out⟩
set_option maxHeartbeats 4000000 in
theorem PutList_Ce : PutsL CeR 141 106 ceB := by
 intro R R2 g bs v l w hW hB hs hB2 hD hl
 obtain ⟨ao, cap, rfl⟩ := hs.shape
 have hb64 : l.length ≤ maxLen := hs.bd
 rw [maxLen_val] at hb64
 have HI64 := hid (show I64 (l.length : Int) by unfold I64; omega)
 have HW := Lib.hid hW
 have HS := Lib.hid hs
 have HBR := Lib.hid hB
 have HBT := Lib.hid hB2
 have HDJ := Lib.hid hD
 have HL := Lib.hid hl
 clear hW hB hs hB2 hD hl
 unfold listB at HL
 go_enter Tryz.func141, Tryz.ntmps141
 go_upto_region 0 with (fail)
 have HM0 := hid (Mod.refl (fun k => (R k)) w)
 go_upto_region 0 with (fail)
 refine wp_region_U 23 [8, 9, 10, 11] [0, 1, 2, 3] (fun a0 HA0 => ?_)
 have oe0 := ev HA0 0 rfl
 have oe1 := ev HA0 1 rfl
 refine QSeq.pure rfl _ (fun E => ex_move rfl (E.v oe0)) ?_
 refine QSeq.pure rfl _ (fun E => ex_move rfl (E.v oe1)) ?_
 refine QSeq.pure rfl (.int .i64 l.length) (fun E => ex_lenS rfl (E.d 1 0) Tryz.underlying38) ?_
 refine QSeq.call rfl rfl Tryz.func69 (WInt_Q HW.out HI64.out (by have := HL.out; simp only [List.length_append] at this ⊢; omega)) (fun E => args2 (E.d 0 2) (E.d 2 0)) ?_
 rintro e u0_3 ⟨rfl, qwr, hm⟩
 refine ⟨_, rfl, ?_⟩
 have Hx1 := hid (qwr.widen (R' := (fun k => (R k) ∨ (New w u0_3 k))) (fun _ h => h) (Nat.le_refl _))
 have zu0_3 := hm.size
 have Cx2 := hid (show Mod (fun k => (R k)) w u0_3 from hm)
 clear hm
 clear qwr HW
 refine QSeq.nil (t' := [_, _, _, _]) rfl ?_
 obtain rfl := HA0.out
 clear HA0 oe0 oe1
 simp only [pz, Act.put, sIB, sCZ, sCS]
 go_wp2
 go_loopw [14] (fun t wr => ∃ k : Nat, t = .int .i64 (k : Int) ∧ k ≤ l.length ∧ u0_3.heap.size ≤ wr.heap.size ∧ WrR (fun b => R b ∨ (w.heap.size ≤ b ∧ b < wr.heap.size)) 900000 wr g (bs ++ (encI l.length ++ ((l.take k).map ceB).flatten)) ∧ RdS CeR R2 wr (.slice ao l.length cap) l ∧ Mod R w wr) (fun t _ => l.length - (intOf t).toNat)
 case atStart => exact ⟨0, rfl, Nat.zero_le _, Nat.le_refl _, by have hq := (Hx1.out.widen (R' := (fun k => R k ∨ (w.heap.size ≤ k ∧ k < u0_3.heap.size))) (by intro k h1; rcases h1 with h1 | h1 <;> first | exact Or.inl h1 | (right; omega)) (Nat.le_refl _)); simpa only [List.take_zero, List.map_nil, List.flatten_nil, List.append_nil] using hq, (HS.out.mod Cx2.out (by intro k h1 h2; first | omega | (have hb := HBT.out k h1; omega) | (have hb := HBR.out k h2; omega) | exact HDJ.out k h1 h2 | exact HDJ.out k h2 h1 | (have hb := HBT.out k h1; have hb2 := HBR.out k h2; omega))), (HM0.out.trans Cx2.out (fun _ _ h => h))⟩
 case round =>
  obtain ⟨k, rfl, hk, hz, hw, hs, hm⟩ := hrel
  have HW2 := Lib.hid hw
  have HS2 := Lib.hid hs
  have HM2 := Lib.hid hm
  clear hw hs hm Hx1 HS HM0
  obtain ⟨wo, rfl⟩ : ∃ x, x = wr := ⟨_, rfl⟩
  by_cases hlt : k < l.length
  ·skip
   obtain ⟨g0, o0, cs, rfl, hrg, hrd, hcs⟩ := HS2.out.at hlt
   have hcl : cs.length = 38 := CeR.len hrd
   have HCL := Lib.hid hcl
   have HAT := hid (show CellsAt R2 wo g0 (o0 + k * 38) cs from ⟨hrg, hcs⟩)
   have HRD := Lib.hid hrd
   have HOC := hid (CeR.one hrd)
   clear hcl hcs hrd hrg
   have HE : Hid (bs ++ (encI l.length ++ ((l.take k).map ceB).flatten) ++ ceB l[k] = bs ++ (encI l.length ++ ((l.take (k + 1)).map ceB).flatten)) := hid (by rw [List.take_succ_eq_append_getElem hlt, List.map_append, List.flatten_append]; simp [List.append_assoc])
   have HLk := hid (show (bs ++ (encI l.length ++ ((l.take k).map ceB).flatten) ++ ceB l[k]).length ≤ 900000 by rw [HE.out]; exact Nat.le_trans (put_len _ _ _ _ _) HL.out)
   go_upto_region 3 with (fail)
   refine wp_region_U 23 [16, 17, 7, 26] [0, 1, 2, 3] (fun a0 HA0 => ?_)
   have oe12 := ev HA0 12 rfl
   have oe14 := ev HA0 14 rfl
   refine QSeq.pure rfl (.pointer (some ⟨g0, o0 + k * 38, none⟩)) (fun E => ex_idxS (i := k) (s := 38) rfl Tryz.underlying38 (by kernel_rfl) (E.v oe12) (E.v oe14) (by omega)) ?_
   refine QSeq.pure rfl _ (fun E => ex_loadA rfl Tryz.underlying35 rfl (off := o0 + k * 38) (cs := cs) (by rw [HCL.out]; kernel_rfl) (E.d 0 0) (fun j u hu => (HAT.out).2 j u hu)) ?_
   refine QSeq.go fun act E => ?_
   refine qc_alloc rfl (wanted_none rfl) rfl (z := [.int .i64 0, .int .i64 0, .int .u8 0, .int .u8 0, .int .u8 0, .int .u8 0, .int .u8 0, .int .u8 0, .int .u8 0, .int .u8 0, .int .u8 0, .int .u8 0, .int .u8 0, .int .u8 0, .int .u8 0, .int .u8 0, .int .u8 0, .int .u8 0, .int .u8 0, .int .u8 0, .int .u8 0, .int .u8 0, .int .u8 0, .int .u8 0, .int .u8 0, .int .u8 0, .int .u8 0, .int .u8 0, .int .u8 0, .int .u8 0, .int .u8 0, .int .u8 0, .int .u8 0, .int .u8 0, .int .i64 0, .int .i64 0, .int .i64 0, .slice none 0 0]) (by kernel_rfl) ?_
   intro u3_2 qq hm
   have zl3_2 := qq.lt
   have Hx3 := hid qq
   have zu3_2 := hm.size
   have Cx4 := hid (show Mod (fun _ => False) wo u3_2 from hm)
   clear hm
   clear act E qq
   refine QSeq.go fun act E => ?_
   have hlz : (cs).length = List.length ([.int .i64 0, .int .i64 0, .int .u8 0, .int .u8 0, .int .u8 0, .int .u8 0, .int .u8 0, .int .u8 0, .int .u8 0, .int .u8 0, .int .u8 0, .int .u8 0, .int .u8 0, .int .u8 0, .int .u8 0, .int .u8 0, .int .u8 0, .int .u8 0, .int .u8 0, .int .u8 0, .int .u8 0, .int .u8 0, .int .u8 0, .int .u8 0, .int .u8 0, .int .u8 0, .int .u8 0, .int .u8 0, .int .u8 0, .int .u8 0, .int .u8 0, .int .u8 0, .int .u8 0, .int .u8 0, .int .i64 0, .int .i64 0, .int .i64 0, .slice none 0 0] : List Value) := (by rw [HCL.out]; rfl)
   refine qc_store rfl (wanted_none rfl) rfl Hx3.out (off := 0) (vs := cs) (by rw [hlz]; kernel_rfl) HOC.out (by rw [hlz]; exact Nat.le_of_eq (Nat.zero_add _)) (E.d 2 0) (ec (E.d 1 1)) ?_
   intro u3_3 qc0 hm
   have qq := qc0.eqv (b := (cs : List Value).toArray) (lay_whole #[.int .i64 0, .int .i64 0, .int .u8 0, .int .u8 0, .int .u8 0, .int .u8 0, .int .u8 0, .int .u8 0, .int .u8 0, .int .u8 0, .int .u8 0, .int .u8 0, .int .u8 0, .int .u8 0, .int .u8 0, .int .u8 0, .int .u8 0, .int .u8 0, .int .u8 0, .int .u8 0, .int .u8 0, .int .u8 0, .int .u8 0, .int .u8 0, .int .u8 0, .int .u8 0, .int .u8 0, .int .u8 0, .int .u8 0, .int .u8 0, .int .u8 0, .int .u8 0, .int .u8 0, .int .u8 0, .int .i64 0, .int .i64 0, .int .i64 0, .slice none 0 0] _ (by rw [hlz]; rfl))
   clear qc0 hlz
   have Hx5 := hid qq
   have zu3_3 := hm.size
   have HMu3_3 := hid hm
   have Cx6 := hid (Mod.goS (S' := (fun _ => False)) Cx4.out hm (fun _ h => h) (by intro k h0 h2; omega))
   clear hm Cx4
   clear act E qq Hx3
   clear HMu3_3
   refine QSeq.nil (t' := [_, _, _, _]) rfl ?_
   obtain rfl := HA0.out
   clear HA0 oe12 oe14
   simp only [pz, Act.put, sIB, sCZ, sCS, List.set_nil]
   go_upto_region 4 with (fail)
   refine wp_region_U 23 [18, 19, 20, 21] [0, 1, 2, 3] (fun a0 HA0 => ?_)
   have oe0 := ev HA0 0 rfl
   have oe2 := ev HA0 2 rfl
   have oe7 := ev HA0 7 rfl
   refine QSeq.pure rfl _ (fun E => ex_move rfl (E.v oe2)) ?_
   refine QSeq.pure rfl _ (fun E => ex_move rfl (E.v oe0)) ?_
   refine QSeq.pure rfl _ (fun E => ex_loadA rfl Tryz.underlying35 rfl (off := 0) (cs := cs) (by rw [HCL.out]; kernel_rfl) (E.v oe7) (Cs.whole Hx5.out)) ?_
   refine QSeq.go fun act E => ?_
   have ea19 : act.eval (.tmp 19) = .pointer (some ⟨g, 0, none⟩) := (E.d 1 1)
   have ea20 : act.eval (.tmp 20) = .agg cs.toArray := (E.d 2 0)
   refine qc_call (args := #[.pointer (some ⟨g, 0, none⟩), .agg cs.toArray]) rfl (wanted_none rfl) (by rw [ex_callV rfl (E.d 0 2) Tryz.func106 (by kernel_rfl) (by kernel_rfl)]; exact congrArg (fun z => Result.ok (Next.enter _ z) _) (by simp only [List.map_toArray, List.map_cons, List.map_nil, ea19, ea20]; try rfl)) (PutCe_Q _ _ _ _ _ _ _ (HW2.out.mod Cx6.out (fun _ _ h => h)) (by intro k h1; rcases h1 with h1 | h1 <;> first | omega | (have hb := HBR.out k h1; omega)) (HRD.out.mod Cx6.out (fun _ _ h => h)) (by intro k h1; have hb := HBT.out k h1; omega) (by intro k h1 h2; rcases h1 with h1 | h1 <;> first | omega | (have hb := HBR.out k h1; omega) | (have hb := HBT.out k h2; omega) | exact HDJ.out k h1 h2 | exact HDJ.out k h2 h1 | (have hb := HBR.out k h1; have hb2 := HBT.out k h2; omega)) HLk.out) ?_
   rintro e u4_3 ⟨rfl, qwr, hm⟩
   refine ⟨_, rfl, ?_⟩
   have Hx7 := hid (qwr.widen (R' := (fun k => (R k) ∨ (New w wo k) ∨ (New u3_3 u4_3 k))) (by intro k h1; simp only [or_assoc] at h1 ⊢; exact h1) (Nat.le_refl _))
   have zu4_3 := hm.size
   have Cx8 := hid (show Mod (fun k => (R k) ∨ (New w wo k)) u3_3 u4_3 from hm)
   clear hm
   clear act E qwr HW2 ea19 ea20
   refine QSeq.nil (t' := [_, _, _, _]) rfl ?_
   obtain rfl := HA0.out
   clear HA0 oe0 oe2 oe7
   simp only [pz, Act.put, sIB, sCZ, sCS]
   have hq := Hx7.out
   rw [HE.out] at hq
   have HQ := Lib.hid hq
   clear hq
   go_wp2
   go_roundw
   case rel => exact ⟨k + 1, by go_num, by omega, by omega, (HQ.out.widen (by intro b h1; rcases h1 with h1 | h1 | h1 <;> first | exact Or.inl h1 | (right; omega)) (Nat.le_refl _)), ((HS2.out.mod Cx6.out (fun _ _ h => h)).mod Cx8.out (by intro k h1 h2; rcases h2 with h2 | h2 <;> first | omega | (have hb := HBT.out k h1; omega) | (have hb := HBR.out k h2; omega) | exact HDJ.out k h1 h2 | exact HDJ.out k h2 h1 | (have hb := HBT.out k h1; have hb2 := HBR.out k h2; omega))), ((HM2.out.trans Cx6.out (fun _ _ h => h.elim)).trans Cx8.out (by intro k h1 h2; rcases h2 with h2 | h2 <;> first | exact h2 | omega | (have hb := HBR.out k h2; omega)))⟩
   case measure => simp [intOf]; omega
  ·have hkk : k = l.length := by omega
   subst hkk
   go_wp2
   go_end0
   have hq := HW2.out
   rw [List.take_length] at hq
   exact ⟨rfl, hq, HM2.out⟩
set_option maxHeartbeats 4000000 in
theorem PutPm_Q : Puts PmR 108 pmB := by
 intro R R2 g bs cs x w hW hB hx hB2 hD hl
 obtain ⟨v_l, rfl, hok, hs0⟩ := hx
 have HS0 := Lib.hid hs0
 clear hs0
 have HW := Lib.hid hW
 have HBR := Lib.hid hB
 have HBT := Lib.hid hB2
 have HDJ := Lib.hid hD
 have HOK := Lib.hid hok
 have HL := Lib.hid hl
 clear hW hB hB2 hD hl hok
 unfold pmB at HL
 go_enter Tryz.func108, Tryz.ntmps108
 go_upto_region 1 with (fail)
 obtain ⟨w1, hw1⟩ : ∃ zz, zz = (w.alloc (.cells (x.cells v_l : List Value).toArray 40)) := ⟨_, rfl⟩
 change Code.wp _ _ _ _ (w.alloc (.cells (x.cells v_l : List Value).toArray 40))
 rw [← hw1]
 have HB3 := hid (show Cs w1 (w.heap.size) (x.cells v_l : List Value).toArray 40 by rw [hw1]; exact Cs.new _ _ _)
 have hm : Mod (fun _ => False) w w1 := by rw [hw1]; exact (Mod.refl _ _).alloc _
 have HM0 := hid (show Mod (fun k => (R k)) w w1 from hm.mono (fun _ _ h => h.elim))
 have hs1 : w1.heap.size = w.heap.size + 1 := by rw [hw1]; simp
 have Hx1 := hid (HW.out.mod hm (fun _ _ h => h))
 clear HW
 have Hx2 := hid (HS0.out.mod hm (fun _ _ h => h))
 clear HS0
 clear hw1 hm
 go_upto_region 1 with (fail)
 generalize ha0 : Act.mk _ _ = a0
 have oe0 : a0.eval (.tmp 0) = .pointer (some ⟨g, 0, none⟩) := by rw [← ha0]; rfl
 have oe3 : a0.eval (.tmp 3) = .pointer (some ⟨w.heap.size, 0, none⟩) := by rw [← ha0]; rfl
 have hsz0 : a0.tmps.size = 22 := by rw [← ha0]; rfl
 have HA0 := hid ha0
 clear ha0
 refine wp_region_Q1 22 hsz0 [4, 5, 6, 7, 8, 9, 10, 11, 12, 13] (fun k => (R k)) (fun k j => (k = 0 ∧ ((R j))) ∨ (k = 1 ∧ ((R j))) ∨ (k = 2 ∧ ((R j)))) (by intro k j h; (try dsimp only at h ⊢); rcases h with ⟨-, h⟩ | ⟨-, h⟩ | ⟨-, h⟩; (exact h); (exact h); (exact h)) [qi (.pointer (some ⟨g, 0, none⟩)), qi (.pointer (some ⟨w.heap.size, 0, none⟩)), qi (.int .i64 x.rp), qi (.pointer (some ⟨g, 0, none⟩)), qi (.pointer (some ⟨w.heap.size, 1, none⟩)), qi (.int .i64 x.ep), qi (.pointer (some ⟨g, 0, none⟩)), qi (.pointer (some ⟨w.heap.size, 2, none⟩)), qi (.int .u64 (x.fl : Nat)), qi (.pointer (some ⟨g, 0, none⟩))] ⟨qi_stable, qi_stable, qi_stable, qi_stable, qi_stable, qi_stable, qi_stable, qi_stable, qi_stable, qi_stable, trivial⟩ [3, 6, 9] ⟨?_, ?_, ?_, ?_, ?_, ?_, ?_, ?_, ?_, ?_, trivial⟩ ?_
 ·exact stq (fun E => ex_move rfl (E.v oe0))
 ·exact stq (fun E => ex_field rfl Tryz.underlying40 rfl (by kernel_rfl) (E.v oe3))
 ·exact stq (fun E => ex_load1 rfl Tryz.underlying3 rfl (E.d 1) (Cs.lit1 (HB3.out.mod E.m (by intro h2; rcases h2 with ⟨h0, h2⟩ | h2 <;> first | omega | (have hb := HBR.out _ h2; omega))) rfl))
 ·exact stepq_chain rfl
 ·exact stq (fun E => ex_field rfl Tryz.underlying40 rfl (by kernel_rfl) (E.v oe3))
 ·exact stq (fun E => ex_load1 rfl Tryz.underlying3 rfl (E.d 4) (Cs.lit1 (HB3.out.mod E.m (by intro h2; rcases h2 with ⟨h0, h2⟩ | h2 <;> first | omega | (have hb := HBR.out _ h2; omega))) rfl))
 ·exact stepq_chain rfl
 ·exact stq (fun E => ex_field rfl Tryz.underlying40 rfl (by kernel_rfl) (E.v oe3))
 ·exact stq (fun E => ex_load1 rfl Tryz.underlying30 rfl (E.d 7) (Cs.lit1 (HB3.out.mod E.m (by intro h2; rcases h2 with ⟨h0, h2⟩ | h2 <;> first | omega | (have hb := HBR.out _ h2; omega))) rfl))
 ·exact stepq_chain rfl
 intro u1_0 hr
 have zu1_0 := hr.size
 have Cx3 := hid (hr.new (S := (fun k => (R k))))
 have Hx4 := hid (Hx1.out.mod hr (by intro k h1 h2; have hb := HBR.out k h1; omega))
 clear Hx1
 clear hr
 refine QChain.go fun Z act E => ?_
 refine qc_callF (args := #[.pointer (some ⟨g, 0, none⟩), .int .i64 x.rp]) rfl (wanted_none rfl) rfl Tryz.func69 (args2 (E.d 0) (E.d 2)) (WInt_Q Hx4.out HOK.out.1 (by have := HL.out; simp only [List.length_append] at this ⊢; omega)) ?_
 rintro e u1_1a ⟨rfl, qwr, hm⟩
 have zu1_1a := hm.size
 refine ⟨_, rfl, hm.mono (by intro k hk h; first | omega | exact Or.inl ⟨(by have hb := HBR.out k h; omega), Or.inl ⟨rfl, h⟩⟩), (fun _ => rfl), ?_⟩
 intro u1_1 hr
 have zu1_1 := hr.size
 have Hx5 := hid ((qwr.widen (R' := (fun k => (R k) ∨ (New u1_0 u1_1a k))) (fun _ h => h) (Nat.le_refl _)).mod hr (by intro k h1 h2; rcases h1 with h1 | h1 <;> first | omega | (have hb := HBR.out k h1; omega)))
 have Cx6 := hid (Cx3.out.goM hm hr (fun _ _ h => h))
 clear Cx3 hm hr Z act E qwr Hx4
 refine QChain.go fun Z act E => ?_
 refine qc_callF (args := #[.pointer (some ⟨g, 0, none⟩), .int .i64 x.ep]) rfl (wanted_none rfl) rfl Tryz.func69 (args2 (E.d 3) (E.d 5)) (WInt_Q Hx5.out HOK.out.2.1 (by have := HL.out; simp only [List.length_append] at this ⊢; omega)) ?_
 rintro e u1_2a ⟨rfl, qwr, hm⟩
 have zu1_2a := hm.size
 refine ⟨_, rfl, hm.mono (by intro k hk h; rcases h with h | h <;> first | omega | exact Or.inl ⟨(by have hb := HBR.out k h; omega), Or.inr (Or.inl ⟨rfl, h⟩)⟩), (fun _ => rfl), ?_⟩
 intro u1_2 hr
 have zu1_2 := hr.size
 have Hx7 := hid ((qwr.widen (R' := (fun k => (R k) ∨ (New u1_0 u1_1a k) ∨ (New u1_1 u1_2a k))) (by intro k h1; simp only [or_assoc] at h1 ⊢; exact h1) (Nat.le_refl _)).mod hr (by intro k h1 h2; rcases h1 with h1 | h1 | h1 <;> first | omega | (have hb := HBR.out k h1; omega)))
 have Cx8 := hid (Cx6.out.goM hm hr (by intro k h0 h2; rcases h2 with h2 | h2 <;> first | omega | exact h2))
 clear Cx6 hm hr Z act E qwr Hx5
 refine QChain.go fun Z act E => ?_
 refine qc_callF (args := #[.pointer (some ⟨g, 0, none⟩), .int .u64 (x.fl : Nat)]) rfl (wanted_none rfl) rfl Tryz.func103 (args2 (E.d 6) (E.d 8)) (WNum_Q Hx7.out HOK.out.2.2.1 (by have := HL.out; simp only [List.length_append] at this ⊢; omega)) ?_
 rintro e u1_3a ⟨rfl, qwr, hm⟩
 have zu1_3a := hm.size
 refine ⟨_, rfl, hm.mono (by intro k hk h; rcases h with h | h | h <;> first | omega | exact Or.inl ⟨(by have hb := HBR.out k h; omega), Or.inr (Or.inr (⟨rfl, h⟩))⟩), (fun _ => rfl), ?_⟩
 intro u1_3 hr
 have zu1_3 := hr.size
 have Hx9 := hid ((qwr.widen (R' := (fun k => (R k) ∨ (New u1_0 u1_1a k) ∨ (New u1_1 u1_2a k) ∨ (New u1_2 u1_3a k))) (by intro k h1; simp only [or_assoc] at h1 ⊢; exact h1) (Nat.le_refl _)).mod hr (by intro k h1 h2; rcases h1 with h1 | h1 | h1 | h1 <;> first | omega | (have hb := HBR.out k h1; omega)))
 have Cx10 := hid (Cx8.out.goM hm hr (by intro k h0 h2; rcases h2 with h2 | h2 | h2 <;> first | omega | exact h2))
 clear Cx8 hm hr Z act E qwr Hx7
 refine QChain.nil fun vs hl hzz hrows hne => ?_
 obtain ⟨Z, hYZ, hZb, hV⟩ := hzz
 have f0 := fvi hV hl 0
 have f3 := fvi hV hl 3
 have f6 := fvi hV hl 6
 have f9 := fvi hV hl 9
 rw [show vs = [gw vs 0, gw vs 1, gw vs 2, gw vs 3, gw vs 4, gw vs 5, gw vs 6, gw vs 7, gw vs 8, gw vs 9] from (gw_eta hl).trans rfl]
 have ha0 := HA0.out
 subst ha0
 clear HA0 hV hYZ hZb hsz0 hrows hne oe0 oe3
 simp only [putAll, Act.put, sIB, sCZ, sCS, f0, f3, f6, f9]
 clear hl f0 f3 f6 f9
 go_upto_region 2 with (fail)
 refine wp_region_U 22 [14, 15, 16, 17] [0, 1, 2, 3] (fun a0 HA0 => ?_)
 have oe0 := ev HA0 0 rfl
 have oe3 := ev HA0 3 rfl
 refine QSeq.pure rfl _ (fun E => ex_move rfl (E.v oe0)) ?_
 refine QSeq.pure rfl (.pointer (some ⟨w.heap.size, 3, none⟩)) (fun E => ex_field rfl Tryz.underlying40 rfl (by kernel_rfl) (E.v oe3)) ?_
 refine QSeq.pure rfl _ (fun E => ex_load1 rfl Tryz.underlying38 rfl (E.d 1 0) (Cs.lit1 (HB3.out.mod Cx10.out (by intro h2; first | omega | (have hb := HBR.out _ h2; omega))) rfl)) ?_
 refine QSeq.call rfl rfl Tryz.func141 (PutList_Ce _ _ _ _ _ _ _ Hx9.out (by intro k h1; rcases h1 with h1 | h1 | h1 | h1 <;> first | omega | (have hb := HBR.out k h1; omega)) (Hx2.out.mod Cx10.out (by intro k h1 h2; first | omega | (have hb := HBT.out k h1; omega) | (have hb := HBR.out k h2; omega) | exact HDJ.out k h1 h2 | exact HDJ.out k h2 h1 | (have hb := HBT.out k h1; have hb2 := HBR.out k h2; omega))) (by intro k h1; have hb := HBT.out k h1; omega) (by intro k h1 h2; rcases h1 with h1 | h1 | h1 | h1 <;> first | omega | (have hb := HBR.out k h1; omega) | (have hb := HBT.out k h2; omega) | exact HDJ.out k h1 h2 | exact HDJ.out k h2 h1 | (have hb := HBR.out k h1; have hb2 := HBT.out k h2; omega)) (by have := HL.out; simp only [List.length_append] at this ⊢; omega)) (fun E => args3 (E.d 0 2) (E.d 2 0) rfl) ?_
 rintro e u2_3 ⟨rfl, qwr, hm⟩
 refine ⟨_, rfl, ?_⟩
 have Hx11 := hid (qwr.widen (R' := (fun k => (R k) ∨ (New u1_0 u1_1a k) ∨ (New u1_1 u1_2a k) ∨ (New u1_2 u1_3a k) ∨ (New u1_3 u2_3 k))) (by intro k h1; simp only [or_assoc] at h1 ⊢; exact h1) (Nat.le_refl _))
 have zu2_3 := hm.size
 have Cx12 := hid (show Mod (fun k => (R k) ∨ (New u1_0 u1_1a k) ∨ (New u1_1 u1_2a k) ∨ (New u1_2 u1_3a k)) u1_3 u2_3 from hm)
 clear hm
 clear qwr Hx9
 refine QSeq.nil (t' := [_, _, _, _]) rfl ?_
 obtain rfl := HA0.out
 clear HA0 oe0 oe3
 simp only [pz, Act.put, sIB, sCZ, sCS]
 go_upto_region 3 with (fail)
 refine wp_region_U 22 [18, 19, 20, 21] [0, 1, 2, 3] (fun a0 HA0 => ?_)
 have oe0 := ev HA0 0 rfl
 have oe3 := ev HA0 3 rfl
 refine QSeq.pure rfl _ (fun E => ex_move rfl (E.v oe0)) ?_
 refine QSeq.pure rfl (.pointer (some ⟨w.heap.size, 4, none⟩)) (fun E => ex_field rfl Tryz.underlying40 rfl (by kernel_rfl) (E.v oe3)) ?_
 refine QSeq.pure rfl _ (fun E => ex_loadA rfl Tryz.underlying27 rfl (off := 4) (cs := [.int .i64 x.sb, .int .i64 x.mr]) (by kernel_rfl) (E.d 1 0) (Cs.litA ((HB3.out.mod Cx10.out (by intro h2; first | omega | (have hb := HBR.out _ h2; omega))).mod Cx12.out (by intro h2; rcases h2 with h2 | h2 | h2 | h2 <;> first | omega | (have hb := HBR.out _ h2; omega))) rfl)) ?_
 refine QSeq.call rfl rfl Tryz.func139 (PutSig_Q Hx11.out (by intro k h1; rcases h1 with h1 | h1 | h1 | h1 | h1 <;> first | omega | (have hb := HBR.out k h1; omega)) HOK.out.2.2.2.1 HOK.out.2.2.2.2 (by have := HL.out; simp only [List.length_append] at this ⊢; omega)) (fun E => args2 (E.d 0 2) (E.d 2 0)) ?_
 rintro e u3_3 ⟨rfl, qwr, hm⟩
 refine ⟨_, rfl, ?_⟩
 have Hx13 := hid (qwr.widen (R' := (fun k => (R k) ∨ (New u1_0 u1_1a k) ∨ (New u1_1 u1_2a k) ∨ (New u1_2 u1_3a k) ∨ (New u1_3 u2_3 k) ∨ (New u2_3 u3_3 k))) (by intro k h1; simp only [or_assoc] at h1 ⊢; exact h1) (Nat.le_refl _))
 have zu3_3 := hm.size
 have Cx14 := hid (show Mod (fun k => (R k) ∨ (New u1_0 u1_1a k) ∨ (New u1_1 u1_2a k) ∨ (New u1_2 u1_3a k) ∨ (New u1_3 u2_3 k)) u2_3 u3_3 from hm)
 clear hm
 clear qwr Hx11
 refine QSeq.nil (t' := [_, _, _, _]) rfl ?_
 obtain rfl := HA0.out
 clear HA0 oe0 oe3
 simp only [pz, Act.put, sIB, sCZ, sCS]
 go_wp2
 go_end0
 have hq := (Hx13.out.widen (R' := (fun k => R k ∨ New w u3_3 k)) (by intro k h1; rcases h1 with h1 | h1 | h1 | h1 | h1 | h1 <;> first | exact Or.inl h1 | (right; omega)) (Nat.le_refl _))
 simp only [List.append_assoc] at hq
 exact ⟨rfl, by simpa only [pmB, List.append_assoc] using hq, (((HM0.out.trans Cx10.out (fun _ _ h => h)).trans Cx12.out (by intro k h1 h2; rcases h2 with h2 | h2 | h2 | h2 <;> first | exact h2 | omega | (have hb := HBR.out k h2; omega))).trans Cx14.out (by intro k h1 h2; rcases h2 with h2 | h2 | h2 | h2 | h2 <;> first | exact h2 | omega | (have hb := HBR.out k h2; omega)))⟩
set_option maxHeartbeats 4000000 in
theorem PutList_Pm : PutsL PmR 142 108 pmB := by
 intro R R2 g bs v l w hW hB hs hB2 hD hl
 obtain ⟨ao, cap, rfl⟩ := hs.shape
 have hb64 : l.length ≤ maxLen := hs.bd
 rw [maxLen_val] at hb64
 have HI64 := hid (show I64 (l.length : Int) by unfold I64; omega)
 have HW := Lib.hid hW
 have HS := Lib.hid hs
 have HBR := Lib.hid hB
 have HBT := Lib.hid hB2
 have HDJ := Lib.hid hD
 have HL := Lib.hid hl
 clear hW hB hs hB2 hD hl
 unfold listB at HL
 go_enter Tryz.func142, Tryz.ntmps142
 go_upto_region 0 with (fail)
 have HM0 := hid (Mod.refl (fun k => (R k)) w)
 go_upto_region 0 with (fail)
 refine wp_region_U 23 [8, 9, 10, 11] [0, 1, 2, 3] (fun a0 HA0 => ?_)
 have oe0 := ev HA0 0 rfl
 have oe1 := ev HA0 1 rfl
 refine QSeq.pure rfl _ (fun E => ex_move rfl (E.v oe0)) ?_
 refine QSeq.pure rfl _ (fun E => ex_move rfl (E.v oe1)) ?_
 refine QSeq.pure rfl (.int .i64 l.length) (fun E => ex_lenS rfl (E.d 1 0) Tryz.underlying41) ?_
 refine QSeq.call rfl rfl Tryz.func69 (WInt_Q HW.out HI64.out (by have := HL.out; simp only [List.length_append] at this ⊢; omega)) (fun E => args2 (E.d 0 2) (E.d 2 0)) ?_
 rintro e u0_3 ⟨rfl, qwr, hm⟩
 refine ⟨_, rfl, ?_⟩
 have Hx1 := hid (qwr.widen (R' := (fun k => (R k) ∨ (New w u0_3 k))) (fun _ h => h) (Nat.le_refl _))
 have zu0_3 := hm.size
 have Cx2 := hid (show Mod (fun k => (R k)) w u0_3 from hm)
 clear hm
 clear qwr HW
 refine QSeq.nil (t' := [_, _, _, _]) rfl ?_
 obtain rfl := HA0.out
 clear HA0 oe0 oe1
 simp only [pz, Act.put, sIB, sCZ, sCS]
 go_wp2
 go_loopw [14] (fun t wr => ∃ k : Nat, t = .int .i64 (k : Int) ∧ k ≤ l.length ∧ u0_3.heap.size ≤ wr.heap.size ∧ WrR (fun b => R b ∨ (w.heap.size ≤ b ∧ b < wr.heap.size)) 900000 wr g (bs ++ (encI l.length ++ ((l.take k).map pmB).flatten)) ∧ RdS PmR R2 wr (.slice ao l.length cap) l ∧ Mod R w wr) (fun t _ => l.length - (intOf t).toNat)
 case atStart => exact ⟨0, rfl, Nat.zero_le _, Nat.le_refl _, by have hq := (Hx1.out.widen (R' := (fun k => R k ∨ (w.heap.size ≤ k ∧ k < u0_3.heap.size))) (by intro k h1; rcases h1 with h1 | h1 <;> first | exact Or.inl h1 | (right; omega)) (Nat.le_refl _)); simpa only [List.take_zero, List.map_nil, List.flatten_nil, List.append_nil] using hq, (HS.out.mod Cx2.out (by intro k h1 h2; first | omega | (have hb := HBT.out k h1; omega) | (have hb := HBR.out k h2; omega) | exact HDJ.out k h1 h2 | exact HDJ.out k h2 h1 | (have hb := HBT.out k h1; have hb2 := HBR.out k h2; omega))), (HM0.out.trans Cx2.out (fun _ _ h => h))⟩
 case round =>
  obtain ⟨k, rfl, hk, hz, hw, hs, hm⟩ := hrel
  have HW2 := Lib.hid hw
  have HS2 := Lib.hid hs
  have HM2 := Lib.hid hm
  clear hw hs hm Hx1 HS HM0
  obtain ⟨wo, rfl⟩ : ∃ x, x = wr := ⟨_, rfl⟩
  by_cases hlt : k < l.length
  ·skip
   obtain ⟨g0, o0, cs, rfl, hrg, hrd, hcs⟩ := HS2.out.at hlt
   have hcl : cs.length = 6 := PmR.len hrd
   have HCL := Lib.hid hcl
   have HAT := hid (show CellsAt R2 wo g0 (o0 + k * 6) cs from ⟨hrg, hcs⟩)
   have HRD := Lib.hid hrd
   have HOC := hid (PmR.one hrd)
   clear hcl hcs hrd hrg
   have HE : Hid (bs ++ (encI l.length ++ ((l.take k).map pmB).flatten) ++ pmB l[k] = bs ++ (encI l.length ++ ((l.take (k + 1)).map pmB).flatten)) := hid (by rw [List.take_succ_eq_append_getElem hlt, List.map_append, List.flatten_append]; simp [List.append_assoc])
   have HLk := hid (show (bs ++ (encI l.length ++ ((l.take k).map pmB).flatten) ++ pmB l[k]).length ≤ 900000 by rw [HE.out]; exact Nat.le_trans (put_len _ _ _ _ _) HL.out)
   go_upto_region 3 with (fail)
   refine wp_region_U 23 [16, 17, 7, 26] [0, 1, 2, 3] (fun a0 HA0 => ?_)
   have oe12 := ev HA0 12 rfl
   have oe14 := ev HA0 14 rfl
   refine QSeq.pure rfl (.pointer (some ⟨g0, o0 + k * 6, none⟩)) (fun E => ex_idxS (i := k) (s := 6) rfl Tryz.underlying41 (by kernel_rfl) (E.v oe12) (E.v oe14) (by omega)) ?_
   refine QSeq.pure rfl _ (fun E => ex_loadA rfl Tryz.underlying40 rfl (off := o0 + k * 6) (cs := cs) (by rw [HCL.out]; kernel_rfl) (E.d 0 0) (fun j u hu => (HAT.out).2 j u hu)) ?_
   refine QSeq.go fun act E => ?_
   refine qc_alloc rfl (wanted_none rfl) rfl (z := [.int .i64 0, .int .i64 0, .int .u64 0, .slice none 0 0, .int .i64 0, .int .i64 0]) (by kernel_rfl) ?_
   intro u3_2 qq hm
   have zl3_2 := qq.lt
   have Hx3 := hid qq
   have zu3_2 := hm.size
   have Cx4 := hid (show Mod (fun _ => False) wo u3_2 from hm)
   clear hm
   clear act E qq
   refine QSeq.go fun act E => ?_
   have hlz : (cs).length = List.length ([.int .i64 0, .int .i64 0, .int .u64 0, .slice none 0 0, .int .i64 0, .int .i64 0] : List Value) := (by rw [HCL.out]; rfl)
   refine qc_store rfl (wanted_none rfl) rfl Hx3.out (off := 0) (vs := cs) (by rw [hlz]; kernel_rfl) HOC.out (by rw [hlz]; exact Nat.le_of_eq (Nat.zero_add _)) (E.d 2 0) (ec (E.d 1 1)) ?_
   intro u3_3 qc0 hm
   have qq := qc0.eqv (b := (cs : List Value).toArray) (lay_whole #[.int .i64 0, .int .i64 0, .int .u64 0, .slice none 0 0, .int .i64 0, .int .i64 0] _ (by rw [hlz]; rfl))
   clear qc0 hlz
   have Hx5 := hid qq
   have zu3_3 := hm.size
   have HMu3_3 := hid hm
   have Cx6 := hid (Mod.goS (S' := (fun _ => False)) Cx4.out hm (fun _ h => h) (by intro k h0 h2; omega))
   clear hm Cx4
   clear act E qq Hx3
   clear HMu3_3
   refine QSeq.nil (t' := [_, _, _, _]) rfl ?_
   obtain rfl := HA0.out
   clear HA0 oe12 oe14
   simp only [pz, Act.put, sIB, sCZ, sCS, List.set_nil]
   go_upto_region 4 with (fail)
   refine wp_region_U 23 [18, 19, 20, 21] [0, 1, 2, 3] (fun a0 HA0 => ?_)
   have oe0 := ev HA0 0 rfl
   have oe2 := ev HA0 2 rfl
   have oe7 := ev HA0 7 rfl
   refine QSeq.pure rfl _ (fun E => ex_move rfl (E.v oe2)) ?_
   refine QSeq.pure rfl _ (fun E => ex_move rfl (E.v oe0)) ?_
   refine QSeq.pure rfl _ (fun E => ex_loadA rfl Tryz.underlying40 rfl (off := 0) (cs := cs) (by rw [HCL.out]; kernel_rfl) (E.v oe7) (Cs.whole Hx5.out)) ?_
   refine QSeq.go fun act E => ?_
   have ea19 : act.eval (.tmp 19) = .pointer (some ⟨g, 0, none⟩) := (E.d 1 1)
   have ea20 : act.eval (.tmp 20) = .agg cs.toArray := (E.d 2 0)
   refine qc_call (args := #[.pointer (some ⟨g, 0, none⟩), .agg cs.toArray]) rfl (wanted_none rfl) (by rw [ex_callV rfl (E.d 0 2) Tryz.func108 (by kernel_rfl) (by kernel_rfl)]; exact congrArg (fun z => Result.ok (Next.enter _ z) _) (by simp only [List.map_toArray, List.map_cons, List.map_nil, ea19, ea20]; try rfl)) (PutPm_Q _ _ _ _ _ _ _ (HW2.out.mod Cx6.out (fun _ _ h => h)) (by intro k h1; rcases h1 with h1 | h1 <;> first | omega | (have hb := HBR.out k h1; omega)) (HRD.out.mod Cx6.out (fun _ _ h => h)) (by intro k h1; have hb := HBT.out k h1; omega) (by intro k h1 h2; rcases h1 with h1 | h1 <;> first | omega | (have hb := HBR.out k h1; omega) | (have hb := HBT.out k h2; omega) | exact HDJ.out k h1 h2 | exact HDJ.out k h2 h1 | (have hb := HBR.out k h1; have hb2 := HBT.out k h2; omega)) HLk.out) ?_
   rintro e u4_3 ⟨rfl, qwr, hm⟩
   refine ⟨_, rfl, ?_⟩
   have Hx7 := hid (qwr.widen (R' := (fun k => (R k) ∨ (New w wo k) ∨ (New u3_3 u4_3 k))) (by intro k h1; simp only [or_assoc] at h1 ⊢; exact h1) (Nat.le_refl _))
   have zu4_3 := hm.size
   have Cx8 := hid (show Mod (fun k => (R k) ∨ (New w wo k)) u3_3 u4_3 from hm)
   clear hm
   clear act E qwr HW2 ea19 ea20
   refine QSeq.nil (t' := [_, _, _, _]) rfl ?_
   obtain rfl := HA0.out
   clear HA0 oe0 oe2 oe7
   simp only [pz, Act.put, sIB, sCZ, sCS]
   have hq := Hx7.out
   rw [HE.out] at hq
   have HQ := Lib.hid hq
   clear hq
   go_wp2
   go_roundw
   case rel => exact ⟨k + 1, by go_num, by omega, by omega, (HQ.out.widen (by intro b h1; rcases h1 with h1 | h1 | h1 <;> first | exact Or.inl h1 | (right; omega)) (Nat.le_refl _)), ((HS2.out.mod Cx6.out (fun _ _ h => h)).mod Cx8.out (by intro k h1 h2; rcases h2 with h2 | h2 <;> first | omega | (have hb := HBT.out k h1; omega) | (have hb := HBR.out k h2; omega) | exact HDJ.out k h1 h2 | exact HDJ.out k h2 h1 | (have hb := HBT.out k h1; have hb2 := HBR.out k h2; omega))), ((HM2.out.trans Cx6.out (fun _ _ h => h.elim)).trans Cx8.out (by intro k h1 h2; rcases h2 with h2 | h2 <;> first | exact h2 | omega | (have hb := HBR.out k h2; omega)))⟩
   case measure => simp [intOf]; omega
  ·have hkk : k = l.length := by omega
   subst hkk
   go_wp2
   go_end0
   have hq := HW2.out
   rw [List.take_length] at hq
   exact ⟨rfl, hq, HM2.out⟩
set_option maxHeartbeats 4000000 in
theorem PutBa_Q : Puts BaR 115 baB := by
 intro R R2 g bs cs x w hW hB hx hB2 hD hl
 obtain ⟨v_ps, v_os, v_ts, rfl, hok, hs0, hs1, hs2⟩ := hx
 have HS0 := Lib.hid hs0
 clear hs0
 have HS1 := Lib.hid hs1
 clear hs1
 have HS2 := Lib.hid hs2
 clear hs2
 have HW := Lib.hid hW
 have HBR := Lib.hid hB
 have HBT := Lib.hid hB2
 have HDJ := Lib.hid hD
 have HOK := Lib.hid hok
 have HL := Lib.hid hl
 clear hW hB hB2 hD hl hok
 unfold baB at HL
 go_enter Tryz.func115, Tryz.ntmps115
 go_upto_region 1 with (fail)
 obtain ⟨w1, hw1⟩ : ∃ zz, zz = (w.alloc (.cells (x.cells v_ps v_os v_ts : List Value).toArray 45)) := ⟨_, rfl⟩
 change Code.wp _ _ _ _ (w.alloc (.cells (x.cells v_ps v_os v_ts : List Value).toArray 45))
 rw [← hw1]
 have HB3 := hid (show Cs w1 (w.heap.size) (x.cells v_ps v_os v_ts : List Value).toArray 45 by rw [hw1]; exact Cs.new _ _ _)
 have hm : Mod (fun _ => False) w w1 := by rw [hw1]; exact (Mod.refl _ _).alloc _
 have HM0 := hid (show Mod (fun k => (R k)) w w1 from hm.mono (fun _ _ h => h.elim))
 have hs1 : w1.heap.size = w.heap.size + 1 := by rw [hw1]; simp
 have Hx1 := hid (HW.out.mod hm (fun _ _ h => h))
 clear HW
 have Hx2 := hid (HS0.out.mod hm (fun _ _ h => h))
 clear HS0
 have Hx3 := hid (HS1.out.mod hm (fun _ _ h => h))
 clear HS1
 have Hx4 := hid (HS2.out.mod hm (fun _ _ h => h))
 clear HS2
 clear hw1 hm
 go_upto_region 1 with (fail)
 generalize ha0 : Act.mk _ _ = a0
 have oe0 : a0.eval (.tmp 0) = .pointer (some ⟨g, 0, none⟩) := by rw [← ha0]; rfl
 have oe3 : a0.eval (.tmp 3) = .pointer (some ⟨w.heap.size, 0, none⟩) := by rw [← ha0]; rfl
 have hsz0 : a0.tmps.size = 23 := by rw [← ha0]; rfl
 have HA0 := hid ha0
 clear ha0
 refine wp_region_Q1 23 hsz0 [4, 5, 6, 7, 8, 9, 10] (fun k => (R k)) (fun k j => (k = 0 ∧ ((R j))) ∨ (k = 1 ∧ ((R j)))) (by intro k j h; (try dsimp only at h ⊢); rcases h with ⟨-, h⟩ | ⟨-, h⟩; (exact h); (exact h)) [qi (.pointer (some ⟨g, 0, none⟩)), qi (.pointer (some ⟨w.heap.size, 0, none⟩)), qi (.int .i64 x.ep), qi (.pointer (some ⟨g, 0, none⟩)), qi (.pointer (some ⟨w.heap.size, 1, none⟩)), qi (.int .u64 (x.tm : Nat)), qi (.pointer (some ⟨g, 0, none⟩))] ⟨qi_stable, qi_stable, qi_stable, qi_stable, qi_stable, qi_stable, qi_stable, trivial⟩ [3, 6] ⟨?_, ?_, ?_, ?_, ?_, ?_, ?_, trivial⟩ ?_
 ·exact stq (fun E => ex_move rfl (E.v oe0))
 ·exact stq (fun E => ex_field rfl Tryz.underlying45 rfl (by kernel_rfl) (E.v oe3))
 ·exact stq (fun E => ex_load1 rfl Tryz.underlying3 rfl (E.d 1) (Cs.lit1 (HB3.out.mod E.m (by intro h2; rcases h2 with ⟨h0, h2⟩ | h2 <;> first | omega | (have hb := HBR.out _ h2; omega))) rfl))
 ·exact stepq_chain rfl
 ·exact stq (fun E => ex_field rfl Tryz.underlying45 rfl (by kernel_rfl) (E.v oe3))
 ·exact stq (fun E => ex_load1 rfl Tryz.underlying30 rfl (E.d 4) (Cs.lit1 (HB3.out.mod E.m (by intro h2; rcases h2 with ⟨h0, h2⟩ | h2 <;> first | omega | (have hb := HBR.out _ h2; omega))) rfl))
 ·exact stepq_chain rfl
 intro u1_0 hr
 have zu1_0 := hr.size
 have Cx5 := hid (hr.new (S := (fun k => (R k))))
 have Hx6 := hid (Hx1.out.mod hr (by intro k h1 h2; have hb := HBR.out k h1; omega))
 clear Hx1
 clear hr
 refine QChain.go fun Z act E => ?_
 refine qc_callF (args := #[.pointer (some ⟨g, 0, none⟩), .int .i64 x.ep]) rfl (wanted_none rfl) rfl Tryz.func69 (args2 (E.d 0) (E.d 2)) (WInt_Q Hx6.out HOK.out.1 (by have := HL.out; simp only [List.length_append] at this ⊢; omega)) ?_
 rintro e u1_1a ⟨rfl, qwr, hm⟩
 have zu1_1a := hm.size
 refine ⟨_, rfl, hm.mono (by intro k hk h; first | omega | exact Or.inl ⟨(by have hb := HBR.out k h; omega), Or.inl ⟨rfl, h⟩⟩), (fun _ => rfl), ?_⟩
 intro u1_1 hr
 have zu1_1 := hr.size
 have Hx7 := hid ((qwr.widen (R' := (fun k => (R k) ∨ (New u1_0 u1_1a k))) (fun _ h => h) (Nat.le_refl _)).mod hr (by intro k h1 h2; rcases h1 with h1 | h1 <;> first | omega | (have hb := HBR.out k h1; omega)))
 have Cx8 := hid (Cx5.out.goM hm hr (fun _ _ h => h))
 clear Cx5 hm hr Z act E qwr Hx6
 refine QChain.go fun Z act E => ?_
 refine qc_callF (args := #[.pointer (some ⟨g, 0, none⟩), .int .u64 (x.tm : Nat)]) rfl (wanted_none rfl) rfl Tryz.func103 (args2 (E.d 3) (E.d 5)) (WNum_Q Hx7.out HOK.out.2 (by have := HL.out; simp only [List.length_append] at this ⊢; omega)) ?_
 rintro e u1_2a ⟨rfl, qwr, hm⟩
 have zu1_2a := hm.size
 refine ⟨_, rfl, hm.mono (by intro k hk h; rcases h with h | h <;> first | omega | exact Or.inl ⟨(by have hb := HBR.out k h; omega), Or.inr (⟨rfl, h⟩)⟩), (fun _ => rfl), ?_⟩
 intro u1_2 hr
 have zu1_2 := hr.size
 have Hx9 := hid ((qwr.widen (R' := (fun k => (R k) ∨ (New u1_0 u1_1a k) ∨ (New u1_1 u1_2a k))) (by intro k h1; simp only [or_assoc] at h1 ⊢; exact h1) (Nat.le_refl _)).mod hr (by intro k h1 h2; rcases h1 with h1 | h1 | h1 <;> first | omega | (have hb := HBR.out k h1; omega)))
 have Cx10 := hid (Cx8.out.goM hm hr (by intro k h0 h2; rcases h2 with h2 | h2 <;> first | omega | exact h2))
 clear Cx8 hm hr Z act E qwr Hx7
 refine QChain.nil fun vs hl hzz hrows hne => ?_
 obtain ⟨Z, hYZ, hZb, hV⟩ := hzz
 have f0 := fvi hV hl 0
 have f3 := fvi hV hl 3
 have f6 := fvi hV hl 6
 rw [show vs = [gw vs 0, gw vs 1, gw vs 2, gw vs 3, gw vs 4, gw vs 5, gw vs 6] from (gw_eta hl).trans rfl]
 have ha0 := HA0.out
 subst ha0
 clear HA0 hV hYZ hZb hsz0 hrows hne oe0 oe3
 simp only [putAll, Act.put, sIB, sCZ, sCS, f0, f3, f6]
 clear hl f0 f3 f6
 go_upto_region 2 with (fail)
 refine wp_region_U 23 [11, 12, 13, 14] [0, 1, 2, 3] (fun a0 HA0 => ?_)
 have oe0 := ev HA0 0 rfl
 have oe3 := ev HA0 3 rfl
 refine QSeq.pure rfl _ (fun E => ex_move rfl (E.v oe0)) ?_
 refine QSeq.pure rfl (.pointer (some ⟨w.heap.size, 2, none⟩)) (fun E => ex_field rfl Tryz.underlying45 rfl (by kernel_rfl) (E.v oe3)) ?_
 refine QSeq.pure rfl _ (fun E => ex_load1 rfl Tryz.underlying41 rfl (E.d 1 0) (Cs.lit1 (HB3.out.mod Cx10.out (by intro h2; first | omega | (have hb := HBR.out _ h2; omega))) rfl)) ?_
 refine QSeq.call rfl rfl Tryz.func142 (PutList_Pm _ _ _ _ _ _ _ Hx9.out (by intro k h1; rcases h1 with h1 | h1 | h1 <;> first | omega | (have hb := HBR.out k h1; omega)) (Hx2.out.mod Cx10.out (by intro k h1 h2; first | omega | (have hb := HBT.out k h1; omega) | (have hb := HBR.out k h2; omega) | exact HDJ.out k h1 h2 | exact HDJ.out k h2 h1 | (have hb := HBT.out k h1; have hb2 := HBR.out k h2; omega))) (by intro k h1; have hb := HBT.out k h1; omega) (by intro k h1 h2; rcases h1 with h1 | h1 | h1 <;> first | omega | (have hb := HBR.out k h1; omega) | (have hb := HBT.out k h2; omega) | exact HDJ.out k h1 h2 | exact HDJ.out k h2 h1 | (have hb := HBR.out k h1; have hb2 := HBT.out k h2; omega)) (by have := HL.out; simp only [List.length_append] at this ⊢; omega)) (fun E => args3 (E.d 0 2) (E.d 2 0) rfl) ?_
 rintro e u2_3 ⟨rfl, qwr, hm⟩
 refine ⟨_, rfl, ?_⟩
 have Hx11 := hid (qwr.widen (R' := (fun k => (R k) ∨ (New u1_0 u1_1a k) ∨ (New u1_1 u1_2a k) ∨ (New u1_2 u2_3 k))) (by intro k h1; simp only [or_assoc] at h1 ⊢; exact h1) (Nat.le_refl _))
 have zu2_3 := hm.size
 have Cx12 := hid (show Mod (fun k => (R k) ∨ (New u1_0 u1_1a k) ∨ (New u1_1 u1_2a k)) u1_2 u2_3 from hm)
 clear hm
 clear qwr Hx9
 refine QSeq.nil (t' := [_, _, _, _]) rfl ?_
 obtain rfl := HA0.out
 clear HA0 oe0 oe3
 simp only [pz, Act.put, sIB, sCZ, sCS]
 go_upto_region 3 with (fail)
 refine wp_region_U 23 [15, 16, 17, 18] [0, 1, 2, 3] (fun a0 HA0 => ?_)
 have oe0 := ev HA0 0 rfl
 have oe3 := ev HA0 3 rfl
 refine QSeq.pure rfl _ (fun E => ex_move rfl (E.v oe0)) ?_
 refine QSeq.pure rfl (.pointer (some ⟨w.heap.size, 3, none⟩)) (fun E => ex_field rfl Tryz.underlying45 rfl (by kernel_rfl) (E.v oe3)) ?_
 refine QSeq.pure rfl _ (fun E => ex_load1 rfl Tryz.underlying42 rfl (E.d 1 0) (Cs.lit1 ((HB3.out.mod Cx10.out (by intro h2; first | omega | (have hb := HBR.out _ h2; omega))).mod Cx12.out (by intro h2; rcases h2 with h2 | h2 | h2 <;> first | omega | (have hb := HBR.out _ h2; omega))) rfl)) ?_
 refine QSeq.call rfl rfl Tryz.func143 (PutList_Op _ _ _ _ _ _ _ Hx11.out (by intro k h1; rcases h1 with h1 | h1 | h1 | h1 <;> first | omega | (have hb := HBR.out k h1; omega)) ((Hx3.out.mod Cx10.out (by intro k h1 h2; first | omega | (have hb := HBT.out k h1; omega) | (have hb := HBR.out k h2; omega) | exact HDJ.out k h1 h2 | exact HDJ.out k h2 h1 | (have hb := HBT.out k h1; have hb2 := HBR.out k h2; omega))).mod Cx12.out (by intro k h1 h2; rcases h2 with h2 | h2 | h2 <;> first | omega | (have hb := HBT.out k h1; omega) | (have hb := HBR.out k h2; omega) | exact HDJ.out k h1 h2 | exact HDJ.out k h2 h1 | (have hb := HBT.out k h1; have hb2 := HBR.out k h2; omega))) (by intro k h1; have hb := HBT.out k h1; omega) (by intro k h1 h2; rcases h1 with h1 | h1 | h1 | h1 <;> first | omega | (have hb := HBR.out k h1; omega) | (have hb := HBT.out k h2; omega) | exact HDJ.out k h1 h2 | exact HDJ.out k h2 h1 | (have hb := HBR.out k h1; have hb2 := HBT.out k h2; omega)) (by have := HL.out; simp only [List.length_append] at this ⊢; omega)) (fun E => args3 (E.d 0 2) (E.d 2 0) rfl) ?_
 rintro e u3_3 ⟨rfl, qwr, hm⟩
 refine ⟨_, rfl, ?_⟩
 have Hx13 := hid (qwr.widen (R' := (fun k => (R k) ∨ (New u1_0 u1_1a k) ∨ (New u1_1 u1_2a k) ∨ (New u1_2 u2_3 k) ∨ (New u2_3 u3_3 k))) (by intro k h1; simp only [or_assoc] at h1 ⊢; exact h1) (Nat.le_refl _))
 have zu3_3 := hm.size
 have Cx14 := hid (show Mod (fun k => (R k) ∨ (New u1_0 u1_1a k) ∨ (New u1_1 u1_2a k) ∨ (New u1_2 u2_3 k)) u2_3 u3_3 from hm)
 clear hm
 clear qwr Hx11
 refine QSeq.nil (t' := [_, _, _, _]) rfl ?_
 obtain rfl := HA0.out
 clear HA0 oe0 oe3
 simp only [pz, Act.put, sIB, sCZ, sCS]
 go_upto_region 4 with (fail)
 refine wp_region_U 23 [19, 20, 21, 22] [0, 1, 2, 3] (fun a0 HA0 => ?_)
 have oe0 := ev HA0 0 rfl
 have oe3 := ev HA0 3 rfl
 refine QSeq.pure rfl _ (fun E => ex_move rfl (E.v oe0)) ?_
 refine QSeq.pure rfl (.pointer (some ⟨w.heap.size, 4, none⟩)) (fun E => ex_field rfl Tryz.underlying45 rfl (by kernel_rfl) (E.v oe3)) ?_
 refine QSeq.pure rfl _ (fun E => ex_load1 rfl Tryz.underlying43 rfl (E.d 1 0) (Cs.lit1 (((HB3.out.mod Cx10.out (by intro h2; first | omega | (have hb := HBR.out _ h2; omega))).mod Cx12.out (by intro h2; rcases h2 with h2 | h2 | h2 <;> first | omega | (have hb := HBR.out _ h2; omega))).mod Cx14.out (by intro h2; rcases h2 with h2 | h2 | h2 | h2 <;> first | omega | (have hb := HBR.out _ h2; omega))) rfl)) ?_
 refine QSeq.call rfl rfl Tryz.func144 (PutList_Tb _ _ _ _ _ _ _ Hx13.out (by intro k h1; rcases h1 with h1 | h1 | h1 | h1 | h1 <;> first | omega | (have hb := HBR.out k h1; omega)) (((Hx4.out.mod Cx10.out (by intro k h1 h2; first | omega | (have hb := HBT.out k h1; omega) | (have hb := HBR.out k h2; omega) | exact HDJ.out k h1 h2 | exact HDJ.out k h2 h1 | (have hb := HBT.out k h1; have hb2 := HBR.out k h2; omega))).mod Cx12.out (by intro k h1 h2; rcases h2 with h2 | h2 | h2 <;> first | omega | (have hb := HBT.out k h1; omega) | (have hb := HBR.out k h2; omega) | exact HDJ.out k h1 h2 | exact HDJ.out k h2 h1 | (have hb := HBT.out k h1; have hb2 := HBR.out k h2; omega))).mod Cx14.out (by intro k h1 h2; rcases h2 with h2 | h2 | h2 | h2 <;> first | omega | (have hb := HBT.out k h1; omega) | (have hb := HBR.out k h2; omega) | exact HDJ.out k h1 h2 | exact HDJ.out k h2 h1 | (have hb := HBT.out k h1; have hb2 := HBR.out k h2; omega))) (by intro k h1; have hb := HBT.out k h1; omega) (by intro k h1 h2; rcases h1 with h1 | h1 | h1 | h1 | h1 <;> first | omega | (have hb := HBR.out k h1; omega) | (have hb := HBT.out k h2; omega) | exact HDJ.out k h1 h2 | exact HDJ.out k h2 h1 | (have hb := HBR.out k h1; have hb2 := HBT.out k h2; omega)) (by have := HL.out; simp only [List.length_append] at this ⊢; omega)) (fun E => args3 (E.d 0 2) (E.d 2 0) rfl) ?_
 rintro e u4_3 ⟨rfl, qwr, hm⟩
 refine ⟨_, rfl, ?_⟩
 have Hx15 := hid (qwr.widen (R' := (fun k => (R k) ∨ (New u1_0 u1_1a k) ∨ (New u1_1 u1_2a k) ∨ (New u1_2 u2_3 k) ∨ (New u2_3 u3_3 k) ∨ (New u3_3 u4_3 k))) (by intro k h1; simp only [or_assoc] at h1 ⊢; exact h1) (Nat.le_refl _))
 have zu4_3 := hm.size
 have Cx16 := hid (show Mod (fun k => (R k) ∨ (New u1_0 u1_1a k) ∨ (New u1_1 u1_2a k) ∨ (New u1_2 u2_3 k) ∨ (New u2_3 u3_3 k)) u3_3 u4_3 from hm)
 clear hm
 clear qwr Hx13
 refine QSeq.nil (t' := [_, _, _, _]) rfl ?_
 obtain rfl := HA0.out
 clear HA0 oe0 oe3
 simp only [pz, Act.put, sIB, sCZ, sCS]
 go_wp2
 go_end0
 have hq := (Hx15.out.widen (R' := (fun k => R k ∨ New w u4_3 k)) (by intro k h1; rcases h1 with h1 | h1 | h1 | h1 | h1 | h1 <;> first | exact Or.inl h1 | (right; omega)) (Nat.le_refl _))
 simp only [List.append_assoc] at hq
 exact ⟨rfl, by simpa only [baB, List.append_assoc] using hq, ((((HM0.out.trans Cx10.out (fun _ _ h => h)).trans Cx12.out (by intro k h1 h2; rcases h2 with h2 | h2 | h2 <;> first | exact h2 | omega | (have hb := HBR.out k h2; omega))).trans Cx14.out (by intro k h1 h2; rcases h2 with h2 | h2 | h2 | h2 <;> first | exact h2 | omega | (have hb := HBR.out k h2; omega))).trans Cx16.out (by intro k h1 h2; rcases h2 with h2 | h2 | h2 | h2 | h2 <;> first | exact h2 | omega | (have hb := HBR.out k h2; omega)))⟩
end Go.Proofs.YtpnikilkcifncaaGreat

/- Package wire: the texts that are signed, a batch's hash. -/
namespace Go.Proofs.YtpnikilkcifncaaGreat
open Go Go.RowKit Go.Gv


def Hashes {α : Type} (A : Rep α) (F : FuncId) (f : α → List Int) : Prop := ∀ (R2 : Nat → Prop) (cs : List Value) (x : α) (w : World), A.rd R2 w cs x → (∀ k, R2 k → k < w.heap.size) → (f x).length ≤ 900000 →
 Calls Tryz.prog F #[.agg cs.toArray] w fun e w' => e = .returned (hv (shaF (f x))) ∧ Mod (fun _ => False) w w'
end Go.Proofs.YtpnikilkcifncaaGreat

/- The reference's bytes of small things. -/
namespace Go.Proofs.YtpnikilkcifncaaGreat
open Go Go.RowKit Go.Gv


theorem encI_len0 (n : Int) (h : I64 n) : (encI n).length ≤ 10 := (encI_len n h.2).2
end Go.Proofs.YtpnikilkcifncaaGreat

/- The reference's bytes of certificates, promises, batches; its texts. -/
namespace Go.Proofs.YtpnikilkcifncaaGreat
open Go Go.RowKit Go.Gv

end Go.Proofs.YtpnikilkcifncaaGreat

/- The reference's bytes of promises and batches. -/
namespace Go.Proofs.YtpnikilkcifncaaGreat
open Go Go.RowKit Go.Gv

end Go.Proofs.YtpnikilkcifncaaGreat

/- gavellaw02.wakes; bytes.Compare; sha.Less. -/
namespace Go.Proofs.YtpnikilkcifncaaGreat
open Go Go.RowKit Go.Gv

end Go.Proofs.YtpnikilkcifncaaGreat

/- gavelref01.turn; gavelref01.Sum: the same plain sum. -/
namespace Go.Proofs.YtpnikilkcifncaaGreat
open Go Go.RowKit Go.Gv

end Go.Proofs.YtpnikilkcifncaaGreat

/- As XVal3; besides: a slot that an operation reads ahead of the one that writes it. No program here. -/
namespace Go.Gv
open Go Go.RowKit

section
variable {P : Program} {ops : Array Oper} {Q : Exit → Act → World → Prop}
end
end Go.Gv

/- gavelref01.Sum: the same plain sum. -/
namespace Go.Proofs.YtpnikilkcifncaaGreat
open Go Go.RowKit Go.Gv

end Go.Proofs.YtpnikilkcifncaaGreat

/- The reference's hash of a batch, text of a proposal. -/
namespace Go.Proofs.YtpnikilkcifncaaGreat
open Go Go.RowKit Go.Gv

end Go.Proofs.YtpnikilkcifncaaGreat

/- How long bytes are; lists of values. -/
namespace Go.Proofs.YtpnikilkcifncaaGreat
open Go Go.RowKit Go.Gv


theorem RdS_mem {α : Type} {A : Rep α} {R : Nat → Prop} {w : World} {v : Value} {l : List α} (h : RdS A R w v l) : ∀ a ∈ l, ∃ cs, A.rd R w cs a := by
 obtain ⟨css, h1, h2, -⟩ := h
 intro a ha
 obtain ⟨i, hi, rfl⟩ := List.getElem_of_mem ha
 exact ⟨css[i], h2 i _ _ (List.getElem?_eq_getElem (by omega)) (List.getElem?_eq_getElem hi)⟩
theorem flatB_le {α : Type} (f : α → List Int) (N : Nat) : ∀ l : List α, (∀ a ∈ l, (f a).length ≤ N) → ((l.map f).flatten).length ≤ l.length * N
 | [], _ => by simp
 | a :: r, h => by
  have h1 := h a (by simp)
  have h2 := flatB_le f N r (fun b hb => h b (by simp [hb]))
  simp only [List.map_cons, List.flatten_cons, List.length_append, List.length_cons, Nat.add_mul]
  omega
theorem listB_len {α : Type} (f : α → List Int) {N M : Nat} {l : List α} (hl : l.length ≤ M) (hM : M ≤ 1000000) (h : ∀ a ∈ l, (f a).length ≤ N) : (listB f l).length ≤ 10 + M * N := by
 have h1 := flatB_le f N l h
 have h2 := encI_len0 (l.length : Int) (by unfold I64; omega)
 have h3 := Nat.mul_le_mul_right N hl
 simp only [listB, List.length_append]
 omega
theorem stB_len {x : St} (h : x.OK) : (stB x).length ≤ 92 := by
 have h1 := encI_len0 _ h.rp; have h2 := encI_len0 _ h.cl; have h3 := encI_len0 _ h.sq; have h4 := (encN_len10 h.tm).2; have h5 := encI_len0 _ h.sb; have h6 := encI_len0 _ h.mr; have h7 := h.h.1
 simp only [stB, nameB, sigB, List.length_append]; omega
theorem cmB_len {x : Cm} (h : x.OK) : (cmB x).length ≤ 82 := by
 obtain ⟨⟨a, b, c, d, e⟩, f⟩ := h
 have h1 := encI_len0 _ a; have h2 := encI_len0 _ b; have h3 := encI_len0 _ c; have h4 := encI_len0 _ d; have h5 := encI_len0 _ e; have h7 := f.1
 simp only [cmB, nameB, sigB, List.length_append]; omega
theorem ceB_len {R : Nat → Prop} {w : World} {cs : List Value} {x : Ce} (h : CeR.rd R w cs x) (hl : x.l.length ≤ 5) : (ceB x).length ≤ 552 := by
 obtain ⟨_, rfl, hok, hs⟩ := h
 have h1 := listB_len stB hl (by decide) (fun a ha => by obtain ⟨cs, e, hk⟩ := RdS_mem hs a ha; exact stB_len hk)
 have h2 := cmB_len hok
 simp only [ceB, List.length_append]; omega
theorem pmB_len {R : Nat → Prop} {w : World} {cs : List Value} {x : Pm} (h : PmR.rd R w cs x) (hl : ∃ y, x = cutPm y) : (pmB x).length ≤ 1800 := by
 obtain ⟨y, rfl⟩ := hl
 obtain ⟨_, rfl, ⟨a, b, c, d, e⟩, hs⟩ := h
 have h1 := encI_len0 _ a; have h2 := encI_len0 _ b; have h3 := (encN_len10 c).2; have h4 := encI_len0 _ d; have h5 := encI_len0 _ e
 have h6 := listB_len ceB (M := 3) (show (cutPm y).l.length ≤ 3 by simp [cutPm]; omega) (by decide) (fun z hz => by
  obtain ⟨cs, hc⟩ := RdS_mem hs z hz
  refine ceB_len hc ?_
  obtain ⟨u, -, rfl⟩ := List.mem_map.1 hz
  simp [cutCe]; omega)
 simp only [pmB, sigB, List.length_append]; omega
theorem opB_len {R : Nat → Prop} {w : World} {cs : List Value} {x : Op} (h : OpR.rd R w cs x) (hl : x.pl.length ≤ 260) : (opB x).length ≤ 312 := by
 obtain ⟨_, rfl, ⟨a, b⟩, hs⟩ := h
 have h1 := encI_len0 _ a; have h2 := (encN_len10 (n := x.pl.length) (by unfold U64; omega)).2; have h3 := b.1
 simp only [opB, List.length_append]; omega
theorem dnB_len {x : Dn} (h : x.OK) : (dnB x).length ≤ 40 := by
 have h1 := encI_len0 _ h.rp; have h2 := encI_len0 _ h.ix; have h5 := encI_len0 _ h.sb; have h6 := encI_len0 _ h.mr
 simp only [dnB, sigB, List.length_append]; omega
theorem tbB_len {R : Nat → Prop} {w : World} {cs : List Value} {x : Tb} (h : TbR.rd R w cs x) (hl : x.l.length ≤ 5) : (tbB x).length ≤ 220 := by
 obtain ⟨_, rfl, a, hs⟩ := h
 have h1 := encI_len0 _ a
 have h2 := listB_len dnB hl (by decide) (fun z hz => by obtain ⟨cs, e, hk⟩ := RdS_mem hs z hz; exact dnB_len hk)
 simp only [tbB, List.length_append]; omega
end Go.Proofs.YtpnikilkcifncaaGreat

/- What the readers of parts answer, in plain words; that what was put is read as it was, and that what is read was put so. -/
namespace Go.Proofs.YtpnikilkcifncaaGreat
open Go Go.RowKit Go.Gv

/-- one read behind the other -/
def gb {α β : Type} (g : RSt → α × RSt) (k : α → RSt → β × RSt) (s : RSt) : β × RSt := k (g s).1 (g s).2
/-- a number up to 2^40 -/
def gI (s : RSt) : Int × RSt := (((rInt 1099511627776 s).1 : Nat), (rInt 1099511627776 s).2)
/-- what is read was put so -/
def De {α : Type} (g : RSt → α × RSt) (Q : α → List Int → List Int → Prop) : Prop := ∀ s r, (g s).2 = some r → ∃ l, s = some l ∧ (Bytes l → Q (g s).1 l r)
def Was {α : Type} (put : α → List Int) (ok : α → Prop) (x : α) (l r : List Int) : Prop := l = put x ++ r ∧ ok x
theorem De.bind {α β : Type} {g : RSt → α × RSt} {k : α → RSt → β × RSt} {put : α → List Int} {ok : α → Prop} {Q : α → β → List Int → List Int → Prop} (hg : De g (Was put ok)) (hk : ∀ a, De (k a) (Q a)) :
    De (gb g k) (fun y l r => ∃ a l1, ok a ∧ l = put a ++ l1 ∧ Q a y l1 r) := by
  intro s r h
  obtain ⟨l1, e1, h1⟩ := hk _ _ _ h
  obtain ⟨l, rfl, h2⟩ := hg _ _ e1
  refine ⟨l, rfl, fun hb => ?_⟩
  obtain ⟨h3, h4⟩ := h2 hb
  refine ⟨_, l1, h4, h3, h1 (fun x hx => hb x ?_)⟩
  rw [h3]
  exact List.mem_append_right _ hx
theorem De.pure {β : Type} (y : β) : De (fun s => (y, s)) (fun y' l r => y' = y ∧ l = r) := by
  intro s r h
  exact ⟨r, h, fun _ => ⟨rfl, rfl⟩⟩
theorem De.mono {β : Type} {g : RSt → β × RSt} {Q Q' : β → List Int → List Int → Prop} (h : De g Q) (hq : ∀ y l r, Q y l r → Q' y l r) : De g Q' := by
  intro s r hr
  obtain ⟨l, e, h2⟩ := h s r hr
  exact ⟨l, e, fun hb => hq _ _ _ (h2 hb)⟩
theorem De.none {α : Type} {g : RSt → α × RSt} {Q : α → List Int → List Int → Prop} (h : De g Q) : ∀ s, s = none → (g s).2 = none := by
  intro s e
  cases hq : (g s).2 with
  | none => rfl
  | some r => obtain ⟨l, e2, -⟩ := h s r hq; rw [e] at e2; cases e2
/-! printed -/
end Go.Proofs.YtpnikilkcifncaaGreat

/- gavelref01.Reader: numbers, rows, hashes as the document reads them; code.Reader.Row for any bound. -/
namespace Go.Proofs.YtpnikilkcifncaaGreat
open Go Go.RowKit Go.Gv

end Go.Proofs.YtpnikilkcifncaaGreat

/- gavelref01.Reader: rows. -/
namespace Go.Proofs.YtpnikilkcifncaaGreat
open Go Go.RowKit Go.Gv

end Go.Proofs.YtpnikilkcifncaaGreat

/- gavelref01.Reader: hashes. -/
namespace Go.Proofs.YtpnikilkcifncaaGreat
open Go Go.RowKit Go.Gv

section
variable {R : Nat → Prop} {r : Nat} {s : RSt} {w : World}
end
end Go.Proofs.YtpnikilkcifncaaGreat

/- code.Reader.Row with any bound, over a text that is not long. -/
namespace Go.Proofs.YtpnikilkcifncaaGreat
open Go Go.RowKit Go.Gv

end Go.Proofs.YtpnikilkcifncaaGreat

/- A block's cells as parts, one behind the other: what lies at a part, what is laid over one, what a struct is built of. No program here. -/
namespace Go.Gv
open Go Go.RowKit

theorem seg_get : ∀ (segs : List (List Value)) (i : Nat) {seg : List Value} (hs : segs[i]? = some seg) (j : Nat) (u : Value), seg[j]? = some u → segs.flatten[((segs.map List.length).take i).sum + j]? = some u
 | [], i, seg, hs, j, u, hu => by simp at hs
 | a :: r, 0, seg, hs, j, u, hu => by
  simp only [List.getElem?_cons_zero, Option.some.injEq] at hs
  subst hs
  rw [List.take_zero, List.sum_nil, Nat.zero_add, List.flatten_cons, List.getElem?_append_left (List.getElem?_eq_some_iff.1 hu).1]
  exact hu
 | a :: r, i + 1, seg, hs, j, u, hu => by
  rw [List.getElem?_cons_succ] at hs
  rw [List.map_cons, List.take_succ_cons, List.sum_cons, List.flatten_cons, List.getElem?_append_right (by omega), show a.length + ((r.map List.length).take i).sum + j - a.length = ((r.map List.length).take i).sum + j by omega]
  exact seg_get r i hs j u hu
theorem Cs.seg {w : World} {g : Nat} {T : TypeId} {segs : List (List Value)} (h : Cs w g segs.flatten.toArray T) {ns : List Nat} (hn : segs.map List.length = ns) (i : Nat) {seg : List Value} (hs : segs[i]? = some seg) {off : Nat} (ho : (ns.take i).sum = off) : ∀ j u, seg[j]? = some u → w.cell? ⟨g, off + j, none⟩ = some u := by
 intro j u hu
 rw [h.cell, ← ho, ← hn]
 simpa using seg_get segs i hs j u hu
theorem Cs.seg1 {w : World} {g : Nat} {T : TypeId} {segs : List (List Value)} (h : Cs w g segs.flatten.toArray T) {ns : List Nat} (hn : segs.map List.length = ns) (i : Nat) {seg : List Value} (hs : segs[i]? = some seg) {off o k : Nat} (ho : (ns.take i).sum = o) (hk : off = o + k) {u : Value} (hu : seg[k]? = some u) : w.cell? ⟨g, off, none⟩ = some u := by
 subst hk
 exact h.seg hn i hs ho k u hu
theorem lay_mid (a m b : List Value) (vs : List Value) (h : vs.length = m.length) : lay (a ++ (m ++ b)).toArray a.length vs = (a ++ (vs ++ b)).toArray := by
 unfold lay
 congr 1
 simp [h]
theorem seg_split : ∀ (segs : List (List Value)) (i : Nat) {seg : List Value} (hs : segs[i]? = some seg), ∃ a b, segs.flatten = a ++ (seg ++ b) ∧ a.length = ((segs.map List.length).take i).sum ∧ ∀ v : List Value, (segs.set i v).flatten = a ++ (v ++ b)
 | [], i, seg, hs => by simp at hs
 | x :: r, 0, seg, hs => by
  simp only [List.getElem?_cons_zero, Option.some.injEq] at hs
  subst hs
  exact ⟨[], r.flatten, rfl, rfl, fun v => rfl⟩
 | x :: r, i + 1, seg, hs => by
  rw [List.getElem?_cons_succ] at hs
  obtain ⟨a, b, h1, h2, h3⟩ := seg_split r i hs
  refine ⟨x ++ a, b, by rw [List.flatten_cons, h1, List.append_assoc], by simp [h2], fun v => ?_⟩
  rw [sCS, List.flatten_cons, h3, List.append_assoc]
theorem lay_seg {segs : List (List Value)} {ns : List Nat} (hn : segs.map List.length = ns) (i : Nat) {vs : List Value} (hv : ns[i]? = some vs.length) {off : Nat} (ho : (ns.take i).sum = off) : lay segs.flatten.toArray off vs = ((segs.set i vs).flatten).toArray := by
 subst hn
 rw [List.getElem?_map] at hv
 cases hs : segs[i]? with
 | none => rw [hs] at hv; cases hv
 | some seg =>
  rw [hs] at hv
  simp only [Option.map_some, Option.some.injEq] at hv
  obtain ⟨a, b, h1, h2, h3⟩ := seg_split segs i hs
  rw [h1, h3, ← ho, ← h2]
  exact lay_mid a seg b vs hv.symm
/-- where parts of such lengths lie -/
def offs : Nat → List Nat → List (Nat × Nat)
 | _, [] => []
 | o, n :: ns => (o, n) :: offs (o + n) ns
theorem offs_get : ∀ (ns : List Nat) (o i : Nat), (offs o ns)[i]? = (ns[i]?).map fun n => (o + (ns.take i).sum, n)
 | [], o, i => by simp [offs]
 | n :: ns, o, 0 => by simp [offs]
 | n :: ns, o, i + 1 => by
  simp only [offs, List.getElem?_cons_succ, offs_get ns (o + n) i, List.take_succ_cons, List.sum_cons]
  congr 1
  funext m
  rw [Nat.add_assoc]
/-- parts, each where it belongs -/
def setAll : List (List Value) → List (Nat × Value) → List (List Value)
 | segs, [] => segs
 | segs, (i, v) :: ps => setAll (segs.set i v.cells.toList) ps
def PartsOk (ns : List Nat) : List (Nat × Value) → Prop
 | [] => True
 | (i, v) :: ps => ns[i]? = some v.cells.size ∧ PartsOk ns ps
theorem set_lens {segs : List (List Value)} {ns : List Nat} (hn : segs.map List.length = ns) (i : Nat) {vs : List Value} (hv : ns[i]? = some vs.length) : (segs.set i vs).map List.length = ns := by
 subst hn
 rw [List.map_set]
 exact List.ext_getElem? fun j => by
  rcases Nat.lt_trichotomy i j with h | h | h
  ·rw [List.getElem?_set_ne (by omega)]
  ·subst h
   rw [List.getElem?_set_self (List.getElem?_eq_some_iff.1 hv).1, hv]
  ·rw [List.getElem?_set_ne (by omega)]
theorem laid_segs {places : List (Nat × Nat)} {ns : List Nat} (hp : places = offs 0 ns) : ∀ (parts : List (Nat × Value)) (segs : List (List Value)), segs.map List.length = ns → PartsOk ns parts → laid places segs.flatten parts = some (setAll segs parts).flatten
 | [], segs, _, _ => by unfold laid setAll; rfl
 | (i, v) :: ps, segs, hn, h => by
  obtain ⟨h1, h2⟩ := h
  have h1' : ns[i]? = some v.cells.toList.length := by simpa using h1
  have hl := lay_seg hn i h1' rfl
  unfold laid setAll
  rw [hp, offs_get, h1]
  simp only [Option.map_some, Nat.zero_add]
  have hlen : (ns.take i).sum + v.cells.size ≤ segs.flatten.length := by
   subst hn
   rw [List.getElem?_map] at h1
   cases hs : segs[i]? with
   | none => rw [hs] at h1; cases h1
   | some seg =>
    rw [hs] at h1
    simp only [Option.map_some, Option.some.injEq] at h1
    obtain ⟨a, b, e1, e2, -⟩ := seg_split segs i hs
    rw [e1, ← e2, ← h1]
    simp
  rw [if_neg (by omega)]
  have e : (segs.flatten.take (ns.take i).sum ++ v.cells.toList ++ segs.flatten.drop ((ns.take i).sum + v.cells.size)) = (segs.set i v.cells.toList).flatten := by
   have := congrArg Array.toList hl
   simpa [lay] using this
  simp only [e] at *
  rw [← hp]
  exact laid_segs hp ps _ (set_lens hn i h1') h2
end Go.Gv

/- Readers of parts: what they leave of a text, whether what they read is a thing of its kind; contracts. -/
namespace Go.Proofs.YtpnikilkcifncaaGreat
open Go Go.RowKit Go.Gv

/-- what is left is an end of what there was -/
def Suf {α : Type} (g : RSt → α × RSt) : Prop := ∀ s, (g s).2 = none ∨ ∃ l k, s = some l ∧ (g s).2 = some (l.drop k)
theorem Suf.no {α : Type} {g : RSt → α × RSt} (h : Suf g) : (g none).2 = none := by
  rcases h none with h | ⟨l, k, e, -⟩
  · exact h
  · cases e
theorem Suf.bytes {α : Type} {g : RSt → α × RSt} (h : Suf g) {s : RSt} (hb : Bytes (s.getD [])) : Bytes ((g s).2.getD []) := by
  rcases h s with e | ⟨l, k, rfl, e⟩
  · rw [e]; exact Bytes.nil
  · rw [e]; exact Bytes.drop hb k
theorem Suf.len {α : Type} {g : RSt → α × RSt} (h : Suf g) (s : RSt) : ((g s).2.getD []).length ≤ (s.getD []).length := by
  rcases h s with e | ⟨l, k, rfl, e⟩
  · rw [e]; simp
  · rw [e]; simp
/-! what is read is a thing -/
theorem gI_I64 (s : RSt) : I64 (gI s).1 := by
  have := rInt_le 1099511627776 s
  unfold gI I64
  simp only
  omega
theorem RrR.bytes {T : TypeId} {R : Nat → Prop} {w : World} {r : Nat} {s : RSt} (h : RrR T R w r s) : Bytes (s.getD []) := by
  obtain ⟨v, h1, -⟩ := h
  exact h1.2.1.1
/-! contracts -/
/-- a flat thing is read -/
def GetsF {α : Type} (T : TypeId) (F : FuncId) (cells : α → List Value) (g : RSt → α × RSt) : Prop := ∀ (R : Nat → Prop) (r : Nat) (s : RSt) (w : World), RrR T R w r s → (∀ k, R k → k < w.heap.size) →
  Calls Tryz.prog F #[.pointer (some ⟨r, 0, none⟩)] w fun e w' => e = .returned (.agg (cells (g s).1).toArray) ∧ RrR T R w' r (g s).2 ∧ Mod R w w'
/-- a thing is read -/
def Gets {α : Type} (A : Rep α) (T : TypeId) (F : FuncId) (g : RSt → α × RSt) : Prop := ∀ (R : Nat → Prop) (r : Nat) (s : RSt) (w : World), RrR T R w r s → (∀ k, R k → k < w.heap.size) → (s.getD []).length ≤ 900000 →
  Calls Tryz.prog F #[.pointer (some ⟨r, 0, none⟩)] w fun e w' => ∃ cs, e = .returned (.agg cs.toArray) ∧ A.rd (New w w') w' cs (g s).1 ∧ RrR T R w' r (g s).2 ∧ Mod R w w'
theorem Gets.to {α : Type} {A : Rep α} {T : TypeId} {F : FuncId} {g : RSt → α × RSt} (h : Gets A T F g) {s s' : RSt} {x : α} (hx : (g s).1 = x) (hs : (g s).2 = s') {R : Nat → Prop} {r : Nat} {w : World} (h1 : RrR T R w r s) (h2 : ∀ k, R k → k < w.heap.size) (h3 : (s.getD []).length ≤ 900000) :
    Calls Tryz.prog F #[.pointer (some ⟨r, 0, none⟩)] w fun e w' => ∃ cs, e = .returned (.agg cs.toArray) ∧ A.rd (New w w') w' cs x ∧ RrR T R w' r s' ∧ Mod R w w' := by
  subst hx hs
  exact h R r s w h1 h2 h3
theorem GetsF.to {α : Type} {cells : α → List Value} {T : TypeId} {F : FuncId} {g : RSt → α × RSt} (h : GetsF T F cells g) {A : Rep α} (hA : ∀ (R : Nat → Prop) (w : World) (s : RSt), Bytes (s.getD []) → A.rd R w (cells (g s).1) (g s).1) : Gets A T F g := by
  intro R r s w h1 h2 h3
  exact (h R r s w h1 h2).mono fun e w' ⟨he, h4, h5⟩ => ⟨_, he, hA _ _ s h1.bytes, h4, h5⟩
section
variable {R : Nat → Prop} {r : Nat} {s : RSt} {w : World}
theorem cI_Q (h : RrR 133 R w r s) : Calls Tryz.prog 43 #[.pointer (some ⟨r, 0, none⟩), .int .i64 1099511627776] w fun e w' => e = .returned (.int .i64 (gI s).1) ∧ RrR 133 R w' r (gI s).2 ∧ Mod R w w' := RInt_R h (by decide)
end
end Go.Proofs.YtpnikilkcifncaaGreat
