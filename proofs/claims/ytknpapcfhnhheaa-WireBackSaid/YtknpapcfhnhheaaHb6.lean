/- Texts that are built one behind the other: XPt2, XWt1, XRf1, XRf2, XRf3, XSha6, XSha7, XVal5, XSha8, XRf4, XLens, XWbp, XPw. No condition. -/
import Derived.Test.YtknpapcfhnhheaaHb5
import Derived.Lib.BytesEntry
import Derived.Laws.Externs
import Derived.Deep.Cut
/- Parts of messages, put as bytes. -/
set_option maxRecDepth 100000
set_option linter.unusedVariables false
namespace Go.Proofs.Ytknpapcfhnhheaa
open Go Go.RowKit Go.Gv

set_option maxHeartbeats 4000000 in
theorem PutDn_Q : Puts DnR 154 dnB := by
  intro R R2 g bs cs x w hW hB hx hB2 hD hl
  obtain ⟨rfl, hok⟩ := hx
  have HW := Lib.hid hW
  have HBR := Lib.hid hB
  have HBT := Lib.hid hB2
  have HDJ := Lib.hid hD
  have HOK := Lib.hid hok
  have HL := Lib.hid hl
  clear hW hB hB2 hD hl hok
  unfold dnB at HL
  go_enter Try.func154, Try.ntmps154
  go_upto_region 1 with (fail)
  obtain ⟨w1, hw1⟩ : ∃ zz, zz = (w.alloc (.cells (x.cells : List Value).toArray 34)) := ⟨_, rfl⟩
  change Code.wp _ _ _ _ (w.alloc (.cells (x.cells : List Value).toArray 34))
  rw [← hw1]
  have HB3 := hid (show Cs w1 (w.heap.size) (x.cells : List Value).toArray 34 by rw [hw1]; exact Cs.new _ _ _)
  have hm : Mod (fun _ => False) w w1 := by rw [hw1]; exact (Mod.refl _ _).alloc _
  have HM0 := hid (show Mod (fun k => (R k)) w w1 from hm.mono (fun _ _ h => h.elim))
  have hs1 : w1.heap.size = w.heap.size + 1 := by rw [hw1]; simp
  have Hx1 := hid (HW.out.mod hm (fun _ _ h => h))
  clear HW
  clear hw1 hm
  go_upto_region 1 with (fail)
  generalize ha0 : Act.mk _ _ = a0
  have oe0 : a0.eval (.tmp 0) = .pointer (some ⟨g, 0, none⟩) := by rw [← ha0]; rfl
  have oe3 : a0.eval (.tmp 3) = .pointer (some ⟨w.heap.size, 0, none⟩) := by rw [← ha0]; rfl
  have hsz0 : a0.tmps.size = 15 := by rw [← ha0]; rfl
  have HA0 := hid ha0
  clear ha0
  refine wp_region_Q1 15 hsz0 [4, 5, 6, 7, 8, 9, 10] (fun k => (R k)) (fun k j => (k = 0 ∧ ((R j))) ∨ (k = 1 ∧ ((R j)))) (by intro k j h; (try dsimp only at h ⊢); rcases h with ⟨-, h⟩ | ⟨-, h⟩; (exact h); (exact h)) [qi (.pointer (some ⟨g, 0, none⟩)), qi (.pointer (some ⟨w.heap.size, 0, none⟩)), qi (.int .i64 x.rp), qi (.pointer (some ⟨g, 0, none⟩)), qi (.pointer (some ⟨w.heap.size, 1, none⟩)), qi (.int .i64 x.ix), qi (.pointer (some ⟨g, 0, none⟩))] ⟨qi_stable, qi_stable, qi_stable, qi_stable, qi_stable, qi_stable, qi_stable, trivial⟩ [3, 6] ⟨?_, ?_, ?_, ?_, ?_, ?_, ?_, trivial⟩ ?_
  · exact stq (fun E => ex_move rfl (E.v oe0))
  · exact stq (fun E => ex_field rfl Try.underlying34 rfl (by kernel_rfl) (E.v oe3))
  · exact stq (fun E => ex_load1 rfl Try.underlying3 rfl (E.d 1) (Cs.lit1 (HB3.out.mod E.m (by intro h2; rcases h2 with ⟨h0, h2⟩ | h2 <;> first | omega | (have hb := HBR.out _ h2; omega))) rfl))
  · exact stepq_chain rfl
  · exact stq (fun E => ex_field rfl Try.underlying34 rfl (by kernel_rfl) (E.v oe3))
  · exact stq (fun E => ex_load1 rfl Try.underlying3 rfl (E.d 4) (Cs.lit1 (HB3.out.mod E.m (by intro h2; rcases h2 with ⟨h0, h2⟩ | h2 <;> first | omega | (have hb := HBR.out _ h2; omega))) rfl))
  · exact stepq_chain rfl
  intro u1_0 hr
  have zu1_0 := hr.size
  have Cx2 := hid (hr.new (S := (fun k => (R k))))
  have Hx3 := hid (Hx1.out.mod hr (by intro k h1 h2; have hb := HBR.out k h1; omega))
  clear Hx1
  clear hr
  refine QChain.go fun Z act E => ?_
  refine qc_callF (args := #[.pointer (some ⟨g, 0, none⟩), .int .i64 x.rp]) rfl (wanted_none rfl) rfl Try.func64 (args2 (E.d 0) (E.d 2)) (WInt_Q Hx3.out HOK.out.rp (by have := HL.out; simp only [List.length_append] at this ⊢; omega)) ?_
  rintro e u1_1a ⟨rfl, qwr, hm⟩
  have zu1_1a := hm.size
  refine ⟨_, rfl, hm.mono (by intro k hk h; first | omega | exact Or.inl ⟨(by have hb := HBR.out k h; omega), Or.inl ⟨rfl, h⟩⟩), (fun _ => rfl), ?_⟩
  intro u1_1 hr
  have zu1_1 := hr.size
  have Hx4 := hid ((qwr.widen (R' := (fun k => (R k) ∨ (New u1_0 u1_1a k))) (fun _ h => h) (Nat.le_refl _)).mod hr (by intro k h1 h2; rcases h1 with h1 | h1 <;> first | omega | (have hb := HBR.out k h1; omega)))
  have Cx5 := hid (Cx2.out.goM hm hr (fun _ _ h => h))
  clear Cx2 hm hr Z act E qwr Hx3
  refine QChain.go fun Z act E => ?_
  refine qc_callF (args := #[.pointer (some ⟨g, 0, none⟩), .int .i64 x.ix]) rfl (wanted_none rfl) rfl Try.func64 (args2 (E.d 3) (E.d 5)) (WInt_Q Hx4.out HOK.out.ix (by have := HL.out; simp only [List.length_append] at this ⊢; omega)) ?_
  rintro e u1_2a ⟨rfl, qwr, hm⟩
  have zu1_2a := hm.size
  refine ⟨_, rfl, hm.mono (by intro k hk h; rcases h with h | h <;> first | omega | exact Or.inl ⟨(by have hb := HBR.out k h; omega), Or.inr (⟨rfl, h⟩)⟩), (fun _ => rfl), ?_⟩
  intro u1_2 hr
  have zu1_2 := hr.size
  have Hx6 := hid ((qwr.widen (R' := (fun k => (R k) ∨ (New u1_0 u1_1a k) ∨ (New u1_1 u1_2a k))) (by intro k h1; simp only [or_assoc] at h1 ⊢; exact h1) (Nat.le_refl _)).mod hr (by intro k h1 h2; rcases h1 with h1 | h1 | h1 <;> first | omega | (have hb := HBR.out k h1; omega)))
  have Cx7 := hid (Cx5.out.goM hm hr (by intro k h0 h2; rcases h2 with h2 | h2 <;> first | omega | exact h2))
  clear Cx5 hm hr Z act E qwr Hx4
  refine QChain.nil fun vs hl hzz hrows hne => ?_
  obtain ⟨Z, hYZ, hZb, hV⟩ := hzz
  have f0 := fvi hV hl 0
  have f3 := fvi hV hl 3
  have f6 := fvi hV hl 6
  rw [show vs = [gw vs 0, gw vs 1, gw vs 2, gw vs 3, gw vs 4, gw vs 5, gw vs 6] from (gw_eta hl).trans rfl]
  have ha0 := HA0.out
  subst ha0
  clear HA0 hV hYZ hZb hsz0 hrows hne oe0 oe3
  simp only [putAll, Act.put, List.setIfInBounds_toArray, List.set_cons_zero, List.set_cons_succ, f0, f3, f6]
  clear hl f0 f3 f6
  go_upto_region 2 with (fail)
  generalize ha0 : Act.mk _ _ = a0
  have oe0 : a0.eval (.tmp 0) = .pointer (some ⟨g, 0, none⟩) := by rw [← ha0]; rfl
  have oe3 : a0.eval (.tmp 3) = .pointer (some ⟨w.heap.size, 0, none⟩) := by rw [← ha0]; rfl
  have hsz0 : a0.tmps.size = 15 := by rw [← ha0]; rfl
  have HA0 := hid ha0
  clear ha0
  refine wp_region_Q1 15 hsz0 [11, 12, 13, 14] (fun k => (R k) ∨ (New u1_0 u1_1a k) ∨ (New u1_1 u1_2a k)) (fun k j => (k = 0 ∧ ((R j) ∨ (New u1_0 u1_1a j) ∨ (New u1_1 u1_2a j)))) (fun _ _ h => h.2) [qi (.pointer (some ⟨g, 0, none⟩)), qi (.pointer (some ⟨w.heap.size, 2, none⟩)), qi (.agg #[.int .i64 x.sb, .int .i64 x.mr]), qi (.tuple #[])] ⟨qi_stable, qi_stable, qi_stable, qi_stable, trivial⟩ [3] ⟨?_, ?_, ?_, ?_, trivial⟩ ?_
  · exact stq (fun E => ex_move rfl (E.v oe0))
  · exact stq (fun E => ex_field rfl Try.underlying34 rfl (by kernel_rfl) (E.v oe3))
  · exact stq (fun E => ex_loadA rfl Try.underlying28 rfl (off := 2) (cs := [.int .i64 x.sb, .int .i64 x.mr]) (by kernel_rfl) (E.d 1) (Cs.litA ((HB3.out.mod Cx7.out (by intro h2; first | omega | (have hb := HBR.out _ h2; omega))).mod E.m (by intro h2; rcases h2 with ⟨h0, h2 | h2 | h2⟩ | h2 <;> first | omega | (have hb := HBR.out _ h2; omega))) rfl))
  · exact stepq_chain rfl
  intro u2_0 hr
  have zu2_0 := hr.size
  have Cx8 := hid (hr.new (S := (fun k => (R k) ∨ (New u1_0 u1_1a k) ∨ (New u1_1 u1_2a k))))
  have Hx9 := hid (Hx6.out.mod hr (by intro k h1 h2; rcases h1 with h1 | h1 | h1 <;> first | omega | (have hb := HBR.out k h1; omega)))
  clear Hx6
  clear hr
  refine QChain.go fun Z act E => ?_
  refine qc_callF (args := #[.pointer (some ⟨g, 0, none⟩), .agg #[.int .i64 x.sb, .int .i64 x.mr]]) rfl (wanted_none rfl) rfl Try.func142 (args2 (E.d 0) (E.d 2)) (PutSig_Q Hx9.out (by intro k h1; rcases h1 with h1 | h1 | h1 <;> first | omega | (have hb := HBR.out k h1; omega)) HOK.out.sb HOK.out.mr (by have := HL.out; simp only [List.length_append] at this ⊢; omega)) ?_
  rintro e u2_1a ⟨rfl, qwr, hm⟩
  have zu2_1a := hm.size
  refine ⟨_, rfl, hm.mono (by intro k hk h; rcases h with h | h | h <;> first | omega | exact Or.inl ⟨(by have hb := HBR.out k h; omega), ⟨rfl, Or.inl h⟩⟩), (fun _ => rfl), ?_⟩
  intro u2_1 hr
  have zu2_1 := hr.size
  have Hx10 := hid ((qwr.widen (R' := (fun k => (R k) ∨ (New u1_0 u1_1a k) ∨ (New u1_1 u1_2a k) ∨ (New u2_0 u2_1a k))) (by intro k h1; simp only [or_assoc] at h1 ⊢; exact h1) (Nat.le_refl _)).mod hr (by intro k h1 h2; rcases h1 with h1 | h1 | h1 | h1 <;> first | omega | (have hb := HBR.out k h1; omega)))
  have Cx11 := hid (Cx8.out.goM hm hr (fun _ _ h => h))
  clear Cx8 hm hr Z act E qwr Hx9
  refine QChain.nil fun vs hl hzz hrows hne => ?_
  obtain ⟨Z, hYZ, hZb, hV⟩ := hzz
  have f0 := fvi hV hl 0
  have f3 := fvi hV hl 3
  rw [show vs = [gw vs 0, gw vs 1, gw vs 2, gw vs 3] from (gw_eta hl).trans rfl]
  have ha0 := HA0.out
  subst ha0
  clear HA0 hV hYZ hZb hsz0 hrows hne oe0 oe3
  simp only [putAll, Act.put, List.setIfInBounds_toArray, List.set_cons_zero, List.set_cons_succ, f0, f3]
  clear hl f0 f3
  go_wp2
  go_end0
  have hq := (Hx10.out.widen (R' := (fun k => R k ∨ New w u2_1 k)) (by intro k h1; rcases h1 with h1 | h1 | h1 | h1 <;> first | exact Or.inl h1 | (right; omega)) (Nat.le_refl _))
  simp only [List.append_assoc] at hq
  exact ⟨rfl, by simpa only [dnB, List.append_assoc] using hq, ((HM0.out.trans Cx7.out (fun _ _ h => h)).trans Cx11.out (by intro k h1 h2; rcases h2 with h2 | h2 | h2 <;> first | exact h2 | omega | (have hb := HBR.out k h2; omega)))⟩
set_option maxHeartbeats 4000000 in
theorem PutList_Dn : PutsL DnR 153 154 dnB := by
  intro R R2 g bs v l w hW hB hs hB2 hD hl
  obtain ⟨ao, cap, rfl⟩ := hs.shape
  have hb64 : l.length ≤ maxLen := hs.bd
  rw [maxLen_val] at hb64
  have HI64 := hid (show I64 (l.length : Int) by unfold I64; omega)
  have HW := Lib.hid hW
  have HS := Lib.hid hs
  have HBR := Lib.hid hB
  have HBT := Lib.hid hB2
  have HDJ := Lib.hid hD
  have HL := Lib.hid hl
  clear hW hB hs hB2 hD hl
  unfold listB at HL
  go_enter Try.func153, Try.ntmps153
  go_upto_region 0 with (fail)
  have HM0 := hid (Mod.refl (fun k => (R k)) w)
  go_upto_region 0 with (fail)
  generalize ha0 : Act.mk _ _ = a0
  have oe0 : a0.eval (.tmp 0) = .pointer (some ⟨g, 0, none⟩) := by rw [← ha0]; rfl
  have oe1 : a0.eval (.tmp 1) = .slice ao l.length cap := by rw [← ha0]; rfl
  have hsz0 : a0.tmps.size = 23 := by rw [← ha0]; rfl
  have HA0 := hid ha0
  clear ha0
  refine wp_region_Q1 23 hsz0 [8, 9, 10, 11] (fun k => (R k)) (fun k j => (k = 0 ∧ ((R j)))) (fun _ _ h => h.2) [qi (.pointer (some ⟨g, 0, none⟩)), qi (.slice ao l.length cap), qi (.int .i64 l.length), qi (.pointer (some ⟨g, 0, none⟩))] ⟨qi_stable, qi_stable, qi_stable, qi_stable, trivial⟩ [3] ⟨?_, ?_, ?_, ?_, trivial⟩ ?_
  · exact stq (fun E => ex_move rfl (E.v oe0))
  · exact stq (fun E => ex_move rfl (E.v oe1))
  · exact stq (fun E => ex_lenS rfl (E.d 1) Try.underlying88)
  · exact stepq_chain rfl
  intro u0_0 hr
  have zu0_0 := hr.size
  have Cx1 := hid (hr.new (S := (fun k => (R k))))
  have Hx2 := hid (HW.out.mod hr (by intro k h1 h2; have hb := HBR.out k h1; omega))
  clear HW
  clear hr
  refine QChain.go fun Z act E => ?_
  refine qc_callF (args := #[.pointer (some ⟨g, 0, none⟩), .int .i64 l.length]) rfl (wanted_none rfl) rfl Try.func64 (args2 (E.d 0) (E.d 2)) (WInt_Q Hx2.out HI64.out (by have := HL.out; simp only [List.length_append] at this ⊢; omega)) ?_
  rintro e u0_1a ⟨rfl, qwr, hm⟩
  have zu0_1a := hm.size
  refine ⟨_, rfl, hm.mono (by intro k hk h; first | omega | exact Or.inl ⟨(by have hb := HBR.out k h; omega), ⟨rfl, h⟩⟩), (fun _ => rfl), ?_⟩
  intro u0_1 hr
  have zu0_1 := hr.size
  have Hx3 := hid ((qwr.widen (R' := (fun k => (R k) ∨ (New u0_0 u0_1a k))) (fun _ h => h) (Nat.le_refl _)).mod hr (by intro k h1 h2; rcases h1 with h1 | h1 <;> first | omega | (have hb := HBR.out k h1; omega)))
  have Cx4 := hid (Cx1.out.goM hm hr (fun _ _ h => h))
  clear Cx1 hm hr Z act E qwr Hx2
  refine QChain.nil fun vs hl hzz hrows hne => ?_
  obtain ⟨Z, hYZ, hZb, hV⟩ := hzz
  have f0 := fvi hV hl 0
  have f1 := fvi hV hl 1
  have f2 := fvi hV hl 2
  have f3 := fvi hV hl 3
  rw [show vs = [gw vs 0, gw vs 1, gw vs 2, gw vs 3] from (gw_eta hl).trans rfl]
  have ha0 := HA0.out
  subst ha0
  clear HA0 hV hYZ hZb hsz0 hrows hne oe0 oe1
  simp only [putAll, Act.put, List.setIfInBounds_toArray, List.set_cons_zero, List.set_cons_succ, f0, f1, f2, f3]
  clear hl f0 f1 f2 f3
  go_wp2
  go_loopw [14] (fun t wr => ∃ k : Nat, t = .int .i64 (k : Int) ∧ k ≤ l.length ∧ u0_1.heap.size ≤ wr.heap.size ∧ WrR (fun b => R b ∨ (w.heap.size ≤ b ∧ b < wr.heap.size)) 900000 wr g (bs ++ (encI l.length ++ ((l.take k).map dnB).flatten)) ∧ RdS DnR R2 wr (.slice ao l.length cap) l ∧ Mod R w wr) (fun t _ => l.length - (intOf t).toNat)
  case atStart => exact ⟨0, rfl, Nat.zero_le _, Nat.le_refl _, by have hq := (Hx3.out.widen (R' := (fun k => R k ∨ (w.heap.size ≤ k ∧ k < u0_1.heap.size))) (by intro k h1; rcases h1 with h1 | h1 <;> first | exact Or.inl h1 | (right; omega)) (Nat.le_refl _)); simpa only [List.take_zero, List.map_nil, List.flatten_nil, List.append_nil] using hq, (HS.out.mod Cx4.out (by intro k h1 h2; first | omega | (have hb := HBT.out k h1; omega) | (have hb := HBR.out k h2; omega) | exact HDJ.out k h1 h2 | exact HDJ.out k h2 h1 | (have hb := HBT.out k h1; have hb2 := HBR.out k h2; omega))), (HM0.out.trans Cx4.out (fun _ _ h => h))⟩
  case round =>
    obtain ⟨k, rfl, hk, hz, hw, hs, hm⟩ := hrel
    have HW2 := Lib.hid hw
    have HS2 := Lib.hid hs
    have HM2 := Lib.hid hm
    clear hw hs hm Hx3 HS HM0
    obtain ⟨wo, rfl⟩ : ∃ x, x = wr := ⟨_, rfl⟩
    by_cases hlt : k < l.length
    · skip
      obtain ⟨g0, o0, cs, rfl, hrg, hrd, hcs⟩ := HS2.out.at hlt
      have hcl : cs.length = 4 := DnR.len hrd
      have HCL := Lib.hid hcl
      have HAT := hid (show CellsAt R2 wo g0 (o0 + k * 4) cs from ⟨hrg, hcs⟩)
      have HRD := Lib.hid hrd
      have HOC := hid (DnR.one hrd)
      clear hcl hcs hrd hrg
      have HE : Hid (bs ++ (encI l.length ++ ((l.take k).map dnB).flatten) ++ dnB l[k] = bs ++ (encI l.length ++ ((l.take (k + 1)).map dnB).flatten)) := hid (by rw [List.take_succ_eq_append_getElem hlt, List.map_append, List.flatten_append]; simp [List.append_assoc])
      have HLk := hid (show (bs ++ (encI l.length ++ ((l.take k).map dnB).flatten) ++ dnB l[k]).length ≤ 900000 by rw [HE.out]; exact Nat.le_trans (put_len _ _ _ _ _) HL.out)
      go_upto_region 3 with (fail)
      generalize ha0 : Act.mk _ _ = a0
      have oe12 : a0.eval (.tmp 12) = .slice (some ⟨g0, o0, none⟩) l.length cap := by rw [← ha0]; rfl
      have oe14 : a0.eval (.tmp 14) = .int .i64 ((k : Nat) : Int) := by rw [← ha0]; rfl
      have hsz0 : a0.tmps.size = 23 := by rw [← ha0]; rfl
      have HA0 := hid ha0
      clear ha0
      refine wp_region_Q 23 hsz0 (by kernel_rfl) (by kernel_rfl) [16, 17, 7, 26] (by kernel_rfl) (by decide) (fun _ => False) (fun _ _ => False) (fun _ _ h => h) [qi (.pointer (some ⟨g0, o0 + k * 4, none⟩)), qi (.agg cs.toArray), qa, qa] ⟨qi_stable, qi_stable, qa_stable, qa_stable, trivial⟩ [] (by kernel_rfl) (by decide) (by kernel_rfl) [⟨2, 3, 34, [.int .i64 0, .int .i64 0, .int .i64 0, .int .i64 0], 0, (fun t => cs)⟩] (by kernel_rfl) (by intro r hr; simp only [List.mem_cons, List.not_mem_nil, or_false] at hr; rcases hr with rfl <;> exact ⟨by kernel_rfl, by kernel_rfl⟩) (by intro r hr; simp only [List.mem_cons, List.not_mem_nil, or_false] at hr; rcases hr with rfl <;> exact ⟨of_decide_eq_true (by kernel_rfl), of_decide_eq_true (by kernel_rfl)⟩) (by intro r hr; simp only [List.mem_cons, List.not_mem_nil, or_false] at hr; rcases hr with rfl <;> exact fun _ _ _ _ => ⟨trivial, trivial⟩) ⟨?_, ?_, ?_, ?_, trivial⟩ ?_
      · exact stq (fun E => ex_idxS (i := k) (s := 4) rfl Try.underlying88 (by kernel_rfl) (E.v oe12) (E.v oe14) (by omega))
      · exact stq (fun E => ex_loadA rfl Try.underlying34 rfl (off := o0 + k * 4) (cs := cs) (by rw [HCL.out]; kernel_rfl) (E.d 0) (fun j u hu => ((HAT.out.mod E.m.old (by intro k h1 h2; have hb := HBT.out k h1; omega))).2 j u hu))
      · exact stepq_make rfl rfl ⟨rfl, rfl, by kernel_rfl, by kernel_rfl⟩
      · refine stepq_write rfl rfl rfl ⟨rfl, 7, (.tmp 17), rfl, by decide, rfl, by kernel_rfl, fun Z tr act w' hm hout hsz hd hpre => ?_⟩
        have h1 := hd ⟨1, .data⟩ (by simp) rfl _ rfl
        exact ⟨Nat.zero_le _, (by rw [show act.eval ((.tmp 17)) = _ from h1]; rfl), (by rw [HCL.out]; rfl), HOC.out⟩
      intro u3_0 hr
      have zu3_0 := hr.size
      have Cx5 := hid (hr.new (S := (fun _ => False)))
      clear hr
      refine QChain.nil fun vs hl hzz hrows hne => ?_
      obtain ⟨Z, hYZ, hZb, hV⟩ := hzz
      obtain ⟨q, g2, hBq, hYq, hCq⟩ := hrows _ (by simp only [List.mem_cons, List.not_mem_nil, or_false]; trivial)
      have f2 : gw vs 2 = _ := getv g2
      (try dsimp only at hBq hYq); (try simp only [false_or] at hBq hYq)
      have zqq := hCq.lt
      have Hx6 := hid (show Cs u3_0 q (cs : List Value).toArray 34 from hCq)
      rw [show vs = [gw vs 0, gw vs 1, gw vs 2, gw vs 3] from (gw_eta hl).trans rfl]
      have ha0 := HA0.out
      subst ha0
      clear HA0 hV hYZ hZb hsz0 hrows hne oe12 oe14 hCq g2
      simp only [putAll, Act.put, List.setIfInBounds_toArray, List.set_cons_zero, List.set_cons_succ, List.set_nil, f2]
      clear hl f2
      go_upto_region 4 with (fail)
      generalize ha0 : Act.mk _ _ = a0
      have oe0 : a0.eval (.tmp 0) = .pointer (some ⟨g, 0, none⟩) := by rw [← ha0]; rfl
      have oe2 : a0.eval (.tmp 2) = .func (.func 154) #[] #[] := by rw [← ha0]; rfl
      have oe7 : a0.eval (.tmp 7) = .pointer (some ⟨q, 0, none⟩) := by rw [← ha0]; rfl
      have hsz0 : a0.tmps.size = 23 := by rw [← ha0]; rfl
      have HA0 := hid ha0
      clear ha0
      refine wp_region_Q1 23 hsz0 [18, 19, 20, 21] (fun k => (R k) ∨ (New w wo k)) (fun k j => (k = 0 ∧ ((R j) ∨ (New w wo j)))) (fun _ _ h => h.2) [qi (.func (.func 154) #[] #[]), qi (.pointer (some ⟨g, 0, none⟩)), qi (.agg cs.toArray), qi (.tuple #[])] ⟨qi_stable, qi_stable, qi_stable, qi_stable, trivial⟩ [3] ⟨?_, ?_, ?_, ?_, trivial⟩ ?_
      · exact stq (fun E => ex_move rfl (E.v oe2))
      · exact stq (fun E => ex_move rfl (E.v oe0))
      · exact stq (fun E => ex_loadA rfl Try.underlying34 rfl (off := 0) (cs := cs) (by rw [HCL.out]; kernel_rfl) (E.v oe7) (Cs.whole (Hx6.out.mod E.m (by intro h2; rcases h2 with ⟨h0, h2 | h2⟩ | h2 <;> first | omega | (have hb := HBR.out _ h2; omega)))))
      · exact stepq_chain rfl
      intro u4_0 hr
      have zu4_0 := hr.size
      have Cx7 := hid (hr.new (S := (fun k => (R k) ∨ (New w wo k))))
      have Hx8 := hid ((HW2.out.mod Cx5.out (fun _ _ h => h)).mod hr (by intro k h1 h2; rcases h1 with h1 | h1 <;> first | omega | (have hb := HBR.out k h1; omega)))
      clear HW2
      clear hr
      refine QChain.go fun Z act E => ?_
      have ea19 : act.eval (.tmp 19) = .pointer (some ⟨g, 0, none⟩) := (E.d 1)
      have ea20 : act.eval (.tmp 20) = .agg cs.toArray := (E.d 2)
      refine qc_call (args := #[.pointer (some ⟨g, 0, none⟩), .agg cs.toArray]) rfl (wanted_none rfl) (by rw [ex_callV rfl (E.d 0) Try.func154 (by kernel_rfl) (by kernel_rfl)]; exact congrArg (fun z => Result.ok (Next.enter _ z) _) (by simp only [List.map_toArray, List.map_cons, List.map_nil, ea19, ea20]; try rfl)) (PutDn_Q _ _ _ _ _ _ _ Hx8.out (by intro k h1; rcases h1 with h1 | h1 <;> first | omega | (have hb := HBR.out k h1; omega)) ((HRD.out.mod Cx5.out (fun _ _ h => h)).mod Cx7.out (by intro k h1 h2; rcases h2 with h2 | h2 <;> first | omega | (have hb := HBT.out k h1; omega) | (have hb := HBR.out k h2; omega) | exact HDJ.out k h1 h2 | exact HDJ.out k h2 h1 | (have hb := HBT.out k h1; have hb2 := HBR.out k h2; omega))) (by intro k h1; have hb := HBT.out k h1; omega) (by intro k h1 h2; rcases h1 with h1 | h1 <;> first | omega | (have hb := HBR.out k h1; omega) | (have hb := HBT.out k h2; omega) | exact HDJ.out k h1 h2 | exact HDJ.out k h2 h1 | (have hb := HBR.out k h1; have hb2 := HBT.out k h2; omega)) HLk.out) ?_
      rintro e u4_1a ⟨rfl, qwr, hm⟩
      have zu4_1a := hm.size
      refine ⟨_, rfl, hm.mono (by intro k hk h; rcases h with h | h <;> first | omega | exact Or.inl ⟨(by have hb := HBR.out k h; omega), ⟨rfl, Or.inl h⟩⟩), (fun _ => rfl), ?_⟩
      intro u4_1 hr
      have zu4_1 := hr.size
      have Hx9 := hid ((qwr.widen (R' := (fun k => (R k) ∨ (New w wo k) ∨ (New u4_0 u4_1a k))) (by intro k h1; simp only [or_assoc] at h1 ⊢; exact h1) (Nat.le_refl _)).mod hr (by intro k h1 h2; rcases h1 with h1 | h1 | h1 <;> first | omega | (have hb := HBR.out k h1; omega)))
      have Cx10 := hid (Cx7.out.goM hm hr (fun _ _ h => h))
      clear Cx7 hm hr Z act E qwr Hx8 ea19 ea20
      refine QChain.nil fun vs hl hzz hrows hne => ?_
      obtain ⟨Z, hYZ, hZb, hV⟩ := hzz
      have f0 := fvi hV hl 0
      have f1 := fvi hV hl 1
      have f3 := fvi hV hl 3
      rw [show vs = [gw vs 0, gw vs 1, gw vs 2, gw vs 3] from (gw_eta hl).trans rfl]
      have ha0 := HA0.out
      subst ha0
      clear HA0 hV hYZ hZb hsz0 hrows hne oe0 oe2 oe7
      simp only [putAll, Act.put, List.setIfInBounds_toArray, List.set_cons_zero, List.set_cons_succ, f0, f1, f3]
      clear hl f0 f1 f3
      have hq := Hx9.out
      rw [HE.out] at hq
      have HQ := Lib.hid hq
      clear hq
      go_wp2
      go_roundw
      case rel => exact ⟨k + 1, by go_num, by omega, by omega, (HQ.out.widen (by intro b h1; rcases h1 with h1 | h1 | h1 <;> first | exact Or.inl h1 | (right; omega)) (Nat.le_refl _)), ((HS2.out.mod Cx5.out (fun _ _ h => h)).mod Cx10.out (by intro k h1 h2; rcases h2 with h2 | h2 <;> first | omega | (have hb := HBT.out k h1; omega) | (have hb := HBR.out k h2; omega) | exact HDJ.out k h1 h2 | exact HDJ.out k h2 h1 | (have hb := HBT.out k h1; have hb2 := HBR.out k h2; omega))), ((HM2.out.trans Cx5.out (fun _ _ h => h.elim)).trans Cx10.out (by intro k h1 h2; rcases h2 with h2 | h2 <;> first | exact h2 | omega | (have hb := HBR.out k h2; omega)))⟩
      case measure => simp [intOf]; omega
    · have hkk : k = l.length := by omega
      subst hkk
      go_wp2
      go_end0
      have hq := HW2.out
      rw [List.take_length] at hq
      exact ⟨rfl, hq, HM2.out⟩
set_option maxHeartbeats 4000000 in
theorem PutTb_Q : Puts TbR 134 tbB := by
  intro R R2 g bs cs x w hW hB hx hB2 hD hl
  obtain ⟨v_l, rfl, hok, hs0⟩ := hx
  have HS0 := Lib.hid hs0
  clear hs0
  have HW := Lib.hid hW
  have HBR := Lib.hid hB
  have HBT := Lib.hid hB2
  have HDJ := Lib.hid hD
  have HOK := Lib.hid hok
  have HL := Lib.hid hl
  clear hW hB hB2 hD hl hok
  unfold tbB at HL
  go_enter Try.func134, Try.ntmps134
  go_upto_region 1 with (fail)
  obtain ⟨w1, hw1⟩ : ∃ zz, zz = (w.alloc (.cells (x.cells v_l : List Value).toArray 90)) := ⟨_, rfl⟩
  change Code.wp _ _ _ _ (w.alloc (.cells (x.cells v_l : List Value).toArray 90))
  rw [← hw1]
  have HB3 := hid (show Cs w1 (w.heap.size) (x.cells v_l : List Value).toArray 90 by rw [hw1]; exact Cs.new _ _ _)
  have hm : Mod (fun _ => False) w w1 := by rw [hw1]; exact (Mod.refl _ _).alloc _
  have HM0 := hid (show Mod (fun k => (R k)) w w1 from hm.mono (fun _ _ h => h.elim))
  have hs1 : w1.heap.size = w.heap.size + 1 := by rw [hw1]; simp
  have Hx1 := hid (HW.out.mod hm (fun _ _ h => h))
  clear HW
  have Hx2 := hid (HS0.out.mod hm (fun _ _ h => h))
  clear HS0
  clear hw1 hm
  go_upto_region 1 with (fail)
  generalize ha0 : Act.mk _ _ = a0
  have oe0 : a0.eval (.tmp 0) = .pointer (some ⟨g, 0, none⟩) := by rw [← ha0]; rfl
  have oe3 : a0.eval (.tmp 3) = .pointer (some ⟨w.heap.size, 0, none⟩) := by rw [← ha0]; rfl
  have hsz0 : a0.tmps.size = 12 := by rw [← ha0]; rfl
  have HA0 := hid ha0
  clear ha0
  refine wp_region_Q1 12 hsz0 [4, 5, 6, 7] (fun k => (R k)) (fun k j => (k = 0 ∧ ((R j)))) (fun _ _ h => h.2) [qi (.pointer (some ⟨g, 0, none⟩)), qi (.pointer (some ⟨w.heap.size, 0, none⟩)), qi (.int .i64 x.ix), qi (.pointer (some ⟨g, 0, none⟩))] ⟨qi_stable, qi_stable, qi_stable, qi_stable, trivial⟩ [3] ⟨?_, ?_, ?_, ?_, trivial⟩ ?_
  · exact stq (fun E => ex_move rfl (E.v oe0))
  · exact stq (fun E => ex_field rfl Try.underlying90 rfl (by kernel_rfl) (E.v oe3))
  · exact stq (fun E => ex_load1 rfl Try.underlying3 rfl (E.d 1) (Cs.lit1 (HB3.out.mod E.m (by intro h2; rcases h2 with ⟨h0, h2⟩ | h2 <;> first | omega | (have hb := HBR.out _ h2; omega))) rfl))
  · exact stepq_chain rfl
  intro u1_0 hr
  have zu1_0 := hr.size
  have Cx3 := hid (hr.new (S := (fun k => (R k))))
  have Hx4 := hid (Hx1.out.mod hr (by intro k h1 h2; have hb := HBR.out k h1; omega))
  clear Hx1
  clear hr
  refine QChain.go fun Z act E => ?_
  refine qc_callF (args := #[.pointer (some ⟨g, 0, none⟩), .int .i64 x.ix]) rfl (wanted_none rfl) rfl Try.func64 (args2 (E.d 0) (E.d 2)) (WInt_Q Hx4.out HOK.out (by have := HL.out; simp only [List.length_append] at this ⊢; omega)) ?_
  rintro e u1_1a ⟨rfl, qwr, hm⟩
  have zu1_1a := hm.size
  refine ⟨_, rfl, hm.mono (by intro k hk h; first | omega | exact Or.inl ⟨(by have hb := HBR.out k h; omega), ⟨rfl, h⟩⟩), (fun _ => rfl), ?_⟩
  intro u1_1 hr
  have zu1_1 := hr.size
  have Hx5 := hid ((qwr.widen (R' := (fun k => (R k) ∨ (New u1_0 u1_1a k))) (fun _ h => h) (Nat.le_refl _)).mod hr (by intro k h1 h2; rcases h1 with h1 | h1 <;> first | omega | (have hb := HBR.out k h1; omega)))
  have Cx6 := hid (Cx3.out.goM hm hr (fun _ _ h => h))
  clear Cx3 hm hr Z act E qwr Hx4
  refine QChain.nil fun vs hl hzz hrows hne => ?_
  obtain ⟨Z, hYZ, hZb, hV⟩ := hzz
  have f0 := fvi hV hl 0
  have f3 := fvi hV hl 3
  rw [show vs = [gw vs 0, gw vs 1, gw vs 2, gw vs 3] from (gw_eta hl).trans rfl]
  have ha0 := HA0.out
  subst ha0
  clear HA0 hV hYZ hZb hsz0 hrows hne oe0 oe3
  simp only [putAll, Act.put, List.setIfInBounds_toArray, List.set_cons_zero, List.set_cons_succ, f0, f3]
  clear hl f0 f3
  go_upto_region 2 with (fail)
  generalize ha0 : Act.mk _ _ = a0
  have oe0 : a0.eval (.tmp 0) = .pointer (some ⟨g, 0, none⟩) := by rw [← ha0]; rfl
  have oe3 : a0.eval (.tmp 3) = .pointer (some ⟨w.heap.size, 0, none⟩) := by rw [← ha0]; rfl
  have hsz0 : a0.tmps.size = 12 := by rw [← ha0]; rfl
  have HA0 := hid ha0
  clear ha0
  refine wp_region_Q1 12 hsz0 [8, 9, 10, 11] (fun k => (R k) ∨ (New u1_0 u1_1a k)) (fun k j => (k = 0 ∧ ((R j) ∨ (New u1_0 u1_1a j)))) (fun _ _ h => h.2) [qi (.pointer (some ⟨g, 0, none⟩)), qi (.pointer (some ⟨w.heap.size, 1, none⟩)), qi (v_l), qi (.tuple #[])] ⟨qi_stable, qi_stable, qi_stable, qi_stable, trivial⟩ [3] ⟨?_, ?_, ?_, ?_, trivial⟩ ?_
  · exact stq (fun E => ex_move rfl (E.v oe0))
  · exact stq (fun E => ex_field rfl Try.underlying90 rfl (by kernel_rfl) (E.v oe3))
  · exact stq (fun E => ex_load1 rfl Try.underlying88 rfl (E.d 1) (Cs.lit1 ((HB3.out.mod Cx6.out (by intro h2; first | omega | (have hb := HBR.out _ h2; omega))).mod E.m (by intro h2; rcases h2 with ⟨h0, h2 | h2⟩ | h2 <;> first | omega | (have hb := HBR.out _ h2; omega))) rfl))
  · exact stepq_chain rfl
  intro u2_0 hr
  have zu2_0 := hr.size
  have Cx7 := hid (hr.new (S := (fun k => (R k) ∨ (New u1_0 u1_1a k))))
  have Hx8 := hid (Hx5.out.mod hr (by intro k h1 h2; rcases h1 with h1 | h1 <;> first | omega | (have hb := HBR.out k h1; omega)))
  clear Hx5
  clear hr
  refine QChain.go fun Z act E => ?_
  refine qc_callF (args := #[.pointer (some ⟨g, 0, none⟩), v_l, .func (.func 154) #[] #[]]) rfl (wanted_none rfl) rfl Try.func153 (args3 (E.d 0) (E.d 2) rfl) (PutList_Dn _ _ _ _ _ _ _ Hx8.out (by intro k h1; rcases h1 with h1 | h1 <;> first | omega | (have hb := HBR.out k h1; omega)) ((Hx2.out.mod Cx6.out (by intro k h1 h2; first | omega | (have hb := HBT.out k h1; omega) | (have hb := HBR.out k h2; omega) | exact HDJ.out k h1 h2 | exact HDJ.out k h2 h1 | (have hb := HBT.out k h1; have hb2 := HBR.out k h2; omega))).mod Cx7.out (by intro k h1 h2; rcases h2 with h2 | h2 <;> first | omega | (have hb := HBT.out k h1; omega) | (have hb := HBR.out k h2; omega) | exact HDJ.out k h1 h2 | exact HDJ.out k h2 h1 | (have hb := HBT.out k h1; have hb2 := HBR.out k h2; omega))) (by intro k h1; have hb := HBT.out k h1; omega) (by intro k h1 h2; rcases h1 with h1 | h1 <;> first | omega | (have hb := HBR.out k h1; omega) | (have hb := HBT.out k h2; omega) | exact HDJ.out k h1 h2 | exact HDJ.out k h2 h1 | (have hb := HBR.out k h1; have hb2 := HBT.out k h2; omega)) (by have := HL.out; simp only [List.length_append] at this ⊢; omega)) ?_
  rintro e u2_1a ⟨rfl, qwr, hm⟩
  have zu2_1a := hm.size
  refine ⟨_, rfl, hm.mono (by intro k hk h; rcases h with h | h <;> first | omega | exact Or.inl ⟨(by have hb := HBR.out k h; omega), ⟨rfl, Or.inl h⟩⟩), (fun _ => rfl), ?_⟩
  intro u2_1 hr
  have zu2_1 := hr.size
  have Hx9 := hid ((qwr.widen (R' := (fun k => (R k) ∨ (New u1_0 u1_1a k) ∨ (New u2_0 u2_1a k))) (by intro k h1; simp only [or_assoc] at h1 ⊢; exact h1) (Nat.le_refl _)).mod hr (by intro k h1 h2; rcases h1 with h1 | h1 | h1 <;> first | omega | (have hb := HBR.out k h1; omega)))
  have Cx10 := hid (Cx7.out.goM hm hr (fun _ _ h => h))
  clear Cx7 hm hr Z act E qwr Hx8
  refine QChain.nil fun vs hl hzz hrows hne => ?_
  obtain ⟨Z, hYZ, hZb, hV⟩ := hzz
  have f0 := fvi hV hl 0
  have f3 := fvi hV hl 3
  rw [show vs = [gw vs 0, gw vs 1, gw vs 2, gw vs 3] from (gw_eta hl).trans rfl]
  have ha0 := HA0.out
  subst ha0
  clear HA0 hV hYZ hZb hsz0 hrows hne oe0 oe3
  simp only [putAll, Act.put, List.setIfInBounds_toArray, List.set_cons_zero, List.set_cons_succ, f0, f3]
  clear hl f0 f3
  go_wp2
  go_end0
  have hq := (Hx9.out.widen (R' := (fun k => R k ∨ New w u2_1 k)) (by intro k h1; rcases h1 with h1 | h1 | h1 <;> first | exact Or.inl h1 | (right; omega)) (Nat.le_refl _))
  simp only [List.append_assoc] at hq
  exact ⟨rfl, by simpa only [tbB, List.append_assoc] using hq, ((HM0.out.trans Cx6.out (fun _ _ h => h)).trans Cx10.out (by intro k h1 h2; rcases h2 with h2 | h2 <;> first | exact h2 | omega | (have hb := HBR.out k h2; omega)))⟩
set_option maxHeartbeats 4000000 in
theorem PutList_Tb : PutsL TbR 133 134 tbB := by
  intro R R2 g bs v l w hW hB hs hB2 hD hl
  obtain ⟨ao, cap, rfl⟩ := hs.shape
  have hb64 : l.length ≤ maxLen := hs.bd
  rw [maxLen_val] at hb64
  have HI64 := hid (show I64 (l.length : Int) by unfold I64; omega)
  have HW := Lib.hid hW
  have HS := Lib.hid hs
  have HBR := Lib.hid hB
  have HBT := Lib.hid hB2
  have HDJ := Lib.hid hD
  have HL := Lib.hid hl
  clear hW hB hs hB2 hD hl
  unfold listB at HL
  go_enter Try.func133, Try.ntmps133
  go_upto_region 0 with (fail)
  have HM0 := hid (Mod.refl (fun k => (R k)) w)
  go_upto_region 0 with (fail)
  generalize ha0 : Act.mk _ _ = a0
  have oe0 : a0.eval (.tmp 0) = .pointer (some ⟨g, 0, none⟩) := by rw [← ha0]; rfl
  have oe1 : a0.eval (.tmp 1) = .slice ao l.length cap := by rw [← ha0]; rfl
  have hsz0 : a0.tmps.size = 23 := by rw [← ha0]; rfl
  have HA0 := hid ha0
  clear ha0
  refine wp_region_Q1 23 hsz0 [8, 9, 10, 11] (fun k => (R k)) (fun k j => (k = 0 ∧ ((R j)))) (fun _ _ h => h.2) [qi (.pointer (some ⟨g, 0, none⟩)), qi (.slice ao l.length cap), qi (.int .i64 l.length), qi (.pointer (some ⟨g, 0, none⟩))] ⟨qi_stable, qi_stable, qi_stable, qi_stable, trivial⟩ [3] ⟨?_, ?_, ?_, ?_, trivial⟩ ?_
  · exact stq (fun E => ex_move rfl (E.v oe0))
  · exact stq (fun E => ex_move rfl (E.v oe1))
  · exact stq (fun E => ex_lenS rfl (E.d 1) Try.underlying58)
  · exact stepq_chain rfl
  intro u0_0 hr
  have zu0_0 := hr.size
  have Cx1 := hid (hr.new (S := (fun k => (R k))))
  have Hx2 := hid (HW.out.mod hr (by intro k h1 h2; have hb := HBR.out k h1; omega))
  clear HW
  clear hr
  refine QChain.go fun Z act E => ?_
  refine qc_callF (args := #[.pointer (some ⟨g, 0, none⟩), .int .i64 l.length]) rfl (wanted_none rfl) rfl Try.func64 (args2 (E.d 0) (E.d 2)) (WInt_Q Hx2.out HI64.out (by have := HL.out; simp only [List.length_append] at this ⊢; omega)) ?_
  rintro e u0_1a ⟨rfl, qwr, hm⟩
  have zu0_1a := hm.size
  refine ⟨_, rfl, hm.mono (by intro k hk h; first | omega | exact Or.inl ⟨(by have hb := HBR.out k h; omega), ⟨rfl, h⟩⟩), (fun _ => rfl), ?_⟩
  intro u0_1 hr
  have zu0_1 := hr.size
  have Hx3 := hid ((qwr.widen (R' := (fun k => (R k) ∨ (New u0_0 u0_1a k))) (fun _ h => h) (Nat.le_refl _)).mod hr (by intro k h1 h2; rcases h1 with h1 | h1 <;> first | omega | (have hb := HBR.out k h1; omega)))
  have Cx4 := hid (Cx1.out.goM hm hr (fun _ _ h => h))
  clear Cx1 hm hr Z act E qwr Hx2
  refine QChain.nil fun vs hl hzz hrows hne => ?_
  obtain ⟨Z, hYZ, hZb, hV⟩ := hzz
  have f0 := fvi hV hl 0
  have f1 := fvi hV hl 1
  have f2 := fvi hV hl 2
  have f3 := fvi hV hl 3
  rw [show vs = [gw vs 0, gw vs 1, gw vs 2, gw vs 3] from (gw_eta hl).trans rfl]
  have ha0 := HA0.out
  subst ha0
  clear HA0 hV hYZ hZb hsz0 hrows hne oe0 oe1
  simp only [putAll, Act.put, List.setIfInBounds_toArray, List.set_cons_zero, List.set_cons_succ, f0, f1, f2, f3]
  clear hl f0 f1 f2 f3
  go_wp2
  go_loopw [14] (fun t wr => ∃ k : Nat, t = .int .i64 (k : Int) ∧ k ≤ l.length ∧ u0_1.heap.size ≤ wr.heap.size ∧ WrR (fun b => R b ∨ (w.heap.size ≤ b ∧ b < wr.heap.size)) 900000 wr g (bs ++ (encI l.length ++ ((l.take k).map tbB).flatten)) ∧ RdS TbR R2 wr (.slice ao l.length cap) l ∧ Mod R w wr) (fun t _ => l.length - (intOf t).toNat)
  case atStart => exact ⟨0, rfl, Nat.zero_le _, Nat.le_refl _, by have hq := (Hx3.out.widen (R' := (fun k => R k ∨ (w.heap.size ≤ k ∧ k < u0_1.heap.size))) (by intro k h1; rcases h1 with h1 | h1 <;> first | exact Or.inl h1 | (right; omega)) (Nat.le_refl _)); simpa only [List.take_zero, List.map_nil, List.flatten_nil, List.append_nil] using hq, (HS.out.mod Cx4.out (by intro k h1 h2; first | omega | (have hb := HBT.out k h1; omega) | (have hb := HBR.out k h2; omega) | exact HDJ.out k h1 h2 | exact HDJ.out k h2 h1 | (have hb := HBT.out k h1; have hb2 := HBR.out k h2; omega))), (HM0.out.trans Cx4.out (fun _ _ h => h))⟩
  case round =>
    obtain ⟨k, rfl, hk, hz, hw, hs, hm⟩ := hrel
    have HW2 := Lib.hid hw
    have HS2 := Lib.hid hs
    have HM2 := Lib.hid hm
    clear hw hs hm Hx3 HS HM0
    obtain ⟨wo, rfl⟩ : ∃ x, x = wr := ⟨_, rfl⟩
    by_cases hlt : k < l.length
    · skip
      obtain ⟨g0, o0, cs, rfl, hrg, hrd, hcs⟩ := HS2.out.at hlt
      have hcl : cs.length = 2 := TbR.len hrd
      have HCL := Lib.hid hcl
      have HAT := hid (show CellsAt R2 wo g0 (o0 + k * 2) cs from ⟨hrg, hcs⟩)
      have HRD := Lib.hid hrd
      have HOC := hid (TbR.one hrd)
      clear hcl hcs hrd hrg
      have HE : Hid (bs ++ (encI l.length ++ ((l.take k).map tbB).flatten) ++ tbB l[k] = bs ++ (encI l.length ++ ((l.take (k + 1)).map tbB).flatten)) := hid (by rw [List.take_succ_eq_append_getElem hlt, List.map_append, List.flatten_append]; simp [List.append_assoc])
      have HLk := hid (show (bs ++ (encI l.length ++ ((l.take k).map tbB).flatten) ++ tbB l[k]).length ≤ 900000 by rw [HE.out]; exact Nat.le_trans (put_len _ _ _ _ _) HL.out)
      go_upto_region 3 with (fail)
      generalize ha0 : Act.mk _ _ = a0
      have oe12 : a0.eval (.tmp 12) = .slice (some ⟨g0, o0, none⟩) l.length cap := by rw [← ha0]; rfl
      have oe14 : a0.eval (.tmp 14) = .int .i64 ((k : Nat) : Int) := by rw [← ha0]; rfl
      have hsz0 : a0.tmps.size = 23 := by rw [← ha0]; rfl
      have HA0 := hid ha0
      clear ha0
      refine wp_region_Q 23 hsz0 (by kernel_rfl) (by kernel_rfl) [16, 17, 7, 26] (by kernel_rfl) (by decide) (fun _ => False) (fun _ _ => False) (fun _ _ h => h) [qi (.pointer (some ⟨g0, o0 + k * 2, none⟩)), qi (.agg cs.toArray), qa, qa] ⟨qi_stable, qi_stable, qa_stable, qa_stable, trivial⟩ [] (by kernel_rfl) (by decide) (by kernel_rfl) [⟨2, 3, 90, [.int .i64 0, .slice none 0 0], 0, (fun t => cs)⟩] (by kernel_rfl) (by intro r hr; simp only [List.mem_cons, List.not_mem_nil, or_false] at hr; rcases hr with rfl <;> exact ⟨by kernel_rfl, by kernel_rfl⟩) (by intro r hr; simp only [List.mem_cons, List.not_mem_nil, or_false] at hr; rcases hr with rfl <;> exact ⟨of_decide_eq_true (by kernel_rfl), of_decide_eq_true (by kernel_rfl)⟩) (by intro r hr; simp only [List.mem_cons, List.not_mem_nil, or_false] at hr; rcases hr with rfl <;> exact fun _ _ _ _ => ⟨trivial, trivial⟩) ⟨?_, ?_, ?_, ?_, trivial⟩ ?_
      · exact stq (fun E => ex_idxS (i := k) (s := 2) rfl Try.underlying58 (by kernel_rfl) (E.v oe12) (E.v oe14) (by omega))
      · exact stq (fun E => ex_loadA rfl Try.underlying90 rfl (off := o0 + k * 2) (cs := cs) (by rw [HCL.out]; kernel_rfl) (E.d 0) (fun j u hu => ((HAT.out.mod E.m.old (by intro k h1 h2; have hb := HBT.out k h1; omega))).2 j u hu))
      · exact stepq_make rfl rfl ⟨rfl, rfl, by kernel_rfl, by kernel_rfl⟩
      · refine stepq_write rfl rfl rfl ⟨rfl, 7, (.tmp 17), rfl, by decide, rfl, by kernel_rfl, fun Z tr act w' hm hout hsz hd hpre => ?_⟩
        have h1 := hd ⟨1, .data⟩ (by simp) rfl _ rfl
        exact ⟨Nat.zero_le _, (by rw [show act.eval ((.tmp 17)) = _ from h1]; rfl), (by rw [HCL.out]; rfl), HOC.out⟩
      intro u3_0 hr
      have zu3_0 := hr.size
      have Cx5 := hid (hr.new (S := (fun _ => False)))
      clear hr
      refine QChain.nil fun vs hl hzz hrows hne => ?_
      obtain ⟨Z, hYZ, hZb, hV⟩ := hzz
      obtain ⟨q, g2, hBq, hYq, hCq⟩ := hrows _ (by simp only [List.mem_cons, List.not_mem_nil, or_false]; trivial)
      have f2 : gw vs 2 = _ := getv g2
      (try dsimp only at hBq hYq); (try simp only [false_or] at hBq hYq)
      have zqq := hCq.lt
      have Hx6 := hid (show Cs u3_0 q (cs : List Value).toArray 90 from hCq)
      rw [show vs = [gw vs 0, gw vs 1, gw vs 2, gw vs 3] from (gw_eta hl).trans rfl]
      have ha0 := HA0.out
      subst ha0
      clear HA0 hV hYZ hZb hsz0 hrows hne oe12 oe14 hCq g2
      simp only [putAll, Act.put, List.setIfInBounds_toArray, List.set_cons_zero, List.set_cons_succ, List.set_nil, f2]
      clear hl f2
      go_upto_region 4 with (fail)
      generalize ha0 : Act.mk _ _ = a0
      have oe0 : a0.eval (.tmp 0) = .pointer (some ⟨g, 0, none⟩) := by rw [← ha0]; rfl
      have oe2 : a0.eval (.tmp 2) = .func (.func 134) #[] #[] := by rw [← ha0]; rfl
      have oe7 : a0.eval (.tmp 7) = .pointer (some ⟨q, 0, none⟩) := by rw [← ha0]; rfl
      have hsz0 : a0.tmps.size = 23 := by rw [← ha0]; rfl
      have HA0 := hid ha0
      clear ha0
      refine wp_region_Q1 23 hsz0 [18, 19, 20, 21] (fun k => (R k) ∨ (New w wo k)) (fun k j => (k = 0 ∧ ((R j) ∨ (New w wo j)))) (fun _ _ h => h.2) [qi (.func (.func 134) #[] #[]), qi (.pointer (some ⟨g, 0, none⟩)), qi (.agg cs.toArray), qi (.tuple #[])] ⟨qi_stable, qi_stable, qi_stable, qi_stable, trivial⟩ [3] ⟨?_, ?_, ?_, ?_, trivial⟩ ?_
      · exact stq (fun E => ex_move rfl (E.v oe2))
      · exact stq (fun E => ex_move rfl (E.v oe0))
      · exact stq (fun E => ex_loadA rfl Try.underlying90 rfl (off := 0) (cs := cs) (by rw [HCL.out]; kernel_rfl) (E.v oe7) (Cs.whole (Hx6.out.mod E.m (by intro h2; rcases h2 with ⟨h0, h2 | h2⟩ | h2 <;> first | omega | (have hb := HBR.out _ h2; omega)))))
      · exact stepq_chain rfl
      intro u4_0 hr
      have zu4_0 := hr.size
      have Cx7 := hid (hr.new (S := (fun k => (R k) ∨ (New w wo k))))
      have Hx8 := hid ((HW2.out.mod Cx5.out (fun _ _ h => h)).mod hr (by intro k h1 h2; rcases h1 with h1 | h1 <;> first | omega | (have hb := HBR.out k h1; omega)))
      clear HW2
      clear hr
      refine QChain.go fun Z act E => ?_
      have ea19 : act.eval (.tmp 19) = .pointer (some ⟨g, 0, none⟩) := (E.d 1)
      have ea20 : act.eval (.tmp 20) = .agg cs.toArray := (E.d 2)
      refine qc_call (args := #[.pointer (some ⟨g, 0, none⟩), .agg cs.toArray]) rfl (wanted_none rfl) (by rw [ex_callV rfl (E.d 0) Try.func134 (by kernel_rfl) (by kernel_rfl)]; exact congrArg (fun z => Result.ok (Next.enter _ z) _) (by simp only [List.map_toArray, List.map_cons, List.map_nil, ea19, ea20]; try rfl)) (PutTb_Q _ _ _ _ _ _ _ Hx8.out (by intro k h1; rcases h1 with h1 | h1 <;> first | omega | (have hb := HBR.out k h1; omega)) ((HRD.out.mod Cx5.out (fun _ _ h => h)).mod Cx7.out (by intro k h1 h2; rcases h2 with h2 | h2 <;> first | omega | (have hb := HBT.out k h1; omega) | (have hb := HBR.out k h2; omega) | exact HDJ.out k h1 h2 | exact HDJ.out k h2 h1 | (have hb := HBT.out k h1; have hb2 := HBR.out k h2; omega))) (by intro k h1; have hb := HBT.out k h1; omega) (by intro k h1 h2; rcases h1 with h1 | h1 <;> first | omega | (have hb := HBR.out k h1; omega) | (have hb := HBT.out k h2; omega) | exact HDJ.out k h1 h2 | exact HDJ.out k h2 h1 | (have hb := HBR.out k h1; have hb2 := HBT.out k h2; omega)) HLk.out) ?_
      rintro e u4_1a ⟨rfl, qwr, hm⟩
      have zu4_1a := hm.size
      refine ⟨_, rfl, hm.mono (by intro k hk h; rcases h with h | h <;> first | omega | exact Or.inl ⟨(by have hb := HBR.out k h; omega), ⟨rfl, Or.inl h⟩⟩), (fun _ => rfl), ?_⟩
      intro u4_1 hr
      have zu4_1 := hr.size
      have Hx9 := hid ((qwr.widen (R' := (fun k => (R k) ∨ (New w wo k) ∨ (New u4_0 u4_1a k))) (by intro k h1; simp only [or_assoc] at h1 ⊢; exact h1) (Nat.le_refl _)).mod hr (by intro k h1 h2; rcases h1 with h1 | h1 | h1 <;> first | omega | (have hb := HBR.out k h1; omega)))
      have Cx10 := hid (Cx7.out.goM hm hr (fun _ _ h => h))
      clear Cx7 hm hr Z act E qwr Hx8 ea19 ea20
      refine QChain.nil fun vs hl hzz hrows hne => ?_
      obtain ⟨Z, hYZ, hZb, hV⟩ := hzz
      have f0 := fvi hV hl 0
      have f1 := fvi hV hl 1
      have f3 := fvi hV hl 3
      rw [show vs = [gw vs 0, gw vs 1, gw vs 2, gw vs 3] from (gw_eta hl).trans rfl]
      have ha0 := HA0.out
      subst ha0
      clear HA0 hV hYZ hZb hsz0 hrows hne oe0 oe2 oe7
      simp only [putAll, Act.put, List.setIfInBounds_toArray, List.set_cons_zero, List.set_cons_succ, f0, f1, f3]
      clear hl f0 f1 f3
      have hq := Hx9.out
      rw [HE.out] at hq
      have HQ := Lib.hid hq
      clear hq
      go_wp2
      go_roundw
      case rel => exact ⟨k + 1, by go_num, by omega, by omega, (HQ.out.widen (by intro b h1; rcases h1 with h1 | h1 | h1 <;> first | exact Or.inl h1 | (right; omega)) (Nat.le_refl _)), ((HS2.out.mod Cx5.out (fun _ _ h => h)).mod Cx10.out (by intro k h1 h2; rcases h2 with h2 | h2 <;> first | omega | (have hb := HBT.out k h1; omega) | (have hb := HBR.out k h2; omega) | exact HDJ.out k h1 h2 | exact HDJ.out k h2 h1 | (have hb := HBT.out k h1; have hb2 := HBR.out k h2; omega))), ((HM2.out.trans Cx5.out (fun _ _ h => h.elim)).trans Cx10.out (by intro k h1 h2; rcases h2 with h2 | h2 <;> first | exact h2 | omega | (have hb := HBR.out k h2; omega)))⟩
      case measure => simp [intOf]; omega
    · have hkk : k = l.length := by omega
      subst hkk
      go_wp2
      go_end0
      have hq := HW2.out
      rw [List.take_length] at hq
      exact ⟨rfl, hq, HM2.out⟩
set_option maxHeartbeats 4000000 in
theorem PutOp_Q : Puts OpR 132 opB := by
  intro R R2 g bs cs x w hW hB hx hB2 hD hl
  obtain ⟨v_pl, rfl, hok, hs0⟩ := hx
  have HS0 := Lib.hid hs0
  clear hs0
  have HW := Lib.hid hW
  have HBR := Lib.hid hB
  have HBT := Lib.hid hB2
  have HDJ := Lib.hid hD
  have HOK := Lib.hid hok
  have HL := Lib.hid hl
  clear hW hB hB2 hD hl hok
  unfold opB at HL
  go_enter Try.func132, Try.ntmps132
  go_upto_region 1 with (fail)
  obtain ⟨w1, hw1⟩ : ∃ zz, zz = (w.alloc (.cells (x.cells v_pl : List Value).toArray 87)) := ⟨_, rfl⟩
  change Code.wp _ _ _ _ (w.alloc (.cells (x.cells v_pl : List Value).toArray 87))
  rw [← hw1]
  have HB3 := hid (show Cs w1 (w.heap.size) (x.cells v_pl : List Value).toArray 87 by rw [hw1]; exact Cs.new _ _ _)
  have hm : Mod (fun _ => False) w w1 := by rw [hw1]; exact (Mod.refl _ _).alloc _
  have HM0 := hid (show Mod (fun k => (R k)) w w1 from hm.mono (fun _ _ h => h.elim))
  have hs1 : w1.heap.size = w.heap.size + 1 := by rw [hw1]; simp
  have Hx1 := hid (HW.out.mod hm (fun _ _ h => h))
  clear HW
  have Hx2 := hid (HS0.out.mod hm (fun _ _ h => h))
  clear HS0
  clear hw1 hm
  go_upto_region 1 with (fail)
  generalize ha0 : Act.mk _ _ = a0
  have oe0 : a0.eval (.tmp 0) = .pointer (some ⟨g, 0, none⟩) := by rw [← ha0]; rfl
  have oe3 : a0.eval (.tmp 3) = .pointer (some ⟨w.heap.size, 0, none⟩) := by rw [← ha0]; rfl
  have hsz0 : a0.tmps.size = 14 := by rw [← ha0]; rfl
  have HA0 := hid ha0
  clear ha0
  refine wp_region_Q1 14 hsz0 [4, 5, 6, 7, 8, 9, 10, 11, 12, 13] (fun k => (R k)) (fun k j => (k = 0 ∧ ((R j))) ∨ (k = 1 ∧ ((R j))) ∨ (k = 2 ∧ ((R j)))) (by intro k j h; (try dsimp only at h ⊢); rcases h with ⟨-, h⟩ | ⟨-, h⟩ | ⟨-, h⟩; (exact h); (exact h); (exact h)) [qi (.pointer (some ⟨g, 0, none⟩)), qi (.pointer (some ⟨w.heap.size, 0, none⟩)), qi (.int .i64 x.ix), qi (.pointer (some ⟨g, 0, none⟩)), qi (.pointer (some ⟨w.heap.size, 1, none⟩)), qi (v_pl), qi (.pointer (some ⟨g, 0, none⟩)), qi (.pointer (some ⟨w.heap.size, 2, none⟩)), qi (hv x.nc), qi (.pointer (some ⟨g, 0, none⟩))] ⟨qi_stable, qi_stable, qi_stable, qi_stable, qi_stable, qi_stable, qi_stable, qi_stable, qi_stable, qi_stable, trivial⟩ [3, 6, 9] ⟨?_, ?_, ?_, ?_, ?_, ?_, ?_, ?_, ?_, ?_, trivial⟩ ?_
  · exact stq (fun E => ex_move rfl (E.v oe0))
  · exact stq (fun E => ex_field rfl Try.underlying87 rfl (by kernel_rfl) (E.v oe3))
  · exact stq (fun E => ex_load1 rfl Try.underlying3 rfl (E.d 1) (Cs.hd1 (HB3.out.mod E.m (by intro h2; rcases h2 with ⟨h0, h2⟩ | h2 <;> first | omega | (have hb := HBR.out _ h2; omega))) rfl))
  · exact stepq_chain rfl
  · exact stq (fun E => ex_field rfl Try.underlying87 rfl (by kernel_rfl) (E.v oe3))
  · exact stq (fun E => ex_load1 rfl Try.underlying38 rfl (E.d 4) (Cs.hd1 (HB3.out.mod E.m (by intro h2; rcases h2 with ⟨h0, h2⟩ | h2 <;> first | omega | (have hb := HBR.out _ h2; omega))) rfl))
  · exact stepq_chain rfl
  · exact stq (fun E => ex_field rfl Try.underlying87 rfl (by kernel_rfl) (E.v oe3))
  · exact stq (fun E => ex_loadA rfl Try.underlying25 rfl (off := 2) (cs := x.nc.map bv) (by rw [List.length_map, HOK.out.2.1]; exact size_hash) (E.d 7) (Cs.tlA (HB3.out.mod E.m (by intro h2; rcases h2 with ⟨h0, h2⟩ | h2 <;> first | omega | (have hb := HBR.out _ h2; omega))) rfl))
  · exact stepq_chain rfl
  intro u1_0 hr
  have zu1_0 := hr.size
  have Cx3 := hid (hr.new (S := (fun k => (R k))))
  have Hx4 := hid (Hx1.out.mod hr (by intro k h1 h2; have hb := HBR.out k h1; omega))
  clear Hx1
  clear hr
  refine QChain.go fun Z act E => ?_
  refine qc_callF (args := #[.pointer (some ⟨g, 0, none⟩), .int .i64 x.ix]) rfl (wanted_none rfl) rfl Try.func64 (args2 (E.d 0) (E.d 2)) (WInt_Q Hx4.out HOK.out.1 (by have := HL.out; simp only [List.length_append] at this ⊢; omega)) ?_
  rintro e u1_1a ⟨rfl, qwr, hm⟩
  have zu1_1a := hm.size
  refine ⟨_, rfl, hm.mono (by intro k hk h; first | omega | exact Or.inl ⟨(by have hb := HBR.out k h; omega), Or.inl ⟨rfl, h⟩⟩), (fun _ => rfl), ?_⟩
  intro u1_1 hr
  have zu1_1 := hr.size
  have Hx5 := hid ((qwr.widen (R' := (fun k => (R k) ∨ (New u1_0 u1_1a k))) (fun _ h => h) (Nat.le_refl _)).mod hr (by intro k h1 h2; rcases h1 with h1 | h1 <;> first | omega | (have hb := HBR.out k h1; omega)))
  have Cx6 := hid (Cx3.out.goM hm hr (fun _ _ h => h))
  clear Cx3 hm hr Z act E qwr Hx4
  refine QChain.go fun Z act E => ?_
  refine qc_callF (args := #[.pointer (some ⟨g, 0, none⟩), v_pl]) rfl (wanted_none rfl) rfl Try.func107 (args2 (E.d 3) (E.d 5)) (WRow_Q Hx5.out (Hx2.out.mod Cx6.out (by intro k h1 h2; first | omega | (have hb := HBT.out k h1; omega) | (have hb := HBR.out k h2; omega) | exact HDJ.out k h1 h2 | exact HDJ.out k h2 h1 | (have hb := HBT.out k h1; have hb2 := HBR.out k h2; omega))) (by intro k h1 h2; rcases h2 with h2 | h2 <;> first | omega | (have hb := HBT.out k h1; omega) | (have hb := HBR.out k h2; omega) | exact HDJ.out k h1 h2 | exact HDJ.out k h2 h1 | (have hb := HBT.out k h1; have hb2 := HBR.out k h2; omega)) (by have := HL.out; simp only [List.length_append] at this ⊢; omega)) ?_
  rintro e u1_2a ⟨rfl, qwr, hm⟩
  have zu1_2a := hm.size
  refine ⟨_, rfl, hm.mono (by intro k hk h; rcases h with h | h <;> first | omega | exact Or.inl ⟨(by have hb := HBR.out k h; omega), Or.inr (Or.inl ⟨rfl, h⟩)⟩), (fun _ => rfl), ?_⟩
  intro u1_2 hr
  have zu1_2 := hr.size
  have Hx7 := hid ((qwr.widen (R' := (fun k => (R k) ∨ (New u1_0 u1_1a k) ∨ (New u1_1 u1_2a k))) (by intro k h1; simp only [or_assoc] at h1 ⊢; exact h1) (Nat.le_refl _)).mod hr (by intro k h1 h2; rcases h1 with h1 | h1 | h1 <;> first | omega | (have hb := HBR.out k h1; omega)))
  have Cx8 := hid (Cx6.out.goM hm hr (by intro k h0 h2; rcases h2 with h2 | h2 <;> first | omega | exact h2))
  clear Cx6 hm hr Z act E qwr Hx5
  refine QChain.go fun Z act E => ?_
  refine qc_callF (args := #[.pointer (some ⟨g, 0, none⟩), hv x.nc]) rfl (wanted_none rfl) rfl Try.func66 (args2 (E.d 6) (E.d 8)) (WHash_Q Hx7.out HOK.out.2 (by have := HL.out; simp only [List.length_append] at this ⊢; omega)) ?_
  rintro e u1_3a ⟨rfl, qwr, hm⟩
  have zu1_3a := hm.size
  refine ⟨_, rfl, hm.mono (by intro k hk h; rcases h with h | h | h <;> first | omega | exact Or.inl ⟨(by have hb := HBR.out k h; omega), Or.inr (Or.inr (⟨rfl, h⟩))⟩), (fun _ => rfl), ?_⟩
  intro u1_3 hr
  have zu1_3 := hr.size
  have Hx9 := hid ((qwr.widen (R' := (fun k => (R k) ∨ (New u1_0 u1_1a k) ∨ (New u1_1 u1_2a k) ∨ (New u1_2 u1_3a k))) (by intro k h1; simp only [or_assoc] at h1 ⊢; exact h1) (Nat.le_refl _)).mod hr (by intro k h1 h2; rcases h1 with h1 | h1 | h1 | h1 <;> first | omega | (have hb := HBR.out k h1; omega)))
  have Cx10 := hid (Cx8.out.goM hm hr (by intro k h0 h2; rcases h2 with h2 | h2 | h2 <;> first | omega | exact h2))
  clear Cx8 hm hr Z act E qwr Hx7
  refine QChain.nil fun vs hl hzz hrows hne => ?_
  obtain ⟨Z, hYZ, hZb, hV⟩ := hzz
  have f0 := fvi hV hl 0
  have f3 := fvi hV hl 3
  have f6 := fvi hV hl 6
  have f9 := fvi hV hl 9
  rw [show vs = [gw vs 0, gw vs 1, gw vs 2, gw vs 3, gw vs 4, gw vs 5, gw vs 6, gw vs 7, gw vs 8, gw vs 9] from (gw_eta hl).trans rfl]
  have ha0 := HA0.out
  subst ha0
  clear HA0 hV hYZ hZb hsz0 hrows hne oe0 oe3
  simp only [putAll, Act.put, List.setIfInBounds_toArray, List.set_cons_zero, List.set_cons_succ, f0, f3, f6, f9]
  clear hl f0 f3 f6 f9
  go_wp2
  go_end0
  have hq := (Hx9.out.widen (R' := (fun k => R k ∨ New w u1_3 k)) (by intro k h1; rcases h1 with h1 | h1 | h1 | h1 <;> first | exact Or.inl h1 | (right; omega)) (Nat.le_refl _))
  simp only [List.append_assoc] at hq
  exact ⟨rfl, by simpa only [opB, List.append_assoc] using hq, (HM0.out.trans Cx10.out (fun _ _ h => h))⟩
set_option maxHeartbeats 4000000 in
theorem PutList_Op : PutsL OpR 131 132 opB := by
  intro R R2 g bs v l w hW hB hs hB2 hD hl
  obtain ⟨ao, cap, rfl⟩ := hs.shape
  have hb64 : l.length ≤ maxLen := hs.bd
  rw [maxLen_val] at hb64
  have HI64 := hid (show I64 (l.length : Int) by unfold I64; omega)
  have HW := Lib.hid hW
  have HS := Lib.hid hs
  have HBR := Lib.hid hB
  have HBT := Lib.hid hB2
  have HDJ := Lib.hid hD
  have HL := Lib.hid hl
  clear hW hB hs hB2 hD hl
  unfold listB at HL
  go_enter Try.func131, Try.ntmps131
  go_upto_region 0 with (fail)
  have HM0 := hid (Mod.refl (fun k => (R k)) w)
  go_upto_region 0 with (fail)
  generalize ha0 : Act.mk _ _ = a0
  have oe0 : a0.eval (.tmp 0) = .pointer (some ⟨g, 0, none⟩) := by rw [← ha0]; rfl
  have oe1 : a0.eval (.tmp 1) = .slice ao l.length cap := by rw [← ha0]; rfl
  have hsz0 : a0.tmps.size = 23 := by rw [← ha0]; rfl
  have HA0 := hid ha0
  clear ha0
  refine wp_region_Q1 23 hsz0 [8, 9, 10, 11] (fun k => (R k)) (fun k j => (k = 0 ∧ ((R j)))) (fun _ _ h => h.2) [qi (.pointer (some ⟨g, 0, none⟩)), qi (.slice ao l.length cap), qi (.int .i64 l.length), qi (.pointer (some ⟨g, 0, none⟩))] ⟨qi_stable, qi_stable, qi_stable, qi_stable, trivial⟩ [3] ⟨?_, ?_, ?_, ?_, trivial⟩ ?_
  · exact stq (fun E => ex_move rfl (E.v oe0))
  · exact stq (fun E => ex_move rfl (E.v oe1))
  · exact stq (fun E => ex_lenS rfl (E.d 1) Try.underlying57)
  · exact stepq_chain rfl
  intro u0_0 hr
  have zu0_0 := hr.size
  have Cx1 := hid (hr.new (S := (fun k => (R k))))
  have Hx2 := hid (HW.out.mod hr (by intro k h1 h2; have hb := HBR.out k h1; omega))
  clear HW
  clear hr
  refine QChain.go fun Z act E => ?_
  refine qc_callF (args := #[.pointer (some ⟨g, 0, none⟩), .int .i64 l.length]) rfl (wanted_none rfl) rfl Try.func64 (args2 (E.d 0) (E.d 2)) (WInt_Q Hx2.out HI64.out (by have := HL.out; simp only [List.length_append] at this ⊢; omega)) ?_
  rintro e u0_1a ⟨rfl, qwr, hm⟩
  have zu0_1a := hm.size
  refine ⟨_, rfl, hm.mono (by intro k hk h; first | omega | exact Or.inl ⟨(by have hb := HBR.out k h; omega), ⟨rfl, h⟩⟩), (fun _ => rfl), ?_⟩
  intro u0_1 hr
  have zu0_1 := hr.size
  have Hx3 := hid ((qwr.widen (R' := (fun k => (R k) ∨ (New u0_0 u0_1a k))) (fun _ h => h) (Nat.le_refl _)).mod hr (by intro k h1 h2; rcases h1 with h1 | h1 <;> first | omega | (have hb := HBR.out k h1; omega)))
  have Cx4 := hid (Cx1.out.goM hm hr (fun _ _ h => h))
  clear Cx1 hm hr Z act E qwr Hx2
  refine QChain.nil fun vs hl hzz hrows hne => ?_
  obtain ⟨Z, hYZ, hZb, hV⟩ := hzz
  have f0 := fvi hV hl 0
  have f1 := fvi hV hl 1
  have f2 := fvi hV hl 2
  have f3 := fvi hV hl 3
  rw [show vs = [gw vs 0, gw vs 1, gw vs 2, gw vs 3] from (gw_eta hl).trans rfl]
  have ha0 := HA0.out
  subst ha0
  clear HA0 hV hYZ hZb hsz0 hrows hne oe0 oe1
  simp only [putAll, Act.put, List.setIfInBounds_toArray, List.set_cons_zero, List.set_cons_succ, f0, f1, f2, f3]
  clear hl f0 f1 f2 f3
  go_wp2
  go_loopw [14] (fun t wr => ∃ k : Nat, t = .int .i64 (k : Int) ∧ k ≤ l.length ∧ u0_1.heap.size ≤ wr.heap.size ∧ WrR (fun b => R b ∨ (w.heap.size ≤ b ∧ b < wr.heap.size)) 900000 wr g (bs ++ (encI l.length ++ ((l.take k).map opB).flatten)) ∧ RdS OpR R2 wr (.slice ao l.length cap) l ∧ Mod R w wr) (fun t _ => l.length - (intOf t).toNat)
  case atStart => exact ⟨0, rfl, Nat.zero_le _, Nat.le_refl _, by have hq := (Hx3.out.widen (R' := (fun k => R k ∨ (w.heap.size ≤ k ∧ k < u0_1.heap.size))) (by intro k h1; rcases h1 with h1 | h1 <;> first | exact Or.inl h1 | (right; omega)) (Nat.le_refl _)); simpa only [List.take_zero, List.map_nil, List.flatten_nil, List.append_nil] using hq, (HS.out.mod Cx4.out (by intro k h1 h2; first | omega | (have hb := HBT.out k h1; omega) | (have hb := HBR.out k h2; omega) | exact HDJ.out k h1 h2 | exact HDJ.out k h2 h1 | (have hb := HBT.out k h1; have hb2 := HBR.out k h2; omega))), (HM0.out.trans Cx4.out (fun _ _ h => h))⟩
  case round =>
    obtain ⟨k, rfl, hk, hz, hw, hs, hm⟩ := hrel
    have HW2 := Lib.hid hw
    have HS2 := Lib.hid hs
    have HM2 := Lib.hid hm
    clear hw hs hm Hx3 HS HM0
    obtain ⟨wo, rfl⟩ : ∃ x, x = wr := ⟨_, rfl⟩
    by_cases hlt : k < l.length
    · skip
      obtain ⟨g0, o0, cs, rfl, hrg, hrd, hcs⟩ := HS2.out.at hlt
      have hcl : cs.length = 34 := OpR.len hrd
      have HCL := Lib.hid hcl
      have HAT := hid (show CellsAt R2 wo g0 (o0 + k * 34) cs from ⟨hrg, hcs⟩)
      have HRD := Lib.hid hrd
      have HOC := hid (OpR.one hrd)
      clear hcl hcs hrd hrg
      have HE : Hid (bs ++ (encI l.length ++ ((l.take k).map opB).flatten) ++ opB l[k] = bs ++ (encI l.length ++ ((l.take (k + 1)).map opB).flatten)) := hid (by rw [List.take_succ_eq_append_getElem hlt, List.map_append, List.flatten_append]; simp [List.append_assoc])
      have HLk := hid (show (bs ++ (encI l.length ++ ((l.take k).map opB).flatten) ++ opB l[k]).length ≤ 900000 by rw [HE.out]; exact Nat.le_trans (put_len _ _ _ _ _) HL.out)
      go_upto_region 3 with (fail)
      generalize ha0 : Act.mk _ _ = a0
      have oe12 : a0.eval (.tmp 12) = .slice (some ⟨g0, o0, none⟩) l.length cap := by rw [← ha0]; rfl
      have oe14 : a0.eval (.tmp 14) = .int .i64 ((k : Nat) : Int) := by rw [← ha0]; rfl
      have hsz0 : a0.tmps.size = 23 := by rw [← ha0]; rfl
      have HA0 := hid ha0
      clear ha0
      refine wp_region_Q 23 hsz0 (by kernel_rfl) (by kernel_rfl) [16, 17, 7, 26] (by kernel_rfl) (by decide) (fun _ => False) (fun _ _ => False) (fun _ _ h => h) [qi (.pointer (some ⟨g0, o0 + k * 34, none⟩)), qi (.agg cs.toArray), qa, qa] ⟨qi_stable, qi_stable, qa_stable, qa_stable, trivial⟩ [] (by kernel_rfl) (by decide) (by kernel_rfl) [⟨2, 3, 87, [.int .i64 0, .slice none 0 0, .int .u8 0, .int .u8 0, .int .u8 0, .int .u8 0, .int .u8 0, .int .u8 0, .int .u8 0, .int .u8 0, .int .u8 0, .int .u8 0, .int .u8 0, .int .u8 0, .int .u8 0, .int .u8 0, .int .u8 0, .int .u8 0, .int .u8 0, .int .u8 0, .int .u8 0, .int .u8 0, .int .u8 0, .int .u8 0, .int .u8 0, .int .u8 0, .int .u8 0, .int .u8 0, .int .u8 0, .int .u8 0, .int .u8 0, .int .u8 0, .int .u8 0, .int .u8 0], 0, (fun t => cs)⟩] (by kernel_rfl) (by intro r hr; simp only [List.mem_cons, List.not_mem_nil, or_false] at hr; rcases hr with rfl <;> exact ⟨by kernel_rfl, by kernel_rfl⟩) (by intro r hr; simp only [List.mem_cons, List.not_mem_nil, or_false] at hr; rcases hr with rfl <;> exact ⟨of_decide_eq_true (by kernel_rfl), of_decide_eq_true (by kernel_rfl)⟩) (by intro r hr; simp only [List.mem_cons, List.not_mem_nil, or_false] at hr; rcases hr with rfl <;> exact fun _ _ _ _ => ⟨trivial, trivial⟩) ⟨?_, ?_, ?_, ?_, trivial⟩ ?_
      · exact stq (fun E => ex_idxS (i := k) (s := 34) rfl Try.underlying57 (by kernel_rfl) (E.v oe12) (E.v oe14) (by omega))
      · exact stq (fun E => ex_loadA rfl Try.underlying87 rfl (off := o0 + k * 34) (cs := cs) (by rw [HCL.out]; kernel_rfl) (E.d 0) (fun j u hu => ((HAT.out.mod E.m.old (by intro k h1 h2; have hb := HBT.out k h1; omega))).2 j u hu))
      · exact stepq_make rfl rfl ⟨rfl, rfl, by kernel_rfl, by kernel_rfl⟩
      · refine stepq_write rfl rfl rfl ⟨rfl, 7, (.tmp 17), rfl, by decide, rfl, by kernel_rfl, fun Z tr act w' hm hout hsz hd hpre => ?_⟩
        have h1 := hd ⟨1, .data⟩ (by simp) rfl _ rfl
        exact ⟨Nat.zero_le _, (by rw [show act.eval ((.tmp 17)) = _ from h1]; rfl), (by rw [HCL.out]; rfl), HOC.out⟩
      intro u3_0 hr
      have zu3_0 := hr.size
      have Cx5 := hid (hr.new (S := (fun _ => False)))
      clear hr
      refine QChain.nil fun vs hl hzz hrows hne => ?_
      obtain ⟨Z, hYZ, hZb, hV⟩ := hzz
      obtain ⟨q, g2, hBq, hYq, hCq⟩ := hrows _ (by simp only [List.mem_cons, List.not_mem_nil, or_false]; trivial)
      have f2 : gw vs 2 = _ := getv g2
      (try dsimp only at hBq hYq); (try simp only [false_or] at hBq hYq)
      have zqq := hCq.lt
      have Hx6 := hid (show Cs u3_0 q (cs : List Value).toArray 87 from hCq)
      rw [show vs = [gw vs 0, gw vs 1, gw vs 2, gw vs 3] from (gw_eta hl).trans rfl]
      have ha0 := HA0.out
      subst ha0
      clear HA0 hV hYZ hZb hsz0 hrows hne oe12 oe14 hCq g2
      simp only [putAll, Act.put, List.setIfInBounds_toArray, List.set_cons_zero, List.set_cons_succ, List.set_nil, f2]
      clear hl f2
      go_upto_region 4 with (fail)
      generalize ha0 : Act.mk _ _ = a0
      have oe0 : a0.eval (.tmp 0) = .pointer (some ⟨g, 0, none⟩) := by rw [← ha0]; rfl
      have oe2 : a0.eval (.tmp 2) = .func (.func 132) #[] #[] := by rw [← ha0]; rfl
      have oe7 : a0.eval (.tmp 7) = .pointer (some ⟨q, 0, none⟩) := by rw [← ha0]; rfl
      have hsz0 : a0.tmps.size = 23 := by rw [← ha0]; rfl
      have HA0 := hid ha0
      clear ha0
      refine wp_region_Q1 23 hsz0 [18, 19, 20, 21] (fun k => (R k) ∨ (New w wo k)) (fun k j => (k = 0 ∧ ((R j) ∨ (New w wo j)))) (fun _ _ h => h.2) [qi (.func (.func 132) #[] #[]), qi (.pointer (some ⟨g, 0, none⟩)), qi (.agg cs.toArray), qi (.tuple #[])] ⟨qi_stable, qi_stable, qi_stable, qi_stable, trivial⟩ [3] ⟨?_, ?_, ?_, ?_, trivial⟩ ?_
      · exact stq (fun E => ex_move rfl (E.v oe2))
      · exact stq (fun E => ex_move rfl (E.v oe0))
      · exact stq (fun E => ex_loadA rfl Try.underlying87 rfl (off := 0) (cs := cs) (by rw [HCL.out]; kernel_rfl) (E.v oe7) (Cs.whole (Hx6.out.mod E.m (by intro h2; rcases h2 with ⟨h0, h2 | h2⟩ | h2 <;> first | omega | (have hb := HBR.out _ h2; omega)))))
      · exact stepq_chain rfl
      intro u4_0 hr
      have zu4_0 := hr.size
      have Cx7 := hid (hr.new (S := (fun k => (R k) ∨ (New w wo k))))
      have Hx8 := hid ((HW2.out.mod Cx5.out (fun _ _ h => h)).mod hr (by intro k h1 h2; rcases h1 with h1 | h1 <;> first | omega | (have hb := HBR.out k h1; omega)))
      clear HW2
      clear hr
      refine QChain.go fun Z act E => ?_
      have ea19 : act.eval (.tmp 19) = .pointer (some ⟨g, 0, none⟩) := (E.d 1)
      have ea20 : act.eval (.tmp 20) = .agg cs.toArray := (E.d 2)
      refine qc_call (args := #[.pointer (some ⟨g, 0, none⟩), .agg cs.toArray]) rfl (wanted_none rfl) (by rw [ex_callV rfl (E.d 0) Try.func132 (by kernel_rfl) (by kernel_rfl)]; exact congrArg (fun z => Result.ok (Next.enter _ z) _) (by simp only [List.map_toArray, List.map_cons, List.map_nil, ea19, ea20]; try rfl)) (PutOp_Q _ _ _ _ _ _ _ Hx8.out (by intro k h1; rcases h1 with h1 | h1 <;> first | omega | (have hb := HBR.out k h1; omega)) ((HRD.out.mod Cx5.out (fun _ _ h => h)).mod Cx7.out (by intro k h1 h2; rcases h2 with h2 | h2 <;> first | omega | (have hb := HBT.out k h1; omega) | (have hb := HBR.out k h2; omega) | exact HDJ.out k h1 h2 | exact HDJ.out k h2 h1 | (have hb := HBT.out k h1; have hb2 := HBR.out k h2; omega))) (by intro k h1; have hb := HBT.out k h1; omega) (by intro k h1 h2; rcases h1 with h1 | h1 <;> first | omega | (have hb := HBR.out k h1; omega) | (have hb := HBT.out k h2; omega) | exact HDJ.out k h1 h2 | exact HDJ.out k h2 h1 | (have hb := HBR.out k h1; have hb2 := HBT.out k h2; omega)) HLk.out) ?_
      rintro e u4_1a ⟨rfl, qwr, hm⟩
      have zu4_1a := hm.size
      refine ⟨_, rfl, hm.mono (by intro k hk h; rcases h with h | h <;> first | omega | exact Or.inl ⟨(by have hb := HBR.out k h; omega), ⟨rfl, Or.inl h⟩⟩), (fun _ => rfl), ?_⟩
      intro u4_1 hr
      have zu4_1 := hr.size
      have Hx9 := hid ((qwr.widen (R' := (fun k => (R k) ∨ (New w wo k) ∨ (New u4_0 u4_1a k))) (by intro k h1; simp only [or_assoc] at h1 ⊢; exact h1) (Nat.le_refl _)).mod hr (by intro k h1 h2; rcases h1 with h1 | h1 | h1 <;> first | omega | (have hb := HBR.out k h1; omega)))
      have Cx10 := hid (Cx7.out.goM hm hr (fun _ _ h => h))
      clear Cx7 hm hr Z act E qwr Hx8 ea19 ea20
      refine QChain.nil fun vs hl hzz hrows hne => ?_
      obtain ⟨Z, hYZ, hZb, hV⟩ := hzz
      have f0 := fvi hV hl 0
      have f1 := fvi hV hl 1
      have f3 := fvi hV hl 3
      rw [show vs = [gw vs 0, gw vs 1, gw vs 2, gw vs 3] from (gw_eta hl).trans rfl]
      have ha0 := HA0.out
      subst ha0
      clear HA0 hV hYZ hZb hsz0 hrows hne oe0 oe2 oe7
      simp only [putAll, Act.put, List.setIfInBounds_toArray, List.set_cons_zero, List.set_cons_succ, f0, f1, f3]
      clear hl f0 f1 f3
      have hq := Hx9.out
      rw [HE.out] at hq
      have HQ := Lib.hid hq
      clear hq
      go_wp2
      go_roundw
      case rel => exact ⟨k + 1, by go_num, by omega, by omega, (HQ.out.widen (by intro b h1; rcases h1 with h1 | h1 | h1 <;> first | exact Or.inl h1 | (right; omega)) (Nat.le_refl _)), ((HS2.out.mod Cx5.out (fun _ _ h => h)).mod Cx10.out (by intro k h1 h2; rcases h2 with h2 | h2 <;> first | omega | (have hb := HBT.out k h1; omega) | (have hb := HBR.out k h2; omega) | exact HDJ.out k h1 h2 | exact HDJ.out k h2 h1 | (have hb := HBT.out k h1; have hb2 := HBR.out k h2; omega))), ((HM2.out.trans Cx5.out (fun _ _ h => h.elim)).trans Cx10.out (by intro k h1 h2; rcases h2 with h2 | h2 <;> first | exact h2 | omega | (have hb := HBR.out k h2; omega)))⟩
      case measure => simp [intOf]; omega
    · have hkk : k = l.length := by omega
      subst hkk
      go_wp2
      go_end0
      have hq := HW2.out
      rw [List.take_length] at hq
      exact ⟨rfl, hq, HM2.out⟩
set_option maxHeartbeats 4000000 in
theorem PutList_Ce : PutsL CeR 105 98 ceB := by
  intro R R2 g bs v l w hW hB hs hB2 hD hl
  obtain ⟨ao, cap, rfl⟩ := hs.shape
  have hb64 : l.length ≤ maxLen := hs.bd
  rw [maxLen_val] at hb64
  have HI64 := hid (show I64 (l.length : Int) by unfold I64; omega)
  have HW := Lib.hid hW
  have HS := Lib.hid hs
  have HBR := Lib.hid hB
  have HBT := Lib.hid hB2
  have HDJ := Lib.hid hD
  have HL := Lib.hid hl
  clear hW hB hs hB2 hD hl
  unfold listB at HL
  go_enter Try.func105, Try.ntmps105
  go_upto_region 0 with (fail)
  have HM0 := hid (Mod.refl (fun k => (R k)) w)
  go_upto_region 0 with (fail)
  generalize ha0 : Act.mk _ _ = a0
  have oe0 : a0.eval (.tmp 0) = .pointer (some ⟨g, 0, none⟩) := by rw [← ha0]; rfl
  have oe1 : a0.eval (.tmp 1) = .slice ao l.length cap := by rw [← ha0]; rfl
  have hsz0 : a0.tmps.size = 23 := by rw [← ha0]; rfl
  have HA0 := hid ha0
  clear ha0
  refine wp_region_Q1 23 hsz0 [8, 9, 10, 11] (fun k => (R k)) (fun k j => (k = 0 ∧ ((R j)))) (fun _ _ h => h.2) [qi (.pointer (some ⟨g, 0, none⟩)), qi (.slice ao l.length cap), qi (.int .i64 l.length), qi (.pointer (some ⟨g, 0, none⟩))] ⟨qi_stable, qi_stable, qi_stable, qi_stable, trivial⟩ [3] ⟨?_, ?_, ?_, ?_, trivial⟩ ?_
  · exact stq (fun E => ex_move rfl (E.v oe0))
  · exact stq (fun E => ex_move rfl (E.v oe1))
  · exact stq (fun E => ex_lenS rfl (E.d 1) Try.underlying53)
  · exact stepq_chain rfl
  intro u0_0 hr
  have zu0_0 := hr.size
  have Cx1 := hid (hr.new (S := (fun k => (R k))))
  have Hx2 := hid (HW.out.mod hr (by intro k h1 h2; have hb := HBR.out k h1; omega))
  clear HW
  clear hr
  refine QChain.go fun Z act E => ?_
  refine qc_callF (args := #[.pointer (some ⟨g, 0, none⟩), .int .i64 l.length]) rfl (wanted_none rfl) rfl Try.func64 (args2 (E.d 0) (E.d 2)) (WInt_Q Hx2.out HI64.out (by have := HL.out; simp only [List.length_append] at this ⊢; omega)) ?_
  rintro e u0_1a ⟨rfl, qwr, hm⟩
  have zu0_1a := hm.size
  refine ⟨_, rfl, hm.mono (by intro k hk h; first | omega | exact Or.inl ⟨(by have hb := HBR.out k h; omega), ⟨rfl, h⟩⟩), (fun _ => rfl), ?_⟩
  intro u0_1 hr
  have zu0_1 := hr.size
  have Hx3 := hid ((qwr.widen (R' := (fun k => (R k) ∨ (New u0_0 u0_1a k))) (fun _ h => h) (Nat.le_refl _)).mod hr (by intro k h1 h2; rcases h1 with h1 | h1 <;> first | omega | (have hb := HBR.out k h1; omega)))
  have Cx4 := hid (Cx1.out.goM hm hr (fun _ _ h => h))
  clear Cx1 hm hr Z act E qwr Hx2
  refine QChain.nil fun vs hl hzz hrows hne => ?_
  obtain ⟨Z, hYZ, hZb, hV⟩ := hzz
  have f0 := fvi hV hl 0
  have f1 := fvi hV hl 1
  have f2 := fvi hV hl 2
  have f3 := fvi hV hl 3
  rw [show vs = [gw vs 0, gw vs 1, gw vs 2, gw vs 3] from (gw_eta hl).trans rfl]
  have ha0 := HA0.out
  subst ha0
  clear HA0 hV hYZ hZb hsz0 hrows hne oe0 oe1
  simp only [putAll, Act.put, List.setIfInBounds_toArray, List.set_cons_zero, List.set_cons_succ, f0, f1, f2, f3]
  clear hl f0 f1 f2 f3
  go_wp2
  go_loopw [14] (fun t wr => ∃ k : Nat, t = .int .i64 (k : Int) ∧ k ≤ l.length ∧ u0_1.heap.size ≤ wr.heap.size ∧ WrR (fun b => R b ∨ (w.heap.size ≤ b ∧ b < wr.heap.size)) 900000 wr g (bs ++ (encI l.length ++ ((l.take k).map ceB).flatten)) ∧ RdS CeR R2 wr (.slice ao l.length cap) l ∧ Mod R w wr) (fun t _ => l.length - (intOf t).toNat)
  case atStart => exact ⟨0, rfl, Nat.zero_le _, Nat.le_refl _, by have hq := (Hx3.out.widen (R' := (fun k => R k ∨ (w.heap.size ≤ k ∧ k < u0_1.heap.size))) (by intro k h1; rcases h1 with h1 | h1 <;> first | exact Or.inl h1 | (right; omega)) (Nat.le_refl _)); simpa only [List.take_zero, List.map_nil, List.flatten_nil, List.append_nil] using hq, (HS.out.mod Cx4.out (by intro k h1 h2; first | omega | (have hb := HBT.out k h1; omega) | (have hb := HBR.out k h2; omega) | exact HDJ.out k h1 h2 | exact HDJ.out k h2 h1 | (have hb := HBT.out k h1; have hb2 := HBR.out k h2; omega))), (HM0.out.trans Cx4.out (fun _ _ h => h))⟩
  case round =>
    obtain ⟨k, rfl, hk, hz, hw, hs, hm⟩ := hrel
    have HW2 := Lib.hid hw
    have HS2 := Lib.hid hs
    have HM2 := Lib.hid hm
    clear hw hs hm Hx3 HS HM0
    obtain ⟨wo, rfl⟩ : ∃ x, x = wr := ⟨_, rfl⟩
    by_cases hlt : k < l.length
    · skip
      obtain ⟨g0, o0, cs, rfl, hrg, hrd, hcs⟩ := HS2.out.at hlt
      have hcl : cs.length = 38 := CeR.len hrd
      have HCL := Lib.hid hcl
      have HAT := hid (show CellsAt R2 wo g0 (o0 + k * 38) cs from ⟨hrg, hcs⟩)
      have HRD := Lib.hid hrd
      have HOC := hid (CeR.one hrd)
      clear hcl hcs hrd hrg
      have HE : Hid (bs ++ (encI l.length ++ ((l.take k).map ceB).flatten) ++ ceB l[k] = bs ++ (encI l.length ++ ((l.take (k + 1)).map ceB).flatten)) := hid (by rw [List.take_succ_eq_append_getElem hlt, List.map_append, List.flatten_append]; simp [List.append_assoc])
      have HLk := hid (show (bs ++ (encI l.length ++ ((l.take k).map ceB).flatten) ++ ceB l[k]).length ≤ 900000 by rw [HE.out]; exact Nat.le_trans (put_len _ _ _ _ _) HL.out)
      go_upto_region 3 with (fail)
      generalize ha0 : Act.mk _ _ = a0
      have oe12 : a0.eval (.tmp 12) = .slice (some ⟨g0, o0, none⟩) l.length cap := by rw [← ha0]; rfl
      have oe14 : a0.eval (.tmp 14) = .int .i64 ((k : Nat) : Int) := by rw [← ha0]; rfl
      have hsz0 : a0.tmps.size = 23 := by rw [← ha0]; rfl
      have HA0 := hid ha0
      clear ha0
      refine wp_region_Q 23 hsz0 (by kernel_rfl) (by kernel_rfl) [16, 17, 7, 26] (by kernel_rfl) (by decide) (fun _ => False) (fun _ _ => False) (fun _ _ h => h) [qi (.pointer (some ⟨g0, o0 + k * 38, none⟩)), qi (.agg cs.toArray), qa, qa] ⟨qi_stable, qi_stable, qa_stable, qa_stable, trivial⟩ [] (by kernel_rfl) (by decide) (by kernel_rfl) [⟨2, 3, 52, [.int .i64 0, .int .i64 0, .int .u8 0, .int .u8 0, .int .u8 0, .int .u8 0, .int .u8 0, .int .u8 0, .int .u8 0, .int .u8 0, .int .u8 0, .int .u8 0, .int .u8 0, .int .u8 0, .int .u8 0, .int .u8 0, .int .u8 0, .int .u8 0, .int .u8 0, .int .u8 0, .int .u8 0, .int .u8 0, .int .u8 0, .int .u8 0, .int .u8 0, .int .u8 0, .int .u8 0, .int .u8 0, .int .u8 0, .int .u8 0, .int .u8 0, .int .u8 0, .int .u8 0, .int .u8 0, .int .i64 0, .int .i64 0, .int .i64 0, .slice none 0 0], 0, (fun t => cs)⟩] (by kernel_rfl) (by intro r hr; simp only [List.mem_cons, List.not_mem_nil, or_false] at hr; rcases hr with rfl <;> exact ⟨by kernel_rfl, by kernel_rfl⟩) (by intro r hr; simp only [List.mem_cons, List.not_mem_nil, or_false] at hr; rcases hr with rfl <;> exact ⟨of_decide_eq_true (by kernel_rfl), of_decide_eq_true (by kernel_rfl)⟩) (by intro r hr; simp only [List.mem_cons, List.not_mem_nil, or_false] at hr; rcases hr with rfl <;> exact fun _ _ _ _ => ⟨trivial, trivial⟩) ⟨?_, ?_, ?_, ?_, trivial⟩ ?_
      · exact stq (fun E => ex_idxS (i := k) (s := 38) rfl Try.underlying53 (by kernel_rfl) (E.v oe12) (E.v oe14) (by omega))
      · exact stq (fun E => ex_loadA rfl Try.underlying52 rfl (off := o0 + k * 38) (cs := cs) (by rw [HCL.out]; kernel_rfl) (E.d 0) (fun j u hu => ((HAT.out.mod E.m.old (by intro k h1 h2; have hb := HBT.out k h1; omega))).2 j u hu))
      · exact stepq_make rfl rfl ⟨rfl, rfl, by kernel_rfl, by kernel_rfl⟩
      · refine stepq_write rfl rfl rfl ⟨rfl, 7, (.tmp 17), rfl, by decide, rfl, by kernel_rfl, fun Z tr act w' hm hout hsz hd hpre => ?_⟩
        have h1 := hd ⟨1, .data⟩ (by simp) rfl _ rfl
        exact ⟨Nat.zero_le _, (by rw [show act.eval ((.tmp 17)) = _ from h1]; rfl), (by rw [HCL.out]; rfl), HOC.out⟩
      intro u3_0 hr
      have zu3_0 := hr.size
      have Cx5 := hid (hr.new (S := (fun _ => False)))
      clear hr
      refine QChain.nil fun vs hl hzz hrows hne => ?_
      obtain ⟨Z, hYZ, hZb, hV⟩ := hzz
      obtain ⟨q, g2, hBq, hYq, hCq⟩ := hrows _ (by simp only [List.mem_cons, List.not_mem_nil, or_false]; trivial)
      have f2 : gw vs 2 = _ := getv g2
      (try dsimp only at hBq hYq); (try simp only [false_or] at hBq hYq)
      have zqq := hCq.lt
      have Hx6 := hid (show Cs u3_0 q (cs : List Value).toArray 52 from hCq)
      rw [show vs = [gw vs 0, gw vs 1, gw vs 2, gw vs 3] from (gw_eta hl).trans rfl]
      have ha0 := HA0.out
      subst ha0
      clear HA0 hV hYZ hZb hsz0 hrows hne oe12 oe14 hCq g2
      simp only [putAll, Act.put, List.setIfInBounds_toArray, List.set_cons_zero, List.set_cons_succ, List.set_nil, f2]
      clear hl f2
      go_upto_region 4 with (fail)
      generalize ha0 : Act.mk _ _ = a0
      have oe0 : a0.eval (.tmp 0) = .pointer (some ⟨g, 0, none⟩) := by rw [← ha0]; rfl
      have oe2 : a0.eval (.tmp 2) = .func (.func 98) #[] #[] := by rw [← ha0]; rfl
      have oe7 : a0.eval (.tmp 7) = .pointer (some ⟨q, 0, none⟩) := by rw [← ha0]; rfl
      have hsz0 : a0.tmps.size = 23 := by rw [← ha0]; rfl
      have HA0 := hid ha0
      clear ha0
      refine wp_region_Q1 23 hsz0 [18, 19, 20, 21] (fun k => (R k) ∨ (New w wo k)) (fun k j => (k = 0 ∧ ((R j) ∨ (New w wo j)))) (fun _ _ h => h.2) [qi (.func (.func 98) #[] #[]), qi (.pointer (some ⟨g, 0, none⟩)), qi (.agg cs.toArray), qi (.tuple #[])] ⟨qi_stable, qi_stable, qi_stable, qi_stable, trivial⟩ [3] ⟨?_, ?_, ?_, ?_, trivial⟩ ?_
      · exact stq (fun E => ex_move rfl (E.v oe2))
      · exact stq (fun E => ex_move rfl (E.v oe0))
      · exact stq (fun E => ex_loadA rfl Try.underlying52 rfl (off := 0) (cs := cs) (by rw [HCL.out]; kernel_rfl) (E.v oe7) (Cs.whole (Hx6.out.mod E.m (by intro h2; rcases h2 with ⟨h0, h2 | h2⟩ | h2 <;> first | omega | (have hb := HBR.out _ h2; omega)))))
      · exact stepq_chain rfl
      intro u4_0 hr
      have zu4_0 := hr.size
      have Cx7 := hid (hr.new (S := (fun k => (R k) ∨ (New w wo k))))
      have Hx8 := hid ((HW2.out.mod Cx5.out (fun _ _ h => h)).mod hr (by intro k h1 h2; rcases h1 with h1 | h1 <;> first | omega | (have hb := HBR.out k h1; omega)))
      clear HW2
      clear hr
      refine QChain.go fun Z act E => ?_
      have ea19 : act.eval (.tmp 19) = .pointer (some ⟨g, 0, none⟩) := (E.d 1)
      have ea20 : act.eval (.tmp 20) = .agg cs.toArray := (E.d 2)
      refine qc_call (args := #[.pointer (some ⟨g, 0, none⟩), .agg cs.toArray]) rfl (wanted_none rfl) (by rw [ex_callV rfl (E.d 0) Try.func98 (by kernel_rfl) (by kernel_rfl)]; exact congrArg (fun z => Result.ok (Next.enter _ z) _) (by simp only [List.map_toArray, List.map_cons, List.map_nil, ea19, ea20]; try rfl)) (PutCe_Q _ _ _ _ _ _ _ Hx8.out (by intro k h1; rcases h1 with h1 | h1 <;> first | omega | (have hb := HBR.out k h1; omega)) ((HRD.out.mod Cx5.out (fun _ _ h => h)).mod Cx7.out (by intro k h1 h2; rcases h2 with h2 | h2 <;> first | omega | (have hb := HBT.out k h1; omega) | (have hb := HBR.out k h2; omega) | exact HDJ.out k h1 h2 | exact HDJ.out k h2 h1 | (have hb := HBT.out k h1; have hb2 := HBR.out k h2; omega))) (by intro k h1; have hb := HBT.out k h1; omega) (by intro k h1 h2; rcases h1 with h1 | h1 <;> first | omega | (have hb := HBR.out k h1; omega) | (have hb := HBT.out k h2; omega) | exact HDJ.out k h1 h2 | exact HDJ.out k h2 h1 | (have hb := HBR.out k h1; have hb2 := HBT.out k h2; omega)) HLk.out) ?_
      rintro e u4_1a ⟨rfl, qwr, hm⟩
      have zu4_1a := hm.size
      refine ⟨_, rfl, hm.mono (by intro k hk h; rcases h with h | h <;> first | omega | exact Or.inl ⟨(by have hb := HBR.out k h; omega), ⟨rfl, Or.inl h⟩⟩), (fun _ => rfl), ?_⟩
      intro u4_1 hr
      have zu4_1 := hr.size
      have Hx9 := hid ((qwr.widen (R' := (fun k => (R k) ∨ (New w wo k) ∨ (New u4_0 u4_1a k))) (by intro k h1; simp only [or_assoc] at h1 ⊢; exact h1) (Nat.le_refl _)).mod hr (by intro k h1 h2; rcases h1 with h1 | h1 | h1 <;> first | omega | (have hb := HBR.out k h1; omega)))
      have Cx10 := hid (Cx7.out.goM hm hr (fun _ _ h => h))
      clear Cx7 hm hr Z act E qwr Hx8 ea19 ea20
      refine QChain.nil fun vs hl hzz hrows hne => ?_
      obtain ⟨Z, hYZ, hZb, hV⟩ := hzz
      have f0 := fvi hV hl 0
      have f1 := fvi hV hl 1
      have f3 := fvi hV hl 3
      rw [show vs = [gw vs 0, gw vs 1, gw vs 2, gw vs 3] from (gw_eta hl).trans rfl]
      have ha0 := HA0.out
      subst ha0
      clear HA0 hV hYZ hZb hsz0 hrows hne oe0 oe2 oe7
      simp only [putAll, Act.put, List.setIfInBounds_toArray, List.set_cons_zero, List.set_cons_succ, f0, f1, f3]
      clear hl f0 f1 f3
      have hq := Hx9.out
      rw [HE.out] at hq
      have HQ := Lib.hid hq
      clear hq
      go_wp2
      go_roundw
      case rel => exact ⟨k + 1, by go_num, by omega, by omega, (HQ.out.widen (by intro b h1; rcases h1 with h1 | h1 | h1 <;> first | exact Or.inl h1 | (right; omega)) (Nat.le_refl _)), ((HS2.out.mod Cx5.out (fun _ _ h => h)).mod Cx10.out (by intro k h1 h2; rcases h2 with h2 | h2 <;> first | omega | (have hb := HBT.out k h1; omega) | (have hb := HBR.out k h2; omega) | exact HDJ.out k h1 h2 | exact HDJ.out k h2 h1 | (have hb := HBT.out k h1; have hb2 := HBR.out k h2; omega))), ((HM2.out.trans Cx5.out (fun _ _ h => h.elim)).trans Cx10.out (by intro k h1 h2; rcases h2 with h2 | h2 <;> first | exact h2 | omega | (have hb := HBR.out k h2; omega)))⟩
      case measure => simp [intOf]; omega
    · have hkk : k = l.length := by omega
      subst hkk
      go_wp2
      go_end0
      have hq := HW2.out
      rw [List.take_length] at hq
      exact ⟨rfl, hq, HM2.out⟩
set_option maxHeartbeats 4000000 in
theorem PutPm_Q : Puts PmR 99 pmB := by
  intro R R2 g bs cs x w hW hB hx hB2 hD hl
  obtain ⟨v_l, rfl, hok, hs0⟩ := hx
  have HS0 := Lib.hid hs0
  clear hs0
  have HW := Lib.hid hW
  have HBR := Lib.hid hB
  have HBT := Lib.hid hB2
  have HDJ := Lib.hid hD
  have HOK := Lib.hid hok
  have HL := Lib.hid hl
  clear hW hB hB2 hD hl hok
  unfold pmB at HL
  go_enter Try.func99, Try.ntmps99
  go_upto_region 1 with (fail)
  obtain ⟨w1, hw1⟩ : ∃ zz, zz = (w.alloc (.cells (x.cells v_l : List Value).toArray 55)) := ⟨_, rfl⟩
  change Code.wp _ _ _ _ (w.alloc (.cells (x.cells v_l : List Value).toArray 55))
  rw [← hw1]
  have HB3 := hid (show Cs w1 (w.heap.size) (x.cells v_l : List Value).toArray 55 by rw [hw1]; exact Cs.new _ _ _)
  have hm : Mod (fun _ => False) w w1 := by rw [hw1]; exact (Mod.refl _ _).alloc _
  have HM0 := hid (show Mod (fun k => (R k)) w w1 from hm.mono (fun _ _ h => h.elim))
  have hs1 : w1.heap.size = w.heap.size + 1 := by rw [hw1]; simp
  have Hx1 := hid (HW.out.mod hm (fun _ _ h => h))
  clear HW
  have Hx2 := hid (HS0.out.mod hm (fun _ _ h => h))
  clear HS0
  clear hw1 hm
  go_upto_region 1 with (fail)
  generalize ha0 : Act.mk _ _ = a0
  have oe0 : a0.eval (.tmp 0) = .pointer (some ⟨g, 0, none⟩) := by rw [← ha0]; rfl
  have oe3 : a0.eval (.tmp 3) = .pointer (some ⟨w.heap.size, 0, none⟩) := by rw [← ha0]; rfl
  have hsz0 : a0.tmps.size = 22 := by rw [← ha0]; rfl
  have HA0 := hid ha0
  clear ha0
  refine wp_region_Q1 22 hsz0 [4, 5, 6, 7, 8, 9, 10, 11, 12, 13] (fun k => (R k)) (fun k j => (k = 0 ∧ ((R j))) ∨ (k = 1 ∧ ((R j))) ∨ (k = 2 ∧ ((R j)))) (by intro k j h; (try dsimp only at h ⊢); rcases h with ⟨-, h⟩ | ⟨-, h⟩ | ⟨-, h⟩; (exact h); (exact h); (exact h)) [qi (.pointer (some ⟨g, 0, none⟩)), qi (.pointer (some ⟨w.heap.size, 0, none⟩)), qi (.int .i64 x.rp), qi (.pointer (some ⟨g, 0, none⟩)), qi (.pointer (some ⟨w.heap.size, 1, none⟩)), qi (.int .i64 x.ep), qi (.pointer (some ⟨g, 0, none⟩)), qi (.pointer (some ⟨w.heap.size, 2, none⟩)), qi (.int .u64 (x.fl : Nat)), qi (.pointer (some ⟨g, 0, none⟩))] ⟨qi_stable, qi_stable, qi_stable, qi_stable, qi_stable, qi_stable, qi_stable, qi_stable, qi_stable, qi_stable, trivial⟩ [3, 6, 9] ⟨?_, ?_, ?_, ?_, ?_, ?_, ?_, ?_, ?_, ?_, trivial⟩ ?_
  · exact stq (fun E => ex_move rfl (E.v oe0))
  · exact stq (fun E => ex_field rfl Try.underlying55 rfl (by kernel_rfl) (E.v oe3))
  · exact stq (fun E => ex_load1 rfl Try.underlying3 rfl (E.d 1) (Cs.lit1 (HB3.out.mod E.m (by intro h2; rcases h2 with ⟨h0, h2⟩ | h2 <;> first | omega | (have hb := HBR.out _ h2; omega))) rfl))
  · exact stepq_chain rfl
  · exact stq (fun E => ex_field rfl Try.underlying55 rfl (by kernel_rfl) (E.v oe3))
  · exact stq (fun E => ex_load1 rfl Try.underlying3 rfl (E.d 4) (Cs.lit1 (HB3.out.mod E.m (by intro h2; rcases h2 with ⟨h0, h2⟩ | h2 <;> first | omega | (have hb := HBR.out _ h2; omega))) rfl))
  · exact stepq_chain rfl
  · exact stq (fun E => ex_field rfl Try.underlying55 rfl (by kernel_rfl) (E.v oe3))
  · exact stq (fun E => ex_load1 rfl Try.underlying26 rfl (E.d 7) (Cs.lit1 (HB3.out.mod E.m (by intro h2; rcases h2 with ⟨h0, h2⟩ | h2 <;> first | omega | (have hb := HBR.out _ h2; omega))) rfl))
  · exact stepq_chain rfl
  intro u1_0 hr
  have zu1_0 := hr.size
  have Cx3 := hid (hr.new (S := (fun k => (R k))))
  have Hx4 := hid (Hx1.out.mod hr (by intro k h1 h2; have hb := HBR.out k h1; omega))
  clear Hx1
  clear hr
  refine QChain.go fun Z act E => ?_
  refine qc_callF (args := #[.pointer (some ⟨g, 0, none⟩), .int .i64 x.rp]) rfl (wanted_none rfl) rfl Try.func64 (args2 (E.d 0) (E.d 2)) (WInt_Q Hx4.out HOK.out.1 (by have := HL.out; simp only [List.length_append] at this ⊢; omega)) ?_
  rintro e u1_1a ⟨rfl, qwr, hm⟩
  have zu1_1a := hm.size
  refine ⟨_, rfl, hm.mono (by intro k hk h; first | omega | exact Or.inl ⟨(by have hb := HBR.out k h; omega), Or.inl ⟨rfl, h⟩⟩), (fun _ => rfl), ?_⟩
  intro u1_1 hr
  have zu1_1 := hr.size
  have Hx5 := hid ((qwr.widen (R' := (fun k => (R k) ∨ (New u1_0 u1_1a k))) (fun _ h => h) (Nat.le_refl _)).mod hr (by intro k h1 h2; rcases h1 with h1 | h1 <;> first | omega | (have hb := HBR.out k h1; omega)))
  have Cx6 := hid (Cx3.out.goM hm hr (fun _ _ h => h))
  clear Cx3 hm hr Z act E qwr Hx4
  refine QChain.go fun Z act E => ?_
  refine qc_callF (args := #[.pointer (some ⟨g, 0, none⟩), .int .i64 x.ep]) rfl (wanted_none rfl) rfl Try.func64 (args2 (E.d 3) (E.d 5)) (WInt_Q Hx5.out HOK.out.2.1 (by have := HL.out; simp only [List.length_append] at this ⊢; omega)) ?_
  rintro e u1_2a ⟨rfl, qwr, hm⟩
  have zu1_2a := hm.size
  refine ⟨_, rfl, hm.mono (by intro k hk h; rcases h with h | h <;> first | omega | exact Or.inl ⟨(by have hb := HBR.out k h; omega), Or.inr (Or.inl ⟨rfl, h⟩)⟩), (fun _ => rfl), ?_⟩
  intro u1_2 hr
  have zu1_2 := hr.size
  have Hx7 := hid ((qwr.widen (R' := (fun k => (R k) ∨ (New u1_0 u1_1a k) ∨ (New u1_1 u1_2a k))) (by intro k h1; simp only [or_assoc] at h1 ⊢; exact h1) (Nat.le_refl _)).mod hr (by intro k h1 h2; rcases h1 with h1 | h1 | h1 <;> first | omega | (have hb := HBR.out k h1; omega)))
  have Cx8 := hid (Cx6.out.goM hm hr (by intro k h0 h2; rcases h2 with h2 | h2 <;> first | omega | exact h2))
  clear Cx6 hm hr Z act E qwr Hx5
  refine QChain.go fun Z act E => ?_
  refine qc_callF (args := #[.pointer (some ⟨g, 0, none⟩), .int .u64 (x.fl : Nat)]) rfl (wanted_none rfl) rfl Try.func67 (args2 (E.d 6) (E.d 8)) (WNum_Q Hx7.out HOK.out.2.2.1 (by have := HL.out; simp only [List.length_append] at this ⊢; omega)) ?_
  rintro e u1_3a ⟨rfl, qwr, hm⟩
  have zu1_3a := hm.size
  refine ⟨_, rfl, hm.mono (by intro k hk h; rcases h with h | h | h <;> first | omega | exact Or.inl ⟨(by have hb := HBR.out k h; omega), Or.inr (Or.inr (⟨rfl, h⟩))⟩), (fun _ => rfl), ?_⟩
  intro u1_3 hr
  have zu1_3 := hr.size
  have Hx9 := hid ((qwr.widen (R' := (fun k => (R k) ∨ (New u1_0 u1_1a k) ∨ (New u1_1 u1_2a k) ∨ (New u1_2 u1_3a k))) (by intro k h1; simp only [or_assoc] at h1 ⊢; exact h1) (Nat.le_refl _)).mod hr (by intro k h1 h2; rcases h1 with h1 | h1 | h1 | h1 <;> first | omega | (have hb := HBR.out k h1; omega)))
  have Cx10 := hid (Cx8.out.goM hm hr (by intro k h0 h2; rcases h2 with h2 | h2 | h2 <;> first | omega | exact h2))
  clear Cx8 hm hr Z act E qwr Hx7
  refine QChain.nil fun vs hl hzz hrows hne => ?_
  obtain ⟨Z, hYZ, hZb, hV⟩ := hzz
  have f0 := fvi hV hl 0
  have f3 := fvi hV hl 3
  have f6 := fvi hV hl 6
  have f9 := fvi hV hl 9
  rw [show vs = [gw vs 0, gw vs 1, gw vs 2, gw vs 3, gw vs 4, gw vs 5, gw vs 6, gw vs 7, gw vs 8, gw vs 9] from (gw_eta hl).trans rfl]
  have ha0 := HA0.out
  subst ha0
  clear HA0 hV hYZ hZb hsz0 hrows hne oe0 oe3
  simp only [putAll, Act.put, List.setIfInBounds_toArray, List.set_cons_zero, List.set_cons_succ, f0, f3, f6, f9]
  clear hl f0 f3 f6 f9
  go_upto_region 2 with (fail)
  generalize ha0 : Act.mk _ _ = a0
  have oe0 : a0.eval (.tmp 0) = .pointer (some ⟨g, 0, none⟩) := by rw [← ha0]; rfl
  have oe3 : a0.eval (.tmp 3) = .pointer (some ⟨w.heap.size, 0, none⟩) := by rw [← ha0]; rfl
  have hsz0 : a0.tmps.size = 22 := by rw [← ha0]; rfl
  have HA0 := hid ha0
  clear ha0
  refine wp_region_Q1 22 hsz0 [14, 15, 16, 17] (fun k => (R k) ∨ (New u1_0 u1_1a k) ∨ (New u1_1 u1_2a k) ∨ (New u1_2 u1_3a k)) (fun k j => (k = 0 ∧ ((R j) ∨ (New u1_0 u1_1a j) ∨ (New u1_1 u1_2a j) ∨ (New u1_2 u1_3a j)))) (fun _ _ h => h.2) [qi (.pointer (some ⟨g, 0, none⟩)), qi (.pointer (some ⟨w.heap.size, 3, none⟩)), qi (v_l), qi (.tuple #[])] ⟨qi_stable, qi_stable, qi_stable, qi_stable, trivial⟩ [3] ⟨?_, ?_, ?_, ?_, trivial⟩ ?_
  · exact stq (fun E => ex_move rfl (E.v oe0))
  · exact stq (fun E => ex_field rfl Try.underlying55 rfl (by kernel_rfl) (E.v oe3))
  · exact stq (fun E => ex_load1 rfl Try.underlying53 rfl (E.d 1) (Cs.lit1 ((HB3.out.mod Cx10.out (by intro h2; first | omega | (have hb := HBR.out _ h2; omega))).mod E.m (by intro h2; rcases h2 with ⟨h0, h2 | h2 | h2 | h2⟩ | h2 <;> first | omega | (have hb := HBR.out _ h2; omega))) rfl))
  · exact stepq_chain rfl
  intro u2_0 hr
  have zu2_0 := hr.size
  have Cx11 := hid (hr.new (S := (fun k => (R k) ∨ (New u1_0 u1_1a k) ∨ (New u1_1 u1_2a k) ∨ (New u1_2 u1_3a k))))
  have Hx12 := hid (Hx9.out.mod hr (by intro k h1 h2; rcases h1 with h1 | h1 | h1 | h1 <;> first | omega | (have hb := HBR.out k h1; omega)))
  clear Hx9
  clear hr
  refine QChain.go fun Z act E => ?_
  refine qc_callF (args := #[.pointer (some ⟨g, 0, none⟩), v_l, .func (.func 98) #[] #[]]) rfl (wanted_none rfl) rfl Try.func105 (args3 (E.d 0) (E.d 2) rfl) (PutList_Ce _ _ _ _ _ _ _ Hx12.out (by intro k h1; rcases h1 with h1 | h1 | h1 | h1 <;> first | omega | (have hb := HBR.out k h1; omega)) ((Hx2.out.mod Cx10.out (by intro k h1 h2; first | omega | (have hb := HBT.out k h1; omega) | (have hb := HBR.out k h2; omega) | exact HDJ.out k h1 h2 | exact HDJ.out k h2 h1 | (have hb := HBT.out k h1; have hb2 := HBR.out k h2; omega))).mod Cx11.out (by intro k h1 h2; rcases h2 with h2 | h2 | h2 | h2 <;> first | omega | (have hb := HBT.out k h1; omega) | (have hb := HBR.out k h2; omega) | exact HDJ.out k h1 h2 | exact HDJ.out k h2 h1 | (have hb := HBT.out k h1; have hb2 := HBR.out k h2; omega))) (by intro k h1; have hb := HBT.out k h1; omega) (by intro k h1 h2; rcases h1 with h1 | h1 | h1 | h1 <;> first | omega | (have hb := HBR.out k h1; omega) | (have hb := HBT.out k h2; omega) | exact HDJ.out k h1 h2 | exact HDJ.out k h2 h1 | (have hb := HBR.out k h1; have hb2 := HBT.out k h2; omega)) (by have := HL.out; simp only [List.length_append] at this ⊢; omega)) ?_
  rintro e u2_1a ⟨rfl, qwr, hm⟩
  have zu2_1a := hm.size
  refine ⟨_, rfl, hm.mono (by intro k hk h; rcases h with h | h | h | h <;> first | omega | exact Or.inl ⟨(by have hb := HBR.out k h; omega), ⟨rfl, Or.inl h⟩⟩), (fun _ => rfl), ?_⟩
  intro u2_1 hr
  have zu2_1 := hr.size
  have Hx13 := hid ((qwr.widen (R' := (fun k => (R k) ∨ (New u1_0 u1_1a k) ∨ (New u1_1 u1_2a k) ∨ (New u1_2 u1_3a k) ∨ (New u2_0 u2_1a k))) (by intro k h1; simp only [or_assoc] at h1 ⊢; exact h1) (Nat.le_refl _)).mod hr (by intro k h1 h2; rcases h1 with h1 | h1 | h1 | h1 | h1 <;> first | omega | (have hb := HBR.out k h1; omega)))
  have Cx14 := hid (Cx11.out.goM hm hr (fun _ _ h => h))
  clear Cx11 hm hr Z act E qwr Hx12
  refine QChain.nil fun vs hl hzz hrows hne => ?_
  obtain ⟨Z, hYZ, hZb, hV⟩ := hzz
  have f0 := fvi hV hl 0
  have f3 := fvi hV hl 3
  rw [show vs = [gw vs 0, gw vs 1, gw vs 2, gw vs 3] from (gw_eta hl).trans rfl]
  have ha0 := HA0.out
  subst ha0
  clear HA0 hV hYZ hZb hsz0 hrows hne oe0 oe3
  simp only [putAll, Act.put, List.setIfInBounds_toArray, List.set_cons_zero, List.set_cons_succ, f0, f3]
  clear hl f0 f3
  go_upto_region 3 with (fail)
  generalize ha0 : Act.mk _ _ = a0
  have oe0 : a0.eval (.tmp 0) = .pointer (some ⟨g, 0, none⟩) := by rw [← ha0]; rfl
  have oe3 : a0.eval (.tmp 3) = .pointer (some ⟨w.heap.size, 0, none⟩) := by rw [← ha0]; rfl
  have hsz0 : a0.tmps.size = 22 := by rw [← ha0]; rfl
  have HA0 := hid ha0
  clear ha0
  refine wp_region_Q1 22 hsz0 [18, 19, 20, 21] (fun k => (R k) ∨ (New u1_0 u1_1a k) ∨ (New u1_1 u1_2a k) ∨ (New u1_2 u1_3a k) ∨ (New u2_0 u2_1a k)) (fun k j => (k = 0 ∧ ((R j) ∨ (New u1_0 u1_1a j) ∨ (New u1_1 u1_2a j) ∨ (New u1_2 u1_3a j) ∨ (New u2_0 u2_1a j)))) (fun _ _ h => h.2) [qi (.pointer (some ⟨g, 0, none⟩)), qi (.pointer (some ⟨w.heap.size, 4, none⟩)), qi (.agg #[.int .i64 x.sb, .int .i64 x.mr]), qi (.tuple #[])] ⟨qi_stable, qi_stable, qi_stable, qi_stable, trivial⟩ [3] ⟨?_, ?_, ?_, ?_, trivial⟩ ?_
  · exact stq (fun E => ex_move rfl (E.v oe0))
  · exact stq (fun E => ex_field rfl Try.underlying55 rfl (by kernel_rfl) (E.v oe3))
  · exact stq (fun E => ex_loadA rfl Try.underlying28 rfl (off := 4) (cs := [.int .i64 x.sb, .int .i64 x.mr]) (by kernel_rfl) (E.d 1) (Cs.litA (((HB3.out.mod Cx10.out (by intro h2; first | omega | (have hb := HBR.out _ h2; omega))).mod Cx14.out (by intro h2; rcases h2 with h2 | h2 | h2 | h2 <;> first | omega | (have hb := HBR.out _ h2; omega))).mod E.m (by intro h2; rcases h2 with ⟨h0, h2 | h2 | h2 | h2 | h2⟩ | h2 <;> first | omega | (have hb := HBR.out _ h2; omega))) rfl))
  · exact stepq_chain rfl
  intro u3_0 hr
  have zu3_0 := hr.size
  have Cx15 := hid (hr.new (S := (fun k => (R k) ∨ (New u1_0 u1_1a k) ∨ (New u1_1 u1_2a k) ∨ (New u1_2 u1_3a k) ∨ (New u2_0 u2_1a k))))
  have Hx16 := hid (Hx13.out.mod hr (by intro k h1 h2; rcases h1 with h1 | h1 | h1 | h1 | h1 <;> first | omega | (have hb := HBR.out k h1; omega)))
  clear Hx13
  clear hr
  refine QChain.go fun Z act E => ?_
  refine qc_callF (args := #[.pointer (some ⟨g, 0, none⟩), .agg #[.int .i64 x.sb, .int .i64 x.mr]]) rfl (wanted_none rfl) rfl Try.func142 (args2 (E.d 0) (E.d 2)) (PutSig_Q Hx16.out (by intro k h1; rcases h1 with h1 | h1 | h1 | h1 | h1 <;> first | omega | (have hb := HBR.out k h1; omega)) HOK.out.2.2.2.1 HOK.out.2.2.2.2 (by have := HL.out; simp only [List.length_append] at this ⊢; omega)) ?_
  rintro e u3_1a ⟨rfl, qwr, hm⟩
  have zu3_1a := hm.size
  refine ⟨_, rfl, hm.mono (by intro k hk h; rcases h with h | h | h | h | h <;> first | omega | exact Or.inl ⟨(by have hb := HBR.out k h; omega), ⟨rfl, Or.inl h⟩⟩), (fun _ => rfl), ?_⟩
  intro u3_1 hr
  have zu3_1 := hr.size
  have Hx17 := hid ((qwr.widen (R' := (fun k => (R k) ∨ (New u1_0 u1_1a k) ∨ (New u1_1 u1_2a k) ∨ (New u1_2 u1_3a k) ∨ (New u2_0 u2_1a k) ∨ (New u3_0 u3_1a k))) (by intro k h1; simp only [or_assoc] at h1 ⊢; exact h1) (Nat.le_refl _)).mod hr (by intro k h1 h2; rcases h1 with h1 | h1 | h1 | h1 | h1 | h1 <;> first | omega | (have hb := HBR.out k h1; omega)))
  have Cx18 := hid (Cx15.out.goM hm hr (fun _ _ h => h))
  clear Cx15 hm hr Z act E qwr Hx16
  refine QChain.nil fun vs hl hzz hrows hne => ?_
  obtain ⟨Z, hYZ, hZb, hV⟩ := hzz
  have f0 := fvi hV hl 0
  have f3 := fvi hV hl 3
  rw [show vs = [gw vs 0, gw vs 1, gw vs 2, gw vs 3] from (gw_eta hl).trans rfl]
  have ha0 := HA0.out
  subst ha0
  clear HA0 hV hYZ hZb hsz0 hrows hne oe0 oe3
  simp only [putAll, Act.put, List.setIfInBounds_toArray, List.set_cons_zero, List.set_cons_succ, f0, f3]
  clear hl f0 f3
  go_wp2
  go_end0
  have hq := (Hx17.out.widen (R' := (fun k => R k ∨ New w u3_1 k)) (by intro k h1; rcases h1 with h1 | h1 | h1 | h1 | h1 | h1 <;> first | exact Or.inl h1 | (right; omega)) (Nat.le_refl _))
  simp only [List.append_assoc] at hq
  exact ⟨rfl, by simpa only [pmB, List.append_assoc] using hq, (((HM0.out.trans Cx10.out (fun _ _ h => h)).trans Cx14.out (by intro k h1 h2; rcases h2 with h2 | h2 | h2 | h2 <;> first | exact h2 | omega | (have hb := HBR.out k h2; omega))).trans Cx18.out (by intro k h1 h2; rcases h2 with h2 | h2 | h2 | h2 | h2 <;> first | exact h2 | omega | (have hb := HBR.out k h2; omega)))⟩
set_option maxHeartbeats 4000000 in
theorem PutList_Pm : PutsL PmR 130 99 pmB := by
  intro R R2 g bs v l w hW hB hs hB2 hD hl
  obtain ⟨ao, cap, rfl⟩ := hs.shape
  have hb64 : l.length ≤ maxLen := hs.bd
  rw [maxLen_val] at hb64
  have HI64 := hid (show I64 (l.length : Int) by unfold I64; omega)
  have HW := Lib.hid hW
  have HS := Lib.hid hs
  have HBR := Lib.hid hB
  have HBT := Lib.hid hB2
  have HDJ := Lib.hid hD
  have HL := Lib.hid hl
  clear hW hB hs hB2 hD hl
  unfold listB at HL
  go_enter Try.func130, Try.ntmps130
  go_upto_region 0 with (fail)
  have HM0 := hid (Mod.refl (fun k => (R k)) w)
  go_upto_region 0 with (fail)
  generalize ha0 : Act.mk _ _ = a0
  have oe0 : a0.eval (.tmp 0) = .pointer (some ⟨g, 0, none⟩) := by rw [← ha0]; rfl
  have oe1 : a0.eval (.tmp 1) = .slice ao l.length cap := by rw [← ha0]; rfl
  have hsz0 : a0.tmps.size = 23 := by rw [← ha0]; rfl
  have HA0 := hid ha0
  clear ha0
  refine wp_region_Q1 23 hsz0 [8, 9, 10, 11] (fun k => (R k)) (fun k j => (k = 0 ∧ ((R j)))) (fun _ _ h => h.2) [qi (.pointer (some ⟨g, 0, none⟩)), qi (.slice ao l.length cap), qi (.int .i64 l.length), qi (.pointer (some ⟨g, 0, none⟩))] ⟨qi_stable, qi_stable, qi_stable, qi_stable, trivial⟩ [3] ⟨?_, ?_, ?_, ?_, trivial⟩ ?_
  · exact stq (fun E => ex_move rfl (E.v oe0))
  · exact stq (fun E => ex_move rfl (E.v oe1))
  · exact stq (fun E => ex_lenS rfl (E.d 1) Try.underlying56)
  · exact stepq_chain rfl
  intro u0_0 hr
  have zu0_0 := hr.size
  have Cx1 := hid (hr.new (S := (fun k => (R k))))
  have Hx2 := hid (HW.out.mod hr (by intro k h1 h2; have hb := HBR.out k h1; omega))
  clear HW
  clear hr
  refine QChain.go fun Z act E => ?_
  refine qc_callF (args := #[.pointer (some ⟨g, 0, none⟩), .int .i64 l.length]) rfl (wanted_none rfl) rfl Try.func64 (args2 (E.d 0) (E.d 2)) (WInt_Q Hx2.out HI64.out (by have := HL.out; simp only [List.length_append] at this ⊢; omega)) ?_
  rintro e u0_1a ⟨rfl, qwr, hm⟩
  have zu0_1a := hm.size
  refine ⟨_, rfl, hm.mono (by intro k hk h; first | omega | exact Or.inl ⟨(by have hb := HBR.out k h; omega), ⟨rfl, h⟩⟩), (fun _ => rfl), ?_⟩
  intro u0_1 hr
  have zu0_1 := hr.size
  have Hx3 := hid ((qwr.widen (R' := (fun k => (R k) ∨ (New u0_0 u0_1a k))) (fun _ h => h) (Nat.le_refl _)).mod hr (by intro k h1 h2; rcases h1 with h1 | h1 <;> first | omega | (have hb := HBR.out k h1; omega)))
  have Cx4 := hid (Cx1.out.goM hm hr (fun _ _ h => h))
  clear Cx1 hm hr Z act E qwr Hx2
  refine QChain.nil fun vs hl hzz hrows hne => ?_
  obtain ⟨Z, hYZ, hZb, hV⟩ := hzz
  have f0 := fvi hV hl 0
  have f1 := fvi hV hl 1
  have f2 := fvi hV hl 2
  have f3 := fvi hV hl 3
  rw [show vs = [gw vs 0, gw vs 1, gw vs 2, gw vs 3] from (gw_eta hl).trans rfl]
  have ha0 := HA0.out
  subst ha0
  clear HA0 hV hYZ hZb hsz0 hrows hne oe0 oe1
  simp only [putAll, Act.put, List.setIfInBounds_toArray, List.set_cons_zero, List.set_cons_succ, f0, f1, f2, f3]
  clear hl f0 f1 f2 f3
  go_wp2
  go_loopw [14] (fun t wr => ∃ k : Nat, t = .int .i64 (k : Int) ∧ k ≤ l.length ∧ u0_1.heap.size ≤ wr.heap.size ∧ WrR (fun b => R b ∨ (w.heap.size ≤ b ∧ b < wr.heap.size)) 900000 wr g (bs ++ (encI l.length ++ ((l.take k).map pmB).flatten)) ∧ RdS PmR R2 wr (.slice ao l.length cap) l ∧ Mod R w wr) (fun t _ => l.length - (intOf t).toNat)
  case atStart => exact ⟨0, rfl, Nat.zero_le _, Nat.le_refl _, by have hq := (Hx3.out.widen (R' := (fun k => R k ∨ (w.heap.size ≤ k ∧ k < u0_1.heap.size))) (by intro k h1; rcases h1 with h1 | h1 <;> first | exact Or.inl h1 | (right; omega)) (Nat.le_refl _)); simpa only [List.take_zero, List.map_nil, List.flatten_nil, List.append_nil] using hq, (HS.out.mod Cx4.out (by intro k h1 h2; first | omega | (have hb := HBT.out k h1; omega) | (have hb := HBR.out k h2; omega) | exact HDJ.out k h1 h2 | exact HDJ.out k h2 h1 | (have hb := HBT.out k h1; have hb2 := HBR.out k h2; omega))), (HM0.out.trans Cx4.out (fun _ _ h => h))⟩
  case round =>
    obtain ⟨k, rfl, hk, hz, hw, hs, hm⟩ := hrel
    have HW2 := Lib.hid hw
    have HS2 := Lib.hid hs
    have HM2 := Lib.hid hm
    clear hw hs hm Hx3 HS HM0
    obtain ⟨wo, rfl⟩ : ∃ x, x = wr := ⟨_, rfl⟩
    by_cases hlt : k < l.length
    · skip
      obtain ⟨g0, o0, cs, rfl, hrg, hrd, hcs⟩ := HS2.out.at hlt
      have hcl : cs.length = 6 := PmR.len hrd
      have HCL := Lib.hid hcl
      have HAT := hid (show CellsAt R2 wo g0 (o0 + k * 6) cs from ⟨hrg, hcs⟩)
      have HRD := Lib.hid hrd
      have HOC := hid (PmR.one hrd)
      clear hcl hcs hrd hrg
      have HE : Hid (bs ++ (encI l.length ++ ((l.take k).map pmB).flatten) ++ pmB l[k] = bs ++ (encI l.length ++ ((l.take (k + 1)).map pmB).flatten)) := hid (by rw [List.take_succ_eq_append_getElem hlt, List.map_append, List.flatten_append]; simp [List.append_assoc])
      have HLk := hid (show (bs ++ (encI l.length ++ ((l.take k).map pmB).flatten) ++ pmB l[k]).length ≤ 900000 by rw [HE.out]; exact Nat.le_trans (put_len _ _ _ _ _) HL.out)
      go_upto_region 3 with (fail)
      generalize ha0 : Act.mk _ _ = a0
      have oe12 : a0.eval (.tmp 12) = .slice (some ⟨g0, o0, none⟩) l.length cap := by rw [← ha0]; rfl
      have oe14 : a0.eval (.tmp 14) = .int .i64 ((k : Nat) : Int) := by rw [← ha0]; rfl
      have hsz0 : a0.tmps.size = 23 := by rw [← ha0]; rfl
      have HA0 := hid ha0
      clear ha0
      refine wp_region_Q 23 hsz0 (by kernel_rfl) (by kernel_rfl) [16, 17, 7, 26] (by kernel_rfl) (by decide) (fun _ => False) (fun _ _ => False) (fun _ _ h => h) [qi (.pointer (some ⟨g0, o0 + k * 6, none⟩)), qi (.agg cs.toArray), qa, qa] ⟨qi_stable, qi_stable, qa_stable, qa_stable, trivial⟩ [] (by kernel_rfl) (by decide) (by kernel_rfl) [⟨2, 3, 55, [.int .i64 0, .int .i64 0, .int .u64 0, .slice none 0 0, .int .i64 0, .int .i64 0], 0, (fun t => cs)⟩] (by kernel_rfl) (by intro r hr; simp only [List.mem_cons, List.not_mem_nil, or_false] at hr; rcases hr with rfl <;> exact ⟨by kernel_rfl, by kernel_rfl⟩) (by intro r hr; simp only [List.mem_cons, List.not_mem_nil, or_false] at hr; rcases hr with rfl <;> exact ⟨of_decide_eq_true (by kernel_rfl), of_decide_eq_true (by kernel_rfl)⟩) (by intro r hr; simp only [List.mem_cons, List.not_mem_nil, or_false] at hr; rcases hr with rfl <;> exact fun _ _ _ _ => ⟨trivial, trivial⟩) ⟨?_, ?_, ?_, ?_, trivial⟩ ?_
      · exact stq (fun E => ex_idxS (i := k) (s := 6) rfl Try.underlying56 (by kernel_rfl) (E.v oe12) (E.v oe14) (by omega))
      · exact stq (fun E => ex_loadA rfl Try.underlying55 rfl (off := o0 + k * 6) (cs := cs) (by rw [HCL.out]; kernel_rfl) (E.d 0) (fun j u hu => ((HAT.out.mod E.m.old (by intro k h1 h2; have hb := HBT.out k h1; omega))).2 j u hu))
      · exact stepq_make rfl rfl ⟨rfl, rfl, by kernel_rfl, by kernel_rfl⟩
      · refine stepq_write rfl rfl rfl ⟨rfl, 7, (.tmp 17), rfl, by decide, rfl, by kernel_rfl, fun Z tr act w' hm hout hsz hd hpre => ?_⟩
        have h1 := hd ⟨1, .data⟩ (by simp) rfl _ rfl
        exact ⟨Nat.zero_le _, (by rw [show act.eval ((.tmp 17)) = _ from h1]; rfl), (by rw [HCL.out]; rfl), HOC.out⟩
      intro u3_0 hr
      have zu3_0 := hr.size
      have Cx5 := hid (hr.new (S := (fun _ => False)))
      clear hr
      refine QChain.nil fun vs hl hzz hrows hne => ?_
      obtain ⟨Z, hYZ, hZb, hV⟩ := hzz
      obtain ⟨q, g2, hBq, hYq, hCq⟩ := hrows _ (by simp only [List.mem_cons, List.not_mem_nil, or_false]; trivial)
      have f2 : gw vs 2 = _ := getv g2
      (try dsimp only at hBq hYq); (try simp only [false_or] at hBq hYq)
      have zqq := hCq.lt
      have Hx6 := hid (show Cs u3_0 q (cs : List Value).toArray 55 from hCq)
      rw [show vs = [gw vs 0, gw vs 1, gw vs 2, gw vs 3] from (gw_eta hl).trans rfl]
      have ha0 := HA0.out
      subst ha0
      clear HA0 hV hYZ hZb hsz0 hrows hne oe12 oe14 hCq g2
      simp only [putAll, Act.put, List.setIfInBounds_toArray, List.set_cons_zero, List.set_cons_succ, List.set_nil, f2]
      clear hl f2
      go_upto_region 4 with (fail)
      generalize ha0 : Act.mk _ _ = a0
      have oe0 : a0.eval (.tmp 0) = .pointer (some ⟨g, 0, none⟩) := by rw [← ha0]; rfl
      have oe2 : a0.eval (.tmp 2) = .func (.func 99) #[] #[] := by rw [← ha0]; rfl
      have oe7 : a0.eval (.tmp 7) = .pointer (some ⟨q, 0, none⟩) := by rw [← ha0]; rfl
      have hsz0 : a0.tmps.size = 23 := by rw [← ha0]; rfl
      have HA0 := hid ha0
      clear ha0
      refine wp_region_Q1 23 hsz0 [18, 19, 20, 21] (fun k => (R k) ∨ (New w wo k)) (fun k j => (k = 0 ∧ ((R j) ∨ (New w wo j)))) (fun _ _ h => h.2) [qi (.func (.func 99) #[] #[]), qi (.pointer (some ⟨g, 0, none⟩)), qi (.agg cs.toArray), qi (.tuple #[])] ⟨qi_stable, qi_stable, qi_stable, qi_stable, trivial⟩ [3] ⟨?_, ?_, ?_, ?_, trivial⟩ ?_
      · exact stq (fun E => ex_move rfl (E.v oe2))
      · exact stq (fun E => ex_move rfl (E.v oe0))
      · exact stq (fun E => ex_loadA rfl Try.underlying55 rfl (off := 0) (cs := cs) (by rw [HCL.out]; kernel_rfl) (E.v oe7) (Cs.whole (Hx6.out.mod E.m (by intro h2; rcases h2 with ⟨h0, h2 | h2⟩ | h2 <;> first | omega | (have hb := HBR.out _ h2; omega)))))
      · exact stepq_chain rfl
      intro u4_0 hr
      have zu4_0 := hr.size
      have Cx7 := hid (hr.new (S := (fun k => (R k) ∨ (New w wo k))))
      have Hx8 := hid ((HW2.out.mod Cx5.out (fun _ _ h => h)).mod hr (by intro k h1 h2; rcases h1 with h1 | h1 <;> first | omega | (have hb := HBR.out k h1; omega)))
      clear HW2
      clear hr
      refine QChain.go fun Z act E => ?_
      have ea19 : act.eval (.tmp 19) = .pointer (some ⟨g, 0, none⟩) := (E.d 1)
      have ea20 : act.eval (.tmp 20) = .agg cs.toArray := (E.d 2)
      refine qc_call (args := #[.pointer (some ⟨g, 0, none⟩), .agg cs.toArray]) rfl (wanted_none rfl) (by rw [ex_callV rfl (E.d 0) Try.func99 (by kernel_rfl) (by kernel_rfl)]; exact congrArg (fun z => Result.ok (Next.enter _ z) _) (by simp only [List.map_toArray, List.map_cons, List.map_nil, ea19, ea20]; try rfl)) (PutPm_Q _ _ _ _ _ _ _ Hx8.out (by intro k h1; rcases h1 with h1 | h1 <;> first | omega | (have hb := HBR.out k h1; omega)) ((HRD.out.mod Cx5.out (fun _ _ h => h)).mod Cx7.out (by intro k h1 h2; rcases h2 with h2 | h2 <;> first | omega | (have hb := HBT.out k h1; omega) | (have hb := HBR.out k h2; omega) | exact HDJ.out k h1 h2 | exact HDJ.out k h2 h1 | (have hb := HBT.out k h1; have hb2 := HBR.out k h2; omega))) (by intro k h1; have hb := HBT.out k h1; omega) (by intro k h1 h2; rcases h1 with h1 | h1 <;> first | omega | (have hb := HBR.out k h1; omega) | (have hb := HBT.out k h2; omega) | exact HDJ.out k h1 h2 | exact HDJ.out k h2 h1 | (have hb := HBR.out k h1; have hb2 := HBT.out k h2; omega)) HLk.out) ?_
      rintro e u4_1a ⟨rfl, qwr, hm⟩
      have zu4_1a := hm.size
      refine ⟨_, rfl, hm.mono (by intro k hk h; rcases h with h | h <;> first | omega | exact Or.inl ⟨(by have hb := HBR.out k h; omega), ⟨rfl, Or.inl h⟩⟩), (fun _ => rfl), ?_⟩
      intro u4_1 hr
      have zu4_1 := hr.size
      have Hx9 := hid ((qwr.widen (R' := (fun k => (R k) ∨ (New w wo k) ∨ (New u4_0 u4_1a k))) (by intro k h1; simp only [or_assoc] at h1 ⊢; exact h1) (Nat.le_refl _)).mod hr (by intro k h1 h2; rcases h1 with h1 | h1 | h1 <;> first | omega | (have hb := HBR.out k h1; omega)))
      have Cx10 := hid (Cx7.out.goM hm hr (fun _ _ h => h))
      clear Cx7 hm hr Z act E qwr Hx8 ea19 ea20
      refine QChain.nil fun vs hl hzz hrows hne => ?_
      obtain ⟨Z, hYZ, hZb, hV⟩ := hzz
      have f0 := fvi hV hl 0
      have f1 := fvi hV hl 1
      have f3 := fvi hV hl 3
      rw [show vs = [gw vs 0, gw vs 1, gw vs 2, gw vs 3] from (gw_eta hl).trans rfl]
      have ha0 := HA0.out
      subst ha0
      clear HA0 hV hYZ hZb hsz0 hrows hne oe0 oe2 oe7
      simp only [putAll, Act.put, List.setIfInBounds_toArray, List.set_cons_zero, List.set_cons_succ, f0, f1, f3]
      clear hl f0 f1 f3
      have hq := Hx9.out
      rw [HE.out] at hq
      have HQ := Lib.hid hq
      clear hq
      go_wp2
      go_roundw
      case rel => exact ⟨k + 1, by go_num, by omega, by omega, (HQ.out.widen (by intro b h1; rcases h1 with h1 | h1 | h1 <;> first | exact Or.inl h1 | (right; omega)) (Nat.le_refl _)), ((HS2.out.mod Cx5.out (fun _ _ h => h)).mod Cx10.out (by intro k h1 h2; rcases h2 with h2 | h2 <;> first | omega | (have hb := HBT.out k h1; omega) | (have hb := HBR.out k h2; omega) | exact HDJ.out k h1 h2 | exact HDJ.out k h2 h1 | (have hb := HBT.out k h1; have hb2 := HBR.out k h2; omega))), ((HM2.out.trans Cx5.out (fun _ _ h => h.elim)).trans Cx10.out (by intro k h1 h2; rcases h2 with h2 | h2 <;> first | exact h2 | omega | (have hb := HBR.out k h2; omega)))⟩
      case measure => simp [intOf]; omega
    · have hkk : k = l.length := by omega
      subst hkk
      go_wp2
      go_end0
      have hq := HW2.out
      rw [List.take_length] at hq
      exact ⟨rfl, hq, HM2.out⟩
set_option maxHeartbeats 4000000 in
theorem PutBa_Q : Puts BaR 95 baB := by
  intro R R2 g bs cs x w hW hB hx hB2 hD hl
  obtain ⟨v_ps, v_os, v_ts, rfl, hok, hs0, hs1, hs2⟩ := hx
  have HS0 := Lib.hid hs0
  clear hs0
  have HS1 := Lib.hid hs1
  clear hs1
  have HS2 := Lib.hid hs2
  clear hs2
  have HW := Lib.hid hW
  have HBR := Lib.hid hB
  have HBT := Lib.hid hB2
  have HDJ := Lib.hid hD
  have HOK := Lib.hid hok
  have HL := Lib.hid hl
  clear hW hB hB2 hD hl hok
  unfold baB at HL
  go_enter Try.func95, Try.ntmps95
  go_upto_region 1 with (fail)
  obtain ⟨w1, hw1⟩ : ∃ zz, zz = (w.alloc (.cells (x.cells v_ps v_os v_ts : List Value).toArray 60)) := ⟨_, rfl⟩
  change Code.wp _ _ _ _ (w.alloc (.cells (x.cells v_ps v_os v_ts : List Value).toArray 60))
  rw [← hw1]
  have HB3 := hid (show Cs w1 (w.heap.size) (x.cells v_ps v_os v_ts : List Value).toArray 60 by rw [hw1]; exact Cs.new _ _ _)
  have hm : Mod (fun _ => False) w w1 := by rw [hw1]; exact (Mod.refl _ _).alloc _
  have HM0 := hid (show Mod (fun k => (R k)) w w1 from hm.mono (fun _ _ h => h.elim))
  have hs1 : w1.heap.size = w.heap.size + 1 := by rw [hw1]; simp
  have Hx1 := hid (HW.out.mod hm (fun _ _ h => h))
  clear HW
  have Hx2 := hid (HS0.out.mod hm (fun _ _ h => h))
  clear HS0
  have Hx3 := hid (HS1.out.mod hm (fun _ _ h => h))
  clear HS1
  have Hx4 := hid (HS2.out.mod hm (fun _ _ h => h))
  clear HS2
  clear hw1 hm
  go_upto_region 1 with (fail)
  generalize ha0 : Act.mk _ _ = a0
  have oe0 : a0.eval (.tmp 0) = .pointer (some ⟨g, 0, none⟩) := by rw [← ha0]; rfl
  have oe3 : a0.eval (.tmp 3) = .pointer (some ⟨w.heap.size, 0, none⟩) := by rw [← ha0]; rfl
  have hsz0 : a0.tmps.size = 23 := by rw [← ha0]; rfl
  have HA0 := hid ha0
  clear ha0
  refine wp_region_Q1 23 hsz0 [4, 5, 6, 7, 8, 9, 10] (fun k => (R k)) (fun k j => (k = 0 ∧ ((R j))) ∨ (k = 1 ∧ ((R j)))) (by intro k j h; (try dsimp only at h ⊢); rcases h with ⟨-, h⟩ | ⟨-, h⟩; (exact h); (exact h)) [qi (.pointer (some ⟨g, 0, none⟩)), qi (.pointer (some ⟨w.heap.size, 0, none⟩)), qi (.int .i64 x.ep), qi (.pointer (some ⟨g, 0, none⟩)), qi (.pointer (some ⟨w.heap.size, 1, none⟩)), qi (.int .u64 (x.tm : Nat)), qi (.pointer (some ⟨g, 0, none⟩))] ⟨qi_stable, qi_stable, qi_stable, qi_stable, qi_stable, qi_stable, qi_stable, trivial⟩ [3, 6] ⟨?_, ?_, ?_, ?_, ?_, ?_, ?_, trivial⟩ ?_
  · exact stq (fun E => ex_move rfl (E.v oe0))
  · exact stq (fun E => ex_field rfl Try.underlying60 rfl (by kernel_rfl) (E.v oe3))
  · exact stq (fun E => ex_load1 rfl Try.underlying3 rfl (E.d 1) (Cs.lit1 (HB3.out.mod E.m (by intro h2; rcases h2 with ⟨h0, h2⟩ | h2 <;> first | omega | (have hb := HBR.out _ h2; omega))) rfl))
  · exact stepq_chain rfl
  · exact stq (fun E => ex_field rfl Try.underlying60 rfl (by kernel_rfl) (E.v oe3))
  · exact stq (fun E => ex_load1 rfl Try.underlying26 rfl (E.d 4) (Cs.lit1 (HB3.out.mod E.m (by intro h2; rcases h2 with ⟨h0, h2⟩ | h2 <;> first | omega | (have hb := HBR.out _ h2; omega))) rfl))
  · exact stepq_chain rfl
  intro u1_0 hr
  have zu1_0 := hr.size
  have Cx5 := hid (hr.new (S := (fun k => (R k))))
  have Hx6 := hid (Hx1.out.mod hr (by intro k h1 h2; have hb := HBR.out k h1; omega))
  clear Hx1
  clear hr
  refine QChain.go fun Z act E => ?_
  refine qc_callF (args := #[.pointer (some ⟨g, 0, none⟩), .int .i64 x.ep]) rfl (wanted_none rfl) rfl Try.func64 (args2 (E.d 0) (E.d 2)) (WInt_Q Hx6.out HOK.out.1 (by have := HL.out; simp only [List.length_append] at this ⊢; omega)) ?_
  rintro e u1_1a ⟨rfl, qwr, hm⟩
  have zu1_1a := hm.size
  refine ⟨_, rfl, hm.mono (by intro k hk h; first | omega | exact Or.inl ⟨(by have hb := HBR.out k h; omega), Or.inl ⟨rfl, h⟩⟩), (fun _ => rfl), ?_⟩
  intro u1_1 hr
  have zu1_1 := hr.size
  have Hx7 := hid ((qwr.widen (R' := (fun k => (R k) ∨ (New u1_0 u1_1a k))) (fun _ h => h) (Nat.le_refl _)).mod hr (by intro k h1 h2; rcases h1 with h1 | h1 <;> first | omega | (have hb := HBR.out k h1; omega)))
  have Cx8 := hid (Cx5.out.goM hm hr (fun _ _ h => h))
  clear Cx5 hm hr Z act E qwr Hx6
  refine QChain.go fun Z act E => ?_
  refine qc_callF (args := #[.pointer (some ⟨g, 0, none⟩), .int .u64 (x.tm : Nat)]) rfl (wanted_none rfl) rfl Try.func67 (args2 (E.d 3) (E.d 5)) (WNum_Q Hx7.out HOK.out.2 (by have := HL.out; simp only [List.length_append] at this ⊢; omega)) ?_
  rintro e u1_2a ⟨rfl, qwr, hm⟩
  have zu1_2a := hm.size
  refine ⟨_, rfl, hm.mono (by intro k hk h; rcases h with h | h <;> first | omega | exact Or.inl ⟨(by have hb := HBR.out k h; omega), Or.inr (⟨rfl, h⟩)⟩), (fun _ => rfl), ?_⟩
  intro u1_2 hr
  have zu1_2 := hr.size
  have Hx9 := hid ((qwr.widen (R' := (fun k => (R k) ∨ (New u1_0 u1_1a k) ∨ (New u1_1 u1_2a k))) (by intro k h1; simp only [or_assoc] at h1 ⊢; exact h1) (Nat.le_refl _)).mod hr (by intro k h1 h2; rcases h1 with h1 | h1 | h1 <;> first | omega | (have hb := HBR.out k h1; omega)))
  have Cx10 := hid (Cx8.out.goM hm hr (by intro k h0 h2; rcases h2 with h2 | h2 <;> first | omega | exact h2))
  clear Cx8 hm hr Z act E qwr Hx7
  refine QChain.nil fun vs hl hzz hrows hne => ?_
  obtain ⟨Z, hYZ, hZb, hV⟩ := hzz
  have f0 := fvi hV hl 0
  have f3 := fvi hV hl 3
  have f6 := fvi hV hl 6
  rw [show vs = [gw vs 0, gw vs 1, gw vs 2, gw vs 3, gw vs 4, gw vs 5, gw vs 6] from (gw_eta hl).trans rfl]
  have ha0 := HA0.out
  subst ha0
  clear HA0 hV hYZ hZb hsz0 hrows hne oe0 oe3
  simp only [putAll, Act.put, List.setIfInBounds_toArray, List.set_cons_zero, List.set_cons_succ, f0, f3, f6]
  clear hl f0 f3 f6
  go_upto_region 2 with (fail)
  generalize ha0 : Act.mk _ _ = a0
  have oe0 : a0.eval (.tmp 0) = .pointer (some ⟨g, 0, none⟩) := by rw [← ha0]; rfl
  have oe3 : a0.eval (.tmp 3) = .pointer (some ⟨w.heap.size, 0, none⟩) := by rw [← ha0]; rfl
  have hsz0 : a0.tmps.size = 23 := by rw [← ha0]; rfl
  have HA0 := hid ha0
  clear ha0
  refine wp_region_Q1 23 hsz0 [11, 12, 13, 14] (fun k => (R k) ∨ (New u1_0 u1_1a k) ∨ (New u1_1 u1_2a k)) (fun k j => (k = 0 ∧ ((R j) ∨ (New u1_0 u1_1a j) ∨ (New u1_1 u1_2a j)))) (fun _ _ h => h.2) [qi (.pointer (some ⟨g, 0, none⟩)), qi (.pointer (some ⟨w.heap.size, 2, none⟩)), qi (v_ps), qi (.tuple #[])] ⟨qi_stable, qi_stable, qi_stable, qi_stable, trivial⟩ [3] ⟨?_, ?_, ?_, ?_, trivial⟩ ?_
  · exact stq (fun E => ex_move rfl (E.v oe0))
  · exact stq (fun E => ex_field rfl Try.underlying60 rfl (by kernel_rfl) (E.v oe3))
  · exact stq (fun E => ex_load1 rfl Try.underlying56 rfl (E.d 1) (Cs.lit1 ((HB3.out.mod Cx10.out (by intro h2; first | omega | (have hb := HBR.out _ h2; omega))).mod E.m (by intro h2; rcases h2 with ⟨h0, h2 | h2 | h2⟩ | h2 <;> first | omega | (have hb := HBR.out _ h2; omega))) rfl))
  · exact stepq_chain rfl
  intro u2_0 hr
  have zu2_0 := hr.size
  have Cx11 := hid (hr.new (S := (fun k => (R k) ∨ (New u1_0 u1_1a k) ∨ (New u1_1 u1_2a k))))
  have Hx12 := hid (Hx9.out.mod hr (by intro k h1 h2; rcases h1 with h1 | h1 | h1 <;> first | omega | (have hb := HBR.out k h1; omega)))
  clear Hx9
  clear hr
  refine QChain.go fun Z act E => ?_
  refine qc_callF (args := #[.pointer (some ⟨g, 0, none⟩), v_ps, .func (.func 99) #[] #[]]) rfl (wanted_none rfl) rfl Try.func130 (args3 (E.d 0) (E.d 2) rfl) (PutList_Pm _ _ _ _ _ _ _ Hx12.out (by intro k h1; rcases h1 with h1 | h1 | h1 <;> first | omega | (have hb := HBR.out k h1; omega)) ((Hx2.out.mod Cx10.out (by intro k h1 h2; first | omega | (have hb := HBT.out k h1; omega) | (have hb := HBR.out k h2; omega) | exact HDJ.out k h1 h2 | exact HDJ.out k h2 h1 | (have hb := HBT.out k h1; have hb2 := HBR.out k h2; omega))).mod Cx11.out (by intro k h1 h2; rcases h2 with h2 | h2 | h2 <;> first | omega | (have hb := HBT.out k h1; omega) | (have hb := HBR.out k h2; omega) | exact HDJ.out k h1 h2 | exact HDJ.out k h2 h1 | (have hb := HBT.out k h1; have hb2 := HBR.out k h2; omega))) (by intro k h1; have hb := HBT.out k h1; omega) (by intro k h1 h2; rcases h1 with h1 | h1 | h1 <;> first | omega | (have hb := HBR.out k h1; omega) | (have hb := HBT.out k h2; omega) | exact HDJ.out k h1 h2 | exact HDJ.out k h2 h1 | (have hb := HBR.out k h1; have hb2 := HBT.out k h2; omega)) (by have := HL.out; simp only [List.length_append] at this ⊢; omega)) ?_
  rintro e u2_1a ⟨rfl, qwr, hm⟩
  have zu2_1a := hm.size
  refine ⟨_, rfl, hm.mono (by intro k hk h; rcases h with h | h | h <;> first | omega | exact Or.inl ⟨(by have hb := HBR.out k h; omega), ⟨rfl, Or.inl h⟩⟩), (fun _ => rfl), ?_⟩
  intro u2_1 hr
  have zu2_1 := hr.size
  have Hx13 := hid ((qwr.widen (R' := (fun k => (R k) ∨ (New u1_0 u1_1a k) ∨ (New u1_1 u1_2a k) ∨ (New u2_0 u2_1a k))) (by intro k h1; simp only [or_assoc] at h1 ⊢; exact h1) (Nat.le_refl _)).mod hr (by intro k h1 h2; rcases h1 with h1 | h1 | h1 | h1 <;> first | omega | (have hb := HBR.out k h1; omega)))
  have Cx14 := hid (Cx11.out.goM hm hr (fun _ _ h => h))
  clear Cx11 hm hr Z act E qwr Hx12
  refine QChain.nil fun vs hl hzz hrows hne => ?_
  obtain ⟨Z, hYZ, hZb, hV⟩ := hzz
  have f0 := fvi hV hl 0
  have f3 := fvi hV hl 3
  rw [show vs = [gw vs 0, gw vs 1, gw vs 2, gw vs 3] from (gw_eta hl).trans rfl]
  have ha0 := HA0.out
  subst ha0
  clear HA0 hV hYZ hZb hsz0 hrows hne oe0 oe3
  simp only [putAll, Act.put, List.setIfInBounds_toArray, List.set_cons_zero, List.set_cons_succ, f0, f3]
  clear hl f0 f3
  go_upto_region 3 with (fail)
  generalize ha0 : Act.mk _ _ = a0
  have oe0 : a0.eval (.tmp 0) = .pointer (some ⟨g, 0, none⟩) := by rw [← ha0]; rfl
  have oe3 : a0.eval (.tmp 3) = .pointer (some ⟨w.heap.size, 0, none⟩) := by rw [← ha0]; rfl
  have hsz0 : a0.tmps.size = 23 := by rw [← ha0]; rfl
  have HA0 := hid ha0
  clear ha0
  refine wp_region_Q1 23 hsz0 [15, 16, 17, 18] (fun k => (R k) ∨ (New u1_0 u1_1a k) ∨ (New u1_1 u1_2a k) ∨ (New u2_0 u2_1a k)) (fun k j => (k = 0 ∧ ((R j) ∨ (New u1_0 u1_1a j) ∨ (New u1_1 u1_2a j) ∨ (New u2_0 u2_1a j)))) (fun _ _ h => h.2) [qi (.pointer (some ⟨g, 0, none⟩)), qi (.pointer (some ⟨w.heap.size, 3, none⟩)), qi (v_os), qi (.tuple #[])] ⟨qi_stable, qi_stable, qi_stable, qi_stable, trivial⟩ [3] ⟨?_, ?_, ?_, ?_, trivial⟩ ?_
  · exact stq (fun E => ex_move rfl (E.v oe0))
  · exact stq (fun E => ex_field rfl Try.underlying60 rfl (by kernel_rfl) (E.v oe3))
  · exact stq (fun E => ex_load1 rfl Try.underlying57 rfl (E.d 1) (Cs.lit1 (((HB3.out.mod Cx10.out (by intro h2; first | omega | (have hb := HBR.out _ h2; omega))).mod Cx14.out (by intro h2; rcases h2 with h2 | h2 | h2 <;> first | omega | (have hb := HBR.out _ h2; omega))).mod E.m (by intro h2; rcases h2 with ⟨h0, h2 | h2 | h2 | h2⟩ | h2 <;> first | omega | (have hb := HBR.out _ h2; omega))) rfl))
  · exact stepq_chain rfl
  intro u3_0 hr
  have zu3_0 := hr.size
  have Cx15 := hid (hr.new (S := (fun k => (R k) ∨ (New u1_0 u1_1a k) ∨ (New u1_1 u1_2a k) ∨ (New u2_0 u2_1a k))))
  have Hx16 := hid (Hx13.out.mod hr (by intro k h1 h2; rcases h1 with h1 | h1 | h1 | h1 <;> first | omega | (have hb := HBR.out k h1; omega)))
  clear Hx13
  clear hr
  refine QChain.go fun Z act E => ?_
  refine qc_callF (args := #[.pointer (some ⟨g, 0, none⟩), v_os, .func (.func 132) #[] #[]]) rfl (wanted_none rfl) rfl Try.func131 (args3 (E.d 0) (E.d 2) rfl) (PutList_Op _ _ _ _ _ _ _ Hx16.out (by intro k h1; rcases h1 with h1 | h1 | h1 | h1 <;> first | omega | (have hb := HBR.out k h1; omega)) (((Hx3.out.mod Cx10.out (by intro k h1 h2; first | omega | (have hb := HBT.out k h1; omega) | (have hb := HBR.out k h2; omega) | exact HDJ.out k h1 h2 | exact HDJ.out k h2 h1 | (have hb := HBT.out k h1; have hb2 := HBR.out k h2; omega))).mod Cx14.out (by intro k h1 h2; rcases h2 with h2 | h2 | h2 <;> first | omega | (have hb := HBT.out k h1; omega) | (have hb := HBR.out k h2; omega) | exact HDJ.out k h1 h2 | exact HDJ.out k h2 h1 | (have hb := HBT.out k h1; have hb2 := HBR.out k h2; omega))).mod Cx15.out (by intro k h1 h2; rcases h2 with h2 | h2 | h2 | h2 <;> first | omega | (have hb := HBT.out k h1; omega) | (have hb := HBR.out k h2; omega) | exact HDJ.out k h1 h2 | exact HDJ.out k h2 h1 | (have hb := HBT.out k h1; have hb2 := HBR.out k h2; omega))) (by intro k h1; have hb := HBT.out k h1; omega) (by intro k h1 h2; rcases h1 with h1 | h1 | h1 | h1 <;> first | omega | (have hb := HBR.out k h1; omega) | (have hb := HBT.out k h2; omega) | exact HDJ.out k h1 h2 | exact HDJ.out k h2 h1 | (have hb := HBR.out k h1; have hb2 := HBT.out k h2; omega)) (by have := HL.out; simp only [List.length_append] at this ⊢; omega)) ?_
  rintro e u3_1a ⟨rfl, qwr, hm⟩
  have zu3_1a := hm.size
  refine ⟨_, rfl, hm.mono (by intro k hk h; rcases h with h | h | h | h <;> first | omega | exact Or.inl ⟨(by have hb := HBR.out k h; omega), ⟨rfl, Or.inl h⟩⟩), (fun _ => rfl), ?_⟩
  intro u3_1 hr
  have zu3_1 := hr.size
  have Hx17 := hid ((qwr.widen (R' := (fun k => (R k) ∨ (New u1_0 u1_1a k) ∨ (New u1_1 u1_2a k) ∨ (New u2_0 u2_1a k) ∨ (New u3_0 u3_1a k))) (by intro k h1; simp only [or_assoc] at h1 ⊢; exact h1) (Nat.le_refl _)).mod hr (by intro k h1 h2; rcases h1 with h1 | h1 | h1 | h1 | h1 <;> first | omega | (have hb := HBR.out k h1; omega)))
  have Cx18 := hid (Cx15.out.goM hm hr (fun _ _ h => h))
  clear Cx15 hm hr Z act E qwr Hx16
  refine QChain.nil fun vs hl hzz hrows hne => ?_
  obtain ⟨Z, hYZ, hZb, hV⟩ := hzz
  have f0 := fvi hV hl 0
  have f3 := fvi hV hl 3
  rw [show vs = [gw vs 0, gw vs 1, gw vs 2, gw vs 3] from (gw_eta hl).trans rfl]
  have ha0 := HA0.out
  subst ha0
  clear HA0 hV hYZ hZb hsz0 hrows hne oe0 oe3
  simp only [putAll, Act.put, List.setIfInBounds_toArray, List.set_cons_zero, List.set_cons_succ, f0, f3]
  clear hl f0 f3
  go_upto_region 4 with (fail)
  generalize ha0 : Act.mk _ _ = a0
  have oe0 : a0.eval (.tmp 0) = .pointer (some ⟨g, 0, none⟩) := by rw [← ha0]; rfl
  have oe3 : a0.eval (.tmp 3) = .pointer (some ⟨w.heap.size, 0, none⟩) := by rw [← ha0]; rfl
  have hsz0 : a0.tmps.size = 23 := by rw [← ha0]; rfl
  have HA0 := hid ha0
  clear ha0
  refine wp_region_Q1 23 hsz0 [19, 20, 21, 22] (fun k => (R k) ∨ (New u1_0 u1_1a k) ∨ (New u1_1 u1_2a k) ∨ (New u2_0 u2_1a k) ∨ (New u3_0 u3_1a k)) (fun k j => (k = 0 ∧ ((R j) ∨ (New u1_0 u1_1a j) ∨ (New u1_1 u1_2a j) ∨ (New u2_0 u2_1a j) ∨ (New u3_0 u3_1a j)))) (fun _ _ h => h.2) [qi (.pointer (some ⟨g, 0, none⟩)), qi (.pointer (some ⟨w.heap.size, 4, none⟩)), qi (v_ts), qi (.tuple #[])] ⟨qi_stable, qi_stable, qi_stable, qi_stable, trivial⟩ [3] ⟨?_, ?_, ?_, ?_, trivial⟩ ?_
  · exact stq (fun E => ex_move rfl (E.v oe0))
  · exact stq (fun E => ex_field rfl Try.underlying60 rfl (by kernel_rfl) (E.v oe3))
  · exact stq (fun E => ex_load1 rfl Try.underlying58 rfl (E.d 1) (Cs.lit1 ((((HB3.out.mod Cx10.out (by intro h2; first | omega | (have hb := HBR.out _ h2; omega))).mod Cx14.out (by intro h2; rcases h2 with h2 | h2 | h2 <;> first | omega | (have hb := HBR.out _ h2; omega))).mod Cx18.out (by intro h2; rcases h2 with h2 | h2 | h2 | h2 <;> first | omega | (have hb := HBR.out _ h2; omega))).mod E.m (by intro h2; rcases h2 with ⟨h0, h2 | h2 | h2 | h2 | h2⟩ | h2 <;> first | omega | (have hb := HBR.out _ h2; omega))) rfl))
  · exact stepq_chain rfl
  intro u4_0 hr
  have zu4_0 := hr.size
  have Cx19 := hid (hr.new (S := (fun k => (R k) ∨ (New u1_0 u1_1a k) ∨ (New u1_1 u1_2a k) ∨ (New u2_0 u2_1a k) ∨ (New u3_0 u3_1a k))))
  have Hx20 := hid (Hx17.out.mod hr (by intro k h1 h2; rcases h1 with h1 | h1 | h1 | h1 | h1 <;> first | omega | (have hb := HBR.out k h1; omega)))
  clear Hx17
  clear hr
  refine QChain.go fun Z act E => ?_
  refine qc_callF (args := #[.pointer (some ⟨g, 0, none⟩), v_ts, .func (.func 134) #[] #[]]) rfl (wanted_none rfl) rfl Try.func133 (args3 (E.d 0) (E.d 2) rfl) (PutList_Tb _ _ _ _ _ _ _ Hx20.out (by intro k h1; rcases h1 with h1 | h1 | h1 | h1 | h1 <;> first | omega | (have hb := HBR.out k h1; omega)) ((((Hx4.out.mod Cx10.out (by intro k h1 h2; first | omega | (have hb := HBT.out k h1; omega) | (have hb := HBR.out k h2; omega) | exact HDJ.out k h1 h2 | exact HDJ.out k h2 h1 | (have hb := HBT.out k h1; have hb2 := HBR.out k h2; omega))).mod Cx14.out (by intro k h1 h2; rcases h2 with h2 | h2 | h2 <;> first | omega | (have hb := HBT.out k h1; omega) | (have hb := HBR.out k h2; omega) | exact HDJ.out k h1 h2 | exact HDJ.out k h2 h1 | (have hb := HBT.out k h1; have hb2 := HBR.out k h2; omega))).mod Cx18.out (by intro k h1 h2; rcases h2 with h2 | h2 | h2 | h2 <;> first | omega | (have hb := HBT.out k h1; omega) | (have hb := HBR.out k h2; omega) | exact HDJ.out k h1 h2 | exact HDJ.out k h2 h1 | (have hb := HBT.out k h1; have hb2 := HBR.out k h2; omega))).mod Cx19.out (by intro k h1 h2; rcases h2 with h2 | h2 | h2 | h2 | h2 <;> first | omega | (have hb := HBT.out k h1; omega) | (have hb := HBR.out k h2; omega) | exact HDJ.out k h1 h2 | exact HDJ.out k h2 h1 | (have hb := HBT.out k h1; have hb2 := HBR.out k h2; omega))) (by intro k h1; have hb := HBT.out k h1; omega) (by intro k h1 h2; rcases h1 with h1 | h1 | h1 | h1 | h1 <;> first | omega | (have hb := HBR.out k h1; omega) | (have hb := HBT.out k h2; omega) | exact HDJ.out k h1 h2 | exact HDJ.out k h2 h1 | (have hb := HBR.out k h1; have hb2 := HBT.out k h2; omega)) (by have := HL.out; simp only [List.length_append] at this ⊢; omega)) ?_
  rintro e u4_1a ⟨rfl, qwr, hm⟩
  have zu4_1a := hm.size
  refine ⟨_, rfl, hm.mono (by intro k hk h; rcases h with h | h | h | h | h <;> first | omega | exact Or.inl ⟨(by have hb := HBR.out k h; omega), ⟨rfl, Or.inl h⟩⟩), (fun _ => rfl), ?_⟩
  intro u4_1 hr
  have zu4_1 := hr.size
  have Hx21 := hid ((qwr.widen (R' := (fun k => (R k) ∨ (New u1_0 u1_1a k) ∨ (New u1_1 u1_2a k) ∨ (New u2_0 u2_1a k) ∨ (New u3_0 u3_1a k) ∨ (New u4_0 u4_1a k))) (by intro k h1; simp only [or_assoc] at h1 ⊢; exact h1) (Nat.le_refl _)).mod hr (by intro k h1 h2; rcases h1 with h1 | h1 | h1 | h1 | h1 | h1 <;> first | omega | (have hb := HBR.out k h1; omega)))
  have Cx22 := hid (Cx19.out.goM hm hr (fun _ _ h => h))
  clear Cx19 hm hr Z act E qwr Hx20
  refine QChain.nil fun vs hl hzz hrows hne => ?_
  obtain ⟨Z, hYZ, hZb, hV⟩ := hzz
  have f0 := fvi hV hl 0
  have f3 := fvi hV hl 3
  rw [show vs = [gw vs 0, gw vs 1, gw vs 2, gw vs 3] from (gw_eta hl).trans rfl]
  have ha0 := HA0.out
  subst ha0
  clear HA0 hV hYZ hZb hsz0 hrows hne oe0 oe3
  simp only [putAll, Act.put, List.setIfInBounds_toArray, List.set_cons_zero, List.set_cons_succ, f0, f3]
  clear hl f0 f3
  go_wp2
  go_end0
  have hq := (Hx21.out.widen (R' := (fun k => R k ∨ New w u4_1 k)) (by intro k h1; rcases h1 with h1 | h1 | h1 | h1 | h1 | h1 <;> first | exact Or.inl h1 | (right; omega)) (Nat.le_refl _))
  simp only [List.append_assoc] at hq
  exact ⟨rfl, by simpa only [baB, List.append_assoc] using hq, ((((HM0.out.trans Cx10.out (fun _ _ h => h)).trans Cx14.out (by intro k h1 h2; rcases h2 with h2 | h2 | h2 <;> first | exact h2 | omega | (have hb := HBR.out k h2; omega))).trans Cx18.out (by intro k h1 h2; rcases h2 with h2 | h2 | h2 | h2 <;> first | exact h2 | omega | (have hb := HBR.out k h2; omega))).trans Cx22.out (by intro k h1 h2; rcases h2 with h2 | h2 | h2 | h2 | h2 <;> first | exact h2 | omega | (have hb := HBR.out k h2; omega)))⟩
end Go.Proofs.Ytknpapcfhnhheaa

/- Package wire: the texts that are signed, a batch's hash. -/
set_option maxRecDepth 100000
set_option linter.unusedVariables false
namespace Go.Proofs.Ytknpapcfhnhheaa
open Go Go.RowKit Go.Gv


def Hashes {α : Type} (A : Rep α) (F : FuncId) (f : α → List Int) : Prop := ∀ (R2 : Nat → Prop) (cs : List Value) (x : α) (w : World), A.rd R2 w cs x → (∀ k, R2 k → k < w.heap.size) → (f x).length ≤ 900000 →
  Calls Try.prog F #[.agg cs.toArray] w fun e w' => e = .returned (hv (shaF (f x))) ∧ Mod (fun _ => False) w w'
end Go.Proofs.Ytknpapcfhnhheaa

/- The reference's bytes of small things. -/
set_option maxRecDepth 100000
set_option linter.unusedVariables false
namespace Go.Proofs.Ytknpapcfhnhheaa
open Go Go.RowKit Go.Gv


theorem encI_len0 (n : Int) (h : I64 n) : (encI n).length ≤ 10 := (encI_len n h.2).2
end Go.Proofs.Ytknpapcfhnhheaa

/- The reference's bytes of certificates, promises, batches; its texts. -/
set_option maxRecDepth 100000
set_option linter.unusedVariables false
namespace Go.Proofs.Ytknpapcfhnhheaa
open Go Go.RowKit Go.Gv

end Go.Proofs.Ytknpapcfhnhheaa

/- The reference's bytes of promises and batches. -/
set_option maxRecDepth 100000
set_option linter.unusedVariables false
namespace Go.Proofs.Ytknpapcfhnhheaa
open Go Go.RowKit Go.Gv

end Go.Proofs.Ytknpapcfhnhheaa

/- gavellaw02.wakes; bytes.Compare; sha.Less. -/
set_option maxRecDepth 100000
set_option linter.unusedVariables false
namespace Go.Proofs.Ytknpapcfhnhheaa
open Go Go.RowKit Go.Gv

end Go.Proofs.Ytknpapcfhnhheaa

/- gavelref01.turn; gavelref01.Sum: the same plain sum. -/
set_option maxRecDepth 100000
set_option linter.unusedVariables false
namespace Go.Proofs.Ytknpapcfhnhheaa
open Go Go.RowKit Go.Gv

end Go.Proofs.Ytknpapcfhnhheaa

/- As XVal3; besides: a slot that an operation reads ahead of the one that writes it. No program here. -/
set_option linter.unusedVariables false
namespace Go.Gv
open Go Go.RowKit

section
variable {P : Program} {ops : Array Oper} {Q : Exit → Act → World → Prop}
end
end Go.Gv

/- gavelref01.Sum: the same plain sum. -/
set_option maxRecDepth 100000
set_option linter.unusedVariables false
namespace Go.Proofs.Ytknpapcfhnhheaa
open Go Go.RowKit Go.Gv

structure RefO (w0 : World) (gk gh : Nat) (h : List Int) (w : World) : Prop where
  k2 : Cs w w0.heap.size ((List.replicate 32 0).map bv).toArray 25
  kk : Ws 171 w gk K256
  kh : Ws 170 w gh h
  m : Mod (fun _ => False) w0 w
theorem RefO.mod {S : Nat → Prop} {w0 w w' : World} {gk gh : Nat} {h : List Int} (o : RefO w0 gk gh h w) (hm : Mod S w w') (h1 : ¬ S w0.heap.size) (h2 : ¬ S gk) (h3 : ¬ S gh) (h4 : ∀ k, k < w0.heap.size → ¬ S k) : RefO w0 gk gh h w' :=
  ⟨o.k2.mod hm h1, o.kk.mod hm h2, o.kh.mod hm h3, o.m.trans hm (fun k hk hs => h4 k hk hs)⟩
theorem RefO.still {w0 w w' : World} {gk gh : Nat} {h : List Int} (o : RefO w0 gk gh h w) (hm : Mod (fun _ => False) w w') : RefO w0 gk gh h w' := o.mod hm (fun h => h) (fun h => h) (fun h => h) (fun _ _ h => h)
end Go.Proofs.Ytknpapcfhnhheaa

/- The reference's hash of a batch, text of a proposal. -/
set_option maxRecDepth 100000
set_option linter.unusedVariables false
namespace Go.Proofs.Ytknpapcfhnhheaa
open Go Go.RowKit Go.Gv

end Go.Proofs.Ytknpapcfhnhheaa

/- How long bytes are; lists of values. -/
set_option maxRecDepth 100000
set_option linter.unusedVariables false
namespace Go.Proofs.Ytknpapcfhnhheaa
open Go Go.RowKit Go.Gv


theorem RdS_mem {α : Type} {A : Rep α} {R : Nat → Prop} {w : World} {v : Value} {l : List α} (h : RdS A R w v l) : ∀ a ∈ l, ∃ cs, A.rd R w cs a := by
  obtain ⟨css, h1, h2, -⟩ := h
  intro a ha
  obtain ⟨i, hi, rfl⟩ := List.getElem_of_mem ha
  exact ⟨css[i], h2 i _ _ (List.getElem?_eq_getElem (by omega)) (List.getElem?_eq_getElem hi)⟩
theorem flatB_le {α : Type} (f : α → List Int) (N : Nat) : ∀ l : List α, (∀ a ∈ l, (f a).length ≤ N) → ((l.map f).flatten).length ≤ l.length * N
  | [], _ => by simp
  | a :: r, h => by
    have h1 := h a (by simp)
    have h2 := flatB_le f N r (fun b hb => h b (by simp [hb]))
    simp only [List.map_cons, List.flatten_cons, List.length_append, List.length_cons, Nat.add_mul]
    omega
theorem listB_len {α : Type} (f : α → List Int) {N M : Nat} {l : List α} (hl : l.length ≤ M) (hM : M ≤ 1000000) (h : ∀ a ∈ l, (f a).length ≤ N) : (listB f l).length ≤ 10 + M * N := by
  have h1 := flatB_le f N l h
  have h2 := encI_len0 (l.length : Int) (by unfold I64; omega)
  have h3 := Nat.mul_le_mul_right N hl
  simp only [listB, List.length_append]
  omega
theorem stB_len {x : St} (h : x.OK) : (stB x).length ≤ 92 := by
  have h1 := encI_len0 _ h.rp; have h2 := encI_len0 _ h.cl; have h3 := encI_len0 _ h.sq; have h4 := (encN_len10 h.tm).2; have h5 := encI_len0 _ h.sb; have h6 := encI_len0 _ h.mr; have h7 := h.h.1
  simp only [stB, nameB, sigB, List.length_append]; omega
theorem cmB_len {x : Cm} (h : x.OK) : (cmB x).length ≤ 82 := by
  obtain ⟨⟨a, b, c, d, e⟩, f⟩ := h
  have h1 := encI_len0 _ a; have h2 := encI_len0 _ b; have h3 := encI_len0 _ c; have h4 := encI_len0 _ d; have h5 := encI_len0 _ e; have h7 := f.1
  simp only [cmB, nameB, sigB, List.length_append]; omega
theorem ceB_len {R : Nat → Prop} {w : World} {cs : List Value} {x : Ce} (h : CeR.rd R w cs x) (hl : x.l.length ≤ 5) : (ceB x).length ≤ 552 := by
  obtain ⟨_, rfl, hok, hs⟩ := h
  have h1 := listB_len stB hl (by decide) (fun a ha => by obtain ⟨cs, e, hk⟩ := RdS_mem hs a ha; exact stB_len hk)
  have h2 := cmB_len hok
  simp only [ceB, List.length_append]; omega
theorem pmB_len {R : Nat → Prop} {w : World} {cs : List Value} {x : Pm} (h : PmR.rd R w cs x) (hl : ∃ y, x = cutPm y) : (pmB x).length ≤ 1800 := by
  obtain ⟨y, rfl⟩ := hl
  obtain ⟨_, rfl, ⟨a, b, c, d, e⟩, hs⟩ := h
  have h1 := encI_len0 _ a; have h2 := encI_len0 _ b; have h3 := (encN_len10 c).2; have h4 := encI_len0 _ d; have h5 := encI_len0 _ e
  have h6 := listB_len ceB (M := 3) (show (cutPm y).l.length ≤ 3 by simp [cutPm]; omega) (by decide) (fun z hz => by
    obtain ⟨cs, hc⟩ := RdS_mem hs z hz
    refine ceB_len hc ?_
    obtain ⟨u, -, rfl⟩ := List.mem_map.1 hz
    simp [cutCe]; omega)
  simp only [pmB, sigB, List.length_append]; omega
theorem opB_len {R : Nat → Prop} {w : World} {cs : List Value} {x : Op} (h : OpR.rd R w cs x) (hl : x.pl.length ≤ 260) : (opB x).length ≤ 312 := by
  obtain ⟨_, rfl, ⟨a, b⟩, hs⟩ := h
  have h1 := encI_len0 _ a; have h2 := (encN_len10 (n := x.pl.length) (by unfold U64; omega)).2; have h3 := b.1
  simp only [opB, List.length_append]; omega
theorem dnB_len {x : Dn} (h : x.OK) : (dnB x).length ≤ 40 := by
  have h1 := encI_len0 _ h.rp; have h2 := encI_len0 _ h.ix; have h5 := encI_len0 _ h.sb; have h6 := encI_len0 _ h.mr
  simp only [dnB, sigB, List.length_append]; omega
theorem tbB_len {R : Nat → Prop} {w : World} {cs : List Value} {x : Tb} (h : TbR.rd R w cs x) (hl : x.l.length ≤ 5) : (tbB x).length ≤ 220 := by
  obtain ⟨_, rfl, a, hs⟩ := h
  have h1 := encI_len0 _ a
  have h2 := listB_len dnB hl (by decide) (fun z hz => by obtain ⟨cs, e, hk⟩ := RdS_mem hs z hz; exact dnB_len hk)
  simp only [tbB, List.length_append]; omega
theorem baB_len {R : Nat → Prop} {w : World} {x : Ba} {vp vo vt : Value} (hok : x.OK) (hp : RdS PmR R w vp (cutBa x).ps) (ho : RdS OpR R w vo (cutBa x).os) (ht : RdS TbR R w vt (cutBa x).ts) : (baB (cutBa x)).length ≤ 100000 := by
  have h1 := encI_len0 _ hok.1; have h2 := (encN_len10 hok.2).2
  have h3 := listB_len pmB (M := 4) (l := (cutBa x).ps) (by simp [cutBa]; omega) (by decide) (fun z hz => by
    obtain ⟨cs, hc⟩ := RdS_mem hp z hz
    obtain ⟨u, -, rfl⟩ := List.mem_map.1 hz
    exact pmB_len hc ⟨u, rfl⟩)
  have h4 := listB_len opB (M := 4) (l := (cutBa x).os) (by simp [cutBa]; omega) (by decide) (fun z hz => by
    obtain ⟨cs, hc⟩ := RdS_mem ho z hz
    obtain ⟨u, -, rfl⟩ := List.mem_map.1 hz
    exact opB_len hc (by simp [cutOp]; omega))
  have h5 := listB_len tbB (M := 4) (l := (cutBa x).ts) (by simp [cutBa]; omega) (by decide) (fun z hz => by
    obtain ⟨cs, hc⟩ := RdS_mem ht z hz
    obtain ⟨u, -, rfl⟩ := List.mem_map.1 hz
    exact tbB_len hc (by simp [cutTb]; omega))
  have e1 : (encI (cutBa x).ep).length ≤ 10 := h1
  have e2 : (encN (cutBa x).tm).length ≤ 10 := h2
  simp only [baB, List.length_append]; omega
end Go.Proofs.Ytknpapcfhnhheaa

/- Things that were cut and made not too great: within the reader's bounds, of few bytes. No walk here. -/
set_option maxRecDepth 100000
set_option linter.unusedVariables false
namespace Go.Proofs.Ytknpapcfhnhheaa
open Go Go.RowKit Go.Gv

theorem upn_U (n : Int) : UpI (upn n) := by have := upn_range n; unfold UpI; omega
theorem StOk_nic {x : St} (h : (nicSt x).OK) : StOk (nicSt x) := ⟨upn_U _, upn_U _, upn_U _, h.h, h.tm, upn_U _, upn_U _⟩
theorem DnOk_nic (x : Dn) : DnOk (nicDn x) := ⟨upn_U _, upn_U _, upn_U _, upn_U _⟩
section
variable {R : Nat → Prop} {w : World} {cs : List Value}
theorem CeOk_nic {x : Ce} (h : CeR.rd R w cs (nicCe (cutCe x))) : CeOk (nicCe (cutCe x)) := by
  obtain ⟨v, rfl, hok, hs⟩ := h
  refine ⟨⟨upn_U _, upn_U _, hok.2, upn_U _, upn_U _, upn_U _⟩, ?_, fun a ha => ?_⟩
  · simp only [nicCe, cutCe, List.length_map, List.length_take]; omega
  · obtain ⟨c, -, hc⟩ := RdS_mem hs a ha
    simp only [nicCe, cutCe, List.mem_map] at ha
    obtain ⟨b, -, rfl⟩ := ha
    exact StOk_nic hc
theorem PmOk_nic {x : Pm} (h : PmR.rd R w cs (nicPm (cutPm x))) : PmOk (nicPm (cutPm x)) := by
  obtain ⟨v, rfl, hok, hs⟩ := h
  refine ⟨upn_U _, upn_U _, hok.2.2.1, ⟨?_, fun a ha => ?_⟩, upn_U _, upn_U _⟩
  · simp only [nicPm, cutPm, List.length_map, List.length_take]; omega
  · obtain ⟨c, hc⟩ := RdS_mem hs a ha
    simp only [nicPm, cutPm, List.mem_map] at ha
    obtain ⟨b, ⟨b2, -, rfl⟩, rfl⟩ := ha
    exact CeOk_nic hc
theorem BaOk_nic {x : Ba} (h : BaR.rd R w cs (nicBa (cutBa x))) : BaOk (nicBa (cutBa x)) := by
  obtain ⟨v1, v2, v3, rfl, hok, h1, h2, h3⟩ := h
  refine ⟨upn_U _, hok.2, ⟨?_, fun a ha => ?_⟩, ⟨?_, fun a ha => ?_⟩, ⟨?_, fun a ha => ?_⟩⟩
  · simp only [nicBa, cutBa, List.length_map, List.length_take]; omega
  · obtain ⟨c, hc⟩ := RdS_mem h1 a ha
    simp only [nicBa, cutBa, List.mem_map] at ha
    obtain ⟨b, ⟨b2, -, rfl⟩, rfl⟩ := ha
    exact PmOk_nic hc
  · simp only [nicBa, cutBa, List.length_map, List.length_take]; omega
  · obtain ⟨c, v, -, hc, -⟩ := RdS_mem h2 a ha
    simp only [nicBa, cutBa, List.mem_map] at ha
    obtain ⟨b, ⟨b2, -, rfl⟩, rfl⟩ := ha
    exact ⟨upn_U _, by simp only [nicOp, List.length_take]; omega, hc.2⟩
  · simp only [nicBa, cutBa, List.length_map, List.length_take]; omega
  · obtain ⟨c, v, -, hc, -⟩ := RdS_mem h3 a ha
    simp only [nicBa, cutBa, List.mem_map] at ha
    obtain ⟨b, ⟨b2, -, rfl⟩, rfl⟩ := ha
    refine ⟨upn_U _, ?_, fun a ha => ?_⟩
    · simp only [nicTb, cutTb, List.length_map, List.length_take]; omega
    · simp only [nicTb, cutTb, List.mem_map] at ha
      obtain ⟨b, -, rfl⟩ := ha
      exact DnOk_nic b
/-- what is cut and not too great is cut -/
theorem cutCe_nic (x : Ce) : cutCe (nicCe (cutCe x)) = nicCe (cutCe x) := by
  simp only [cutCe, nicCe, ← List.map_take, List.take_take, Nat.min_self]
theorem cutPm_nic (x : Pm) : cutPm (nicPm (cutPm x)) = nicPm (cutPm x) := by
  have h1 : ∀ l : List Ce, (((l.take 3).map cutCe).map nicCe).map cutCe = ((l.take 3).map cutCe).map nicCe := fun l => by
    simp only [List.map_map]
    exact List.map_congr_left fun a _ => cutCe_nic a
  have e1 : ((nicPm (cutPm x)).l.take 3).map cutCe = (nicPm (cutPm x)).l := by
    show ((((x.l.take 3).map cutCe).map nicCe).take 3).map cutCe = ((x.l.take 3).map cutCe).map nicCe
    rw [List.take_of_length_le (by simp only [List.length_map, List.length_take]; omega), h1]
  show Pm.mk _ _ _ _ _ _ = Pm.mk _ _ _ _ _ _
  rw [e1]
  rfl
theorem ceB_nic {x : Ce} (h : CeR.rd R w cs (nicCe (cutCe x))) : (ceB (nicCe (cutCe x))).length ≤ 552 := ceB_len h (by simp only [nicCe, cutCe, List.length_map, List.length_take]; omega)
theorem pmB_nic {x : Pm} (h : PmR.rd R w cs (nicPm (cutPm x))) : (pmB (nicPm (cutPm x))).length ≤ 1800 := pmB_len h ⟨_, (cutPm_nic x).symm⟩
theorem cutBa_nic (x : Ba) : cutBa (nicBa (cutBa x)) = nicBa (cutBa x) := by
  have h1 : ∀ l : List Pm, (((l.take 4).map cutPm).map nicPm).map cutPm = ((l.take 4).map cutPm).map nicPm := fun l => by
    simp only [List.map_map]
    exact List.map_congr_left fun a _ => cutPm_nic a
  have h2 : ∀ l : List Op, (((l.take 4).map cutOp).map nicOp).map cutOp = ((l.take 4).map cutOp).map nicOp := fun l => by
    simp only [List.map_map]
    refine List.map_congr_left fun a _ => ?_
    show cutOp (nicOp (cutOp a)) = nicOp (cutOp a)
    simp only [cutOp, nicOp, List.take_take]
    rfl
  have h3 : ∀ l : List Tb, (((l.take 4).map cutTb).map nicTb).map cutTb = ((l.take 4).map cutTb).map nicTb := fun l => by
    simp only [List.map_map]
    refine List.map_congr_left fun a _ => ?_
    show cutTb (nicTb (cutTb a)) = nicTb (cutTb a)
    simp only [cutTb, nicTb, ← List.map_take, List.take_take, Nat.min_self]
  show Ba.mk _ _ _ _ _ = Ba.mk _ _ _ _ _
  have e1 : ((nicBa (cutBa x)).ps.take 4).map cutPm = (nicBa (cutBa x)).ps := by
    show ((((x.ps.take 4).map cutPm).map nicPm).take 4).map cutPm = ((x.ps.take 4).map cutPm).map nicPm
    rw [List.take_of_length_le (by simp only [List.length_map, List.length_take]; omega), h1]
  have e2 : ((nicBa (cutBa x)).os.take 4).map cutOp = (nicBa (cutBa x)).os := by
    show ((((x.os.take 4).map cutOp).map nicOp).take 4).map cutOp = ((x.os.take 4).map cutOp).map nicOp
    rw [List.take_of_length_le (by simp only [List.length_map, List.length_take]; omega), h2]
  have e3 : ((nicBa (cutBa x)).ts.take 4).map cutTb = (nicBa (cutBa x)).ts := by
    show ((((x.ts.take 4).map cutTb).map nicTb).take 4).map cutTb = ((x.ts.take 4).map cutTb).map nicTb
    rw [List.take_of_length_le (by simp only [List.length_map, List.length_take]; omega), h3]
  rw [e1, e2, e3]
  rfl
theorem baB_nic {x : Ba} (h : BaR.rd R w cs (nicBa (cutBa x))) : (baB (nicBa (cutBa x))).length ≤ 100000 := by
  obtain ⟨v1, v2, v3, rfl, hok, h1, h2, h3⟩ := h
  have := baB_len (x := nicBa (cutBa x)) hok (by rw [cutBa_nic]; exact h1) (by rw [cutBa_nic]; exact h2) (by rw [cutBa_nic]; exact h3)
  rwa [cutBa_nic] at this
/-- few things, before they are made not too great -/
theorem few_Ce (x : Ce) : fewCe (cutCe x) := by unfold fewCe; simp only [cutCe, List.length_take]; omega
theorem few_Pm (x : Pm) : fewPm (cutPm x) := by
  refine ⟨by simp only [cutPm, List.length_map, List.length_take]; omega, fun y hy => ?_⟩
  simp only [cutPm, List.mem_map] at hy
  obtain ⟨b, -, rfl⟩ := hy
  exact few_Ce b
theorem few_Ba (x : Ba) : fewBa (cutBa x) := by
  refine ⟨by simp only [cutBa, List.length_map, List.length_take]; omega, fun y hy => ?_, by simp only [cutBa, List.length_map, List.length_take]; omega, by simp only [cutBa, List.length_map, List.length_take]; omega, fun y hy => ?_⟩
  · simp only [cutBa, List.mem_map] at hy
    obtain ⟨b, -, rfl⟩ := hy
    exact few_Pm b
  · simp only [cutBa, List.mem_map] at hy
    obtain ⟨b, -, rfl⟩ := hy
    simp only [cutTb, List.length_take]; omega
end
/-- what was put is read -/
theorem read_back {x : Ce} {p : Pm} {b : Ba} {t : List Int} (hx : CeOk x) (hp : PmOk p) (hb : BaOk b) :
    gCe (some (ceB x ++ (pmB p ++ (baB b ++ t)))) = (x, some (pmB p ++ (baB b ++ t))) ∧ gPm (some (pmB p ++ (baB b ++ t))) = (p, some (baB b ++ t)) ∧ gBa (some (baB b ++ t)) = (b, some t) :=
  ⟨gCe_ed _ _ hx, gPm_ed _ _ hp, gBa_ed _ _ hb⟩
end Go.Proofs.Ytknpapcfhnhheaa

/- wire.PutCert, PutPromise, PutBatch. -/
set_option maxRecDepth 100000
set_option linter.unusedVariables false
namespace Go.Proofs.Ytknpapcfhnhheaa
open Go Go.RowKit Go.Gv

set_option maxHeartbeats 2000000 in
theorem WPutCe_Q : Puts CeR 45 ceB := by
  intro R R2 g bs cs x w hW hB hx hB2 hD hl
  have HRDX := Lib.hid hx
  obtain ⟨v_l, rfl, hok, hs0⟩ := hx
  have HS0 := Lib.hid hs0
  clear hs0
  have HW := Lib.hid hW
  have HBR := Lib.hid hB
  have HBT := Lib.hid hB2
  have HDJ := Lib.hid hD
  have HOK := Lib.hid hok
  have HL := Lib.hid hl
  clear hW hB hB2 hD hl hok
  go_enter Try.func45, Try.ntmps45
  go_upto_region 1 with (fail)
  obtain ⟨w1, hw1⟩ : ∃ zz, zz = (w.alloc (.cells (x.cells v_l : List Value).toArray 52)) := ⟨_, rfl⟩
  change Code.wp _ _ _ _ (w.alloc (.cells (x.cells v_l : List Value).toArray 52))
  rw [← hw1]
  have HB3 := hid (show Cs w1 (w.heap.size) (x.cells v_l : List Value).toArray 52 by rw [hw1]; exact Cs.new _ _ _)
  have hm : Mod (fun _ => False) w w1 := by rw [hw1]; exact (Mod.refl _ _).alloc _
  have HM0 := hid (show Mod (fun k => (R k)) w w1 from hm.mono (fun _ _ h => h.elim))
  have hs1 : w1.heap.size = w.heap.size + 1 := by rw [hw1]; simp
  have Hx1 := hid (HW.out.mod hm (fun _ _ h => h))
  clear HW
  have Hx2 := hid (HS0.out.mod hm (fun _ _ h => h))
  clear HS0
  clear hw1 hm
  go_upto_region 1 with (fail)
  generalize ha0 : Act.mk _ _ = a0
  have oe0 : a0.eval (.tmp 0) = .pointer (some ⟨g, 0, none⟩) := by rw [← ha0]; rfl
  have oe3 : a0.eval (.tmp 3) = .pointer (some ⟨w.heap.size, 0, none⟩) := by rw [← ha0]; rfl
  have hsz0 : a0.tmps.size = 7 := by rw [← ha0]; rfl
  have HA0 := hid ha0
  clear ha0
  refine wp_region_S 7 hsz0 [4, 5, 6] [0, 1, 2] ?_
  refine QSeq.pure rfl (.pointer (some ⟨g, 0, none⟩)) (fun E => ex_move rfl (E.v oe0)) ?_
  refine QSeq.pure rfl (.agg (x.cells v_l).toArray) (fun E => ex_loadA rfl Try.underlying52 rfl (off := 0) (cs := x.cells v_l) (by rw [CeR.len HRDX.out]; kernel_rfl) (E.v oe3) (Cs.whole HB3.out)) ?_
  refine QSeq.go fun act E => ?_
  refine qc_callF (args := #[.pointer (some ⟨g, 0, none⟩), .agg (x.cells v_l).toArray]) rfl (wanted_none rfl) rfl Try.func98 (args2 (E.d 0 1) (E.d 1 0)) (PutCe_Q _ R2 _ _ _ x _ Hx1.out (by intro k h1; have hb := HBR.out k h1; omega) ⟨_, rfl, HOK.out, Hx2.out⟩ (by intro k h1; have hb := HBT.out k h1; omega) (by intro k h1 h2; first | omega | (have hb := HBR.out k h1; omega) | (have hb := HBT.out k h2; omega) | exact HDJ.out k h1 h2 | exact HDJ.out k h2 h1 | (have hb := HBR.out k h1; have hb2 := HBT.out k h2; omega)) HL.out) ?_
  rintro e u1_2 ⟨rfl, qwr, hm⟩
  refine ⟨_, rfl, ?_⟩
  have Hx3 := hid (qwr.widen (R' := (fun k => (R k) ∨ (New w1 u1_2 k))) (fun _ h => h) (Nat.le_refl _))
  have zu1_2 := hm.size
  have Cx4 := hid (show Mod (fun k => (R k)) w1 u1_2 from hm)
  clear hm
  clear act E qwr Hx1
  refine QSeq.nil (t' := [_, _, _]) rfl ?_
  have ha0 := HA0.out
  subst ha0
  clear HA0 hsz0 oe0 oe3
  simp only [putAll, Act.put, List.setIfInBounds_toArray, List.set_cons_zero, List.set_cons_succ]
  go_wp2
  go_end0
  exact ⟨rfl, (Hx3.out.widen (R' := (fun k => R k ∨ New w u1_2 k)) (by intro k h1; rcases h1 with h1 | h1 <;> first | exact Or.inl h1 | (right; omega)) (Nat.le_refl _)), (HM0.out.trans Cx4.out (fun _ _ h => h))⟩
set_option maxHeartbeats 2000000 in
theorem WPutPm_Q : Puts PmR 46 pmB := by
  intro R R2 g bs cs x w hW hB hx hB2 hD hl
  have HRDX := Lib.hid hx
  obtain ⟨v_l, rfl, hok, hs0⟩ := hx
  have HS0 := Lib.hid hs0
  clear hs0
  have HW := Lib.hid hW
  have HBR := Lib.hid hB
  have HBT := Lib.hid hB2
  have HDJ := Lib.hid hD
  have HOK := Lib.hid hok
  have HL := Lib.hid hl
  clear hW hB hB2 hD hl hok
  go_enter Try.func46, Try.ntmps46
  go_upto_region 1 with (fail)
  obtain ⟨w1, hw1⟩ : ∃ zz, zz = (w.alloc (.cells (x.cells v_l : List Value).toArray 55)) := ⟨_, rfl⟩
  change Code.wp _ _ _ _ (w.alloc (.cells (x.cells v_l : List Value).toArray 55))
  rw [← hw1]
  have HB3 := hid (show Cs w1 (w.heap.size) (x.cells v_l : List Value).toArray 55 by rw [hw1]; exact Cs.new _ _ _)
  have hm : Mod (fun _ => False) w w1 := by rw [hw1]; exact (Mod.refl _ _).alloc _
  have HM0 := hid (show Mod (fun k => (R k)) w w1 from hm.mono (fun _ _ h => h.elim))
  have hs1 : w1.heap.size = w.heap.size + 1 := by rw [hw1]; simp
  have Hx1 := hid (HW.out.mod hm (fun _ _ h => h))
  clear HW
  have Hx2 := hid (HS0.out.mod hm (fun _ _ h => h))
  clear HS0
  clear hw1 hm
  go_upto_region 1 with (fail)
  generalize ha0 : Act.mk _ _ = a0
  have oe0 : a0.eval (.tmp 0) = .pointer (some ⟨g, 0, none⟩) := by rw [← ha0]; rfl
  have oe3 : a0.eval (.tmp 3) = .pointer (some ⟨w.heap.size, 0, none⟩) := by rw [← ha0]; rfl
  have hsz0 : a0.tmps.size = 7 := by rw [← ha0]; rfl
  have HA0 := hid ha0
  clear ha0
  refine wp_region_S 7 hsz0 [4, 5, 6] [0, 1, 2] ?_
  refine QSeq.pure rfl (.pointer (some ⟨g, 0, none⟩)) (fun E => ex_move rfl (E.v oe0)) ?_
  refine QSeq.pure rfl (.agg (x.cells v_l).toArray) (fun E => ex_loadA rfl Try.underlying55 rfl (off := 0) (cs := x.cells v_l) (by kernel_rfl) (E.v oe3) (Cs.whole HB3.out)) ?_
  refine QSeq.go fun act E => ?_
  refine qc_callF (args := #[.pointer (some ⟨g, 0, none⟩), .agg (x.cells v_l).toArray]) rfl (wanted_none rfl) rfl Try.func99 (args2 (E.d 0 1) (E.d 1 0)) (PutPm_Q _ R2 _ _ _ x _ Hx1.out (by intro k h1; have hb := HBR.out k h1; omega) ⟨_, rfl, HOK.out, Hx2.out⟩ (by intro k h1; have hb := HBT.out k h1; omega) (by intro k h1 h2; first | omega | (have hb := HBR.out k h1; omega) | (have hb := HBT.out k h2; omega) | exact HDJ.out k h1 h2 | exact HDJ.out k h2 h1 | (have hb := HBR.out k h1; have hb2 := HBT.out k h2; omega)) HL.out) ?_
  rintro e u1_2 ⟨rfl, qwr, hm⟩
  refine ⟨_, rfl, ?_⟩
  have Hx3 := hid (qwr.widen (R' := (fun k => (R k) ∨ (New w1 u1_2 k))) (fun _ h => h) (Nat.le_refl _))
  have zu1_2 := hm.size
  have Cx4 := hid (show Mod (fun k => (R k)) w1 u1_2 from hm)
  clear hm
  clear act E qwr Hx1
  refine QSeq.nil (t' := [_, _, _]) rfl ?_
  have ha0 := HA0.out
  subst ha0
  clear HA0 hsz0 oe0 oe3
  simp only [putAll, Act.put, List.setIfInBounds_toArray, List.set_cons_zero, List.set_cons_succ]
  go_wp2
  go_end0
  exact ⟨rfl, (Hx3.out.widen (R' := (fun k => R k ∨ New w u1_2 k)) (by intro k h1; rcases h1 with h1 | h1 <;> first | exact Or.inl h1 | (right; omega)) (Nat.le_refl _)), (HM0.out.trans Cx4.out (fun _ _ h => h))⟩
set_option maxHeartbeats 2000000 in
theorem WPutBa_Q : Puts BaR 47 baB := by
  intro R R2 g bs cs x w hW hB hx hB2 hD hl
  have HRDX := Lib.hid hx
  obtain ⟨v_ps, v_os, v_ts, rfl, hok, hs0, hs1, hs2⟩ := hx
  have HS0 := Lib.hid hs0
  clear hs0
  have HS1 := Lib.hid hs1
  clear hs1
  have HS2 := Lib.hid hs2
  clear hs2
  have HW := Lib.hid hW
  have HBR := Lib.hid hB
  have HBT := Lib.hid hB2
  have HDJ := Lib.hid hD
  have HOK := Lib.hid hok
  have HL := Lib.hid hl
  clear hW hB hB2 hD hl hok
  go_enter Try.func47, Try.ntmps47
  go_upto_region 1 with (fail)
  obtain ⟨w1, hw1⟩ : ∃ zz, zz = (w.alloc (.cells (x.cells v_ps v_os v_ts : List Value).toArray 60)) := ⟨_, rfl⟩
  change Code.wp _ _ _ _ (w.alloc (.cells (x.cells v_ps v_os v_ts : List Value).toArray 60))
  rw [← hw1]
  have HB3 := hid (show Cs w1 (w.heap.size) (x.cells v_ps v_os v_ts : List Value).toArray 60 by rw [hw1]; exact Cs.new _ _ _)
  have hm : Mod (fun _ => False) w w1 := by rw [hw1]; exact (Mod.refl _ _).alloc _
  have HM0 := hid (show Mod (fun k => (R k)) w w1 from hm.mono (fun _ _ h => h.elim))
  have hs1 : w1.heap.size = w.heap.size + 1 := by rw [hw1]; simp
  have Hx1 := hid (HW.out.mod hm (fun _ _ h => h))
  clear HW
  have Hx2 := hid (HS0.out.mod hm (fun _ _ h => h))
  clear HS0
  have Hx3 := hid (HS1.out.mod hm (fun _ _ h => h))
  clear HS1
  have Hx4 := hid (HS2.out.mod hm (fun _ _ h => h))
  clear HS2
  clear hw1 hm
  go_upto_region 1 with (fail)
  generalize ha0 : Act.mk _ _ = a0
  have oe0 : a0.eval (.tmp 0) = .pointer (some ⟨g, 0, none⟩) := by rw [← ha0]; rfl
  have oe3 : a0.eval (.tmp 3) = .pointer (some ⟨w.heap.size, 0, none⟩) := by rw [← ha0]; rfl
  have hsz0 : a0.tmps.size = 7 := by rw [← ha0]; rfl
  have HA0 := hid ha0
  clear ha0
  refine wp_region_S 7 hsz0 [4, 5, 6] [0, 1, 2] ?_
  refine QSeq.pure rfl (.pointer (some ⟨g, 0, none⟩)) (fun E => ex_move rfl (E.v oe0)) ?_
  refine QSeq.pure rfl (.agg (x.cells v_ps v_os v_ts).toArray) (fun E => ex_loadA rfl Try.underlying60 rfl (off := 0) (cs := x.cells v_ps v_os v_ts) (by kernel_rfl) (E.v oe3) (Cs.whole HB3.out)) ?_
  refine QSeq.go fun act E => ?_
  refine qc_callF (args := #[.pointer (some ⟨g, 0, none⟩), .agg (x.cells v_ps v_os v_ts).toArray]) rfl (wanted_none rfl) rfl Try.func95 (args2 (E.d 0 1) (E.d 1 0)) (PutBa_Q _ R2 _ _ _ x _ Hx1.out (by intro k h1; have hb := HBR.out k h1; omega) ⟨_, _, _, rfl, HOK.out, Hx2.out, Hx3.out, Hx4.out⟩ (by intro k h1; have hb := HBT.out k h1; omega) (by intro k h1 h2; first | omega | (have hb := HBR.out k h1; omega) | (have hb := HBT.out k h2; omega) | exact HDJ.out k h1 h2 | exact HDJ.out k h2 h1 | (have hb := HBR.out k h1; have hb2 := HBT.out k h2; omega)) HL.out) ?_
  rintro e u1_2 ⟨rfl, qwr, hm⟩
  refine ⟨_, rfl, ?_⟩
  have Hx5 := hid (qwr.widen (R' := (fun k => (R k) ∨ (New w1 u1_2 k))) (fun _ h => h) (Nat.le_refl _))
  have zu1_2 := hm.size
  have Cx6 := hid (show Mod (fun k => (R k)) w1 u1_2 from hm)
  clear hm
  clear act E qwr Hx1
  refine QSeq.nil (t' := [_, _, _]) rfl ?_
  have ha0 := HA0.out
  subst ha0
  clear HA0 hsz0 oe0 oe3
  simp only [putAll, Act.put, List.setIfInBounds_toArray, List.set_cons_zero, List.set_cons_succ]
  go_wp2
  go_end0
  exact ⟨rfl, (Hx5.out.widen (R' := (fun k => R k ∨ New w u1_2 k)) (by intro k h1; rcases h1 with h1 | h1 <;> first | exact Or.inl h1 | (right; omega)) (Nat.le_refl _)), (HM0.out.trans Cx6.out (fun _ _ h => h))⟩
end Go.Proofs.Ytknpapcfhnhheaa
